/- bound(): the tags. -/
import Derived.Test.YtlaakjlpfgfdkaaGreatDoorM3
import Derived.Below
namespace Go.Proofs.YtlaakjlpfgfdkaaGreatDoor
open Go
set_option linter.unusedVariables false
set_option linter.unusedSimpArgs false
open Nat renaming reduceAdd → nA, reduceSub → nB, reduceMul → nC, reduceLT → nD, reduceLeDiff → nE, reduceEqDiff → nF, reduceMod → nG, reduceDiv → nH, reducePow → nI
abbrev zM40 : Option Tmp → Nat := mdL [(11, 2)]
abbrev zM41 : Option Tmp → Nat := mdL [(5, 1)]
abbrev zM42 : Option Tmp → Nat := mdL [(43, 1)]
abbrev zM43 : Option Tmp → Nat := mdL [(6, 1), (8, 1), (11, 1)]
abbrev zM44 : Option Tmp → Nat := mdL [(7, 2), (8, 1)]
abbrev zM45 : Option Tmp → Nat := mdL [(4, 2), (6, 1), (8, 1), (9, 1)]
abbrev zM46 : Option Tmp → Nat := mdL [(6, 1), (8, 1)]
abbrev zM47 : Option Tmp → Nat := mdL [(6, 1), (11, 1)]
abbrev zM48 : Option Tmp → Nat := mdL [(5, 1), (9, 1)]
abbrev zM49 : Option Tmp → Nat := mdL [(6, 1)]
abbrev zM4A : Option Tmp → Nat := mdL [(28, 2)]
abbrev zM4B : Option Tmp → Nat := mdL [(14, 2)]
abbrev zM4C : Option Tmp → Nat := mdL [(21, 2)]
attribute [go_sem] zM40 zM41 zM42 zM43 zM44 zM45 zM46 zM47 zM48 zM49 zM4A zM4B zM4C
abbrev zP1QE : List Nat := [0, 1, 2, 3, 4, 5, 6]
abbrev zP1QP : List (Nat × List Nat × List Nat) := [(7, [4], [8]), (9, [], [10, 11]), (12, [], [])]
abbrev zP1RE : List Nat := [0, 1, 2, 3, 4, 5, 6, 7, 8, 9, 10]
abbrev zP1RP : List (Nat × List Nat × List Nat) := [(11, [], [12, 13]), (14, [], [])]
abbrev zP1SE : List Nat := [0, 1, 2, 3]
abbrev zP1SP : List (Nat × List Nat × List Nat) := [(4, [2], []), (5, [], [6, 7, 8]), (10, [], [11])]
attribute [go_sem] zP1QE zP1QP zP1RE zP1RP zP1SE zP1SP
set_option maxRecDepth 100000
set_option maxHeartbeats 8000000
theorem upd_sf {α : Type} (f : Nat → Option α) {i : Nat} {x : α} (e : f i = some x) : upd f i (some x) = f := by
 funext j
 by_cases ej : j = i
 ·rw [ej, upd_same, e]
 ·exact upd_other _ _ ej
theorem c_names1 (r k b1 : Nat) (i : Int) (x1 x2 x3 x4 x5 x6 x7 x8 x9 x10 x11 x12 x13 x14 x15 x16 x17 x18 x19 x20 : AV) (h : Hp) (hr : h.H r = some (.cells (rdB i k 1))) (hk : h.T k = some (.cont 1 [[.ptr b1 0]])) (hb1 : h.H b1 = some (.cells [vI 0, x1, x2, x3, x4, x5, x6, x7, x8, x9, x10, x11, x12, x13, x14, x15, x16, x17, x18, x19, x20])) :
  ACalls Tryz.prog 193 [.ptr r 0] h (fun x h' => x = nl ∧ h' = h) := by
 unfold rdB vS vI vB nl at *
 refine gE Tryz.func193 rfl (by kernel_rfl) 30 rfl fun c => ?_
 (repeat (first | refine gO rfl ?_ | (refine gR fun K1 hK1 => ?_; simp only [go_sem, ↓reduceIte, reduceCtorEq, nA, nB, nC, nD, nE, nF, Int.reduceBEq, Int.reduceTMod, Int.reduceTDiv, Int.reduceMul, Int.reduceBNe, Int.reduceLT, Int.reduceLE, Int.reduceAdd, Int.reduceSub, Int.reduceNeg, decide_true, decide_false, Bool.true_and, Bool.false_and, Bool.and_true, Bool.and_false, Bool.or_false, Bool.or_true, Bool.true_or, Bool.false_or, Bool.not_true, Bool.not_false, true_implies, false_implies, true_and, and_true, Int.reduceToNat, hr, hk, hb1, nc1] <;> and_intros <;> first | (apply hK1; clear hK1 K1) | (intros; first | omega | decide) | skip) | (refine awp_cond (t := _) rfl (fun hq => ?_) (fun hq => ?_) <;> first | (exact absurd hq (by decide)) | (cases hq; done) | (clear hq)) | (refine awp_un 8 ?_) | (with_reducible exact rfl) | (with_reducible exact trivial) | ((with_reducible show uside _); first | exact True.intro | exact rfl) | ((with_reducible show opS _ _); exact True.intro) | (refine ⟨AV.v (.bool true), rfl, hK1 _ ?_⟩; clear hK1 K1)))
 simp only [Tryz.results193, go_sem, ↓reduceIte, reduceCtorEq, nA, nB, nC, nD, nE, nF]
 exact ⟨_, _, Weak.refl _, Hp.le.refl _, rfl, rfl⟩
theorem c_names2 (r k b1 b2 : Nat) (i : Int) (x1 x2 x3 x4 x5 x6 x7 x8 x9 x10 x11 x12 x13 x14 x15 x16 x17 x18 x19 x20 y1 y2 y3 y4 y5 y6 y7 y8 y9 y10 y11 y12 y13 y14 y15 y16 y17 y18 y19 y20 : AV) (h : Hp) (hr : h.H r = some (.cells (rdB i k 2))) (hk : h.T k = some (.cont 1 [[.ptr b1 0], [.ptr b2 0]])) (hb1 : h.H b1 = some (.cells [vI 0, x1, x2, x3, x4, x5, x6, x7, x8, x9, x10, x11, x12, x13, x14, x15, x16, x17, x18, x19, x20])) (hb2 : h.H b2 = some (.cells [vI 2, y1, y2, y3, y4, y5, y6, y7, y8, y9, y10, y11, y12, y13, y14, y15, y16, y17, y18, y19, y20])) :
  ACalls Tryz.prog 193 [.ptr r 0] h (fun x h' => x = nl ∧ h' = h) := by
 unfold rdB vS vI vB nl at *
 refine gE Tryz.func193 rfl (by kernel_rfl) 30 rfl fun c => ?_
 (repeat (first | refine gO rfl ?_ | (refine gR fun K1 hK1 => ?_; simp only [go_sem, ↓reduceIte, reduceCtorEq, nA, nB, nC, nD, nE, nF, Int.reduceBEq, Int.reduceTMod, Int.reduceTDiv, Int.reduceMul, Int.reduceBNe, Int.reduceLT, Int.reduceLE, Int.reduceAdd, Int.reduceSub, Int.reduceNeg, decide_true, decide_false, Bool.true_and, Bool.false_and, Bool.and_true, Bool.and_false, Bool.or_false, Bool.or_true, Bool.true_or, Bool.false_or, Bool.not_true, Bool.not_false, true_implies, false_implies, true_and, and_true, Int.reduceToNat, hr, hk, hb1, hb2, nc2] <;> and_intros <;> first | (apply hK1; clear hK1 K1) | (intros; first | omega | decide) | skip) | (refine awp_cond (t := _) rfl (fun hq => ?_) (fun hq => ?_) <;> first | (exact absurd hq (by decide)) | (cases hq; done) | (clear hq)) | (refine awp_un 8 ?_) | (with_reducible exact rfl) | (with_reducible exact trivial) | ((with_reducible show uside _); first | exact True.intro | exact rfl) | ((with_reducible show opS _ _); exact True.intro) | (refine ⟨AV.v (.bool true), rfl, hK1 _ ?_⟩; clear hK1 K1)))
 simp only [Tryz.results193, go_sem, ↓reduceIte, reduceCtorEq, nA, nB, nC, nD, nE, nF]
 exact ⟨_, _, Weak.refl _, Hp.le.refl _, rfl, rfl⟩
theorem c_begin (r k b1 : Nat) (i : Int) (x0 x1 x2 x3 x4 x5 x6 x7 x8 x9 x10 x11 x12 x13 x14 x15 x16 x17 x18 : AV) (h : Hp) (hr : h.H r = some (.cells (rdB i k 1))) (hk : h.T k = some (.cont 1 [[.ptr b1 0]])) :
  ACalls Tryz.prog 194 [.ptr r 0, .agg [x0, x1, x2, x3, x4, x5, x6, x7, x8, x9, x10, x11, x12, x13, x14, x15, x16, x17, x18]] h (fun x h' => x = .tup [] ∧ ∃ b2, h.H b2 = none ∧ h'.H r = some (.cells (rdB i k 2)) ∧ h'.H b2 = some (.cells [x0, x1, x2, x3, x4, x5, x6, x7, x8, x9, x10, x11, x12, x13, x14, x15, x16, x17, x18, nl, vB false]) ∧ h'.T k = some (.cont 1 [[.ptr b1 0], [.ptr b2 0]]) ∧ (∀ j, j ≠ r → j ≠ b2 → h'.H j = h.H j) ∧ ∀ t, t ≠ k → h'.T t = h.T t) := by
 unfold rdB vS vI vB nl at *
 refine gE Tryz.func194 rfl (by kernel_rfl) 30 rfl fun c => ?_
 (repeat (first | refine gO rfl ?_ | ((first | refine gM zM40 ?_ | (with_reducible refine wM ?_ ?_) | ((with_reducible refine xS ?_); refine uD 1 zM40 zP1QE zP1QP 32 rfl (by kernel_rfl) ?_)) <;> ((try with_reducible intro K1 hK1); simp only [go_sem, ↓reduceIte, reduceCtorEq, nA, nB, nC, nD, nE, nF, Int.reduceBEq, Int.reduceTMod, Int.reduceTDiv, Int.reduceMul, Int.reduceBNe, Int.reduceLT, Int.reduceLE, Int.reduceAdd, Int.reduceSub, Int.reduceNeg, decide_true, decide_false, Bool.true_and, Bool.false_and, Bool.and_true, Bool.and_false, Bool.or_false, Bool.or_true, Bool.true_or, Bool.false_or, Bool.not_true, Bool.not_false, true_implies, false_implies, true_and, and_true, Int.reduceToNat, hr, hk, nc1] <;> and_intros <;> first | (apply hK1; clear hK1 K1) | (intros; first | omega | decide) | skip)) | (refine awp_cond (t := _) rfl (fun hq => ?_) (fun hq => ?_) <;> first | (exact absurd hq (by decide)) | (cases hq; done) | (clear hq)) | (refine awp_un 8 ?_) | (with_reducible exact rfl) | (with_reducible exact trivial) | ((with_reducible show uside _); first | exact True.intro | exact rfl) | ((with_reducible show opS _ _); exact True.intro) | (refine ⟨AV.v (.bool true), rfl, hK1 _ ?_⟩; clear hK1 K1)))
 intro b2 hb2
 refine hK1 _ ?_; clear hK1 K1
 have hrb : r ≠ b2 := by rintro rfl; rw [hr] at hb2; cases hb2
 have hor : ∀ o, upd h.H b2 o r = some (.cells [.v (.string sB), .v (.int .i64 i), .arr 1 k 1, .v (.bool false)]) := fun o => (upd_other _ _ hrb).trans hr
 (repeat (first | refine gO rfl ?_ | ((first | refine gM zM40 ?_ | (with_reducible refine wM ?_ ?_) | ((with_reducible refine xS ?_); refine uD 1 zM40 zP1QE zP1QP 32 rfl (by kernel_rfl) ?_)) <;> ((try with_reducible intro K1 hK1); simp only [go_sem, ↓reduceIte, reduceCtorEq, nA, nB, nC, nD, nE, nF, Int.reduceBEq, Int.reduceTMod, Int.reduceTDiv, Int.reduceMul, Int.reduceBNe, Int.reduceLT, Int.reduceLE, Int.reduceAdd, Int.reduceSub, Int.reduceNeg, decide_true, decide_false, Bool.true_and, Bool.false_and, Bool.and_true, Bool.and_false, Bool.or_false, Bool.or_true, Bool.true_or, Bool.false_or, Bool.not_true, Bool.not_false, true_implies, false_implies, true_and, and_true, Int.reduceToNat, hor, hk, nc1, nc2, upd_same, upd_upd] <;> and_intros <;> first | (apply hK1; clear hK1 K1) | (intros; first | omega | decide) | skip)) | (refine awp_cond (t := _) rfl (fun hq => ?_) (fun hq => ?_) <;> first | (exact absurd hq (by decide)) | (cases hq; done) | (clear hq)) | (refine awp_un 8 ?_) | (with_reducible exact rfl) | (with_reducible exact trivial) | ((with_reducible show uside _); first | exact True.intro | exact rfl) | ((with_reducible show opS _ _); exact True.intro) | (refine ⟨AV.v (.bool true), rfl, hK1 _ ?_⟩; clear hK1 K1)))
 simp only [Tryz.results194, go_sem, ↓reduceIte, reduceCtorEq, nA, nB, nC, nD, nE, nF]
 refine ⟨_, _, Weak.refl _, Hp.le.refl _, rfl, b2, hb2, upd_same _ _ _, (upd_other _ _ hrb.symm).trans (upd_same _ _ _), upd_same _ _ _, fun j h1 h2 => (upd_other _ _ h1).trans (upd_other _ _ h2), fun t h1 => upd_other _ _ h1⟩
theorem c_ifTag (r k b1 : Nat) (i : Int) (x1 x2 x3 x4 x5 x6 x7 x8 x9 x10 x11 x12 x13 x14 x15 x16 x17 x18 x19 x20 : AV) (h : Hp) (hr : h.H r = some (.cells (rdB i k 1))) (hk : h.T k = some (.cont 1 [[.ptr b1 0]])) (hb1 : h.H b1 = some (.cells [vI 0, x1, x2, x3, x4, x5, x6, x7, x8, x9, x10, x11, x12, x13, x14, x15, x16, x17, x18, x19, x20])) :
  ACalls Tryz.prog 163 [.ptr r 0, .v (.string sC)] h (fun x h' => x = .v (.bool true) ∧ ∃ b2, h.H b2 = none ∧ h'.H r = some (.cells (rdB i k 2)) ∧ h'.H b2 = some (.cells [vI 2, vS s0, vS s0, vS s0, nl, vI 4, nl, vS s0, vS sN, vS sG, vI 2, vS s0, vI 3, vB false, vS s0, vS s0, vS s0, nl, nl, nl, vB false]) ∧ h'.T k = some (.cont 1 [[.ptr b1 0], [.ptr b2 0]]) ∧ (∀ j, j ≠ r → j ≠ b2 → h'.H j = h.H j) ∧ ∀ t, t ≠ k → h'.T t = h.T t) := by
 have g1 := c_names1 r k b1 i x1 x2 x3 x4 x5 x6 x7 x8 x9 x10 x11 x12 x13 x14 x15 x16 x17 x18 x19 x20 h hr hk hb1
 have g2 := fun h => c_readCond h
 have g3 := fun h hr hk => c_begin r k b1 i (vI 2) (vS s0) (vS s0) (vS s0) nl (vI 4) nl (vS s0) (vS sN) (vS sG) (vI 2) (vS s0) (vI 3) (vB false) (vS s0) (vS s0) (vS s0) nl nl h hr hk
 clear hb1
 unfold cdC at g2
 unfold rdB vS vI vB nl s0 at *
 refine gE Tryz.func163 rfl (by kernel_rfl) 33 rfl fun c => ?_
 (repeat (first | refine gO rfl ?_ | (refine gM zM41 fun K1 hK1 => ?_; simp only [go_sem, ↓reduceIte, reduceCtorEq, nA, nB, nC, nD, nE, nF, Int.reduceBEq, Int.reduceTMod, Int.reduceTDiv, Int.reduceMul, Int.reduceBNe, Int.reduceLT, Int.reduceLE, Int.reduceAdd, Int.reduceSub, Int.reduceNeg, decide_true, decide_false, Bool.true_and, Bool.false_and, Bool.and_true, Bool.and_false, Bool.or_false, Bool.or_true, Bool.true_or, Bool.false_or, Bool.not_true, Bool.not_false, true_implies, false_implies, true_and, and_true, Int.reduceToNat, hr, hk] <;> and_intros <;> first | (apply hK1; clear hK1 K1) | (intros; first | omega | decide) | skip) | (refine awp_cond (t := _) rfl (fun hq => ?_) (fun hq => ?_) <;> first | (exact absurd hq (by decide)) | (cases hq; done) | (clear hq)) | (refine awp_un 8 ?_) | (with_reducible exact rfl) | (with_reducible exact trivial) | ((with_reducible show uside _); first | exact True.intro | exact rfl) | ((with_reducible show opS _ _); exact True.intro) | (refine ⟨AV.v (.bool true), rfl, hK1 _ ?_⟩; clear hK1 K1) | (refine (g1).mono ?_; rintro _ hz ⟨rfl, hh⟩; (first | (refine hK1 _ ?_) | (refine ⟨rfl, hK1 _ ?_⟩)); clear hK1 K1; rw [hh]; clear hh hz) | (refine (g2 _).mono ?_; rintro _ hz ⟨rfl, hh⟩; (first | (refine hK1 _ ?_) | (refine ⟨rfl, hK1 _ ?_⟩)); clear hK1 K1; rw [hh]; clear hh hz)))
 rw [upd_sf _ hr]
 refine (g3 h hr hk).mono ?_
 rintro _ h2 ⟨rfl, hf⟩
 refine hK1 _ ?_; clear hK1 K1
 (repeat (first | refine gO rfl ?_ | (refine gM zM41 fun K1 hK1 => ?_; simp only [go_sem, ↓reduceIte, reduceCtorEq, nA, nB, nC, nD, nE, nF, Int.reduceBEq, Int.reduceTMod, Int.reduceTDiv, Int.reduceMul, Int.reduceBNe, Int.reduceLT, Int.reduceLE, Int.reduceAdd, Int.reduceSub, Int.reduceNeg, decide_true, decide_false, Bool.true_and, Bool.false_and, Bool.and_true, Bool.and_false, Bool.or_false, Bool.or_true, Bool.true_or, Bool.false_or, Bool.not_true, Bool.not_false, true_implies, false_implies, true_and, and_true, Int.reduceToNat] <;> and_intros <;> first | (apply hK1; clear hK1 K1) | (intros; first | omega | decide) | skip) | (refine awp_cond (t := _) rfl (fun hq => ?_) (fun hq => ?_) <;> first | (exact absurd hq (by decide)) | (cases hq; done) | (clear hq)) | (refine awp_un 8 ?_) | (with_reducible exact rfl) | (with_reducible exact trivial) | ((with_reducible show uside _); first | exact True.intro | exact rfl) | ((with_reducible show opS _ _); exact True.intro) | (refine ⟨AV.v (.bool true), rfl, hK1 _ ?_⟩; clear hK1 K1)))
 simp only [Tryz.results163, go_sem, ↓reduceIte, reduceCtorEq, nA, nB, nC, nD, nE, nF]
 exact ⟨_, _, Weak.refl _, Hp.le.refl _, rfl, hf⟩
theorem c_elseTag (r k b1 b2 : Nat) (i : Int) (ps : List (List AV)) (pa : Option Nat) (h : Hp) (hr : h.H r = some (.cells (rdB i k 2))) (hk : h.T k = some (.cont 1 [[.ptr b1 0], [.ptr b2 0]])) (hb2 : h.H b2 = some (.cells [vI 2, vS s0, vS s0, vS s0, nl, vI 4, nl, vS s0, vS sN, vS sG, vI 2, vS s0, vI 3, vB false, vS s0, vS s0, vS s0, nl, nl, .row 19 ps pa, vB false])) :
  ACalls Tryz.prog 160 [.ptr r 0] h (fun x h' => x = .v (.bool true) ∧ h' = ⟨upd h.H b2 (some (.cells [vI 2, vS s0, vS s0, vS s0, nl, vI 4, nl, vS s0, vS sN, vS sG, vI 2, vS s0, vI 3, vB false, vS s0, vS s0, vS s0, .row 19 ps pa, nl, nl, vB true])), h.T⟩) := by
 have g1 := c_top2 r k b1 b2 i h hr hk
 unfold rdB vS vI vB nl s0 at *
 refine gE Tryz.func160 rfl (by kernel_rfl) 39 rfl fun c => ?_
 (repeat (first | refine gO rfl ?_ | (refine gR fun K1 hK1 => ?_; simp only [go_sem, ↓reduceIte, reduceCtorEq, nA, nB, nC, nD, nE, nF, Int.reduceBEq, Int.reduceTMod, Int.reduceTDiv, Int.reduceMul, Int.reduceBNe, Int.reduceLT, Int.reduceLE, Int.reduceAdd, Int.reduceSub, Int.reduceNeg, decide_true, decide_false, Bool.true_and, Bool.false_and, Bool.and_true, Bool.and_false, Bool.or_false, Bool.or_true, Bool.true_or, Bool.false_or, Bool.not_true, Bool.not_false, true_implies, false_implies, true_and, and_true, Int.reduceToNat, hr, hk, hb2, nc2, upd_same, upd_upd] <;> and_intros <;> first | (apply hK1; clear hK1 K1) | (intros; first | omega | decide) | skip) | (refine awp_cond (t := _) rfl (fun hq => ?_) (fun hq => ?_) <;> first | (exact absurd hq (by decide)) | (cases hq; done) | (clear hq)) | (refine awp_un 8 ?_) | (with_reducible exact rfl) | (with_reducible exact trivial) | ((with_reducible show uside _); first | exact True.intro | exact rfl) | ((with_reducible show opS _ _); exact True.intro) | (refine ⟨AV.v (.bool true), rfl, hK1 _ ?_⟩; clear hK1 K1) | (refine (g1).mono ?_; rintro _ hz ⟨rfl, hh⟩; (first | (refine hK1 _ ?_) | (refine ⟨rfl, hK1 _ ?_⟩)); clear hK1 K1; rw [hh]; clear hh hz)))
 simp only [Tryz.results160, go_sem, ↓reduceIte, reduceCtorEq, nA, nB, nC, nD, nE, nF]
 exact ⟨_, _, Weak.refl _, Hp.le.refl _, rfl, rfl⟩
theorem c_endTag (r k b1 b2 : Nat) (i : Int) (ps qs : List (List AV)) (pa qa : Option Nat) (h : Hp) (hr : h.H r = some (.cells (rdB i k 2))) (hk : h.T k = some (.cont 1 [[.ptr b1 0], [.ptr b2 0]])) (hb2 : h.H b2 = some (.cells [vI 2, vS s0, vS s0, vS s0, nl, vI 4, nl, vS s0, vS sN, vS sG, vI 2, vS s0, vI 3, vB false, vS s0, vS s0, vS s0, .row 19 ps pa, nl, .row 19 qs qa, vB true])) (hb1 : h.H b1 = some (.cells [vI 0, vS s0, vS s0, vS s0, nl, vI 0, nl, vS s0, vS s0, vS s0, vI 0, vS s0, vI 0, vB false, vS s0, vS s0, vS s0, nl, nl, nl, vB false])) (hrb : r ≠ b2) (hrb1 : r ≠ b1) (hbb : b1 ≠ b2) :
  ACalls Tryz.prog 161 [.ptr r 0] h (fun x h' => x = .v (.bool true) ∧ ∃ q kk, h'.H r = some (.cells (rdB i kk 1)) ∧ h'.T kk = some (.cont 1 [[.ptr b1 0]]) ∧ h'.H b1 = some (.cells [vI 0, vS s0, vS s0, vS s0, nl, vI 0, nl, vS s0, vS s0, vS s0, vI 0, vS s0, vI 0, vB false, vS s0, vS s0, vS s0, nl, nl, .row 19 [[vI 2, vS s0, vS s0, vS s0, nl, vI 4, nl, vS s0, vS sN, vS sG, vI 2, vS s0, vI 3, vB false, vS s0, vS s0, vS s0, .row 19 ps pa, .row 19 qs qa]] (some q), vB false])) := by
 have g1 := c_top2 r k b1 b2 i h hr hk
 have g2 := fun kk h hr hk => c_top1 r kk b1 i h hr hk
 unfold rdB vS vI vB nl s0 at *
 have hor : ∀ o, upd h.H b2 o r = some (.cells [.v (.string sB), .v (.int .i64 i), .arr 1 k 2, .v (.bool false)]) := fun o => (upd_other _ _ hrb).trans hr
 refine gE Tryz.func161 rfl (by kernel_rfl) 51 rfl fun c => ?_
 (repeat (first | refine gO rfl ?_ | ((first | refine gM zM42 ?_ | (with_reducible refine wM ?_ ?_) | ((with_reducible refine xS ?_); refine uD 7 zM42 zP1RE zP1RP 52 rfl (by kernel_rfl) ?_)) <;> ((try with_reducible intro K1 hK1); simp only [go_sem, ↓reduceIte, reduceCtorEq, nA, nB, nC, nD, nE, nF, Int.reduceBEq, Int.reduceTMod, Int.reduceTDiv, Int.reduceMul, Int.reduceBNe, Int.reduceLT, Int.reduceLE, Int.reduceAdd, Int.reduceSub, Int.reduceNeg, decide_true, decide_false, Bool.true_and, Bool.false_and, Bool.and_true, Bool.and_false, Bool.or_false, Bool.or_true, Bool.true_or, Bool.false_or, Bool.not_true, Bool.not_false, true_implies, false_implies, true_and, and_true, Int.reduceToNat, hr, hk, hb2, nc2, upd_same, upd_upd, hor] <;> and_intros <;> first | (apply hK1; clear hK1 K1) | (intros; first | omega | decide) | skip)) | (refine awp_cond (t := _) rfl (fun hq => ?_) (fun hq => ?_) <;> first | (exact absurd hq (by decide)) | (cases hq; done) | (clear hq)) | (refine awp_un 8 ?_) | (with_reducible exact rfl) | (with_reducible exact trivial) | ((with_reducible show uside _); first | exact True.intro | exact rfl) | ((with_reducible show opS _ _); exact True.intro) | (refine ⟨AV.v (.bool true), rfl, hK1 _ ?_⟩; clear hK1 K1) | (refine (g1).mono ?_; rintro _ hz ⟨rfl, hh⟩; (first | (refine hK1 _ ?_) | (refine ⟨rfl, hK1 _ ?_⟩)); clear hK1 K1; rw [hh]; clear hh hz)))
 intro kk hkk
 refine hK1 _ ?_; clear hK1 K1
 (repeat (first | refine gO rfl ?_ | ((first | refine gM zM42 ?_ | (with_reducible refine wM ?_ ?_) | ((with_reducible refine xS ?_); refine uD 7 zM42 zP1RE zP1RP 52 rfl (by kernel_rfl) ?_)) <;> ((try with_reducible intro K1 hK1); simp only [go_sem, ↓reduceIte, reduceCtorEq, nA, nB, nC, nD, nE, nF, Int.reduceBEq, Int.reduceTMod, Int.reduceTDiv, Int.reduceMul, Int.reduceBNe, Int.reduceLT, Int.reduceLE, Int.reduceAdd, Int.reduceSub, Int.reduceNeg, decide_true, decide_false, Bool.true_and, Bool.false_and, Bool.and_true, Bool.and_false, Bool.or_false, Bool.or_true, Bool.true_or, Bool.false_or, Bool.not_true, Bool.not_false, true_implies, false_implies, true_and, and_true, Int.reduceToNat, hor, upd_same, upd_upd, upd_other _ _ hrb.symm] <;> and_intros <;> first | (apply hK1; clear hK1 K1) | (intros; first | omega | decide) | skip)) | (refine awp_cond (t := _) rfl (fun hq => ?_) (fun hq => ?_) <;> first | (exact absurd hq (by decide)) | (cases hq; done) | (clear hq)) | (refine awp_un 8 ?_) | (with_reducible exact rfl) | (with_reducible exact trivial) | ((with_reducible show uside _); first | exact True.intro | exact rfl) | ((with_reducible show opS _ _); exact True.intro) | (refine ⟨AV.v (.bool true), rfl, hK1 _ ?_⟩; clear hK1 K1)))
 have a1 := fun hx hr hk hb => c_addNil r b1 (vI 0) (vS s0) (vS s0) (vS s0) nl (vI 0) nl (vS s0) (vS s0) (vS s0) (vI 0) (vS s0) (vI 0) (vB false) (vS s0) (vS s0) (vS s0) nl nl (.v (.bool false)) [vI 2, vS s0, vS s0, vS s0, nl, vI 4, nl, vS s0, vS sN, vS sG, vI 2, vS s0, vI 3, vB false, vS s0, vS s0, vS s0, .row 19 ps pa, .row 19 qs qa] rfl hx (g2 kk hx hr hk) hb
 unfold vS vI vB nl s0 at a1
 refine (a1 _ (upd_same _ _ _) (upd_same _ _ _) ((upd_other _ _ hrb1.symm).trans ((upd_other _ _ hbb).trans hb1))).mono ?_
 rintro _ h2 ⟨rfl, q, hq, rfl⟩
 refine hK1 _ ?_; clear hK1 K1 a1
 (repeat (first | refine gO rfl ?_ | ((first | refine gM zM42 ?_ | (with_reducible refine wM ?_ ?_) | ((with_reducible refine xS ?_); refine uD 7 zM42 zP1RE zP1RP 52 rfl (by kernel_rfl) ?_)) <;> ((try with_reducible intro K1 hK1); simp only [go_sem, ↓reduceIte, reduceCtorEq, nA, nB, nC, nD, nE, nF, Int.reduceBEq, Int.reduceTMod, Int.reduceTDiv, Int.reduceMul, Int.reduceBNe, Int.reduceLT, Int.reduceLE, Int.reduceAdd, Int.reduceSub, Int.reduceNeg, decide_true, decide_false, Bool.true_and, Bool.false_and, Bool.and_true, Bool.and_false, Bool.or_false, Bool.or_true, Bool.true_or, Bool.false_or, Bool.not_true, Bool.not_false, true_implies, false_implies, true_and, and_true, Int.reduceToNat] <;> and_intros <;> first | (apply hK1; clear hK1 K1) | (intros; first | omega | decide) | skip)) | (refine awp_cond (t := _) rfl (fun hq => ?_) (fun hq => ?_) <;> first | (exact absurd hq (by decide)) | (cases hq; done) | (clear hq)) | (refine awp_un 8 ?_) | (with_reducible exact rfl) | (with_reducible exact trivial) | ((with_reducible show uside _); first | exact True.intro | exact rfl) | ((with_reducible show opS _ _); exact True.intro) | (refine ⟨AV.v (.bool true), rfl, hK1 _ ?_⟩; clear hK1 K1)))
 simp only [Tryz.results161, go_sem, ↓reduceIte, reduceCtorEq, nA, nB, nC, nD, nE, nF]
 refine ⟨_, _, Weak.refl _, Hp.le.refl _, rfl, q, kk, (upd_other _ _ hrb1).trans (upd_same _ _ _), ?_, upd_same _ _ _⟩
 have hkq : kk ≠ q := by rintro rfl; have h9 : upd _ kk _ kk = none := hq; rw [upd_same] at h9; cases h9
 exact (upd_other _ _ hkq).trans (upd_same _ _ _)
theorem c_fieldTagB (r : Nat) (h : Hp) (R : Hp → Prop) (g2 : ACalls Tryz.prog 193 [.ptr r 0] h (fun x h' => x = nl ∧ h' = h)) (g4 : ACalls Tryz.prog 137 [.ptr r 0, .agg ndN] h (fun x h' => x = .tup [] ∧ R h')) :
  ACalls Tryz.prog 165 [.ptr r 0, .v (.string sN)] h (fun x h' => x = .v (.bool true) ∧ R h') := by
 have h1 := fun h => c_split h
 have h3 := fun h => c_refOf h
 unfold nl at g2
 unfold nl vS s0 at h3
 simp only [ndN, ndCp, vI, vS, vB, nl, s0] at g4
 refine gE Tryz.func165 rfl (by kernel_rfl) 56 rfl fun c => ?_
 (repeat (first | refine gO rfl ?_ | ((first | refine gM zM43 ?_ | (with_reducible refine wM ?_ ?_) | ((with_reducible refine xS ?_); refine uF 2 zM43 9 zP1SE zP1SP 58 rfl (by kernel_rfl) ?_)) <;> ((try with_reducible intro K1 hK1); simp only [go_sem, ↓reduceIte, reduceCtorEq, nA, nB, nC, nD, nE, nF, Int.reduceBEq, Int.reduceTMod, Int.reduceTDiv, Int.reduceMul, Int.reduceBNe, Int.reduceLT, Int.reduceLE, Int.reduceAdd, Int.reduceSub, Int.reduceNeg, decide_true, decide_false, Bool.true_and, Bool.false_and, Bool.and_true, Bool.and_false, Bool.or_false, Bool.or_true, Bool.true_or, Bool.false_or, Bool.not_true, Bool.not_false, true_implies, false_implies, true_and, and_true, Int.reduceToNat, nc1] <;> and_intros <;> first | (apply hK1; clear hK1 K1) | (intros; first | omega | decide) | skip)) | (refine awp_cond (t := _) rfl (fun hq => ?_) (fun hq => ?_) <;> first | (exact absurd hq (by decide)) | (cases hq; done) | (clear hq)) | (refine awp_un 8 ?_) | (with_reducible exact rfl) | (with_reducible exact trivial) | ((with_reducible show uside _); first | exact True.intro | exact rfl) | ((with_reducible show opS _ _); exact True.intro) | (refine ⟨AV.v (.bool true), rfl, hK1 _ ?_⟩; clear hK1 K1) | (refine (h1 _).mono ?_; rintro _ hz ⟨rfl, hh⟩; (first | (refine hK1 _ ?_) | (refine ⟨rfl, hK1 _ ?_⟩)); clear hK1 K1; rw [hh]; clear hh hz) | (refine (g2).mono ?_; rintro _ hz ⟨rfl, hh⟩; (first | (refine hK1 _ ?_) | (refine ⟨rfl, hK1 _ ?_⟩)); clear hK1 K1; rw [hh]; clear hh hz) | (refine (h3 _).mono ?_; rintro _ hz ⟨rfl, hh⟩; (first | (refine hK1 _ ?_) | (refine ⟨rfl, hK1 _ ?_⟩)); clear hK1 K1; rw [hh]; clear hh hz)))
 refine g4.mono ?_
 rintro _ hz ⟨rfl, hR⟩
 refine hK1 _ ?_; clear hK1 K1
 (repeat (first | refine gO rfl ?_ | ((first | refine gM zM43 ?_ | (with_reducible refine wM ?_ ?_) | ((with_reducible refine xS ?_); refine uF 2 zM43 9 zP1SE zP1SP 58 rfl (by kernel_rfl) ?_)) <;> ((try with_reducible intro K1 hK1); simp only [go_sem, ↓reduceIte, reduceCtorEq, nA, nB, nC, nD, nE, nF, Int.reduceBEq, Int.reduceTMod, Int.reduceTDiv, Int.reduceMul, Int.reduceBNe, Int.reduceLT, Int.reduceLE, Int.reduceAdd, Int.reduceSub, Int.reduceNeg, decide_true, decide_false, Bool.true_and, Bool.false_and, Bool.and_true, Bool.and_false, Bool.or_false, Bool.or_true, Bool.true_or, Bool.false_or, Bool.not_true, Bool.not_false, true_implies, false_implies, true_and, and_true, Int.reduceToNat] <;> and_intros <;> first | (apply hK1; clear hK1 K1) | (intros; first | omega | decide) | skip)) | (refine awp_cond (t := _) rfl (fun hq => ?_) (fun hq => ?_) <;> first | (exact absurd hq (by decide)) | (cases hq; done) | (clear hq)) | (refine awp_un 8 ?_) | (with_reducible exact rfl) | (with_reducible exact trivial) | ((with_reducible show uside _); first | exact True.intro | exact rfl) | ((with_reducible show opS _ _); exact True.intro) | (refine ⟨AV.v (.bool true), rfl, hK1 _ ?_⟩; clear hK1 K1)))
 simp only [Tryz.results165, go_sem, ↓reduceIte, reduceCtorEq, nA, nB, nC, nD, nE, nF]
 exact ⟨_, _, Weak.refl _, Hp.le.refl _, rfl, hR⟩
theorem c_tagN (r : Nat) (h : Hp) (R : Hp → Prop) (g1 : ACalls Tryz.prog 165 [.ptr r 0, .v (.string sN)] h (fun x h' => x = .v (.bool true) ∧ R h')) :
  ACalls Tryz.prog 138 [.ptr r 0, .v (.string sN)] h (fun x h' => x = .v (.bool true) ∧ R h') := by
 have h2 := fun h => c_cutPrefix ⟨#[105, 102, 32]⟩ h (by decide)
 have h3 := fun h => c_cutPrefix ⟨#[101, 97, 99, 104, 32]⟩ h (by decide)
 have e1 : (sN == ⟨#[111, 112, 101, 110]⟩) = false := by decide
 have e2 : (sN == ⟨#[99, 108, 111, 115, 101]⟩) = false := by decide
 have e3 : (sN == ⟨#[101, 108, 115, 101]⟩) = false := by decide
 have e4 : (sN == ⟨#[101, 110, 100]⟩) = false := by decide
 refine gE Tryz.func138 rfl (by kernel_rfl) 47 rfl fun c => ?_
 (repeat (first | refine gO rfl ?_ | (refine gR fun K1 hK1 => ?_; simp only [go_sem, ↓reduceIte, reduceCtorEq, nA, nB, nC, nD, nE, nF, Int.reduceBEq, Int.reduceTMod, Int.reduceTDiv, Int.reduceMul, Int.reduceBNe, Int.reduceLT, Int.reduceLE, Int.reduceAdd, Int.reduceSub, Int.reduceNeg, decide_true, decide_false, Bool.true_and, Bool.false_and, Bool.and_true, Bool.and_false, Bool.or_false, Bool.or_true, Bool.true_or, Bool.false_or, Bool.not_true, Bool.not_false, true_implies, false_implies, true_and, and_true, Int.reduceToNat, e1, e2, e3, e4] <;> and_intros <;> first | (apply hK1; clear hK1 K1) | (intros; first | omega | decide) | skip) | (refine awp_cond (t := _) rfl (fun hq => ?_) (fun hq => ?_) <;> first | (exact absurd hq (by decide)) | (cases hq; done) | (clear hq)) | (refine awp_un 8 ?_) | (with_reducible exact rfl) | (with_reducible exact trivial) | ((with_reducible show uside _); first | exact True.intro | exact rfl) | ((with_reducible show opS _ _); exact True.intro) | (refine ⟨AV.v (.bool true), rfl, hK1 _ ?_⟩; clear hK1 K1) | (refine (h2 _).mono ?_; rintro _ hz ⟨rfl, hh⟩; (first | (refine hK1 _ ?_) | (refine ⟨rfl, hK1 _ ?_⟩)); clear hK1 K1; rw [hh]; clear hh hz) | (refine (h3 _).mono ?_; rintro _ hz ⟨rfl, hh⟩; (first | (refine hK1 _ ?_) | (refine ⟨rfl, hK1 _ ?_⟩)); clear hK1 K1; rw [hh]; clear hh hz)))
 refine g1.mono ?_
 rintro _ hz ⟨rfl, hR⟩
 refine hK1 _ ?_; clear hK1 K1
 (repeat (first | refine gO rfl ?_ | (refine gR fun K1 hK1 => ?_; simp only [go_sem, ↓reduceIte, reduceCtorEq, nA, nB, nC, nD, nE, nF, Int.reduceBEq, Int.reduceTMod, Int.reduceTDiv, Int.reduceMul, Int.reduceBNe, Int.reduceLT, Int.reduceLE, Int.reduceAdd, Int.reduceSub, Int.reduceNeg, decide_true, decide_false, Bool.true_and, Bool.false_and, Bool.and_true, Bool.and_false, Bool.or_false, Bool.or_true, Bool.true_or, Bool.false_or, Bool.not_true, Bool.not_false, true_implies, false_implies, true_and, and_true, Int.reduceToNat] <;> and_intros <;> first | (apply hK1; clear hK1 K1) | (intros; first | omega | decide) | skip) | (refine awp_cond (t := _) rfl (fun hq => ?_) (fun hq => ?_) <;> first | (exact absurd hq (by decide)) | (cases hq; done) | (clear hq)) | (refine awp_un 8 ?_) | (with_reducible exact rfl) | (with_reducible exact trivial) | ((with_reducible show uside _); first | exact True.intro | exact rfl) | ((with_reducible show opS _ _); exact True.intro) | (refine ⟨AV.v (.bool true), rfl, hK1 _ ?_⟩; clear hK1 K1)))
 simp only [Tryz.results138, go_sem, ↓reduceIte, reduceCtorEq, nA, nB, nC, nD, nE, nF]
 exact ⟨_, _, Weak.refl _, Hp.le.refl _, rfl, hR⟩
theorem c_tagIf (r : Nat) (h : Hp) (R : Hp → Prop) (g1 : ACalls Tryz.prog 163 [.ptr r 0, .v (.string sC)] h (fun x h' => x = .v (.bool true) ∧ R h')) :
  ACalls Tryz.prog 138 [.ptr r 0, .v (.string sIf)] h (fun x h' => x = .v (.bool true) ∧ R h') := by
 have h2 := fun h => c_cutIf sIf ⟨#[105, 102, 32]⟩ sC true ⟨by rfl, by decide⟩ h
 have e1 : (sIf == ⟨#[111, 112, 101, 110]⟩) = false := by decide
 have e2 : (sIf == ⟨#[99, 108, 111, 115, 101]⟩) = false := by decide
 have e3 : (sIf == ⟨#[101, 108, 115, 101]⟩) = false := by decide
 have e4 : (sIf == ⟨#[101, 110, 100]⟩) = false := by decide
 refine gE Tryz.func138 rfl (by kernel_rfl) 47 rfl fun c => ?_
 (repeat (first | refine gO rfl ?_ | (refine gR fun K1 hK1 => ?_; simp only [go_sem, ↓reduceIte, reduceCtorEq, nA, nB, nC, nD, nE, nF, Int.reduceBEq, Int.reduceTMod, Int.reduceTDiv, Int.reduceMul, Int.reduceBNe, Int.reduceLT, Int.reduceLE, Int.reduceAdd, Int.reduceSub, Int.reduceNeg, decide_true, decide_false, Bool.true_and, Bool.false_and, Bool.and_true, Bool.and_false, Bool.or_false, Bool.or_true, Bool.true_or, Bool.false_or, Bool.not_true, Bool.not_false, true_implies, false_implies, true_and, and_true, Int.reduceToNat, e1, e2, e3, e4] <;> and_intros <;> first | (apply hK1; clear hK1 K1) | (intros; first | omega | decide) | skip) | (refine awp_cond (t := _) rfl (fun hq => ?_) (fun hq => ?_) <;> first | (exact absurd hq (by decide)) | (cases hq; done) | (clear hq)) | (refine awp_un 8 ?_) | (with_reducible exact rfl) | (with_reducible exact trivial) | ((with_reducible show uside _); first | exact True.intro | exact rfl) | ((with_reducible show opS _ _); exact True.intro) | (refine ⟨AV.v (.bool true), rfl, hK1 _ ?_⟩; clear hK1 K1) | (refine (h2 _).mono ?_; rintro _ hz ⟨rfl, hh⟩; (first | (refine hK1 _ ?_) | (refine ⟨rfl, hK1 _ ?_⟩)); clear hK1 K1; rw [hh]; clear hh hz)))
 refine g1.mono ?_
 rintro _ hz ⟨rfl, hR⟩
 refine hK1 _ ?_; clear hK1 K1
 (repeat (first | refine gO rfl ?_ | (refine gR fun K1 hK1 => ?_; simp only [go_sem, ↓reduceIte, reduceCtorEq, nA, nB, nC, nD, nE, nF, Int.reduceBEq, Int.reduceTMod, Int.reduceTDiv, Int.reduceMul, Int.reduceBNe, Int.reduceLT, Int.reduceLE, Int.reduceAdd, Int.reduceSub, Int.reduceNeg, decide_true, decide_false, Bool.true_and, Bool.false_and, Bool.and_true, Bool.and_false, Bool.or_false, Bool.or_true, Bool.true_or, Bool.false_or, Bool.not_true, Bool.not_false, true_implies, false_implies, true_and, and_true, Int.reduceToNat] <;> and_intros <;> first | (apply hK1; clear hK1 K1) | (intros; first | omega | decide) | skip) | (refine awp_cond (t := _) rfl (fun hq => ?_) (fun hq => ?_) <;> first | (exact absurd hq (by decide)) | (cases hq; done) | (clear hq)) | (refine awp_un 8 ?_) | (with_reducible exact rfl) | (with_reducible exact trivial) | ((with_reducible show uside _); first | exact True.intro | exact rfl) | ((with_reducible show opS _ _); exact True.intro) | (refine ⟨AV.v (.bool true), rfl, hK1 _ ?_⟩; clear hK1 K1)))
 simp only [Tryz.results138, go_sem, ↓reduceIte, reduceCtorEq, nA, nB, nC, nD, nE, nF]
 exact ⟨_, _, Weak.refl _, Hp.le.refl _, rfl, hR⟩
theorem c_tagElse (r : Nat) (h : Hp) (R : Hp → Prop) (g1 : ACalls Tryz.prog 160 [.ptr r 0] h (fun x h' => x = .v (.bool true) ∧ R h')) :
  ACalls Tryz.prog 138 [.ptr r 0, .v (.string sElse)] h (fun x h' => x = .v (.bool true) ∧ R h') := by
 have e1 : (sElse == ⟨#[111, 112, 101, 110]⟩) = false := by decide
 have e2 : (sElse == ⟨#[99, 108, 111, 115, 101]⟩) = false := by decide
 have e3 : (sElse == ⟨#[101, 108, 115, 101]⟩) = true := by decide
 refine gE Tryz.func138 rfl (by kernel_rfl) 47 rfl fun c => ?_
 (repeat (first | refine gO rfl ?_ | (refine gR fun K1 hK1 => ?_; simp only [go_sem, ↓reduceIte, reduceCtorEq, nA, nB, nC, nD, nE, nF, Int.reduceBEq, Int.reduceTMod, Int.reduceTDiv, Int.reduceMul, Int.reduceBNe, Int.reduceLT, Int.reduceLE, Int.reduceAdd, Int.reduceSub, Int.reduceNeg, decide_true, decide_false, Bool.true_and, Bool.false_and, Bool.and_true, Bool.and_false, Bool.or_false, Bool.or_true, Bool.true_or, Bool.false_or, Bool.not_true, Bool.not_false, true_implies, false_implies, true_and, and_true, Int.reduceToNat, e1, e2, e3] <;> and_intros <;> first | (apply hK1; clear hK1 K1) | (intros; first | omega | decide) | skip) | (refine awp_cond (t := _) rfl (fun hq => ?_) (fun hq => ?_) <;> first | (exact absurd hq (by decide)) | (cases hq; done) | (clear hq)) | (refine awp_un 8 ?_) | (with_reducible exact rfl) | (with_reducible exact trivial) | ((with_reducible show uside _); first | exact True.intro | exact rfl) | ((with_reducible show opS _ _); exact True.intro) | (refine ⟨AV.v (.bool true), rfl, hK1 _ ?_⟩; clear hK1 K1)))
 refine g1.mono ?_
 rintro _ hz ⟨rfl, hR⟩
 refine hK1 _ ?_; clear hK1 K1
 (repeat (first | refine gO rfl ?_ | (refine gR fun K1 hK1 => ?_; simp only [go_sem, ↓reduceIte, reduceCtorEq, nA, nB, nC, nD, nE, nF, Int.reduceBEq, Int.reduceTMod, Int.reduceTDiv, Int.reduceMul, Int.reduceBNe, Int.reduceLT, Int.reduceLE, Int.reduceAdd, Int.reduceSub, Int.reduceNeg, decide_true, decide_false, Bool.true_and, Bool.false_and, Bool.and_true, Bool.and_false, Bool.or_false, Bool.or_true, Bool.true_or, Bool.false_or, Bool.not_true, Bool.not_false, true_implies, false_implies, true_and, and_true, Int.reduceToNat] <;> and_intros <;> first | (apply hK1; clear hK1 K1) | (intros; first | omega | decide) | skip) | (refine awp_cond (t := _) rfl (fun hq => ?_) (fun hq => ?_) <;> first | (exact absurd hq (by decide)) | (cases hq; done) | (clear hq)) | (refine awp_un 8 ?_) | (with_reducible exact rfl) | (with_reducible exact trivial) | ((with_reducible show uside _); first | exact True.intro | exact rfl) | ((with_reducible show opS _ _); exact True.intro) | (refine ⟨AV.v (.bool true), rfl, hK1 _ ?_⟩; clear hK1 K1)))
 simp only [Tryz.results138, go_sem, ↓reduceIte, reduceCtorEq, nA, nB, nC, nD, nE, nF]
 exact ⟨_, _, Weak.refl _, Hp.le.refl _, rfl, hR⟩
theorem c_tagEnd (r : Nat) (h : Hp) (R : Hp → Prop) (g1 : ACalls Tryz.prog 161 [.ptr r 0] h (fun x h' => x = .v (.bool true) ∧ R h')) :
  ACalls Tryz.prog 138 [.ptr r 0, .v (.string sEnd)] h (fun x h' => x = .v (.bool true) ∧ R h') := by
 have e1 : (sEnd == ⟨#[111, 112, 101, 110]⟩) = false := by decide
 have e2 : (sEnd == ⟨#[99, 108, 111, 115, 101]⟩) = false := by decide
 have e3 : (sEnd == ⟨#[101, 108, 115, 101]⟩) = false := by decide
 have e4 : (sEnd == ⟨#[101, 110, 100]⟩) = true := by decide
 refine gE Tryz.func138 rfl (by kernel_rfl) 47 rfl fun c => ?_
 (repeat (first | refine gO rfl ?_ | (refine gR fun K1 hK1 => ?_; simp only [go_sem, ↓reduceIte, reduceCtorEq, nA, nB, nC, nD, nE, nF, Int.reduceBEq, Int.reduceTMod, Int.reduceTDiv, Int.reduceMul, Int.reduceBNe, Int.reduceLT, Int.reduceLE, Int.reduceAdd, Int.reduceSub, Int.reduceNeg, decide_true, decide_false, Bool.true_and, Bool.false_and, Bool.and_true, Bool.and_false, Bool.or_false, Bool.or_true, Bool.true_or, Bool.false_or, Bool.not_true, Bool.not_false, true_implies, false_implies, true_and, and_true, Int.reduceToNat, e1, e2, e3, e4] <;> and_intros <;> first | (apply hK1; clear hK1 K1) | (intros; first | omega | decide) | skip) | (refine awp_cond (t := _) rfl (fun hq => ?_) (fun hq => ?_) <;> first | (exact absurd hq (by decide)) | (cases hq; done) | (clear hq)) | (refine awp_un 8 ?_) | (with_reducible exact rfl) | (with_reducible exact trivial) | ((with_reducible show uside _); first | exact True.intro | exact rfl) | ((with_reducible show opS _ _); exact True.intro) | (refine ⟨AV.v (.bool true), rfl, hK1 _ ?_⟩; clear hK1 K1)))
 refine g1.mono ?_
 rintro _ hz ⟨rfl, hR⟩
 refine hK1 _ ?_; clear hK1 K1
 (repeat (first | refine gO rfl ?_ | (refine gR fun K1 hK1 => ?_; simp only [go_sem, ↓reduceIte, reduceCtorEq, nA, nB, nC, nD, nE, nF, Int.reduceBEq, Int.reduceTMod, Int.reduceTDiv, Int.reduceMul, Int.reduceBNe, Int.reduceLT, Int.reduceLE, Int.reduceAdd, Int.reduceSub, Int.reduceNeg, decide_true, decide_false, Bool.true_and, Bool.false_and, Bool.and_true, Bool.and_false, Bool.or_false, Bool.or_true, Bool.true_or, Bool.false_or, Bool.not_true, Bool.not_false, true_implies, false_implies, true_and, and_true, Int.reduceToNat] <;> and_intros <;> first | (apply hK1; clear hK1 K1) | (intros; first | omega | decide) | skip) | (refine awp_cond (t := _) rfl (fun hq => ?_) (fun hq => ?_) <;> first | (exact absurd hq (by decide)) | (cases hq; done) | (clear hq)) | (refine awp_un 8 ?_) | (with_reducible exact rfl) | (with_reducible exact trivial) | ((with_reducible show uside _); first | exact True.intro | exact rfl) | ((with_reducible show opS _ _); exact True.intro) | (refine ⟨AV.v (.bool true), rfl, hK1 _ ?_⟩; clear hK1 K1)))
 simp only [Tryz.results138, go_sem, ↓reduceIte, reduceCtorEq, nA, nB, nC, nD, nE, nF]
 exact ⟨_, _, Weak.refl _, Hp.le.refl _, rfl, hR⟩
abbrev zP1TE : List Nat := [0, 1, 2, 3, 4, 5, 6, 7, 8, 9]
abbrev zP1TP : List (Nat × List Nat × List Nat) := []
abbrev zP1UE : List Nat := [0, 1, 2, 3, 4, 5, 6, 7, 8]
abbrev zP1UP : List (Nat × List Nat × List Nat) := [(9, [], [10])]
abbrev zP1VE : List Nat := [0, 1, 2, 3, 4, 5, 6, 7, 8, 9, 10]
abbrev zP1VP : List (Nat × List Nat × List Nat) := []
abbrev zP1WE : List Nat := [0, 1, 2, 3, 4, 5, 6, 7, 8, 9, 10, 11, 12, 13, 14, 15, 16]
abbrev zP1WP : List (Nat × List Nat × List Nat) := [(17, [], [])]
abbrev zP1XE : List Nat := [0, 1, 2, 3, 4, 5, 6, 7, 8]
abbrev zP1XP : List (Nat × List Nat × List Nat) := [(9, [], [10])]
abbrev zP1YE : List Nat := [0, 1, 2, 3, 4, 5, 6, 7, 8, 9, 10, 11, 12, 13, 14, 15, 16, 17, 18, 19, 20, 21, 22, 23, 24, 25, 26, 27, 28, 29, 30, 31]
abbrev zP1YP : List (Nat × List Nat × List Nat) := [(32, [], [33, 34])]
attribute [go_sem] zP1TE zP1TP zP1UE zP1UP zP1VE zP1VP zP1WE zP1WP zP1XE zP1XP zP1YE zP1YP
def tPlus : List AV := [vI 0, vS sPlus, vS s0, vS s0, nl, vI 0, nl, vS s0, vS s0, vS s0, vI 0, vS s0, vI 0, vB false, vS s0, vS s0, vS s0, nl, nl]
def tMinus : List AV := [vI 0, vS sMinus, vS s0, vS s0, nl, vI 0, nl, vS s0, vS s0, vS s0, vI 0, vS s0, vI 0, vB false, vS s0, vS s0, vS s0, nl, nl]
def ndIf (qa qb : Nat) : List AV := [vI 2, vS s0, vS s0, vS s0, nl, vI 4, nl, vS s0, vS sN, vS sG, vI 2, vS s0, vI 3, vB false, vS s0, vS s0, vS s0, .row 19 [tPlus, ndN] (some qa), .row 19 [tMinus] (some qb)]
theorem c_runB (r : Nat) (h : Hp) (hr : h.H r = some (.cells [vS sB, vI 0, nl, vB false])) : ACalls Tryz.prog 112 [.ptr r 0] h (fun x h' => x = .v (.bool true) ∧ ∃ b1 k q qa qb, h'.H r = some (.cells (rdB 26 k 1)) ∧ h'.T k = some (.cont 1 [[.ptr b1 0]]) ∧ h'.H b1 = some (.cells [vI 0, vS s0, vS s0, vS s0, nl, vI 0, nl, vS s0, vS s0, vS s0, vI 0, vS s0, vI 0, vB false, vS s0, vS s0, vS s0, nl, nl, .row 19 [ndIf qa qb] (some q), vB false])) := by
 have a0 := fun h => c_ixAny sB 0 (by decide) (by decide) (by decide) h
 have p0 := fun h => c_ixByte sB 9 (by decide) h
 have z : (sB.size : Int) = 26 := rfl
 have z0 : ((sB.data.toList.getD 0 0).toNat : Int) = 123 := rfl
 have x0 : sB.extract 0 26 = sB := by decide
 have xa : sB.extract 1 9 = sIf := by decide
 unfold vS vI vB nl at hr
 refine gE Tryz.func112 rfl (by kernel_rfl) 130 rfl fun c => ?_
 (repeat (first | refine gO rfl ?_ | ((first | refine gM zM44 ?_ | (with_reducible refine wM ?_ ?_) | ((with_reducible refine xS ?_); refine uD 2 zM44 zP1TE zP1TP 131 rfl (by kernel_rfl) ?_) | ((with_reducible refine xS ?_); refine uD 3 zM44 zP1UE zP1UP 131 rfl (by kernel_rfl) ?_) | ((with_reducible refine xR ?_); refine uE 5 zM44 zP1VE zP1VP 131 rfl (by kernel_rfl) ?_) | ((with_reducible refine xS ?_); refine uD 7 zM44 zP1WE zP1WP 131 rfl (by kernel_rfl) ?_) | ((with_reducible refine xS ?_); refine uD 9 zM44 zP1XE zP1XP 131 rfl (by kernel_rfl) ?_) | ((with_reducible refine xS ?_); refine uD 10 zM44 zP1YE zP1YP 131 rfl (by kernel_rfl) ?_)) <;> ((try with_reducible intro K1 hK1); simp only [go_sem, ↓reduceIte, reduceCtorEq, nA, nB, nC, nD, nE, nF, Int.reduceBEq, Int.reduceTMod, Int.reduceTDiv, Int.reduceMul, Int.reduceBNe, Int.reduceLT, Int.reduceLE, Int.reduceAdd, Int.reduceSub, Int.reduceNeg, decide_true, decide_false, Bool.true_and, Bool.false_and, Bool.and_true, Bool.and_false, Bool.or_false, Bool.or_true, Bool.true_or, Bool.false_or, Bool.not_true, Bool.not_false, true_implies, false_implies, true_and, and_true, Int.reduceToNat, hr] <;> and_intros <;> first | (apply hK1; clear hK1 K1) | (intros; first | omega | decide) | skip)) | (refine awp_cond (t := _) rfl (fun hq => ?_) (fun hq => ?_) <;> first | (exact absurd hq (by decide)) | (cases hq; done) | (clear hq)) | (refine awp_un 8 ?_) | (with_reducible exact rfl) | (with_reducible exact trivial) | ((with_reducible show uside _); first | exact True.intro | exact rfl) | ((with_reducible show opS _ _); exact True.intro) | (refine ⟨AV.v (.bool true), rfl, hK1 _ ?_⟩; clear hK1 K1)))
 intro b1 hb1
 have hrb : r ≠ b1 := by rintro rfl; rw [hr] at hb1; cases hb1
 have hor : ∀ o, upd h.H b1 o r = some (.cells [.v (.string sB), .v (.int .i64 0), .v (.slice none 0 0), .v (.bool false)]) := fun o => (upd_other _ _ hrb).trans hr
 ((simp only [go_sem, ↓reduceIte, reduceCtorEq, nA, nB, nC, nD, nE, nF, hor]; (try and_intros); all_goals first | (refine hK1 _ ?_; clear hK1 K1) | (intros; first | omega | decide | (simp_all <;> omega)) | skip))
 intro k hk
 refine hK1 _ ?_; clear hK1 K1
 (repeat (first | refine gO rfl ?_ | ((first | refine gM zM44 ?_ | (with_reducible refine wM ?_ ?_) | ((with_reducible refine xS ?_); refine uD 2 zM44 zP1TE zP1TP 131 rfl (by kernel_rfl) ?_) | ((with_reducible refine xS ?_); refine uD 3 zM44 zP1UE zP1UP 131 rfl (by kernel_rfl) ?_) | ((with_reducible refine xR ?_); refine uE 5 zM44 zP1VE zP1VP 131 rfl (by kernel_rfl) ?_) | ((with_reducible refine xS ?_); refine uD 7 zM44 zP1WE zP1WP 131 rfl (by kernel_rfl) ?_) | ((with_reducible refine xS ?_); refine uD 9 zM44 zP1XE zP1XP 131 rfl (by kernel_rfl) ?_) | ((with_reducible refine xS ?_); refine uD 10 zM44 zP1YE zP1YP 131 rfl (by kernel_rfl) ?_)) <;> ((try with_reducible intro K1 hK1); simp only [go_sem, ↓reduceIte, reduceCtorEq, nA, nB, nC, nD, nE, nF, Int.reduceBEq, Int.reduceTMod, Int.reduceTDiv, Int.reduceMul, Int.reduceBNe, Int.reduceLT, Int.reduceLE, Int.reduceAdd, Int.reduceSub, Int.reduceNeg, decide_true, decide_false, Bool.true_and, Bool.false_and, Bool.and_true, Bool.and_false, Bool.or_false, Bool.or_true, Bool.true_or, Bool.false_or, Bool.not_true, Bool.not_false, true_implies, false_implies, true_and, and_true, Int.reduceToNat, upd_same, z, z0, x0] <;> and_intros <;> first | (apply hK1; clear hK1 K1) | (intros; first | omega | decide) | skip)) | (refine awp_cond (t := _) rfl (fun hq => ?_) (fun hq => ?_) <;> first | (exact absurd hq (by decide)) | (cases hq; done) | (clear hq)) | (refine awp_un 8 ?_) | (with_reducible exact rfl) | (with_reducible exact trivial) | ((with_reducible show uside _); first | exact True.intro | exact rfl) | ((with_reducible show opS _ _); exact True.intro) | (refine ⟨AV.v (.bool true), rfl, hK1 _ ?_⟩; clear hK1 K1) | (refine (a0 _).mono ?_; rintro _ hz ⟨rfl, hh⟩; (first | (refine hK1 _ ?_) | (refine ⟨rfl, hK1 _ ?_⟩)); clear hK1 K1; rw [hh]; clear hh hz) | (refine (p0 _).mono ?_; rintro _ hz ⟨rfl, hh⟩; (first | (refine hK1 _ ?_) | (refine ⟨rfl, hK1 _ ?_⟩)); clear hK1 K1; rw [hh]; clear hh hz)))
 refine ⟨.v (.string sIf), ⟨⟨rfl, rfl, True.intro⟩, ?_⟩, rfl, ?_⟩
 ·unfold qE
  simp only [go_sem, ↓reduceIte, reduceCtorEq, Nat.reduceAdd, Nat.reduceSub, Nat.reduceMul, Nat.reduceLT, Nat.reduceLeDiff, Nat.reduceEqDiff, z0, xa]
  exact ⟨by decide, congrArg (fun s => AV.v (.string s)) xa⟩
 refine hK1 _ ?_; clear hK1 K1
 (repeat (first | refine gO rfl ?_ | ((first | refine gM zM44 ?_ | (with_reducible refine wM ?_ ?_) | ((with_reducible refine xS ?_); refine uD 2 zM44 zP1TE zP1TP 131 rfl (by kernel_rfl) ?_) | ((with_reducible refine xS ?_); refine uD 3 zM44 zP1UE zP1UP 131 rfl (by kernel_rfl) ?_) | ((with_reducible refine xR ?_); refine uE 5 zM44 zP1VE zP1VP 131 rfl (by kernel_rfl) ?_) | ((with_reducible refine xS ?_); refine uD 7 zM44 zP1WE zP1WP 131 rfl (by kernel_rfl) ?_) | ((with_reducible refine xS ?_); refine uD 9 zM44 zP1XE zP1XP 131 rfl (by kernel_rfl) ?_) | ((with_reducible refine xS ?_); refine uD 10 zM44 zP1YE zP1YP 131 rfl (by kernel_rfl) ?_)) <;> ((try with_reducible intro K1 hK1); simp only [go_sem, ↓reduceIte, reduceCtorEq, nA, nB, nC, nD, nE, nF, Int.reduceBEq, Int.reduceTMod, Int.reduceTDiv, Int.reduceMul, Int.reduceBNe, Int.reduceLT, Int.reduceLE, Int.reduceAdd, Int.reduceSub, Int.reduceNeg, decide_true, decide_false, Bool.true_and, Bool.false_and, Bool.and_true, Bool.and_false, Bool.or_false, Bool.or_true, Bool.true_or, Bool.false_or, Bool.not_true, Bool.not_false, true_implies, false_implies, true_and, and_true, Int.reduceToNat] <;> and_intros <;> first | (apply hK1; clear hK1 K1) | (intros; first | omega | decide) | skip)) | (refine awp_cond (t := _) rfl (fun hq => ?_) (fun hq => ?_) <;> first | (exact absurd hq (by decide)) | (cases hq; done) | (clear hq)) | (refine awp_un 8 ?_) | (with_reducible exact rfl) | (with_reducible exact trivial) | ((with_reducible show uside _); first | exact True.intro | exact rfl) | ((with_reducible show opS _ _); exact True.intro) | (refine ⟨AV.v (.bool true), rfl, hK1 _ ?_⟩; clear hK1 K1)))
 refine (c_tagIf r _ _ (c_ifTag r k b1 0 (vS s0) (vS s0) (vS s0) nl (vI 0) nl (vS s0) (vS s0) (vS s0) (vI 0) (vS s0) (vI 0) (vB false) (vS s0) (vS s0) (vS s0) nl nl nl (vB false) _ (upd_same _ _ _) (upd_same _ _ _) ((upd_other _ _ hrb.symm).trans (upd_same _ _ _)))).mono ?_
 rintro _ h2 ⟨rfl, b2, hb2, hr2, hbb2, hk2, hH2, hT2⟩
 refine ⟨rfl, hK1 _ ?_⟩; clear hK1 K1
 have hbb : b1 ≠ b2 := by
  rintro rfl
  have h9 : upd (upd _ b1 _) r _ b1 = none := hb2
  rw [upd_other _ _ hrb.symm, upd_same] at h9; cases h9
 have hrb2 : r ≠ b2 := by
  rintro rfl
  have h9 : upd _ r _ r = none := hb2
  rw [upd_same] at h9; cases h9
 have hb1' : h2.H b1 = some (.cells [vI 0, vS s0, vS s0, vS s0, nl, vI 0, nl, vS s0, vS s0, vS s0, vI 0, vS s0, vI 0, vB false, vS s0, vS s0, vS s0, nl, nl, nl, vB false]) := by
  rw [hH2 b1 hrb.symm hbb]
  exact (upd_other _ _ hrb.symm).trans (upd_same _ _ _)
 clear hb2 hH2 hT2 hor hr hb1 a0 p0
 have hr2' := hr2
 unfold rdB vS vI vB at hr2'
 have x10 : sB.extract 10 26 = sB10 := by decide
 have a10 := fun h => c_ixAny sB10 1 (by decide) (by decide) (by decide) h
 have y10 : sB.extract 10 11 = sPlus := by decide
 (repeat (first | refine gO rfl ?_ | ((first | refine gM zM44 ?_ | (with_reducible refine wM ?_ ?_) | ((with_reducible refine xS ?_); refine uD 2 zM44 zP1TE zP1TP 131 rfl (by kernel_rfl) ?_) | ((with_reducible refine xS ?_); refine uD 3 zM44 zP1UE zP1UP 131 rfl (by kernel_rfl) ?_) | ((with_reducible refine xR ?_); refine uE 5 zM44 zP1VE zP1VP 131 rfl (by kernel_rfl) ?_) | ((with_reducible refine xS ?_); refine uD 7 zM44 zP1WE zP1WP 131 rfl (by kernel_rfl) ?_) | ((with_reducible refine xS ?_); refine uD 9 zM44 zP1XE zP1XP 131 rfl (by kernel_rfl) ?_) | ((with_reducible refine xS ?_); refine uD 10 zM44 zP1YE zP1YP 131 rfl (by kernel_rfl) ?_)) <;> ((try with_reducible intro K1 hK1); simp only [go_sem, ↓reduceIte, reduceCtorEq, nA, nB, nC, nD, nE, nF, Int.reduceBEq, Int.reduceTMod, Int.reduceTDiv, Int.reduceMul, Int.reduceBNe, Int.reduceLT, Int.reduceLE, Int.reduceAdd, Int.reduceSub, Int.reduceNeg, decide_true, decide_false, Bool.true_and, Bool.false_and, Bool.and_true, Bool.and_false, Bool.or_false, Bool.or_true, Bool.true_or, Bool.false_or, Bool.not_true, Bool.not_false, true_implies, false_implies, true_and, and_true, Int.reduceToNat, hr2', z, z0, x10, y10, upd_same, upd_upd] <;> and_intros <;> first | (apply hK1; clear hK1 K1) | (intros; first | omega | decide) | skip)) | (refine awp_cond (t := _) rfl (fun hq => ?_) (fun hq => ?_) <;> first | (exact absurd hq (by decide)) | (cases hq; done) | (clear hq)) | (refine awp_un 8 ?_) | (with_reducible exact rfl) | (with_reducible exact trivial) | ((with_reducible show uside _); first | exact True.intro | exact rfl) | ((with_reducible show opS _ _); exact True.intro) | (refine ⟨AV.v (.bool true), rfl, hK1 _ ?_⟩; clear hK1 K1) | (refine (a10 _).mono ?_; rintro _ hz ⟨rfl, hh⟩; (first | (refine hK1 _ ?_) | (refine ⟨rfl, hK1 _ ?_⟩)); clear hK1 K1; rw [hh]; clear hh hz)))
 have g2 := fun hx hr hk hb => c_addNil r b2 (vI 2) (vS s0) (vS s0) (vS s0) nl (vI 4) nl (vS s0) (vS sN) (vS sG) (vI 2) (vS s0) (vI 3) (vB false) (vS s0) (vS s0) (vS s0) nl nl (vB false) tPlus rfl hx (c_top2 r k b1 b2 10 hx hr hk) hb
 unfold tPlus rdB vS vI vB nl s0 at g2
 refine (g2 ⟨upd h2.H r (some (.cells [.v (.string sB), .v (.int .i64 10), .arr 1 k 2, .v (.bool false)])), h2.T⟩ (upd_same _ _ _) hk2 ((upd_other _ _ hrb2.symm).trans hbb2)).mono ?_
 rintro _ h3 ⟨rfl, qa, hqa, hh⟩
 refine hK1 _ ?_; clear hK1 K1 g2
 have hr3 : h3.H r = some (.cells [.v (.string sB), .v (.int .i64 10), .arr 1 k 2, .v (.bool false)]) := by rw [hh]; exact (upd_other _ _ hrb2).trans (upd_same _ _ _)
 have hb3 : h3.H b2 = some (.cells [vI 2, vS s0, vS s0, vS s0, nl, vI 4, nl, vS s0, vS sN, vS sG, vI 2, vS s0, vI 3, vB false, vS s0, vS s0, vS s0, nl, nl, .row 19 [tPlus] (some qa), vB false]) := by rw [hh]; exact upd_same _ _ _
 have hc3 : h3.H b1 = some (.cells [vI 0, vS s0, vS s0, vS s0, nl, vI 0, nl, vS s0, vS s0, vS s0, vI 0, vS s0, vI 0, vB false, vS s0, vS s0, vS s0, nl, nl, nl, vB false]) := by rw [hh]; exact (upd_other _ _ hbb).trans ((upd_other _ _ hrb.symm).trans hb1')
 have hkq : k ≠ qa := by rintro rfl; have h9 : h2.T k = none := hqa; rw [hk2] at h9; cases h9
 have hk3 : h3.T k = some (.cont 1 [[.ptr b1 0], [.ptr b2 0]]) := by rw [hh]; exact (upd_other _ _ hkq).trans hk2
 have hq3 : h3.T qa = some (.tail 1) := by rw [hh]; exact upd_same _ _ _
 clear hh hqa hk2 hbb2 hr2 hr2' hb1' a10
 have x11 : sB.extract 11 26 = sB11 := by decide
 have a11 := fun h => c_ixAny sB11 0 (by decide) (by decide) (by decide) h
 have p11 := fun h => c_ixByte sB11 2 (by decide) h
 have z11 : ((sB.data.toList.getD 11 0).toNat : Int) = 123 := rfl
 have y11 : sB.extract 12 13 = sN := by decide
 (repeat (first | refine gO rfl ?_ | ((first | refine gM zM44 ?_ | (with_reducible refine wM ?_ ?_) | ((with_reducible refine xS ?_); refine uD 2 zM44 zP1TE zP1TP 131 rfl (by kernel_rfl) ?_) | ((with_reducible refine xS ?_); refine uD 3 zM44 zP1UE zP1UP 131 rfl (by kernel_rfl) ?_) | ((with_reducible refine xR ?_); refine uE 5 zM44 zP1VE zP1VP 131 rfl (by kernel_rfl) ?_) | ((with_reducible refine xS ?_); refine uD 7 zM44 zP1WE zP1WP 131 rfl (by kernel_rfl) ?_) | ((with_reducible refine xS ?_); refine uD 9 zM44 zP1XE zP1XP 131 rfl (by kernel_rfl) ?_) | ((with_reducible refine xS ?_); refine uD 10 zM44 zP1YE zP1YP 131 rfl (by kernel_rfl) ?_)) <;> ((try with_reducible intro K1 hK1); simp only [go_sem, ↓reduceIte, reduceCtorEq, nA, nB, nC, nD, nE, nF, Int.reduceBEq, Int.reduceTMod, Int.reduceTDiv, Int.reduceMul, Int.reduceBNe, Int.reduceLT, Int.reduceLE, Int.reduceAdd, Int.reduceSub, Int.reduceNeg, decide_true, decide_false, Bool.true_and, Bool.false_and, Bool.and_true, Bool.and_false, Bool.or_false, Bool.or_true, Bool.true_or, Bool.false_or, Bool.not_true, Bool.not_false, true_implies, false_implies, true_and, and_true, Int.reduceToNat, hr3, z, x11, z11, upd_same, upd_upd] <;> and_intros <;> first | (apply hK1; clear hK1 K1) | (intros; first | omega | decide) | skip)) | (refine awp_cond (t := _) rfl (fun hq => ?_) (fun hq => ?_) <;> first | (exact absurd hq (by decide)) | (cases hq; done) | (clear hq)) | (refine awp_un 8 ?_) | (with_reducible exact rfl) | (with_reducible exact trivial) | ((with_reducible show uside _); first | exact True.intro | exact rfl) | ((with_reducible show opS _ _); exact True.intro) | (refine ⟨AV.v (.bool true), rfl, hK1 _ ?_⟩; clear hK1 K1) | (refine (a11 _).mono ?_; rintro _ hz ⟨rfl, hh⟩; (first | (refine hK1 _ ?_) | (refine ⟨rfl, hK1 _ ?_⟩)); clear hK1 K1; rw [hh]; clear hh hz) | (refine (p11 _).mono ?_; rintro _ hz ⟨rfl, hh⟩; (first | (refine hK1 _ ?_) | (refine ⟨rfl, hK1 _ ?_⟩)); clear hK1 K1; rw [hh]; clear hh hz)))
 refine ⟨.v (.string sN), ⟨⟨rfl, rfl, True.intro⟩, ?_⟩, rfl, ?_⟩
 ·unfold qE
  simp only [go_sem, ↓reduceIte, reduceCtorEq, Nat.reduceAdd, Nat.reduceSub, Nat.reduceMul, Nat.reduceLT, Nat.reduceLeDiff, Nat.reduceEqDiff, z11, y11]
  exact ⟨by decide, congrArg (fun s => AV.v (.string s)) y11⟩
 refine hK1 _ ?_; clear hK1 K1
 (repeat (first | refine gO rfl ?_ | ((first | refine gM zM44 ?_ | (with_reducible refine wM ?_ ?_) | ((with_reducible refine xS ?_); refine uD 2 zM44 zP1TE zP1TP 131 rfl (by kernel_rfl) ?_) | ((with_reducible refine xS ?_); refine uD 3 zM44 zP1UE zP1UP 131 rfl (by kernel_rfl) ?_) | ((with_reducible refine xR ?_); refine uE 5 zM44 zP1VE zP1VP 131 rfl (by kernel_rfl) ?_) | ((with_reducible refine xS ?_); refine uD 7 zM44 zP1WE zP1WP 131 rfl (by kernel_rfl) ?_) | ((with_reducible refine xS ?_); refine uD 9 zM44 zP1XE zP1XP 131 rfl (by kernel_rfl) ?_) | ((with_reducible refine xS ?_); refine uD 10 zM44 zP1YE zP1YP 131 rfl (by kernel_rfl) ?_)) <;> ((try with_reducible intro K1 hK1); simp only [go_sem, ↓reduceIte, reduceCtorEq, nA, nB, nC, nD, nE, nF, Int.reduceBEq, Int.reduceTMod, Int.reduceTDiv, Int.reduceMul, Int.reduceBNe, Int.reduceLT, Int.reduceLE, Int.reduceAdd, Int.reduceSub, Int.reduceNeg, decide_true, decide_false, Bool.true_and, Bool.false_and, Bool.and_true, Bool.and_false, Bool.or_false, Bool.or_true, Bool.true_or, Bool.false_or, Bool.not_true, Bool.not_false, true_implies, false_implies, true_and, and_true, Int.reduceToNat] <;> and_intros <;> first | (apply hK1; clear hK1 K1) | (intros; first | omega | decide) | skip)) | (refine awp_cond (t := _) rfl (fun hq => ?_) (fun hq => ?_) <;> first | (exact absurd hq (by decide)) | (cases hq; done) | (clear hq)) | (refine awp_un 8 ?_) | (with_reducible exact rfl) | (with_reducible exact trivial) | ((with_reducible show uside _); first | exact True.intro | exact rfl) | ((with_reducible show opS _ _); exact True.intro) | (refine ⟨AV.v (.bool true), rfl, hK1 _ ?_⟩; clear hK1 K1)))
 refine (c_tagN r ⟨upd h3.H r (some (.cells [.v (.string sB), .v (.int .i64 11), .arr 1 k 2, .v (.bool false)])), h3.T⟩ _ (c_fieldTagB r _ _ (c_names2 r k b1 b2 11 _ _ _ _ _ _ _ _ _ _ _ _ _ _ _ _ _ _ _ _ _ _ _ _ _ _ _ _ _ _ _ _ _ _ _ _ _ _ _ _ _ (upd_same _ _ _) hk3 ((upd_other _ _ hrb.symm).trans hc3) ((upd_other _ _ hrb2.symm).trans hb3)) (c_addOne r b2 qa _ _ _ _ _ _ _ _ _ _ _ _ _ _ _ _ _ _ _ _ tPlus ndN rfl _ (c_top2 r k b1 b2 11 _ (upd_same _ _ _) hk3) ((upd_other _ _ hrb2.symm).trans hb3) hq3))).mono ?_
 rintro _ h4 ⟨rfl, hh⟩
 refine ⟨rfl, hK1 _ ?_⟩; clear hK1 K1
 have hr4 : h4.H r = some (.cells [.v (.string sB), .v (.int .i64 11), .arr 1 k 2, .v (.bool false)]) := by rw [hh]; exact (upd_other _ _ hrb2).trans (upd_same _ _ _)
 have hb4 : h4.H b2 = some (.cells [vI 2, vS s0, vS s0, vS s0, nl, vI 4, nl, vS s0, vS sN, vS sG, vI 2, vS s0, vI 3, vB false, vS s0, vS s0, vS s0, nl, nl, .row 19 [tPlus, ndN] (some qa), vB false]) := by rw [hh]; exact upd_same _ _ _
 have hc4 : h4.H b1 = some (.cells [vI 0, vS s0, vS s0, vS s0, nl, vI 0, nl, vS s0, vS s0, vS s0, vI 0, vS s0, vI 0, vB false, vS s0, vS s0, vS s0, nl, nl, nl, vB false]) := by rw [hh]; exact (upd_other _ _ hbb).trans ((upd_other _ _ hrb.symm).trans hc3)
 have hk4 : h4.T k = some (.cont 1 [[.ptr b1 0], [.ptr b2 0]]) := by rw [hh]; exact (upd_other _ _ hkq).trans hk3
 clear hh hr3 hb3 hc3 hk3 hq3 hkq a11 p11
 have x14 : sB.extract 14 26 = sB14 := by decide
 have a14 := fun h => c_ixAny sB14 0 (by decide) (by decide) (by decide) h
 have p14 := fun h => c_ixByte sB14 5 (by decide) h
 have z14 : ((sB.data.toList.getD 14 0).toNat : Int) = 123 := rfl
 have y14 : sB.extract 15 19 = sElse := by decide
 (repeat (first | refine gO rfl ?_ | ((first | refine gM zM44 ?_ | (with_reducible refine wM ?_ ?_) | ((with_reducible refine xS ?_); refine uD 2 zM44 zP1TE zP1TP 131 rfl (by kernel_rfl) ?_) | ((with_reducible refine xS ?_); refine uD 3 zM44 zP1UE zP1UP 131 rfl (by kernel_rfl) ?_) | ((with_reducible refine xR ?_); refine uE 5 zM44 zP1VE zP1VP 131 rfl (by kernel_rfl) ?_) | ((with_reducible refine xS ?_); refine uD 7 zM44 zP1WE zP1WP 131 rfl (by kernel_rfl) ?_) | ((with_reducible refine xS ?_); refine uD 9 zM44 zP1XE zP1XP 131 rfl (by kernel_rfl) ?_) | ((with_reducible refine xS ?_); refine uD 10 zM44 zP1YE zP1YP 131 rfl (by kernel_rfl) ?_)) <;> ((try with_reducible intro K1 hK1); simp only [go_sem, ↓reduceIte, reduceCtorEq, nA, nB, nC, nD, nE, nF, Int.reduceBEq, Int.reduceTMod, Int.reduceTDiv, Int.reduceMul, Int.reduceBNe, Int.reduceLT, Int.reduceLE, Int.reduceAdd, Int.reduceSub, Int.reduceNeg, decide_true, decide_false, Bool.true_and, Bool.false_and, Bool.and_true, Bool.and_false, Bool.or_false, Bool.or_true, Bool.true_or, Bool.false_or, Bool.not_true, Bool.not_false, true_implies, false_implies, true_and, and_true, Int.reduceToNat, hr4, z, x14, z14, upd_same, upd_upd] <;> and_intros <;> first | (apply hK1; clear hK1 K1) | (intros; first | omega | decide) | skip)) | (refine awp_cond (t := _) rfl (fun hq => ?_) (fun hq => ?_) <;> first | (exact absurd hq (by decide)) | (cases hq; done) | (clear hq)) | (refine awp_un 8 ?_) | (with_reducible exact rfl) | (with_reducible exact trivial) | ((with_reducible show uside _); first | exact True.intro | exact rfl) | ((with_reducible show opS _ _); exact True.intro) | (refine ⟨AV.v (.bool true), rfl, hK1 _ ?_⟩; clear hK1 K1) | (refine (a14 _).mono ?_; rintro _ hz ⟨rfl, hh⟩; (first | (refine hK1 _ ?_) | (refine ⟨rfl, hK1 _ ?_⟩)); clear hK1 K1; rw [hh]; clear hh hz) | (refine (p14 _).mono ?_; rintro _ hz ⟨rfl, hh⟩; (first | (refine hK1 _ ?_) | (refine ⟨rfl, hK1 _ ?_⟩)); clear hK1 K1; rw [hh]; clear hh hz)))
 refine ⟨.v (.string sElse), ⟨⟨rfl, rfl, True.intro⟩, ?_⟩, rfl, ?_⟩
 ·unfold qE
  simp only [go_sem, ↓reduceIte, reduceCtorEq, Nat.reduceAdd, Nat.reduceSub, Nat.reduceMul, Nat.reduceLT, Nat.reduceLeDiff, Nat.reduceEqDiff, z14, y14]
  exact ⟨by decide, congrArg (fun s => AV.v (.string s)) y14⟩
 refine hK1 _ ?_; clear hK1 K1
 (repeat (first | refine gO rfl ?_ | ((first | refine gM zM44 ?_ | (with_reducible refine wM ?_ ?_) | ((with_reducible refine xS ?_); refine uD 2 zM44 zP1TE zP1TP 131 rfl (by kernel_rfl) ?_) | ((with_reducible refine xS ?_); refine uD 3 zM44 zP1UE zP1UP 131 rfl (by kernel_rfl) ?_) | ((with_reducible refine xR ?_); refine uE 5 zM44 zP1VE zP1VP 131 rfl (by kernel_rfl) ?_) | ((with_reducible refine xS ?_); refine uD 7 zM44 zP1WE zP1WP 131 rfl (by kernel_rfl) ?_) | ((with_reducible refine xS ?_); refine uD 9 zM44 zP1XE zP1XP 131 rfl (by kernel_rfl) ?_) | ((with_reducible refine xS ?_); refine uD 10 zM44 zP1YE zP1YP 131 rfl (by kernel_rfl) ?_)) <;> ((try with_reducible intro K1 hK1); simp only [go_sem, ↓reduceIte, reduceCtorEq, nA, nB, nC, nD, nE, nF, Int.reduceBEq, Int.reduceTMod, Int.reduceTDiv, Int.reduceMul, Int.reduceBNe, Int.reduceLT, Int.reduceLE, Int.reduceAdd, Int.reduceSub, Int.reduceNeg, decide_true, decide_false, Bool.true_and, Bool.false_and, Bool.and_true, Bool.and_false, Bool.or_false, Bool.or_true, Bool.true_or, Bool.false_or, Bool.not_true, Bool.not_false, true_implies, false_implies, true_and, and_true, Int.reduceToNat] <;> and_intros <;> first | (apply hK1; clear hK1 K1) | (intros; first | omega | decide) | skip)) | (refine awp_cond (t := _) rfl (fun hq => ?_) (fun hq => ?_) <;> first | (exact absurd hq (by decide)) | (cases hq; done) | (clear hq)) | (refine awp_un 8 ?_) | (with_reducible exact rfl) | (with_reducible exact trivial) | ((with_reducible show uside _); first | exact True.intro | exact rfl) | ((with_reducible show opS _ _); exact True.intro) | (refine ⟨AV.v (.bool true), rfl, hK1 _ ?_⟩; clear hK1 K1)))
 refine (c_tagElse r ⟨upd h4.H r (some (.cells [.v (.string sB), .v (.int .i64 14), .arr 1 k 2, .v (.bool false)])), h4.T⟩ _ (c_elseTag r k b1 b2 14 [tPlus, ndN] (some qa) _ (upd_same _ _ _) hk4 ((upd_other _ _ hrb2.symm).trans hb4))).mono ?_
 rintro _ h5 ⟨rfl, hh⟩
 refine ⟨rfl, hK1 _ ?_⟩; clear hK1 K1
 have hr5 : h5.H r = some (.cells [.v (.string sB), .v (.int .i64 14), .arr 1 k 2, .v (.bool false)]) := by rw [hh]; exact (upd_other _ _ hrb2).trans (upd_same _ _ _)
 have hb5 : h5.H b2 = some (.cells [vI 2, vS s0, vS s0, vS s0, nl, vI 4, nl, vS s0, vS sN, vS sG, vI 2, vS s0, vI 3, vB false, vS s0, vS s0, vS s0, .row 19 [tPlus, ndN] (some qa), nl, nl, vB true]) := by rw [hh]; exact upd_same _ _ _
 have hc5 : h5.H b1 = some (.cells [vI 0, vS s0, vS s0, vS s0, nl, vI 0, nl, vS s0, vS s0, vS s0, vI 0, vS s0, vI 0, vB false, vS s0, vS s0, vS s0, nl, nl, nl, vB false]) := by rw [hh]; exact (upd_other _ _ hbb).trans ((upd_other _ _ hrb.symm).trans hc4)
 have hk5 : h5.T k = some (.cont 1 [[.ptr b1 0], [.ptr b2 0]]) := by rw [hh]; exact hk4
 clear hh hr4 hb4 hc4 hk4 a14 p14
 have x20 : sB.extract 20 26 = sB20 := by decide
 have a20 := fun h => c_ixAny sB20 1 (by decide) (by decide) (by decide) h
 have y20 : sB.extract 20 21 = sMinus := by decide
 (repeat (first | refine gO rfl ?_ | ((first | refine gM zM44 ?_ | (with_reducible refine wM ?_ ?_) | ((with_reducible refine xS ?_); refine uD 2 zM44 zP1TE zP1TP 131 rfl (by kernel_rfl) ?_) | ((with_reducible refine xS ?_); refine uD 3 zM44 zP1UE zP1UP 131 rfl (by kernel_rfl) ?_) | ((with_reducible refine xR ?_); refine uE 5 zM44 zP1VE zP1VP 131 rfl (by kernel_rfl) ?_) | ((with_reducible refine xS ?_); refine uD 7 zM44 zP1WE zP1WP 131 rfl (by kernel_rfl) ?_) | ((with_reducible refine xS ?_); refine uD 9 zM44 zP1XE zP1XP 131 rfl (by kernel_rfl) ?_) | ((with_reducible refine xS ?_); refine uD 10 zM44 zP1YE zP1YP 131 rfl (by kernel_rfl) ?_)) <;> ((try with_reducible intro K1 hK1); simp only [go_sem, ↓reduceIte, reduceCtorEq, nA, nB, nC, nD, nE, nF, Int.reduceBEq, Int.reduceTMod, Int.reduceTDiv, Int.reduceMul, Int.reduceBNe, Int.reduceLT, Int.reduceLE, Int.reduceAdd, Int.reduceSub, Int.reduceNeg, decide_true, decide_false, Bool.true_and, Bool.false_and, Bool.and_true, Bool.and_false, Bool.or_false, Bool.or_true, Bool.true_or, Bool.false_or, Bool.not_true, Bool.not_false, true_implies, false_implies, true_and, and_true, Int.reduceToNat, hr5, z, x20, y20, upd_same, upd_upd] <;> and_intros <;> first | (apply hK1; clear hK1 K1) | (intros; first | omega | decide) | skip)) | (refine awp_cond (t := _) rfl (fun hq => ?_) (fun hq => ?_) <;> first | (exact absurd hq (by decide)) | (cases hq; done) | (clear hq)) | (refine awp_un 8 ?_) | (with_reducible exact rfl) | (with_reducible exact trivial) | ((with_reducible show uside _); first | exact True.intro | exact rfl) | ((with_reducible show opS _ _); exact True.intro) | (refine ⟨AV.v (.bool true), rfl, hK1 _ ?_⟩; clear hK1 K1) | (refine (a20 _).mono ?_; rintro _ hz ⟨rfl, hh⟩; (first | (refine hK1 _ ?_) | (refine ⟨rfl, hK1 _ ?_⟩)); clear hK1 K1; rw [hh]; clear hh hz)))
 have g2 := fun hx hr hk hb => c_addNil r b2 (vI 2) (vS s0) (vS s0) (vS s0) nl (vI 4) nl (vS s0) (vS sN) (vS sG) (vI 2) (vS s0) (vI 3) (vB false) (vS s0) (vS s0) (vS s0) (.row 19 [tPlus, ndN] (some qa)) nl (vB true) tMinus rfl hx (c_top2 r k b1 b2 20 hx hr hk) hb
 generalize htm : tMinus = tm at *
 unfold rdB vS vI vB nl s0 at g2
 unfold tMinus vS vI vB nl s0 at htm
 subst htm
 refine (g2 ⟨upd h5.H r (some (.cells [.v (.string sB), .v (.int .i64 20), .arr 1 k 2, .v (.bool false)])), h5.T⟩ (upd_same _ _ _) hk5 ((upd_other _ _ hrb2.symm).trans hb5)).mono ?_
 rintro _ h6 ⟨rfl, qb, hqb, hh⟩
 refine hK1 _ ?_; clear hK1 K1 g2
 have hr6 : h6.H r = some (.cells [.v (.string sB), .v (.int .i64 20), .arr 1 k 2, .v (.bool false)]) := by rw [hh]; exact (upd_other _ _ hrb2).trans (upd_same _ _ _)
 have hb6 : h6.H b2 = some (.cells [vI 2, vS s0, vS s0, vS s0, nl, vI 4, nl, vS s0, vS sN, vS sG, vI 2, vS s0, vI 3, vB false, vS s0, vS s0, vS s0, .row 19 [tPlus, ndN] (some qa), nl, .row 19 [tMinus] (some qb), vB true]) := by rw [hh]; exact upd_same _ _ _
 have hc6 : h6.H b1 = some (.cells [vI 0, vS s0, vS s0, vS s0, nl, vI 0, nl, vS s0, vS s0, vS s0, vI 0, vS s0, vI 0, vB false, vS s0, vS s0, vS s0, nl, nl, nl, vB false]) := by rw [hh]; exact (upd_other _ _ hbb).trans ((upd_other _ _ hrb.symm).trans hc5)
 have hk6 : h6.T k = some (.cont 1 [[.ptr b1 0], [.ptr b2 0]]) := by
  have hkq : k ≠ qb := by rintro rfl; have h9 : h5.T k = none := hqb; rw [hk5] at h9; cases h9
  rw [hh]; exact (upd_other _ _ hkq).trans hk5
 clear hh hr5 hb5 hc5 hk5 hqb a20
 have x21 : sB.extract 21 26 = sB21 := by decide
 have a21 := fun h => c_ixAny sB21 0 (by decide) (by decide) (by decide) h
 have p21 := fun h => c_ixByte sB21 4 (by decide) h
 have z21 : ((sB.data.toList.getD 21 0).toNat : Int) = 123 := rfl
 have y21 : sB.extract 22 25 = sEnd := by decide
 (repeat (first | refine gO rfl ?_ | ((first | refine gM zM44 ?_ | (with_reducible refine wM ?_ ?_) | ((with_reducible refine xS ?_); refine uD 2 zM44 zP1TE zP1TP 131 rfl (by kernel_rfl) ?_) | ((with_reducible refine xS ?_); refine uD 3 zM44 zP1UE zP1UP 131 rfl (by kernel_rfl) ?_) | ((with_reducible refine xR ?_); refine uE 5 zM44 zP1VE zP1VP 131 rfl (by kernel_rfl) ?_) | ((with_reducible refine xS ?_); refine uD 7 zM44 zP1WE zP1WP 131 rfl (by kernel_rfl) ?_) | ((with_reducible refine xS ?_); refine uD 9 zM44 zP1XE zP1XP 131 rfl (by kernel_rfl) ?_) | ((with_reducible refine xS ?_); refine uD 10 zM44 zP1YE zP1YP 131 rfl (by kernel_rfl) ?_)) <;> ((try with_reducible intro K1 hK1); simp only [go_sem, ↓reduceIte, reduceCtorEq, nA, nB, nC, nD, nE, nF, Int.reduceBEq, Int.reduceTMod, Int.reduceTDiv, Int.reduceMul, Int.reduceBNe, Int.reduceLT, Int.reduceLE, Int.reduceAdd, Int.reduceSub, Int.reduceNeg, decide_true, decide_false, Bool.true_and, Bool.false_and, Bool.and_true, Bool.and_false, Bool.or_false, Bool.or_true, Bool.true_or, Bool.false_or, Bool.not_true, Bool.not_false, true_implies, false_implies, true_and, and_true, Int.reduceToNat, hr6, z, x21, z21, upd_same, upd_upd] <;> and_intros <;> first | (apply hK1; clear hK1 K1) | (intros; first | omega | decide) | skip)) | (refine awp_cond (t := _) rfl (fun hq => ?_) (fun hq => ?_) <;> first | (exact absurd hq (by decide)) | (cases hq; done) | (clear hq)) | (refine awp_un 8 ?_) | (with_reducible exact rfl) | (with_reducible exact trivial) | ((with_reducible show uside _); first | exact True.intro | exact rfl) | ((with_reducible show opS _ _); exact True.intro) | (refine ⟨AV.v (.bool true), rfl, hK1 _ ?_⟩; clear hK1 K1) | (refine (a21 _).mono ?_; rintro _ hz ⟨rfl, hh⟩; (first | (refine hK1 _ ?_) | (refine ⟨rfl, hK1 _ ?_⟩)); clear hK1 K1; rw [hh]; clear hh hz) | (refine (p21 _).mono ?_; rintro _ hz ⟨rfl, hh⟩; (first | (refine hK1 _ ?_) | (refine ⟨rfl, hK1 _ ?_⟩)); clear hK1 K1; rw [hh]; clear hh hz)))
 refine ⟨.v (.string sEnd), ⟨⟨rfl, rfl, True.intro⟩, ?_⟩, rfl, ?_⟩
 ·unfold qE
  simp only [go_sem, ↓reduceIte, reduceCtorEq, Nat.reduceAdd, Nat.reduceSub, Nat.reduceMul, Nat.reduceLT, Nat.reduceLeDiff, Nat.reduceEqDiff, z21, y21]
  exact ⟨by decide, congrArg (fun s => AV.v (.string s)) y21⟩
 refine hK1 _ ?_; clear hK1 K1
 (repeat (first | refine gO rfl ?_ | ((first | refine gM zM44 ?_ | (with_reducible refine wM ?_ ?_) | ((with_reducible refine xS ?_); refine uD 2 zM44 zP1TE zP1TP 131 rfl (by kernel_rfl) ?_) | ((with_reducible refine xS ?_); refine uD 3 zM44 zP1UE zP1UP 131 rfl (by kernel_rfl) ?_) | ((with_reducible refine xR ?_); refine uE 5 zM44 zP1VE zP1VP 131 rfl (by kernel_rfl) ?_) | ((with_reducible refine xS ?_); refine uD 7 zM44 zP1WE zP1WP 131 rfl (by kernel_rfl) ?_) | ((with_reducible refine xS ?_); refine uD 9 zM44 zP1XE zP1XP 131 rfl (by kernel_rfl) ?_) | ((with_reducible refine xS ?_); refine uD 10 zM44 zP1YE zP1YP 131 rfl (by kernel_rfl) ?_)) <;> ((try with_reducible intro K1 hK1); simp only [go_sem, ↓reduceIte, reduceCtorEq, nA, nB, nC, nD, nE, nF, Int.reduceBEq, Int.reduceTMod, Int.reduceTDiv, Int.reduceMul, Int.reduceBNe, Int.reduceLT, Int.reduceLE, Int.reduceAdd, Int.reduceSub, Int.reduceNeg, decide_true, decide_false, Bool.true_and, Bool.false_and, Bool.and_true, Bool.and_false, Bool.or_false, Bool.or_true, Bool.true_or, Bool.false_or, Bool.not_true, Bool.not_false, true_implies, false_implies, true_and, and_true, Int.reduceToNat] <;> and_intros <;> first | (apply hK1; clear hK1 K1) | (intros; first | omega | decide) | skip)) | (refine awp_cond (t := _) rfl (fun hq => ?_) (fun hq => ?_) <;> first | (exact absurd hq (by decide)) | (cases hq; done) | (clear hq)) | (refine awp_un 8 ?_) | (with_reducible exact rfl) | (with_reducible exact trivial) | ((with_reducible show uside _); first | exact True.intro | exact rfl) | ((with_reducible show opS _ _); exact True.intro) | (refine ⟨AV.v (.bool true), rfl, hK1 _ ?_⟩; clear hK1 K1)))
 refine (c_tagEnd r ⟨upd h6.H r (some (.cells [.v (.string sB), .v (.int .i64 21), .arr 1 k 2, .v (.bool false)])), h6.T⟩ _ (c_endTag r k b1 b2 21 [tPlus, ndN] [tMinus] (some qa) (some qb) _ (upd_same _ _ _) hk6 ((upd_other _ _ hrb2.symm).trans hb6) ((upd_other _ _ hrb.symm).trans hc6) hrb2 hrb hbb)).mono ?_
 rintro _ h7 ⟨rfl, q, kk, hr7, hk7, hb7⟩
 refine ⟨rfl, hK1 _ ?_⟩; clear hK1 K1
 have hr7' := hr7
 unfold rdB vS vI vB at hr7'
 clear hr6 hb6 hc6 hk6 a21 p21
 (repeat (first | refine gO rfl ?_ | ((first | refine gM zM44 ?_ | (with_reducible refine wM ?_ ?_) | ((with_reducible refine xS ?_); refine uD 2 zM44 zP1TE zP1TP 131 rfl (by kernel_rfl) ?_) | ((with_reducible refine xS ?_); refine uD 3 zM44 zP1UE zP1UP 131 rfl (by kernel_rfl) ?_) | ((with_reducible refine xR ?_); refine uE 5 zM44 zP1VE zP1VP 131 rfl (by kernel_rfl) ?_) | ((with_reducible refine xS ?_); refine uD 7 zM44 zP1WE zP1WP 131 rfl (by kernel_rfl) ?_) | ((with_reducible refine xS ?_); refine uD 9 zM44 zP1XE zP1XP 131 rfl (by kernel_rfl) ?_) | ((with_reducible refine xS ?_); refine uD 10 zM44 zP1YE zP1YP 131 rfl (by kernel_rfl) ?_)) <;> ((try with_reducible intro K1 hK1); simp only [go_sem, ↓reduceIte, reduceCtorEq, nA, nB, nC, nD, nE, nF, Int.reduceBEq, Int.reduceTMod, Int.reduceTDiv, Int.reduceMul, Int.reduceBNe, Int.reduceLT, Int.reduceLE, Int.reduceAdd, Int.reduceSub, Int.reduceNeg, decide_true, decide_false, Bool.true_and, Bool.false_and, Bool.and_true, Bool.and_false, Bool.or_false, Bool.or_true, Bool.true_or, Bool.false_or, Bool.not_true, Bool.not_false, true_implies, false_implies, true_and, and_true, Int.reduceToNat, hr7', z, nc1, upd_same, upd_upd] <;> and_intros <;> first | (apply hK1; clear hK1 K1) | (intros; first | omega | decide) | skip)) | (refine awp_cond (t := _) rfl (fun hq => ?_) (fun hq => ?_) <;> first | (exact absurd hq (by decide)) | (cases hq; done) | (clear hq)) | (refine awp_un 8 ?_) | (with_reducible exact rfl) | (with_reducible exact trivial) | ((with_reducible show uside _); first | exact True.intro | exact rfl) | ((with_reducible show opS _ _); exact True.intro) | (refine ⟨AV.v (.bool true), rfl, hK1 _ ?_⟩; clear hK1 K1)))
 simp only [Tryz.results112, go_sem, ↓reduceIte, reduceCtorEq, nA, nB, nC, nD, nE, nF]
 exact ⟨_, _, Weak.refl _, Hp.le.refl _, rfl, b1, kk, q, qa, qb, upd_same _ _ _, hk7, (upd_other _ _ hrb.symm).trans hb7⟩
abbrev zP1ZE : List Nat := [0, 1, 2, 3, 4, 5, 6]
abbrev zP1ZP : List (Nat × List Nat × List Nat) := []
attribute [go_sem] zP1ZE zP1ZP
theorem c_parseB (h : Hp) : ACalls Tryz.prog 82 [.v (.string sB)] h (fun x h' => ∃ qa qb, x = .tup [.row 19 [ndIf qa qb] none, .v (.int .i64 0), .v (.int .i64 0)]) := by
 have h1 := fun r h hr => c_runB r h hr
 have z : (sB.size : Int) = 26 := rfl
 refine gE Tryz.func82 rfl (by kernel_rfl) 31 rfl fun c => ?_
 (repeat (first | refine gO rfl ?_ | ((first | refine gM zM40 ?_ | (with_reducible refine wM ?_ ?_) | ((with_reducible refine xS ?_); refine uD 5 zM40 zP1ZE zP1ZP 32 rfl (by kernel_rfl) ?_)) <;> ((try with_reducible intro K1 hK1); simp only [go_sem, ↓reduceIte, reduceCtorEq, nA, nB, nC, nD, nE, nF, Int.reduceBEq, Int.reduceTMod, Int.reduceTDiv, Int.reduceMul, Int.reduceBNe, Int.reduceLT, Int.reduceLE, Int.reduceAdd, Int.reduceSub, Int.reduceNeg, decide_true, decide_false, Bool.true_and, Bool.false_and, Bool.and_true, Bool.and_false, Bool.or_false, Bool.or_true, Bool.true_or, Bool.false_or, Bool.not_true, Bool.not_false, true_implies, false_implies, true_and, and_true, Int.reduceToNat, z] <;> and_intros <;> first | (apply hK1; clear hK1 K1) | (intros; first | omega | decide) | skip)) | (refine awp_cond (t := _) rfl (fun hq => ?_) (fun hq => ?_) <;> first | (exact absurd hq (by decide)) | (cases hq; done) | (clear hq)) | (refine awp_un 8 ?_) | (with_reducible exact rfl) | (with_reducible exact trivial) | ((with_reducible show uside _); first | exact True.intro | exact rfl) | ((with_reducible show opS _ _); exact True.intro) | (refine ⟨AV.v (.bool true), rfl, hK1 _ ?_⟩; clear hK1 K1)))
 intro r hr
 refine hK1 _ ?_; clear hK1 K1
 (repeat (first | refine gO rfl ?_ | ((first | refine gM zM40 ?_ | (with_reducible refine wM ?_ ?_) | ((with_reducible refine xS ?_); refine uD 5 zM40 zP1ZE zP1ZP 32 rfl (by kernel_rfl) ?_)) <;> ((try with_reducible intro K1 hK1); simp only [go_sem, ↓reduceIte, reduceCtorEq, nA, nB, nC, nD, nE, nF, Int.reduceBEq, Int.reduceTMod, Int.reduceTDiv, Int.reduceMul, Int.reduceBNe, Int.reduceLT, Int.reduceLE, Int.reduceAdd, Int.reduceSub, Int.reduceNeg, decide_true, decide_false, Bool.true_and, Bool.false_and, Bool.and_true, Bool.and_false, Bool.or_false, Bool.or_true, Bool.true_or, Bool.false_or, Bool.not_true, Bool.not_false, true_implies, false_implies, true_and, and_true, Int.reduceToNat] <;> and_intros <;> first | (apply hK1; clear hK1 K1) | (intros; first | omega | decide) | skip)) | (refine awp_cond (t := _) rfl (fun hq => ?_) (fun hq => ?_) <;> first | (exact absurd hq (by decide)) | (cases hq; done) | (clear hq)) | (refine awp_un 8 ?_) | (with_reducible exact rfl) | (with_reducible exact trivial) | ((with_reducible show uside _); first | exact True.intro | exact rfl) | ((with_reducible show opS _ _); exact True.intro) | (refine ⟨AV.v (.bool true), rfl, hK1 _ ?_⟩; clear hK1 K1)))
 refine (h1 r _ (upd_same _ _ _)).mono ?_
 rintro _ ha ⟨rfl, b, k, q, qa, qb, har, hak, hab⟩
 refine hK1 _ ?_; clear hK1 K1 h1
 generalize hnn : ([ndIf qa qb] : List (List AV)) = nn at *
 unfold rdB vS vI vB at har
 unfold vS vI vB nl s0 at hab
 (repeat (first | refine gO rfl ?_ | ((first | refine gM zM40 ?_ | (with_reducible refine wM ?_ ?_) | ((with_reducible refine xS ?_); refine uD 5 zM40 zP1ZE zP1ZP 32 rfl (by kernel_rfl) ?_)) <;> ((try with_reducible intro K1 hK1); simp only [go_sem, ↓reduceIte, reduceCtorEq, nA, nB, nC, nD, nE, nF, Int.reduceBEq, Int.reduceTMod, Int.reduceTDiv, Int.reduceMul, Int.reduceBNe, Int.reduceLT, Int.reduceLE, Int.reduceAdd, Int.reduceSub, Int.reduceNeg, decide_true, decide_false, Bool.true_and, Bool.false_and, Bool.and_true, Bool.and_false, Bool.or_false, Bool.or_true, Bool.true_or, Bool.false_or, Bool.not_true, Bool.not_false, true_implies, false_implies, true_and, and_true, Int.reduceToNat, har, hab, hak, nc1] <;> and_intros <;> first | (apply hK1; clear hK1 K1) | (intros; first | omega | decide) | skip)) | (refine awp_cond (t := _) rfl (fun hq => ?_) (fun hq => ?_) <;> first | (exact absurd hq (by decide)) | (cases hq; done) | (clear hq)) | (refine awp_un 8 ?_) | (with_reducible exact rfl) | (with_reducible exact trivial) | ((with_reducible show uside _); first | exact True.intro | exact rfl) | ((with_reducible show opS _ _); exact True.intro) | (refine ⟨AV.v (.bool true), rfl, hK1 _ ?_⟩; clear hK1 K1)))
 simp only [Tryz.results82, go_sem, ↓reduceIte, reduceCtorEq, nA, nB, nC, nD, nE, nF]
 exact ⟨_, _, Weak.tupW (Weak.row _ _ _), Hp.le.refl _, qa, qb, by rw [hnn]⟩
open Go.RowKit in
theorem w_bit (n m : Nat) (hn : (n = 1 ∧ m = 1) ∨ (n = 2 ∧ m = 2) ∨ (n = 3 ∧ m = 4)) (w : World) : Calls Tryz.prog 209 #[.int .i64 n] w fun e w' => e = .returned (.int .i64 m) ∧ Below w.heap.size w w' := by
 rcases hn with ⟨rfl, rfl⟩ | ⟨rfl, rfl⟩ | ⟨rfl, rfl⟩
 all_goals (
  go_enter Tryz.func209, Tryz.ntmps209
  go_wp2_with fail
  go_ret
  exact ⟨rfl, Below.refl _ _⟩)
theorem c_bit (n m : Nat) (hn : (n = 1 ∧ m = 1) ∨ (n = 2 ∧ m = 2) ∨ (n = 3 ∧ m = 4)) (h : Hp) : ACalls Tryz.prog 209 [.v (.int .i64 n)] h (fun r h' => r = .v (.int .i64 m) ∧ h' = h) :=
 acalls_pure (by kernel_rfl) [.int .i64 n] rfl (fun w => w_bit n m hn w) h
theorem c_kinds (h : Hp) : ACalls Tryz.prog 210 [.agg cdC] h (fun r h' => r = .v (.int .i64 2) ∧ h' = h) := by
 have b1 := fun h => c_bit 1 1 (by simp) h
 have b2 := fun h => c_bit 2 2 (by simp) h
 have b3 := fun h => c_bit 3 4 (by simp) h
 have e1 : (sG == ⟨#[61, 61]⟩) = false := by decide
 have e2 : (sG == ⟨#[33, 61]⟩) = false := by decide
 have o1 : bits .or .i64 1 2 = 3 := by decide
 have o2 : bits .or .i64 3 4 = 7 := by decide
 have o3 : bits .and .i64 2 2 = 2 := by decide
 have n1 : ((1 : Nat) : Int) = 1 := rfl
 have n2 : ((2 : Nat) : Int) = 2 := rfl
 have n3 : ((3 : Nat) : Int) = 3 := rfl
 have n4 : ((4 : Nat) : Int) = 4 := rfl
 rw [n1] at b1
 rw [n2] at b2
 rw [n3, n4] at b3
 unfold cdC vS vI vB nl s0
 refine gE Tryz.func210 rfl (by kernel_rfl) 28 rfl fun c => ?_
 (repeat (first | refine gO rfl ?_ | (refine gR fun K1 hK1 => ?_; simp only [go_sem, ↓reduceIte, reduceCtorEq, nA, nB, nC, nD, nE, nF, Int.reduceBEq, Int.reduceTMod, Int.reduceTDiv, Int.reduceMul, Int.reduceBNe, Int.reduceLT, Int.reduceLE, Int.reduceAdd, Int.reduceSub, Int.reduceNeg, decide_true, decide_false, Bool.true_and, Bool.false_and, Bool.and_true, Bool.and_false, Bool.or_false, Bool.or_true, Bool.true_or, Bool.false_or, Bool.not_true, Bool.not_false, true_implies, false_implies, true_and, and_true, Int.reduceToNat, e1, e2, o1, o2, o3] <;> and_intros <;> first | (apply hK1; clear hK1 K1) | (intros; first | omega | decide) | skip) | (refine awp_cond (t := _) rfl (fun hq => ?_) (fun hq => ?_) <;> first | (exact absurd hq (by decide)) | (cases hq; done) | (clear hq)) | (refine awp_un 8 ?_) | (with_reducible exact rfl) | (with_reducible exact trivial) | ((with_reducible show uside _); first | exact True.intro | exact rfl) | ((with_reducible show opS _ _); exact True.intro) | (refine ⟨AV.v (.bool true), rfl, hK1 _ ?_⟩; clear hK1 K1) | (refine (b1 _).mono ?_; rintro _ hz ⟨rfl, hh⟩; (first | (refine hK1 _ ?_) | (refine ⟨rfl, hK1 _ ?_⟩)); clear hK1 K1; rw [hh]; clear hh hz) | (refine (b2 _).mono ?_; rintro _ hz ⟨rfl, hh⟩; (first | (refine hK1 _ ?_) | (refine ⟨rfl, hK1 _ ?_⟩)); clear hK1 K1; rw [hh]; clear hh hz) | (refine (b3 _).mono ?_; rintro _ hz ⟨rfl, hh⟩; (first | (refine hK1 _ ?_) | (refine ⟨rfl, hK1 _ ?_⟩)); clear hK1 K1; rw [hh]; clear hh hz)))
 simp only [Tryz.results210, go_sem, ↓reduceIte, reduceCtorEq, nA, nB, nC, nD, nE, nF]
 exact ⟨_, _, Weak.refl _, Hp.le.refl _, rfl, rfl⟩
abbrev zP20E : List Nat := [0, 1, 2, 3, 4, 5, 6, 7, 9]
abbrev zP20P : List (Nat × List Nat × List Nat) := [(8, [9], []), (10, [], [11, 12, 13])]
abbrev zP21E : List Nat := [0, 1, 3, 4]
abbrev zP21P : List (Nat × List Nat × List Nat) := [(2, [4], []), (5, [], []), (6, [], [7])]
abbrev zP22E : List Nat := [0, 1, 2, 3, 4, 5, 6, 7, 8, 9]
abbrev zP22P : List (Nat × List Nat × List Nat) := [(10, [], [11, 12]), (13, [], [])]
abbrev zP23E : List Nat := [0, 1, 2, 3, 4, 5, 6, 7, 8, 9, 10, 11, 12, 13]
abbrev zP23P : List (Nat × List Nat × List Nat) := [(14, [], [])]
attribute [go_sem] zP20E zP20P zP21E zP21P zP22E zP22P zP23E zP23P
open Go.RowKit in
theorem w_ccUsed (b : Nat) (w : World) (h0 : w.cell? ⟨b, 2, none⟩ = some (.pointer (some ⟨b, 2, none⟩))) :
  Calls Tryz.prog 71 #[.pointer (some ⟨b, 2, none⟩)] w fun e w' => e = .returned (.tuple #[]) ∧ w' = w := by
 obtain ⟨j, hj, _⟩ := Option.map_eq_some_iff.1 sizeBuilder
 go_enter Tryz.func71, Tryz.ntmps71
 go_wp2
 rw [Lib.run_neq_ptr_same w _ Tryz.underlying71 hj]
 go_wp2
 go_end0
 exact ⟨rfl, rfl⟩
theorem g_ccAt2 (b : Nat) (D R Y I : AV) (h : Hp) (hb : h.H b = some (.obj 132 [D, R, .ptr b 2, Y, I])) :
  ACalls Tryz.prog 71 [.ptr b 2] h (fun r h' => r = .tup [] ∧ h' = h) := by
 refine acalls_mk (by kernel_rfl) fun G w vs hs hv ha => ?_
 obtain ⟨p, rfl, hat⟩ := one_ptrAt hv ha
 obtain ⟨p', ob, e', hh, ⟨us, rfl, hrr⟩, hval⟩ := hs.obj b _ hb
 rw [hat] at e'; cases e'
 obtain ⟨d, r, x, y, i, rfl, hd, hrw, hx, hy, hi, od, orr, oy, oi⟩ := five_cells hrr
 have hxe : x = .pointer (some ⟨p, 2, none⟩) := by
  cases hx with
  | ptr _ _ p2 hat2 => rw [hat] at hat2; cases hat2; rfl
 subst hxe
 have hc0 : w.cell? ⟨p, 2, none⟩ = some (.pointer (some ⟨p, 2, none⟩)) := by simp [World.cell?, hh]
 refine (w_ccUsed p w hc0).mono ?_
 rintro e w' ⟨rfl, rfl⟩
 exact ⟨_, rfl, .tup [], _, G, ⟨rfl, rfl⟩, GLe.refl _, Fr.refl _ _ _, hs, .tup [] #[] (fun _ => undef) rfl (fun j hj => by simp at hj) (fun j hj => by simp at hj)⟩
theorem g_writeAt2 (b k n : Nat) (D R I : AV) (s : ByteArray) (l : List UInt8) (h : Hp) (hb : h.H b = some (.obj 132 [D, R, .ptr b 2, .arr 1 k n, I])) (hT : h.T k = some (.buf 5 (rowB l))) (hn : l.length = n) (hbig : l.length + s.size ≤ 1000000000) :
  ACalls Tryz.prog 41 [.ptr b 2, .v (.string s)] h (fun r h' => r = .tup [.v (.int .i64 s.size), .v .nilIface] ∧ h' = ⟨upd h.H b (some (.obj 132 [D, R, .ptr b 2, .arr 1 k (n + s.size), I])), upd h.T k (some (.buf 5 (rowB (l ++ s.data.toList))))⟩) := by
 have hl : (rowB l).length = n := by rw [← hn]; exact List.length_map _
 have ha : rowB l ++ strRow s = rowB (l ++ s.data.toList) := rowB_app l s
 rw [← ha]
 generalize rowB l = bs at *
 refine gE Tryz.func41 rfl (by kernel_rfl) 17 rfl fun c => ?_
 (repeat (first | refine gO rfl ?_ | (refine gR fun K1 hK1 => ?_; simp only [go_sem, ↓reduceIte, reduceCtorEq, nA, nB, nC, nD, nE, nF] <;> and_intros <;> first | (apply hK1; clear hK1 K1) | (intros; first | omega | decide | (simp_all <;> omega)) | skip)))
 refine (g_ccAt2 b D R _ I h hb).mono ?_; rintro _ hz ⟨rfl, hh⟩; apply hK1; clear hK1 K1; rw [hh]; clear hh hz
 (repeat (first | refine gO rfl ?_ | (refine gR fun K1 hK1 => ?_; simp only [go_sem, ↓reduceIte, reduceCtorEq, nA, nB, nC, nD, nE, nF, hb, hT, hl] <;> and_intros <;> first | (apply hK1; clear hK1 K1) | (intros; first | omega | decide | (simp_all <;> omega)) | skip)))
 simp only [Tryz.results41, go_sem, ↓reduceIte, reduceCtorEq, nA, nB, nC, nD, nE, nF]
 exact ⟨_, _, Weak.refl _, Hp.le.refl _, rfl, rfl⟩
def bdX (X : AV) (k n : Nat) : AO := .obj 132 [.row 6 [fC] none, .v (.slice none 0 0), X, .arr 1 k n, .v (.int .i64 0)]
def hx (h : Hp) (b k n : Nat) (l : List UInt8) : Hp := ⟨upd h.H b (some (bdX (.ptr b 2) k n)), upd h.T k (some (.buf 5 (rowB l)))⟩
theorem c_lenB (b k n : Nat) (X : AV) (h : Hp) (hb : h.H b = some (bdX X k n)) : ACalls Tryz.prog 169 [.ptr b 2] h (fun r h' => r = .v (.int .i64 n) ∧ h' = h) := by
 unfold bdX at hb
 refine gE Tryz.func169 rfl (by kernel_rfl) 7 rfl fun c => ?_
 (repeat (first | refine gO rfl ?_ | (refine gR fun K1 hK1 => ?_; simp only [go_sem, ↓reduceIte, reduceCtorEq, nA, nB, nC, nD, nE, nF, Int.reduceBEq, Int.reduceTMod, Int.reduceTDiv, Int.reduceMul, Int.reduceBNe, Int.reduceLT, Int.reduceLE, Int.reduceAdd, Int.reduceSub, Int.reduceNeg, decide_true, decide_false, Bool.true_and, Bool.false_and, Bool.and_true, Bool.and_false, Bool.or_false, Bool.or_true, Bool.true_or, Bool.false_or, Bool.not_true, Bool.not_false, true_implies, false_implies, true_and, and_true, Int.reduceToNat, hb] <;> and_intros <;> first | (apply hK1; clear hK1 K1) | (intros; first | omega | decide) | skip) | (refine awp_cond (t := _) rfl (fun hq => ?_) (fun hq => ?_) <;> first | (exact absurd hq (by decide)) | (cases hq; done) | (clear hq)) | (refine awp_un 8 ?_) | (with_reducible exact rfl) | (with_reducible exact trivial) | ((with_reducible show uside _); first | exact True.intro | exact rfl) | ((with_reducible show opS _ _); exact True.intro) | (refine ⟨AV.v (.bool true), rfl, hK1 _ ?_⟩; clear hK1 K1)))
 simp only [Tryz.results169, go_sem, ↓reduceIte, reduceCtorEq, nA, nB, nC, nD, nE, nF]
 exact ⟨_, _, Weak.refl _, Hp.le.refl _, rfl, rfl⟩
theorem c_putPlus (b k : Nat) (h : Hp) (hb : h.H b = some (bdX (.v (.pointer none)) k 0)) (hT : h.T k = some (.buf 5 (rowB []))) : ACalls Tryz.prog 141 [.ptr b 0, .v (.string sPlus)] h (fun r h' => r = .v (.int .i64 0) ∧ h' = hx h b k 1 [43]) := by
 have h1 := c_lenB b k 0 _ h hb
 have h2 := g_writeAt b k _ _ _ sPlus h hb hT (by decide)
 have z : (sPlus.size : Int) = 1 := rfl
 have z0 : ((0 : Nat) : Int) = 0 := rfl
 rw [z0] at h1
 refine gE Tryz.func141 rfl (by kernel_rfl) 16 rfl fun c => ?_
 (repeat (first | refine gO rfl ?_ | (refine gR fun K1 hK1 => ?_; simp only [go_sem, ↓reduceIte, reduceCtorEq, nA, nB, nC, nD, nE, nF, Int.reduceBEq, Int.reduceTMod, Int.reduceTDiv, Int.reduceMul, Int.reduceBNe, Int.reduceLT, Int.reduceLE, Int.reduceAdd, Int.reduceSub, Int.reduceNeg, decide_true, decide_false, Bool.true_and, Bool.false_and, Bool.and_true, Bool.and_false, Bool.or_false, Bool.or_true, Bool.true_or, Bool.false_or, Bool.not_true, Bool.not_false, true_implies, false_implies, true_and, and_true, Int.reduceToNat, z] <;> and_intros <;> first | (apply hK1; clear hK1 K1) | (intros; first | omega | decide) | skip) | (refine awp_cond (t := _) rfl (fun hq => ?_) (fun hq => ?_) <;> first | (exact absurd hq (by decide)) | (cases hq; done) | (clear hq)) | (refine awp_un 8 ?_) | (with_reducible exact rfl) | (with_reducible exact trivial) | ((with_reducible show uside _); first | exact True.intro | exact rfl) | ((with_reducible show opS _ _); exact True.intro) | (refine ⟨AV.v (.bool true), rfl, hK1 _ ?_⟩; clear hK1 K1) | (refine (h1).mono ?_; rintro _ hz ⟨rfl, hh⟩; (first | (refine hK1 _ ?_) | (refine ⟨rfl, hK1 _ ?_⟩)); clear hK1 K1; rw [hh]; clear hh hz) | (refine (h2).mono ?_; rintro _ hz ⟨rfl, hh⟩; (first | (refine hK1 _ ?_) | (refine ⟨rfl, hK1 _ ?_⟩)); clear hK1 K1; rw [hh]; clear hh hz)))
 simp only [Tryz.results141, go_sem, ↓reduceIte, reduceCtorEq, nA, nB, nC, nD, nE, nF]
 exact ⟨_, _, Weak.refl _, Hp.le.refl _, rfl, rfl⟩
theorem c_putN (b k : Nat) (h : Hp) (hb : h.H b = some (bdX (.ptr b 2) k 1)) (hT : h.T k = some (.buf 5 (rowB [43]))) : ACalls Tryz.prog 141 [.ptr b 0, .v (.string s5)] h (fun r h' => r = .v (.int .i64 0) ∧ h' = hx h b k 2 [43, 53]) := by
 have h1 := c_lenB b k 1 _ h hb
 have h2 := g_writeAt2 b k 1 _ _ _ s5 [43] h hb hT rfl (by decide)
 have z : (s5.size : Int) = 1 := rfl
 have z0 : ((1 : Nat) : Int) = 1 := rfl
 rw [z0] at h1
 refine gE Tryz.func141 rfl (by kernel_rfl) 16 rfl fun c => ?_
 (repeat (first | refine gO rfl ?_ | (refine gR fun K1 hK1 => ?_; simp only [go_sem, ↓reduceIte, reduceCtorEq, nA, nB, nC, nD, nE, nF, Int.reduceBEq, Int.reduceTMod, Int.reduceTDiv, Int.reduceMul, Int.reduceBNe, Int.reduceLT, Int.reduceLE, Int.reduceAdd, Int.reduceSub, Int.reduceNeg, decide_true, decide_false, Bool.true_and, Bool.false_and, Bool.and_true, Bool.and_false, Bool.or_false, Bool.or_true, Bool.true_or, Bool.false_or, Bool.not_true, Bool.not_false, true_implies, false_implies, true_and, and_true, Int.reduceToNat, z] <;> and_intros <;> first | (apply hK1; clear hK1 K1) | (intros; first | omega | decide) | skip) | (refine awp_cond (t := _) rfl (fun hq => ?_) (fun hq => ?_) <;> first | (exact absurd hq (by decide)) | (cases hq; done) | (clear hq)) | (refine awp_un 8 ?_) | (with_reducible exact rfl) | (with_reducible exact trivial) | ((with_reducible show uside _); first | exact True.intro | exact rfl) | ((with_reducible show opS _ _); exact True.intro) | (refine ⟨AV.v (.bool true), rfl, hK1 _ ?_⟩; clear hK1 K1) | (refine (h1).mono ?_; rintro _ hz ⟨rfl, hh⟩; (first | (refine hK1 _ ?_) | (refine ⟨rfl, hK1 _ ?_⟩)); clear hK1 K1; rw [hh]; clear hh hz) | (refine (h2).mono ?_; rintro _ hz ⟨rfl, hh⟩; (first | (refine hK1 _ ?_) | (refine ⟨rfl, hK1 _ ?_⟩)); clear hK1 K1; rw [hh]; clear hh hz)))
 simp only [Tryz.results141, go_sem, ↓reduceIte, reduceCtorEq, nA, nB, nC, nD, nE, nF]
 exact ⟨_, _, Weak.refl _, Hp.le.refl _, rfl, rfl⟩
theorem c_fieldX (b k n : Nat) (X : AV) (h : Hp) (hb : h.H b = some (bdX X k n)) : ACalls Tryz.prog 142 [.ptr b 0, .agg [.v (.string ⟨#[]⟩), .v (.string sN)]] h (fun r h' => r = .tup [.agg fC, .v (.int .i64 0)] ∧ h' = h) := by
 have h1 := fun h => c_fieldAt h
 have e1 : (!((⟨#[]⟩ : ByteArray) == ⟨#[]⟩)) = false := by decide
 unfold bdX at hb
 rw [fC_eq] at *
 refine gE Tryz.func142 rfl (by kernel_rfl) 41 rfl fun c => ?_
 (repeat (first | refine gO rfl ?_ | (refine gM zM45 fun K1 hK1 => ?_; simp only [go_sem, ↓reduceIte, reduceCtorEq, nA, nB, nC, nD, nE, nF, Int.reduceBEq, Int.reduceTMod, Int.reduceTDiv, Int.reduceMul, Int.reduceBNe, Int.reduceLT, Int.reduceLE, Int.reduceAdd, Int.reduceSub, Int.reduceNeg, decide_true, decide_false, Bool.true_and, Bool.false_and, Bool.and_true, Bool.and_false, Bool.or_false, Bool.or_true, Bool.true_or, Bool.false_or, Bool.not_true, Bool.not_false, true_implies, false_implies, true_and, and_true, Int.reduceToNat] <;> and_intros <;> first | (apply hK1; clear hK1 K1) | (intros; first | omega | decide) | skip) | (refine awp_cond (t := _) rfl (fun hq => ?_) (fun hq => ?_) <;> first | (exact absurd hq (by decide)) | (cases hq; done) | (clear hq)) | (refine awp_un 8 ?_) | (with_reducible exact rfl) | (with_reducible exact trivial) | ((with_reducible show uside _); first | exact True.intro | exact rfl) | ((with_reducible show opS _ _); exact True.intro) | (refine ⟨AV.v (.bool true), rfl, hK1 _ ?_⟩; clear hK1 K1)))
 intro p hp
 refine hK1 _ ?_; clear hK1 K1
 have hpb : b ≠ p := by rintro rfl; rw [hp] at hb; cases hb
 have hb2 : ∀ o, upd h.H p o b = h.H b := fun o => upd_other _ _ hpb
 rw [hb] at hb2
 (repeat (first | refine gO rfl ?_ | (refine gM zM45 fun K1 hK1 => ?_; simp only [go_sem, ↓reduceIte, reduceCtorEq, nA, nB, nC, nD, nE, nF, Int.reduceBEq, Int.reduceTMod, Int.reduceTDiv, Int.reduceMul, Int.reduceBNe, Int.reduceLT, Int.reduceLE, Int.reduceAdd, Int.reduceSub, Int.reduceNeg, decide_true, decide_false, Bool.true_and, Bool.false_and, Bool.and_true, Bool.and_false, Bool.or_false, Bool.or_true, Bool.true_or, Bool.false_or, Bool.not_true, Bool.not_false, true_implies, false_implies, true_and, and_true, Int.reduceToNat, hb2, e1, e00, upd_same] <;> and_intros <;> first | (apply hK1; clear hK1 K1) | (intros; first | omega | decide) | skip) | (refine awp_cond (t := _) rfl (fun hq => ?_) (fun hq => ?_) <;> first | (exact absurd hq (by decide)) | (cases hq; done) | (clear hq)) | (refine awp_un 8 ?_) | (with_reducible exact rfl) | (with_reducible exact trivial) | ((with_reducible show uside _); first | exact True.intro | exact rfl) | ((with_reducible show opS _ _); exact True.intro) | (refine ⟨AV.v (.bool true), rfl, hK1 _ ?_⟩; clear hK1 K1) | (refine (h1 _).mono ?_; rintro _ hz ⟨rfl, hh⟩; (first | (refine hK1 _ ?_) | (refine ⟨rfl, hK1 _ ?_⟩)); clear hK1 K1; rw [hh]; clear hh hz)))
 simp only [Tryz.results142, go_sem, ↓reduceIte, reduceCtorEq, nA, nB, nC, nD, nE, nF]
 exact ⟨_, h, Weak.refl _, hle_obj hp, rfl, rfl⟩
theorem c_compares (b k n : Nat) (X : AV) (h : Hp) (hb : h.H b = some (bdX X k n)) : ACalls Tryz.prog 178 [.ptr b 0, .agg cdC] h (fun r h' => r = .tup [.v (.bool true), .v (.int .i64 0)] ∧ h' = h) := by
 have h1 := c_fieldX b k n X h hb
 have b2 := fun h => c_bit 2 2 (by simp) h
 have k1 := fun h => c_kinds h
 have o3 : bits .and .i64 2 2 = 2 := by decide
 have n2 : ((2 : Nat) : Int) = 2 := rfl
 have e1 : (sG == ⟨#[61, 61]⟩) = false := by decide
 have e2 : (sG == ⟨#[33, 61]⟩) = false := by decide
 have e3 : (sG == ⟨#[60]⟩) = false := by decide
 have e4 : (sG == ⟨#[60, 61]⟩) = false := by decide
 have e5 : (sG == ⟨#[62]⟩) = true := by decide
 rw [n2] at b2
 rw [fC_eq] at h1
 unfold cdC vS vI vB nl s0 at *
 refine gE Tryz.func178 rfl (by kernel_rfl) 103 rfl fun c => ?_
 (repeat (first | refine gO rfl ?_ | ((first | refine gM zM46 ?_ | (with_reducible refine wM ?_ ?_) | ((with_reducible refine xS ?_); refine uD 9 zM46 zP20E zP20P 105 rfl (by kernel_rfl) ?_)) <;> ((try with_reducible intro K1 hK1); simp only [go_sem, ↓reduceIte, reduceCtorEq, nA, nB, nC, nD, nE, nF, Int.reduceBEq, Int.reduceTMod, Int.reduceTDiv, Int.reduceMul, Int.reduceBNe, Int.reduceLT, Int.reduceLE, Int.reduceAdd, Int.reduceSub, Int.reduceNeg, decide_true, decide_false, Bool.true_and, Bool.false_and, Bool.and_true, Bool.and_false, Bool.or_false, Bool.or_true, Bool.true_or, Bool.false_or, Bool.not_true, Bool.not_false, true_implies, false_implies, true_and, and_true, Int.reduceToNat, o3, e1, e2, e3, e4, e5] <;> and_intros <;> first | (apply hK1; clear hK1 K1) | (intros; first | omega | decide) | skip)) | (refine awp_cond (t := _) rfl (fun hq => ?_) (fun hq => ?_) <;> first | (exact absurd hq (by decide)) | (cases hq; done) | (clear hq)) | (refine awp_un 8 ?_) | (with_reducible exact rfl) | (with_reducible exact trivial) | ((with_reducible show uside _); first | exact True.intro | exact rfl) | ((with_reducible show opS _ _); exact True.intro) | (refine ⟨AV.v (.bool true), rfl, hK1 _ ?_⟩; clear hK1 K1) | (refine (h1).mono ?_; rintro _ hz ⟨rfl, hh⟩; (first | (refine hK1 _ ?_) | (refine ⟨rfl, hK1 _ ?_⟩)); clear hK1 K1; rw [hh]; clear hh hz) | (refine (b2 _).mono ?_; rintro _ hz ⟨rfl, hh⟩; (first | (refine hK1 _ ?_) | (refine ⟨rfl, hK1 _ ?_⟩)); clear hK1 K1; rw [hh]; clear hh hz) | (refine (k1 _).mono ?_; rintro _ hz ⟨rfl, hh⟩; (first | (refine hK1 _ ?_) | (refine ⟨rfl, hK1 _ ?_⟩)); clear hK1 K1; rw [hh]; clear hh hz)))
 refine ⟨.v (.int .i64 2), ?_, rfl, ?_⟩
 ·unfold qE
  simp only [go_sem, ↓reduceIte, reduceCtorEq, Nat.reduceAdd, Nat.reduceSub, Nat.reduceMul, Nat.reduceLT, Nat.reduceLeDiff, Nat.reduceEqDiff, o3]
  done
 ((simp only [go_sem, ↓reduceIte, reduceCtorEq, nA, nB, nC, nD, nE, nF, o3]; (try and_intros); all_goals first | (refine hK1 _ ?_; clear hK1 K1) | (intros; first | omega | decide | (simp_all <;> omega)) | skip))
 (repeat (first | refine gO rfl ?_ | ((first | refine gM zM46 ?_ | (with_reducible refine wM ?_ ?_) | ((with_reducible refine xS ?_); refine uD 9 zM46 zP20E zP20P 105 rfl (by kernel_rfl) ?_)) <;> ((try with_reducible intro K1 hK1); simp only [go_sem, ↓reduceIte, reduceCtorEq, nA, nB, nC, nD, nE, nF, Int.reduceBEq, Int.reduceTMod, Int.reduceTDiv, Int.reduceMul, Int.reduceBNe, Int.reduceLT, Int.reduceLE, Int.reduceAdd, Int.reduceSub, Int.reduceNeg, decide_true, decide_false, Bool.true_and, Bool.false_and, Bool.and_true, Bool.and_false, Bool.or_false, Bool.or_true, Bool.true_or, Bool.false_or, Bool.not_true, Bool.not_false, true_implies, false_implies, true_and, and_true, Int.reduceToNat, o3, e1, e2, e3, e4, e5] <;> and_intros <;> first | (apply hK1; clear hK1 K1) | (intros; first | omega | decide) | skip)) | (refine awp_cond (t := _) rfl (fun hq => ?_) (fun hq => ?_) <;> first | (exact absurd hq (by decide)) | (cases hq; done) | (clear hq)) | (refine awp_un 8 ?_) | (with_reducible exact rfl) | (with_reducible exact trivial) | ((with_reducible show uside _); first | exact True.intro | exact rfl) | ((with_reducible show opS _ _); exact True.intro) | (refine ⟨AV.v (.bool true), rfl, hK1 _ ?_⟩; clear hK1 K1)))
 simp only [Tryz.results178, go_sem, ↓reduceIte, reduceCtorEq, nA, nB, nC, nD, nE, nF]
 exact ⟨_, _, Weak.refl _, Hp.le.refl _, rfl, rfl⟩
theorem c_holds (b k n : Nat) (X : AV) (h : Hp) (hb : h.H b = some (bdX X k n)) : ACalls Tryz.prog 145 [.ptr b 0, .agg cdC] h (fun r h' => r = .tup [.v (.bool true), .v (.int .i64 0)] ∧ h' = h) := by
 have h1 := c_compares b k n X h hb
 unfold cdC vS vI vB nl s0 at *
 refine gE Tryz.func145 rfl (by kernel_rfl) 91 rfl fun c => ?_
 (repeat (first | refine gO rfl ?_ | (refine gM zM47 fun K1 hK1 => ?_; simp only [go_sem, ↓reduceIte, reduceCtorEq, nA, nB, nC, nD, nE, nF, Int.reduceBEq, Int.reduceTMod, Int.reduceTDiv, Int.reduceMul, Int.reduceBNe, Int.reduceLT, Int.reduceLE, Int.reduceAdd, Int.reduceSub, Int.reduceNeg, decide_true, decide_false, Bool.true_and, Bool.false_and, Bool.and_true, Bool.and_false, Bool.or_false, Bool.or_true, Bool.true_or, Bool.false_or, Bool.not_true, Bool.not_false, true_implies, false_implies, true_and, and_true, Int.reduceToNat] <;> and_intros <;> first | (apply hK1; clear hK1 K1) | (intros; first | omega | decide) | skip) | (refine awp_cond (t := _) rfl (fun hq => ?_) (fun hq => ?_) <;> first | (exact absurd hq (by decide)) | (cases hq; done) | (clear hq)) | (refine awp_un 8 ?_) | (with_reducible exact rfl) | (with_reducible exact trivial) | ((with_reducible show uside _); first | exact True.intro | exact rfl) | ((with_reducible show opS _ _); exact True.intro) | (refine ⟨AV.v (.bool true), rfl, hK1 _ ?_⟩; clear hK1 K1) | (refine (h1).mono ?_; rintro _ hz ⟨rfl, hh⟩; (first | (refine hK1 _ ?_) | (refine ⟨rfl, hK1 _ ?_⟩)); clear hK1 K1; rw [hh]; clear hh hz)))
 simp only [Tryz.results145, go_sem, ↓reduceIte, reduceCtorEq, nA, nB, nC, nD, nE, nF]
 exact ⟨_, _, Weak.refl _, Hp.le.refl _, rfl, rfl⟩
theorem c_nodePlus (b k : Nat) (h : Hp) (hb : h.H b = some (bdX (.v (.pointer none)) k 0)) (hT : h.T k = some (.buf 5 (rowB []))) : ACalls Tryz.prog 114 [.ptr b 0, .agg tPlus] h (fun r h' => r = .v (.int .i64 0) ∧ h' = hx h b k 1 [43]) := by
 have h4 := c_putPlus b k h hb hT
 unfold tPlus vI vS vB nl s0
 refine gE Tryz.func114 rfl (by kernel_rfl) 130 rfl fun c => ?_
 (repeat (first | refine gO rfl ?_ | ((first | refine gM zM48 ?_ | (with_reducible refine wM ?_ ?_) | ((with_reducible refine xS ?_); refine uD 10 zM48 zP21E zP21P 132 rfl (by kernel_rfl) ?_) | ((with_reducible refine xS ?_); refine uD 29 zM48 zP22E zP22P 132 rfl (by kernel_rfl) ?_) | ((with_reducible refine xR ?_); refine uE 33 zM48 zP23E zP23P 132 rfl (by kernel_rfl) ?_)) <;> ((try with_reducible intro K1 hK1); simp only [go_sem, ↓reduceIte, reduceCtorEq, nA, nB, nC, nD, nE, nF, Int.reduceBEq, Int.reduceTMod, Int.reduceTDiv, Int.reduceMul, Int.reduceBNe, Int.reduceLT, Int.reduceLE, Int.reduceAdd, Int.reduceSub, Int.reduceNeg, decide_true, decide_false, Bool.true_and, Bool.false_and, Bool.and_true, Bool.and_false, Bool.or_false, Bool.or_true, Bool.true_or, Bool.false_or, Bool.not_true, Bool.not_false, true_implies, false_implies, true_and, and_true, Int.reduceToNat] <;> and_intros <;> first | (apply hK1; clear hK1 K1) | (intros; first | omega | decide) | skip)) | (refine awp_cond (t := _) rfl (fun hq => ?_) (fun hq => ?_) <;> first | (exact absurd hq (by decide)) | (cases hq; done) | (clear hq)) | (refine awp_un 8 ?_) | (with_reducible exact rfl) | (with_reducible exact trivial) | ((with_reducible show uside _); first | exact True.intro | exact rfl) | ((with_reducible show opS _ _); exact True.intro) | (refine ⟨AV.v (.bool true), rfl, hK1 _ ?_⟩; clear hK1 K1) | (refine (h4).mono ?_; rintro _ hz ⟨rfl, hh⟩; (first | (refine hK1 _ ?_) | (refine ⟨rfl, hK1 _ ?_⟩)); clear hK1 K1; rw [hh]; clear hh hz)))
 simp only [Tryz.results114, go_sem, ↓reduceIte, reduceCtorEq, nA, nB, nC, nD, nE, nF]
 exact ⟨_, _, Weak.refl _, Hp.le.refl _, rfl, rfl⟩
theorem c_nodeN (b k : Nat) (h : Hp) (hb : h.H b = some (bdX (.ptr b 2) k 1)) (hT : h.T k = some (.buf 5 (rowB [43]))) : ACalls Tryz.prog 114 [.ptr b 0, .agg ndN] h (fun r h' => r = .v (.int .i64 0) ∧ h' = hx h b k 2 [43, 53]) := by
 have h1 := c_fieldX b k 1 _ h hb
 have h2 := fun h => c_said h
 have h3 := fun h => c_filtered s5 h
 have h4 := c_putN b k h hb hT
 rw [fC_eq] at h1 h2
 unfold s5 at h3 h4
 unfold ndN ndCp vS vI vB nl s0
 refine gE Tryz.func114 rfl (by kernel_rfl) 130 rfl fun c => ?_
 (repeat (first | refine gO rfl ?_ | ((first | refine gM zM48 ?_ | (with_reducible refine wM ?_ ?_) | ((with_reducible refine xS ?_); refine uD 10 zM48 zP21E zP21P 132 rfl (by kernel_rfl) ?_) | ((with_reducible refine xS ?_); refine uD 29 zM48 zP22E zP22P 132 rfl (by kernel_rfl) ?_) | ((with_reducible refine xR ?_); refine uE 33 zM48 zP23E zP23P 132 rfl (by kernel_rfl) ?_)) <;> ((try with_reducible intro K1 hK1); simp only [go_sem, ↓reduceIte, reduceCtorEq, nA, nB, nC, nD, nE, nF, Int.reduceBEq, Int.reduceTMod, Int.reduceTDiv, Int.reduceMul, Int.reduceBNe, Int.reduceLT, Int.reduceLE, Int.reduceAdd, Int.reduceSub, Int.reduceNeg, decide_true, decide_false, Bool.true_and, Bool.false_and, Bool.and_true, Bool.and_false, Bool.or_false, Bool.or_true, Bool.true_or, Bool.false_or, Bool.not_true, Bool.not_false, true_implies, false_implies, true_and, and_true, Int.reduceToNat] <;> and_intros <;> first | (apply hK1; clear hK1 K1) | (intros; first | omega | decide) | skip)) | (refine awp_cond (t := _) rfl (fun hq => ?_) (fun hq => ?_) <;> first | (exact absurd hq (by decide)) | (cases hq; done) | (clear hq)) | (refine awp_un 8 ?_) | (with_reducible exact rfl) | (with_reducible exact trivial) | ((with_reducible show uside _); first | exact True.intro | exact rfl) | ((with_reducible show opS _ _); exact True.intro) | (refine ⟨AV.v (.bool true), rfl, hK1 _ ?_⟩; clear hK1 K1) | (refine (h1).mono ?_; rintro _ hz ⟨rfl, hh⟩; (first | (refine hK1 _ ?_) | (refine ⟨rfl, hK1 _ ?_⟩)); clear hK1 K1; rw [hh]; clear hh hz) | (refine (h2 _).mono ?_; rintro _ hz ⟨rfl, hh⟩; (first | (refine hK1 _ ?_) | (refine ⟨rfl, hK1 _ ?_⟩)); clear hK1 K1; rw [hh]; clear hh hz) | (refine (h3 _).mono ?_; rintro _ hz ⟨rfl, hh⟩; (first | (refine hK1 _ ?_) | (refine ⟨rfl, hK1 _ ?_⟩)); clear hK1 K1; rw [hh]; clear hh hz) | (refine (h4).mono ?_; rintro _ hz ⟨rfl, hh⟩; (first | (refine hK1 _ ?_) | (refine ⟨rfl, hK1 _ ?_⟩)); clear hK1 K1; rw [hh]; clear hh hz)))
 simp only [Tryz.results114, go_sem, ↓reduceIte, reduceCtorEq, nA, nB, nC, nD, nE, nF]
 exact ⟨_, _, Weak.refl _, Hp.le.refl _, rfl, rfl⟩
theorem hx_hx (h : Hp) (b k n m : Nat) (l l2 : List UInt8) : hx (hx h b k n l) b k m l2 = hx h b k m l2 := by
 unfold hx
 simp only [upd_upd]
theorem c_nodesYes (b k : Nat) (qa : Option Nat) (h : Hp) (hb : h.H b = some (bdX (.v (.pointer none)) k 0)) (hT : h.T k = some (.buf 5 (rowB []))) : ACalls Tryz.prog 84 [.ptr b 0, .row 19 [tPlus, ndN] qa] h (fun r h' => r = .v (.int .i64 0) ∧ h' = hx h b k 2 [43, 53]) := by
 have h1 := c_nodePlus b k h hb hT
 have h2 := c_nodeN b k (hx h b k 1 [43]) (upd_same _ _ _) (upd_same _ _ _)
 rw [hx_hx] at h2
 unfold tPlus ndN ndCp vS vI vB nl s0 at *
 refine gE Tryz.func84 rfl (by kernel_rfl) 19 rfl fun c => ?_
 (repeat (first | refine gO rfl ?_ | (refine gM zM49 fun K1 hK1 => ?_; simp only [go_sem, ↓reduceIte, reduceCtorEq, nA, nB, nC, nD, nE, nF, Int.reduceBEq, Int.reduceTMod, Int.reduceTDiv, Int.reduceMul, Int.reduceBNe, Int.reduceLT, Int.reduceLE, Int.reduceAdd, Int.reduceSub, Int.reduceNeg, decide_true, decide_false, Bool.true_and, Bool.false_and, Bool.and_true, Bool.and_false, Bool.or_false, Bool.or_true, Bool.true_or, Bool.false_or, Bool.not_true, Bool.not_false, true_implies, false_implies, true_and, and_true, Int.reduceToNat, nc2] <;> and_intros <;> first | (apply hK1; clear hK1 K1) | (intros; first | omega | decide) | skip) | (refine awp_cond (t := _) rfl (fun hq => ?_) (fun hq => ?_) <;> first | (exact absurd hq (by decide)) | (cases hq; done) | (clear hq)) | (refine awp_un 8 ?_) | (with_reducible exact rfl) | (with_reducible exact trivial) | ((with_reducible show uside _); first | exact True.intro | exact rfl) | ((with_reducible show opS _ _); exact True.intro) | (refine ⟨AV.v (.bool true), rfl, hK1 _ ?_⟩; clear hK1 K1) | (refine (h1).mono ?_; rintro _ hz ⟨rfl, hh⟩; (first | (refine hK1 _ ?_) | (refine ⟨rfl, hK1 _ ?_⟩)); clear hK1 K1; rw [hh]; clear hh hz) | (refine (h2).mono ?_; rintro _ hz ⟨rfl, hh⟩; (first | (refine hK1 _ ?_) | (refine ⟨rfl, hK1 _ ?_⟩)); clear hK1 K1; rw [hh]; clear hh hz)))
 simp only [Tryz.results84, go_sem, ↓reduceIte, reduceCtorEq, nA, nB, nC, nD, nE, nF]
 exact ⟨_, _, Weak.refl _, Hp.le.refl _, rfl, rfl⟩
theorem c_nodeIf (b k qa qb : Nat) (h : Hp) (hb : h.H b = some (bdX (.v (.pointer none)) k 0)) (hT : h.T k = some (.buf 5 (rowB []))) : ACalls Tryz.prog 114 [.ptr b 0, .agg (ndIf qa qb)] h (fun r h' => r = .v (.int .i64 0) ∧ h' = hx h b k 2 [43, 53]) := by
 have h1 := c_holds b k 0 _ h hb
 have h2 := c_nodesYes b k (some qa) h hb hT
 generalize hyy : ([tPlus, ndN] : List (List AV)) = yy at *
 generalize hnn : ([tMinus] : List (List AV)) = nn at *
 unfold ndIf
 rw [hyy, hnn]
 unfold cdC vS vI vB nl s0 at *
 refine gE Tryz.func114 rfl (by kernel_rfl) 130 rfl fun c => ?_
 (repeat (first | refine gO rfl ?_ | ((first | refine gM zM48 ?_ | (with_reducible refine wM ?_ ?_) | ((with_reducible refine xS ?_); refine uD 10 zM48 zP21E zP21P 132 rfl (by kernel_rfl) ?_) | ((with_reducible refine xS ?_); refine uD 29 zM48 zP22E zP22P 132 rfl (by kernel_rfl) ?_) | ((with_reducible refine xR ?_); refine uE 33 zM48 zP23E zP23P 132 rfl (by kernel_rfl) ?_)) <;> ((try with_reducible intro K1 hK1); simp only [go_sem, ↓reduceIte, reduceCtorEq, nA, nB, nC, nD, nE, nF, Int.reduceBEq, Int.reduceTMod, Int.reduceTDiv, Int.reduceMul, Int.reduceBNe, Int.reduceLT, Int.reduceLE, Int.reduceAdd, Int.reduceSub, Int.reduceNeg, decide_true, decide_false, Bool.true_and, Bool.false_and, Bool.and_true, Bool.and_false, Bool.or_false, Bool.or_true, Bool.true_or, Bool.false_or, Bool.not_true, Bool.not_false, true_implies, false_implies, true_and, and_true, Int.reduceToNat] <;> and_intros <;> first | (apply hK1; clear hK1 K1) | (intros; first | omega | decide) | skip)) | (refine awp_cond (t := _) rfl (fun hq => ?_) (fun hq => ?_) <;> first | (exact absurd hq (by decide)) | (cases hq; done) | (clear hq)) | (refine awp_un 8 ?_) | (with_reducible exact rfl) | (with_reducible exact trivial) | ((with_reducible show uside _); first | exact True.intro | exact rfl) | ((with_reducible show opS _ _); exact True.intro) | (refine ⟨AV.v (.bool true), rfl, hK1 _ ?_⟩; clear hK1 K1) | (refine (h1).mono ?_; rintro _ hz ⟨rfl, hh⟩; (first | (refine hK1 _ ?_) | (refine ⟨rfl, hK1 _ ?_⟩)); clear hK1 K1; rw [hh]; clear hh hz) | (refine (h2).mono ?_; rintro _ hz ⟨rfl, hh⟩; (first | (refine hK1 _ ?_) | (refine ⟨rfl, hK1 _ ?_⟩)); clear hK1 K1; rw [hh]; clear hh hz)))
 simp only [Tryz.results114, go_sem, ↓reduceIte, reduceCtorEq, nA, nB, nC, nD, nE, nF]
 exact ⟨_, _, Weak.refl _, Hp.le.refl _, rfl, rfl⟩
theorem c_nodesIf (b k qa qb : Nat) (h : Hp) (hb : h.H b = some (bdX (.v (.pointer none)) k 0)) (hT : h.T k = some (.buf 5 (rowB []))) : ACalls Tryz.prog 84 [.ptr b 0, .row 19 [ndIf qa qb] none] h (fun r h' => r = .v (.int .i64 0) ∧ h' = hx h b k 2 [43, 53]) := by
 have h1 := c_nodeIf b k qa qb h hb hT
 generalize hyy : ([tPlus, ndN] : List (List AV)) = yy at *
 generalize hnn : ([tMinus] : List (List AV)) = nn at *
 unfold ndIf at h1 ⊢
 rw [hyy, hnn] at h1 ⊢
 unfold vS vI vB nl s0 at *
 refine gE Tryz.func84 rfl (by kernel_rfl) 19 rfl fun c => ?_
 (repeat (first | refine gO rfl ?_ | (refine gM zM49 fun K1 hK1 => ?_; simp only [go_sem, ↓reduceIte, reduceCtorEq, nA, nB, nC, nD, nE, nF, Int.reduceBEq, Int.reduceTMod, Int.reduceTDiv, Int.reduceMul, Int.reduceBNe, Int.reduceLT, Int.reduceLE, Int.reduceAdd, Int.reduceSub, Int.reduceNeg, decide_true, decide_false, Bool.true_and, Bool.false_and, Bool.and_true, Bool.and_false, Bool.or_false, Bool.or_true, Bool.true_or, Bool.false_or, Bool.not_true, Bool.not_false, true_implies, false_implies, true_and, and_true, Int.reduceToNat, nc1] <;> and_intros <;> first | (apply hK1; clear hK1 K1) | (intros; first | omega | decide) | skip) | (refine awp_cond (t := _) rfl (fun hq => ?_) (fun hq => ?_) <;> first | (exact absurd hq (by decide)) | (cases hq; done) | (clear hq)) | (refine awp_un 8 ?_) | (with_reducible exact rfl) | (with_reducible exact trivial) | ((with_reducible show uside _); first | exact True.intro | exact rfl) | ((with_reducible show opS _ _); exact True.intro) | (refine ⟨AV.v (.bool true), rfl, hK1 _ ?_⟩; clear hK1 K1) | (refine (h1).mono ?_; rintro _ hz ⟨rfl, hh⟩; (first | (refine hK1 _ ?_) | (refine ⟨rfl, hK1 _ ?_⟩)); clear hK1 K1; rw [hh]; clear hh hz)))
 simp only [Tryz.results84, go_sem, ↓reduceIte, reduceCtorEq, nA, nB, nC, nD, nE, nF]
 exact ⟨_, _, Weak.refl _, Hp.le.refl _, rfl, rfl⟩
theorem g_bindB (h : Hp) : ACalls Tryz.prog 55 [.v (.string sB), .row 6 [fC] none] h (fun r h' => r = .tup [.v (.string ⟨#[43, 53]⟩), .v (.int .i64 0)]) := by
 have h1 := fun h => c_parseB h
 have h2 := fun h => c_checkData h
 have h3 := fun b k qa qb h => c_nodesIf b k qa qb h
 unfold hx bdX at h3
 have hR : rowB [] = [] := rfl
 rw [hR] at h3
 generalize hfc : fC = cs at *
 refine gE Tryz.func55 rfl (by kernel_rfl) 37 rfl fun c => ?_
 (repeat (first | refine gO rfl ?_ | (refine gM zM4A fun K1 hK1 => ?_; simp only [go_sem, ↓reduceIte, reduceCtorEq, nA, nB, nC, nD, nE, nF, Int.reduceBEq, Int.reduceTMod, Int.reduceTDiv, Int.reduceMul, Int.reduceBNe, Int.reduceLT, Int.reduceLE, Int.reduceAdd, Int.reduceSub, Int.reduceNeg, decide_true, decide_false, Bool.true_and, Bool.false_and, Bool.and_true, Bool.and_false, Bool.or_false, Bool.or_true, Bool.true_or, Bool.false_or, Bool.not_true, Bool.not_false, true_implies, false_implies, true_and, and_true, Int.reduceToNat] <;> and_intros <;> first | (apply hK1; clear hK1 K1) | (intros; first | omega | decide) | skip) | (refine awp_cond (t := _) rfl (fun hq => ?_) (fun hq => ?_) <;> first | (exact absurd hq (by decide)) | (cases hq; done) | (clear hq)) | (refine awp_un 8 ?_) | (with_reducible exact rfl) | (with_reducible exact trivial) | ((with_reducible show uside _); first | exact True.intro | exact rfl) | ((with_reducible show opS _ _); exact True.intro) | (refine ⟨AV.v (.bool true), rfl, hK1 _ ?_⟩; clear hK1 K1)))
 refine (h1 _).mono ?_
 rintro _ ha ⟨qa, qb, rfl⟩
 have h3 := fun b k h => h3 b k qa qb h
 generalize hnn : ([ndIf qa qb] : List (List AV)) = nn at *
 refine hK1 _ ?_; clear hK1 K1
 (repeat (first | refine gO rfl ?_ | (refine gM zM4A fun K1 hK1 => ?_; simp only [go_sem, ↓reduceIte, reduceCtorEq, nA, nB, nC, nD, nE, nF, Int.reduceBEq, Int.reduceTMod, Int.reduceTDiv, Int.reduceMul, Int.reduceBNe, Int.reduceLT, Int.reduceLE, Int.reduceAdd, Int.reduceSub, Int.reduceNeg, decide_true, decide_false, Bool.true_and, Bool.false_and, Bool.and_true, Bool.and_false, Bool.or_false, Bool.or_true, Bool.true_or, Bool.false_or, Bool.not_true, Bool.not_false, true_implies, false_implies, true_and, and_true, Int.reduceToNat] <;> and_intros <;> first | (apply hK1; clear hK1 K1) | (intros; first | omega | decide) | skip) | (refine awp_cond (t := _) rfl (fun hq => ?_) (fun hq => ?_) <;> first | (exact absurd hq (by decide)) | (cases hq; done) | (clear hq)) | (refine awp_un 8 ?_) | (with_reducible exact rfl) | (with_reducible exact trivial) | ((with_reducible show uside _); first | exact True.intro | exact rfl) | ((with_reducible show opS _ _); exact True.intro) | (refine ⟨AV.v (.bool true), rfl, hK1 _ ?_⟩; clear hK1 K1)))
 refine (h2 _).mono ?_
 rintro _ hz ⟨rfl, rfl⟩
 refine hK1 _ ?_; clear hK1 K1
 first | refine gO rfl ?_ | (refine gM zM4A fun K1 hK1 => ?_; simp only [go_sem, ↓reduceIte, reduceCtorEq, nA, nB, nC, nD, nE, nF] <;> and_intros <;> first | (apply hK1; clear hK1 K1) | (intros; first | omega | decide | (simp_all <;> omega)) | skip)
 first | refine gO rfl ?_ | (refine gM zM4A fun K1 hK1 => ?_; simp only [go_sem, ↓reduceIte, reduceCtorEq, nA, nB, nC, nD, nE, nF] <;> and_intros <;> first | (apply hK1; clear hK1 K1) | (intros; first | omega | decide | (simp_all <;> omega)) | skip)
 first | refine gO rfl ?_ | (refine gM zM4A fun K1 hK1 => ?_; simp only [go_sem, ↓reduceIte, reduceCtorEq, nA, nB, nC, nD, nE, nF] <;> and_intros <;> first | (apply hK1; clear hK1 K1) | (intros; first | omega | decide | (simp_all <;> omega)) | skip)
 first | refine gO rfl ?_ | (refine gM zM4A fun K1 hK1 => ?_; simp only [go_sem, ↓reduceIte, reduceCtorEq, nA, nB, nC, nD, nE, nF] <;> and_intros <;> first | (apply hK1; clear hK1 K1) | (intros; first | omega | decide | (simp_all <;> omega)) | skip)
 refine awp_cond (t := _) rfl (fun hq => absurd hq (by decide)) (fun hq => ?_)
 clear hq
 first | refine gO rfl ?_ | (refine gM zM4A fun K1 hK1 => ?_; simp only [go_sem, ↓reduceIte, reduceCtorEq, nA, nB, nC, nD, nE, nF] <;> and_intros <;> first | (apply hK1; clear hK1 K1) | (intros; first | omega | decide | (simp_all <;> omega)) | skip)
 refine awp_seq (awp_opsL ?_)
 refine ⟨rfl, (q_move (.inl rfl)).aop ⟨rfl, vEff_sound tyok (md := 0) ?_⟩⟩
 simp only [go_sem, ↓reduceIte, reduceCtorEq, Nat.reduceAdd, Nat.reduceSub, Nat.reduceMul, Nat.reduceLT, Nat.reduceLeDiff, Nat.reduceEqDiff, St.ev, St.put, eK]
 refine ⟨rfl, a_boxObj (cs := [.row 6 [cs] none, .v (.slice none 0 0), .v (.pointer none), .v (.slice none 0 0), .v (.int .i64 0)]) rfl ?_ (fun b hb => ⟨rfl, (q_move (.inr rfl)).aop ?_⟩)⟩
 ·simp only [go_sem, ↓reduceIte, reduceCtorEq, Nat.reduceAdd, Nat.reduceSub, Nat.reduceMul, Nat.reduceLT, Nat.reduceLeDiff, Nat.reduceEqDiff, St.ev, AV.cellsB]
  done
 simp only [go_sem, ↓reduceIte, reduceCtorEq, Nat.reduceAdd, Nat.reduceSub, Nat.reduceMul, Nat.reduceLT, Nat.reduceLeDiff, Nat.reduceEqDiff, St.ev, St.put, OpsL, thenQ]
 refine awp_ownBuf b 3 132 5 (upd_same _ _ _) rfl (fun k hk => ?_)
 simp only [List.set_cons_zero, List.set_cons_succ]
 (repeat (first | refine gO rfl ?_ | (refine gM zM4A fun K1 hK1 => ?_; simp only [go_sem, ↓reduceIte, reduceCtorEq, nA, nB, nC, nD, nE, nF, Int.reduceBEq, Int.reduceTMod, Int.reduceTDiv, Int.reduceMul, Int.reduceBNe, Int.reduceLT, Int.reduceLE, Int.reduceAdd, Int.reduceSub, Int.reduceNeg, decide_true, decide_false, Bool.true_and, Bool.false_and, Bool.and_true, Bool.and_false, Bool.or_false, Bool.or_true, Bool.true_or, Bool.false_or, Bool.not_true, Bool.not_false, true_implies, false_implies, true_and, and_true, Int.reduceToNat] <;> and_intros <;> first | (apply hK1; clear hK1 K1) | (intros; first | omega | decide) | skip) | (refine awp_cond (t := _) rfl (fun hq => ?_) (fun hq => ?_) <;> first | (exact absurd hq (by decide)) | (cases hq; done) | (clear hq)) | (refine awp_un 8 ?_) | (with_reducible exact rfl) | (with_reducible exact trivial) | ((with_reducible show uside _); first | exact True.intro | exact rfl) | ((with_reducible show opS _ _); exact True.intro) | (refine ⟨AV.v (.bool true), rfl, hK1 _ ?_⟩; clear hK1 K1)))
 refine (h3 b k _ (upd_same _ _ _) (upd_same _ _ _)).mono ?_
 rintro _ hx ⟨rfl, rfl⟩
 refine hK1 _ ?_; clear hK1 K1
 have h4 := fun D R X I h hb hT => g_strAt b k D R X I [43, 53] h hb hT (by decide)
 (repeat (first | refine gO rfl ?_ | (refine gM zM4A fun K1 hK1 => ?_; simp only [go_sem, ↓reduceIte, reduceCtorEq, nA, nB, nC, nD, nE, nF, Int.reduceBEq, Int.reduceTMod, Int.reduceTDiv, Int.reduceMul, Int.reduceBNe, Int.reduceLT, Int.reduceLE, Int.reduceAdd, Int.reduceSub, Int.reduceNeg, decide_true, decide_false, Bool.true_and, Bool.false_and, Bool.and_true, Bool.and_false, Bool.or_false, Bool.or_true, Bool.true_or, Bool.false_or, Bool.not_true, Bool.not_false, true_implies, false_implies, true_and, and_true, Int.reduceToNat] <;> and_intros <;> first | (apply hK1; clear hK1 K1) | (intros; first | omega | decide) | skip) | (refine awp_cond (t := _) rfl (fun hq => ?_) (fun hq => ?_) <;> first | (exact absurd hq (by decide)) | (cases hq; done) | (clear hq)) | (refine awp_un 8 ?_) | (with_reducible exact rfl) | (with_reducible exact trivial) | ((with_reducible show uside _); first | exact True.intro | exact rfl) | ((with_reducible show opS _ _); exact True.intro) | (refine ⟨AV.v (.bool true), rfl, hK1 _ ?_⟩; clear hK1 K1)))
 refine (h4 _ _ _ _ _ (upd_same _ _ _) (upd_same _ _ _)).mono ?_
 rintro _ hx ⟨rfl, rfl⟩
 refine hK1 _ ?_; clear hK1 K1
 (repeat (first | refine gO rfl ?_ | (refine gM zM4A fun K1 hK1 => ?_; simp only [go_sem, ↓reduceIte, reduceCtorEq, nA, nB, nC, nD, nE, nF, Int.reduceBEq, Int.reduceTMod, Int.reduceTDiv, Int.reduceMul, Int.reduceBNe, Int.reduceLT, Int.reduceLE, Int.reduceAdd, Int.reduceSub, Int.reduceNeg, decide_true, decide_false, Bool.true_and, Bool.false_and, Bool.and_true, Bool.and_false, Bool.or_false, Bool.or_true, Bool.true_or, Bool.false_or, Bool.not_true, Bool.not_false, true_implies, false_implies, true_and, and_true, Int.reduceToNat] <;> and_intros <;> first | (apply hK1; clear hK1 K1) | (intros; first | omega | decide) | skip) | (refine awp_cond (t := _) rfl (fun hq => ?_) (fun hq => ?_) <;> first | (exact absurd hq (by decide)) | (cases hq; done) | (clear hq)) | (refine awp_un 8 ?_) | (with_reducible exact rfl) | (with_reducible exact trivial) | ((with_reducible show uside _); first | exact True.intro | exact rfl) | ((with_reducible show opS _ _); exact True.intro) | (refine ⟨AV.v (.bool true), rfl, hK1 _ ?_⟩; clear hK1 K1)))
 simp only [Tryz.results55, go_sem, ↓reduceIte, reduceCtorEq, nA, nB, nC, nD, nE, nF]
 exact ⟨_, _, Weak.refl _, Hp.le.refl _, rfl⟩
theorem g_bound (h : Hp) : ACalls Tryz.prog 18 [] h (fun r _ => r = .v (.bool true)) := by
 have h1 := fun h => g_bindB h
 have e1 : ((⟨#[43, 53]⟩ : ByteArray) == ⟨#[43, 53]⟩) = true := by decide
 have ef : fC = [.v (.string sN), .v (.int .i64 2), .v (.string ⟨#[]⟩), .v (.int .i64 5), .v (.bool false), .v (.slice none 0 0)] := rfl
 rw [ef] at h1
 unfold sB sN at h1
 refine gE Tryz.func18 rfl (by kernel_rfl) 15 rfl fun c => ?_
 (repeat (first | refine gO rfl ?_ | (refine gR fun K1 hK1 => ?_; simp only [go_sem, ↓reduceIte, reduceCtorEq, nA, nB, nC, nD, nE, nF, Int.reduceBEq, Int.reduceTMod, Int.reduceTDiv, Int.reduceMul, Int.reduceBNe, Int.reduceLT, Int.reduceLE, Int.reduceAdd, Int.reduceSub, Int.reduceNeg, decide_true, decide_false, Bool.true_and, Bool.false_and, Bool.and_true, Bool.and_false, Bool.or_false, Bool.or_true, Bool.true_or, Bool.false_or, Bool.not_true, Bool.not_false, true_implies, false_implies, true_and, and_true, Int.reduceToNat] <;> and_intros <;> first | (apply hK1; clear hK1 K1) | (intros; first | omega | decide) | skip) | (refine awp_cond (t := _) rfl (fun hq => ?_) (fun hq => ?_) <;> first | (exact absurd hq (by decide)) | (cases hq; done) | (clear hq)) | (refine awp_un 8 ?_) | (with_reducible exact rfl) | (with_reducible exact trivial) | ((with_reducible show uside _); first | exact True.intro | exact rfl) | ((with_reducible show opS _ _); exact True.intro) | (refine ⟨AV.v (.bool true), rfl, hK1 _ ?_⟩; clear hK1 K1)))
 refine (h1 _).mono ?_
 rintro _ hx rfl
 refine hK1 _ ?_; clear hK1 K1
 (repeat (first | refine gO rfl ?_ | (refine gR fun K1 hK1 => ?_; simp only [go_sem, ↓reduceIte, reduceCtorEq, nA, nB, nC, nD, nE, nF, Int.reduceBEq, Int.reduceTMod, Int.reduceTDiv, Int.reduceMul, Int.reduceBNe, Int.reduceLT, Int.reduceLE, Int.reduceAdd, Int.reduceSub, Int.reduceNeg, decide_true, decide_false, Bool.true_and, Bool.false_and, Bool.and_true, Bool.and_false, Bool.or_false, Bool.or_true, Bool.true_or, Bool.false_or, Bool.not_true, Bool.not_false, true_implies, false_implies, true_and, and_true, Int.reduceToNat, e1] <;> and_intros <;> first | (apply hK1; clear hK1 K1) | (intros; first | omega | decide) | skip) | (refine awp_cond (t := _) rfl (fun hq => ?_) (fun hq => ?_) <;> first | (exact absurd hq (by decide)) | (cases hq; done) | (clear hq)) | (refine awp_un 8 ?_) | (with_reducible exact rfl) | (with_reducible exact trivial) | ((with_reducible show uside _); first | exact True.intro | exact rfl) | ((with_reducible show opS _ _); exact True.intro) | (refine ⟨AV.v (.bool true), rfl, hK1 _ ?_⟩; clear hK1 K1)))
 simp only [Tryz.results18, go_sem, ↓reduceIte, reduceCtorEq, nA, nB, nC, nD, nE, nF]
 exact ⟨_, _, Weak.refl _, Hp.le.refl _, rfl⟩
set_option maxHeartbeats 16000000
theorem i_same (x : Int) : (x == x) = true := by simp
theorem in_same (x : Int) : (x != x) = false := by simp
theorem orI_two (f : Fo) (wide : Int) : orI [fontF f, pixF wide] = fwF f wide := by
 unfold fwF
 rw [orI]
 split
 ·rw [orI]
  split
  ·rename_i e; rw [e]; rfl
  ·rfl
 ·rfl
abbrev zP24E : List Nat := [0, 1, 2, 3, 4, 5, 6, 7, 8]
abbrev zP24P : List (Nat × List Nat × List Nat) := []
abbrev zP25E : List Nat := [0, 1, 2, 3, 5, 6, 7, 9, 11]
abbrev zP25P : List (Nat × List Nat × List Nat) := [(4, [7], []), (8, [], []), (10, [], []), (12, [], [13]), (14, [], [15])]
attribute [go_sem] zP24E zP24P zP25E zP25P
theorem g_eqNil (h : Hp) : ACalls Tryz.prog 21 [.v (.slice none 0 0), .v (.slice none 0 0)] h (fun r h' => r = .v (.bool true) ∧ h' = h) := by
 refine gE Tryz.func21 rfl (by kernel_rfl) 24 rfl fun c => ?_
 (repeat (first | refine gO rfl ?_ | ((refine gR fun K1 hK1 => ?_; simp only [go_sem, ↓reduceIte, reduceCtorEq, nA, nB, nC, nD, nE, nF] <;> and_intros <;> (apply hK1; clear hK1 K1)))))
 refine awp_cond (t := _) rfl (fun h9 => by cases h9) (fun _ => ?_)
 (repeat (first | refine gO rfl ?_ | ((refine gR fun K1 hK1 => ?_; simp only [go_sem, ↓reduceIte, reduceCtorEq, nA, nB, nC, nD, nE, nF] <;> and_intros <;> (apply hK1; clear hK1 K1)))))
 refine awp_loopC (rl false [0, 2, 9, 3, 12]) 0 (fun g s => g = 0 ∧
  s = ⟨((.v (.slice none 0 0)) :: (.v (.slice none 0 0)) :: (jnk 9 ((.v (.slice none 0 0)) :: (.v (.int .i64 0)) :: (.v (.int .i64 0)) :: (jnk 12 [])))), [], h⟩) 0 ⟨rfl, rfl⟩ ?_
 rintro g _ ⟨_, rfl⟩
 (repeat (first | refine gO rfl ?_ | ((refine gR fun K1 hK1 => ?_; simp only [go_sem, ↓reduceIte, reduceCtorEq, nA, nB, nC, nD, nE, nF] <;> and_intros <;> (apply hK1; clear hK1 K1)))))
 refine awp_cond (t := _) rfl (fun h9 => by cases h9) (fun _ => ?_)
 (repeat (first | refine gO rfl ?_ | ((refine gR fun K1 hK1 => ?_; simp only [go_sem, ↓reduceIte, reduceCtorEq, nA, nB, nC, nD, nE, nF] <;> and_intros <;> (apply hK1; clear hK1 K1)))))
 simp only [Tryz.results21, go_sem, ↓reduceIte, reduceCtorEq, nA, nB, nC, nD, nE, nF]
 exact ⟨_, _, Weak.refl _, Hp.le.refl _, rfl, rfl⟩
theorem g_bestX (fs : List Fo) (s : ByteArray) (wide high : Int) (hs : s.size ≤ 20000) (hfs : ∀ f ∈ fs, f.key.size ≤ 1000 ∧ f.ws.length ≤ 1000) (hl : fs.length ≤ 20) (hx : orI (allF fs wide high) ≠ 0) (h : Hp) :
  ACalls Tryz.prog 28 [.row 4 (fs.map encF4) none, .v (.string s), .v (.int .i64 wide), .v (.int .i64 high)] h (fun r h' => r = .tup [.v (.int .i64 0), .v (.slice none 0 0), .v (.bool false), .v (.int .i64 (orI (allF fs wide high)))] ∧ h' = h) := by
 have hbf := g_bestFault fs s wide high hs hfs hl h
 have e : (orI (allF fs wide high) != 0) = true := by simpa using hx
 generalize orI (allF fs wide high) = e0 at *
 refine gE Tryz.func28 rfl (by kernel_rfl) 54 rfl fun c => ?_
 (repeat (first | refine gO rfl ?_ | (refine gM zM4B fun K1 hK1 => ?_; simp only [go_sem, ↓reduceIte, reduceCtorEq, nA, nB, nC, nD, nE, nF] <;> and_intros <;> first | (apply hK1; clear hK1 K1) | skip)))
 refine hbf.mono ?_; rintro _ hz ⟨rfl, hh⟩; apply hK1; clear hK1 K1; rw [hh]; clear hh hz
 (repeat (first | refine gO rfl ?_ | (refine gM zM4B fun K1 hK1 => ?_; simp only [go_sem, ↓reduceIte, reduceCtorEq, nA, nB, nC, nD, nE, nF] <;> and_intros <;> (apply hK1; clear hK1 K1))))
 refine awp_cond (t := _) rfl (fun _ => ?_) (fun h6 => by rw [e] at h6; cases h6)
 (repeat (first | refine gO rfl ?_ | (refine gM zM4B fun K1 hK1 => ?_; simp only [go_sem, ↓reduceIte, reduceCtorEq, nA, nB, nC, nD, nE, nF] <;> and_intros <;> (apply hK1; clear hK1 K1))))
 simp only [Tryz.results28, go_sem, ↓reduceIte, reduceCtorEq, nA, nB, nC, nD, nE, nF]
 exact ⟨_, _, Weak.refl _, Hp.le.refl _, rfl, rfl⟩
theorem good_fw {f : Fo} {wide : Int} (h : fwF f wide = 0) : Good f ∧ 1 ≤ wide ∧ wide ≤ 100000 := by
 unfold fwF at h
 by_cases hg : fontF f = 0
 ·rw [if_pos hg] at h
  refine ⟨fontF_good hg, ?_⟩
  unfold pixF at h
  by_cases e : 1 ≤ wide ∧ wide ≤ 100000
  ·exact e
  ·rw [if_neg e] at h; cases h
 ·rw [if_neg hg] at h; exact absurd h hg
theorem pix_good {n : Int} (h : pixF n = 0) : 1 ≤ n ∧ n ≤ 100000 := by
 unfold pixF at h
 by_cases e : 1 ≤ n ∧ n ≤ 100000
 ·exact e
 ·rw [if_neg e] at h; cases h
theorem good_fs {f : Fo} {wide speed : Int} (h : fsF f wide speed = 0) : fwF f wide = 0 ∧ 1 ≤ speed ∧ speed ≤ 100000 := by
 unfold fsF at h
 by_cases hg : fwF f wide = 0
 ·rw [if_pos hg] at h
  exact ⟨hg, pix_good h⟩
 ·rw [if_neg hg] at h; exact absurd h hg
def shoB (f : Fo) (wide : Int) (ts : List Tok) : ByteArray := if fwF f wide = 0 then bsOf (shortT f wide ts).flatten else ⟨#[]⟩
def scrB (f : Fo) (wide speed : Int) (ts : List Tok) : Int := if fsF f wide speed = 0 then scrV (sumW f ts) wide speed else 0
theorem g_shortU (f : Fo) (ts : List Tok) (wide : Int) (hts : ∀ t ∈ ts, t ∈ toks) (hn : ts.length ≤ 200) (hks : f.key.size ≤ 1000) (hlw : f.ws.length ≤ 1000) (k0 : Nat) (h : Hp) (hT : h.T k0 = some (.glb tabU)) :
  ACalls Tryz.prog 24 [encFo f none, .v (.string (bsOf ts.flatten)), .v (.int .i64 wide)] h (fun r h' => r = .tup [.v (.string (shoB f wide ts)), .v (.int .i64 (fwF f wide))] ∧ Gr h h') := by
 unfold shoB
 by_cases e : fwF f wide = 0
 ·obtain ⟨hg, hw⟩ := good_fw e
  rw [if_pos e, e]
  exact g_short f none ts wide hts (by omega) hw hg hks k0 h hT
 ·rw [if_neg e]
  exact (g_shortX f none _ wide e hks hlw h).mono fun r h' ⟨h1, h2⟩ => ⟨h1, by rw [h2]; exact Gr.refl _⟩
theorem g_scrollU (f : Fo) (ts : List Tok) (wide speed : Int) (hts : ∀ t ∈ ts, t ∈ toks) (hn : ts.length ≤ 200) (hks : f.key.size ≤ 1000) (hlw : f.ws.length ≤ 1000) (k0 : Nat) (h : Hp) (hT : h.T k0 = some (.glb tabU)) :
  ACalls Tryz.prog 26 [encFo f none, .v (.string (bsOf ts.flatten)), .v (.int .i64 wide), .v (.int .i64 speed)] h (fun r h' => r = .tup [.v (.int .i64 (scrB f wide speed ts)), .v (.int .i64 (fsF f wide speed))] ∧ Gr h h') := by
 unfold scrB
 by_cases e : fsF f wide speed = 0
 ·obtain ⟨e2, hs⟩ := good_fs e
  obtain ⟨hg, hw⟩ := good_fw e2
  rw [if_pos e, e]
  exact g_scroll f none ts wide speed hts (by omega) hw hs hg hks k0 h hT
 ·rw [if_neg e]
  exact (g_scrollX f none _ wide speed e hks hlw h).mono fun r h' ⟨h1, h2⟩ => ⟨h1, by rw [h2]; exact Gr.refl _⟩
theorem orI_three (f : Fo) (wide speed : Int) : orI [fontF f, pixF wide, pixF speed] = fsF f wide speed := by
 unfold fsF
 rw [← orI_two]
 by_cases h1 : fontF f = 0
 ·by_cases h2 : pixF wide = 0
  ·by_cases h3 : pixF speed = 0
   ·simp [orI, h1, h2, h3]
   ·simp [orI, h1, h2, h3]
  ·simp [orI, h1, h2]
 ·simp [orI, h1]
theorem g_lawTex (l : List Int) (h : Hp) (hl : SOk l) (k0 : Nat) (hT : h.T k0 = some (.glb tabU)) :
  ACalls Tryz.prog 4 [.row 1 (l.map encI) none] h (fun r h' => r = .v (.bool true)) := by
 have hfl : ∀ f : Fo, (encFo f none) = .agg [.v (.string f.key), .v (.int .i64 f.hi), .v (.int .i64 f.ot), .row 3 (f.ws.map encW) none] := fun _ => rfl
 refine gE Tryz.func4 rfl (by kernel_rfl) 186 rfl fun c => ?_
 (repeat (first | refine gQ rfl ?_ | ((refine gM zM4C fun K1 hK1 => ?_; simp only [go_sem, ↓reduceIte, reduceCtorEq, nA, nB, nC, nD, nE, nF] <;> and_intros <;> first | (apply hK1; clear hK1 K1) | skip))))
 intro i hi
 refine hK1 _ ?_; clear hK1 K1
 have e0 : ({ H := upd h.H i (some (.cells [.row 1 (l.map encI) none, .v (.int .i64 0)])), T := h.T } : Hp) = h.st i l 0 := rfl
 rw [e0]
 (repeat (first | refine gO rfl ?_ | ((refine gM zM4C fun K1 hK1 => ?_; simp only [go_sem, ↓reduceIte, reduceCtorEq, nA, nB, nC, nD, nE, nF] <;> and_intros))))
 refine (g_font i l 0 ⟨#[102, 97]⟩ h hl (by omega)).mono ?_
 rintro _ h9 ⟨f0, a1, rfl, hk, hw0, ha1, rfl⟩
 have hks0 : f0.key.size ≤ 1000 := by rcases hk with e | e <;> rw [e] <;> decide
 apply hK1; clear hK1 K1 hk
 (repeat (((refine gM zM4C fun K1 hK1 => ?_; simp only [go_sem, ↓reduceIte, reduceCtorEq, nA, nB, nC, nD, nE, nF] <;> and_intros))))
 refine (g_font i l a1 ⟨#[102, 98]⟩ h hl (by omega)).mono ?_
 rintro _ h9 ⟨f1, a2, rfl, hk, hw1, ha2, rfl⟩
 have hks1 : f1.key.size ≤ 1000 := by rcases hk with e | e <;> rw [e] <;> decide
 apply hK1; clear hK1 K1 hk
 (repeat (((refine gM zM4C fun K1 hK1 => ?_; simp only [go_sem, ↓reduceIte, reduceCtorEq, nA, nB, nC, nD, nE, nF] <;> and_intros))))
 refine (g_font i l a2 ⟨#[102, 99]⟩ h hl (by omega)).mono ?_
 rintro _ h9 ⟨f2, a3, rfl, hk, hw2, ha3, rfl⟩
 have hks2 : f2.key.size ≤ 1000 := by rcases hk with e | e <;> rw [e] <;> decide
 apply hK1; clear hK1 K1 hk
 (repeat (((refine gM zM4C fun K1 hK1 => ?_; simp only [go_sem, ↓reduceIte, reduceCtorEq, nA, nB, nC, nD, nE, nF, hfl] <;> and_intros <;> first | (intros; (decide)) | skip))))
 refine (g_wording i l a3 h hl (by omega)).mono ?_
 rintro _ h9 ⟨ts, a4, rfl, htt, htl, ha4, rfl⟩
 apply hK1; clear hK1 K1
 (repeat (((refine gM zM4C fun K1 hK1 => ?_; simp only [go_sem, ↓reduceIte, reduceCtorEq, nA, nB, nC, nD, nE, nF] <;> and_intros))))
 refine (g_pixels i l a4 h hl (by omega)).mono ?_
 rintro _ h9 ⟨wd, a5, rfl, hwd, ha5, rfl⟩
 apply hK1; clear hK1 K1
 (repeat (((refine gM zM4C fun K1 hK1 => ?_; simp only [go_sem, ↓reduceIte, reduceCtorEq, nA, nB, nC, nD, nE, nF] <;> and_intros))))
 refine (g_pixels i l a5 h hl (by omega)).mono ?_
 rintro _ h9 ⟨hg, a6, rfl, hhg, ha6, rfl⟩
 apply hK1; clear hK1 K1
 (repeat (((refine gM zM4C fun K1 hK1 => ?_; simp only [go_sem, ↓reduceIte, reduceCtorEq, nA, nB, nC, nD, nE, nF] <;> and_intros <;> first | (intros; (decide)) | skip))))
 refine (g_pick i l a6 [1, 7, 50, 0, 100001] none h hl (by omega) ⟨by simp, by simp⟩).mono ?_
 rintro _ h9 ⟨sp, hsp, rfl, rfl⟩
 apply hK1; clear hK1 K1 hsp
 have hTs : (h.st i l (a6 + 1)).T k0 = some (.glb tabU) := hT
 generalize h.st i l (a6 + 1) = h1 at *
 have hff := g_fontFaultX f0 none hks0 (by omega) h1
 have hff1 := g_fontFaultX f1 none hks1 (by omega)
 have hff2 := g_fontFaultX f2 none hks2 (by omega)
 rw [hfl] at hff
 simp only [hfl] at hff1 hff2
 have hef : ∀ f : Fo, encF4 f = [.v (.string f.key), .v (.int .i64 f.hi), .v (.int .i64 f.ot), .row 3 (f.ws.map encW) none] := fun _ => rfl
 generalize hR : [[AV.v (.string f0.key), .v (.int .i64 f0.hi), .v (.int .i64 f0.ot), .row 3 (f0.ws.map encW) none], [.v (.string f1.key), .v (.int .i64 f1.hi), .v (.int .i64 f1.ot), .row 3 (f1.ws.map encW) none], [.v (.string f2.key), .v (.int .i64 f2.hi), .v (.int .i64 f2.ot), .row 3 (f2.ws.map encW) none]] = R
 have hRf : R = [f0, f1, f2].map encF4 := hR.symm
 have hR0 : R.getD (Int.toNat 0) [] = [.v (.string f0.key), .v (.int .i64 f0.hi), .v (.int .i64 f0.ot), .row 3 (f0.ws.map encW) none] := by rw [← hR]; rfl
 have hR1 : R.getD (Int.toNat 1) [] = [.v (.string f1.key), .v (.int .i64 f1.hi), .v (.int .i64 f1.ot), .row 3 (f1.ws.map encW) none] := by rw [← hR]; rfl
 have hR2 : R.getD (Int.toNat 2) [] = [.v (.string f2.key), .v (.int .i64 f2.hi), .v (.int .i64 f2.ot), .row 3 (f2.ws.map encW) none] := by rw [← hR]; rfl
 have hRl : R.length = 3 := by rw [← hR]; rfl
 have ht4 : ∀ f : Fo, List.take 4 [AV.v (.string f.key), .v (.int .i64 f.hi), .v (.int .i64 f.ot), .row 3 (f.ws.map encW) none] = [AV.v (.string f.key), .v (.int .i64 f.hi), .v (.int .i64 f.ot), .row 3 (f.ws.map encW) none] := fun _ => rfl
 have hl4 : ∀ f : Fo, ([AV.v (.string f.key), .v (.int .i64 f.hi), .v (.int .i64 f.ot), .row 3 (f.ws.map encW) none]).length = 4 := fun _ => rfl
 clear hR
 (repeat (first | refine gO rfl ?_ | ((refine gM zM4C fun K1 hK1 => ?_; simp only [go_sem, ↓reduceIte, reduceCtorEq, nA, nB, nC, nD, nE, nF, hRl, hR0, ht4, hl4] <;> and_intros <;> first | (apply hK1; clear hK1 K1) | (intros; (omega)) | skip))))
 refine hff.mono ?_; rintro _ hz ⟨rfl, hh⟩; apply hK1; clear hK1 K1; rw [hh]; clear hh hz
 have hsh := g_shortU f0 ts wd htt htl hks0 (by omega) k0 h1 hTs
 rw [hfl] at hsh
 (repeat (first | refine gO rfl ?_ | ((refine gM zM4C fun K1 hK1 => ?_; simp only [go_sem, ↓reduceIte, reduceCtorEq, nA, nB, nC, nD, nE, nF, hRl, hR0, ht4, hl4] <;> and_intros <;> first | (apply hK1; clear hK1 K1) | (intros; (omega)) | skip))))
 refine hsh.mono ?_
 rintro _ h2 ⟨rfl, hgr⟩
 replace hTs := hgr.2 _ _ hTs
 apply hK1; clear hK1 K1 hsh hgr
 have hor := g_orG [fontF f0, pixF wd] h2 (by simp)
 rw [orI_two] at hor
 (repeat (first | refine gO rfl ?_ | ((refine gM zM4C fun K1 hK1 => ?_; simp only [go_sem, ↓reduceIte, reduceCtorEq, nA, nB, nC, nD, nE, nF] <;> and_intros <;> first | (apply hK1; clear hK1 K1) | skip))))
 refine (g_pixel wd _).mono ?_; rintro _ hz ⟨rfl, hh⟩; apply hK1; clear hK1 K1; rw [hh]; clear hh hz
 (repeat (((refine gM zM4C fun K1 hK1 => ?_; simp only [go_sem, ↓reduceIte, reduceCtorEq, nA, nB, nC, nD, nE, nF] <;> and_intros <;> first | (intros; (decide)) | skip))))
 refine hor.mono ?_; rintro _ hz ⟨rfl, hh⟩; apply hK1; clear hK1 K1; rw [hh]; clear hh hz
 first | refine gO rfl ?_ | ((first | refine gM zM4C ?_ | (with_reducible refine wM ?_ ?_) | ((with_reducible refine xS ?_); refine uD 13 zM4C zP25E zP25P 187 rfl (by kernel_rfl) ?_)) <;> ((try with_reducible intro K1 hK1); simp only [go_sem, ↓reduceIte, reduceCtorEq, nA, nB, nC, nD, nE, nF] <;> and_intros <;> first | (apply hK1; clear hK1 K1) | (intros; first | omega | decide | (simp_all <;> omega)) | skip))
 first | refine gO rfl ?_ | ((first | refine gM zM4C ?_ | (with_reducible refine wM ?_ ?_) | ((with_reducible refine xS ?_); refine uD 13 zM4C zP25E zP25P 187 rfl (by kernel_rfl) ?_)) <;> ((try with_reducible intro K1 hK1); simp only [go_sem, ↓reduceIte, reduceCtorEq, nA, nB, nC, nD, nE, nF] <;> and_intros <;> first | (apply hK1; clear hK1 K1) | (intros; first | omega | decide | (simp_all <;> omega)) | skip))
 refine awp_seqJ (rl false [4, 6, 177]) 0 (fun s => ∃ h3 : Hp, h3.T k0 = some (.glb tabU) ∧ s = ⟨((jnk 4 ((.row 4 R none) :: (.v (.string (bsOf ts.flatten))) :: (.v (.int .i64 wd)) :: (.v (.int .i64 hg)) :: (.v (.int .i64 sp)) :: (.v (.int .i64 (fontF f0))) :: (jnk 177 [])))), [], h3⟩) ?_ ?_
 ·unfold shoB
  by_cases e : fwF f0 wd = 0
  ·obtain ⟨hg0, hw⟩ := good_fw e
   have hso := g_shortenOf f0 none ts wd htt (by omega) hw hg0 k0 h2 hTs
   rw [hfl] at hso
   rw [e, if_pos rfl]
   (repeat (((refine gM zM4C fun K1 hK1 => ?_; simp only [go_sem, ↓reduceIte, reduceCtorEq, nA, nB, nC, nD, nE, nF, hRl, hR0, ht4, hl4, in_same, i_same, s_same, b_same, Bool.not_false, Bool.not_true, Bool.true_and, Bool.false_and, Bool.true_or, Bool.false_or, Bool.and_true] <;> and_intros <;> first | (intros; (omega)) | skip))))
   rotate_left
   ·exact fun h => h.elim
   refine hso.mono ?_
   rintro _ h3 ⟨rfl, hgr⟩
   replace hTs := hgr.2 _ _ hTs
   refine ⟨rfl, hK1 _ ?_⟩; clear hK1 K1 hso hgr
   (repeat (first | refine gO rfl ?_ | ((refine gM zM4C fun K1 hK1 => ?_; simp only [go_sem, ↓reduceIte, reduceCtorEq, nA, nB, nC, nD, nE, nF, hRl, hR0, ht4, hl4, in_same, i_same, s_same, b_same, Bool.not_false, Bool.not_true, Bool.true_and, Bool.false_and, Bool.true_or, Bool.false_or, Bool.and_true] <;> and_intros <;> (apply hK1; clear hK1 K1)))))
   refine awp_cond (t := _) rfl (fun h9 => by cases h9) (fun _ => ?_)
   (repeat ((refine gO rfl ?_)))
   exact ⟨h3, hTs, rfl⟩
  ·have e1 : (fwF f0 wd == 0) = false := by simpa using e
   have e2 : (fwF f0 wd != 0) = true := by simpa using e
   rw [if_neg e]
   (repeat (((refine gM zM4C fun K1 hK1 => ?_; simp only [go_sem, ↓reduceIte, reduceCtorEq, nA, nB, nC, nD, nE, nF, hRl, hR0, ht4, hl4, e1, e2, in_same, i_same, s_same, b_same, Bool.not_false, Bool.not_true, Bool.true_and, Bool.false_and, Bool.true_or, Bool.false_or, Bool.and_true] <;> and_intros <;> first | (apply hK1; clear hK1 K1) | skip))))
   refine ⟨.v (.bool false), rfl, ?_⟩
   ((simp only [go_sem, ↓reduceIte, reduceCtorEq, nA, nB, nC, nD, nE, nF, hRl, hR0, ht4, hl4, e1, e2, in_same, i_same, s_same, b_same, Bool.not_false, Bool.not_true, Bool.true_and, Bool.false_and, Bool.true_or, Bool.false_or, Bool.and_true]; (try and_intros); all_goals first | (refine hK1 _ ?_; clear hK1 K1) | (intros; first | omega | decide | (simp_all <;> omega)) | skip))
   (repeat ((refine gO rfl ?_)))
   refine awp_cond (t := _) rfl (fun h9 => by cases h9) (fun _ => ?_)
   (repeat ((refine gO rfl ?_)))
   exact ⟨h2, hTs, rfl⟩
 rintro _ ⟨h3, hTs, rfl⟩
 have hsc := g_scrollU f0 ts wd sp htt htl hks0 (by omega) k0 h3 hTs
 rw [hfl] at hsc
 (repeat (((refine gM zM4C fun K1 hK1 => ?_; simp only [go_sem, ↓reduceIte, reduceCtorEq, nA, nB, nC, nD, nE, nF, hRl, hR0, ht4, hl4] <;> and_intros <;> first | (intros; (omega)) | skip))))
 refine hsc.mono ?_
 rintro _ h2 ⟨rfl, hgr⟩
 replace hTs := hgr.2 _ _ hTs
 apply hK1; clear hK1 K1 hsc hgr
 have hor := g_orG [fontF f0, pixF wd, pixF sp] h2 (by simp)
 rw [orI_three] at hor
 (repeat (first | refine gO rfl ?_ | ((refine gM zM4C fun K1 hK1 => ?_; simp only [go_sem, ↓reduceIte, reduceCtorEq, nA, nB, nC, nD, nE, nF] <;> and_intros <;> first | (apply hK1; clear hK1 K1) | skip))))
 refine (g_pixel wd _).mono ?_; rintro _ hz ⟨rfl, hh⟩; apply hK1; clear hK1 K1; rw [hh]; clear hh hz
 (repeat (((refine gM zM4C fun K1 hK1 => ?_; simp only [go_sem, ↓reduceIte, reduceCtorEq, nA, nB, nC, nD, nE, nF] <;> and_intros))))
 refine (g_pixel sp _).mono ?_; rintro _ hz ⟨rfl, hh⟩; apply hK1; clear hK1 K1; rw [hh]; clear hh hz
 (repeat (((refine gM zM4C fun K1 hK1 => ?_; simp only [go_sem, ↓reduceIte, reduceCtorEq, nA, nB, nC, nD, nE, nF] <;> and_intros <;> first | (intros; (decide)) | skip))))
 refine hor.mono ?_; rintro _ hz ⟨rfl, hh⟩; apply hK1; clear hK1 K1; rw [hh]; clear hh hz
 first | refine gO rfl ?_ | ((first | refine gM zM4C ?_ | (with_reducible refine wM ?_ ?_) | ((with_reducible refine xS ?_); refine uD 13 zM4C zP25E zP25P 187 rfl (by kernel_rfl) ?_)) <;> ((try with_reducible intro K1 hK1); simp only [go_sem, ↓reduceIte, reduceCtorEq, nA, nB, nC, nD, nE, nF] <;> and_intros <;> first | (apply hK1; clear hK1 K1) | (intros; first | omega | decide | (simp_all <;> omega)) | skip))
 first | refine gO rfl ?_ | ((first | refine gM zM4C ?_ | (with_reducible refine wM ?_ ?_) | ((with_reducible refine xS ?_); refine uD 13 zM4C zP25E zP25P 187 rfl (by kernel_rfl) ?_)) <;> ((try with_reducible intro K1 hK1); simp only [go_sem, ↓reduceIte, reduceCtorEq, nA, nB, nC, nD, nE, nF] <;> and_intros <;> first | (apply hK1; clear hK1 K1) | (intros; first | omega | decide | (simp_all <;> omega)) | skip))
 refine awp_seqJ (rl false [4, 4, 1, 1, 177]) 0 (fun s => ∃ h3 : Hp, h3.T k0 = some (.glb tabU) ∧ s = ⟨((jnk 4 ((.row 4 R none) :: (.v (.string (bsOf ts.flatten))) :: (.v (.int .i64 wd)) :: (.v (.int .i64 hg)) :: AV.junk :: ((.v (.int .i64 (fontF f0))) :: (jnk 177 []))))), [], h3⟩) ?_ ?_
 ·unfold scrB
  by_cases e : fsF f0 wd sp = 0
  ·obtain ⟨e2, hs⟩ := good_fs e
   obtain ⟨hg0, hw⟩ := good_fw e2
   have hso := g_scrollOf f0 none ts wd sp htt (by omega) hw hs hg0 k0 h2 hTs
   rw [hfl] at hso
   rw [e, if_pos rfl]
   (repeat (((refine gM zM4C fun K1 hK1 => ?_; simp only [go_sem, ↓reduceIte, reduceCtorEq, nA, nB, nC, nD, nE, nF, hRl, hR0, ht4, hl4, in_same, i_same, s_same, b_same, Bool.not_false, Bool.not_true, Bool.true_and, Bool.false_and, Bool.true_or, Bool.false_or, Bool.and_true] <;> and_intros <;> first | (intros; (omega)) | skip))))
   rotate_left
   ·exact fun h => h.elim
   refine hso.mono ?_
   rintro _ h3 ⟨rfl, hgr⟩
   replace hTs := hgr.2 _ _ hTs
   refine ⟨rfl, hK1 _ ?_⟩; clear hK1 K1 hso hgr
   (repeat (first | refine gO rfl ?_ | ((refine gM zM4C fun K1 hK1 => ?_; simp only [go_sem, ↓reduceIte, reduceCtorEq, nA, nB, nC, nD, nE, nF, hRl, hR0, ht4, hl4, in_same, i_same, s_same, b_same, Bool.not_false, Bool.not_true, Bool.true_and, Bool.false_and, Bool.true_or, Bool.false_or, Bool.and_true] <;> and_intros <;> (apply hK1; clear hK1 K1)))))
   refine awp_cond (t := _) rfl (fun h9 => by cases h9) (fun _ => ?_)
   (repeat ((refine gO rfl ?_)))
   exact ⟨h3, hTs, rfl⟩
  ·have e1 : (fsF f0 wd sp == 0) = false := by simpa using e
   have e2 : (fsF f0 wd sp != 0) = true := by simpa using e
   rw [if_neg e]
   (repeat (((refine gM zM4C fun K1 hK1 => ?_; simp only [go_sem, ↓reduceIte, reduceCtorEq, nA, nB, nC, nD, nE, nF, hRl, hR0, ht4, hl4, e1, e2, in_same, i_same, s_same, b_same, Bool.not_false, Bool.not_true, Bool.true_and, Bool.false_and, Bool.true_or, Bool.false_or, Bool.and_true] <;> and_intros <;> first | (apply hK1; clear hK1 K1) | skip))))
   refine ⟨.v (.bool false), rfl, ?_⟩
   ((simp only [go_sem, ↓reduceIte, reduceCtorEq, nA, nB, nC, nD, nE, nF, hRl, hR0, ht4, hl4, e1, e2, in_same, i_same, s_same, b_same, Bool.not_false, Bool.not_true, Bool.true_and, Bool.false_and, Bool.true_or, Bool.false_or, Bool.and_true]; (try and_intros); all_goals first | (refine hK1 _ ?_; clear hK1 K1) | (intros; first | omega | decide | (simp_all <;> omega)) | skip))
   (repeat ((refine gO rfl ?_)))
   refine awp_cond (t := _) rfl (fun h9 => by cases h9) (fun _ => ?_)
   (repeat ((refine gO rfl ?_)))
   exact ⟨h2, hTs, rfl⟩
 rintro _ ⟨h3, hTs, rfl⟩
 have hE : allF [f0, f1, f2] wd hg = [fontF f0, fontF f1, fontF f2, pixF wd, pixF hg] := rfl
 have hfs : ∀ f ∈ [f0, f1, f2], f.key.size ≤ 1000 ∧ f.ws.length ≤ 1000 := by
  intro f hf
  simp only [List.mem_cons, List.not_mem_nil, or_false] at hf
  rcases hf with rfl | rfl | rfl
  ·exact ⟨hks0, by omega⟩
  ·exact ⟨hks1, by omega⟩
  ·exact ⟨hks2, by omega⟩
 have hsz : (bsOf ts.flatten).size ≤ 20000 := by
  have := flat_le2 ts htt
  rw [size_bs]; omega
 by_cases hX : orI (allF [f0, f1, f2] wd hg) = 0
 ·have hall := orI_all hX
  rw [hE] at hall hX
  have hgf : ∀ f ∈ [f0, f1, f2], f.key.size ≤ 1000 ∧ f.ws.length ≤ 1000 ∧ Good f := fun f hf => ⟨(hfs f hf).1, (hfs f hf).2, fontF_good (by
   simp only [List.mem_cons, List.not_mem_nil, or_false] at hf
   rcases hf with rfl | rfl | rfl <;> exact hall _ (by simp))⟩
  have hw := pix_good (hall (pixF wd) (by simp))
  have hh := pix_good (hall (pixF hg) (by simp))
  have hb := g_best [f0, f1, f2] ts wd hg htt htl hw hh hgf (by simp) k0 h3 hTs
  rw [← hRf] at hb
  have hbl : ∀ j X, bestB wd hg ts [f0, f1, f2] 0 = some (j, X) → X.length ≤ 401 := fun j X e => by
   obtain ⟨f, _, rfl⟩ := bestB_lines _ _ e
   have := lines_few f wd ts
   omega
  (repeat (((refine gM zM4C fun K1 hK1 => ?_; simp only [go_sem, ↓reduceIte, reduceCtorEq, nA, nB, nC, nD, nE, nF] <;> and_intros))))
  refine hb.mono ?_
  rintro _ h2 ⟨rfl, hgr⟩
  replace hTs := hgr _ _ hTs
  apply hK1; clear hK1 K1 hb hgr
  have hbr := g_bestR [f0, f1, f2] ts wd hg htt htl hw hh hgf (by simp) k0 h2 hTs
  rw [← hRf] at hbr
  have hor := fun h => g_orG [fontF f0, fontF f1, fontF f2, pixF wd, pixF hg] h (by simp)
  rw [hX] at hor
  cases hB : bestB wd hg ts [f0, f1, f2] 0 with
  | none =>
   rw [hB] at hbr
   unfold resB
   unfold resR at hbr
   (repeat (first | refine gO rfl ?_ | ((first | refine gM zM4C ?_ | ((with_reducible refine xS ?_); refine uD 13 zM4C zP25E zP25P 187 rfl (by kernel_rfl) ?_)) <;> ((try with_reducible intro K1 hK1); simp only [go_sem, ↓reduceIte, reduceCtorEq, nA, nB, nC, nD, nE, nF, hRl, hR0, hR1, hR2, ht4, hl4] <;> and_intros <;> first | (apply hK1; clear hK1 K1) | (intros; (omega)) | skip))))
   refine (hff1 _).mono ?_; rintro _ hz ⟨rfl, hh⟩; apply hK1; clear hK1 K1; rw [hh]; clear hh hz
   (repeat ((((with_reducible refine wM ?_ ?_)) <;> ((try with_reducible intro K1 hK1); simp only [go_sem, ↓reduceIte, reduceCtorEq, nA, nB, nC, nD, nE, nF, hRl, hR0, hR1, hR2, ht4, hl4] <;> and_intros <;> first | (apply hK1; clear hK1 K1) | (intros; (decide)) | skip))))
   all_goals try with_reducible rfl
   (repeat (((refine gM zM4C fun K1 hK1 => ?_; simp only [go_sem, ↓reduceIte, reduceCtorEq, nA, nB, nC, nD, nE, nF, hRl, hR0, hR1, hR2, ht4, hl4] <;> and_intros))))
   all_goals try with_reducible rfl
   skip
   all_goals try with_reducible rfl
   skip
   refine (hff2 _).mono ?_; rintro _ hz ⟨rfl, hh⟩; apply hK1; clear hK1 K1; rw [hh]; clear hh hz
   (repeat (((first | refine gM zM4C ?_ | (with_reducible refine wM ?_ ?_)) <;> ((try with_reducible intro K1 hK1); simp only [go_sem, ↓reduceIte, reduceCtorEq, nA, nB, nC, nD, nE, nF, hRl, hR0, hR1, hR2, ht4, hl4] <;> and_intros <;> first | (apply hK1; clear hK1 K1) | skip))))
   all_goals try with_reducible rfl
   skip
   all_goals try with_reducible rfl
   skip
   all_goals try with_reducible rfl
   skip
   refine (g_pixel wd _).mono ?_; rintro _ hz ⟨rfl, hh⟩; apply hK1; clear hK1 K1; rw [hh]; clear hh hz
   (repeat (((first | refine gM zM4C ?_ | (with_reducible refine wM ?_ ?_)) <;> ((try with_reducible intro K1 hK1); simp only [go_sem, ↓reduceIte, reduceCtorEq, nA, nB, nC, nD, nE, nF, hRl, hR0, hR1, hR2, ht4, hl4] <;> and_intros <;> first | (apply hK1; clear hK1 K1) | skip))))
   all_goals try with_reducible rfl
   skip
   all_goals try with_reducible rfl
   skip
   all_goals try with_reducible rfl
   skip
   refine (g_pixel hg _).mono ?_; rintro _ hz ⟨rfl, hh⟩; apply hK1; clear hK1 K1; rw [hh]; clear hh hz
   (repeat (((first | refine gM zM4C ?_ | (with_reducible refine wM ?_ ?_)) <;> ((try with_reducible intro K1 hK1); simp only [go_sem, ↓reduceIte, reduceCtorEq, nA, nB, nC, nD, nE, nF, hRl, hR0, hR1, hR2, ht4, hl4] <;> and_intros <;> first | (apply hK1; clear hK1 K1) | (intros; (decide)) | skip))))
   all_goals try with_reducible rfl
   skip
   all_goals try with_reducible rfl
   skip
   all_goals try with_reducible rfl
   skip
   refine (hor _).mono ?_; rintro _ hz ⟨rfl, hh⟩; apply hK1; clear hK1 K1; rw [hh]; clear hh hz
   (repeat (first | refine gO rfl ?_ | ((first | refine gM zM4C ?_ | (with_reducible refine wM ?_ ?_)) <;> ((try with_reducible intro K1 hK1); simp only [go_sem, ↓reduceIte, reduceCtorEq, nA, nB, nC, nD, nE, nF] <;> and_intros <;> (apply hK1; clear hK1 K1)))))
   refine awp_cond (t := _) rfl (fun _ => ?_) (fun h9 => by cases h9)
   (repeat (((refine gM zM4C fun K1 hK1 => ?_; simp only [go_sem, ↓reduceIte, reduceCtorEq, nA, nB, nC, nD, nE, nF] <;> and_intros))))
   refine hbr.mono ?_
   rintro _ h4 ⟨rfl, hgr⟩
   apply hK1; clear hK1 K1 hbr hgr
   have hmx : max (-1 : Int) 0 = 0 := rfl
   have hn1 : decide ((0 : Int) ≤ -1) = false := by decide
   have hn2 : (false == decide ((0 : Int) ≤ -1)) = true := by decide
   (repeat (first | refine gO rfl ?_ | ((refine gM zM4C fun K1 hK1 => ?_; simp only [go_sem, ↓reduceIte, reduceCtorEq, nA, nB, nC, nD, nE, nF, hmx, hn2, hn1, beq_self_eq_true, in_same, i_same, s_same, b_same, Bool.not_false, Bool.not_true, Bool.true_and, Bool.false_and, Bool.true_or, Bool.false_or, Bool.and_true] <;> and_intros <;> first | (apply hK1; clear hK1 K1) | skip))))
   rotate_left
   ·exact fun h => h.elim
   refine (g_eqNil _).mono ?_; rintro _ hz ⟨rfl, hh⟩; refine ⟨rfl, hK1 _ ?_⟩; clear hK1 K1; rw [hh]; clear hh hz
   (repeat (((refine gM zM4C fun K1 hK1 => ?_; simp only [go_sem, ↓reduceIte, reduceCtorEq, nA, nB, nC, nD, nE, nF, in_same, i_same, s_same, b_same, Bool.not_false, Bool.not_true, Bool.true_and, Bool.false_and, Bool.true_or, Bool.false_or, Bool.and_true] <;> and_intros))))
   rotate_left
   ·exact fun h => h.elim
   refine (g_bound _).mono ?_
   rintro _ h8 rfl
   refine ⟨rfl, hK1 _ ?_⟩; clear hK1 K1
   (repeat (first | refine gO rfl ?_ | ((refine gM zM4C fun K1 hK1 => ?_; simp only [go_sem, ↓reduceIte, reduceCtorEq, nA, nB, nC, nD, nE, nF] <;> and_intros <;> (apply hK1; clear hK1 K1)))))
   simp only [Tryz.results4, go_sem, ↓reduceIte, reduceCtorEq, nA, nB, nC, nD, nE, nF]
   exact ⟨_, _, Weak.refl _, Hp.le.refl _, rfl⟩
  | some q =>
   obtain ⟨j, X⟩ := q
   have hXl := hbl j X hB
   rw [hB] at hbr
   unfold resB
   unfold resR at hbr
   (repeat (first | refine gO rfl ?_ | ((first | refine gM zM4C ?_ | ((with_reducible refine xS ?_); refine uD 13 zM4C zP25E zP25P 187 rfl (by kernel_rfl) ?_)) <;> ((try with_reducible intro K1 hK1); simp only [go_sem, ↓reduceIte, reduceCtorEq, nA, nB, nC, nD, nE, nF, hRl, hR0, hR1, hR2, ht4, hl4] <;> and_intros <;> first | (apply hK1; clear hK1 K1) | (intros; (omega)) | skip))))
   refine (hff1 _).mono ?_; rintro _ hz ⟨rfl, hh⟩; apply hK1; clear hK1 K1; rw [hh]; clear hh hz
   (repeat ((((with_reducible refine wM ?_ ?_)) <;> ((try with_reducible intro K1 hK1); simp only [go_sem, ↓reduceIte, reduceCtorEq, nA, nB, nC, nD, nE, nF, hRl, hR0, hR1, hR2, ht4, hl4] <;> and_intros <;> first | (apply hK1; clear hK1 K1) | (intros; (decide)) | skip))))
   all_goals try with_reducible rfl
   (repeat (((refine gM zM4C fun K1 hK1 => ?_; simp only [go_sem, ↓reduceIte, reduceCtorEq, nA, nB, nC, nD, nE, nF, hRl, hR0, hR1, hR2, ht4, hl4] <;> and_intros))))
   all_goals try with_reducible rfl
   skip
   all_goals try with_reducible rfl
   skip
   refine (hff2 _).mono ?_; rintro _ hz ⟨rfl, hh⟩; apply hK1; clear hK1 K1; rw [hh]; clear hh hz
   (repeat (((first | refine gM zM4C ?_ | (with_reducible refine wM ?_ ?_)) <;> ((try with_reducible intro K1 hK1); simp only [go_sem, ↓reduceIte, reduceCtorEq, nA, nB, nC, nD, nE, nF, hRl, hR0, hR1, hR2, ht4, hl4] <;> and_intros <;> first | (apply hK1; clear hK1 K1) | skip))))
   all_goals try with_reducible rfl
   skip
   all_goals try with_reducible rfl
   skip
   all_goals try with_reducible rfl
   skip
   refine (g_pixel wd _).mono ?_; rintro _ hz ⟨rfl, hh⟩; apply hK1; clear hK1 K1; rw [hh]; clear hh hz
   (repeat (((first | refine gM zM4C ?_ | (with_reducible refine wM ?_ ?_)) <;> ((try with_reducible intro K1 hK1); simp only [go_sem, ↓reduceIte, reduceCtorEq, nA, nB, nC, nD, nE, nF, hRl, hR0, hR1, hR2, ht4, hl4] <;> and_intros <;> first | (apply hK1; clear hK1 K1) | skip))))
   all_goals try with_reducible rfl
   skip
   all_goals try with_reducible rfl
   skip
   all_goals try with_reducible rfl
   skip
   refine (g_pixel hg _).mono ?_; rintro _ hz ⟨rfl, hh⟩; apply hK1; clear hK1 K1; rw [hh]; clear hh hz
   (repeat (((first | refine gM zM4C ?_ | (with_reducible refine wM ?_ ?_)) <;> ((try with_reducible intro K1 hK1); simp only [go_sem, ↓reduceIte, reduceCtorEq, nA, nB, nC, nD, nE, nF, hRl, hR0, hR1, hR2, ht4, hl4] <;> and_intros <;> first | (apply hK1; clear hK1 K1) | (intros; (decide)) | skip))))
   all_goals try with_reducible rfl
   skip
   all_goals try with_reducible rfl
   skip
   all_goals try with_reducible rfl
   skip
   refine (hor _).mono ?_; rintro _ hz ⟨rfl, hh⟩; apply hK1; clear hK1 K1; rw [hh]; clear hh hz
   (repeat (first | refine gO rfl ?_ | ((first | refine gM zM4C ?_ | (with_reducible refine wM ?_ ?_)) <;> ((try with_reducible intro K1 hK1); simp only [go_sem, ↓reduceIte, reduceCtorEq, nA, nB, nC, nD, nE, nF] <;> and_intros <;> (apply hK1; clear hK1 K1)))))
   refine awp_cond (t := _) rfl (fun _ => ?_) (fun h9 => by cases h9)
   (repeat (((refine gM zM4C fun K1 hK1 => ?_; simp only [go_sem, ↓reduceIte, reduceCtorEq, nA, nB, nC, nD, nE, nF] <;> and_intros))))
   refine hbr.mono ?_
   rintro _ h4 ⟨rfl, hgr⟩
   apply hK1; clear hK1 K1 hbr hgr
   have hmx : max (j : Int) 0 = (j : Int) := by omega
   have hj0 : decide ((0 : Int) ≤ (j : Int)) = true := decide_eq_true (by omega)
   (repeat (first | refine gO rfl ?_ | ((refine gM zM4C fun K1 hK1 => ?_; simp only [go_sem, ↓reduceIte, reduceCtorEq, nA, nB, nC, nD, nE, nF, hmx, hj0, in_same, i_same, s_same, b_same, Bool.not_false, Bool.not_true, Bool.true_and, Bool.false_and, Bool.true_or, Bool.false_or, Bool.and_true] <;> and_intros <;> first | (apply hK1; clear hK1 K1) | skip))))
   rotate_left
   ·exact fun h => h.elim
   refine (g_eqLn X _ (by omega)).mono ?_; rintro _ hz ⟨rfl, hh⟩; refine ⟨rfl, hK1 _ ?_⟩; clear hK1 K1; rw [hh]; clear hh hz
   (repeat (((refine gM zM4C fun K1 hK1 => ?_; simp only [go_sem, ↓reduceIte, reduceCtorEq, nA, nB, nC, nD, nE, nF, in_same, i_same, s_same, b_same, Bool.not_false, Bool.not_true, Bool.true_and, Bool.false_and, Bool.true_or, Bool.false_or, Bool.and_true] <;> and_intros))))
   rotate_left
   ·exact fun h => h.elim
   refine (g_bound _).mono ?_
   rintro _ h8 rfl
   refine ⟨rfl, hK1 _ ?_⟩; clear hK1 K1
   (repeat (first | refine gO rfl ?_ | ((refine gM zM4C fun K1 hK1 => ?_; simp only [go_sem, ↓reduceIte, reduceCtorEq, nA, nB, nC, nD, nE, nF] <;> and_intros <;> (apply hK1; clear hK1 K1)))))
   simp only [Tryz.results4, go_sem, ↓reduceIte, reduceCtorEq, nA, nB, nC, nD, nE, nF]
   exact ⟨_, _, Weak.refl _, Hp.le.refl _, rfl⟩
 ·have hb := g_bestX [f0, f1, f2] (bsOf ts.flatten) wd hg hsz hfs (by simp) hX h3
  rw [← hRf, hE] at hb
  rw [hE] at hX
  have e1 : (orI [fontF f0, fontF f1, fontF f2, pixF wd, pixF hg] == 0) = false := by simpa using hX
  have e2 : (orI [fontF f0, fontF f1, fontF f2, pixF wd, pixF hg] != 0) = true := by simpa using hX
  have hor := fun h => g_orG [fontF f0, fontF f1, fontF f2, pixF wd, pixF hg] h (by simp)
  generalize orI [fontF f0, fontF f1, fontF f2, pixF wd, pixF hg] = E at *
  (repeat (((refine gM zM4C fun K1 hK1 => ?_; simp only [go_sem, ↓reduceIte, reduceCtorEq, nA, nB, nC, nD, nE, nF] <;> and_intros))))
  refine hb.mono ?_; rintro _ hz ⟨rfl, hh⟩; apply hK1; clear hK1 K1; rw [hh]; clear hh hz
  (repeat (first | refine gO rfl ?_ | ((first | refine gM zM4C ?_ | ((with_reducible refine xS ?_); refine uD 13 zM4C zP25E zP25P 187 rfl (by kernel_rfl) ?_)) <;> ((try with_reducible intro K1 hK1); simp only [go_sem, ↓reduceIte, reduceCtorEq, nA, nB, nC, nD, nE, nF, hRl, hR0, hR1, hR2, ht4, hl4] <;> and_intros <;> first | (apply hK1; clear hK1 K1) | (intros; (omega)) | skip))))
  refine (hff1 _).mono ?_; rintro _ hz ⟨rfl, hh⟩; apply hK1; clear hK1 K1; rw [hh]; clear hh hz
  (repeat ((((with_reducible refine wM ?_ ?_)) <;> ((try with_reducible intro K1 hK1); simp only [go_sem, ↓reduceIte, reduceCtorEq, nA, nB, nC, nD, nE, nF, hRl, hR0, hR1, hR2, ht4, hl4] <;> and_intros <;> first | (apply hK1; clear hK1 K1) | (intros; (decide)) | skip))))
  all_goals try with_reducible rfl
  (repeat (((refine gM zM4C fun K1 hK1 => ?_; simp only [go_sem, ↓reduceIte, reduceCtorEq, nA, nB, nC, nD, nE, nF, hRl, hR0, hR1, hR2, ht4, hl4] <;> and_intros))))
  all_goals try with_reducible rfl
  skip
  all_goals try with_reducible rfl
  skip
  refine (hff2 _).mono ?_; rintro _ hz ⟨rfl, hh⟩; apply hK1; clear hK1 K1; rw [hh]; clear hh hz
  (repeat (((first | refine gM zM4C ?_ | (with_reducible refine wM ?_ ?_)) <;> ((try with_reducible intro K1 hK1); simp only [go_sem, ↓reduceIte, reduceCtorEq, nA, nB, nC, nD, nE, nF, hRl, hR0, hR1, hR2, ht4, hl4] <;> and_intros <;> first | (apply hK1; clear hK1 K1) | skip))))
  all_goals try with_reducible rfl
  skip
  all_goals try with_reducible rfl
  skip
  all_goals try with_reducible rfl
  skip
  refine (g_pixel wd _).mono ?_; rintro _ hz ⟨rfl, hh⟩; apply hK1; clear hK1 K1; rw [hh]; clear hh hz
  (repeat (((first | refine gM zM4C ?_ | (with_reducible refine wM ?_ ?_)) <;> ((try with_reducible intro K1 hK1); simp only [go_sem, ↓reduceIte, reduceCtorEq, nA, nB, nC, nD, nE, nF, hRl, hR0, hR1, hR2, ht4, hl4] <;> and_intros <;> first | (apply hK1; clear hK1 K1) | skip))))
  all_goals try with_reducible rfl
  skip
  all_goals try with_reducible rfl
  skip
  all_goals try with_reducible rfl
  skip
  refine (g_pixel hg _).mono ?_; rintro _ hz ⟨rfl, hh⟩; apply hK1; clear hK1 K1; rw [hh]; clear hh hz
  (repeat (((first | refine gM zM4C ?_ | (with_reducible refine wM ?_ ?_)) <;> ((try with_reducible intro K1 hK1); simp only [go_sem, ↓reduceIte, reduceCtorEq, nA, nB, nC, nD, nE, nF, hRl, hR0, hR1, hR2, ht4, hl4] <;> and_intros <;> first | (apply hK1; clear hK1 K1) | (intros; (decide)) | skip))))
  all_goals try with_reducible rfl
  skip
  all_goals try with_reducible rfl
  skip
  all_goals try with_reducible rfl
  skip
  refine (hor _).mono ?_; rintro _ hz ⟨rfl, hh⟩; apply hK1; clear hK1 K1; rw [hh]; clear hh hz
  (repeat (first | refine gO rfl ?_ | ((first | refine gM zM4C ?_ | (with_reducible refine wM ?_ ?_)) <;> ((try with_reducible intro K1 hK1); simp only [go_sem, ↓reduceIte, reduceCtorEq, nA, nB, nC, nD, nE, nF] <;> and_intros <;> (apply hK1; clear hK1 K1)))))
  refine awp_cond (t := _) rfl (fun h9 => by rw [e1] at h9; cases h9) (fun _ => ?_)
  have hmx : max (-1 : Int) 0 = 0 := rfl
  (repeat (first | refine gO rfl ?_ | ((refine gM zM4C fun K1 hK1 => ?_; simp only [go_sem, ↓reduceIte, reduceCtorEq, nA, nB, nC, nD, nE, nF, hmx, e1, in_same, i_same, s_same, b_same, Bool.not_false, Bool.not_true, Bool.true_and, Bool.false_and, Bool.true_or, Bool.false_or, Bool.and_true] <;> and_intros))))
  rotate_left
  ·exact fun h => h.elim
  refine (g_eqNil _).mono ?_; rintro _ hz ⟨rfl, hh⟩; refine ⟨rfl, hK1 _ ?_⟩; clear hK1 K1; rw [hh]; clear hh hz
  (repeat (((refine gM zM4C fun K1 hK1 => ?_; simp only [go_sem, ↓reduceIte, reduceCtorEq, nA, nB, nC, nD, nE, nF, in_same, i_same, s_same, b_same, Bool.not_false, Bool.not_true, Bool.true_and, Bool.false_and, Bool.true_or, Bool.false_or, Bool.and_true] <;> and_intros))))
  rotate_left
  ·exact fun h => h.elim
  refine (g_bound _).mono ?_
  rintro _ h8 rfl
  refine ⟨rfl, hK1 _ ?_⟩; clear hK1 K1
  (repeat (first | refine gO rfl ?_ | ((refine gM zM4C fun K1 hK1 => ?_; simp only [go_sem, ↓reduceIte, reduceCtorEq, nA, nB, nC, nD, nE, nF] <;> and_intros <;> (apply hK1; clear hK1 K1)))))
  simp only [Tryz.results4, go_sem, ↓reduceIte, reduceCtorEq, nA, nB, nC, nD, nE, nF]
  exact ⟨_, _, Weak.refl _, Hp.le.refl _, rfl⟩
open Go Go.RowKit
def ARow (w : World) (a : Option Addr) (len cap : Nat) (zs : List Int) : Prop :=
 (a = none ∧ len = 0 ∧ cap = 0 ∧ zs = []) ∨ ∃ b : Addr, a = some b ∧ len ≤ cap ∧ cap ≤ maxLen ∧ zs.length = cap ∧ (∀ i, i < zs.length → w.cell? (b.add i) = some (.int .i64 (zs.getD i 0)) ∧ w.frozen? (b.add i) = false) ∧ (∀ n ∈ zs, (Lit.int .i64 n).wf = true)
def G0 (w : World) : Gh := ⟨fun g o => cellT w g o, fun _ => none, fun _ => none, 0⟩
theorem rep_v_inv0 {G : Gh} {x y : Value} (h : Rep G (.v x) y) : y = x := by cases h; rfl
theorem flat_encI (l : List Int) : (l.map encI).flatten = l.map fun x => AV.v (.int .i64 x) := by
 induction l with
 | nil => rfl
 | cons x q ih => simp [encI, ih]
theorem arow_rep {w : World} {a : Option Addr} {len cap : Nat} {zs : List Int} (h : ARow w a len cap zs) : ∃ l : List Int, SOk l ∧ Rep (G0 w) (.row 1 (l.map encI) none) (.slice a len cap) := by
 rcases h with ⟨rfl, rfl, rfl, _⟩ | ⟨⟨b, o, sp⟩, rfl, hl, hm, hz, hc, hwz⟩
 ·exact ⟨[], ⟨by simp, by simp⟩, .nil 1 none trivial⟩
 ·by_cases h0 : cap = 0
  ·subst h0
   obtain rfl : len = 0 := by omega
   exact ⟨[], ⟨by simp, by simp⟩, .nilA 1 _⟩
  ·have hsp : sp = none := by
    have h1 := (hc 0 (by omega)).1
    rw [show (⟨b, o, sp⟩ : Addr).add 0 = ⟨b, o, sp⟩ from rfl] at h1
    cases sp with
    | none => rfl
    | some s =>
     simp only [World.cell?] at h1
     split at h1 <;> simp at h1
   subst hsp
   refine ⟨zs.take len, ⟨by have hm2 : maxLen = 9223372036854775807 := rfl; rw [List.length_take]; omega, fun x hx => ?_⟩, ?_⟩
   ·have h1 := hwz x (List.mem_of_mem_take hx)
    simp only [Lit.wf, Bool.and_eq_true, decide_eq_true_eq] at h1
    exact ⟨h1.1, h1.2⟩
   ·have hlen : (zs.take len).length = len := by simp; omega
    have h2 := Rep.row_mk (G := G0 w) (z := 1) (xs := (zs.take len).map encI) (g := b) (o := o) (c := cap) (us := (zs.take len).map fun x => Value.int .i64 x) (by rw [List.length_map, hlen]; exact hl)
     (fun y hy => by obtain ⟨x, _, rfl⟩ := List.mem_map.1 hy; rfl) (by
      rw [flat_encI]
      refine ⟨by simp, fun j a b => ?_⟩
      simp only [List.getElem_map]
      exact ⟨.v _ rfl, rfl⟩) (fun j y hy => by
      rw [List.getElem?_map] at hy
      obtain ⟨x, hx, rfl⟩ := Option.map_eq_some_iff.1 hy
      rw [List.getElem?_take] at hx
      split at hx
      ·have hjl := (List.getElem?_eq_some_iff.1 hx).1
       have h3 := hc j hjl
       rw [List.getD_eq_getElem?_getD, hx, Addr.add_lit] at h3
       exact cellT_mk h3.1 (.inr h3.2)
      ·cases hx)
    rwa [List.length_map, hlen] at h2
def GU (w : World) : Gh := ⟨fun g o => cellT w g o, fun _ => none, fun k => if k = 0 then some none else none, 1⟩
def HU : Hp := ⟨fun _ => none, fun k => if k = 0 then some (.glb tabU) else none⟩
theorem tabU_cell {w : World} (ht : Lib.Utf8Tabs 0 1 w) {b o : Nat} {v : Value} (h : tabU b o = some v) : cellT w b o = some v := by
 obtain ⟨h1, h2⟩ := ht
 unfold tabU at h
 split at h
 ·rename_i e
  subst e
  split at h
  ·rename_i hc
   cases h
   exact cellT_mk (h1 o hc) (.inl rfl)
  ·cases h
 ·split at h
  ·rename_i e
   subst e
   split at h
   ·rename_i hc
    have := h2 (o / 2) (by omega)
    by_cases h0 : o % 2 = 0
    ·rw [if_pos h0] at h
     cases h
     have e : 2 * (o / 2) = o := by omega
     rw [e] at this
     exact cellT_mk this.1 (.inl rfl)
    ·rw [if_neg h0] at h
     cases h
     have e : 2 * (o / 2) + 1 = o := by omega
     rw [e] at this
     exact cellT_mk this.2 (.inl rfl)
   ·cases h
  ·cases h
theorem hsimU (w : World) (ht : Lib.Utf8Tabs 0 1 w) : HSim (GU w) HU w where
 val _ _ _ h := h
 obj _ _ h := by cases h
 inj _ _ _ h := absurd rfl h
 tok k m h := by
  have h : (if k = 0 then some (TO.glb tabU) else none) = some m := h
  split at h
  ·rename_i e
   subst e
   cases h
   exact ⟨rfl, fun b o v e => tabU_cell ht e⟩
  ·cases h
 tinj k l s t h _ e _ := by
  have e : (if k = 0 then some none else none) = some (some s) := e
  split at e <;> cases e
 tobj k i t _ h := absurd rfl h
 fat _ _ := rfl
 ftl k hk := by
  show (if k = 0 then some none else none) = none
  rw [if_neg]
  have : 1 ≤ k := hk
  omega
theorem below_of_frU {G' : Gh} {h' : Hp} {w w' : World} (f : Fr (GU w) HU w G' h' w') : Below w.heap.size w w' :=
 ⟨f.os, f.tape, f.output, f.size, fun b hb => (f.keep b hb (fun o => by
  rcases o with ⟨_, h, _⟩ | ⟨k, t, _, h, _⟩
  ·exact h rfl
  ·have h : (if k = 0 then some none else none) = some (some t) := h
   split at h <;> cases h)).1⟩
theorem law_callsU {f : Nat} (hlaw : ∀ (l : List Int) (h : Hp), SOk l → h.T 0 = some (.glb tabU) → ACalls Tryz.prog f [.row 1 (l.map encI) none] h (fun r _ => r = .v (.bool true))) (a : Option Addr) (len cap : Nat) (zs : List Int) (w : World) (h : ARow w a len cap zs)
  (ht : Lib.Utf8Tabs 0 1 w) :
  Calls Tryz.prog f #[.slice a len cap] w fun e w' => e = .returned (.bool true) ∧ Below w.heap.size w w' := by
 obtain ⟨l, hl, hrep⟩ := arow_rep h
 have hle : GLe (G0 w) (GU w) := ⟨fun _ _ _ h => h, (fun _ _ h => by cases h), Nat.zero_le _, (fun k hk => absurd hk (Nat.not_lt_zero k))⟩
 have hrep : Rep (GU w) (.row 1 (l.map encI) none) (.slice a len cap) := hrep.mono hle
 refine ((hlaw l HU hl rfl).calls _ w #[.slice a len cap] (hsimU w ht) rfl (fun j hj => ?_)).mono ?_
 ·simp only [List.length_cons, List.length_nil, Nat.zero_add, Nat.lt_one_iff] at hj
  subst hj
  exact hrep
 ·rintro _ w' ⟨r, h', G', v, rfl, rfl, _, f, _, hv⟩
  exact ⟨by rw [rep_v_inv0 hv], below_of_frU f⟩
end Go.Proofs.YtlaakjlpfgfdkaaGreatDoor
