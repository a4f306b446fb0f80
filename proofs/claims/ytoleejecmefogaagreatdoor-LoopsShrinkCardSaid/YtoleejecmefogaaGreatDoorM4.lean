/- One change: the reference's. -/
import Derived.Test.YtoleejecmefogaaGreatDoorM3
import Derived.Below
import Derived.Test.YtoleejecmefogaaGreatDoorCards
import Derived.Test.YtoleejecmefogaaGreatDoorTie
import Derived.ProofKit
import Derived.OpenShut
import Derived.LaidMore
import Derived.Lay
import Derived.Stop.Joined
namespace Go.Proofs.YtoleejecmefogaaGreatDoor
open Go
set_option linter.unusedVariables false
set_option linter.unusedSimpArgs false
open Nat renaming reduceAdd → nA, reduceSub → nB, reduceMul → nC, reduceLT → nD, reduceLeDiff → nE, reduceEqDiff → nF
set_option maxRecDepth 100000
set_option maxHeartbeats 8000000
theorem g_chgRsame (x t : LT) (i : Nat) (h : Hp) (hi : h.H i = some (.cells (encL x))) (hx : BL x) (ht : BL t) : ACalls Tryz.prog 124 [.agg (encL t), .ptr i 0] h (fun r h' => r = .v (.bool (!sameB t x)) ∧ h' = h) := by
  have hlt := encL_len t
  have kt : List.take 6 (encL t) = encL t := List.take_of_length_le (Nat.le_of_eq hlt)
  have dt : List.drop 6 (encL t) = [] := List.drop_of_length_le (Nat.le_of_eq hlt)
  have hlx := encL_len x
  have kx : List.take 6 (encL x) = encL x := List.take_of_length_le (Nat.le_of_eq hlx)
  have dx : List.drop 6 (encL x) = [] := List.drop_of_length_le (Nat.le_of_eq hlx)
  have g1 := g_same (SizeOf.sizeOf t) t x h (Nat.le_refl _) ht hx
  generalize sameB t x = q1 at *
  refine gE Tryz.func124 rfl (by kernel_rfl) 6 rfl fun c => ?_
  (repeat (first | refine gO (by decide) ?_ | (refine gR fun K1 hK1 => ?_; simp only [go_sem, ↓reduceIte, reduceCtorEq, nA, nB, nC, nD, nE, nF, hi, hlt, kt, dt, hlx, kx, dx] <;> and_intros <;> first | (apply hK1; clear hK1 K1) | (intros; first | omega | decide | (simp_all <;> omega)) | skip)))
  refine g1.mono ?_; rintro _ hz ⟨rfl, hh⟩; apply hK1; clear hK1 K1; rw [hh]; clear hh hz
  (repeat (first | refine gO (by decide) ?_ | (refine gR fun K1 hK1 => ?_; simp only [go_sem, ↓reduceIte, reduceCtorEq, nA, nB, nC, nD, nE, nF] <;> and_intros <;> first | (apply hK1; clear hK1 K1) | (intros; first | omega | decide | (simp_all <;> omega)) | skip)))
  simp only [Tryz.results124, go_sem, ↓reduceIte, reduceCtorEq, nA, nB, nC, nD, nE, nF]
  exact ⟨_, _, Weak.refl _, Hp.le.refl _, rfl, rfl⟩
theorem le_newH {h : Hp} {i : Nat} (hi : h.H i = none) (x : Option AO) : Hp.le h ⟨upd h.H i x, h.T⟩ :=
  ⟨fun j => by
    by_cases e : j = i
    · subst e; exact .inl hi
    · exact .inr (upd_other _ _ e).symm, fun _ => .inr rfl⟩
def ChgQ (t : LT) (h : Hp) (r : AV) (h' : Hp) : Prop := r = .agg (encL ((stepT t).getD t)) ∧ h' = h
theorem g_chgR1 (item : ByteArray) (long many : Int) (kids : List LT) (shares : List Int) (h : Hp) : ACalls Tryz.prog 69 [.agg (encL (.mk 1 item long many kids shares))] h (ChgQ (.mk 1 item long many kids shares) h) := by
  have hst : stepT (.mk 1 item long many kids shares) = none := by rw [stepT_mk, if_pos rfl]
  unfold ChgQ
  rw [hst, Option.getD_none, encL_eq]
  refine gE Tryz.func69 rfl (by kernel_rfl) 114 rfl fun c => ?_
  (repeat' (first | refine gO (by decide) ?_ | (refine gM (mdL [(1, 1), (2, 1), (3, 2)]) fun K1 hK1 => ?_; simp only [go_sem, ↓reduceIte, reduceCtorEq, nA, nB, nC, nD, nE, nF] <;> and_intros <;> first | (apply hK1; clear hK1 K1) | (intros; first | omega | decide | (simp_all <;> omega)) | skip) | (refine awp_cond (t := _) rfl (fun hcnd => ?_) (fun hcnd => ?_) <;> first | (cases hcnd; done) | (simp only [hcnd]) | skip)))
  simp only [Tryz.results69, go_sem, ↓reduceIte, reduceCtorEq, nA, nB, nC, nD, nE, nF]
  exact ⟨_, _, Weak.refl _, Hp.le.refl _, rfl, rfl⟩
theorem e53 : ((5 : Int) == 3) = false := rfl
theorem e23 : ((2 : Int) == 3) = false := rfl
theorem e33 : ((3 : Int) == 3) = true := rfl
theorem e43 : ((4 : Int) == 3) = false := rfl
theorem g_chgR5 (item : ByteArray) (long many : Int) (x : LT) (shares : List Int) (h : Hp) (hw : WF (.mk 5 item long many [x] shares)) : ACalls Tryz.prog 69 [.agg (encL (.mk 5 item long many [x] shares))] h (ChgQ (.mk 5 item long many [x] shares) h) := by
  obtain ⟨w1, w2, w3, w4, w5, w6, w7, w8, w9, w10⟩ := (WF_eq ..).mp hw
  obtain ⟨m0, m1, m2⟩ := w4 rfl
  have hwx := w10 x (by simp)
  have hst := stepT_mk 5 item long many [x] shares
  rw [if_neg (by decide), if_pos rfl] at hst
  simp only [List.getD_cons_zero] at hst
  have hA : many = 1 → stepT (.mk 5 item long many [x] shares) = some x := fun e => by rw [hst, if_pos e]
  have hB : many ≠ 1 → x.kd = 5 → many * x.mn ≤ 100 → stepT (.mk 5 item long many [x] shares) = some (repK (many * x.mn) x.ks) := fun e e1 e2 => by rw [hst, if_neg e, if_pos ⟨e1, e2⟩]
  have hC : many ≠ 1 → ¬ (x.kd = 5 ∧ many * x.mn ≤ 100) → stepT (.mk 5 item long many [x] shares) = none := fun e e1 => by rw [hst, if_neg e, if_neg e1]
  clear hst
  unfold ChgQ
  cases x with
  | mk k2 i2 l2 m2' ks2 s2 =>
  simp only [LT.kd, LT.mn, LT.ks] at hB hC
  obtain ⟨v1, v2, v3, v4, v5, v6, v7, v8, v9, v10⟩ := (WF_eq ..).mp hwx
  by_cases hm : many = 1
  · subst hm
    rw [hA rfl, Option.getD_some, encL_eq]
    refine gE Tryz.func69 rfl (by kernel_rfl) 114 rfl fun c => ?_
    (repeat' (first | refine gO (by decide) ?_ | (refine gM (mdL [(1, 1), (2, 1), (3, 2)]) fun K1 hK1 => ?_; simp only [go_sem, ↓reduceIte, reduceCtorEq, nA, nB, nC, nD, nE, nF, e53, e23, e33, encL_eq, Int.toNat_zero] <;> and_intros <;> first | (apply hK1; clear hK1 K1) | (intros; first | omega | decide | (simp_all <;> omega)) | skip) | (refine awp_cond (t := _) rfl (fun hcnd => ?_) (fun hcnd => ?_) <;> first | (cases hcnd; done) | (simp only [hcnd]) | skip)))
    intro i hi
    and_intros <;> first | (refine hK1 _ ?_; clear hK1 K1) | exact .inl trivial | exact .inr rfl | exact .inr True.intro | exact True.intro | omega
    (repeat' (first | refine gO (by decide) ?_ | (refine gM (mdL [(1, 1), (2, 1), (3, 2)]) fun K1 hK1 => ?_; simp only [go_sem, ↓reduceIte, reduceCtorEq, nA, nB, nC, nD, nE, nF, e53, e23, e33, encL_eq, Int.toNat_zero] <;> and_intros <;> first | (apply hK1; clear hK1 K1) | (intros; first | omega | decide | (simp_all <;> omega)) | skip) | (refine awp_cond (t := _) rfl (fun hcnd => ?_) (fun hcnd => ?_) <;> first | (cases hcnd; done) | (simp only [hcnd]) | skip)))
    simp only [Tryz.results69, go_sem, ↓reduceIte, reduceCtorEq, nA, nB, nC, nD, nE, nF]
    exact ⟨_, _, Weak.refl _, le_newH hi _, by rw [encL_eq], rfl⟩
  have em : (many == 1) = false := by simpa using hm
  by_cases h25 : k2 = 5
  · subst h25
    obtain ⟨n0, n1, n2⟩ := v4 rfl
    have hmul := mul_bd' (a := many) (b := m2') (A := 100) (B := 100) (by omega) (by omega)
    by_cases hc : many * m2' ≤ 100
    · have hcd : decide (many * m2' ≤ 100) = true := by simpa using hc
      rw [hB hm rfl hc, Option.getD_some, encL_eq]
      refine gE Tryz.func69 rfl (by kernel_rfl) 114 rfl fun c => ?_
      (repeat' (first | refine gO (by decide) ?_ | (refine gM (mdL [(1, 1), (2, 1), (3, 2)]) fun K1 hK1 => ?_; simp only [go_sem, ↓reduceIte, reduceCtorEq, nA, nB, nC, nD, nE, nF, e53, e23, e33, encL_eq, Int.toNat_zero, em] <;> and_intros <;> first | (apply hK1; clear hK1 K1) | (intros; first | omega | decide | (simp_all <;> omega)) | skip) | (refine awp_cond (t := _) rfl (fun hcnd => ?_) (fun hcnd => ?_) <;> first | (cases hcnd; done) | (simp only [hcnd]) | skip)))
      intro i hi
      and_intros <;> first | (refine hK1 _ ?_; clear hK1 K1) | exact .inl trivial | exact .inr rfl | exact .inr True.intro | exact True.intro | omega
      (repeat' (first | refine gO (by decide) ?_ | (refine gM (mdL [(1, 1), (2, 1), (3, 2)]) fun K1 hK1 => ?_; simp only [go_sem, ↓reduceIte, reduceCtorEq, nA, nB, nC, nD, nE, nF, e53, e23, e33, encL_eq, Int.toNat_zero, em, hcd] <;> and_intros <;> first | (apply hK1; clear hK1 K1) | (intros; first | omega | decide | (simp_all <;> omega)) | skip) | (refine awp_cond (t := _) rfl (fun hcnd => ?_) (fun hcnd => ?_) <;> first | (cases hcnd; done) | (simp only [hcnd]) | skip)))
      simp only [Tryz.results69, go_sem, ↓reduceIte, reduceCtorEq, nA, nB, nC, nD, nE, nF]
      exact ⟨_, _, Weak.agg (rep_wl2 (many * m2') ks2), le_newH hi _, rfl, rfl⟩
    · have hcd : decide (many * m2' ≤ 100) = false := by simpa using hc
      rw [hC hm (fun e => hc e.2), Option.getD_none, encL_eq]
      refine gE Tryz.func69 rfl (by kernel_rfl) 114 rfl fun c => ?_
      (repeat' (first | refine gO (by decide) ?_ | (refine gM (mdL [(1, 1), (2, 1), (3, 2)]) fun K1 hK1 => ?_; simp only [go_sem, ↓reduceIte, reduceCtorEq, nA, nB, nC, nD, nE, nF, e53, e23, e33, encL_eq, Int.toNat_zero, em] <;> and_intros <;> first | (apply hK1; clear hK1 K1) | (intros; first | omega | decide | (simp_all <;> omega)) | skip) | (refine awp_cond (t := _) rfl (fun hcnd => ?_) (fun hcnd => ?_) <;> first | (cases hcnd; done) | (simp only [hcnd]) | skip)))
      intro i hi
      and_intros <;> first | (refine hK1 _ ?_; clear hK1 K1) | exact .inl trivial | exact .inr rfl | exact .inr True.intro | exact True.intro | omega
      (repeat' (first | refine gO (by decide) ?_ | (refine gM (mdL [(1, 1), (2, 1), (3, 2)]) fun K1 hK1 => ?_; simp only [go_sem, ↓reduceIte, reduceCtorEq, nA, nB, nC, nD, nE, nF, e53, e23, e33, encL_eq, Int.toNat_zero, em, hcd] <;> and_intros <;> first | (apply hK1; clear hK1 K1) | (intros; first | omega | decide | (simp_all <;> omega)) | skip) | (refine awp_cond (t := _) rfl (fun hcnd => ?_) (fun hcnd => ?_) <;> first | (cases hcnd; done) | (simp only [hcnd]) | skip)))
      refine ⟨.v (.bool false), rfl, True.intro, hK1 _ ?_⟩; clear hK1 K1
      (repeat' (first | refine gO (by decide) ?_ | (refine gM (mdL [(1, 1), (2, 1), (3, 2)]) fun K1 hK1 => ?_; simp only [go_sem, ↓reduceIte, reduceCtorEq, nA, nB, nC, nD, nE, nF, e53, e23, e33, encL_eq, Int.toNat_zero, em, hcd] <;> and_intros <;> first | (apply hK1; clear hK1 K1) | (intros; first | omega | decide | (simp_all <;> omega)) | skip) | (refine awp_cond (t := _) rfl (fun hcnd => ?_) (fun hcnd => ?_) <;> first | (cases hcnd; done) | (simp only [hcnd]) | skip)))
      simp only [Tryz.results69, go_sem, ↓reduceIte, reduceCtorEq, nA, nB, nC, nD, nE, nF]
      exact ⟨_, _, Weak.refl _, le_newH hi _, by simp only [List.map_cons, List.map_nil, encL_eq], rfl⟩
  · have e25 : (k2 == 5) = false := by simpa using h25
    rw [hC hm (fun e => h25 e.1), Option.getD_none, encL_eq]
    refine gE Tryz.func69 rfl (by kernel_rfl) 114 rfl fun c => ?_
    (repeat' (first | refine gO (by decide) ?_ | (refine gM (mdL [(1, 1), (2, 1), (3, 2)]) fun K1 hK1 => ?_; simp only [go_sem, ↓reduceIte, reduceCtorEq, nA, nB, nC, nD, nE, nF, e53, e23, e33, encL_eq, Int.toNat_zero, em] <;> and_intros <;> first | (apply hK1; clear hK1 K1) | (intros; first | omega | decide | (simp_all <;> omega)) | skip) | (refine awp_cond (t := _) rfl (fun hcnd => ?_) (fun hcnd => ?_) <;> first | (cases hcnd; done) | (simp only [hcnd]) | skip)))
    intro i hi
    and_intros <;> first | (refine hK1 _ ?_; clear hK1 K1) | exact .inl trivial | exact .inr rfl | exact .inr True.intro | exact True.intro | omega
    (repeat' (first | refine gO (by decide) ?_ | (refine gM (mdL [(1, 1), (2, 1), (3, 2)]) fun K1 hK1 => ?_; simp only [go_sem, ↓reduceIte, reduceCtorEq, nA, nB, nC, nD, nE, nF, e53, e23, e33, encL_eq, Int.toNat_zero, em, e25] <;> and_intros <;> first | (apply hK1; clear hK1 K1) | (intros; first | omega | decide | (simp_all <;> omega)) | skip) | (refine awp_cond (t := _) rfl (fun hcnd => ?_) (fun hcnd => ?_) <;> first | (cases hcnd; done) | (simp only [hcnd]) | skip)))
    refine ⟨.v (.bool false), rfl, True.intro, hK1 _ ?_⟩; clear hK1 K1
    (repeat' (first | refine gO (by decide) ?_ | (refine gM (mdL [(1, 1), (2, 1), (3, 2)]) fun K1 hK1 => ?_; simp only [go_sem, ↓reduceIte, reduceCtorEq, nA, nB, nC, nD, nE, nF, e53, e23, e33, encL_eq, Int.toNat_zero, em, e25] <;> and_intros <;> first | (apply hK1; clear hK1 K1) | (intros; first | omega | decide | (simp_all <;> omega)) | skip) | (refine awp_cond (t := _) rfl (fun hcnd => ?_) (fun hcnd => ?_) <;> first | (cases hcnd; done) | (simp only [hcnd]) | skip)))
    simp only [Tryz.results69, go_sem, ↓reduceIte, reduceCtorEq, nA, nB, nC, nD, nE, nF]
    exact ⟨_, _, Weak.refl _, le_newH hi _, by simp only [List.map_cons, List.map_nil, encL_eq], rfl⟩
theorem g_chgRone (kind : Int) (item : ByteArray) (long many : Int) (x : LT) (shares : List Int) (h : Hp) (h1 : kind ≠ 1) (h5 : kind ≠ 5) : ACalls Tryz.prog 69 [.agg (encL (.mk kind item long many [x] shares))] h (ChgQ (.mk kind item long many [x] shares) h) := by
  have hst := stepT_mk kind item long many [x] shares
  rw [if_neg h1, if_neg h5, if_pos (by rfl)] at hst
  simp only [List.getD_cons_zero] at hst
  have e1 : (kind == 1) = false := by simpa using h1
  have e5 : (kind == 5) = false := by simpa using h5
  have e5' : (kind != 5) = true := by simpa using h5
  unfold ChgQ
  cases x with
  | mk k2 i2 l2 m2' ks2 s2 =>
  rw [hst, Option.getD_some, encL_eq]
  refine gE Tryz.func69 rfl (by kernel_rfl) 114 rfl fun c => ?_
  (repeat' (first | refine gO (by decide) ?_ | (refine gM (mdL [(1, 1), (2, 1), (3, 2)]) fun K1 hK1 => ?_; simp only [go_sem, ↓reduceIte, reduceCtorEq, nA, nB, nC, nD, nE, nF, e53, e23, e33, e1, e5, e5', Int.toNat_zero, encL_eq] <;> and_intros <;> first | (apply hK1; clear hK1 K1) | (intros; first | omega | decide | (simp_all <;> omega)) | skip) | (refine awp_cond (t := _) rfl (fun hcnd => ?_) (fun hcnd => ?_) <;> first | (cases hcnd; done) | (simp only [hcnd]) | skip)))
  intro i hi
  and_intros <;> first | (refine hK1 _ ?_; clear hK1 K1) | exact .inl trivial | exact .inr rfl | exact .inr True.intro | exact True.intro | omega
  (repeat' (first | refine gO (by decide) ?_ | (refine gM (mdL [(1, 1), (2, 1), (3, 2)]) fun K1 hK1 => ?_; simp only [go_sem, ↓reduceIte, reduceCtorEq, nA, nB, nC, nD, nE, nF, e53, e23, e33, e1, e5, e5', Int.toNat_zero, encL_eq] <;> and_intros <;> first | (apply hK1; clear hK1 K1) | (intros; first | omega | decide | (simp_all <;> omega)) | skip) | (refine awp_cond (t := _) rfl (fun hcnd => ?_) (fun hcnd => ?_) <;> first | (cases hcnd; done) | (simp only [hcnd]) | skip)))
  simp only [Tryz.results69, go_sem, ↓reduceIte, reduceCtorEq, nA, nB, nC, nD, nE, nF]
  exact ⟨_, _, Weak.refl _, le_newH hi _, by rw [encL_eq], rfl⟩
theorem g_chgR2 (item : ByteArray) (long many : Int) (x : LT) (xs : List LT) (shares : List Int) (h : Hp) (hw : WF (.mk 2 item long many (x :: xs) shares)) (hl : lv (.mk 2 item long many (x :: xs) shares) ≤ 1000) (hx : xs ≠ []) :
    ACalls Tryz.prog 69 [.agg (encL (.mk 2 item long many (x :: xs) shares))] h (ChgQ (.mk 2 item long many (x :: xs) shares) h) := by
  have hkl := ks_len hw
  have hln := fun h0 => lv_ks (t := .mk 2 item long many (x :: xs) shares) h0
  simp only [LT.ks, LT.kd, List.length_cons] at hkl hln
  obtain ⟨w1, w2, w3, w4, w5, w6, w7, w8, w9, w10⟩ := (WF_eq ..).mp hw
  have hxl : 0 < xs.length := List.length_pos_iff.2 hx
  have hst := stepT_mk 2 item long many (x :: xs) shares
  rw [if_neg (by decide), if_neg (by decide), if_neg (by simp; omega), if_pos rfl] at hst
  have eone : (((xs.length + 1 : Nat) : Int) == 1) = false := by simp; omega
  have hg := fun h => g_gathR (x :: xs) h w10 (by simp; omega) (flat_len w10 (by rw [← hln (by simp)]; exact hl))
  have key : (stepT (.mk 2 item long many (x :: xs) shares)).getD (.mk 2 item long many (x :: xs) shares) = .mk 2 item long many (gath (flatT (x :: xs))) shares := by
    rw [hst]
    obtain ⟨e1, e2, _⟩ := w3 (by decide)
    have e3 := w5 (by decide)
    have e4 := w7 (by decide)
    split
    · rename_i e; rw [Option.getD_none, e]
    · rw [Option.getD_some, rowT, e1, e2, e3, e4]
  unfold ChgQ
  rw [key, encL_eq, encL_eq]
  generalize gath (flatT (x :: xs)) = gs at *
  cases x with
  | mk k2 i2 l2 m2' ks2 s2 =>
  simp only [List.map_cons, encL_eq] at hg
  refine gE Tryz.func69 rfl (by kernel_rfl) 114 rfl fun c => ?_
  (repeat' (first | refine gO (by decide) ?_ | (refine gM (mdL [(1, 1), (2, 1), (3, 2)]) fun K1 hK1 => ?_; simp only [go_sem, ↓reduceIte, reduceCtorEq, nA, nB, nC, nD, nE, nF, e53, e23, e33, eone, Int.toNat_zero, encL_eq] <;> and_intros <;> first | (apply hK1; clear hK1 K1) | (intros; first | omega | decide | (simp_all <;> omega)) | skip) | (refine awp_cond (t := _) rfl (fun hcnd => ?_) (fun hcnd => ?_) <;> first | (cases hcnd; done) | (simp only [hcnd]) | skip)))
  intro i hi
  and_intros <;> first | (refine hK1 _ ?_; clear hK1 K1) | exact .inl trivial | exact .inr rfl | exact .inr True.intro | exact True.intro | omega
  (repeat' (first | refine gO (by decide) ?_ | (refine gM (mdL [(1, 1), (2, 1), (3, 2)]) fun K1 hK1 => ?_; simp only [go_sem, ↓reduceIte, reduceCtorEq, nA, nB, nC, nD, nE, nF, e53, e23, e33, eone, Int.toNat_zero, encL_eq] <;> and_intros <;> first | (apply hK1; clear hK1 K1) | (intros; first | omega | decide | (simp_all <;> omega)) | skip) | (refine awp_cond (t := _) rfl (fun hcnd => ?_) (fun hcnd => ?_) <;> first | (cases hcnd; done) | (simp only [hcnd]) | skip)))
  refine ⟨.v (.bool false), rfl, True.intro, hK1 _ ?_⟩; clear hK1 K1
  (repeat' (first | refine gO (by decide) ?_ | (refine gM (mdL [(1, 1), (2, 1), (3, 2)]) fun K1 hK1 => ?_; simp only [go_sem, ↓reduceIte, reduceCtorEq, nA, nB, nC, nD, nE, nF, e53, e23, e33, eone, Int.toNat_zero, encL_eq] <;> and_intros <;> first | (apply hK1; clear hK1 K1) | (intros; first | omega | decide | (simp_all <;> omega)) | skip) | (refine awp_cond (t := _) rfl (fun hcnd => ?_) (fun hcnd => ?_) <;> first | (cases hcnd; done) | (simp only [hcnd]) | skip)))
  refine (hg _).mono ?_; rintro _ hz ⟨rfl, hh⟩; apply hK1; clear hK1 K1; rw [hh]; clear hh hz
  (repeat' (first | refine gO (by decide) ?_ | (refine gM (mdL [(1, 1), (2, 1), (3, 2)]) fun K1 hK1 => ?_; simp only [go_sem, ↓reduceIte, reduceCtorEq, nA, nB, nC, nD, nE, nF, e53, e23, e33, eone, Int.toNat_zero, encL_eq] <;> and_intros <;> first | (apply hK1; clear hK1 K1) | (intros; first | omega | decide | (simp_all <;> omega)) | skip) | (refine awp_cond (t := _) rfl (fun hcnd => ?_) (fun hcnd => ?_) <;> first | (cases hcnd; done) | (simp only [hcnd]) | skip)))
  simp only [Tryz.results69, go_sem, ↓reduceIte, reduceCtorEq, nA, nB, nC, nD, nE, nF]
  exact ⟨_, _, Weak.refl _, le_newH hi _, rfl, rfl⟩
theorem g_chgR3 (item : ByteArray) (long many : Int) (x : LT) (xs : List LT) (shares : List Int) (h : Hp) (hw : WF (.mk 3 item long many (x :: xs) shares)) (hl : lv (.mk 3 item long many (x :: xs) shares) ≤ 1000) (hx : xs ≠ []) :
    ACalls Tryz.prog 69 [.agg (encL (.mk 3 item long many (x :: xs) shares))] h (ChgQ (.mk 3 item long many (x :: xs) shares) h) := by
  have hkl := ks_len hw
  simp only [LT.ks, LT.kd, List.length_cons] at hkl
  obtain ⟨w1, w2, w3, w4, w5, w6, w7, w8, w9, w10⟩ := (WF_eq ..).mp hw
  have hxl : 0 < xs.length := List.length_pos_iff.2 hx
  have hst := stepT_mk 3 item long many (x :: xs) shares
  rw [if_neg (by decide), if_neg (by decide), if_neg (by simp; omega), if_neg (by decide), if_neg (by decide)] at hst
  simp only [List.getD_cons_zero] at hst
  have eone : (((xs.length + 1 : Nat) : Int) == 1) = false := by simp; omega
  have hkb : ∀ k ∈ x :: xs, BL k := (((BL_eq ..).mp (bl_of _ hw hl)).2.2)
  have hst2 := fun h => g_plainR (SizeOf.sizeOf x) x h (Nat.le_refl _) (hkb x (by simp))
  have hany := fun i h (hi : h.H i = some (.cells (encL x))) => g_anyF 124 [.ptr i 0] (x :: xs) (fun t => !sameB t x) h (by simp; omega) (fun t ht => g_chgRsame x t i h hi (hkb x (by simp)) (hkb t ht))
  have hq1 : (∀ k ∈ x :: xs, k = x) → (x :: xs).any (fun t => !sameB t x) = false := fun hc => by
    rw [List.any_eq_false]
    intro k hk
    rw [hc k hk, sameB_true.2 rfl]; simp
  have hq2 : ¬ (∀ k ∈ x :: xs, k = x) → (x :: xs).any (fun t => !sameB t x) = true := fun hc => by
    rw [List.any_eq_true]
    obtain ⟨k, hk, hne⟩ : ∃ k ∈ x :: xs, k ≠ x := Classical.byContradiction fun hn => hc fun k hk => Classical.byContradiction fun h => hn ⟨k, hk, h⟩
    exact ⟨k, hk, by rw [sameB_false.2 hne]; rfl⟩
  generalize (x :: xs).any (fun t => !sameB t x) = q at hany hq1 hq2
  unfold ChgQ
  cases x with
  | mk k2 i2 l2 m2' ks2 s2 =>
  simp only [List.map_cons, encL_eq] at hany hst2
  have hle : ∀ (i : Nat) (_ : h.H i = none), Hp.le h ⟨upd h.H i (some (.cells [.v (.int .i64 k2), .v (.string i2), .v (.int .i64 l2), .v (.int .i64 m2'), .row 6 (ks2.map encL) none, .row 1 (s2.map encI) none])), h.T⟩ := fun i hi => le_newH hi _
  cases hp : plainT (LT.mk k2 i2 l2 m2' ks2 s2) with
  | false =>
    rw [if_neg (by rw [List.getD_cons_zero, hp]; simp)] at hst
    rw [hst, Option.getD_none, encL_eq]
    refine gE Tryz.func69 rfl (by kernel_rfl) 114 rfl fun c => ?_
    (repeat' (first | refine gO (by decide) ?_ | (refine gM (mdL [(1, 1), (2, 1), (3, 2)]) fun K1 hK1 => ?_; simp only [go_sem, ↓reduceIte, reduceCtorEq, nA, nB, nC, nD, nE, nF, e53, e23, e33, eone, Int.toNat_zero, encL_eq] <;> and_intros <;> first | (apply hK1; clear hK1 K1) | (intros; first | omega | decide | (simp_all <;> omega)) | skip) | (refine awp_cond (t := _) rfl (fun hcnd => ?_) (fun hcnd => ?_) <;> first | (cases hcnd; done) | (simp only [hcnd]) | skip)))
    intro i hi
    and_intros <;> first | (refine hK1 _ ?_; clear hK1 K1) | exact .inl trivial | exact .inr rfl | exact .inr True.intro | exact True.intro | omega
    (repeat' (first | refine gO (by decide) ?_ | (refine gM (mdL [(1, 1), (2, 1), (3, 2)]) fun K1 hK1 => ?_; simp only [go_sem, ↓reduceIte, reduceCtorEq, nA, nB, nC, nD, nE, nF, e53, e23, e33, eone, Int.toNat_zero, encL_eq] <;> and_intros <;> first | (apply hK1; clear hK1 K1) | (intros; first | omega | decide | (simp_all <;> omega)) | skip) | (refine awp_cond (t := _) rfl (fun hcnd => ?_) (fun hcnd => ?_) <;> first | (cases hcnd; done) | (simp only [hcnd]) | skip)))
    refine (hst2 _).mono ?_; rintro _ hz ⟨rfl, hh⟩; refine ⟨rfl, hK1 _ ?_⟩; clear hK1 K1; rw [hh]; clear hh hz
    (repeat' (first | refine gO (by decide) ?_ | (refine gM (mdL [(1, 1), (2, 1), (3, 2)]) fun K1 hK1 => ?_; simp only [go_sem, ↓reduceIte, reduceCtorEq, nA, nB, nC, nD, nE, nF, e53, e23, e33, eone, Int.toNat_zero, encL_eq, hp] <;> and_intros <;> first | (apply hK1; clear hK1 K1) | (intros; first | omega | decide | (simp_all <;> omega)) | skip) | (refine awp_cond (t := _) rfl (fun hcnd => ?_) (fun hcnd => ?_) <;> first | (cases hcnd; done) | (simp only [hcnd]) | skip)))
    refine ⟨.v (.bool false), rfl, True.intro, hK1 _ ?_⟩; clear hK1 K1
    (repeat' (first | refine gO (by decide) ?_ | (refine gM (mdL [(1, 1), (2, 1), (3, 2)]) fun K1 hK1 => ?_; simp only [go_sem, ↓reduceIte, reduceCtorEq, nA, nB, nC, nD, nE, nF, e53, e23, e33, eone, Int.toNat_zero, encL_eq, hp] <;> and_intros <;> first | (apply hK1; clear hK1 K1) | (intros; first | omega | decide | (simp_all <;> omega)) | skip) | (refine awp_cond (t := _) rfl (fun hcnd => ?_) (fun hcnd => ?_) <;> first | (cases hcnd; done) | (simp only [hcnd]) | skip)))
    simp only [Tryz.results69, go_sem, ↓reduceIte, reduceCtorEq, nA, nB, nC, nD, nE, nF]
    exact ⟨_, _, Weak.refl _, hle i hi, by simp only [List.map_cons, encL_eq], rfl⟩
  | true =>
    refine gE Tryz.func69 rfl (by kernel_rfl) 114 rfl fun c => ?_
    (repeat' (first | refine gO (by decide) ?_ | (refine gM (mdL [(1, 1), (2, 1), (3, 2)]) fun K1 hK1 => ?_; simp only [go_sem, ↓reduceIte, reduceCtorEq, nA, nB, nC, nD, nE, nF, e53, e23, e33, encL_eq, eone, Int.toNat_zero] <;> and_intros <;> first | (apply hK1; clear hK1 K1) | (intros; first | omega | decide | (simp_all <;> omega)) | skip) | (refine awp_cond (t := _) rfl (fun hcnd => ?_) (fun hcnd => ?_) <;> first | (cases hcnd; done) | (simp only [hcnd]) | skip)))
    intro i hi
    and_intros <;> first | (refine hK1 _ ?_; clear hK1 K1) | exact .inl trivial | exact .inr rfl | exact .inr True.intro | exact True.intro | omega
    (repeat' (first | refine gO (by decide) ?_ | (refine gM (mdL [(1, 1), (2, 1), (3, 2)]) fun K1 hK1 => ?_; simp only [go_sem, ↓reduceIte, reduceCtorEq, nA, nB, nC, nD, nE, nF, e53, e23, e33, eone, Int.toNat_zero, encL_eq] <;> and_intros <;> first | (apply hK1; clear hK1 K1) | (intros; first | omega | decide | (simp_all <;> omega)) | skip) | (refine awp_cond (t := _) rfl (fun hcnd => ?_) (fun hcnd => ?_) <;> first | (cases hcnd; done) | (simp only [hcnd]) | skip)))
    refine (hst2 _).mono ?_; rintro _ hz ⟨rfl, hh⟩; refine ⟨rfl, hK1 _ ?_⟩; clear hK1 K1; rw [hh]; clear hh hz
    (repeat' (first | refine gO (by decide) ?_ | (refine gM (mdL [(1, 1), (2, 1), (3, 2)]) fun K1 hK1 => ?_; simp only [go_sem, ↓reduceIte, reduceCtorEq, nA, nB, nC, nD, nE, nF, e53, e23, e33, eone, Int.toNat_zero, encL_eq, hp] <;> and_intros <;> first | (apply hK1; clear hK1 K1) | (intros; first | omega | decide | (simp_all <;> omega)) | skip) | (refine awp_cond (t := _) rfl (fun hcnd => ?_) (fun hcnd => ?_) <;> first | (cases hcnd; done) | (simp only [hcnd]) | skip)))
    refine (hany i _ (upd_same _ _ _)).mono ?_; rintro _ hz ⟨rfl, hh⟩; refine ⟨rfl, hK1 _ ?_⟩; clear hK1 K1; rw [hh]; clear hh hz
    by_cases hc : ∀ k ∈ LT.mk k2 i2 l2 m2' ks2 s2 :: xs, k = LT.mk k2 i2 l2 m2' ks2 s2
    · rw [hq1 hc]
      rw [if_pos ⟨hp, hc⟩] at hst
      (repeat' (first | refine gO (by decide) ?_ | (refine gM (mdL [(1, 1), (2, 1), (3, 2)]) fun K1 hK1 => ?_; simp only [go_sem, ↓reduceIte, reduceCtorEq, nA, nB, nC, nD, nE, nF, e53, e23, e33, eone, Int.toNat_zero, encL_eq, hp] <;> and_intros <;> first | (apply hK1; clear hK1 K1) | (intros; first | omega | decide | (simp_all <;> omega)) | skip) | (refine awp_cond (t := _) rfl (fun hcnd => ?_) (fun hcnd => ?_) <;> first | (cases hcnd; done) | (simp only [hcnd]) | skip)))
      simp only [Tryz.results69, go_sem, ↓reduceIte, reduceCtorEq, nA, nB, nC, nD, nE, nF]
      exact ⟨_, _, Weak.refl _, hle i hi, by rw [hst, Option.getD_some, encL_eq], rfl⟩
    · rw [hq2 hc]
      rw [if_neg (fun e => hc e.2)] at hst
      (repeat' (first | refine gO (by decide) ?_ | (refine gM (mdL [(1, 1), (2, 1), (3, 2)]) fun K1 hK1 => ?_; simp only [go_sem, ↓reduceIte, reduceCtorEq, nA, nB, nC, nD, nE, nF, e53, e23, e33, eone, Int.toNat_zero, encL_eq, hp] <;> and_intros <;> first | (apply hK1; clear hK1 K1) | (intros; first | omega | decide | (simp_all <;> omega)) | skip) | (refine awp_cond (t := _) rfl (fun hcnd => ?_) (fun hcnd => ?_) <;> first | (cases hcnd; done) | (simp only [hcnd]) | skip)))
      simp only [Tryz.results69, go_sem, ↓reduceIte, reduceCtorEq, nA, nB, nC, nD, nE, nF]
      exact ⟨_, _, Weak.refl _, hle i hi, by rw [hst, Option.getD_none, encL_eq]; simp only [List.map_cons, encL_eq], rfl⟩
def z28 : List AV := [.v (.int .i64 0), .v (.string ⟨#[]⟩), .v (.int .i64 0), .v (.int .i64 0), .v (.slice none 0 0), .v (.slice none 0 0)]
def c4 (item : ByteArray) (long many : Int) (kk : List (List AV)) (S : AV) : List AV := [.v (.int .i64 4), .v (.string item), .v (.int .i64 long), .v (.int .i64 many), .row 6 kk none, S]
theorem g_chgR4s (item : ByteArray) (long many : Int) (x : LT) (xs : List LT) (shares : List Int) (h : Hp) (hw : WF (.mk 4 item long many (x :: xs) shares)) (hl : lv (.mk 4 item long many (x :: xs) shares) ≤ 1000) (hx : xs ≠ []) (h1 : gcdI shares = 1) :
    ACalls Tryz.prog 69 [.agg (c4 item long many ((x :: xs).map encL) (.row 1 (shares.map encI) none))] h (fun r h' => r = .agg (c4 item long many ((x :: xs).map encL) (.row 1 (shares.map encI) none)) ∧ h' = h) := by
  have hkl := ks_len hw
  simp only [LT.ks, List.length_cons] at hkl
  obtain ⟨w1, w2, w3, w4, w5, w6, w7, w8, w9, w10⟩ := (WF_eq ..).mp hw
  have hsl := w6 rfl
  simp only [List.length_cons] at hsl
  have hxl : 0 < xs.length := List.length_pos_iff.2 hx
  have eone : (((xs.length + 1 : Nat) : Int) == 1) = false := by simp; omega
  cases x with
  | mk k2 i2 l2 m2' ks2 s2 =>
  have hKK : (LT.mk k2 i2 l2 m2' ks2 s2 :: xs).map encL = ([.v (.int .i64 k2), .v (.string i2), .v (.int .i64 l2), .v (.int .i64 m2'), .row 6 (ks2.map encL) none, .row 1 (s2.map encI) none] :: xs.map encL) := by rw [List.map_cons, encL_eq]
  rw [hKK]
  refine gE Tryz.func69 rfl (by kernel_rfl) 114 rfl fun c => ?_
  (repeat' (first | refine gO (by decide) ?_ | (refine gM (mdL [(1, 1), (2, 1), (3, 2)]) fun K1 hK1 => ?_; simp only [go_sem, ↓reduceIte, reduceCtorEq, nA, nB, nC, nD, nE, nF, c4, e43, eone, Int.toNat_zero, List.length_map] <;> and_intros <;> first | (apply hK1; clear hK1 K1) | (intros; first | omega | decide | (simp_all <;> omega)) | skip) | (refine awp_cond (t := _) rfl (fun hcnd => ?_) (fun hcnd => ?_) <;> first | (cases hcnd; done) | (simp only [hcnd]) | skip)))
  intro i hi
  and_intros <;> first | (refine hK1 _ ?_; clear hK1 K1) | exact .inl trivial | exact .inr rfl | exact .inr True.intro | exact True.intro | omega
  (repeat' (first | refine gO (by decide) ?_ | (refine gM (mdL [(1, 1), (2, 1), (3, 2)]) fun K1 hK1 => ?_; simp only [go_sem, ↓reduceIte, reduceCtorEq, nA, nB, nC, nD, nE, nF, c4, e43, eone, Int.toNat_zero, List.length_map] <;> and_intros <;> first | (apply hK1; clear hK1 K1) | (intros; first | omega | decide | (simp_all <;> omega)) | skip) | (refine awp_cond (t := _) rfl (fun hcnd => ?_) (fun hcnd => ?_) <;> first | (cases hcnd; done) | (simp only [hcnd]) | skip)))
  refine ⟨.v (.bool false), rfl, True.intro, hK1 _ ?_⟩; clear hK1 K1
  (repeat' (first | refine gO (by decide) ?_ | (refine gM (mdL [(1, 1), (2, 1), (3, 2)]) fun K1 hK1 => ?_; simp only [go_sem, ↓reduceIte, reduceCtorEq, nA, nB, nC, nD, nE, nF, c4, e43, eone, Int.toNat_zero, List.length_map] <;> and_intros <;> first | (apply hK1; clear hK1 K1) | (intros; first | omega | decide | (simp_all <;> omega)) | skip) | (refine awp_cond (t := _) rfl (fun hcnd => ?_) (fun hcnd => ?_) <;> first | (cases hcnd; done) | (simp only [hcnd]) | skip)))
  refine awp_loopC (rl false [1, 4, 76, 3, 31]) 2 (fun g s => ∃ j : Nat, g + j = shares.length ∧
    s = ⟨(AV.junk :: ((.loc 0 0) :: (.loc 1 0) :: (.ptr i 0) :: (.v (.int .i64 (gcdTo shares j : Nat))) :: (jnk 76 ((.row 1 (shares.map encI) none) :: (.v (.int .i64 shares.length)) :: (.v (.int .i64 j)) :: (jnk 31 []))))),
      [c4 item long many ([.v (.int .i64 k2), .v (.string i2), .v (.int .i64 l2), .v (.int .i64 m2'), .row 6 (ks2.map encL) none, .row 1 (s2.map encI) none] :: xs.map encL) (.row 1 (shares.map encI) none), z28], ⟨upd h.H i (some (.cells [.v (.int .i64 k2), .v (.string i2), .v (.int .i64 l2), .v (.int .i64 m2'), .row 6 (ks2.map encL) none, .row 1 (s2.map encI) none])), h.T⟩⟩) shares.length ⟨0, by omega, rfl⟩ ?_
  rintro g _ ⟨j, hj, rfl⟩
  (repeat (first | refine gO (by decide) ?_ | (refine gM (mdL [(1, 1), (2, 1), (3, 2)]) fun K1 hK1 => ?_; simp only [go_sem, ↓reduceIte, reduceCtorEq, nA, nB, nC, nD, nE, nF] <;> and_intros <;> first | (apply hK1; clear hK1 K1) | (intros; first | omega | decide | (simp_all <;> omega)) | skip)))
  refine awp_cond (t := _) rfl (fun h9 => ?_) (fun h9 => ?_)
  · simp only [decide_eq_true_eq] at h9
    have hjl : j < shares.length := by omega
    have gx : (shares.map encI).getD j [] = encI (shares.getD j 0) := getD_enc encI shares j 0 hjl
    have hb := w8 _ (getD_mem' shares j 0 hjl)
    have e1 := gcdTo_succ shares j hjl
    have hl1 := gcdTo_le shares w8 j (by omega)
    generalize shares.getD j 0 = y at gx hb e1
    obtain ⟨y, rfl⟩ : ∃ z : Nat, y = z := ⟨y.toNat, by omega⟩
    rw [Int.toNat_natCast] at e1
    (repeat (first | refine gO (by decide) ?_ | (refine gM (mdL [(1, 1), (2, 1), (3, 2)]) fun K1 hK1 => ?_; simp only [go_sem, ↓reduceIte, reduceCtorEq, nA, nB, nC, nD, nE, nF, Int.toNat_natCast, gx, encI] <;> and_intros <;> first | (apply hK1; clear hK1 K1) | (intros; first | omega | decide | (simp_all <;> omega)) | skip)))
    refine (g_gcdR (gcdTo shares j) y _ (by omega) (by omega)).mono ?_; rintro _ hz ⟨rfl, hh⟩; apply hK1; clear hK1 K1; rw [hh]; clear hh hz
    (repeat (first | refine gO (by decide) ?_ | (refine gM (mdL [(1, 1), (2, 1), (3, 2)]) fun K1 hK1 => ?_; simp only [go_sem, ↓reduceIte, reduceCtorEq, nA, nB, nC, nD, nE, nF] <;> and_intros <;> first | (apply hK1; clear hK1 K1) | (intros; first | omega | decide | (simp_all <;> omega)) | skip)))
    exact ⟨g - 1, by omega, j + 1, by omega, by rw [e1]; rfl⟩
  · simp only [decide_eq_false_iff_not] at h9
    have hjl : j = shares.length := by omega
    subst hjl
    rw [gcdTo_all, h1]
    (repeat (first | refine gO (by decide) ?_ | (refine gM (mdL [(1, 1), (2, 1), (3, 2)]) fun K1 hK1 => ?_; simp only [go_sem, ↓reduceIte, reduceCtorEq, nA, nB, nC, nD, nE, nF, c4] <;> and_intros <;> first | (apply hK1; clear hK1 K1) | (intros; first | omega | decide | (simp_all <;> omega)) | skip)))
    refine awp_loopC (rl false [1, 4, 88, 2, 20]) 2 (fun g s => ∃ j : Nat, g + j = shares.length ∧
      s = ⟨(AV.junk :: ((.loc 0 0) :: (.loc 1 0) :: (.ptr i 0) :: (.v (.int .i64 1)) :: (jnk 88 ((.v (.int .i64 shares.length)) :: (.v (.int .i64 j)) :: (jnk 20 []))))),
        [c4 item long many ([.v (.int .i64 k2), .v (.string i2), .v (.int .i64 l2), .v (.int .i64 m2'), .row 6 (ks2.map encL) none, .row 1 (s2.map encI) none] :: xs.map encL) (.row 1 (shares.map encI) none), z28], ⟨upd h.H i (some (.cells [.v (.int .i64 k2), .v (.string i2), .v (.int .i64 l2), .v (.int .i64 m2'), .row 6 (ks2.map encL) none, .row 1 (s2.map encI) none])), h.T⟩⟩) shares.length ⟨0, by omega, rfl⟩ ?_
    rintro g2 _ ⟨j, hj2, rfl⟩
    (repeat (first | refine gO (by decide) ?_ | (refine gM (mdL [(1, 1), (2, 1), (3, 2)]) fun K1 hK1 => ?_; simp only [go_sem, ↓reduceIte, reduceCtorEq, nA, nB, nC, nD, nE, nF] <;> and_intros <;> first | (apply hK1; clear hK1 K1) | (intros; first | omega | decide | (simp_all <;> omega)) | skip)))
    refine awp_cond (t := _) rfl (fun h9 => ?_) (fun h9 => ?_)
    · simp only [decide_eq_true_eq] at h9
      have hjl : j < shares.length := by omega
      have gx : (shares.map encI).getD j [] = encI (shares.getD j 0) := getD_enc encI shares j 0 hjl
      have hb := w8 _ (getD_mem' shares j 0 hjl)
      generalize shares.getD j 0 = y at gx hb
      (repeat (first | refine gO (by decide) ?_ | (refine gM (mdL [(1, 1), (2, 1), (3, 2)]) fun K1 hK1 => ?_; simp only [go_sem, ↓reduceIte, reduceCtorEq, nA, nB, nC, nD, nE, nF, c4, Int.toNat_natCast, gx, encI, Int.tdiv_one] <;> and_intros <;> first | (apply hK1; clear hK1 K1) | (intros; first | omega | decide | (simp_all <;> omega)) | skip)))
      exact ⟨g2 - 1, by omega, j + 1, by omega, rfl⟩
    · simp only [decide_eq_false_iff_not] at h9
      (repeat (first | refine gO (by decide) ?_ | (refine gM (mdL [(1, 1), (2, 1), (3, 2)]) fun K1 hK1 => ?_; simp only [go_sem, ↓reduceIte, reduceCtorEq, nA, nB, nC, nD, nE, nF, c4] <;> and_intros <;> first | (apply hK1; clear hK1 K1) | (intros; first | omega | decide | (simp_all <;> omega)) | skip)))
      simp only [Tryz.results69, go_sem, ↓reduceIte, reduceCtorEq, nA, nB, nC, nD, nE, nF]
      exact ⟨_, _, Weak.refl _, le_newH hi _, rfl, rfl⟩
theorem g_chgR4a (item : ByteArray) (long many : Int) (x : LT) (xs : List LT) (shares : List Int) (q : Nat) (h : Hp) (hq : h.T q = some (.cont 1 (shares.map encI))) (hw : WF (.mk 4 item long many (x :: xs) shares)) (hl : lv (.mk 4 item long many (x :: xs) shares) ≤ 1000) (hx : xs ≠ []) :
    ACalls Tryz.prog 69 [.agg (c4 item long many ((x :: xs).map encL) (.arr 1 q shares.length))] h (fun r h' => r = .agg (c4 item long many ((x :: xs).map encL) (.arr 1 q shares.length)) ∧ h' = ⟨h.H, upd h.T q (some (.cont 1 ((divI (gcdI shares) shares).map encI)))⟩) := by
  have hkl := ks_len hw
  simp only [LT.ks, List.length_cons] at hkl
  obtain ⟨w1, w2, w3, w4, w5, w6, w7, w8, w9, w10⟩ := (WF_eq ..).mp hw
  have hsl := w6 rfl
  simp only [List.length_cons] at hsl
  have hxl : 0 < xs.length := List.length_pos_iff.2 hx
  have eone : (((xs.length + 1 : Nat) : Int) == 1) = false := by simp; omega
  have hne : shares ≠ [] := fun e => by rw [e] at hsl; simp at hsl
  have hgp := gcdI_pos (fun x hx => (w8 x hx).1) hne
  have hgl := gcdI_le w8
  have hsm : (shares.map encI).length = shares.length := List.length_map _
  cases x with
  | mk k2 i2 l2 m2' ks2 s2 =>
  have hKK : (LT.mk k2 i2 l2 m2' ks2 s2 :: xs).map encL = ([.v (.int .i64 k2), .v (.string i2), .v (.int .i64 l2), .v (.int .i64 m2'), .row 6 (ks2.map encL) none, .row 1 (s2.map encI) none] :: xs.map encL) := by rw [List.map_cons, encL_eq]
  rw [hKK]
  refine gE Tryz.func69 rfl (by kernel_rfl) 114 rfl fun c => ?_
  (repeat' (first | refine gO (by decide) ?_ | (refine gM (mdL [(1, 1), (2, 1), (3, 2)]) fun K1 hK1 => ?_; simp only [go_sem, ↓reduceIte, reduceCtorEq, nA, nB, nC, nD, nE, nF, c4, e43, eone, Int.toNat_zero, List.length_map] <;> and_intros <;> first | (apply hK1; clear hK1 K1) | (intros; first | omega | decide | (simp_all <;> omega)) | skip) | (refine awp_cond (t := _) rfl (fun hcnd => ?_) (fun hcnd => ?_) <;> first | (cases hcnd; done) | (simp only [hcnd]) | skip)))
  intro i hi
  and_intros <;> first | (refine hK1 _ ?_; clear hK1 K1) | exact .inl trivial | exact .inr rfl | exact .inr True.intro | exact True.intro | omega
  (repeat' (first | refine gO (by decide) ?_ | (refine gM (mdL [(1, 1), (2, 1), (3, 2)]) fun K1 hK1 => ?_; simp only [go_sem, ↓reduceIte, reduceCtorEq, nA, nB, nC, nD, nE, nF, c4, e43, eone, Int.toNat_zero, List.length_map] <;> and_intros <;> first | (apply hK1; clear hK1 K1) | (intros; first | omega | decide | (simp_all <;> omega)) | skip) | (refine awp_cond (t := _) rfl (fun hcnd => ?_) (fun hcnd => ?_) <;> first | (cases hcnd; done) | (simp only [hcnd]) | skip)))
  refine ⟨.v (.bool false), rfl, True.intro, hK1 _ ?_⟩; clear hK1 K1
  (repeat' (first | refine gO (by decide) ?_ | (refine gM (mdL [(1, 1), (2, 1), (3, 2)]) fun K1 hK1 => ?_; simp only [go_sem, ↓reduceIte, reduceCtorEq, nA, nB, nC, nD, nE, nF, c4, e43, eone, Int.toNat_zero, List.length_map] <;> and_intros <;> first | (apply hK1; clear hK1 K1) | (intros; first | omega | decide | (simp_all <;> omega)) | skip) | (refine awp_cond (t := _) rfl (fun hcnd => ?_) (fun hcnd => ?_) <;> first | (cases hcnd; done) | (simp only [hcnd]) | skip)))
  refine awp_loopC (rl false [1, 4, 76, 3, 31]) 2 (fun g s => ∃ j : Nat, g + j = shares.length ∧
    s = ⟨(AV.junk :: ((.loc 0 0) :: (.loc 1 0) :: (.ptr i 0) :: (.v (.int .i64 (gcdTo shares j : Nat))) :: (jnk 76 ((.arr 1 q shares.length) :: (.v (.int .i64 shares.length)) :: (.v (.int .i64 j)) :: (jnk 31 []))))),
      [c4 item long many ([.v (.int .i64 k2), .v (.string i2), .v (.int .i64 l2), .v (.int .i64 m2'), .row 6 (ks2.map encL) none, .row 1 (s2.map encI) none] :: xs.map encL) (.arr 1 q shares.length), z28], ⟨upd h.H i (some (.cells [.v (.int .i64 k2), .v (.string i2), .v (.int .i64 l2), .v (.int .i64 m2'), .row 6 (ks2.map encL) none, .row 1 (s2.map encI) none])), h.T⟩⟩) shares.length ⟨0, by omega, rfl⟩ ?_
  rintro g _ ⟨j, hj, rfl⟩
  (repeat (first | refine gO (by decide) ?_ | (refine gM (mdL [(1, 1), (2, 1), (3, 2)]) fun K1 hK1 => ?_; simp only [go_sem, ↓reduceIte, reduceCtorEq, nA, nB, nC, nD, nE, nF] <;> and_intros <;> first | (apply hK1; clear hK1 K1) | (intros; first | omega | decide | (simp_all <;> omega)) | skip)))
  refine awp_cond (t := _) rfl (fun h9 => ?_) (fun h9 => ?_)
  · simp only [decide_eq_true_eq] at h9
    have hjl : j < shares.length := by omega
    have gx : (shares.map encI).getD j [] = encI (shares.getD j 0) := getD_enc encI shares j 0 hjl
    have hb := w8 _ (getD_mem' shares j 0 hjl)
    have e1 := gcdTo_succ shares j hjl
    have hl1 := gcdTo_le shares w8 j (by omega)
    generalize shares.getD j 0 = y at gx hb e1
    obtain ⟨y, rfl⟩ : ∃ z : Nat, y = z := ⟨y.toNat, by omega⟩
    rw [Int.toNat_natCast] at e1
    (repeat (first | refine gO (by decide) ?_ | (refine gM (mdL [(1, 1), (2, 1), (3, 2)]) fun K1 hK1 => ?_; simp only [go_sem, ↓reduceIte, reduceCtorEq, nA, nB, nC, nD, nE, nF, Int.toNat_natCast, gx, encI, hq, hsm] <;> and_intros <;> first | (apply hK1; clear hK1 K1) | (intros; first | omega | decide | (simp_all <;> omega)) | skip)))
    refine (g_gcdR (gcdTo shares j) y _ (by omega) (by omega)).mono ?_; rintro _ hz ⟨rfl, hh⟩; apply hK1; clear hK1 K1; rw [hh]; clear hh hz
    (repeat (first | refine gO (by decide) ?_ | (refine gM (mdL [(1, 1), (2, 1), (3, 2)]) fun K1 hK1 => ?_; simp only [go_sem, ↓reduceIte, reduceCtorEq, nA, nB, nC, nD, nE, nF] <;> and_intros <;> first | (apply hK1; clear hK1 K1) | (intros; first | omega | decide | (simp_all <;> omega)) | skip)))
    exact ⟨g - 1, by omega, j + 1, by omega, by rw [e1]; rfl⟩
  · simp only [decide_eq_false_iff_not] at h9
    have hjl : j = shares.length := by omega
    subst hjl
    rw [gcdTo_all]
    generalize gcdI shares = gg at *
    have h0q : upd h.T q (some (TO.cont 1 ((divTo gg shares 0).map encI))) = h.T := by
      funext k
      by_cases e : k = q
      · subst e; rw [upd_same]; exact hq.symm
      · rw [upd_other _ _ e]
    (repeat (first | refine gO (by decide) ?_ | (refine gM (mdL [(1, 1), (2, 1), (3, 2)]) fun K1 hK1 => ?_; simp only [go_sem, ↓reduceIte, reduceCtorEq, nA, nB, nC, nD, nE, nF, c4] <;> and_intros <;> first | (apply hK1; clear hK1 K1) | (intros; first | omega | decide | (simp_all <;> omega)) | skip)))
    refine awp_loopC (rl false [1, 4, 88, 2, 20]) 2 (fun g s => ∃ j : Nat, g + j = shares.length ∧
      s = ⟨(AV.junk :: ((.loc 0 0) :: (.loc 1 0) :: (.ptr i 0) :: (.v (.int .i64 (gg : Nat))) :: (jnk 88 ((.v (.int .i64 shares.length)) :: (.v (.int .i64 j)) :: (jnk 20 []))))),
        [c4 item long many ([.v (.int .i64 k2), .v (.string i2), .v (.int .i64 l2), .v (.int .i64 m2'), .row 6 (ks2.map encL) none, .row 1 (s2.map encI) none] :: xs.map encL) (.arr 1 q shares.length), z28], ⟨upd h.H i (some (.cells [.v (.int .i64 k2), .v (.string i2), .v (.int .i64 l2), .v (.int .i64 m2'), .row 6 (ks2.map encL) none, .row 1 (s2.map encI) none])), upd h.T q (some (.cont 1 ((divTo gg shares j).map encI)))⟩⟩) shares.length ⟨0, by omega, by rw [h0q]; rfl⟩ ?_
    rintro g2 _ ⟨j, hj2, rfl⟩
    obtain ⟨ys, hys⟩ : ∃ ys, ys = (divTo gg shares j).map encI := ⟨_, rfl⟩
    rw [← hys]
    have hyl : ys.length = shares.length := by rw [hys, List.length_map, divTo_len]
    have hTq : upd h.T q (some (TO.cont 1 ys)) q = some (.cont 1 ys) := upd_same _ _ _
    (repeat (first | refine gO (by decide) ?_ | (refine gM (mdL [(1, 1), (2, 1), (3, 2)]) fun K1 hK1 => ?_; simp only [go_sem, ↓reduceIte, reduceCtorEq, nA, nB, nC, nD, nE, nF] <;> and_intros <;> first | (apply hK1; clear hK1 K1) | (intros; first | omega | decide | (simp_all <;> omega)) | skip)))
    refine awp_cond (t := _) rfl (fun h9 => ?_) (fun h9 => ?_)
    · simp only [decide_eq_true_eq] at h9
      have hjl : j < shares.length := by omega
      have hgy : ys.getD j [] = [.v (.int .i64 (shares.getD j 0))] := by
        rw [hys, getD_enc encI _ j 0 (by rw [divTo_len]; exact hjl), divTo_at _ _ _ hjl]; rfl
      have hset := divTo_set gg shares j hjl
      have hb := w8 _ (getD_mem' shares j 0 hjl)
      generalize shares.getD j 0 = y at *
      have hq2 : y.tdiv (gg : Int) = y / (gg : Int) := Int.tdiv_eq_ediv_of_nonneg (by omega)
      have hq3 : 0 ≤ y / (gg : Int) ∧ y / (gg : Int) ≤ y := ⟨Int.ediv_nonneg (by omega) (by omega), Int.ediv_le_self _ (by omega)⟩
      (repeat (first | refine gO (by decide) ?_ | (refine gM (mdL [(1, 1), (2, 1), (3, 2)]) fun K1 hK1 => ?_; simp only [go_sem, ↓reduceIte, reduceCtorEq, nA, nB, nC, nD, nE, nF, c4, Int.toNat_natCast, hTq, hyl, hgy, hq2] <;> and_intros <;> first | (apply hK1; clear hK1 K1) | (intros; first | omega | decide | (simp_all <;> omega)) | skip)))
      refine ⟨g2 - 1, by omega, j + 1, by omega, ?_⟩
      rw [← hset, ← map_set_encI, ← hys]; rfl
    · simp only [decide_eq_false_iff_not] at h9
      have hjl : j = shares.length := by omega
      subst hjl
      rw [divTo_all] at hys
      (repeat (first | refine gO (by decide) ?_ | (refine gM (mdL [(1, 1), (2, 1), (3, 2)]) fun K1 hK1 => ?_; simp only [go_sem, ↓reduceIte, reduceCtorEq, nA, nB, nC, nD, nE, nF, c4] <;> and_intros <;> first | (apply hK1; clear hK1 K1) | (intros; first | omega | decide | (simp_all <;> omega)) | skip)))
      simp only [Tryz.results69, go_sem, ↓reduceIte, reduceCtorEq, nA, nB, nC, nD, nE, nF]
      subst hys
      exact ⟨_, ⟨h.H, _⟩, Weak.refl _, ⟨fun k => by
        by_cases e : k = i
        · subst e; exact .inl hi
        · exact .inr (upd_other _ _ e).symm, fun _ => .inr rfl⟩, rfl, rfl⟩
theorem step_c4 {t v : LT} (hw : WF t) (hk : ∀ k ∈ t.ks, HS k) (hs : stepT t = some v) : (∀ k ∈ v.ks, HS k) ∧ (HS v ∨ v.kd ≠ 4 ∨ t.kd = 4 ∧ t.ks.length ≠ 1) := by
  cases t with
  | mk kind item long many kids shares =>
    simp only [LT.ks, LT.kd] at hk ⊢
    have hwk : ∀ k ∈ kids, WF k := hw.kids
    rw [stepT_mk] at hs
    split at hs
    · cases hs
    rename_i h1
    have hm := getD0_mem (hw.ne (t := .mk kind item long many kids shares) h1)
    have hm' : kids.getD 0 default ∈ kids := hm
    have hf := hk _ hm'
    split at hs
    · split at hs
      · cases hs; exact ⟨hf.kids, .inl hf⟩
      · split at hs
        · cases hs; exact ⟨hf.kids, .inr (.inl (by simp [repK, LT.kd]))⟩
        · cases hs
    split at hs
    · cases hs; exact ⟨hf.kids, .inl hf⟩
    rename_i h5 hlen
    split at hs
    · split at hs
      · cases hs
      · cases hs
        refine ⟨?_, .inr (.inl (by simp [rowT, LT.kd]))⟩
        show ∀ k ∈ gath (flatT kids), HS k
        exact gath_all (p := HS) (fun it a b => ⟨item_hs a b, fun m p q => (rep_ok a b m p q).1⟩) _ (flatT kids) (Nat.le_refl _) (flatT_wf hwk) (fun x hx _ => flatT_hs hk x hx)
    · split at hs
      · split at hs
        · cases hs
          rename_i h4 _
          exact ⟨hk, .inr (.inr ⟨h4, hlen⟩)⟩
        · cases hs
      · split at hs
        · cases hs; exact ⟨hf.kids, .inl hf⟩
        · cases hs
theorem good_ne {N : Nat} : ∀ (g : Nat) {t : LT}, GoodN N g t → stepT t ≠ some t
  | 0, t, hg, e => by rw [hg.2] at e; cases e
  | g + 1, t, hg, e => good_ne g (hg.2 t e) e
theorem good_wf {N g : Nat} {t : LT} (h : GoodN N g t) : WF t ∧ lv t ≤ N := by cases g <;> exact h.1
theorem hs_gcd {item : ByteArray} {long many : Int} {kids : List LT} {shares : List Int} (hw : WF (.mk 4 item long many kids shares)) (hl : kids.length ≠ 1) (h : stepT (.mk 4 item long many kids shares) = none) : gcdI shares = 1 := by
  obtain ⟨w1, w2, w3, w4, w5, w6, w7, w8, w9, w10⟩ := (WF_eq ..).mp hw
  have hkp : 0 < kids.length := List.length_pos_iff.2 (w3 (by decide)).2.2
  have hsl := w6 rfl
  have hgp := gcdI_pos (l := shares) (fun x hx => (w8 x hx).1) (fun e => by rw [e] at hsl; simp at hsl; omega)
  rw [stepT_mk, if_neg (by decide), if_neg (by decide), if_neg hl, if_neg (by decide), if_pos rfl] at h
  split at h
  · cases h
  · omega
theorem g_chgRall (t : LT) (h : Hp) (hw : WF t) (hl : lv t ≤ 1000) (hc : HS t ∨ t.kd ≠ 4 ∨ t.ks.length = 1) : ACalls Tryz.prog 69 [.agg (encL t)] h (ChgQ t h) := by
  cases t with
  | mk kind item long many kids shares =>
    obtain ⟨w1, w2, w3, w4, w5, w6, w7, w8, w9, w10⟩ := (WF_eq ..).mp hw
    simp only [LT.kd, LT.ks] at hc
    by_cases h1 : kind = 1
    · subst h1; exact g_chgR1 ..
    obtain ⟨x, xs, rfl⟩ := List.exists_cons_of_ne_nil (w3 h1).2.2
    by_cases h5 : kind = 5
    · subst h5
      obtain rfl : xs = [] := by cases xs with | nil => rfl | cons => have := (w4 rfl).1; simp at this
      exact g_chgR5 _ _ _ _ _ _ hw
    by_cases hx : xs = []
    · subst hx; exact g_chgRone _ _ _ _ _ _ _ h1 h5
    have hne : (x :: xs).length ≠ 1 := by have := List.length_pos_iff.2 hx; simp; omega
    by_cases h2 : kind = 2
    · subst h2; exact g_chgR2 _ _ _ _ _ _ _ hw hl hx
    by_cases h3 : kind = 3
    · subst h3; exact g_chgR3 _ _ _ _ _ _ _ hw hl hx
    have h4 : kind = 4 := by omega
    subst h4
    have hst : stepT (.mk 4 item long many (x :: xs) shares) = none := by
      rcases hc with h | h | h
      · exact h.st
      · exact absurd rfl h
      · exact absurd h hne
    have := g_chgR4s item long many x xs shares h hw hl hx (hs_gcd hw hne hst)
    unfold ChgQ
    rw [hst, Option.getD_none, encL_eq]
    exact this
theorem WL.repL {G : Gh} {cs ds : List AV} {vs : List Value} (hw : WL cs ds) (h : RepL G cs vs) : RepL G ds vs :=
  ⟨h.1.trans hw.1, fun j a b => by
    have hj : j < cs.length := by rw [hw.1]; exact a
    have h1 := h.2 j hj b
    have h2 := hw.2 j
    rw [List.getD_eq_getElem?_getD, List.getD_eq_getElem?_getD, List.getElem?_eq_getElem hj, List.getElem?_eq_getElem a] at h2
    exact ⟨h2 G _ h1.1, h1.2⟩⟩
section
variable {P : Program} {c : Cx} {Q : Exit → St → Prop} {s : St}
def frzV (k z : Nat) (xs : List (List AV)) : AV → AV
  | .arr z' k' n => if k' = k ∧ z' = z ∧ n = xs.length then .row z xs none else .arr z' k' n
  | a => a
theorem awp_frzAll (k z : Nat) {xs : List (List AV)} {x : Code} (hT : s.h.T k = some (.cont z xs)) (hz : ∀ y ∈ xs, y.length = z)
    (h : Awp P c x Q { s with lo := s.lo.map (·.map (frzV k z xs)), h := { s.h with T := upd s.h.T k none } }) : Awp P c x Q s := by
  rintro ac w ⟨G, L, sm, hg, hf, hL⟩
  obtain ⟨G', hle, hfr, hs2, hfz⟩ := sm.hs.freeze (h2 := { s.h with T := upd s.h.T k none }) (fun j => j = k) rfl (fun j hj => by subst hj; exact upd_same _ _ _) (fun j hj => upd_other _ _ hj)
  have ls2 := sm.ls.fr hle hfr
  refine h ac w ⟨G', L, ⟨hs2, sm.sz, fun u hu => (sm.sl u hu).mono hle, sm.df, ⟨by simpa using ls2.len, fun u b ds e e' => ?_, ls2.free, ls2.nd⟩⟩, hg.trans hle, hf.trans hfr, hL⟩
  rw [List.getElem?_map] at e'
  obtain ⟨cs, hcs, rfl⟩ := Option.map_eq_some_iff.1 e'
  obtain ⟨vs, E, hh, hsz, hr⟩ := sm.ls.lo u b cs e hcs
  refine ⟨vs, E, hh, by simpa using hsz, by simpa using hr.1, fun i hi hi' => ?_⟩
  have hi2 : i < cs.length := by simpa using hi
  obtain ⟨h1, h2⟩ := hr.2 i hi2 hi'
  refine ⟨?_, h2⟩
  simp only [List.getElem_map]
  generalize cs[i] = a at h1
  cases a with
  | arr z' k' n =>
    simp only [frzV]
    split
    · rename_i hc
      obtain ⟨rfl, rfl, rfl⟩ := hc
      exact hfz _ _ xs _ rfl hT h1 xs rfl hz fun us hus => hus.mono hle
    · exact h1.mono hle
  | _ => exact h1.mono hle
theorem awp_weakLoc (j : Nat) {cs ds : List AV} {x : Code} (hj : s.lo[j]? = some cs) (hw : WL cs ds) (h : Awp P c x Q { s with lo := s.lo.set j ds }) : Awp P c x Q s := by
  rintro ac w ⟨G, L, sm, hg, hf, hL⟩
  refine h ac w ⟨G, L, ⟨sm.hs, sm.sz, sm.sl, sm.df, ⟨by simpa using sm.ls.len, fun u b es e e' => ?_, sm.ls.free, sm.ls.nd⟩⟩, hg, hf, hL⟩
  by_cases hju : j = u
  · subst hju
    have hlt : j < s.lo.length := (List.getElem?_eq_some_iff.1 hj).1
    simp only [List.getElem?_set_self hlt, Option.some.injEq] at e'
    subst e'
    obtain ⟨vs, E, hh, hsz, hr⟩ := sm.ls.lo j b cs e hj
    exact ⟨vs, E, hh, by rw [← hw.1]; exact hsz, hw.repL hr⟩
  · simp only [List.getElem?_set_ne hju] at e'
    exact sm.ls.lo u b es e e'
end
def fillTo (f : LT → LT) (l : List LT) (j : Nat) : List (List AV) := (l.take j).map (fun x => encL (f x)) ++ List.replicate (l.length - j) z28'
theorem fillTo_len (f : LT → LT) (l : List LT) (j : Nat) (h : j ≤ l.length) : (fillTo f l j).length = l.length := by simp [fillTo]; omega
theorem fillTo_at (f : LT → LT) (l : List LT) (j : Nat) (h : j < l.length) : (fillTo f l j).getD j [] = z28' := by
  rw [fillTo, List.getD_eq_getElem?_getD, List.getElem?_append_right (by simp; omega), List.getElem?_replicate, if_pos (by simp; omega)]; rfl
theorem fillTo_set (f : LT → LT) (l : List LT) (j : Nat) (h : j < l.length) : (fillTo f l j).set j (encL (f (l.getD j default))) = fillTo f l (j + 1) := by
  refine List.ext_getElem? fun i => ?_
  rw [List.getElem?_set]
  simp only [fillTo_len f l j (by omega)]
  split
  · rename_i e
    subst e
    rw [fillTo, List.getElem?_append_left (by simp; omega), List.getElem?_map, List.getElem?_take, if_pos (by omega), List.getElem?_eq_getElem h, List.getD_eq_getElem?_getD, List.getElem?_eq_getElem h]; rfl
  · rename_i hne
    unfold fillTo
    rcases Nat.lt_or_ge i j with hlt | hge
    · rw [List.getElem?_append_left (by simp; omega), List.getElem?_append_left (by simp; omega), List.getElem?_map, List.getElem?_map, List.getElem?_take, List.getElem?_take, if_pos hlt, if_pos (by omega)]
    · rw [List.getElem?_append_right (by simp; omega), List.getElem?_append_right (by simp; omega), List.getElem?_replicate, List.getElem?_replicate]
      simp only [List.length_map, List.length_take]
      split <;> split <;> first | rfl | omega
theorem fillTo_all (f : LT → LT) (l : List LT) : fillTo f l l.length = (l.map f).map encL := by simp [fillTo]
open Go
set_option linter.unusedVariables false
set_option linter.unusedSimpArgs false
open Nat renaming reduceAdd → nA, reduceSub → nB, reduceMul → nC, reduceLT → nD, reduceLeDiff → nE, reduceEqDiff → nF
set_option maxRecDepth 100000
set_option maxHeartbeats 8000000
theorem g_leastR (n : Nat) : ∀ (t : LT) (h : Hp), SizeOf.sizeOf t ≤ n → WF t → lv t ≤ 1000 → ACalls Tryz.prog 11 [.agg (encL t)] h (fun r h' => r = .agg (encL (leastF t)) ∧ h' = h) := by
  induction n with
  | zero =>
    rintro ⟨k, i, l, m, ks, s⟩ h hn
    rw [LT.mk.sizeOf_spec] at hn
    omega
  | succ n ih =>
    rintro ⟨kind, item, long, many, kids, shares⟩ h hn hw hl
    have hkl := ks_len hw
    simp only [LT.ks] at hkl
    have hwk : ∀ k ∈ kids, WF k := hw.kids
    have hgood := least_good hw hl
    have hsl : shares.length ≤ 1000 := by
      obtain ⟨w1, w2, w3, w4, w5, w6, w7, w8, w9, w10⟩ := (WF_eq ..).mp hw
      by_cases h4 : kind = 4
      · have := w6 h4; omega
      · rw [w7 h4]; simp
    have hih : ∀ k ∈ kids, ∀ h, ACalls Tryz.prog 11 [.agg (encL k)] h (fun r h' => r = .agg (encL (leastF k)) ∧ h' = h) := fun k hk h => ih k h (by
      have := kid_size (kind := kind) (item := item) (long := long) (many := many) (shares := shares) hk
      omega) (hwk k hk) (by have := lv_kid (t := .mk kind item long many kids shares) hk; omega)
    have hhs : ∀ k ∈ kids.map leastF, HS k := fun k hk => by
      obtain ⟨x, hx, rfl⟩ := List.mem_map.1 hk
      exact (least_ok x (hwk x hx)).1
    rw [leastF_eq, encL_eq]
    refine gE Tryz.func11 rfl (by kernel_rfl) 41 rfl fun c => ?_
    (repeat (first | refine gQ (by decide) ?_ | (refine gM (mdL [(1, 1), (2, 1), (5, 1), (6, 1)]) fun K1 hK1 => ?_; simp only [go_sem, ↓reduceIte, reduceCtorEq, nA, nB, nC, nD, nE, nF] <;> and_intros <;> first | (apply hK1; clear hK1 K1) | (intros; first | omega | decide | (simp_all <;> omega)) | skip)))
    intro q hq
    and_intros <;> first | (refine hK1 _ ?_; clear hK1 K1) | exact .inl trivial | exact .inr rfl | exact .inr True.intro | exact True.intro | omega
    (repeat (first | refine gQ (by decide) ?_ | (refine gM (mdL [(1, 1), (2, 1), (5, 1), (6, 1)]) fun K1 hK1 => ?_; simp only [go_sem, ↓reduceIte, reduceCtorEq, nA, nB, nC, nD, nE, nF] <;> and_intros <;> first | (apply hK1; clear hK1 K1) | (intros; first | omega | decide | (simp_all <;> omega)) | skip)))
    refine awp_seqJ (rl false [1, 3, 38]) 2 (fun s => s = ⟨(AV.junk :: ((.loc 0 0) :: (.loc 1 0) :: (.arr 6 q kids.length) :: (jnk 38 []))),
      [[.v (.int .i64 kind), .v (.string item), .v (.int .i64 long), .v (.int .i64 many), .row 6 (kids.map encL) none, .row 1 (shares.map encI) none], z28'], ⟨h.H, upd h.T q (some (.cont 6 ((kids.map leastF).map encL)))⟩⟩) ?_ ?_
    · (repeat (first | refine gO (by decide) ?_ | (refine gM (mdL [(1, 1), (2, 1), (5, 1), (6, 1)]) fun K1 hK1 => ?_; simp only [go_sem, ↓reduceIte, reduceCtorEq, nA, nB, nC, nD, nE, nF] <;> and_intros <;> first | (apply hK1; clear hK1 K1) | (intros; first | omega | decide | (simp_all <;> omega)) | skip)))
      refine awp_loopC (rl false [1, 3, 8, 3, 27]) 2 (fun g s => ∃ j : Nat, g + j = kids.length ∧
        s = ⟨(AV.junk :: ((.loc 0 0) :: (.loc 1 0) :: (.arr 6 q kids.length) :: (jnk 8 ((.row 6 (kids.map encL) none) :: (.v (.int .i64 kids.length)) :: (.v (.int .i64 j)) :: (jnk 27 []))))),
          [[.v (.int .i64 kind), .v (.string item), .v (.int .i64 long), .v (.int .i64 many), .row 6 (kids.map encL) none, .row 1 (shares.map encI) none], z28'], ⟨h.H, upd h.T q (some (.cont 6 (fillTo leastF kids j)))⟩⟩) kids.length ⟨0, by omega, by rw [Int.toNat_natCast]; rfl⟩ ?_
      rintro g _ ⟨j, hj, rfl⟩
      obtain ⟨ys, hys⟩ : ∃ ys, ys = fillTo leastF kids j := ⟨_, rfl⟩
      rw [← hys]
      have hyl : ys.length = kids.length := by rw [hys, fillTo_len _ _ _ (by omega)]
      have hTq : upd h.T q (some (TO.cont 6 ys)) q = some (.cont 6 ys) := upd_same _ _ _
      (repeat (first | refine gO (by decide) ?_ | (refine gM (mdL [(1, 1), (2, 1), (5, 1), (6, 1)]) fun K1 hK1 => ?_; simp only [go_sem, ↓reduceIte, reduceCtorEq, nA, nB, nC, nD, nE, nF] <;> and_intros <;> first | (apply hK1; clear hK1 K1) | (intros; first | omega | decide | (simp_all <;> omega)) | skip)))
      refine awp_cond (t := _) rfl (fun h9 => ?_) (fun h9 => ?_)
      · simp only [decide_eq_true_eq] at h9
        have hjl : j < kids.length := by omega
        have hgx : (kids.map encL).getD j [] = encL (kids.getD j default) := getD_enc encL kids j default hjl
        have hgy : ys.getD j [] = z28' := by rw [hys, fillTo_at _ _ _ hjl]
        have hset := fillTo_set leastF kids j hjl
        have hc := hih _ (getD_mem' kids j default hjl)
        generalize kids.getD j default = x at *
        have hlx := encL_len x
        have kx : List.take 6 (encL x) = encL x := List.take_of_length_le (Nat.le_of_eq hlx)
        have dx : List.drop 6 (encL x) = [] := List.drop_of_length_le (Nat.le_of_eq hlx)
        have hly := encL_len (leastF x)
        have ky : List.take 6 (encL (leastF x)) = encL (leastF x) := List.take_of_length_le (Nat.le_of_eq hly)
        (repeat (first | refine gO (by decide) ?_ | (refine gM (mdL [(1, 1), (2, 1), (5, 1), (6, 1)]) fun K1 hK1 => ?_; simp only [go_sem, ↓reduceIte, reduceCtorEq, nA, nB, nC, nD, nE, nF, Int.toNat_natCast, hTq, hyl, hgx, hgy, z28', hlx, kx, dx] <;> and_intros <;> first | (apply hK1; clear hK1 K1) | (intros; first | omega | decide | (simp_all <;> omega)) | skip)))
        refine (hc _).mono ?_; rintro _ hz ⟨rfl, hh⟩; apply hK1; clear hK1 K1; rw [hh]; clear hh hz
        (repeat (first | refine gO (by decide) ?_ | (refine gM (mdL [(1, 1), (2, 1), (5, 1), (6, 1)]) fun K1 hK1 => ?_; simp only [go_sem, ↓reduceIte, reduceCtorEq, nA, nB, nC, nD, nE, nF, Int.toNat_natCast, hTq, hyl, hgx, hgy, z28', hlx, kx, dx, hly, ky] <;> and_intros <;> first | (apply hK1; clear hK1 K1) | (intros; first | omega | decide | (simp_all <;> omega)) | skip)))
        refine ⟨g - 1, by omega, j + 1, by omega, ?_⟩
        rw [← hset, ← hys]; rfl
      · simp only [decide_eq_false_iff_not] at h9
        have hjl : j = kids.length := by omega
        subst hjl
        rw [fillTo_all] at hys
        (repeat (first | refine gO (by decide) ?_ | (refine gM (mdL [(1, 1), (2, 1), (5, 1), (6, 1)]) fun K1 hK1 => ?_; simp only [go_sem, ↓reduceIte, reduceCtorEq, nA, nB, nC, nD, nE, nF] <;> and_intros <;> first | (apply hK1; clear hK1 K1) | (intros; first | omega | decide | (simp_all <;> omega)) | skip)))
        rw [hys]; rfl
    · rintro _ rfl
      clear hih ih
      have hkl2 : (kids.map leastF).length = kids.length := List.length_map _
      refine awp_frz 3 q 6 (xs := (kids.map leastF).map encL) (by rw [List.length_map, hkl2]; rfl) (upd_same _ _ _) (fun y hy => by obtain ⟨z, _, rfl⟩ := List.mem_map.1 hy; exact encL_len z) ?_
      simp only [upd_upd, upd_noneA hq, go_sem]
      generalize kids.map leastF = ks' at *
      have hkk : ∀ k ∈ (LT.mk kind item long many ks' shares).ks, HS k := hhs
      have hcS := g_clS shares none h hsl
      (repeat (first | refine gQ (by decide) ?_ | (refine gM (mdL [(1, 1), (2, 1), (5, 1), (6, 1)]) fun K1 hK1 => ?_; simp only [go_sem, ↓reduceIte, reduceCtorEq, nA, nB, nC, nD, nE, nF] <;> and_intros <;> first | (apply hK1; clear hK1 K1) | (intros; first | omega | decide | (simp_all <;> omega)) | skip)))
      refine hcS.mono ?_
      rintro r h1 ⟨o3, hr⟩
      obtain ⟨w1, w2, w3, w4, w5⟩ := o3
      unfold uside at w1; unfold unw at w2; unfold AV.noLoc at w3; unfold isOpt at w4; simp only [AV.cellsB, Value.oneCell'] at w5
      refine hK1 _ ?_; clear hK1 K1
      (repeat (first | refine gQ (by decide) ?_ | (refine gM (mdL [(1, 1), (2, 1), (5, 1), (6, 1)]) fun K1 hK1 => ?_; simp only [go_sem, ↓reduceIte, reduceCtorEq, nA, nB, nC, nD, nE, nF, w1, w2, w3, w4, w5] <;> and_intros <;> first | (apply hK1; clear hK1 K1) | (intros; first | omega | decide | (simp_all <;> omega)) | skip)))
      have hks : ks'.length = kids.length := hkl2
      obtain ⟨W1, W2, W3, W4, W5, W6, W7, W8, W9, W10⟩ := (WF_eq ..).mp hgood.1.1
      have hlt := encL_len (LT.mk kind item long many ks' shares)
      have hent : encL (.mk kind item long many ks' shares) = [.v (.int .i64 kind), .v (.string item), .v (.int .i64 long), .v (.int .i64 many), .row 6 (ks'.map encL) none, .row 1 (shares.map encI) none] := encL_eq ..
      by_cases hA : kind = 4 ∧ ks'.length ≠ 1
      · obtain ⟨rfl, hk1⟩ := hA
        have hkp : 0 < ks'.length := List.length_pos_iff.2 (W3 (by decide)).2.2
        obtain ⟨x, xs, rfl⟩ := List.exists_cons_of_ne_nil (W3 (by decide)).2.2
        have hx : xs ≠ [] := fun e => by rw [e] at hk1; exact hk1 rfl
        have hsl2 := W6 rfl
        have hsne : shares ≠ [] := fun e => by rw [e] at hsl2; simp at hsl2
        have h2 : fixT 2 (LT.mk 4 item long many (x :: xs) shares) = .mk 4 item long many (x :: xs) (divI (gcdI shares) shares) := by
          have hst := stepT_mk 4 item long many (x :: xs) shares
          rw [if_neg (by decide), if_neg (by decide), if_neg hk1, if_neg (by decide), if_pos rfl] at hst
          have hgp := gcdI_pos (l := shares) (fun x hx => (W8 x hx).1) hsne
          split at hst
          · rw [fix_some hst]
            refine fix_none ?_ 1
            rw [stepT_mk, if_neg (by decide), if_neg (by decide), if_neg hk1, if_neg (by decide), if_pos rfl, gcdI_div (fun x hx => (W8 x hx).1) hsne, if_neg (by omega)]
          · rw [fix_none hst, show gcdI shares = 1 by omega]
            congr 1
            simp [divI]
        rcases hr with ⟨e, _, _⟩ | ⟨q2, hq2, rfl, rfl, _⟩
        · exact absurd e hsne
        have hcd : ((divI (gcdI shares) shares).map encI).length = shares.length := by simp [divI]
        have hch := fun h' hT => g_chgR4a item long many x xs shares q2 h' hT hgood.1.1 hgood.1.2 hx
        have hbd : BL (.mk 4 item long many (x :: xs) (divI (gcdI shares) shares)) := by
          have := bl_of _ hgood.1.1 hgood.1.2
          rw [BL_eq] at this ⊢
          exact ⟨this.1, by simp [divI]; exact this.2.1, this.2.2⟩
        have hsame := fun h' => g_same (SizeOf.sizeOf (LT.mk 4 item long many (x :: xs) (divI (gcdI shares) shares))) (.mk 4 item long many (x :: xs) (divI (gcdI shares) shares)) (.mk 4 item long many (x :: xs) (divI (gcdI shares) shares)) h' (Nat.le_refl _) hbd hbd
        rw [sameB_true.2 rfl] at hsame
        simp only [encL_eq 4] at hsame
        rw [h2, encL_eq 4]
        clear hcS
        (repeat (first | refine gO (by decide) ?_ | (refine gM (mdL [(1, 1), (2, 1), (5, 1), (6, 1)]) fun K1 hK1 => ?_; simp only [go_sem, ↓reduceIte, reduceCtorEq, nA, nB, nC, nD, nE, nF] <;> and_intros <;> first | (apply hK1; clear hK1 K1) | (intros; first | omega | decide | (simp_all <;> omega)) | skip)))
        refine awp_cond (t := _) rfl (fun h9 => by cases h9) (fun _ => ?_)
        (repeat (first | refine gO (by decide) ?_ | (refine gM (mdL [(1, 1), (2, 1), (5, 1), (6, 1)]) fun K1 hK1 => ?_; simp only [go_sem, ↓reduceIte, reduceCtorEq, nA, nB, nC, nD, nE, nF] <;> and_intros <;> first | (apply hK1; clear hK1 K1) | (intros; first | omega | decide | (simp_all <;> omega)) | skip)))
        refine awp_loopC (rl false [1, 2, 39]) 2 (fun g s => s = ⟨(AV.junk :: ((.loc 0 0) :: (.loc 1 0) :: (jnk 39 []))),
          [[.v (.int .i64 4), .v (.string item), .v (.int .i64 long), .v (.int .i64 many), .row 6 ((x :: xs).map encL) none, .arr 1 q2 shares.length], z28'], ⟨h.H, upd h.T q2 (some (.cont 1 (shares.map encI)))⟩⟩) 0 rfl ?_
        rintro g _ rfl
        (repeat (first | refine gO (by decide) ?_ | (refine gM (mdL [(1, 1), (2, 1), (5, 1), (6, 1)]) fun K1 hK1 => ?_; simp only [go_sem, ↓reduceIte, reduceCtorEq, nA, nB, nC, nD, nE, nF] <;> and_intros <;> first | (apply hK1; clear hK1 K1) | (intros; first | omega | decide | (simp_all <;> omega)) | skip)))
        refine (hch _ (upd_same _ _ _)).mono ?_; rintro _ hz ⟨rfl, hh⟩; apply hK1; clear hK1 K1; rw [hh]; clear hh hz
        (repeat (first | refine gQ (by decide) ?_ | (refine gM (mdL [(1, 1), (2, 1), (5, 1), (6, 1)]) fun K1 hK1 => ?_; simp only [go_sem, ↓reduceIte, reduceCtorEq, nA, nB, nC, nD, nE, nF, c4] <;> and_intros <;> first | (apply hK1; clear hK1 K1) | (intros; first | omega | decide | (simp_all <;> omega)) | skip)))
        refine awp_frzAll q2 1 (xs := (divI (gcdI shares) shares).map encI) (upd_same _ _ _) (fun y hy => by obtain ⟨_, _, rfl⟩ := List.mem_map.1 hy; rfl) ?_
        simp only [List.map_cons, List.map_nil, frzV, hcd, and_self, if_true, upd_upd, upd_noneA hq2, z28']
        simp only [List.map_cons] at hsame
        (repeat (first | refine gO (by decide) ?_ | (refine gM (mdL [(1, 1), (2, 1), (5, 1), (6, 1)]) fun K1 hK1 => ?_; simp only [go_sem, ↓reduceIte, reduceCtorEq, nA, nB, nC, nD, nE, nF] <;> and_intros <;> first | (apply hK1; clear hK1 K1) | (intros; first | omega | decide | (simp_all <;> omega)) | skip)))
        refine (hsame _).mono ?_; rintro _ hz ⟨rfl, hh⟩; apply hK1; clear hK1 K1; rw [hh]; clear hh hz
        (repeat (first | refine gO (by decide) ?_ | (refine gM (mdL [(1, 1), (2, 1), (5, 1), (6, 1)]) fun K1 hK1 => ?_; simp only [go_sem, ↓reduceIte, reduceCtorEq, nA, nB, nC, nD, nE, nF] <;> and_intros <;> first | (apply hK1; clear hK1 K1) | (intros; first | omega | decide | (simp_all <;> omega)) | skip)))
        refine awp_cond (t := _) rfl (fun _ => ?_) (fun h9 => by cases h9)
        (repeat (first | refine gO (by decide) ?_ | (refine gM (mdL [(1, 1), (2, 1), (5, 1), (6, 1)]) fun K1 hK1 => ?_; simp only [go_sem, ↓reduceIte, reduceCtorEq, nA, nB, nC, nD, nE, nF] <;> and_intros <;> first | (apply hK1; clear hK1 K1) | (intros; first | omega | decide | (simp_all <;> omega)) | skip)))
        simp only [Tryz.results11, go_sem, ↓reduceIte, reduceCtorEq, nA, nB, nC, nD, nE, nF]
        exact ⟨_, _, Weak.refl _, Hp.le.refl _, rfl, rfl⟩
      · have hc0 : HS (LT.mk kind item long many ks' shares) ∨ (LT.mk kind item long many ks' shares).kd ≠ 4 ∨ (LT.mk kind item long many ks' shares).ks.length = 1 := by
          simp only [LT.kd, LT.ks]
          rcases Classical.em (kind = 4) with e | e
          · exact .inr (.inr (Classical.byContradiction fun h => hA ⟨e, h⟩))
          · exact .inr (.inl e)
        refine awp_seqJ (rl false [1, 2, 39]) 2 (fun s => ∃ cs, WL cs (encL (LT.mk kind item long many ks' shares)) ∧ s = ⟨(AV.junk :: ((.loc 0 0) :: (.loc 1 0) :: (jnk 39 []))), [cs, z28'], h⟩) ?_ ?_
        · by_cases h1 : kind = 1
          · subst h1
            obtain ⟨e1, e2, _⟩ := W2 rfl
            rcases hr with ⟨_, rfl, rfl⟩ | ⟨_, _, _, _, e⟩
            · (repeat (first | refine gO (by decide) ?_ | (refine gM (mdL [(1, 1), (2, 1), (5, 1), (6, 1)]) fun K1 hK1 => ?_; simp only [go_sem, ↓reduceIte, reduceCtorEq, nA, nB, nC, nD, nE, nF] <;> and_intros <;> first | (apply hK1; clear hK1 K1) | (intros; first | omega | decide | (simp_all <;> omega)) | skip)))
              refine awp_cond (t := _) rfl (fun _ => ?_) (fun h9 => by cases h9)
              (repeat (first | refine gO (by decide) ?_ | (refine gM (mdL [(1, 1), (2, 1), (5, 1), (6, 1)]) fun K1 hK1 => ?_; simp only [go_sem, ↓reduceIte, reduceCtorEq, nA, nB, nC, nD, nE, nF] <;> and_intros <;> first | (apply hK1; clear hK1 K1) | (intros; first | omega | decide | (simp_all <;> omega)) | skip)))
              refine ⟨_, ?_, rfl⟩
              rw [hent, e1, e2]
              exact .cons (Weak.refl _) (.cons (Weak.refl _) (.cons (Weak.refl _) (.cons (Weak.refl _) (.cons (Weak.nil 6 0 0 ⟨rfl, rfl⟩) (.cons (Weak.refl _) .nil)))))
            · exact absurd e2 e
          · have e1 : (kind == 1) = false := by simpa using h1
            rcases hr with ⟨e, rfl, rfl⟩ | ⟨q2, hq2, rfl, rfl, _⟩
            · subst e
              (repeat (first | refine gO (by decide) ?_ | (refine gM (mdL [(1, 1), (2, 1), (5, 1), (6, 1)]) fun K1 hK1 => ?_; simp only [go_sem, ↓reduceIte, reduceCtorEq, nA, nB, nC, nD, nE, nF, e1] <;> and_intros <;> first | (apply hK1; clear hK1 K1) | (intros; first | omega | decide | (simp_all <;> omega)) | skip)))
              refine awp_cond (t := _) rfl (fun h9 => by cases h9) (fun _ => ?_)
              (repeat (first | refine gO (by decide) ?_ | (refine gM (mdL [(1, 1), (2, 1), (5, 1), (6, 1)]) fun K1 hK1 => ?_; simp only [go_sem, ↓reduceIte, reduceCtorEq, nA, nB, nC, nD, nE, nF] <;> and_intros <;> first | (apply hK1; clear hK1 K1) | (intros; first | omega | decide | (simp_all <;> omega)) | skip)))
              exact ⟨_, by rw [hent]; exact WL.refl _, rfl⟩
            · refine awp_frzLoc 0 5 q2 1 (xs := shares.map encI) rfl (by rw [List.length_map]; rfl) (upd_same _ _ _) (fun y hy => by obtain ⟨_, _, rfl⟩ := List.mem_map.1 hy; rfl) ?_
              simp only [upd_upd, upd_noneA hq2, List.set_cons_zero, List.set_cons_succ]
              (repeat (first | refine gO (by decide) ?_ | (refine gM (mdL [(1, 1), (2, 1), (5, 1), (6, 1)]) fun K1 hK1 => ?_; simp only [go_sem, ↓reduceIte, reduceCtorEq, nA, nB, nC, nD, nE, nF, e1] <;> and_intros <;> first | (apply hK1; clear hK1 K1) | (intros; first | omega | decide | (simp_all <;> omega)) | skip)))
              refine awp_cond (t := _) rfl (fun h9 => by cases h9) (fun _ => ?_)
              (repeat (first | refine gO (by decide) ?_ | (refine gM (mdL [(1, 1), (2, 1), (5, 1), (6, 1)]) fun K1 hK1 => ?_; simp only [go_sem, ↓reduceIte, reduceCtorEq, nA, nB, nC, nD, nE, nF] <;> and_intros <;> first | (apply hK1; clear hK1 K1) | (intros; first | omega | decide | (simp_all <;> omega)) | skip)))
              exact ⟨_, by rw [hent]; exact WL.refl _, rfl⟩
        · rintro _ ⟨cs, hw9, rfl⟩
          refine awp_weakLoc 0 rfl hw9 ?_
          simp only [List.set_cons_zero]
          clear hr w1 w2 w3 w4 w5 hcS hent W1 W2 W3 W4 W5 W6 W7 W8 W9 W10 hA hlt
          generalize LT.mk kind item long many ks' shares = t' at hgood hc0 hkk ⊢
          (repeat (first | refine gO (by decide) ?_ | (refine gM (mdL [(1, 1), (2, 1), (5, 1), (6, 1)]) fun K1 hK1 => ?_; simp only [go_sem, ↓reduceIte, reduceCtorEq, nA, nB, nC, nD, nE, nF] <;> and_intros <;> first | (apply hK1; clear hK1 K1) | (intros; first | omega | decide | (simp_all <;> omega)) | skip)))
          refine awp_loopC (rl false [1, 2, 39]) 2 (fun g s => ∃ cur : LT, GoodN 1000 g cur ∧ fixT g cur = fixT 2 t' ∧ (∀ k ∈ cur.ks, HS k) ∧ (HS cur ∨ cur.kd ≠ 4 ∨ cur.ks.length = 1) ∧
            s = ⟨(AV.junk :: ((.loc 0 0) :: (.loc 1 0) :: (jnk 39 []))), [encL cur, z28'], h⟩) 2 ⟨t', hgood, rfl, hkk, hc0, rfl⟩ ?_
          clear hgood hc0 hkk
          rintro g _ ⟨cur, hg, hf, hk, hc, rfl⟩
          have hgw := good_wf hg
          have hch := g_chgRall cur h hgw.1 hgw.2 hc
          have hu : ∃ u, u = (stepT cur).getD cur := ⟨_, rfl⟩
          obtain ⟨u, hu⟩ := hu
          unfold ChgQ at hch
          rw [← hu] at hch
          have hub : BL u := by
            cases hs : stepT cur with
            | none => rw [hu, hs]; exact bl_of _ hgw.1 hgw.2
            | some v =>
              rw [hu, hs]
              cases g with
              | zero => have := hg.2; rw [this] at hs; cases hs
              | succ g => have := good_wf (hg.2 v hs); exact bl_of _ this.1 this.2
          have hsm := g_same (SizeOf.sizeOf u) u cur h (Nat.le_refl _) hub (bl_of _ hgw.1 hgw.2)
          have hlu := encL_len u
          have ku : List.take 6 (encL u) = encL u := List.take_of_length_le (Nat.le_of_eq hlu)
          have du : List.drop 6 (encL u) = [] := List.drop_of_length_le (Nat.le_of_eq hlu)
          have hlc := encL_len cur
          have kc : List.take 6 (encL cur) = encL cur := List.take_of_length_le (Nat.le_of_eq hlc)
          have dc : List.drop 6 (encL cur) = [] := List.drop_of_length_le (Nat.le_of_eq hlc)
          have dz : List.drop 6 z28' = [] := rfl
          (repeat (first | refine gO (by decide) ?_ | (refine gM (mdL [(1, 1), (2, 1), (5, 1), (6, 1)]) fun K1 hK1 => ?_; simp only [go_sem, ↓reduceIte, reduceCtorEq, nA, nB, nC, nD, nE, nF, hlc, kc, dc] <;> and_intros <;> first | (apply hK1; clear hK1 K1) | (intros; first | omega | decide | (simp_all <;> omega)) | skip)))
          refine hch.mono ?_; rintro _ hz ⟨rfl, hh⟩; apply hK1; clear hK1 K1; rw [hh]; clear hh hz
          (repeat (first | refine gO (by decide) ?_ | (refine gM (mdL [(1, 1), (2, 1), (5, 1), (6, 1)]) fun K1 hK1 => ?_; simp only [go_sem, ↓reduceIte, reduceCtorEq, nA, nB, nC, nD, nE, nF, hlc, kc, dc, hlu, ku, du] <;> and_intros <;> first | (apply hK1; clear hK1 K1) | (intros; first | omega | decide | (simp_all <;> omega)) | skip)))
          refine hsm.mono ?_; rintro _ hz ⟨rfl, hh⟩; apply hK1; clear hK1 K1; rw [hh]; clear hh hz
          (repeat (first | refine gO (by decide) ?_ | (refine gM (mdL [(1, 1), (2, 1), (5, 1), (6, 1)]) fun K1 hK1 => ?_; simp only [go_sem, ↓reduceIte, reduceCtorEq, nA, nB, nC, nD, nE, nF] <;> and_intros <;> first | (apply hK1; clear hK1 K1) | (intros; first | omega | decide | (simp_all <;> omega)) | skip)))
          refine awp_cond (t := _) rfl (fun h9 => ?_) (fun h9 => ?_)
          · have e9 := sameB_true.1 h9
            have hn : stepT cur = none := by
              cases hs : stepT cur with
              | none => rfl
              | some v =>
                rw [hs, Option.getD_some] at hu
                rw [← hu, e9] at hs
                exact absurd hs (good_ne g hg)
            rw [fix_none hn] at hf
            (repeat (first | refine gO (by decide) ?_ | (refine gM (mdL [(1, 1), (2, 1), (5, 1), (6, 1)]) fun K1 hK1 => ?_; simp only [go_sem, ↓reduceIte, reduceCtorEq, nA, nB, nC, nD, nE, nF, hlc, kc, dc, dz] <;> and_intros <;> first | (apply hK1; clear hK1 K1) | (intros; first | omega | decide | (simp_all <;> omega)) | skip)))
            simp only [Tryz.results11, go_sem, ↓reduceIte, reduceCtorEq, nA, nB, nC, nD, nE, nF, hlc, kc, dc, dz]
            exact ⟨_, _, Weak.refl _, Hp.le.refl _, by rw [hf], rfl⟩
          · have e9 := sameB_false.1 h9
            cases hs : stepT cur with
            | none => rw [hs, Option.getD_none] at hu; exact absurd hu e9
            | some v =>
              rw [hs, Option.getD_some] at hu
              subst hu
              obtain ⟨g, rfl⟩ : ∃ g', g = g' + 1 := by
                cases g with
                | zero => have := hg.2; rw [this] at hs; cases hs
                | succ g => exact ⟨g, rfl⟩
              rw [fix_some hs] at hf
              have hst4 := step_c4 hgw.1 hk hs
              (repeat (first | refine gO (by decide) ?_ | (refine gM (mdL [(1, 1), (2, 1), (5, 1), (6, 1)]) fun K1 hK1 => ?_; simp only [go_sem, ↓reduceIte, reduceCtorEq, nA, nB, nC, nD, nE, nF, hlc, kc, dc, hlu, ku, du] <;> and_intros <;> first | (apply hK1; clear hK1 K1) | (intros; first | omega | decide | (simp_all <;> omega)) | skip)))
              refine ⟨g, by omega, u, hg.2 u hs, hf, hst4.1, ?_, rfl⟩
              rcases hst4.2 with e | e | ⟨e, e'⟩
              · exact .inl e
              · exact .inr (.inl e)
              · rcases hc with c | c | c
                · rw [c.st] at hs; cases hs
                · exact absurd e c
                · exact absurd c e'
theorem g_cloneNil32 (h : Hp) : ACalls Tryz.prog 68 [.v (.slice none 0 0)] h (fun r h' => r = .v (.slice none 0 0) ∧ h' = h) := by
  refine gE Tryz.func68 rfl (by kernel_rfl) 7 rfl fun c => ?_
  (repeat (first | refine gO (by decide) ?_ | (refine gM (mdL [(5, 2)]) fun K1 hK1 => ?_; simp only [go_sem, ↓reduceIte, reduceCtorEq, nA, nB, nC, nD, nE, nF] <;> and_intros <;> first | (apply hK1; clear hK1 K1) | (intros; first | omega | decide | (simp_all <;> omega)) | skip)))
  refine awp_cond (t := _) rfl (fun _ => ?_) (fun h1 => by cases h1)
  (repeat (first | refine gO (by decide) ?_ | (refine gM (mdL [(5, 2)]) fun K1 hK1 => ?_; simp only [go_sem, ↓reduceIte, reduceCtorEq, nA, nB, nC, nD, nE, nF] <;> and_intros <;> first | (apply hK1; clear hK1 K1) | (intros; first | omega | decide | (simp_all <;> omega)) | skip)))
  simp only [Tryz.results68, go_sem, ↓reduceIte, reduceCtorEq, nA, nB, nC, nD, nE, nF]
  exact ⟨_, _, Weak.refl _, Hp.le.refl _, rfl, rfl⟩
theorem g_clone32 (x : List AV) (xs : List (List AV)) (k : Option Nat) (h : Hp) (hb : xs.length ≤ 1000) : ACalls Tryz.prog 68 [.row 1 (x :: xs) k] h (fun r h' => ∃ q, h.T q = none ∧ r = .row 1 (x :: xs) (some q) ∧ h' = { h with T := upd h.T q (some (.tail (xs.length + 1))) }) := by
  refine gE Tryz.func68 rfl (by kernel_rfl) 7 rfl fun c => ?_
  (repeat (first | refine gO (by decide) ?_ | (refine gM (mdL [(5, 2)]) fun K1 hK1 => ?_; simp only [go_sem, ↓reduceIte, reduceCtorEq, nA, nB, nC, nD, nE, nF] <;> and_intros <;> first | (apply hK1; clear hK1 K1) | (intros; first | omega | decide | (simp_all <;> omega)) | skip)))
  refine awp_cond (t := _) rfl (fun h1 => by cases h1) (fun _ => ?_)
  (repeat (first | refine gO (by decide) ?_ | (refine gM (mdL [(5, 2)]) fun K1 hK1 => ?_; simp only [go_sem, ↓reduceIte, reduceCtorEq, nA, nB, nC, nD, nE, nF] <;> and_intros <;> first | (apply hK1; clear hK1 K1) | (intros; first | omega | decide | (simp_all <;> omega)) | skip)))
  intro q hq
  and_intros <;> first | (refine hK1 _ ?_; clear hK1 K1) | exact .inl trivial | exact .inr rfl | exact .inr True.intro | exact True.intro | omega
  (repeat (first | refine gO (by decide) ?_ | (refine gM (mdL [(5, 2)]) fun K1 hK1 => ?_; simp only [go_sem, ↓reduceIte, reduceCtorEq, nA, nB, nC, nD, nE, nF] <;> and_intros <;> first | (apply hK1; clear hK1 K1) | (intros; first | omega | decide | (simp_all <;> omega)) | skip)))
  simp only [Tryz.results68, go_sem, ↓reduceIte, reduceCtorEq, nA, nB, nC, nD, nE, nF]
  exact ⟨_, _, Weak.refl _, Hp.le.refl _, q, hq, rfl, rfl⟩
theorem g_cloneNil33 (h : Hp) : ACalls Tryz.prog 117 [.v (.slice none 0 0)] h (fun r h' => r = .v (.slice none 0 0) ∧ h' = h) := by
  refine gE Tryz.func117 rfl (by kernel_rfl) 7 rfl fun c => ?_
  (repeat (first | refine gO (by decide) ?_ | (refine gM (mdL [(5, 1)]) fun K1 hK1 => ?_; simp only [go_sem, ↓reduceIte, reduceCtorEq, nA, nB, nC, nD, nE, nF] <;> and_intros <;> first | (apply hK1; clear hK1 K1) | (intros; first | omega | decide | (simp_all <;> omega)) | skip)))
  refine awp_cond (t := _) rfl (fun _ => ?_) (fun h1 => by cases h1)
  (repeat (first | refine gO (by decide) ?_ | (refine gM (mdL [(5, 1)]) fun K1 hK1 => ?_; simp only [go_sem, ↓reduceIte, reduceCtorEq, nA, nB, nC, nD, nE, nF] <;> and_intros <;> first | (apply hK1; clear hK1 K1) | (intros; first | omega | decide | (simp_all <;> omega)) | skip)))
  simp only [Tryz.results117, go_sem, ↓reduceIte, reduceCtorEq, nA, nB, nC, nD, nE, nF]
  exact ⟨_, _, Weak.refl _, Hp.le.refl _, rfl, rfl⟩
theorem g_clone33 (x : List AV) (xs : List (List AV)) (k : Option Nat) (h : Hp) (hb : xs.length ≤ 1000) : ACalls Tryz.prog 117 [.row 6 (x :: xs) k] h (fun r h' => ∃ q, h.T q = none ∧ r = .arr 6 q (xs.length + 1) ∧ h' = { h with T := upd h.T q (some (.cont 6 (x :: xs))) }) := by
  refine gE Tryz.func117 rfl (by kernel_rfl) 7 rfl fun c => ?_
  (repeat (first | refine gO (by decide) ?_ | (refine gM (mdL [(5, 1)]) fun K1 hK1 => ?_; simp only [go_sem, ↓reduceIte, reduceCtorEq, nA, nB, nC, nD, nE, nF] <;> and_intros <;> first | (apply hK1; clear hK1 K1) | (intros; first | omega | decide | (simp_all <;> omega)) | skip)))
  refine awp_cond (t := _) rfl (fun h1 => by cases h1) (fun _ => ?_)
  (repeat (first | refine gO (by decide) ?_ | (refine gM (mdL [(5, 1)]) fun K1 hK1 => ?_; simp only [go_sem, ↓reduceIte, reduceCtorEq, nA, nB, nC, nD, nE, nF] <;> and_intros <;> first | (apply hK1; clear hK1 K1) | (intros; first | omega | decide | (simp_all <;> omega)) | skip)))
  intro q hq
  and_intros <;> first | (refine hK1 _ ?_; clear hK1 K1) | exact .inl trivial | exact .inr rfl | exact .inr True.intro | exact True.intro | omega
  (repeat (first | refine gO (by decide) ?_ | (refine gM (mdL [(5, 1)]) fun K1 hK1 => ?_; simp only [go_sem, ↓reduceIte, reduceCtorEq, nA, nB, nC, nD, nE, nF] <;> and_intros <;> first | (apply hK1; clear hK1 K1) | (intros; first | omega | decide | (simp_all <;> omega)) | skip)))
  simp only [Tryz.results117, go_sem, ↓reduceIte, reduceCtorEq, nA, nB, nC, nD, nE, nF]
  exact ⟨_, _, Weak.refl _, Hp.le.refl _, q, hq, rfl, rfl⟩
theorem g_cloneS (xs : List Int) (h : Hp) (hb : xs.length ≤ 1000) : ACalls Tryz.prog 68 [nilOr 1 (xs.map encI)] h (fun r h' => ∃ T', (∀ k, h.T k ≠ none → T' k = h.T k) ∧ h' = ⟨h.H, T'⟩ ∧
    (r = .v (.slice none 0 0) ∨ ∃ k, h.T k = none ∧ r = .row 1 (xs.map encI) (some k) ∧ T' k = some (.tail xs.length))) := by
  cases xs with
  | nil => exact (g_cloneNil32 h).mono fun r h' ⟨e, e'⟩ => ⟨h.T, fun _ _ => rfl, e', .inl e⟩
  | cons x xs =>
    refine (g_clone32 (encI x) (xs.map encI) none h (by simp at hb ⊢; omega)).mono ?_
    rintro r h' ⟨q, hq, rfl, rfl⟩
    exact ⟨_, fun k hk => upd_other _ _ (fun e => hk (e ▸ hq)), rfl, .inr ⟨q, hq, rfl, by rw [upd_same]; simp⟩⟩
theorem g_cloneK (ts : List LT) (h : Hp) (hb : ts.length ≤ 1000) : ACalls Tryz.prog 117 [nilOr 6 (ts.map encX)] h (fun r h' => ts = [] ∧ r = .v (.slice none 0 0) ∧ h' = h ∨ ∃ q, ts ≠ [] ∧ h.T q = none ∧ r = .arr 6 q ts.length ∧ h' = { h with T := upd h.T q (some (.cont 6 (ts.map encX))) }) := by
  cases ts with
  | nil => exact (g_cloneNil33 h).mono fun r h' ⟨e, e'⟩ => .inl ⟨rfl, e, e'⟩
  | cons x xs =>
    refine (g_clone33 (encX x) (xs.map encX) none h (by simp at hb ⊢; omega)).mono ?_
    rintro r h' ⟨q, hq, rfl, rfl⟩
    exact .inr ⟨q, by simp, hq, by simp, rfl⟩
abbrev pSCopied_62_6E : List Nat := [0, 1, 2, 3, 4, 5, 6, 7]
abbrev pSCopied_62_6P : List (Nat × List Nat × List Nat) := [(8, [1], [9]), (10, [], [])]
attribute [go_sem] pSCopied_62_6E pSCopied_62_6P
def CopI (d : Nat) (kind : Int) (item : ByteArray) (long many : Int) (kids : List LT) (shares : List Int) (r : AV) (q : Nat) (h : Hp) (g : Nat) (s : St) : Prop :=
  ∃ (j : Nat) (T2 : Nat → Option TO) (css : List (List AV)), g + j = kids.length ∧ css.length = kids.length ∧ T2 q = some (.cont 6 css) ∧ (∀ i, i < j → OLd true T2 (fun k => h.T k = none ∧ k ≠ q) d (css.getD i [])) ∧ (∀ i, j ≤ i → i < kids.length → css.getD i [] = encX (kids.getD i default)) ∧
    (∀ k, h.T k ≠ none → T2 k = h.T k) ∧ (r = .v (.slice none 0 0) ∨ ∃ k, h.T k = none ∧ r = .row 1 (shares.map encI) (some k) ∧ T2 k = some (.tail shares.length)) ∧
    s = ⟨(AV.junk :: ((.loc 0 0) :: (.loc 1 0) :: (jnk 11 ((.v (.int .i64 kids.length)) :: (.v (.int .i64 j)) :: (jnk 14 []))))),
      [[.v (.int .i64 kind), .v (.string item), .v (.int .i64 long), .v (.int .i64 many), .arr 6 q kids.length, r], [.v (.int .i64 0), .v (.string { data := #[] }), .v (.int .i64 0), .v (.int .i64 0), .v (.slice none 0 0), .v (.slice none 0 0)]], ⟨h.H, T2⟩⟩
theorem g_copied : ∀ (d : Nat) (t : LT) (h : Hp), LB d t → ACalls Tryz.prog 62 [.agg (encX t)] h (fun r h' => ∃ cs T', OLd true T' (fun k => h.T k = none) d cs ∧ (∀ k, h.T k ≠ none → T' k = h.T k) ∧ r = .agg cs ∧ h' = ⟨h.H, T'⟩)
  | 0, _, _, hb => hb.elim
  | d + 1, .mk kind item long many kids shares, h, hb => by
    obtain ⟨b1, b2, b3, b4, b5, b6, b7, b8⟩ := hb
    rw [encX_eq]
    have o1 := nilOr_one 1 (shares.map encI)
    have o2 := nilOr_one 6 (kids.map encX)
    obtain ⟨u1, u2, u3, u4, u5⟩ := o1
    unfold uside at u1; unfold unw at u2; unfold AV.noLoc at u3; unfold isOpt at u4; simp only [AV.cellsB, Value.oneCell'] at u5
    obtain ⟨v1, v2, v3, v4, v5⟩ := o2
    unfold uside at v1; unfold unw at v2; unfold AV.noLoc at v3; unfold isOpt at v4; simp only [AV.cellsB, Value.oneCell'] at v5
    refine gE Tryz.func62 rfl (by kernel_rfl) 29 rfl fun c => ?_
    (repeat (first | refine gO (by decide) ?_ | ((first | refine gM (mdL [(1, 1), (2, 1)]) ?_ | (with_reducible refine wM ?_ ?_) | ((with_reducible refine xR ?_); refine uE 6 (mdL [(1, 1), (2, 1)]) pSCopied_62_6E pSCopied_62_6P 30 rfl (by kernel_rfl) ?_)) <;> ((try with_reducible intro K1 hK1); simp only [go_sem, ↓reduceIte, reduceCtorEq, nA, nB, nC, nD, nE, nF, u1, u2, u3, u4, u5, v1, v2, v3, v4, v5] <;> and_intros <;> first | (apply hK1; clear hK1 K1) | (intros; first | omega | decide | (simp_all <;> omega)) | skip))))
    refine (g_cloneS shares _ (by omega)).mono ?_
    rintro r _ ⟨T1, hT1, rfl, hS⟩
    have o3 : OneV r := by rcases hS with rfl | ⟨k, _, rfl, _⟩ <;> exact ⟨rfl, rfl, rfl, rfl, rfl⟩
    obtain ⟨w1, w2, w3, w4, w5⟩ := o3
    unfold uside at w1; unfold unw at w2; unfold AV.noLoc at w3; unfold isOpt at w4; simp only [AV.cellsB, Value.oneCell'] at w5
    refine hK1 _ ?_; clear hK1 K1
    (repeat (first | refine gO (by decide) ?_ | ((first | refine gM (mdL [(1, 1), (2, 1)]) ?_ | (with_reducible refine wM ?_ ?_) | ((with_reducible refine xR ?_); refine uE 6 (mdL [(1, 1), (2, 1)]) pSCopied_62_6E pSCopied_62_6P 30 rfl (by kernel_rfl) ?_)) <;> ((try with_reducible intro K1 hK1); simp only [go_sem, ↓reduceIte, reduceCtorEq, nA, nB, nC, nD, nE, nF, u1, u2, u3, u4, u5, v1, v2, v3, v4, v5, w1, w2, w3, w4, w5] <;> and_intros <;> first | (apply hK1; clear hK1 K1) | (intros; first | omega | decide | (simp_all <;> omega)) | skip))))
    refine (g_cloneK kids _ (by omega)).mono ?_
    rintro r2 _ (⟨hk0, rfl, rfl⟩ | ⟨q, hq0, hq, rfl, rfl⟩)
    · refine hK1 _ ?_; clear hK1 K1
      (repeat (first | refine gO (by decide) ?_ | ((first | refine gM (mdL [(1, 1), (2, 1)]) ?_ | (with_reducible refine wM ?_ ?_) | ((with_reducible refine xR ?_); refine uE 6 (mdL [(1, 1), (2, 1)]) pSCopied_62_6E pSCopied_62_6P 30 rfl (by kernel_rfl) ?_)) <;> ((try with_reducible intro K1 hK1); simp only [go_sem, ↓reduceIte, reduceCtorEq, nA, nB, nC, nD, nE, nF, u1, u2, u3, u4, u5, v1, v2, v3, v4, v5, w1, w2, w3, w4, w5] <;> and_intros <;> first | (apply hK1; clear hK1 K1) | (intros; first | omega | decide | (simp_all <;> omega)) | skip))))
      refine awp_loopC (rl false [1, 2, 11, 2, 14]) 2 (fun g s => s = ⟨(AV.junk :: ((.loc 0 0) :: (.loc 1 0) :: (jnk 11 ((.v (.int .i64 0)) :: (.v (.int .i64 0)) :: (jnk 14 []))))),
        [[.v (.int .i64 kind), .v (.string item), .v (.int .i64 long), .v (.int .i64 many), .v (.slice none 0 0), r], [.v (.int .i64 0), .v (.string { data := #[] }), .v (.int .i64 0), .v (.int .i64 0), .v (.slice none 0 0), .v (.slice none 0 0)]], ⟨h.H, T1⟩⟩) 0 rfl ?_
      rintro n _ rfl
      (repeat (first | refine gO (by decide) ?_ | ((first | refine gM (mdL [(1, 1), (2, 1)]) ?_ | (with_reducible refine wM ?_ ?_) | ((with_reducible refine xR ?_); refine uE 6 (mdL [(1, 1), (2, 1)]) pSCopied_62_6E pSCopied_62_6P 30 rfl (by kernel_rfl) ?_)) <;> ((try with_reducible intro K1 hK1); simp only [go_sem, ↓reduceIte, reduceCtorEq, nA, nB, nC, nD, nE, nF, u1, u2, u3, u4, u5, v1, v2, v3, v4, v5, w1, w2, w3, w4, w5] <;> and_intros <;> first | (apply hK1; clear hK1 K1) | (intros; first | omega | decide | (simp_all <;> omega)) | skip))))
      refine awp_cond (t := _) rfl (fun h1 => by cases h1) (fun _ => ?_)
      (repeat (first | refine gO (by decide) ?_ | ((first | refine gM (mdL [(1, 1), (2, 1)]) ?_ | (with_reducible refine wM ?_ ?_) | ((with_reducible refine xR ?_); refine uE 6 (mdL [(1, 1), (2, 1)]) pSCopied_62_6E pSCopied_62_6P 30 rfl (by kernel_rfl) ?_)) <;> ((try with_reducible intro K1 hK1); simp only [go_sem, ↓reduceIte, reduceCtorEq, nA, nB, nC, nD, nE, nF, u1, u2, u3, u4, u5, v1, v2, v3, v4, v5, w1, w2, w3, w4, w5] <;> and_intros <;> first | (apply hK1; clear hK1 K1) | (intros; first | omega | decide | (simp_all <;> omega)) | skip))))
      simp only [Tryz.results62, go_sem, ↓reduceIte, reduceCtorEq, nA, nB, nC, nD, nE, nF, u1, u2, u3, u4, u5, v1, v2, v3, v4, v5, w1, w2, w3, w4, w5]
      refine ⟨_, _, Weak.refl _, Hp.le.refl _, _, T1, ⟨kind, item, long, many, .v (.slice none 0 0), r, rfl, ⟨b1, b2, b3, b4⟩, .inl rfl, ?_⟩, hT1, rfl, rfl⟩
      rcases hS with e | ⟨k, hk, e, hk2⟩
      · exact .inl e
      · exact .inr ⟨shares, k, e, by omega, b7, fun _ => ⟨hk, hk2, b6⟩⟩
    · refine hK1 _ ?_; clear hK1 K1
      have hq : T1 q = none := hq
      (repeat (first | refine gO (by decide) ?_ | ((first | refine gM (mdL [(1, 1), (2, 1)]) ?_ | (with_reducible refine wM ?_ ?_) | ((with_reducible refine xR ?_); refine uE 6 (mdL [(1, 1), (2, 1)]) pSCopied_62_6E pSCopied_62_6P 30 rfl (by kernel_rfl) ?_)) <;> ((try with_reducible intro K1 hK1); simp only [go_sem, ↓reduceIte, reduceCtorEq, nA, nB, nC, nD, nE, nF, u1, u2, u3, u4, u5, v1, v2, v3, v4, v5, w1, w2, w3, w4, w5] <;> and_intros <;> first | (apply hK1; clear hK1 K1) | (intros; first | omega | decide | (simp_all <;> omega)) | skip))))
      refine awp_loopC (rl false [1, 2, 11, 2, 14]) 2 (fun g s => CopI d kind item long many kids shares r q h g s) kids.length ⟨0, upd T1 q (some (.cont 6 (kids.map encX))), kids.map encX, by omega, by simp, upd_same _ _ _, fun i hi => by omega, fun i _ hi => getD_encX hi, fun k hk => ?_, ?_, rfl⟩ ?_
      · have hkq : k ≠ q := fun e => by subst e; rw [hT1 k hk] at hq; exact hk hq
        rw [upd_other _ _ hkq]; exact hT1 k hk
      · rcases hS with e | ⟨k, hk, e, hk2⟩
        · exact .inl e
        · have hkq : k ≠ q := fun e => by subst e; rw [hk2] at hq; cases hq
          exact .inr ⟨k, hk, e, by rw [upd_other _ _ hkq]; exact hk2⟩
      have hq' : h.T q = none := by
        cases e : h.T q with
        | none => rfl
        | some x => have := hT1 q (by rw [e]; simp); rw [hq, e] at this; cases this
      rintro n _ ⟨j, T2, css, hnj, hcl, hTq, hdone, hrest, hTT, hS2, rfl⟩
      (repeat (first | refine gO (by decide) ?_ | ((first | refine gM (mdL [(1, 1), (2, 1)]) ?_ | (with_reducible refine wM ?_ ?_) | ((with_reducible refine xR ?_); refine uE 6 (mdL [(1, 1), (2, 1)]) pSCopied_62_6E pSCopied_62_6P 30 rfl (by kernel_rfl) ?_)) <;> ((try with_reducible intro K1 hK1); simp only [go_sem, ↓reduceIte, reduceCtorEq, nA, nB, nC, nD, nE, nF, u1, u2, u3, u4, u5, v1, v2, v3, v4, v5, w1, w2, w3, w4, w5] <;> and_intros <;> first | (apply hK1; clear hK1 K1) | (intros; first | omega | decide | (simp_all <;> omega)) | skip))))
      refine awp_cond (t := _) rfl (fun h1 => ?_) (fun h1 => ?_)
      · simp only [decide_eq_true_eq] at h1
        have hj : j < kids.length := by omega
        have hg := hrest j (Nat.le_refl _) hj
        have hm : kids.getD j default ∈ kids := by
          rw [List.getD_eq_getElem?_getD, List.getElem?_eq_getElem hj]; exact List.getElem_mem _
        generalize kids.getD j default = t2 at hg hm
        have hlen := encX_len t2
        have htk : List.take 6 (encX t2) = encX t2 := List.take_of_length_le (Nat.le_of_eq hlen)
        (repeat (first | refine gO (by decide) ?_ | ((first | refine gM (mdL [(1, 1), (2, 1)]) ?_ | (with_reducible refine wM ?_ ?_) | ((with_reducible refine xR ?_); refine uE 6 (mdL [(1, 1), (2, 1)]) pSCopied_62_6E pSCopied_62_6P 30 rfl (by kernel_rfl) ?_)) <;> ((try with_reducible intro K1 hK1); simp only [go_sem, ↓reduceIte, reduceCtorEq, nA, nB, nC, nD, nE, nF, u1, u2, u3, u4, u5, v1, v2, v3, v4, v5, w1, w2, w3, w4, w5, hTq, hcl, Int.toNat_natCast, hg, hlen, htk] <;> and_intros <;> first | (apply hK1; clear hK1 K1) | (intros; first | omega | decide | (simp_all <;> omega)) | skip))))
        refine (g_copied d t2 ⟨h.H, T2⟩ (b8 t2 hm)).mono ?_
        rintro _ _ ⟨cs, T3, hcs, hT3, rfl, rfl⟩
        refine hK1 _ ?_; clear hK1 K1
        replace hcs : OLd true T3 (fun k => T2 k = none) d cs := hcs
        replace hT3 : ∀ k, T2 k ≠ none → T3 k = T2 k := hT3
        have hT3q : T3 q = some (.cont 6 css) := by rw [hT3 q (by rw [hTq]; simp)]; exact hTq
        have hcsl := hcs.len
        have hdr : List.drop 6 (encX t2) = [] := List.drop_of_length_le (Nat.le_of_eq hlen)
        (repeat (first | refine gO (by decide) ?_ | ((first | refine gM (mdL [(1, 1), (2, 1)]) ?_ | (with_reducible refine wM ?_ ?_) | ((with_reducible refine xR ?_); refine uE 6 (mdL [(1, 1), (2, 1)]) pSCopied_62_6E pSCopied_62_6P 30 rfl (by kernel_rfl) ?_)) <;> ((try with_reducible intro K1 hK1); simp only [go_sem, ↓reduceIte, reduceCtorEq, nA, nB, nC, nD, nE, nF, u1, u2, u3, u4, u5, v1, v2, v3, v4, v5, w1, w2, w3, w4, w5, hT3q, hcl, Int.toNat_natCast, hg, hlen, htk, hdr, hcsl] <;> and_intros <;> first | (apply hK1; clear hK1 K1) | (intros; first | omega | decide | (simp_all <;> omega)) | skip))))
        refine ⟨n - 1, by omega, j + 1, upd T3 q (some (.cont 6 (css.set j cs))), css.set j cs, by omega, by simpa using hcl, upd_same _ _ _, fun i hi => ?_, fun i hi hi2 => ?_, fun k hk => ?_, ?_, ?_⟩
        · have hkeep : ∀ k, T2 k ≠ none → k ≠ q → upd T3 q (some (.cont 6 (css.set j cs))) k = T2 k := fun k hk hkq => by rw [upd_other _ _ hkq]; exact hT3 k hk
          by_cases hij : i = j
          · subst hij
            rw [List.getD_eq_getElem?_getD, List.getElem?_set_self (by omega)]
            refine (hcs.keep (T' := upd T3 q (some (.cont 6 (css.set i cs)))) (fun k hk _ => upd_other _ _ fun e => by subst e; rw [hTq] at hk; cases hk) (fun _ k m hk => by
              by_cases hkq : k = q
              · subst hkq; rw [hT3q] at hk; cases hk
              · rw [upd_other _ _ hkq]; exact hk)).more fun k hk => ⟨?_, fun e => by subst e; rw [hTq] at hk; cases hk⟩
            cases e : h.T k with
            | none => rfl
            | some x => have := hTT k (by rw [e]; simp); rw [hk, e] at this; cases this
          · rw [List.getD_eq_getElem?_getD, List.getElem?_set_ne (by omega), ← List.getD_eq_getElem?_getD]
            refine (hdone i (by omega)).keep (fun k hk ⟨x, hk2⟩ => hkeep k (by rw [hk2]; simp) hk.2) (fun _ k m hk => ?_)
            by_cases hkq : k = q
            · subst hkq; rw [hTq] at hk; cases hk
            · rw [hkeep k (by rw [hk]; simp) hkq]; exact hk
        · rw [List.getD_eq_getElem?_getD, List.getElem?_set_ne (by omega), ← List.getD_eq_getElem?_getD]
          exact hrest i (by omega) hi2
        · have hkq : k ≠ q := fun e => by subst e; exact hk hq'
          rw [upd_other _ _ hkq, hT3 k (by rw [hTT k hk]; exact hk)]; exact hTT k hk
        · rcases hS2 with e | ⟨k, hk, e, hk2⟩
          · exact .inl e
          · have hkq : k ≠ q := fun e => by subst e; rw [hk2] at hTq; cases hTq
            exact .inr ⟨k, hk, e, by rw [upd_other _ _ hkq, hT3 k (by rw [hk2]; simp)]; exact hk2⟩
        · rfl
      · (repeat (first | refine gO (by decide) ?_ | ((first | refine gM (mdL [(1, 1), (2, 1)]) ?_ | (with_reducible refine wM ?_ ?_) | ((with_reducible refine xR ?_); refine uE 6 (mdL [(1, 1), (2, 1)]) pSCopied_62_6E pSCopied_62_6P 30 rfl (by kernel_rfl) ?_)) <;> ((try with_reducible intro K1 hK1); simp only [go_sem, ↓reduceIte, reduceCtorEq, nA, nB, nC, nD, nE, nF, u1, u2, u3, u4, u5, v1, v2, v3, v4, v5, w1, w2, w3, w4, w5] <;> and_intros <;> first | (apply hK1; clear hK1 K1) | (intros; first | omega | decide | (simp_all <;> omega)) | skip))))
        simp only [Tryz.results62, go_sem, ↓reduceIte, reduceCtorEq, nA, nB, nC, nD, nE, nF, u1, u2, u3, u4, u5, v1, v2, v3, v4, v5, w1, w2, w3, w4, w5]
        simp only [decide_eq_false_iff_not] at h1
        have hj : j = kids.length := by omega
        subst hj
        refine ⟨_, _, Weak.refl _, Hp.le.refl _, _, T2, ⟨kind, item, long, many, .arr 6 q kids.length, r, rfl, ⟨b1, b2, b3, b4⟩, .inr (.inl ⟨q, css, hq', hTq, by rw [hcl], by rw [hcl]; exact List.length_pos_iff.2 hq0, by omega, fun c hc => ?_⟩), ?_⟩, hTT, rfl, rfl⟩
        · obtain ⟨i, hi, rfl⟩ := List.getElem_of_mem hc
          have := hdone i (by omega)
          rw [List.getD_eq_getElem?_getD, List.getElem?_eq_getElem hi] at this
          exact this.more fun k hk => hk.1
        · rcases hS2 with e | ⟨k, hk, e, hk2⟩
          · exact .inl e
          · exact .inr ⟨shares, k, e, by omega, b7, fun _ => ⟨hk, hk2, b6⟩⟩
abbrev pSInner_64_2E : List Nat := [0, 1, 2, 3, 4, 5, 6, 7, 8, 9]
abbrev pSInner_64_2P : List (Nat × List Nat × List Nat) := [(10, [3], [11]), (12, [], [])]
attribute [go_sem] pSInner_64_2E pSInner_64_2P
def PtIn (o : Nat) (T : Nat → Option TO) (S : Nat → Prop) (cs0 : List AV) (p : AV) (cs : List AV) : Prop :=
  p = .ptr o 0 ∧ cs = cs0 ∨ ∃ q css j, S q ∧ T q = some (.cont 6 css) ∧ j < css.length ∧ p = .eptr q css.length j 0 ∧ css.getD j [] = cs
def InnI (i o : Nat) (l : List Int) (a : Int) (h : Hp) (S : Nat → Prop) (d : Nat) (cs0 : List AV) (g : Nat) (s : St) : Prop :=
  ∃ p cs a', PtIn o h.T S cs0 p cs ∧ OLd true h.T S g cs ∧ (a ≤ a' ∧ a' + 2 * g ≤ a + 2 * d) ∧ s = ⟨((.ptr i 0) :: (p) :: (jnk 27 [])), [], h.st i l a'⟩
theorem g_inner (i o : Nat) (l : List Int) (a : Int) (h : Hp) (hl : SOk l) (S : Nat → Prop) (d : Nat) (cs0 : List AV) (ha : 0 ≤ a ∧ a + 2 * d ≤ 900000000) (hio : o ≠ i) (hH0 : h.H o = some (.cells cs0)) (hO : OLd true h.T S d cs0) :
    ACalls Tryz.prog 64 [.ptr i 0, .ptr o 0] (h.st i l a) (fun r h' => ∃ cs e a', (a ≤ a' ∧ a' ≤ a + 2 * d) ∧ PtIn o h.T S cs0 r cs ∧ OLd true h.T S e cs ∧ h' = h.st i l a') := by
  refine gE Tryz.func64 rfl (by kernel_rfl) 27 rfl fun c => ?_
  (repeat (first | refine gO (by decide) ?_ | ((first | refine gR ?_ | (with_reducible refine wM ?_ ?_) | ((with_reducible refine xR ?_); refine uE 2 (mdL []) pSInner_64_2E pSInner_64_2P 29 rfl (by kernel_rfl) ?_)) <;> ((try with_reducible intro K1 hK1); simp only [go_sem, ↓reduceIte, reduceCtorEq, nA, nB, nC, nD, nE, nF] <;> and_intros <;> first | (apply hK1; clear hK1 K1) | (intros; first | omega | decide | (simp_all <;> omega)) | skip))))
  refine awp_loopC (rl false [0, 2, 27]) 0 (fun g s => InnI i o l a h S d cs0 g s) d ⟨.ptr o 0, cs0, a, .inl ⟨rfl, rfl⟩, hO, by omega, rfl⟩ ?_
  rintro g _ ⟨p, cs, a', hp, hcs, ha', rfl⟩
  cases g with
  | zero => exact hcs.elim
  | succ g =>
  obtain ⟨kind, item, long, many, K, Sh, rfl, hnb, hK, hS⟩ := id hcs
  have hH1 : ∀ b, cs0 = [.v (.int .i64 kind), .v (.string item), .v (.int .i64 long), .v (.int .i64 many), K, Sh] → (h.st i l b).H o = some (.cells [.v (.int .i64 kind), .v (.string item), .v (.int .i64 long), .v (.int .i64 many), K, Sh]) := fun b e => by
    rw [← e]; simp only [Hp.st, upd_other _ _ hio]; exact hH0
  have hK' : K = .v (.slice none 0 0) ∨ ∃ q css, S q ∧ h.T q = some (.cont 6 css) ∧ K = .arr 6 q css.length ∧ 0 < css.length ∧ css.length ≤ 3 ∧ ∀ c ∈ css, OLd true h.T S g c := by
    rcases hK with e | e | ⟨e, _⟩
    · exact .inl e
    · exact .inr e
    · cases e
  rcases hK' with rfl | ⟨q, css, hq, hTq, rfl, hpos, hcl, hcc⟩
  · rcases id hp with ⟨rfl, e⟩ | ⟨q0, css0, j0, hq0, hT0, hj0, rfl, hg0⟩
    · have hH := fun b => hH1 b e.symm
      (repeat (first | refine gO (by decide) ?_ | ((first | refine gR ?_ | (with_reducible refine wM ?_ ?_) | ((with_reducible refine xR ?_); refine uE 2 (mdL []) pSInner_64_2E pSInner_64_2P 29 rfl (by kernel_rfl) ?_)) <;> ((try with_reducible intro K1 hK1); simp only [go_sem, ↓reduceIte, reduceCtorEq, nA, nB, nC, nD, nE, nF, hH, st_T, Int.toNat_natCast] <;> and_intros <;> first | (apply hK1; clear hK1 K1) | (intros; first | omega | decide | (simp_all <;> omega)) | skip))))
      intro h1
      refine hK1 _ ?_; clear hK1 K1
      (repeat (first | refine gO (by decide) ?_ | ((first | refine gR ?_ | (with_reducible refine wM ?_ ?_) | ((with_reducible refine xR ?_); refine uE 2 (mdL []) pSInner_64_2E pSInner_64_2P 29 rfl (by kernel_rfl) ?_)) <;> ((try with_reducible intro K1 hK1); simp only [go_sem, ↓reduceIte, reduceCtorEq, nA, nB, nC, nD, nE, nF, hH, h1, st_T, Int.toNat_natCast] <;> and_intros <;> first | (apply hK1; clear hK1 K1) | (intros; first | omega | decide | (simp_all <;> omega)) | skip))))
      refine ⟨.junk, rfl, hK1 _ ?_⟩; clear hK1 K1
      (repeat (first | refine gO (by decide) ?_ | ((first | refine gR ?_ | (with_reducible refine wM ?_ ?_) | ((with_reducible refine xR ?_); refine uE 2 (mdL []) pSInner_64_2E pSInner_64_2P 29 rfl (by kernel_rfl) ?_)) <;> ((try with_reducible intro K1 hK1); simp only [go_sem, ↓reduceIte, reduceCtorEq, nA, nB, nC, nD, nE, nF, hH, h1, st_T, Int.toNat_natCast] <;> and_intros <;> first | (apply hK1; clear hK1 K1) | (intros; first | omega | decide | (simp_all <;> omega)) | skip))))
      refine awp_cond (t := _) rfl (fun h2 => by cases h2) (fun h2 => ?_)
      (repeat (first | refine gO (by decide) ?_ | ((first | refine gR ?_ | (with_reducible refine wM ?_ ?_) | ((with_reducible refine xR ?_); refine uE 2 (mdL []) pSInner_64_2E pSInner_64_2P 29 rfl (by kernel_rfl) ?_)) <;> ((try with_reducible intro K1 hK1); simp only [go_sem, ↓reduceIte, reduceCtorEq, nA, nB, nC, nD, nE, nF, hH, st_T, Int.toNat_natCast] <;> and_intros <;> first | (apply hK1; clear hK1 K1) | (intros; first | omega | decide | (simp_all <;> omega)) | skip))))
      simp only [Tryz.results64, go_sem, ↓reduceIte, reduceCtorEq, nA, nB, nC, nD, nE, nF]
      exact ⟨_, _, Weak.refl _, Hp.le.refl _, _, _, a', by omega, hp, hcs, rfl⟩
    · have hj0' : (j0 : Nat) < css0.length := hj0
      (repeat (first | refine gO (by decide) ?_ | ((first | refine gR ?_ | (with_reducible refine wM ?_ ?_) | ((with_reducible refine xR ?_); refine uE 2 (mdL []) pSInner_64_2E pSInner_64_2P 29 rfl (by kernel_rfl) ?_)) <;> ((try with_reducible intro K1 hK1); simp only [go_sem, ↓reduceIte, reduceCtorEq, nA, nB, nC, nD, nE, nF, hT0, hg0, st_T, Int.toNat_natCast] <;> and_intros <;> first | (apply hK1; clear hK1 K1) | (intros; first | omega | decide | (simp_all <;> omega)) | skip))))
      intro h1
      refine hK1 _ ?_; clear hK1 K1
      (repeat (first | refine gO (by decide) ?_ | ((first | refine gR ?_ | (with_reducible refine wM ?_ ?_) | ((with_reducible refine xR ?_); refine uE 2 (mdL []) pSInner_64_2E pSInner_64_2P 29 rfl (by kernel_rfl) ?_)) <;> ((try with_reducible intro K1 hK1); simp only [go_sem, ↓reduceIte, reduceCtorEq, nA, nB, nC, nD, nE, nF, hT0, hg0, h1, st_T, Int.toNat_natCast] <;> and_intros <;> first | (apply hK1; clear hK1 K1) | (intros; first | omega | decide | (simp_all <;> omega)) | skip))))
      refine ⟨.junk, rfl, hK1 _ ?_⟩; clear hK1 K1
      (repeat (first | refine gO (by decide) ?_ | ((first | refine gR ?_ | (with_reducible refine wM ?_ ?_) | ((with_reducible refine xR ?_); refine uE 2 (mdL []) pSInner_64_2E pSInner_64_2P 29 rfl (by kernel_rfl) ?_)) <;> ((try with_reducible intro K1 hK1); simp only [go_sem, ↓reduceIte, reduceCtorEq, nA, nB, nC, nD, nE, nF, hT0, hg0, h1, st_T, Int.toNat_natCast] <;> and_intros <;> first | (apply hK1; clear hK1 K1) | (intros; first | omega | decide | (simp_all <;> omega)) | skip))))
      refine awp_cond (t := _) rfl (fun h2 => by cases h2) (fun h2 => ?_)
      (repeat (first | refine gO (by decide) ?_ | ((first | refine gR ?_ | (with_reducible refine wM ?_ ?_) | ((with_reducible refine xR ?_); refine uE 2 (mdL []) pSInner_64_2E pSInner_64_2P 29 rfl (by kernel_rfl) ?_)) <;> ((try with_reducible intro K1 hK1); simp only [go_sem, ↓reduceIte, reduceCtorEq, nA, nB, nC, nD, nE, nF, hT0, hg0, st_T, Int.toNat_natCast] <;> and_intros <;> first | (apply hK1; clear hK1 K1) | (intros; first | omega | decide | (simp_all <;> omega)) | skip))))
      simp only [Tryz.results64, go_sem, ↓reduceIte, reduceCtorEq, nA, nB, nC, nD, nE, nF]
      exact ⟨_, _, Weak.refl _, Hp.le.refl _, _, _, a', by omega, hp, hcs, rfl⟩
  · rcases id hp with ⟨rfl, e⟩ | ⟨q0, css0, j0, hq0, hT0, hj0, rfl, hg0⟩
    · have hH := fun b => hH1 b e.symm
      (repeat (first | refine gO (by decide) ?_ | ((first | refine gR ?_ | (with_reducible refine wM ?_ ?_) | ((with_reducible refine xR ?_); refine uE 2 (mdL []) pSInner_64_2E pSInner_64_2P 29 rfl (by kernel_rfl) ?_)) <;> ((try with_reducible intro K1 hK1); simp only [go_sem, ↓reduceIte, reduceCtorEq, nA, nB, nC, nD, nE, nF, hH, st_T, Int.toNat_natCast] <;> and_intros <;> first | (apply hK1; clear hK1 K1) | (intros; first | omega | decide | (simp_all <;> omega)) | skip))))
      intro h1
      refine ⟨h1, ?_⟩
      refine (g_flip i l a' 3 h hl (by omega) (by omega)).mono ?_
      rintro _ _ ⟨b, rfl, rfl⟩
      refine ⟨rfl, hK1 _ ?_⟩; clear hK1 K1
      (repeat (first | refine gO (by decide) ?_ | ((first | refine gR ?_ | (with_reducible refine wM ?_ ?_) | ((with_reducible refine xR ?_); refine uE 2 (mdL []) pSInner_64_2E pSInner_64_2P 29 rfl (by kernel_rfl) ?_)) <;> ((try with_reducible intro K1 hK1); simp only [go_sem, ↓reduceIte, reduceCtorEq, nA, nB, nC, nD, nE, nF, hH, h1, st_T, Int.toNat_natCast] <;> and_intros <;> first | (apply hK1; clear hK1 K1) | (intros; first | omega | decide | (simp_all <;> omega)) | skip))))
      refine awp_cond (t := _) rfl (fun h2 => ?_) (fun h2 => ?_)
      · (repeat (first | refine gO (by decide) ?_ | ((first | refine gR ?_ | (with_reducible refine wM ?_ ?_) | ((with_reducible refine xR ?_); refine uE 2 (mdL []) pSInner_64_2E pSInner_64_2P 29 rfl (by kernel_rfl) ?_)) <;> ((try with_reducible intro K1 hK1); simp only [go_sem, ↓reduceIte, reduceCtorEq, nA, nB, nC, nD, nE, nF, hH, st_T, Int.toNat_natCast] <;> and_intros <;> first | (apply hK1; clear hK1 K1) | (intros; first | omega | decide | (simp_all <;> omega)) | skip))))
        refine (g_next i l (a' + 1) css.length h hl (by omega) (by omega)).mono ?_; rintro _ _ ⟨x, hx, rfl, rfl⟩; apply hK1; clear hK1 K1
        (repeat (first | refine gO (by decide) ?_ | ((first | refine gR ?_ | (with_reducible refine wM ?_ ?_) | ((with_reducible refine xR ?_); refine uE 2 (mdL []) pSInner_64_2E pSInner_64_2P 29 rfl (by kernel_rfl) ?_)) <;> ((try with_reducible intro K1 hK1); simp only [go_sem, ↓reduceIte, reduceCtorEq, nA, nB, nC, nD, nE, nF, hH, st_T, Int.toNat_natCast] <;> and_intros <;> first | (apply hK1; clear hK1 K1) | (intros; first | omega | decide | (simp_all <;> omega)) | skip))))
        have hxl : x.toNat < css.length := by omega
        refine ⟨g, by omega, .eptr q css.length x.toNat 0, css.getD x.toNat [], a' + 1 + 1, .inr ⟨q, css, x.toNat, hq, hTq, hxl, rfl, rfl⟩, hcc _ (by rw [List.getD_eq_getElem?_getD, List.getElem?_eq_getElem hxl]; exact List.getElem_mem _), by omega, rfl⟩
      · (repeat (first | refine gO (by decide) ?_ | ((first | refine gR ?_ | (with_reducible refine wM ?_ ?_) | ((with_reducible refine xR ?_); refine uE 2 (mdL []) pSInner_64_2E pSInner_64_2P 29 rfl (by kernel_rfl) ?_)) <;> ((try with_reducible intro K1 hK1); simp only [go_sem, ↓reduceIte, reduceCtorEq, nA, nB, nC, nD, nE, nF, hH, st_T, Int.toNat_natCast] <;> and_intros <;> first | (apply hK1; clear hK1 K1) | (intros; first | omega | decide | (simp_all <;> omega)) | skip))))
        simp only [Tryz.results64, go_sem, ↓reduceIte, reduceCtorEq, nA, nB, nC, nD, nE, nF]
        exact ⟨_, _, Weak.refl _, Hp.le.refl _, _, _, a' + 1, by omega, hp, hcs, rfl⟩
    · --
      (repeat (first | refine gO (by decide) ?_ | ((first | refine gR ?_ | (with_reducible refine wM ?_ ?_) | ((with_reducible refine xR ?_); refine uE 2 (mdL []) pSInner_64_2E pSInner_64_2P 29 rfl (by kernel_rfl) ?_)) <;> ((try with_reducible intro K1 hK1); simp only [go_sem, ↓reduceIte, reduceCtorEq, nA, nB, nC, nD, nE, nF, hT0, hg0, st_T, Int.toNat_natCast] <;> and_intros <;> first | (apply hK1; clear hK1 K1) | (intros; first | omega | decide | (simp_all <;> omega)) | skip))))
      intro h1
      refine ⟨h1, ?_⟩
      refine (g_flip i l a' 3 h hl (by omega) (by omega)).mono ?_
      rintro _ _ ⟨b, rfl, rfl⟩
      refine ⟨rfl, hK1 _ ?_⟩; clear hK1 K1
      (repeat (first | refine gO (by decide) ?_ | ((first | refine gR ?_ | (with_reducible refine wM ?_ ?_) | ((with_reducible refine xR ?_); refine uE 2 (mdL []) pSInner_64_2E pSInner_64_2P 29 rfl (by kernel_rfl) ?_)) <;> ((try with_reducible intro K1 hK1); simp only [go_sem, ↓reduceIte, reduceCtorEq, nA, nB, nC, nD, nE, nF, hT0, hg0, h1, st_T, Int.toNat_natCast] <;> and_intros <;> first | (apply hK1; clear hK1 K1) | (intros; first | omega | decide | (simp_all <;> omega)) | skip))))
      refine awp_cond (t := _) rfl (fun h2 => ?_) (fun h2 => ?_)
      · (repeat (first | refine gO (by decide) ?_ | ((first | refine gR ?_ | (with_reducible refine wM ?_ ?_) | ((with_reducible refine xR ?_); refine uE 2 (mdL []) pSInner_64_2E pSInner_64_2P 29 rfl (by kernel_rfl) ?_)) <;> ((try with_reducible intro K1 hK1); simp only [go_sem, ↓reduceIte, reduceCtorEq, nA, nB, nC, nD, nE, nF, hT0, hg0, st_T, Int.toNat_natCast] <;> and_intros <;> first | (apply hK1; clear hK1 K1) | (intros; first | omega | decide | (simp_all <;> omega)) | skip))))
        refine (g_next i l (a' + 1) css.length h hl (by omega) (by omega)).mono ?_; rintro _ _ ⟨x, hx, rfl, rfl⟩; apply hK1; clear hK1 K1
        (repeat (first | refine gO (by decide) ?_ | ((first | refine gR ?_ | (with_reducible refine wM ?_ ?_) | ((with_reducible refine xR ?_); refine uE 2 (mdL []) pSInner_64_2E pSInner_64_2P 29 rfl (by kernel_rfl) ?_)) <;> ((try with_reducible intro K1 hK1); simp only [go_sem, ↓reduceIte, reduceCtorEq, nA, nB, nC, nD, nE, nF, hT0, hg0, st_T, Int.toNat_natCast] <;> and_intros <;> first | (apply hK1; clear hK1 K1) | (intros; first | omega | decide | (simp_all <;> omega)) | skip))))
        have hxl : x.toNat < css.length := by omega
        refine ⟨g, by omega, .eptr q css.length x.toNat 0, css.getD x.toNat [], a' + 1 + 1, .inr ⟨q, css, x.toNat, hq, hTq, hxl, rfl, rfl⟩, hcc _ (by rw [List.getD_eq_getElem?_getD, List.getElem?_eq_getElem hxl]; exact List.getElem_mem _), by omega, rfl⟩
      · (repeat (first | refine gO (by decide) ?_ | ((first | refine gR ?_ | (with_reducible refine wM ?_ ?_) | ((with_reducible refine xR ?_); refine uE 2 (mdL []) pSInner_64_2E pSInner_64_2P 29 rfl (by kernel_rfl) ?_)) <;> ((try with_reducible intro K1 hK1); simp only [go_sem, ↓reduceIte, reduceCtorEq, nA, nB, nC, nD, nE, nF, hT0, hg0, st_T, Int.toNat_natCast] <;> and_intros <;> first | (apply hK1; clear hK1 K1) | (intros; first | omega | decide | (simp_all <;> omega)) | skip))))
        simp only [Tryz.results64, go_sem, ↓reduceIte, reduceCtorEq, nA, nB, nC, nD, nE, nF]
        exact ⟨_, _, Weak.refl _, Hp.le.refl _, _, _, a' + 1, by omega, hp, hcs, rfl⟩
abbrev pSRight_118_1E : List Nat := [0, 1, 3, 4]
abbrev pSRight_118_1P : List (Nat × List Nat × List Nat) := [(2, [3], []), (5, [], [6]), (7, [], [])]
abbrev pSRight_63_10E : List Nat := [0, 1, 2, 3]
abbrev pSRight_63_10P : List (Nat × List Nat × List Nat) := [(4, [0], [5]), (6, [], []), (8, [], [])]
abbrev pSRight_63_16E : List Nat := [0, 1, 2, 3]
abbrev pSRight_63_16P : List (Nat × List Nat × List Nat) := [(4, [1], [5]), (6, [], [7]), (8, [], [])]
attribute [go_sem] pSRight_118_1E pSRight_118_1P pSRight_63_10E pSRight_63_10P pSRight_63_16E pSRight_63_16P
theorem g_item (i : Nat) (l : List Int) (a : Int) (h : Hp) (hl : SOk l) (ha : 0 ≤ a ∧ a ≤ 900000000) :
    ACalls Tryz.prog 118 [.ref [.ptr i 0] 0] (h.st i l a) (fun r h' => ∃ t, LB 1 t ∧ r = .agg (encX t) ∧ h' = h.st i l (a + 2)) := by
  refine gE Tryz.func118 rfl (by kernel_rfl) 8 rfl fun c => ?_
  (repeat (first | refine gO (by decide) ?_ | ((first | refine gM (mdL [(1, 1)]) ?_ | (with_reducible refine wM ?_ ?_) | ((with_reducible refine xS ?_); refine uD 1 (mdL [(1, 1)]) pSRight_118_1E pSRight_118_1P 9 rfl (by kernel_rfl) ?_)) <;> ((try with_reducible intro K1 hK1); simp only [go_sem, ↓reduceIte, reduceCtorEq, nA, nB, nC, nD, nE, nF] <;> and_intros <;> first | (apply hK1; clear hK1 K1) | (intros; first | omega | decide | (simp_all <;> omega)) | skip))))
  refine (g_some i l a [⟨#[105, 97]⟩, ⟨#[105, 97]⟩, ⟨#[105, 98]⟩, ⟨#[105, 99]⟩, ⟨#[110, 97]⟩] none h hl (by omega) (by simp)).mono ?_; rintro _ _ ⟨x, hx, rfl, rfl⟩; apply hK1; clear hK1 K1
  (repeat (first | refine gO (by decide) ?_ | ((first | refine gM (mdL [(1, 1)]) ?_ | (with_reducible refine wM ?_ ?_) | ((with_reducible refine xS ?_); refine uD 1 (mdL [(1, 1)]) pSRight_118_1E pSRight_118_1P 9 rfl (by kernel_rfl) ?_)) <;> ((try with_reducible intro K1 hK1); simp only [go_sem, ↓reduceIte, reduceCtorEq, nA, nB, nC, nD, nE, nF] <;> and_intros <;> first | (apply hK1; clear hK1 K1) | (intros; first | omega | decide | (simp_all <;> omega)) | skip))))
  refine (g_pick i l (a + 1) [1000, 2000, 5000] none h hl (by omega) (by simp)).mono ?_; rintro _ _ ⟨y, hy, rfl, rfl⟩; apply hK1; clear hK1 K1
  (repeat (first | refine gO (by decide) ?_ | ((first | refine gM (mdL [(1, 1)]) ?_ | (with_reducible refine wM ?_ ?_) | ((with_reducible refine xS ?_); refine uD 1 (mdL [(1, 1)]) pSRight_118_1E pSRight_118_1P 9 rfl (by kernel_rfl) ?_)) <;> ((try with_reducible intro K1 hK1); simp only [go_sem, ↓reduceIte, reduceCtorEq, nA, nB, nC, nD, nE, nF] <;> and_intros <;> first | (apply hK1; clear hK1 K1) | (intros; first | omega | decide | (simp_all <;> omega)) | skip))))
  simp only [Tryz.results118, go_sem, ↓reduceIte, reduceCtorEq, nA, nB, nC, nD, nE, nF]
  refine ⟨_, _, Weak.refl _, Hp.le.refl _, .mk 1 x y 0 [] [], ?_, by rw [encX_eq]; rfl, by rw [show a + 1 + 1 = a + 2 by omega]⟩
  simp at hx hy
  refine ⟨by unfold NB; omega, ?_, by unfold NB; omega, by unfold NB; omega, by simp, by simp, by simp, by simp⟩
  rcases hx with rfl | rfl | rfl | rfl <;> decide
def costR : Nat → Int
  | 0 => 20
  | n + 1 => 20 + 3 * (costR n + 10)
def RightI (d : Nat) (deep : Int) (i : Nat) (l : List Int) (h : Hp) (kd mn many a' : Int) (k1 : Nat) (g : Nat) (s : St) : Prop :=
  ∃ (kids : List LT) (shares : List Int) (S : AV) (T2 : Nat → Option TO) (a2 : Int), (g : Int) + kids.length = many ∧ T2 k1 = some (.tail kids.length) ∧
    (kd = 4 ∧ (∃ k2, k2 ≠ k1 ∧ h.T k2 = none ∧ S = .row 1 (shares.map encI) (some k2) ∧ T2 k2 = some (.tail shares.length) ∧ shares.length = kids.length) ∨ kd ≠ 4 ∧ shares = [] ∧ S = .v (.slice none 0 0)) ∧
    (∀ k, h.T k ≠ none → T2 k = h.T k) ∧ (∀ t ∈ kids, LB (d + 1) t) ∧ (∀ x ∈ shares, NB x) ∧ (a' ≤ a2 ∧ a2 ≤ a' + kids.length * (costR d + 3)) ∧
    s = ⟨(AV.junk :: ((.v (.int .i64 deep)) :: (.ref [.ptr i 0] 0) :: AV.junk :: ((.loc 0 0) :: AV.junk :: ((.loc 1 0) :: (jnk 25 ((.v (.int .i64 many)) :: (.v (.int .i64 kids.length)) :: (jnk 42 []))))))),
      [[.v (.int .i64 0), .v (.string { data := #[] }), .v (.int .i64 0), .v (.int .i64 0), .v (.slice none 0 0), .v (.slice none 0 0)], [.v (.int .i64 kd), .v (.string { data := #[] }), .v (.int .i64 0), .v (.int .i64 mn), .row 6 (kids.map encX) (some k1), S]], Hp.st ⟨h.H, T2⟩ i l a2⟩
theorem g_right : ∀ (d : Nat) (deep : Int) (_ : deep ≤ d ∧ -10 ≤ deep ∧ d ≤ 100) (i : Nat) (l : List Int) (a : Int) (h : Hp) (_ : SOk l) (_ : 0 ≤ a ∧ a + costR d ≤ 900000000),
    ACalls Tryz.prog 63 [.ptr i 0, .v (.int .i64 deep)] (h.st i l a) (fun r h' => ∃ t a', LB (d + 1) t ∧ (a ≤ a' ∧ a' ≤ a + costR d) ∧ r = .agg (encX t) ∧ h' = h.st i l a')
  | 0, deep, hd, i, l, a, h, hl, ha => by
    have hc : costR 0 = 20 := rfl
    refine gE Tryz.func63 rfl (by kernel_rfl) 74 rfl fun c => ?_
    (repeat (first | refine gO (by decide) ?_ | ((first | refine gM (mdL [(4, 1), (6, 1), (8, 1)]) ?_ | (with_reducible refine wM ?_ ?_) | ((with_reducible refine xS ?_); refine uF 10 (mdL [(4, 1), (6, 1), (8, 1)]) 7 pSRight_63_10E pSRight_63_10P 76 rfl (by kernel_rfl) ?_) | ((with_reducible refine xR ?_); refine uE 16 (mdL [(4, 1), (6, 1), (8, 1)]) pSRight_63_16E pSRight_63_16P 76 rfl (by kernel_rfl) ?_)) <;> ((try with_reducible intro K1 hK1); simp only [go_sem, ↓reduceIte, reduceCtorEq, nA, nB, nC, nD, nE, nF] <;> and_intros <;> first | (apply hK1; clear hK1 K1) | (intros; first | omega | decide | (simp_all <;> omega)) | skip))))
    intro h1
    refine hK1 _ ?_; clear hK1 K1
    (repeat (first | refine gO (by decide) ?_ | ((first | refine gM (mdL [(4, 1), (6, 1), (8, 1)]) ?_ | (with_reducible refine wM ?_ ?_) | ((with_reducible refine xS ?_); refine uF 10 (mdL [(4, 1), (6, 1), (8, 1)]) 7 pSRight_63_10E pSRight_63_10P 76 rfl (by kernel_rfl) ?_) | ((with_reducible refine xR ?_); refine uE 16 (mdL [(4, 1), (6, 1), (8, 1)]) pSRight_63_16E pSRight_63_16P 76 rfl (by kernel_rfl) ?_)) <;> ((try with_reducible intro K1 hK1); simp only [go_sem, ↓reduceIte, reduceCtorEq, nA, nB, nC, nD, nE, nF, h1] <;> and_intros <;> first | (apply hK1; clear hK1 K1) | (intros; first | omega | decide | (simp_all <;> omega)) | skip))))
    refine awp_cond (t := _) rfl (fun _ => ?_) (fun h2 => by cases h2)
    (repeat (first | refine gO (by decide) ?_ | ((first | refine gM (mdL [(4, 1), (6, 1), (8, 1)]) ?_ | (with_reducible refine wM ?_ ?_) | ((with_reducible refine xS ?_); refine uF 10 (mdL [(4, 1), (6, 1), (8, 1)]) 7 pSRight_63_10E pSRight_63_10P 76 rfl (by kernel_rfl) ?_) | ((with_reducible refine xR ?_); refine uE 16 (mdL [(4, 1), (6, 1), (8, 1)]) pSRight_63_16E pSRight_63_16P 76 rfl (by kernel_rfl) ?_)) <;> ((try with_reducible intro K1 hK1); simp only [go_sem, ↓reduceIte, reduceCtorEq, nA, nB, nC, nD, nE, nF] <;> and_intros <;> first | (apply hK1; clear hK1 K1) | (intros; first | omega | decide | (simp_all <;> omega)) | skip))))
    refine (g_item i l a h hl (by omega)).mono ?_; rintro _ _ ⟨t, ht, rfl, rfl⟩; apply hK1; clear hK1 K1
    have hlen := encX_len t
    have htk : List.take 6 (encX t) = encX t := List.take_of_length_le (Nat.le_of_eq hlen)
    (repeat (first | refine gO (by decide) ?_ | ((first | refine gM (mdL [(4, 1), (6, 1), (8, 1)]) ?_ | (with_reducible refine wM ?_ ?_) | ((with_reducible refine xS ?_); refine uF 10 (mdL [(4, 1), (6, 1), (8, 1)]) 7 pSRight_63_10E pSRight_63_10P 76 rfl (by kernel_rfl) ?_) | ((with_reducible refine xR ?_); refine uE 16 (mdL [(4, 1), (6, 1), (8, 1)]) pSRight_63_16E pSRight_63_16P 76 rfl (by kernel_rfl) ?_)) <;> ((try with_reducible intro K1 hK1); simp only [go_sem, ↓reduceIte, reduceCtorEq, nA, nB, nC, nD, nE, nF, hlen] <;> and_intros <;> first | (apply hK1; clear hK1 K1) | (intros; first | omega | decide | (simp_all <;> omega)) | skip))))
    simp only [Tryz.results63, go_sem, ↓reduceIte, reduceCtorEq, nA, nB, nC, nD, nE, nF, hlen, htk]
    exact ⟨_, _, Weak.refl _, Hp.le.refl _, t, a + 2, ht, by omega, rfl, rfl⟩
  | d + 1, deep, hd, i, l, a, h, hl, ha => by
    have hc : costR (d + 1) = 20 + 3 * (costR d + 10) := rfl
    have hc0 : 20 ≤ costR d := by
      clear hc ha hd
      induction d with
      | zero => exact Int.le_refl _
      | succ n ih => show 20 ≤ 20 + 3 * (costR n + 10); omega
    refine gE Tryz.func63 rfl (by kernel_rfl) 74 rfl fun c => ?_
    (repeat (first | refine gO (by decide) ?_ | ((first | refine gM (mdL [(4, 1), (6, 1), (8, 1)]) ?_ | (with_reducible refine wM ?_ ?_) | ((with_reducible refine xS ?_); refine uF 10 (mdL [(4, 1), (6, 1), (8, 1)]) 7 pSRight_63_10E pSRight_63_10P 76 rfl (by kernel_rfl) ?_) | ((with_reducible refine xR ?_); refine uE 16 (mdL [(4, 1), (6, 1), (8, 1)]) pSRight_63_16E pSRight_63_16P 76 rfl (by kernel_rfl) ?_)) <;> ((try with_reducible intro K1 hK1); simp only [go_sem, ↓reduceIte, reduceCtorEq, nA, nB, nC, nD, nE, nF] <;> and_intros <;> first | (apply hK1; clear hK1 K1) | (intros; first | omega | decide | (simp_all <;> omega)) | skip))))
    rotate_left
    · intro h1
      refine hK1 _ ?_; clear hK1 K1
      (repeat (first | refine gO (by decide) ?_ | ((first | refine gM (mdL [(4, 1), (6, 1), (8, 1)]) ?_ | (with_reducible refine wM ?_ ?_) | ((with_reducible refine xS ?_); refine uF 10 (mdL [(4, 1), (6, 1), (8, 1)]) 7 pSRight_63_10E pSRight_63_10P 76 rfl (by kernel_rfl) ?_) | ((with_reducible refine xR ?_); refine uE 16 (mdL [(4, 1), (6, 1), (8, 1)]) pSRight_63_16E pSRight_63_16P 76 rfl (by kernel_rfl) ?_)) <;> ((try with_reducible intro K1 hK1); simp only [go_sem, ↓reduceIte, reduceCtorEq, nA, nB, nC, nD, nE, nF, h1] <;> and_intros <;> first | (apply hK1; clear hK1 K1) | (intros; first | omega | decide | (simp_all <;> omega)) | skip))))
      refine awp_cond (t := _) rfl (fun _ => ?_) (fun h2 => by cases h2)
      (repeat (first | refine gO (by decide) ?_ | ((first | refine gM (mdL [(4, 1), (6, 1), (8, 1)]) ?_ | (with_reducible refine wM ?_ ?_) | ((with_reducible refine xS ?_); refine uF 10 (mdL [(4, 1), (6, 1), (8, 1)]) 7 pSRight_63_10E pSRight_63_10P 76 rfl (by kernel_rfl) ?_) | ((with_reducible refine xR ?_); refine uE 16 (mdL [(4, 1), (6, 1), (8, 1)]) pSRight_63_16E pSRight_63_16P 76 rfl (by kernel_rfl) ?_)) <;> ((try with_reducible intro K1 hK1); simp only [go_sem, ↓reduceIte, reduceCtorEq, nA, nB, nC, nD, nE, nF] <;> and_intros <;> first | (apply hK1; clear hK1 K1) | (intros; first | omega | decide | (simp_all <;> omega)) | skip))))
      refine (g_item i l a h hl (by omega)).mono ?_; rintro _ _ ⟨t, ht, rfl, rfl⟩; apply hK1; clear hK1 K1
      have hlen := encX_len t
      have htk : List.take 6 (encX t) = encX t := List.take_of_length_le (Nat.le_of_eq hlen)
      (repeat (first | refine gO (by decide) ?_ | ((first | refine gM (mdL [(4, 1), (6, 1), (8, 1)]) ?_ | (with_reducible refine wM ?_ ?_) | ((with_reducible refine xS ?_); refine uF 10 (mdL [(4, 1), (6, 1), (8, 1)]) 7 pSRight_63_10E pSRight_63_10P 76 rfl (by kernel_rfl) ?_) | ((with_reducible refine xR ?_); refine uE 16 (mdL [(4, 1), (6, 1), (8, 1)]) pSRight_63_16E pSRight_63_16P 76 rfl (by kernel_rfl) ?_)) <;> ((try with_reducible intro K1 hK1); simp only [go_sem, ↓reduceIte, reduceCtorEq, nA, nB, nC, nD, nE, nF, hlen] <;> and_intros <;> first | (apply hK1; clear hK1 K1) | (intros; first | omega | decide | (simp_all <;> omega)) | skip))))
      simp only [Tryz.results63, go_sem, ↓reduceIte, reduceCtorEq, nA, nB, nC, nD, nE, nF, hlen, htk]
      exact ⟨_, _, Weak.refl _, Hp.le.refl _, t, a + 2, ht.mono (by omega), by omega, rfl, rfl⟩
    · intro h1
      refine ⟨h1, ?_⟩
      refine (g_flip i l a 5 h hl (by omega) (by omega)).mono ?_
      rintro _ _ ⟨b, rfl, rfl⟩
      refine ⟨rfl, hK1 _ ?_⟩; clear hK1 K1
      (repeat (first | refine gO (by decide) ?_ | ((first | refine gM (mdL [(4, 1), (6, 1), (8, 1)]) ?_ | (with_reducible refine wM ?_ ?_) | ((with_reducible refine xS ?_); refine uF 10 (mdL [(4, 1), (6, 1), (8, 1)]) 7 pSRight_63_10E pSRight_63_10P 76 rfl (by kernel_rfl) ?_) | ((with_reducible refine xR ?_); refine uE 16 (mdL [(4, 1), (6, 1), (8, 1)]) pSRight_63_16E pSRight_63_16P 76 rfl (by kernel_rfl) ?_)) <;> ((try with_reducible intro K1 hK1); simp only [go_sem, ↓reduceIte, reduceCtorEq, nA, nB, nC, nD, nE, nF, h1] <;> and_intros <;> first | (apply hK1; clear hK1 K1) | (intros; first | omega | decide | (simp_all <;> omega)) | skip))))
      refine awp_cond (t := _) rfl (fun _ => ?_) (fun h2 => ?_)
      · (repeat (first | refine gO (by decide) ?_ | ((first | refine gM (mdL [(4, 1), (6, 1), (8, 1)]) ?_ | (with_reducible refine wM ?_ ?_) | ((with_reducible refine xS ?_); refine uF 10 (mdL [(4, 1), (6, 1), (8, 1)]) 7 pSRight_63_10E pSRight_63_10P 76 rfl (by kernel_rfl) ?_) | ((with_reducible refine xR ?_); refine uE 16 (mdL [(4, 1), (6, 1), (8, 1)]) pSRight_63_16E pSRight_63_16P 76 rfl (by kernel_rfl) ?_)) <;> ((try with_reducible intro K1 hK1); simp only [go_sem, ↓reduceIte, reduceCtorEq, nA, nB, nC, nD, nE, nF] <;> and_intros <;> first | (apply hK1; clear hK1 K1) | (intros; first | omega | decide | (simp_all <;> omega)) | skip))))
        refine (g_item i l (a + 1) h hl (by omega)).mono ?_; rintro _ _ ⟨t, ht, rfl, rfl⟩; apply hK1; clear hK1 K1
        have hlen := encX_len t
        have htk : List.take 6 (encX t) = encX t := List.take_of_length_le (Nat.le_of_eq hlen)
        (repeat (first | refine gO (by decide) ?_ | ((first | refine gM (mdL [(4, 1), (6, 1), (8, 1)]) ?_ | (with_reducible refine wM ?_ ?_) | ((with_reducible refine xS ?_); refine uF 10 (mdL [(4, 1), (6, 1), (8, 1)]) 7 pSRight_63_10E pSRight_63_10P 76 rfl (by kernel_rfl) ?_) | ((with_reducible refine xR ?_); refine uE 16 (mdL [(4, 1), (6, 1), (8, 1)]) pSRight_63_16E pSRight_63_16P 76 rfl (by kernel_rfl) ?_)) <;> ((try with_reducible intro K1 hK1); simp only [go_sem, ↓reduceIte, reduceCtorEq, nA, nB, nC, nD, nE, nF, hlen] <;> and_intros <;> first | (apply hK1; clear hK1 K1) | (intros; first | omega | decide | (simp_all <;> omega)) | skip))))
        simp only [Tryz.results63, go_sem, ↓reduceIte, reduceCtorEq, nA, nB, nC, nD, nE, nF, hlen, htk]
        exact ⟨_, _, Weak.refl _, Hp.le.refl _, t, a + 1 + 2, ht.mono (by omega), by omega, rfl, rfl⟩
      · (repeat (first | refine gO (by decide) ?_ | ((first | refine gM (mdL [(4, 1), (6, 1), (8, 1)]) ?_ | (with_reducible refine wM ?_ ?_) | ((with_reducible refine xS ?_); refine uF 10 (mdL [(4, 1), (6, 1), (8, 1)]) 7 pSRight_63_10E pSRight_63_10P 76 rfl (by kernel_rfl) ?_) | ((with_reducible refine xR ?_); refine uE 16 (mdL [(4, 1), (6, 1), (8, 1)]) pSRight_63_16E pSRight_63_16P 76 rfl (by kernel_rfl) ?_)) <;> ((try with_reducible intro K1 hK1); simp only [go_sem, ↓reduceIte, reduceCtorEq, nA, nB, nC, nD, nE, nF] <;> and_intros <;> first | (apply hK1; clear hK1 K1) | (intros; first | omega | decide | (simp_all <;> omega)) | skip))))
        refine (g_pick i l (a + 1) [2, 2, 3, 4, 5] none h hl (by omega) (by simp)).mono ?_; rintro _ _ ⟨kd, hkd, rfl, rfl⟩; apply hK1; clear hK1 K1
        (repeat (first | refine gO (by decide) ?_ | ((first | refine gM (mdL [(4, 1), (6, 1), (8, 1)]) ?_ | (with_reducible refine wM ?_ ?_) | ((with_reducible refine xS ?_); refine uF 10 (mdL [(4, 1), (6, 1), (8, 1)]) 7 pSRight_63_10E pSRight_63_10P 76 rfl (by kernel_rfl) ?_) | ((with_reducible refine xR ?_); refine uE 16 (mdL [(4, 1), (6, 1), (8, 1)]) pSRight_63_16E pSRight_63_16P 76 rfl (by kernel_rfl) ?_)) <;> ((try with_reducible intro K1 hK1); simp only [go_sem, ↓reduceIte, reduceCtorEq, nA, nB, nC, nD, nE, nF] <;> and_intros <;> first | (apply hK1; clear hK1 K1) | (intros; first | omega | decide | (simp_all <;> omega)) | skip))))
        refine (g_range i l (a + 1 + 1) 1 3 h hl (by omega) (by omega) (by omega) (by omega)).mono ?_; rintro _ _ ⟨many, hmany, rfl, rfl⟩; apply hK1; clear hK1 K1
        (repeat (first | refine gO (by decide) ?_ | ((first | refine gM (mdL [(4, 1), (6, 1), (8, 1)]) ?_ | (with_reducible refine wM ?_ ?_) | ((with_reducible refine xS ?_); refine uF 10 (mdL [(4, 1), (6, 1), (8, 1)]) 7 pSRight_63_10E pSRight_63_10P 76 rfl (by kernel_rfl) ?_) | ((with_reducible refine xR ?_); refine uE 16 (mdL [(4, 1), (6, 1), (8, 1)]) pSRight_63_16E pSRight_63_16P 76 rfl (by kernel_rfl) ?_)) <;> ((try with_reducible intro K1 hK1); simp only [go_sem, ↓reduceIte, reduceCtorEq, nA, nB, nC, nD, nE, nF] <;> and_intros <;> first | (apply hK1; clear hK1 K1) | (intros; first | omega | decide | (simp_all <;> omega)) | skip))))
        have hk5 : 2 ≤ kd ∧ kd ≤ 5 := by simp at hkd; omega
        clear hkd
        refine awp_join (rl false [1, 2, 1, 1, 1, 2, 68]) 2 (fun s => ∃ mn many a' : Int, (0 ≤ mn ∧ mn ≤ 3) ∧ (1 ≤ many ∧ many ≤ 3) ∧ (a ≤ a' ∧ a' ≤ a + 4) ∧
          s = ⟨(AV.junk :: ((.v (.int .i64 deep)) :: (.ref [.ptr i 0] 0) :: AV.junk :: ((.loc 0 0) :: AV.junk :: ((.loc 1 0) :: (.v (.int .i64 many)) :: (jnk 68 []))))),
            [[.v (.int .i64 0), .v (.string { data := #[] }), .v (.int .i64 0), .v (.int .i64 0), .v (.slice none 0 0), .v (.slice none 0 0)], [.v (.int .i64 kd), .v (.string { data := #[] }), .v (.int .i64 0), .v (.int .i64 mn), .v (.slice none 0 0), .v (.slice none 0 0)]], h.st i l a'⟩) ?_ ?_
        · refine awp_cond (t := _) rfl (fun h5 => ?_) (fun h5 => ?_)
          · (repeat (first | refine gO (by decide) ?_ | ((first | refine gM (mdL [(4, 1), (6, 1), (8, 1)]) ?_ | (with_reducible refine wM ?_ ?_) | ((with_reducible refine xS ?_); refine uF 10 (mdL [(4, 1), (6, 1), (8, 1)]) 7 pSRight_63_10E pSRight_63_10P 76 rfl (by kernel_rfl) ?_) | ((with_reducible refine xR ?_); refine uE 16 (mdL [(4, 1), (6, 1), (8, 1)]) pSRight_63_16E pSRight_63_16P 76 rfl (by kernel_rfl) ?_)) <;> ((try with_reducible intro K1 hK1); simp only [go_sem, ↓reduceIte, reduceCtorEq, nA, nB, nC, nD, nE, nF] <;> and_intros <;> first | (apply hK1; clear hK1 K1) | (intros; first | omega | decide | (simp_all <;> omega)) | skip))))
            refine (g_pick i l (a + 1 + 1 + 1) [1, 2, 3] none h hl (by omega) (by simp)).mono ?_; rintro _ _ ⟨mn, hmn, rfl, rfl⟩; apply hK1; clear hK1 K1
            (repeat (first | refine gO (by decide) ?_ | ((first | refine gM (mdL [(4, 1), (6, 1), (8, 1)]) ?_ | (with_reducible refine wM ?_ ?_) | ((with_reducible refine xS ?_); refine uF 10 (mdL [(4, 1), (6, 1), (8, 1)]) 7 pSRight_63_10E pSRight_63_10P 76 rfl (by kernel_rfl) ?_) | ((with_reducible refine xR ?_); refine uE 16 (mdL [(4, 1), (6, 1), (8, 1)]) pSRight_63_16E pSRight_63_16P 76 rfl (by kernel_rfl) ?_)) <;> ((try with_reducible intro K1 hK1); simp only [go_sem, ↓reduceIte, reduceCtorEq, nA, nB, nC, nD, nE, nF] <;> and_intros <;> first | (apply hK1; clear hK1 K1) | (intros; first | omega | decide | (simp_all <;> omega)) | skip))))
            exact ⟨mn, 1, _, by simp at hmn; omega, by omega, by omega, rfl⟩
          · (repeat (first | refine gO (by decide) ?_ | ((first | refine gM (mdL [(4, 1), (6, 1), (8, 1)]) ?_ | (with_reducible refine wM ?_ ?_) | ((with_reducible refine xS ?_); refine uF 10 (mdL [(4, 1), (6, 1), (8, 1)]) 7 pSRight_63_10E pSRight_63_10P 76 rfl (by kernel_rfl) ?_) | ((with_reducible refine xR ?_); refine uE 16 (mdL [(4, 1), (6, 1), (8, 1)]) pSRight_63_16E pSRight_63_16P 76 rfl (by kernel_rfl) ?_)) <;> ((try with_reducible intro K1 hK1); simp only [go_sem, ↓reduceIte, reduceCtorEq, nA, nB, nC, nD, nE, nF] <;> and_intros <;> first | (apply hK1; clear hK1 K1) | (intros; first | omega | decide | (simp_all <;> omega)) | skip))))
            exact ⟨0, many, _, by omega, hmany, by omega, rfl⟩
        · rintro _ ⟨mn, many, a', hmn, hmany2, ha', rfl⟩
          refine awp_ownLoc 1 4 6 rfl rfl (fun k1 hk1 => ?_)
          simp only [List.set_cons_zero, List.set_cons_succ]
          refine awp_via (fun s => ∃ (S : AV) (T' : Nat → Option TO), T' k1 = some (.tail 0) ∧ (kd = 4 ∧ (∃ k2, k2 ≠ k1 ∧ h.T k2 = none ∧ S = .row 1 [] (some k2) ∧ T' k2 = some (.tail 0)) ∨ kd ≠ 4 ∧ S = .v (.slice none 0 0)) ∧ (∀ k, h.T k ≠ none → T' k = h.T k) ∧
            s = ⟨(AV.junk :: ((.v (.int .i64 deep)) :: (.ref [.ptr i 0] 0) :: AV.junk :: ((.loc 0 0) :: AV.junk :: ((.loc 1 0) :: (.v (.int .i64 many)) :: (jnk 68 []))))),
              [[.v (.int .i64 0), .v (.string { data := #[] }), .v (.int .i64 0), .v (.int .i64 0), .v (.slice none 0 0), .v (.slice none 0 0)], [.v (.int .i64 kd), .v (.string { data := #[] }), .v (.int .i64 0), .v (.int .i64 mn), .row 6 [] (some k1), S]], Hp.st ⟨h.H, T'⟩ i l a'⟩) ?_ ?_
          rotate_left
          · intro main
            by_cases h4 : kd = 4
            · refine awp_ownLoc 1 5 1 rfl rfl (fun k2 hk2 => ?_)
              simp only [List.set_cons_zero, List.set_cons_succ]
              have hne : k2 ≠ k1 := fun e => by subst e; simp [upd_same] at hk2
              simp only [upd_other _ _ hne] at hk2
              refine main _ ⟨_, upd (upd h.T k1 (some (.tail 0))) k2 (some (.tail 0)), by rw [upd_other _ _ hne.symm, upd_same], .inl ⟨h4, k2, hne, hk2, rfl, upd_same _ _ _⟩, fun k hk => ?_, rfl⟩
              have e1 : k ≠ k1 := fun e => hk (e ▸ hk1)
              have e2 : k ≠ k2 := fun e => hk (e ▸ hk2)
              rw [upd_other _ _ e2, upd_other _ _ e1]
            · refine main _ ⟨_, upd h.T k1 (some (.tail 0)), upd_same _ _ _, .inr ⟨h4, rfl⟩, fun k hk => ?_, rfl⟩
              have e1 : k ≠ k1 := fun e => hk (e ▸ hk1)
              rw [upd_other _ _ e1]
          · rintro _ ⟨S, T', hT1, hS, hTT, rfl⟩
            (repeat (first | refine gO (by decide) ?_ | ((first | refine gM (mdL [(4, 1), (6, 1), (8, 1)]) ?_ | (with_reducible refine wM ?_ ?_) | ((with_reducible refine xS ?_); refine uF 10 (mdL [(4, 1), (6, 1), (8, 1)]) 7 pSRight_63_10E pSRight_63_10P 76 rfl (by kernel_rfl) ?_) | ((with_reducible refine xR ?_); refine uE 16 (mdL [(4, 1), (6, 1), (8, 1)]) pSRight_63_16E pSRight_63_16P 76 rfl (by kernel_rfl) ?_)) <;> ((try with_reducible intro K1 hK1); simp only [go_sem, ↓reduceIte, reduceCtorEq, nA, nB, nC, nD, nE, nF] <;> and_intros <;> first | (apply hK1; clear hK1 K1) | (intros; first | omega | decide | (simp_all <;> omega)) | skip))))
            refine awp_loopC (rl false [1, 2, 1, 1, 1, 1, 25, 2, 42]) 2 (fun g s => RightI d deep i l h kd mn many a' k1 g s) many.toNat ⟨[], [], S, T', a', by simp; omega, hT1, by
              rcases hS with ⟨x1, k2, x2, x5, x3, x4⟩ | ⟨x1, x2⟩
              · exact .inl ⟨x1, k2, x2, x5, x3, x4, rfl⟩
              · exact .inr ⟨x1, rfl, x2⟩, hTT, by simp, by simp, by simp, rfl⟩ ?_
            rintro n _ ⟨kids, shares, S, T2, a2, hn, hT1, hS, hTT, hkl, hsb, ha2, rfl⟩
            have hkn : (kids.length : Int) ≤ 3 := by omega
            have hcd : (kids.length : Int) * (costR d + 3) ≤ 3 * (costR d + 3) := Int.mul_le_mul_of_nonneg_right hkn (by omega)
            (repeat (first | refine gO (by decide) ?_ | ((first | refine gM (mdL [(4, 1), (6, 1), (8, 1)]) ?_ | (with_reducible refine wM ?_ ?_) | ((with_reducible refine xS ?_); refine uF 10 (mdL [(4, 1), (6, 1), (8, 1)]) 7 pSRight_63_10E pSRight_63_10P 76 rfl (by kernel_rfl) ?_) | ((with_reducible refine xR ?_); refine uE 16 (mdL [(4, 1), (6, 1), (8, 1)]) pSRight_63_16E pSRight_63_16P 76 rfl (by kernel_rfl) ?_)) <;> ((try with_reducible intro K1 hK1); simp only [go_sem, ↓reduceIte, reduceCtorEq, nA, nB, nC, nD, nE, nF] <;> and_intros <;> first | (apply hK1; clear hK1 K1) | (intros; first | omega | decide | (simp_all <;> omega)) | skip))))
            refine awp_cond (t := _) rfl (fun h5 => ?_) (fun h5 => ?_)
            rotate_left
            · (repeat (first | refine gO (by decide) ?_ | ((first | refine gM (mdL [(4, 1), (6, 1), (8, 1)]) ?_ | (with_reducible refine wM ?_ ?_) | ((with_reducible refine xS ?_); refine uF 10 (mdL [(4, 1), (6, 1), (8, 1)]) 7 pSRight_63_10E pSRight_63_10P 76 rfl (by kernel_rfl) ?_) | ((with_reducible refine xR ?_); refine uE 16 (mdL [(4, 1), (6, 1), (8, 1)]) pSRight_63_16E pSRight_63_16P 76 rfl (by kernel_rfl) ?_)) <;> ((try with_reducible intro K1 hK1); simp only [go_sem, ↓reduceIte, reduceCtorEq, nA, nB, nC, nD, nE, nF] <;> and_intros <;> first | (apply hK1; clear hK1 K1) | (intros; first | omega | decide | (simp_all <;> omega)) | skip))))
              simp only [Tryz.results63, go_sem, ↓reduceIte, reduceCtorEq, nA, nB, nC, nD, nE, nF]
              have hkl2 : (kids.length : Int) = many := by simp only [decide_eq_false_iff_not] at h5; omega
              refine ⟨_, _, ?_, le_st hTT i l a2, .mk kd default 0 mn kids shares, a2, ?_, by omega, rfl, rfl⟩
              · rw [encX_eq]
                refine Weak.agg (.cons (Weak.refl _) (.cons (Weak.refl _) (.cons (Weak.refl _) (.cons (Weak.refl _) (.cons ?_ (.cons ?_ .nil))))))
                · cases kids with
                  | nil => simp at hkl2; omega
                  | cons x xs => exact Weak.row _ _ _
                · rcases hS with ⟨_, k2, _, _, rfl, _, h6⟩ | ⟨_, rfl, rfl⟩
                  · cases shares with
                    | nil => simp at h6; omega
                    | cons x xs => exact Weak.row _ _ _
                  · exact Weak.refl _
              · refine ⟨by unfold NB; omega, by decide, by unfold NB; omega, by unfold NB; omega, by omega, ?_, hsb, hkl⟩
                rcases hS with ⟨_, k2, _, _, rfl, _, h6⟩ | ⟨_, rfl, rfl⟩
                · omega
                · simp
            · simp only [decide_eq_true_eq] at h5
              have hcd2 : (kids.length : Int) * (costR d + 3) ≤ 2 * (costR d + 3) := Int.mul_le_mul_of_nonneg_right (by omega) (by omega)
              have hd1 : 1 ≤ deep := by simp only [decide_eq_false_iff_not] at h1; omega
              (repeat (first | refine gO (by decide) ?_ | ((first | refine gM (mdL [(4, 1), (6, 1), (8, 1)]) ?_ | (with_reducible refine wM ?_ ?_) | ((with_reducible refine xS ?_); refine uF 10 (mdL [(4, 1), (6, 1), (8, 1)]) 7 pSRight_63_10E pSRight_63_10P 76 rfl (by kernel_rfl) ?_) | ((with_reducible refine xR ?_); refine uE 16 (mdL [(4, 1), (6, 1), (8, 1)]) pSRight_63_16E pSRight_63_16P 76 rfl (by kernel_rfl) ?_)) <;> ((try with_reducible intro K1 hK1); simp only [go_sem, ↓reduceIte, reduceCtorEq, nA, nB, nC, nD, nE, nF] <;> and_intros <;> first | (apply hK1; clear hK1 K1) | (intros; first | omega | decide | (simp_all <;> omega)) | skip))))
              refine (g_pick i l a2 [1, 1, 2] none ⟨h.H, T2⟩ hl (by omega) (by simp)).mono ?_; rintro _ _ ⟨dx, hdx, rfl, rfl⟩; apply hK1; clear hK1 K1
              have hdx2 : 1 ≤ dx ∧ dx ≤ 2 := by simp at hdx; omega
              (repeat (first | refine gO (by decide) ?_ | ((first | refine gM (mdL [(4, 1), (6, 1), (8, 1)]) ?_ | (with_reducible refine wM ?_ ?_) | ((with_reducible refine xS ?_); refine uF 10 (mdL [(4, 1), (6, 1), (8, 1)]) 7 pSRight_63_10E pSRight_63_10P 76 rfl (by kernel_rfl) ?_) | ((with_reducible refine xR ?_); refine uE 16 (mdL [(4, 1), (6, 1), (8, 1)]) pSRight_63_16E pSRight_63_16P 76 rfl (by kernel_rfl) ?_)) <;> ((try with_reducible intro K1 hK1); simp only [go_sem, ↓reduceIte, reduceCtorEq, nA, nB, nC, nD, nE, nF] <;> and_intros <;> first | (apply hK1; clear hK1 K1) | (intros; first | omega | decide | (simp_all <;> omega)) | skip))))
              refine (g_right d (deep - dx) (by omega) i l (a2 + 1) ⟨h.H, T2⟩ hl (by omega)).mono ?_; rintro _ _ ⟨t, a3, ht, ha3, rfl, rfl⟩; apply hK1; clear hK1 K1
              have hlen := encX_len t
              (repeat (first | refine gQ (by decide) ?_ | ((first | refine gM (mdL [(4, 1), (6, 1), (8, 1)]) ?_ | (with_reducible refine wM ?_ ?_) | ((with_reducible refine xS ?_); refine uF 10 (mdL [(4, 1), (6, 1), (8, 1)]) 7 pSRight_63_10E pSRight_63_10P 76 rfl (by kernel_rfl) ?_) | ((with_reducible refine xR ?_); refine uE 16 (mdL [(4, 1), (6, 1), (8, 1)]) pSRight_63_16E pSRight_63_16P 76 rfl (by kernel_rfl) ?_)) <;> ((try with_reducible intro K1 hK1); simp only [go_sem, ↓reduceIte, reduceCtorEq, nA, nB, nC, nD, nE, nF, hlen] <;> and_intros <;> first | (apply hK1; clear hK1 K1) | (intros; first | omega | decide | (simp_all <;> omega)) | skip))))
              refine awp_seq ?_
              refine awp_join (rl false [1, 2, 1, 1, 1, 1, 1, 1, 23, 2, 42]) 3 (fun s => ∃ t a4, LB (d + 1) t ∧ (a2 ≤ a4 ∧ a4 ≤ a2 + costR d + 2) ∧
                s = ⟨(AV.junk :: ((.v (.int .i64 deep)) :: (.ref [.ptr i 0] 0) :: AV.junk :: ((.loc 0 0) :: AV.junk :: ((.loc 1 0) :: AV.junk :: ((.loc 2 0) :: (jnk 23 ((.v (.int .i64 many)) :: (.v (.int .i64 kids.length)) :: (jnk 42 [])))))))),
                  [[.v (.int .i64 0), .v (.string { data := #[] }), .v (.int .i64 0), .v (.int .i64 0), .v (.slice none 0 0), .v (.slice none 0 0)], [.v (.int .i64 kd), .v (.string { data := #[] }), .v (.int .i64 0), .v (.int .i64 mn), .row 6 (kids.map encX) (some k1), S], encX t], Hp.st ⟨h.H, T2⟩ i l a4⟩) ?_ ?_
              · (repeat (first | refine gO (by decide) ?_ | ((first | refine gM (mdL [(4, 1), (6, 1), (8, 1)]) ?_ | (with_reducible refine wM ?_ ?_) | ((with_reducible refine xS ?_); refine uF 10 (mdL [(4, 1), (6, 1), (8, 1)]) 7 pSRight_63_10E pSRight_63_10P 76 rfl (by kernel_rfl) ?_) | ((with_reducible refine xR ?_); refine uE 16 (mdL [(4, 1), (6, 1), (8, 1)]) pSRight_63_16E pSRight_63_16P 76 rfl (by kernel_rfl) ?_)) <;> ((try with_reducible intro K1 hK1); simp only [go_sem, ↓reduceIte, reduceCtorEq, nA, nB, nC, nD, nE, nF] <;> and_intros <;> first | (apply hK1; clear hK1 K1) | (intros; first | omega | decide | (simp_all <;> omega)) | skip))))
                rotate_left
                · intro h6
                  refine hK1 _ ?_; clear hK1 K1
                  (repeat (first | refine gO (by decide) ?_ | ((first | refine gM (mdL [(4, 1), (6, 1), (8, 1)]) ?_ | (with_reducible refine wM ?_ ?_) | ((with_reducible refine xS ?_); refine uF 10 (mdL [(4, 1), (6, 1), (8, 1)]) 7 pSRight_63_10E pSRight_63_10P 76 rfl (by kernel_rfl) ?_) | ((with_reducible refine xR ?_); refine uE 16 (mdL [(4, 1), (6, 1), (8, 1)]) pSRight_63_16E pSRight_63_16P 76 rfl (by kernel_rfl) ?_)) <;> ((try with_reducible intro K1 hK1); simp only [go_sem, ↓reduceIte, reduceCtorEq, nA, nB, nC, nD, nE, nF, h6] <;> and_intros <;> first | (apply hK1; clear hK1 K1) | (intros; first | omega | decide | (simp_all <;> omega)) | skip))))
                  refine awp_cond (t := _) rfl (fun h7 => by cases h7) (fun h7 => ?_)
                  (repeat (first | refine gO (by decide) ?_ | ((first | refine gM (mdL [(4, 1), (6, 1), (8, 1)]) ?_ | (with_reducible refine wM ?_ ?_) | ((with_reducible refine xS ?_); refine uF 10 (mdL [(4, 1), (6, 1), (8, 1)]) 7 pSRight_63_10E pSRight_63_10P 76 rfl (by kernel_rfl) ?_) | ((with_reducible refine xR ?_); refine uE 16 (mdL [(4, 1), (6, 1), (8, 1)]) pSRight_63_16E pSRight_63_16P 76 rfl (by kernel_rfl) ?_)) <;> ((try with_reducible intro K1 hK1); simp only [go_sem, ↓reduceIte, reduceCtorEq, nA, nB, nC, nD, nE, nF] <;> and_intros <;> first | (apply hK1; clear hK1 K1) | (intros; first | omega | decide | (simp_all <;> omega)) | skip))))
                  exact ⟨t, a3, ht, by omega, rfl⟩
                · intro h6
                  refine ⟨h6, ?_⟩
                  refine (g_flip i l a3 3 ⟨h.H, T2⟩ hl (by omega) (by omega)).mono ?_
                  rintro _ _ ⟨b2, rfl, rfl⟩
                  refine ⟨rfl, hK1 _ ?_⟩; clear hK1 K1
                  (repeat (first | refine gO (by decide) ?_ | ((first | refine gM (mdL [(4, 1), (6, 1), (8, 1)]) ?_ | (with_reducible refine wM ?_ ?_) | ((with_reducible refine xS ?_); refine uF 10 (mdL [(4, 1), (6, 1), (8, 1)]) 7 pSRight_63_10E pSRight_63_10P 76 rfl (by kernel_rfl) ?_) | ((with_reducible refine xR ?_); refine uE 16 (mdL [(4, 1), (6, 1), (8, 1)]) pSRight_63_16E pSRight_63_16P 76 rfl (by kernel_rfl) ?_)) <;> ((try with_reducible intro K1 hK1); simp only [go_sem, ↓reduceIte, reduceCtorEq, nA, nB, nC, nD, nE, nF, h6] <;> and_intros <;> first | (apply hK1; clear hK1 K1) | (intros; first | omega | decide | (simp_all <;> omega)) | skip))))
                  refine awp_cond (t := _) rfl (fun h7 => ?_) (fun h7 => ?_)
                  · simp only [decide_eq_true_eq] at h6
                    have hg : (kids.map encX).getD ((kids.length : Int) - 1).toNat [] = encX (kids.getD ((kids.length : Int) - 1).toNat default) := getD_encX (by omega)
                    have hm : kids.getD ((kids.length : Int) - 1).toNat default ∈ kids := by
                      rw [List.getD_eq_getElem?_getD, List.getElem?_eq_getElem (show ((kids.length : Int) - 1).toNat < kids.length by omega)]
                      exact List.getElem_mem _
                    generalize kids.getD ((kids.length : Int) - 1).toNat default = t2 at hg hm
                    have hlen2 := encX_len t2
                    have htk2 : List.take 6 (encX t2) = encX t2 := List.take_of_length_le (Nat.le_of_eq hlen2)
                    have hdr : List.drop 6 (encX t) = [] := List.drop_of_length_le (Nat.le_of_eq hlen)
                    (repeat (first | refine gO (by decide) ?_ | ((first | refine gM (mdL [(4, 1), (6, 1), (8, 1)]) ?_ | (with_reducible refine wM ?_ ?_) | ((with_reducible refine xS ?_); refine uF 10 (mdL [(4, 1), (6, 1), (8, 1)]) 7 pSRight_63_10E pSRight_63_10P 76 rfl (by kernel_rfl) ?_) | ((with_reducible refine xR ?_); refine uE 16 (mdL [(4, 1), (6, 1), (8, 1)]) pSRight_63_16E pSRight_63_16P 76 rfl (by kernel_rfl) ?_)) <;> ((try with_reducible intro K1 hK1); simp only [go_sem, ↓reduceIte, reduceCtorEq, nA, nB, nC, nD, nE, nF, hg, hlen, hlen2, htk2, hdr] <;> and_intros <;> first | (apply hK1; clear hK1 K1) | (intros; first | omega | decide | (simp_all <;> omega)) | skip))))
                    exact ⟨t2, a3 + 1, hkl _ hm, by omega, rfl⟩
                  · (repeat (first | refine gO (by decide) ?_ | ((first | refine gM (mdL [(4, 1), (6, 1), (8, 1)]) ?_ | (with_reducible refine wM ?_ ?_) | ((with_reducible refine xS ?_); refine uF 10 (mdL [(4, 1), (6, 1), (8, 1)]) 7 pSRight_63_10E pSRight_63_10P 76 rfl (by kernel_rfl) ?_) | ((with_reducible refine xR ?_); refine uE 16 (mdL [(4, 1), (6, 1), (8, 1)]) pSRight_63_16E pSRight_63_16P 76 rfl (by kernel_rfl) ?_)) <;> ((try with_reducible intro K1 hK1); simp only [go_sem, ↓reduceIte, reduceCtorEq, nA, nB, nC, nD, nE, nF] <;> and_intros <;> first | (apply hK1; clear hK1 K1) | (intros; first | omega | decide | (simp_all <;> omega)) | skip))))
                    exact ⟨t, a3 + 1, ht, by omega, rfl⟩
              · clear ht ha3 hlen t a3
                rintro _ ⟨t, a4, ht, ha4, rfl⟩
                have hlen := encX_len t
                have htk : List.take 6 (encX t) = encX t := List.take_of_length_le (Nat.le_of_eq hlen)
                (repeat (first | refine gO (by decide) ?_ | ((first | refine gM (mdL [(4, 1), (6, 1), (8, 1)]) ?_ | (with_reducible refine wM ?_ ?_) | ((with_reducible refine xS ?_); refine uF 10 (mdL [(4, 1), (6, 1), (8, 1)]) 7 pSRight_63_10E pSRight_63_10P 76 rfl (by kernel_rfl) ?_) | ((with_reducible refine xR ?_); refine uE 16 (mdL [(4, 1), (6, 1), (8, 1)]) pSRight_63_16E pSRight_63_16P 76 rfl (by kernel_rfl) ?_)) <;> ((try with_reducible intro K1 hK1); simp only [go_sem, ↓reduceIte, reduceCtorEq, nA, nB, nC, nD, nE, nF, hlen, htk, hT1, st_T] <;> and_intros <;> first | (apply hK1; clear hK1 K1) | (intros; first | omega | decide | (simp_all <;> omega)) | skip))))
                rcases hS with ⟨h4, k2, hne, hk2, rfl, hT3, hsl⟩ | ⟨h4, rfl, rfl⟩
                · refine awp_cond (t := _) rfl (fun _ => ?_) (fun h7 => absurd h4 (by simpa using h7))
                  have hT4 : upd T2 k1 (some (.tail (kids.length + 1))) k2 = some (.tail shares.length) := by rw [upd_other _ _ hne]; exact hT3
                  (repeat (first | refine gO (by decide) ?_ | ((first | refine gM (mdL [(4, 1), (6, 1), (8, 1)]) ?_ | (with_reducible refine wM ?_ ?_) | ((with_reducible refine xS ?_); refine uF 10 (mdL [(4, 1), (6, 1), (8, 1)]) 7 pSRight_63_10E pSRight_63_10P 76 rfl (by kernel_rfl) ?_) | ((with_reducible refine xR ?_); refine uE 16 (mdL [(4, 1), (6, 1), (8, 1)]) pSRight_63_16E pSRight_63_16P 76 rfl (by kernel_rfl) ?_)) <;> ((try with_reducible intro K1 hK1); simp only [go_sem, ↓reduceIte, reduceCtorEq, nA, nB, nC, nD, nE, nF, hT4, st_T] <;> and_intros <;> first | (apply hK1; clear hK1 K1) | (intros; first | omega | decide | (simp_all <;> omega)) | skip))))
                  refine (g_pick i l a4 [1, 1, 2, 3, 4] none ⟨h.H, upd T2 k1 (some (.tail (kids.length + 1)))⟩ hl (by omega) (by simp)).mono ?_; rintro _ _ ⟨sx, hsx, rfl, rfl⟩; apply hK1; clear hK1 K1
                  (repeat (first | refine gO (by decide) ?_ | ((first | refine gM (mdL [(4, 1), (6, 1), (8, 1)]) ?_ | (with_reducible refine wM ?_ ?_) | ((with_reducible refine xS ?_); refine uF 10 (mdL [(4, 1), (6, 1), (8, 1)]) 7 pSRight_63_10E pSRight_63_10P 76 rfl (by kernel_rfl) ?_) | ((with_reducible refine xR ?_); refine uE 16 (mdL [(4, 1), (6, 1), (8, 1)]) pSRight_63_16E pSRight_63_16P 76 rfl (by kernel_rfl) ?_)) <;> ((try with_reducible intro K1 hK1); simp only [go_sem, ↓reduceIte, reduceCtorEq, nA, nB, nC, nD, nE, nF, hT4, st_T, encI] <;> and_intros <;> first | (apply hK1; clear hK1 K1) | (intros; first | omega | decide | (simp_all <;> omega)) | skip))))
                  refine ⟨n - 1, by omega, kids ++ [t], shares ++ [sx], _, upd (upd T2 k1 (some (.tail (kids.length + 1)))) k2 (some (.tail (shares.length + 1))), a4 + 1, by simp; omega, by rw [upd_other _ _ hne.symm, upd_same]; simp, .inl ⟨h4, k2, hne, hk2, by simp [encI]; rfl, by rw [upd_same]; simp, by simp; omega⟩, ?_, ?_, ?_, ?_, ?_⟩
                  · intro k hk
                    have e1 : k ≠ k1 := fun e => hk (e ▸ hk1)
                    by_cases e2 : k = k2
                    · subst e2; exact absurd hk2 hk
                    · rw [upd_other _ _ e2, upd_other _ _ e1]; exact hTT k hk
                  · intro x hx
                    rcases List.mem_append.1 hx with hx | hx
                    · exact hkl x hx
                    · simp at hx; subst hx; exact ht
                  · intro x hx
                    rcases List.mem_append.1 hx with hx | hx
                    · exact hsb x hx
                    · simp at hx hsx; subst hx; unfold NB; omega
                  · have e9 : ((kids ++ [t]).length : Int) * (costR d + 3) = kids.length * (costR d + 3) + (costR d + 3) := by simp [Int.add_mul]
                    rw [e9]; omega
                  · simp; rfl
                · refine awp_cond (t := _) rfl (fun h7 => absurd (by simpa using h7) h4) (fun _ => ?_)
                  (repeat (first | refine gO (by decide) ?_ | ((first | refine gM (mdL [(4, 1), (6, 1), (8, 1)]) ?_ | (with_reducible refine wM ?_ ?_) | ((with_reducible refine xS ?_); refine uF 10 (mdL [(4, 1), (6, 1), (8, 1)]) 7 pSRight_63_10E pSRight_63_10P 76 rfl (by kernel_rfl) ?_) | ((with_reducible refine xR ?_); refine uE 16 (mdL [(4, 1), (6, 1), (8, 1)]) pSRight_63_16E pSRight_63_16P 76 rfl (by kernel_rfl) ?_)) <;> ((try with_reducible intro K1 hK1); simp only [go_sem, ↓reduceIte, reduceCtorEq, nA, nB, nC, nD, nE, nF] <;> and_intros <;> first | (apply hK1; clear hK1 K1) | (intros; first | omega | decide | (simp_all <;> omega)) | skip))))
                  refine ⟨n - 1, by omega, kids ++ [t], [], _, upd T2 k1 (some (.tail (kids.length + 1))), a4, by simp; omega, by rw [upd_same]; simp, .inr ⟨h4, rfl, rfl⟩, ?_, ?_, ?_, ?_, ?_⟩
                  · intro k hk
                    have e1 : k ≠ k1 := fun e => hk (e ▸ hk1)
                    rw [upd_other _ _ e1]; exact hTT k hk
                  · intro x hx
                    rcases List.mem_append.1 hx with hx | hx
                    · exact hkl x hx
                    · simp at hx; subst hx; exact ht
                  · simp
                  · have e9 : ((kids ++ [t]).length : Int) * (costR d + 3) = kids.length * (costR d + 3) + (costR d + 3) := by simp [Int.add_mul]
                    rw [e9]; omega
                  · simp; rfl
abbrev pSLoop_8_17E : List Nat := [0, 1, 2, 3, 4, 5, 6]
abbrev pSLoop_8_17P : List (Nat × List Nat × List Nat) := [(7, [4], [8]), (9, [], [10, 11]), (12, [], [])]
attribute [go_sem] pSLoop_8_17E pSLoop_8_17P
theorem st_obj {h : Hp} {i o : Nat} (hio : o ≠ i) (l : List Int) (a : Int) (x : AO) (T1 : Nat → Option TO) : ({ H := upd (h.st i l a).H o (some x), T := T1 } : Hp) = Hp.st ⟨upd h.H o (some x), T1⟩ i l a := by
  simp only [Hp.st]
  congr 1
  funext j
  by_cases hj : j = o
  · subst hj; rw [upd_same, upd_other _ _ hio, upd_same]
  · by_cases hji : j = i
    · subst hji; rw [upd_other _ _ hj, upd_same, upd_same]
    · rw [upd_other _ _ hj, upd_other _ _ hji, upd_other _ _ hji, upd_other _ _ hj]
theorem st_obj2 {h : Hp} {i o : Nat} (hio : o ≠ i) (l : List Int) (b : Int) (X : Option AO) (Y : AO) (T1 T2 : Nat → Option TO) : ({ H := upd (Hp.st ⟨upd h.H o X, T1⟩ i l b).H o (some Y), T := T2 } : Hp) = Hp.st ⟨upd h.H o (some Y), T2⟩ i l b := by
  rw [st_obj hio]; simp only [upd_upd]
theorem st_mk3 {s : St} {sl : List AV} {lo : List (List AV)} {h : Hp} (h1 : s.sl = sl) (h2 : s.lo = lo) (h3 : s.h = h) : s = ⟨sl, lo, h⟩ := by cases s; simp_all
section
variable {b : Bool} {T : Nat → Option TO} {S : Nat → Prop} {e : Nat} {k i l m K Sh : AV}
theorem OLd.kind {r : List AV} (h : OLd b T S e (k :: r)) {k' : Int} (hk : NB k') : OLd b T S e (.v (.int .i64 k') :: r) := by
  cases e with
  | zero => exact h.elim
  | succ e =>
    obtain ⟨kind, item, long, many, K, Sh, he, ⟨h0, h1, h2, h3⟩, h4, h5⟩ := h
    cases he
    exact ⟨_, _, _, _, _, _, rfl, ⟨hk, h1, h2, h3⟩, h4, h5⟩
theorem OLd.il (h : OLd b T S e [k, i, l, m, K, Sh]) {i' : ByteArray} {l' : Int} (hi : i'.size ≤ 2) (hk : NB l') : OLd b T S e [k, .v (.string i'), .v (.int .i64 l'), m, K, Sh] := by
  cases e with
  | zero => exact h.elim
  | succ e =>
    obtain ⟨kind, item, long, many, K, Sh, he, ⟨h0, h1, h2, h3⟩, h4, h5⟩ := h
    cases he
    exact ⟨_, _, _, _, _, _, rfl, ⟨h0, hi, hk, h3⟩, h4, h5⟩
theorem OLd.many (h : OLd b T S e [k, i, l, m, K, Sh]) {l' : Int} (hk : NB l') : OLd b T S e [k, i, l, .v (.int .i64 l'), K, Sh] := by
  cases e with
  | zero => exact h.elim
  | succ e =>
    obtain ⟨kind, item, long, many, K, Sh, he, ⟨h0, h1, h2, h3⟩, h4, h5⟩ := h
    cases he
    exact ⟨_, _, _, _, _, _, rfl, ⟨h0, h1, h2, hk⟩, h4, h5⟩
theorem OLd.nokids (h : OLd b T S e [k, i, l, m, K, Sh]) : OLd b T S e [k, i, l, m, .v (.slice none 0 0), Sh] := by
  cases e with
  | zero => exact h.elim
  | succ e =>
    obtain ⟨kind, item, long, many, K, Sh, he, h3, h4, h5⟩ := h
    cases he
    exact ⟨_, _, _, _, _, _, rfl, h3, .inl rfl, h5⟩
theorem OLd.share (h : OLd false T S e [k, i, l, m, K, Sh]) {xs : List Int} {q : Nat} (hx : xs.length ≤ 5) (hb : ∀ x ∈ xs, NB x) : OLd false T S e [k, i, l, m, K, .row 1 (xs.map encI) (some q)] := by
  cases e with
  | zero => exact h.elim
  | succ e =>
    obtain ⟨kind, item, long, many, K, Sh, he, h3, h4, h5⟩ := h
    cases he
    exact ⟨_, _, _, _, _, _, rfl, h3, h4, .inr ⟨xs, q, rfl, hx, hb, fun h => by cases h⟩⟩
theorem OLd.wrap {cs : List AV} (h : OLd false T S e cs) {k' m' : Int} (hk : NB k') (hm : NB m') : OLd false T S (e + 1) [.v (.int .i64 k'), .v (.string { data := #[] }), .v (.int .i64 0), .v (.int .i64 m'), .row 6 [cs] none, .v (.slice none 0 0)] :=
  ⟨_, _, _, _, _, _, rfl, ⟨hk, by decide, by unfold NB; omega, hm⟩, .inr (.inr ⟨rfl, _, rfl, by simp, by simpa using h⟩), .inl rfl⟩
end
def LoopJ (i o : Nat) (l : List Int) (a b : Int) (h : Hp) (bb : Bool) (d : Nat) (s : St) : Prop :=
  ∃ cs T' a', OLd bb T' (fun k => h.T k = none) d cs ∧ (∀ k, h.T k ≠ none → T' k = h.T k) ∧ (a ≤ a' ∧ a' ≤ b) ∧
    s = ⟨((.ptr i 0) :: (jnk 3 ((.loc 0 0) :: (.ptr o 0) :: (jnk 77 [])))), [[.v (.int .i64 0), .v (.string { data := #[] }), .v (.int .i64 0), .v (.int .i64 0), .v (.slice none 0 0), .v (.slice none 0 0)]], Hp.st ⟨upd h.H o (some (.cells cs)), T'⟩ i l a'⟩
theorem g_Loop0 (d : Nat) (deep : Int) (hd : deep ≤ d ∧ -10 ≤ deep ∧ d ≤ 100) (i : Nat) (l : List Int) (a : Int) (h : Hp) (hl : SOk l) (ha : 0 ≤ a ∧ a + costR d + 2 * d + 40 ≤ 900000000) :
    ACalls Tryz.prog 8 [.ptr i 0, .v (.int .i64 deep)] (h.st i l a) (fun r h' => ∃ cs T' a', OLd false T' (fun k => h.T k = none) (d + 20) cs ∧ (∀ k, h.T k ≠ none → T' k = h.T k) ∧ (a ≤ a' ∧ a' ≤ a + costR d + 2 * d + 40) ∧ r = .agg cs ∧ h' = Hp.st ⟨h.H, T'⟩ i l a') := by
  refine gE Tryz.func8 rfl (by kernel_rfl) 81 rfl fun c => ?_
  (repeat (first | refine gO (by decide) ?_ | ((first | refine gM (mdL [(4, 1), (5, 2), (7, 1), (8, 1)]) ?_ | (with_reducible refine wM ?_ ?_) | ((with_reducible refine xR ?_); refine uE 17 (mdL [(4, 1), (5, 2), (7, 1), (8, 1)]) pSLoop_8_17E pSLoop_8_17P 83 rfl (by kernel_rfl) ?_)) <;> ((try with_reducible intro K1 hK1); simp only [go_sem, ↓reduceIte, reduceCtorEq, nA, nB, nC, nD, nE, nF] <;> and_intros <;> first | (apply hK1; clear hK1 K1) | (intros; first | omega | decide | (simp_all <;> omega)) | skip))))
  refine (g_right d deep hd i l a h hl (by omega)).mono ?_; rintro _ _ ⟨t, a1, ht, ha1, rfl, rfl⟩; apply hK1; clear hK1 K1
  (repeat (first | refine gO (by decide) ?_ | ((first | refine gM (mdL [(4, 1), (5, 2), (7, 1), (8, 1)]) ?_ | (with_reducible refine wM ?_ ?_) | ((with_reducible refine xR ?_); refine uE 17 (mdL [(4, 1), (5, 2), (7, 1), (8, 1)]) pSLoop_8_17E pSLoop_8_17P 83 rfl (by kernel_rfl) ?_)) <;> ((try with_reducible intro K1 hK1); simp only [go_sem, ↓reduceIte, reduceCtorEq, nA, nB, nC, nD, nE, nF] <;> and_intros <;> first | (apply hK1; clear hK1 K1) | (intros; first | omega | decide | (simp_all <;> omega)) | skip))))
  refine (g_copied (d + 1) t (h.st i l a1) ht).mono ?_
  rintro _ _ ⟨cs, T1, hcs, hT1, rfl, rfl⟩
  refine hK1 _ ?_; clear hK1 K1
  have hcsl := hcs.len
  have htk : List.take 6 cs = cs := List.take_of_length_le (Nat.le_of_eq hcsl)
  have hdr : List.drop 6 cs = [] := List.drop_of_length_le (Nat.le_of_eq hcsl)
  (repeat (first | refine gQ (by decide) ?_ | ((first | refine gM (mdL [(4, 1), (5, 2), (7, 1), (8, 1)]) ?_ | (with_reducible refine wM ?_ ?_) | ((with_reducible refine xR ?_); refine uE 17 (mdL [(4, 1), (5, 2), (7, 1), (8, 1)]) pSLoop_8_17E pSLoop_8_17P 83 rfl (by kernel_rfl) ?_)) <;> ((try with_reducible intro K1 hK1); simp only [go_sem, ↓reduceIte, reduceCtorEq, nA, nB, nC, nD, nE, nF, hcsl, htk, hdr] <;> and_intros <;> first | (apply hK1; clear hK1 K1) | (intros; first | omega | decide | (simp_all <;> omega)) | skip))))
  intro o ho
  have hio : o ≠ i := fun e => by subst e; rw [st_at] at ho; cases ho
  and_intros <;> first | (refine hK1 _ ?_; clear hK1 K1) | exact .inl trivial | exact .inr rfl | exact .inr True.intro | exact True.intro | omega
  rw [st_obj hio]
  replace hcs : OLd true T1 (fun k => h.T k = none) (d + 1) cs := hcs
  replace hT1 : ∀ k, h.T k ≠ none → T1 k = h.T k := hT1
  (repeat (first | refine gQ (by decide) ?_ | ((first | refine gM (mdL [(4, 1), (5, 2), (7, 1), (8, 1)]) ?_ | (with_reducible refine wM ?_ ?_) | ((with_reducible refine xR ?_); refine uE 17 (mdL [(4, 1), (5, 2), (7, 1), (8, 1)]) pSLoop_8_17E pSLoop_8_17P 83 rfl (by kernel_rfl) ?_)) <;> ((try with_reducible intro K1 hK1); simp only [go_sem, ↓reduceIte, reduceCtorEq, nA, nB, nC, nD, nE, nF] <;> and_intros <;> first | (apply hK1; clear hK1 K1) | (intros; first | omega | decide | (simp_all <;> omega)) | skip))))
  refine awp_seq ?_
  refine awp_join (rl false [0, 1, 3, 2, 77]) 1 (fun s => LoopJ i o l a (a + costR d + 2 * d + 40) h false (d + 20) s) ?_ ?_
  rotate_left
  · rintro _ ⟨cs, T', a', hcs, hT', ha', rfl⟩
    have hcsl := hcs.len
    have htk : List.take 6 cs = cs := List.take_of_length_le (Nat.le_of_eq hcsl)
    have hdr : List.drop 6 cs = [] := List.drop_of_length_le (Nat.le_of_eq hcsl)
    have hH : (Hp.st ⟨upd h.H o (some (.cells cs)), T'⟩ i l a').H o = some (.cells cs) := by simp only [Hp.st, upd_other _ _ hio, upd_same]
    (repeat (first | refine gO (by decide) ?_ | ((first | refine gM (mdL [(4, 1), (5, 2), (7, 1), (8, 1)]) ?_ | (with_reducible refine wM ?_ ?_) | ((with_reducible refine xR ?_); refine uE 17 (mdL [(4, 1), (5, 2), (7, 1), (8, 1)]) pSLoop_8_17E pSLoop_8_17P 83 rfl (by kernel_rfl) ?_)) <;> ((try with_reducible intro K1 hK1); simp only [go_sem, ↓reduceIte, reduceCtorEq, nA, nB, nC, nD, nE, nF, hcsl, htk, hdr, hH] <;> and_intros <;> first | (apply hK1; clear hK1 K1) | (intros; first | omega | decide | (simp_all <;> omega)) | skip))))
    simp only [Tryz.results8, go_sem, ↓reduceIte, reduceCtorEq, nA, nB, nC, nD, nE, nF, hcsl, htk, hdr]
    refine ⟨_, Hp.st ⟨h.H, T'⟩ i l a', Weak.refl _, ⟨fun j => ?_, fun k => .inr rfl⟩, cs, T', a', hcs, hT', ha', rfl, rfl⟩
    simp only [Hp.st] at ho ⊢
    rw [upd_other _ _ hio] at ho
    by_cases hj : j = i
    · subst hj; exact .inr (by rw [upd_same, upd_same])
    · by_cases hjo : j = o
      · subst hjo; exact .inl (by rw [upd_other _ _ hj]; exact ho)
      · exact .inr (by rw [upd_other _ _ hj, upd_other _ _ hj, upd_other _ _ hjo])
  · (repeat (first | refine gO (by decide) ?_ | ((first | refine gM (mdL [(4, 1), (5, 2), (7, 1), (8, 1)]) ?_ | (with_reducible refine wM ?_ ?_) | ((with_reducible refine xR ?_); refine uE 17 (mdL [(4, 1), (5, 2), (7, 1), (8, 1)]) pSLoop_8_17E pSLoop_8_17P 83 rfl (by kernel_rfl) ?_)) <;> ((try with_reducible intro K1 hK1); simp only [go_sem, ↓reduceIte, reduceCtorEq, nA, nB, nC, nD, nE, nF] <;> and_intros <;> first | (apply hK1; clear hK1 K1) | (intros; first | omega | decide | (simp_all <;> omega)) | skip))))
    refine (g_flip i l a1 10 ⟨upd h.H o (some (.cells cs)), T1⟩ hl (by omega) (by omega)).mono ?_; rintro _ _ ⟨b, rfl, rfl⟩; apply hK1; clear hK1 K1
    (repeat (first | refine gO (by decide) ?_ | ((first | refine gM (mdL [(4, 1), (5, 2), (7, 1), (8, 1)]) ?_ | (with_reducible refine wM ?_ ?_) | ((with_reducible refine xR ?_); refine uE 17 (mdL [(4, 1), (5, 2), (7, 1), (8, 1)]) pSLoop_8_17E pSLoop_8_17P 83 rfl (by kernel_rfl) ?_)) <;> ((try with_reducible intro K1 hK1); simp only [go_sem, ↓reduceIte, reduceCtorEq, nA, nB, nC, nD, nE, nF] <;> and_intros <;> first | (apply hK1; clear hK1 K1) | (intros; first | omega | decide | (simp_all <;> omega)) | skip))))
    refine awp_cond (t := _) rfl (fun hb => ?_) (fun hb => ?_)
    rotate_left
    · (repeat (first | refine gO (by decide) ?_ | ((first | refine gM (mdL [(4, 1), (5, 2), (7, 1), (8, 1)]) ?_ | (with_reducible refine wM ?_ ?_) | ((with_reducible refine xR ?_); refine uE 17 (mdL [(4, 1), (5, 2), (7, 1), (8, 1)]) pSLoop_8_17E pSLoop_8_17P 83 rfl (by kernel_rfl) ?_)) <;> ((try with_reducible intro K1 hK1); simp only [go_sem, ↓reduceIte, reduceCtorEq, nA, nB, nC, nD, nE, nF] <;> and_intros <;> first | (apply hK1; clear hK1 K1) | (intros; first | omega | decide | (simp_all <;> omega)) | skip))))
      exact ⟨cs, T1, a1 + 1, hcs.weaken.up (by omega), hT1, by omega, rfl⟩
    · (repeat (first | refine gO (by decide) ?_ | ((first | refine gM (mdL [(4, 1), (5, 2), (7, 1), (8, 1)]) ?_ | (with_reducible refine wM ?_ ?_) | ((with_reducible refine xR ?_); refine uE 17 (mdL [(4, 1), (5, 2), (7, 1), (8, 1)]) pSLoop_8_17E pSLoop_8_17P 83 rfl (by kernel_rfl) ?_)) <;> ((try with_reducible intro K1 hK1); simp only [go_sem, ↓reduceIte, reduceCtorEq, nA, nB, nC, nD, nE, nF] <;> and_intros <;> first | (apply hK1; clear hK1 K1) | (intros; first | omega | decide | (simp_all <;> omega)) | skip))))
      refine (g_inner i o l (a1 + 1) ⟨upd h.H o (some (.cells cs)), T1⟩ hl (fun k => h.T k = none) (d + 1) cs (by omega) hio (upd_same _ _ _) hcs).mono ?_
      rintro p _ ⟨cs2, e, a2, ha2, hp, hcs2, rfl⟩
      have o3 : OneV p := by rcases hp with ⟨rfl, _⟩ | ⟨q, css, j, _, _, _, rfl, _⟩ <;> exact ⟨rfl, rfl, rfl, rfl, rfl⟩
      obtain ⟨w1, w2, w3, w4, w5⟩ := o3
      unfold uside at w1; unfold unw at w2; unfold AV.noLoc at w3; unfold isOpt at w4; simp only [AV.cellsB, Value.oneCell'] at w5
      refine hK1 _ ?_; clear hK1 K1
      (repeat (first | refine gO (by decide) ?_ | ((first | refine gM (mdL [(4, 1), (5, 2), (7, 1), (8, 1)]) ?_ | (with_reducible refine wM ?_ ?_) | ((with_reducible refine xR ?_); refine uE 17 (mdL [(4, 1), (5, 2), (7, 1), (8, 1)]) pSLoop_8_17E pSLoop_8_17P 83 rfl (by kernel_rfl) ?_)) <;> ((try with_reducible intro K1 hK1); simp only [go_sem, ↓reduceIte, reduceCtorEq, nA, nB, nC, nD, nE, nF, w1, w2, w3, w4, w5] <;> and_intros <;> first | (apply hK1; clear hK1 K1) | (intros; first | omega | decide | (simp_all <;> omega)) | skip))))
      refine (g_next i l a2 7 ⟨upd h.H o (some (.cells cs)), T1⟩ hl (by omega) (by omega)).mono ?_; rintro _ _ ⟨x, hx, rfl, rfl⟩; apply hK1; clear hK1 K1
      obtain ⟨k, it, lo, mn, K, Sh, rfl⟩ : ∃ k it lo mn K Sh, cs2 = [k, it, lo, mn, K, Sh] := by
        cases e with
        | zero => exact hcs2.elim
        | succ e => obtain ⟨_, _, _, _, _, _, rfl, _⟩ := id hcs2; exact ⟨_, _, _, _, _, _, rfl⟩
      have hH : [k, it, lo, mn, K, Sh] = cs → ∀ b, (Hp.st ⟨upd h.H o (some (.cells cs)), T1⟩ i l b).H o = some (.cells [k, it, lo, mn, K, Sh]) := fun he b => by rw [he]; simp only [Hp.st, upd_other _ _ hio, upd_same]
      have hO : [k, it, lo, mn, K, Sh] = cs → OLd true T1 (fun k => h.T k = none) (d + 1) [k, it, lo, mn, K, Sh] := fun he => by rw [he]; exact hcs
      replace hcs2 : OLd true T1 (fun k => h.T k = none) e [k, it, lo, mn, K, Sh] := hcs2
      have hgs : ∀ (css : List (List AV)) (j : Nat), j < css.length → ∀ c, (css.set j c).getD j [] = c := fun css j hj c => by rw [List.getD_eq_getElem?_getD, List.getElem?_set_self hj]; rfl
      (repeat (first | refine gO (by decide) ?_ | ((first | refine gM (mdL [(4, 1), (5, 2), (7, 1), (8, 1)]) ?_ | (with_reducible refine wM ?_ ?_) | ((with_reducible refine xR ?_); refine uE 17 (mdL [(4, 1), (5, 2), (7, 1), (8, 1)]) pSLoop_8_17E pSLoop_8_17P 83 rfl (by kernel_rfl) ?_)) <;> ((try with_reducible intro K1 hK1); simp only [go_sem, ↓reduceIte, reduceCtorEq, nA, nB, nC, nD, nE, nF] <;> and_intros <;> first | (apply hK1; clear hK1 K1) | (intros; first | omega | decide | (simp_all <;> omega)) | skip))))
      refine awp_cond (t := _) rfl (fun h5 => ?_) (fun h5 => ?_)
      · rcases hp with ⟨rfl, he⟩ | ⟨q, css, j, hq, hTq, hj, rfl, hg⟩
        · have hH := hH he
          (repeat (first | refine gO (by decide) ?_ | ((first | refine gM (mdL [(4, 1), (5, 2), (7, 1), (8, 1)]) ?_ | (with_reducible refine wM ?_ ?_) | ((with_reducible refine xR ?_); refine uE 17 (mdL [(4, 1), (5, 2), (7, 1), (8, 1)]) pSLoop_8_17E pSLoop_8_17P 83 rfl (by kernel_rfl) ?_)) <;> ((try with_reducible intro K1 hK1); simp only [go_sem, ↓reduceIte, reduceCtorEq, nA, nB, nC, nD, nE, nF, hH] <;> and_intros <;> first | (apply hK1; clear hK1 K1) | (intros; first | omega | decide | (simp_all <;> omega)) | skip))))
          refine (g_odd i l (a2 + 1) 1 5 ⟨upd h.H o (some (.cells cs)), T1⟩ hl (by omega) (by omega) (by omega) (by omega)).mono ?_; rintro _ _ ⟨y, a3, hy, ha3, rfl, rfl⟩; apply hK1; clear hK1 K1
          (repeat (first | refine gO (by decide) ?_ | ((first | refine gM (mdL [(4, 1), (5, 2), (7, 1), (8, 1)]) ?_ | (with_reducible refine wM ?_ ?_) | ((with_reducible refine xR ?_); refine uE 17 (mdL [(4, 1), (5, 2), (7, 1), (8, 1)]) pSLoop_8_17E pSLoop_8_17P 83 rfl (by kernel_rfl) ?_)) <;> ((try with_reducible intro K1 hK1); simp only [go_sem, ↓reduceIte, reduceCtorEq, nA, nB, nC, nD, nE, nF, hH] <;> and_intros <;> first | (apply hK1; clear hK1 K1) | (intros; first | omega | decide | (simp_all <;> omega)) | skip))))
          exact ⟨_, T1, a3, ((hO he).kind hy).weaken.up (by omega), hT1, by omega, st_mk3 rfl rfl (st_obj2 hio _ _ _ _ _ _)⟩
        · replace hTq : T1 q = some (.cont 6 css) := hTq
          have hgs := hgs css j hj
          (repeat (first | refine gO (by decide) ?_ | ((first | refine gM (mdL [(4, 1), (5, 2), (7, 1), (8, 1)]) ?_ | (with_reducible refine wM ?_ ?_) | ((with_reducible refine xR ?_); refine uE 17 (mdL [(4, 1), (5, 2), (7, 1), (8, 1)]) pSLoop_8_17E pSLoop_8_17P 83 rfl (by kernel_rfl) ?_)) <;> ((try with_reducible intro K1 hK1); simp only [go_sem, ↓reduceIte, reduceCtorEq, nA, nB, nC, nD, nE, nF, hTq, st_T, hg, hgs] <;> and_intros <;> first | (apply hK1; clear hK1 K1) | (intros; first | omega | decide | (simp_all <;> omega)) | skip))))
          refine (g_odd i l (a2 + 1) 1 5 ⟨upd h.H o (some (.cells cs)), T1⟩ hl (by omega) (by omega) (by omega) (by omega)).mono ?_; rintro _ _ ⟨y, a3, hy, ha3, rfl, rfl⟩; apply hK1; clear hK1 K1
          (repeat (first | refine gO (by decide) ?_ | ((first | refine gM (mdL [(4, 1), (5, 2), (7, 1), (8, 1)]) ?_ | (with_reducible refine wM ?_ ?_) | ((with_reducible refine xR ?_); refine uE 17 (mdL [(4, 1), (5, 2), (7, 1), (8, 1)]) pSLoop_8_17E pSLoop_8_17P 83 rfl (by kernel_rfl) ?_)) <;> ((try with_reducible intro K1 hK1); simp only [go_sem, ↓reduceIte, reduceCtorEq, nA, nB, nC, nD, nE, nF, hTq, st_T, hg, hgs] <;> and_intros <;> first | (apply hK1; clear hK1 K1) | (intros; first | omega | decide | (simp_all <;> omega)) | skip))))
          have hw : ∀ c', (∀ e, ∀ T' : Nat → Option TO, OLd false T' (fun k => h.T k = none) e [k, it, lo, mn, K, Sh] → OLd false T' (fun k => h.T k = none) e c') → OLd false (upd T1 q (some (.cont 6 (css.set j c')))) (fun k => h.T k = none) (d + 20) cs := fun c' hc => ((hcs.weaken.up (e := d + 20) (by omega)).write hTq (upd_same _ _ _) (fun k _ hk => upd_other _ _ hk) (fun e h' => by rw [hg] at h'; exact hc e _ h'))
          exact ⟨cs, _, a3, hw _ fun e T' h' => h'.kind hy, fun k hk => (upd_other _ _ (fun e => by subst e; exact hk hq)).trans (hT1 k hk), by omega, rfl⟩
      · clear h5
        (repeat (first | refine gO (by decide) ?_ | ((first | refine gM (mdL [(4, 1), (5, 2), (7, 1), (8, 1)]) ?_ | (with_reducible refine wM ?_ ?_) | ((with_reducible refine xR ?_); refine uE 17 (mdL [(4, 1), (5, 2), (7, 1), (8, 1)]) pSLoop_8_17E pSLoop_8_17P 83 rfl (by kernel_rfl) ?_)) <;> ((try with_reducible intro K1 hK1); simp only [go_sem, ↓reduceIte, reduceCtorEq, nA, nB, nC, nD, nE, nF] <;> and_intros <;> first | (apply hK1; clear hK1 K1) | (intros; first | omega | decide | (simp_all <;> omega)) | skip))))
        refine awp_cond (t := _) rfl (fun h5 => ?_) (fun h5 => ?_)
        ·
          rcases hp with ⟨rfl, he⟩ | ⟨q, css, j, hq, hTq, hj, rfl, hg⟩
          · have hH := hH he
            (repeat (first | refine gO (by decide) ?_ | ((first | refine gM (mdL [(4, 1), (5, 2), (7, 1), (8, 1)]) ?_ | (with_reducible refine wM ?_ ?_) | ((with_reducible refine xR ?_); refine uE 17 (mdL [(4, 1), (5, 2), (7, 1), (8, 1)]) pSLoop_8_17E pSLoop_8_17P 83 rfl (by kernel_rfl) ?_)) <;> ((try with_reducible intro K1 hK1); simp only [go_sem, ↓reduceIte, reduceCtorEq, nA, nB, nC, nD, nE, nF, hH] <;> and_intros <;> first | (apply hK1; clear hK1 K1) | (intros; first | omega | decide | (simp_all <;> omega)) | skip))))
            refine (g_some i l (a2 + 1) [⟨#[]⟩, ⟨#[65]⟩, ⟨#[105, 97]⟩] none ⟨upd h.H o (some (.cells cs)), T1⟩ hl (by omega) (by simp)).mono ?_; rintro _ _ ⟨x1, hx1, rfl, rfl⟩; apply hK1; clear hK1 K1
            (repeat (first | refine gO (by decide) ?_ | ((first | refine gM (mdL [(4, 1), (5, 2), (7, 1), (8, 1)]) ?_ | (with_reducible refine wM ?_ ?_) | ((with_reducible refine xR ?_); refine uE 17 (mdL [(4, 1), (5, 2), (7, 1), (8, 1)]) pSLoop_8_17E pSLoop_8_17P 83 rfl (by kernel_rfl) ?_)) <;> ((try with_reducible intro K1 hK1); simp only [go_sem, ↓reduceIte, reduceCtorEq, nA, nB, nC, nD, nE, nF, hH] <;> and_intros <;> first | (apply hK1; clear hK1 K1) | (intros; first | omega | decide | (simp_all <;> omega)) | skip))))
            refine (g_odd i l (a2 + 1 + 1) 1 3600000 ⟨upd h.H o (some (.cells cs)), T1⟩ hl (by omega) (by omega) (by omega) (by omega)).mono ?_; rintro _ _ ⟨y, a3, hy, ha3, rfl, rfl⟩; apply hK1; clear hK1 K1
            (repeat (first | refine gO (by decide) ?_ | ((first | refine gM (mdL [(4, 1), (5, 2), (7, 1), (8, 1)]) ?_ | (with_reducible refine wM ?_ ?_) | ((with_reducible refine xR ?_); refine uE 17 (mdL [(4, 1), (5, 2), (7, 1), (8, 1)]) pSLoop_8_17E pSLoop_8_17P 83 rfl (by kernel_rfl) ?_)) <;> ((try with_reducible intro K1 hK1); simp only [go_sem, ↓reduceIte, reduceCtorEq, nA, nB, nC, nD, nE, nF, hH] <;> and_intros <;> first | (apply hK1; clear hK1 K1) | (intros; first | omega | decide | (simp_all <;> omega)) | skip))))
            exact ⟨_, T1, a3, ((hO he).il (by simp at hx1; rcases hx1 with rfl | rfl | rfl <;> decide) hy).weaken.up (by omega), hT1, by omega, st_mk3 rfl rfl (st_obj2 hio _ _ _ _ _ _)⟩
          · replace hTq : T1 q = some (.cont 6 css) := hTq
            have hgs := hgs css j hj
            have hw : ∀ c', (∀ e, ∀ T' : Nat → Option TO, OLd false T' (fun k => h.T k = none) e [k, it, lo, mn, K, Sh] → OLd false T' (fun k => h.T k = none) e c') → OLd false (upd T1 q (some (.cont 6 (css.set j c')))) (fun k => h.T k = none) (d + 20) cs := fun c' hc => ((hcs.weaken.up (e := d + 20) (by omega)).write hTq (upd_same _ _ _) (fun k _ hk => upd_other _ _ hk) (fun e h' => by rw [hg] at h'; exact hc e _ h'))
            (repeat (first | refine gO (by decide) ?_ | ((first | refine gM (mdL [(4, 1), (5, 2), (7, 1), (8, 1)]) ?_ | (with_reducible refine wM ?_ ?_) | ((with_reducible refine xR ?_); refine uE 17 (mdL [(4, 1), (5, 2), (7, 1), (8, 1)]) pSLoop_8_17E pSLoop_8_17P 83 rfl (by kernel_rfl) ?_)) <;> ((try with_reducible intro K1 hK1); simp only [go_sem, ↓reduceIte, reduceCtorEq, nA, nB, nC, nD, nE, nF, hTq, st_T, hg, hgs, List.set_set] <;> and_intros <;> first | (apply hK1; clear hK1 K1) | (intros; first | omega | decide | (simp_all <;> omega)) | skip))))
            refine (g_some i l (a2 + 1) [⟨#[]⟩, ⟨#[65]⟩, ⟨#[105, 97]⟩] none ⟨upd h.H o (some (.cells cs)), T1⟩ hl (by omega) (by simp)).mono ?_; rintro _ _ ⟨x1, hx1, rfl, rfl⟩; apply hK1; clear hK1 K1
            (repeat (first | refine gO (by decide) ?_ | ((first | refine gM (mdL [(4, 1), (5, 2), (7, 1), (8, 1)]) ?_ | (with_reducible refine wM ?_ ?_) | ((with_reducible refine xR ?_); refine uE 17 (mdL [(4, 1), (5, 2), (7, 1), (8, 1)]) pSLoop_8_17E pSLoop_8_17P 83 rfl (by kernel_rfl) ?_)) <;> ((try with_reducible intro K1 hK1); simp only [go_sem, ↓reduceIte, reduceCtorEq, nA, nB, nC, nD, nE, nF, hTq, st_T, hg, hgs, List.set_set] <;> and_intros <;> first | (apply hK1; clear hK1 K1) | (intros; first | omega | decide | (simp_all <;> omega)) | skip))))
            refine (g_odd i l (a2 + 1 + 1) 1 3600000 ⟨upd h.H o (some (.cells cs)), T1⟩ hl (by omega) (by omega) (by omega) (by omega)).mono ?_; rintro _ _ ⟨y, a3, hy, ha3, rfl, rfl⟩; apply hK1; clear hK1 K1
            (repeat (first | refine gO (by decide) ?_ | ((first | refine gM (mdL [(4, 1), (5, 2), (7, 1), (8, 1)]) ?_ | (with_reducible refine wM ?_ ?_) | ((with_reducible refine xR ?_); refine uE 17 (mdL [(4, 1), (5, 2), (7, 1), (8, 1)]) pSLoop_8_17E pSLoop_8_17P 83 rfl (by kernel_rfl) ?_)) <;> ((try with_reducible intro K1 hK1); simp only [go_sem, ↓reduceIte, reduceCtorEq, nA, nB, nC, nD, nE, nF, hTq, st_T, hg, hgs, List.set_set] <;> and_intros <;> first | (apply hK1; clear hK1 K1) | (intros; first | omega | decide | (simp_all <;> omega)) | skip))))
            exact ⟨cs, _, a3, hw _ fun e T' h' => h'.il (by simp at hx1; rcases hx1 with rfl | rfl | rfl <;> decide) hy, fun k hk => (upd_other _ _ (fun e => by subst e; exact hk hq)).trans (hT1 k hk), by omega, rfl⟩
        · clear h5
          (repeat (first | refine gO (by decide) ?_ | ((first | refine gM (mdL [(4, 1), (5, 2), (7, 1), (8, 1)]) ?_ | (with_reducible refine wM ?_ ?_) | ((with_reducible refine xR ?_); refine uE 17 (mdL [(4, 1), (5, 2), (7, 1), (8, 1)]) pSLoop_8_17E pSLoop_8_17P 83 rfl (by kernel_rfl) ?_)) <;> ((try with_reducible intro K1 hK1); simp only [go_sem, ↓reduceIte, reduceCtorEq, nA, nB, nC, nD, nE, nF] <;> and_intros <;> first | (apply hK1; clear hK1 K1) | (intros; first | omega | decide | (simp_all <;> omega)) | skip))))
          refine awp_cond (t := _) rfl (fun h5 => ?_) (fun h5 => ?_)
          ·
            rcases hp with ⟨rfl, he⟩ | ⟨q, css, j, hq, hTq, hj, rfl, hg⟩
            · have hH := hH he
              (repeat (first | refine gO (by decide) ?_ | ((first | refine gM (mdL [(4, 1), (5, 2), (7, 1), (8, 1)]) ?_ | (with_reducible refine wM ?_ ?_) | ((with_reducible refine xR ?_); refine uE 17 (mdL [(4, 1), (5, 2), (7, 1), (8, 1)]) pSLoop_8_17E pSLoop_8_17P 83 rfl (by kernel_rfl) ?_)) <;> ((try with_reducible intro K1 hK1); simp only [go_sem, ↓reduceIte, reduceCtorEq, nA, nB, nC, nD, nE, nF, hH] <;> and_intros <;> first | (apply hK1; clear hK1 K1) | (intros; first | omega | decide | (simp_all <;> omega)) | skip))))
              refine (g_pick i l (a2 + 1) [0, 1, 100, 101] none ⟨upd h.H o (some (.cells cs)), T1⟩ hl (by omega) (by simp)).mono ?_; rintro _ _ ⟨y, hy, rfl, rfl⟩; apply hK1; clear hK1 K1
              (repeat (first | refine gO (by decide) ?_ | ((first | refine gM (mdL [(4, 1), (5, 2), (7, 1), (8, 1)]) ?_ | (with_reducible refine wM ?_ ?_) | ((with_reducible refine xR ?_); refine uE 17 (mdL [(4, 1), (5, 2), (7, 1), (8, 1)]) pSLoop_8_17E pSLoop_8_17P 83 rfl (by kernel_rfl) ?_)) <;> ((try with_reducible intro K1 hK1); simp only [go_sem, ↓reduceIte, reduceCtorEq, nA, nB, nC, nD, nE, nF, hH] <;> and_intros <;> first | (apply hK1; clear hK1 K1) | (intros; first | omega | decide | (simp_all <;> omega)) | skip))))
              exact ⟨_, T1, a2 + 1 + 1, ((hO he).many (by simp at hy; unfold NB; omega)).weaken.up (by omega), hT1, by omega, st_mk3 rfl rfl (st_obj2 hio _ _ _ _ _ _)⟩
            · replace hTq : T1 q = some (.cont 6 css) := hTq
              have hgs := hgs css j hj
              have hw : ∀ c', (∀ e, ∀ T' : Nat → Option TO, OLd false T' (fun k => h.T k = none) e [k, it, lo, mn, K, Sh] → OLd false T' (fun k => h.T k = none) e c') → OLd false (upd T1 q (some (.cont 6 (css.set j c')))) (fun k => h.T k = none) (d + 20) cs := fun c' hc => ((hcs.weaken.up (e := d + 20) (by omega)).write hTq (upd_same _ _ _) (fun k _ hk => upd_other _ _ hk) (fun e h' => by rw [hg] at h'; exact hc e _ h'))
              (repeat (first | refine gO (by decide) ?_ | ((first | refine gM (mdL [(4, 1), (5, 2), (7, 1), (8, 1)]) ?_ | (with_reducible refine wM ?_ ?_) | ((with_reducible refine xR ?_); refine uE 17 (mdL [(4, 1), (5, 2), (7, 1), (8, 1)]) pSLoop_8_17E pSLoop_8_17P 83 rfl (by kernel_rfl) ?_)) <;> ((try with_reducible intro K1 hK1); simp only [go_sem, ↓reduceIte, reduceCtorEq, nA, nB, nC, nD, nE, nF, hTq, st_T, hg, hgs, List.set_set] <;> and_intros <;> first | (apply hK1; clear hK1 K1) | (intros; first | omega | decide | (simp_all <;> omega)) | skip))))
              refine (g_pick i l (a2 + 1) [0, 1, 100, 101] none ⟨upd h.H o (some (.cells cs)), T1⟩ hl (by omega) (by simp)).mono ?_; rintro _ _ ⟨y, hy, rfl, rfl⟩; apply hK1; clear hK1 K1
              (repeat (first | refine gO (by decide) ?_ | ((first | refine gM (mdL [(4, 1), (5, 2), (7, 1), (8, 1)]) ?_ | (with_reducible refine wM ?_ ?_) | ((with_reducible refine xR ?_); refine uE 17 (mdL [(4, 1), (5, 2), (7, 1), (8, 1)]) pSLoop_8_17E pSLoop_8_17P 83 rfl (by kernel_rfl) ?_)) <;> ((try with_reducible intro K1 hK1); simp only [go_sem, ↓reduceIte, reduceCtorEq, nA, nB, nC, nD, nE, nF, hTq, st_T, hg, hgs, List.set_set] <;> and_intros <;> first | (apply hK1; clear hK1 K1) | (intros; first | omega | decide | (simp_all <;> omega)) | skip))))
              exact ⟨cs, _, a2 + 1 + 1, hw _ fun e T' h' => h'.many (by simp at hy; unfold NB; omega), fun k hk => (upd_other _ _ (fun e => by subst e; exact hk hq)).trans (hT1 k hk), by omega, rfl⟩
          · clear h5
            (repeat (first | refine gO (by decide) ?_ | ((first | refine gM (mdL [(4, 1), (5, 2), (7, 1), (8, 1)]) ?_ | (with_reducible refine wM ?_ ?_) | ((with_reducible refine xR ?_); refine uE 17 (mdL [(4, 1), (5, 2), (7, 1), (8, 1)]) pSLoop_8_17E pSLoop_8_17P 83 rfl (by kernel_rfl) ?_)) <;> ((try with_reducible intro K1 hK1); simp only [go_sem, ↓reduceIte, reduceCtorEq, nA, nB, nC, nD, nE, nF] <;> and_intros <;> first | (apply hK1; clear hK1 K1) | (intros; first | omega | decide | (simp_all <;> omega)) | skip))))
            refine awp_cond (t := _) rfl (fun h5 => ?_) (fun h5 => ?_)
            ·
              have hSh : Sh = .v (.slice none 0 0) ∨ ∃ (xs : List Int) (q2 : Nat), Sh = .row 1 (xs.map encI) (some q2) ∧ xs.length ≤ 4 ∧ (∀ x ∈ xs, NB x) ∧ T1 q2 = some (.tail xs.length) ∧ h.T q2 = none := by
                cases e with
                | zero => exact hcs2.elim
                | succ e =>
                  obtain ⟨_, _, _, _, _, _, he, _, _, h5⟩ := id hcs2
                  cases he
                  rcases h5 with h5 | ⟨xs, q2, h5, _, h6, h7⟩
                  · exact .inl h5
                  · exact .inr ⟨xs, q2, h5, (h7 rfl).2.2, h6, (h7 rfl).2.1, (h7 rfl).1⟩
              have hny : ∀ y : Int, y ∈ ([1, 0] : List Int) → NB y := fun y hy => by simp at hy; unfold NB; omega
              have hkb : ∀ (q2 n : Nat), (∀ x, T1 q2 ≠ some (.cont 6 x)) → ∀ (d' : Nat) (c' : List AV), OLd true T1 (fun k => h.T k = none) d' c' → OLd false (upd T1 q2 (some (.tail n))) (fun k => h.T k = none) d' c' := fun q2 n hq2 d' c' h' => h'.weaken.keep (fun k _ ⟨x, hx⟩ => upd_other _ _ (fun e => by subst e; exact hq2 x hx)) (fun h => by cases h)
              rcases hp with ⟨rfl, he⟩ | ⟨q, css, j, hq, hTq, hj, rfl, hg⟩
              · have hH := hH he
                have hO := hO he
                rcases hSh with rfl | ⟨xs, q2, rfl, hxl, hxb, hTq2, hSq2⟩
                · (repeat (first | refine gO (by decide) ?_ | ((first | refine gM (mdL [(4, 1), (5, 2), (7, 1), (8, 1)]) ?_ | (with_reducible refine wM ?_ ?_) | ((with_reducible refine xR ?_); refine uE 17 (mdL [(4, 1), (5, 2), (7, 1), (8, 1)]) pSLoop_8_17E pSLoop_8_17P 83 rfl (by kernel_rfl) ?_)) <;> ((try with_reducible intro K1 hK1); simp only [go_sem, ↓reduceIte, reduceCtorEq, nA, nB, nC, nD, nE, nF, hH, st_T, encI] <;> and_intros <;> first | (apply hK1; clear hK1 K1) | (intros; first | omega | decide | (simp_all <;> omega)) | skip))))
                  refine (g_pick i l (a2 + 1) [1, 0] none ⟨upd h.H o (some (.cells cs)), T1⟩ hl (by omega) (by simp)).mono ?_; rintro _ _ ⟨y, hy, rfl, rfl⟩; apply hK1; clear hK1 K1
                  (repeat (first | refine gO (by decide) ?_ | ((first | refine gM (mdL [(4, 1), (5, 2), (7, 1), (8, 1)]) ?_ | (with_reducible refine wM ?_ ?_) | ((with_reducible refine xR ?_); refine uE 17 (mdL [(4, 1), (5, 2), (7, 1), (8, 1)]) pSLoop_8_17E pSLoop_8_17P 83 rfl (by kernel_rfl) ?_)) <;> ((try with_reducible intro K1 hK1); simp only [go_sem, ↓reduceIte, reduceCtorEq, nA, nB, nC, nD, nE, nF, hH, st_T, encI] <;> and_intros <;> first | (apply hK1; clear hK1 K1) | (intros; first | omega | decide | (simp_all <;> omega)) | skip))))
                  intro q2 hq2
                  refine hK1 _ ?_; clear hK1 K1
                  (repeat (first | refine gO (by decide) ?_ | ((first | refine gM (mdL [(4, 1), (5, 2), (7, 1), (8, 1)]) ?_ | (with_reducible refine wM ?_ ?_) | ((with_reducible refine xR ?_); refine uE 17 (mdL [(4, 1), (5, 2), (7, 1), (8, 1)]) pSLoop_8_17E pSLoop_8_17P 83 rfl (by kernel_rfl) ?_)) <;> ((try with_reducible intro K1 hK1); simp only [go_sem, ↓reduceIte, reduceCtorEq, nA, nB, nC, nD, nE, nF, hH, st_T, encI] <;> and_intros <;> first | (apply hK1; clear hK1 K1) | (intros; first | omega | decide | (simp_all <;> omega)) | skip))))
                  have hq2' : h.T q2 = none := Classical.byContradiction fun hn => by have := hT1 q2 hn; rw [show T1 q2 = none from hq2] at this; exact hn this.symm
                  exact ⟨_, upd T1 q2 (some (.tail 1)), a2 + 1 + 1, ((hkb q2 1 (fun x hx => by rw [show T1 q2 = none from hq2] at hx; cases hx) _ _ hO).share (xs := [y]) (q := q2) (by simp) (fun z hz => by simp at hz; subst hz; exact hny _ hy)).up (by omega), fun k hk => (upd_other _ _ (fun e => by subst e; exact hk hq2')).trans (hT1 k hk), by omega, st_mk3 rfl rfl (st_obj2 hio _ _ _ _ _ _)⟩
                · (repeat (first | refine gO (by decide) ?_ | ((first | refine gM (mdL [(4, 1), (5, 2), (7, 1), (8, 1)]) ?_ | (with_reducible refine wM ?_ ?_) | ((with_reducible refine xR ?_); refine uE 17 (mdL [(4, 1), (5, 2), (7, 1), (8, 1)]) pSLoop_8_17E pSLoop_8_17P 83 rfl (by kernel_rfl) ?_)) <;> ((try with_reducible intro K1 hK1); simp only [go_sem, ↓reduceIte, reduceCtorEq, nA, nB, nC, nD, nE, nF, hH, st_T, hTq2] <;> and_intros <;> first | (apply hK1; clear hK1 K1) | (intros; first | omega | decide | (simp_all <;> omega)) | skip))))
                  refine (g_pick i l (a2 + 1) [1, 0] none ⟨upd h.H o (some (.cells cs)), T1⟩ hl (by omega) (by simp)).mono ?_; rintro _ _ ⟨y, hy, rfl, rfl⟩; apply hK1; clear hK1 K1
                  (repeat (first | refine gO (by decide) ?_ | ((first | refine gM (mdL [(4, 1), (5, 2), (7, 1), (8, 1)]) ?_ | (with_reducible refine wM ?_ ?_) | ((with_reducible refine xR ?_); refine uE 17 (mdL [(4, 1), (5, 2), (7, 1), (8, 1)]) pSLoop_8_17E pSLoop_8_17P 83 rfl (by kernel_rfl) ?_)) <;> ((try with_reducible intro K1 hK1); simp only [go_sem, ↓reduceIte, reduceCtorEq, nA, nB, nC, nD, nE, nF, hH, st_T, hTq2] <;> and_intros <;> first | (apply hK1; clear hK1 K1) | (intros; first | omega | decide | (simp_all <;> omega)) | skip))))
                  have hme : xs.map encI ++ [[AV.v (.int .i64 y)]] = (xs ++ [y]).map encI := by simp [encI]
                  rw [hme]
                  exact ⟨_, upd T1 q2 (some (.tail (xs.length + 1))), a2 + 1 + 1, ((hkb q2 (xs.length + 1) (fun x hx => by rw [hTq2] at hx; cases hx) _ _ hO).share (xs := xs ++ [y]) (q := q2) (by simp; omega) (fun z hz => by rcases List.mem_append.1 hz with hz | hz; exact hxb z hz; simp at hz; subst hz; exact hny _ hy)).up (by omega), fun k hk => (upd_other _ _ (fun e => by subst e; exact hk hSq2)).trans (hT1 k hk), by omega, st_mk3 rfl rfl (st_obj2 hio _ _ _ _ _ _)⟩
              · replace hTq : T1 q = some (.cont 6 css) := hTq
                have hgs := hgs css j hj
                rcases hSh with rfl | ⟨xs, q2, rfl, hxl, hxb, hTq2, hSq2⟩
                · (repeat (first | refine gO (by decide) ?_ | ((first | refine gM (mdL [(4, 1), (5, 2), (7, 1), (8, 1)]) ?_ | (with_reducible refine wM ?_ ?_) | ((with_reducible refine xR ?_); refine uE 17 (mdL [(4, 1), (5, 2), (7, 1), (8, 1)]) pSLoop_8_17E pSLoop_8_17P 83 rfl (by kernel_rfl) ?_)) <;> ((try with_reducible intro K1 hK1); simp only [go_sem, ↓reduceIte, reduceCtorEq, nA, nB, nC, nD, nE, nF, hTq, st_T, hg, hgs, encI] <;> and_intros <;> first | (apply hK1; clear hK1 K1) | (intros; first | omega | decide | (simp_all <;> omega)) | skip))))
                  refine (g_pick i l (a2 + 1) [1, 0] none ⟨upd h.H o (some (.cells cs)), T1⟩ hl (by omega) (by simp)).mono ?_; rintro _ _ ⟨y, hy, rfl, rfl⟩; apply hK1; clear hK1 K1
                  (repeat (first | refine gO (by decide) ?_ | ((first | refine gM (mdL [(4, 1), (5, 2), (7, 1), (8, 1)]) ?_ | (with_reducible refine wM ?_ ?_) | ((with_reducible refine xR ?_); refine uE 17 (mdL [(4, 1), (5, 2), (7, 1), (8, 1)]) pSLoop_8_17E pSLoop_8_17P 83 rfl (by kernel_rfl) ?_)) <;> ((try with_reducible intro K1 hK1); simp only [go_sem, ↓reduceIte, reduceCtorEq, nA, nB, nC, nD, nE, nF, hTq, st_T, hg, hgs, encI] <;> and_intros <;> first | (apply hK1; clear hK1 K1) | (intros; first | omega | decide | (simp_all <;> omega)) | skip))))
                  intro q2 hq2
                  refine hK1 _ ?_; clear hK1 K1
                  replace hq2 : T1 q2 = none := hq2
                  have hqq : q ≠ q2 := fun e => by subst e; rw [hTq] at hq2; cases hq2
                  have hTa : ∀ x, upd T1 q2 x q = some (.cont 6 css) := fun x => (upd_other _ _ hqq).trans hTq
                  (repeat (first | refine gO (by decide) ?_ | ((first | refine gM (mdL [(4, 1), (5, 2), (7, 1), (8, 1)]) ?_ | (with_reducible refine wM ?_ ?_) | ((with_reducible refine xR ?_); refine uE 17 (mdL [(4, 1), (5, 2), (7, 1), (8, 1)]) pSLoop_8_17E pSLoop_8_17P 83 rfl (by kernel_rfl) ?_)) <;> ((try with_reducible intro K1 hK1); simp only [go_sem, ↓reduceIte, reduceCtorEq, nA, nB, nC, nD, nE, nF, hTa, st_T, hg, hgs, encI] <;> and_intros <;> first | (apply hK1; clear hK1 K1) | (intros; first | omega | decide | (simp_all <;> omega)) | skip))))
                  have hq2' : h.T q2 = none := Classical.byContradiction fun hn => by have := hT1 q2 hn; rw [hq2] at this; exact hn this.symm
                  have hw : ∀ c', (∀ e, ∀ T' : Nat → Option TO, OLd false T' (fun k => h.T k = none) e [k, it, lo, mn, K, AV.v (.slice none 0 0)] → OLd false T' (fun k => h.T k = none) e c') → OLd false (upd (upd T1 q2 (some (.tail 1))) q (some (.cont 6 (css.set j c')))) (fun k => h.T k = none) (d + 20) cs := fun c' hc => (((hkb q2 1 (fun x hx => by rw [hq2] at hx; cases hx) _ _ hcs).up (e := d + 20) (by omega)).write (hTa _) (upd_same _ _ _) (fun k _ hk => upd_other _ _ hk) (fun e h' => by rw [hg] at h'; exact hc e _ h'))
                  exact ⟨cs, _, a2 + 1 + 1, hw _ fun e T' h' => h'.share (xs := [y]) (q := q2) (by simp) (fun z hz => by simp at hz; subst hz; exact hny _ hy), fun k hk => ((upd_other _ _ (fun e => by subst e; exact hk hq)).trans (upd_other _ _ (fun e => by subst e; exact hk hq2'))).trans (hT1 k hk), by omega, rfl⟩
                · have hqq : q ≠ q2 := fun e => by subst e; rw [hTq] at hTq2; cases hTq2
                  have hTa : ∀ x, upd T1 q2 x q = some (.cont 6 css) := fun x => (upd_other _ _ hqq).trans hTq
                  (repeat (first | refine gO (by decide) ?_ | ((first | refine gM (mdL [(4, 1), (5, 2), (7, 1), (8, 1)]) ?_ | (with_reducible refine wM ?_ ?_) | ((with_reducible refine xR ?_); refine uE 17 (mdL [(4, 1), (5, 2), (7, 1), (8, 1)]) pSLoop_8_17E pSLoop_8_17P 83 rfl (by kernel_rfl) ?_)) <;> ((try with_reducible intro K1 hK1); simp only [go_sem, ↓reduceIte, reduceCtorEq, nA, nB, nC, nD, nE, nF, hTq, hTa, st_T, hg, hgs, hTq2] <;> and_intros <;> first | (apply hK1; clear hK1 K1) | (intros; first | omega | decide | (simp_all <;> omega)) | skip))))
                  refine (g_pick i l (a2 + 1) [1, 0] none ⟨upd h.H o (some (.cells cs)), T1⟩ hl (by omega) (by simp)).mono ?_; rintro _ _ ⟨y, hy, rfl, rfl⟩; apply hK1; clear hK1 K1
                  (repeat (first | refine gO (by decide) ?_ | ((first | refine gM (mdL [(4, 1), (5, 2), (7, 1), (8, 1)]) ?_ | (with_reducible refine wM ?_ ?_) | ((with_reducible refine xR ?_); refine uE 17 (mdL [(4, 1), (5, 2), (7, 1), (8, 1)]) pSLoop_8_17E pSLoop_8_17P 83 rfl (by kernel_rfl) ?_)) <;> ((try with_reducible intro K1 hK1); simp only [go_sem, ↓reduceIte, reduceCtorEq, nA, nB, nC, nD, nE, nF, hTq, hTa, st_T, hg, hgs, hTq2] <;> and_intros <;> first | (apply hK1; clear hK1 K1) | (intros; first | omega | decide | (simp_all <;> omega)) | skip))))
                  have hw : ∀ c', (∀ e, ∀ T' : Nat → Option TO, OLd false T' (fun k => h.T k = none) e [k, it, lo, mn, K, AV.row 1 (xs.map encI) (some q2)] → OLd false T' (fun k => h.T k = none) e c') → OLd false (upd (upd T1 q2 (some (.tail (xs.length + 1)))) q (some (.cont 6 (css.set j c')))) (fun k => h.T k = none) (d + 20) cs := fun c' hc => (((hkb q2 (xs.length + 1) (fun x hx => by rw [hTq2] at hx; cases hx) _ _ hcs).up (e := d + 20) (by omega)).write (hTa _) (upd_same _ _ _) (fun k _ hk => upd_other _ _ hk) (fun e h' => by rw [hg] at h'; exact hc e _ h'))
                  have hme : xs.map encI ++ [[AV.v (.int .i64 y)]] = (xs ++ [y]).map encI := by simp [encI]
                  rw [hme]
                  exact ⟨cs, _, a2 + 1 + 1, hw _ fun e T' h' => h'.share (xs := xs ++ [y]) (q := q2) (by simp; omega) (fun z hz => by rcases List.mem_append.1 hz with hz | hz; exact hxb z hz; simp at hz; subst hz; exact hny _ hy), fun k hk => ((upd_other _ _ (fun e => by subst e; exact hk hq)).trans (upd_other _ _ (fun e => by subst e; exact hk hSq2))).trans (hT1 k hk), by omega, rfl⟩
            · clear h5
              (repeat (first | refine gO (by decide) ?_ | ((first | refine gM (mdL [(4, 1), (5, 2), (7, 1), (8, 1)]) ?_ | (with_reducible refine wM ?_ ?_) | ((with_reducible refine xR ?_); refine uE 17 (mdL [(4, 1), (5, 2), (7, 1), (8, 1)]) pSLoop_8_17E pSLoop_8_17P 83 rfl (by kernel_rfl) ?_)) <;> ((try with_reducible intro K1 hK1); simp only [go_sem, ↓reduceIte, reduceCtorEq, nA, nB, nC, nD, nE, nF] <;> and_intros <;> first | (apply hK1; clear hK1 K1) | (intros; first | omega | decide | (simp_all <;> omega)) | skip))))
              refine awp_cond (t := _) rfl (fun h5 => ?_) (fun h5 => ?_)
              ·
                rcases hp with ⟨rfl, he⟩ | ⟨q, css, j, hq, hTq, hj, rfl, hg⟩
                · have hH := hH he
                  (repeat (first | refine gO (by decide) ?_ | ((first | refine gM (mdL [(4, 1), (5, 2), (7, 1), (8, 1)]) ?_ | (with_reducible refine wM ?_ ?_) | ((with_reducible refine xR ?_); refine uE 17 (mdL [(4, 1), (5, 2), (7, 1), (8, 1)]) pSLoop_8_17E pSLoop_8_17P 83 rfl (by kernel_rfl) ?_)) <;> ((try with_reducible intro K1 hK1); simp only [go_sem, ↓reduceIte, reduceCtorEq, nA, nB, nC, nD, nE, nF, hH] <;> and_intros <;> first | (apply hK1; clear hK1 K1) | (intros; first | omega | decide | (simp_all <;> omega)) | skip))))
                  exact ⟨_, T1, a2 + 1, ((hO he).nokids).weaken.up (by omega), hT1, by omega, st_mk3 rfl rfl (st_obj2 hio _ _ _ _ _ _)⟩
                · replace hTq : T1 q = some (.cont 6 css) := hTq
                  have hgs := hgs css j hj
                  have hw : ∀ c', (∀ e, ∀ T' : Nat → Option TO, OLd false T' (fun k => h.T k = none) e [k, it, lo, mn, K, Sh] → OLd false T' (fun k => h.T k = none) e c') → OLd false (upd T1 q (some (.cont 6 (css.set j c')))) (fun k => h.T k = none) (d + 20) cs := fun c' hc => ((hcs.weaken.up (e := d + 20) (by omega)).write hTq (upd_same _ _ _) (fun k _ hk => upd_other _ _ hk) (fun e h' => by rw [hg] at h'; exact hc e _ h'))
                  (repeat (first | refine gO (by decide) ?_ | ((first | refine gM (mdL [(4, 1), (5, 2), (7, 1), (8, 1)]) ?_ | (with_reducible refine wM ?_ ?_) | ((with_reducible refine xR ?_); refine uE 17 (mdL [(4, 1), (5, 2), (7, 1), (8, 1)]) pSLoop_8_17E pSLoop_8_17P 83 rfl (by kernel_rfl) ?_)) <;> ((try with_reducible intro K1 hK1); simp only [go_sem, ↓reduceIte, reduceCtorEq, nA, nB, nC, nD, nE, nF, hTq, st_T, hg, hgs, List.set_set] <;> and_intros <;> first | (apply hK1; clear hK1 K1) | (intros; first | omega | decide | (simp_all <;> omega)) | skip))))
                  exact ⟨cs, _, a2 + 1, hw _ fun e T' h' => h'.nokids, fun k hk => (upd_other _ _ (fun e => by subst e; exact hk hq)).trans (hT1 k hk), by omega, rfl⟩
              · clear h5
                (repeat (first | refine gO (by decide) ?_ | ((first | refine gM (mdL [(4, 1), (5, 2), (7, 1), (8, 1)]) ?_ | (with_reducible refine wM ?_ ?_) | ((with_reducible refine xR ?_); refine uE 17 (mdL [(4, 1), (5, 2), (7, 1), (8, 1)]) pSLoop_8_17E pSLoop_8_17P 83 rfl (by kernel_rfl) ?_)) <;> ((try with_reducible intro K1 hK1); simp only [go_sem, ↓reduceIte, reduceCtorEq, nA, nB, nC, nD, nE, nF] <;> and_intros <;> first | (apply hK1; clear hK1 K1) | (intros; first | omega | decide | (simp_all <;> omega)) | skip))))
                refine awp_cond (t := _) rfl (fun h5 => ?_) (fun h5 => ?_)
                ·
                  (repeat (first | refine gO (by decide) ?_ | ((first | refine gM (mdL [(4, 1), (5, 2), (7, 1), (8, 1)]) ?_ | (with_reducible refine wM ?_ ?_) | ((with_reducible refine xR ?_); refine uE 17 (mdL [(4, 1), (5, 2), (7, 1), (8, 1)]) pSLoop_8_17E pSLoop_8_17P 83 rfl (by kernel_rfl) ?_)) <;> ((try with_reducible intro K1 hK1); simp only [go_sem, ↓reduceIte, reduceCtorEq, nA, nB, nC, nD, nE, nF] <;> and_intros <;> first | (apply hK1; clear hK1 K1) | (intros; first | omega | decide | (simp_all <;> omega)) | skip))))
                  refine awp_loopC (rl false [0, 1, 3, 2, 69, 1, 7]) 1 (fun g s => ∃ (j : Nat) (cs' : List AV), g + j = 12 ∧ OLd false T1 (fun k => h.T k = none) (d + 1 + j) cs' ∧
                    s = ⟨((.ptr i 0) :: (jnk 3 ((.loc 0 0) :: (.ptr o 0) :: (jnk 69 ((.v (.int .i64 j)) :: (jnk 7 [])))))), [[.v (.int .i64 0), .v (.string { data := #[] }), .v (.int .i64 0), .v (.int .i64 0), .v (.slice none 0 0), .v (.slice none 0 0)]], Hp.st ⟨upd h.H o (some (.cells cs')), T1⟩ i l (a2 + 1)⟩) 12 ⟨0, cs, by omega, hcs.weaken, rfl⟩ ?_
                  rintro n _ ⟨j, cs', hnj, hcs', rfl⟩
                  have hH : (Hp.st ⟨upd h.H o (some (.cells cs')), T1⟩ i l (a2 + 1)).H o = some (.cells cs') := by simp only [Hp.st, upd_other _ _ hio, upd_same]
                  have hl6 := hcs'.len
                  have htk6 : List.take 6 cs' = cs' := List.take_of_length_le (Nat.le_of_eq hl6)
                  have hdr6 : List.drop 6 cs' = [] := List.drop_of_length_le (Nat.le_of_eq hl6)
                  (repeat (first | refine gO (by decide) ?_ | ((first | refine gM (mdL [(4, 1), (5, 2), (7, 1), (8, 1)]) ?_ | (with_reducible refine wM ?_ ?_) | ((with_reducible refine xR ?_); refine uE 17 (mdL [(4, 1), (5, 2), (7, 1), (8, 1)]) pSLoop_8_17E pSLoop_8_17P 83 rfl (by kernel_rfl) ?_)) <;> ((try with_reducible intro K1 hK1); simp only [go_sem, ↓reduceIte, reduceCtorEq, nA, nB, nC, nD, nE, nF, hH, hl6, htk6, hdr6] <;> and_intros <;> first | (apply hK1; clear hK1 K1) | (intros; first | omega | decide | (simp_all <;> omega)) | skip))))
                  refine awp_cond (t := _) rfl (fun h6 => ?_) (fun h6 => ?_)
                  · simp only [decide_eq_true_eq] at h6
                    (repeat (first | refine gO (by decide) ?_ | ((first | refine gM (mdL [(4, 1), (5, 2), (7, 1), (8, 1)]) ?_ | (with_reducible refine wM ?_ ?_) | ((with_reducible refine xR ?_); refine uE 17 (mdL [(4, 1), (5, 2), (7, 1), (8, 1)]) pSLoop_8_17E pSLoop_8_17P 83 rfl (by kernel_rfl) ?_)) <;> ((try with_reducible intro K1 hK1); simp only [go_sem, ↓reduceIte, reduceCtorEq, nA, nB, nC, nD, nE, nF, hH, hl6, htk6, hdr6] <;> and_intros <;> first | (apply hK1; clear hK1 K1) | (intros; first | omega | decide | (simp_all <;> omega)) | skip))))
                    exact ⟨n - 1, by omega, j + 1, _, by omega, hcs'.wrap (by unfold NB; omega) (by unfold NB; omega), st_mk3 rfl rfl (st_obj2 hio _ _ _ _ _ _)⟩
                  · simp only [decide_eq_false_iff_not] at h6
                    (repeat (first | refine gO (by decide) ?_ | ((first | refine gM (mdL [(4, 1), (5, 2), (7, 1), (8, 1)]) ?_ | (with_reducible refine wM ?_ ?_) | ((with_reducible refine xR ?_); refine uE 17 (mdL [(4, 1), (5, 2), (7, 1), (8, 1)]) pSLoop_8_17E pSLoop_8_17P 83 rfl (by kernel_rfl) ?_)) <;> ((try with_reducible intro K1 hK1); simp only [go_sem, ↓reduceIte, reduceCtorEq, nA, nB, nC, nD, nE, nF, hH, hl6, htk6, hdr6] <;> and_intros <;> first | (apply hK1; clear hK1 K1) | (intros; first | omega | decide | (simp_all <;> omega)) | skip))))
                    exact ⟨cs', T1, a2 + 1, hcs'.up (by omega), hT1, by omega, rfl⟩
                · clear h5
                  (repeat (first | refine gO (by decide) ?_ | ((first | refine gM (mdL [(4, 1), (5, 2), (7, 1), (8, 1)]) ?_ | (with_reducible refine wM ?_ ?_) | ((with_reducible refine xR ?_); refine uE 17 (mdL [(4, 1), (5, 2), (7, 1), (8, 1)]) pSLoop_8_17E pSLoop_8_17P 83 rfl (by kernel_rfl) ?_)) <;> ((try with_reducible intro K1 hK1); simp only [go_sem, ↓reduceIte, reduceCtorEq, nA, nB, nC, nD, nE, nF] <;> and_intros <;> first | (apply hK1; clear hK1 K1) | (intros; first | omega | decide | (simp_all <;> omega)) | skip))))
                  refine awp_loopC (rl false [0, 1, 3, 2, 13, 1, 63]) 1 (fun g s => ∃ (j : Nat) (cs' : List AV), g + j = 3 ∧ OLd false T1 (fun k => h.T k = none) (d + 1 + j) cs' ∧
                    s = ⟨((.ptr i 0) :: (jnk 3 ((.loc 0 0) :: (.ptr o 0) :: (jnk 13 ((.v (.int .i64 j)) :: (jnk 63 [])))))), [[.v (.int .i64 0), .v (.string { data := #[] }), .v (.int .i64 0), .v (.int .i64 0), .v (.slice none 0 0), .v (.slice none 0 0)]], Hp.st ⟨upd h.H o (some (.cells cs')), T1⟩ i l (a2 + 1)⟩) 3 ⟨0, cs, by omega, hcs.weaken, rfl⟩ ?_
                  rintro n _ ⟨j, cs', hnj, hcs', rfl⟩
                  have hH : (Hp.st ⟨upd h.H o (some (.cells cs')), T1⟩ i l (a2 + 1)).H o = some (.cells cs') := by simp only [Hp.st, upd_other _ _ hio, upd_same]
                  have hl6 := hcs'.len
                  have htk6 : List.take 6 cs' = cs' := List.take_of_length_le (Nat.le_of_eq hl6)
                  have hdr6 : List.drop 6 cs' = [] := List.drop_of_length_le (Nat.le_of_eq hl6)
                  (repeat (first | refine gO (by decide) ?_ | ((first | refine gM (mdL [(4, 1), (5, 2), (7, 1), (8, 1)]) ?_ | (with_reducible refine wM ?_ ?_) | ((with_reducible refine xR ?_); refine uE 17 (mdL [(4, 1), (5, 2), (7, 1), (8, 1)]) pSLoop_8_17E pSLoop_8_17P 83 rfl (by kernel_rfl) ?_)) <;> ((try with_reducible intro K1 hK1); simp only [go_sem, ↓reduceIte, reduceCtorEq, nA, nB, nC, nD, nE, nF, hH, hl6, htk6, hdr6] <;> and_intros <;> first | (apply hK1; clear hK1 K1) | (intros; first | omega | decide | (simp_all <;> omega)) | skip))))
                  refine awp_cond (t := _) rfl (fun h6 => ?_) (fun h6 => ?_)
                  · simp only [decide_eq_true_eq] at h6
                    (repeat (first | refine gO (by decide) ?_ | ((first | refine gM (mdL [(4, 1), (5, 2), (7, 1), (8, 1)]) ?_ | (with_reducible refine wM ?_ ?_) | ((with_reducible refine xR ?_); refine uE 17 (mdL [(4, 1), (5, 2), (7, 1), (8, 1)]) pSLoop_8_17E pSLoop_8_17P 83 rfl (by kernel_rfl) ?_)) <;> ((try with_reducible intro K1 hK1); simp only [go_sem, ↓reduceIte, reduceCtorEq, nA, nB, nC, nD, nE, nF, hH, hl6, htk6, hdr6] <;> and_intros <;> first | (apply hK1; clear hK1 K1) | (intros; first | omega | decide | (simp_all <;> omega)) | skip))))
                    exact ⟨n - 1, by omega, j + 1, _, by omega, hcs'.wrap (by unfold NB; omega) (by unfold NB; omega), st_mk3 rfl rfl (st_obj2 hio _ _ _ _ _ _)⟩
                  · simp only [decide_eq_false_iff_not] at h6
                    (repeat (first | refine gO (by decide) ?_ | ((first | refine gM (mdL [(4, 1), (5, 2), (7, 1), (8, 1)]) ?_ | (with_reducible refine wM ?_ ?_) | ((with_reducible refine xR ?_); refine uE 17 (mdL [(4, 1), (5, 2), (7, 1), (8, 1)]) pSLoop_8_17E pSLoop_8_17P 83 rfl (by kernel_rfl) ?_)) <;> ((try with_reducible intro K1 hK1); simp only [go_sem, ↓reduceIte, reduceCtorEq, nA, nB, nC, nD, nE, nF, hH, hl6, htk6, hdr6] <;> and_intros <;> first | (apply hK1; clear hK1 K1) | (intros; first | omega | decide | (simp_all <;> omega)) | skip))))
                    exact ⟨cs', T1, a2 + 1, hcs'.up (by omega), hT1, by omega, rfl⟩
theorem g_Loop (d : Nat) (deep : Int) (hd : deep ≤ d ∧ -10 ≤ deep ∧ d ≤ 100) (i : Nat) (l : List Int) (a : Int) (h : Hp) (hl : SOk l) (ha : 0 ≤ a ∧ a + costR d + 2 * d + 40 ≤ 900000000) :
    ACalls Tryz.prog 8 [.ptr i 0, .v (.int .i64 deep)] (h.st i l a) (fun r h' => ∃ t a', LC (d + 20) t ∧ (a ≤ a' ∧ a' ≤ a + costR d + 2 * d + 40) ∧ r = .agg (encL t) ∧ h' = h.st i l a') := by
  refine (g_Loop0 d deep hd i l a h hl ha).gup ?_
  rintro _ _ G w v ⟨cs, T', a', hcs, hT', ha', rfl, rfl⟩ hs hr
  obtain ⟨G', hle, hfr, hs2, hf⟩ := hs.freeze (h2 := h.st i l a') (fun k => h.T k = none) rfl (fun k hk => hk) (fun k hk => (hT' k hk).symm)
  obtain ⟨t, ht, hrep⟩ := OLd.freeze hle hf _ _ hcs
  obtain ⟨vs, rfl, hvs⟩ := RepL.of_agg hr
  exact ⟨_, _, G', ⟨t, a', ht, ha', rfl, rfl⟩, hle, hfr, hs2, (hrep _ hvs).agg⟩
open Go Go.RowKit
set_option linter.unusedVariables false
set_option linter.unusedSimpArgs false
def ARow (w : World) (a : Option Addr) (len cap : Nat) (zs : List Int) : Prop :=
  (a = none ∧ len = 0 ∧ cap = 0 ∧ zs = []) ∨ ∃ b : Addr, a = some b ∧ len ≤ cap ∧ cap ≤ maxLen ∧ zs.length = cap ∧ (∀ i, i < zs.length → w.cell? (b.add i) = some (.int .i64 (zs.getD i 0)) ∧ w.frozen? (b.add i) = false) ∧ (∀ n ∈ zs, (Lit.int .i64 n).wf = true)
def G0 (w : World) : Gh := ⟨fun g o => cellT w g o, fun _ => none, fun _ => none, 0⟩
def H0 : Hp := ⟨fun _ => none, fun _ => none⟩
theorem hsim_all (w : World) : HSim (G0 w) H0 w where
  val _ _ _ h := h
  obj _ _ h := by cases h
  inj _ _ _ h := absurd rfl h
  tok _ _ h := by cases h
  tinj _ _ _ _ h := absurd rfl h
  tobj _ _ _ h := absurd rfl h
  fat _ _ := rfl
  ftl _ _ := rfl
theorem below_of_fr {G G' : Gh} {h' : Hp} {w w' : World} (f : Fr G H0 w G' h' w') : Below w.heap.size w w' :=
  ⟨f.os, f.tape, f.output, f.size, fun b hb => (f.keep b hb (fun o => by rcases o with ⟨_, h, _⟩ | ⟨_, _, h, _⟩ <;> exact h rfl)).1⟩
theorem rep_v_inv0 {G : Gh} {x y : Value} (h : Rep G (.v x) y) : y = x := by cases h; rfl
theorem flat_encI (l : List Int) : (l.map encI).flatten = l.map fun x => AV.v (.int .i64 x) := by
  induction l with
  | nil => rfl
  | cons x q ih => simp [encI, ih]
theorem arow_rep {w : World} {a : Option Addr} {len cap : Nat} {zs : List Int} (h : ARow w a len cap zs) : ∃ l : List Int, SOk l ∧ Rep (G0 w) (.row 1 (l.map encI) none) (.slice a len cap) := by
  rcases h with ⟨rfl, rfl, rfl, _⟩ | ⟨⟨b, o, sp⟩, rfl, hl, hm, hz, hc, hwz⟩
  · exact ⟨[], ⟨by simp, by simp⟩, .nil 1 none trivial⟩
  · by_cases h0 : cap = 0
    · subst h0
      obtain rfl : len = 0 := by omega
      exact ⟨[], ⟨by simp, by simp⟩, .nilA 1 _⟩
    · have hsp : sp = none := by
        have h1 := (hc 0 (by omega)).1
        rw [show (⟨b, o, sp⟩ : Addr).add 0 = ⟨b, o, sp⟩ from rfl] at h1
        cases sp with
        | none => rfl
        | some s =>
          simp only [World.cell?] at h1
          split at h1 <;> simp at h1
      subst hsp
      refine ⟨zs.take len, ⟨by have hm2 : maxLen = 9223372036854775807 := rfl; rw [List.length_take]; omega, fun x hx => ?_⟩, ?_⟩
      · have h1 := hwz x (List.mem_of_mem_take hx)
        simp only [Lit.wf, Bool.and_eq_true, decide_eq_true_eq] at h1
        exact ⟨h1.1, h1.2⟩
      · have hlen : (zs.take len).length = len := by simp; omega
        have h2 := Rep.row_mk (G := G0 w) (z := 1) (xs := (zs.take len).map encI) (g := b) (o := o) (c := cap) (us := (zs.take len).map fun x => Value.int .i64 x) (by rw [List.length_map, hlen]; exact hl)
          (fun y hy => by obtain ⟨x, _, rfl⟩ := List.mem_map.1 hy; rfl) (by
            rw [flat_encI]
            refine ⟨by simp, fun j a b => ?_⟩
            simp only [List.getElem_map]
            exact ⟨.v _ rfl, rfl⟩) (fun j y hy => by
            rw [List.getElem?_map] at hy
            obtain ⟨x, hx, rfl⟩ := Option.map_eq_some_iff.1 hy
            rw [List.getElem?_take] at hx
            split at hx
            · have hjl := (List.getElem?_eq_some_iff.1 hx).1
              have h3 := hc j hjl
              rw [List.getD_eq_getElem?_getD, hx, Addr.add_lit] at h3
              show cellT w b (o + j) = _
              rw [cellT, h3.2]; exact h3.1
            · cases hx)
        rwa [List.length_map, hlen] at h2
theorem law_calls {f : Nat} (hlaw : ∀ (l : List Int) (h : Hp), SOk l → ACalls Tryz.prog f [.row 1 (l.map encI) none] h (fun r _ => r = .v (.bool true))) (a : Option Addr) (len cap : Nat) (zs : List Int) (w : World) (h : ARow w a len cap zs) :
    Calls Tryz.prog f #[.slice a len cap] w fun e w' => e = .returned (.bool true) ∧ Below w.heap.size w w' := by
  obtain ⟨l, hl, hrep⟩ := arow_rep h
  refine ((hlaw l H0 hl).calls _ w #[.slice a len cap] (hsim_all w) rfl (fun j hj => ?_)).mono ?_
  · simp only [List.length_cons, List.length_nil, Nat.zero_add, Nat.lt_one_iff] at hj
    subst hj
    exact hrep
  · rintro _ w' ⟨r, h', G', v, rfl, rfl, _, f, _, hv⟩
    exact ⟨by rw [rep_v_inv0 hv], below_of_fr f⟩
open Go
open Nat renaming reduceAdd → nA, reduceSub → nB, reduceMul → nC, reduceLT → nD, reduceLeDiff → nE, reduceEqDiff → nF
abbrev pSLawS_3_7E : List Nat := [0, 1, 2, 3, 4, 5, 6, 7, 8]
abbrev pSLawS_3_7P : List (Nat × List Nat × List Nat) := [(9, [7], []), (10, [], [11, 12, 13, 14, 15, 16, 17, 18, 19]), (20, [], [21, 22, 23])]
attribute [go_sem] pSLawS_3_7E pSLawS_3_7P
set_option maxRecDepth 100000
set_option maxHeartbeats 8000000
theorem or_same (d : Nat) (a b : LT) : orI [faultF a, faultF b, rdE d a, rdE d b] = sameE d a b := by
  unfold sameE rdE
  simp only [orI]
  by_cases h1 : faultF a = 0
  · by_cases h2 : faultF b = 0
    · by_cases h3 : roundE d a = 0
      · by_cases h4 : roundE d b = 0
        · simp [h1, h2, h3, h4]
        · simp [h1, h2, h3, h4]
      · simp [h1, h2, h3]
    · simp [h1, h2]
  · simp [h1]
theorem sameE_zero {d : Nat} {a b : LT} (h : sameE d a b = 0) : faultF a = 0 ∧ faultF b = 0 ∧ roundE d a = 0 ∧ roundE d b = 0 := by
  unfold sameE at h
  by_cases h1 : faultF a = 0
  · by_cases h2 : faultF b = 0
    · by_cases h3 : roundE d a = 0
      · simp [h1, h2, h3] at h; exact ⟨h1, h2, h3, h⟩
      · simp [h1, h2, h3] at h
    · simp [h1, h2] at h
  · simp [h1] at h
theorem g_lawShrink (l : List Int) (h : Hp) (hl : SOk l) : ACalls Tryz.prog 3 [.row 1 (l.map encI) none] h (fun r _ => r = .v (.bool true)) := by
  refine gE Tryz.func3 rfl (by kernel_rfl) 111 rfl fun c => ?_
  (repeat (first | refine gQ (by decide) ?_ | ((first | refine gM (mdL [(4, 1), (5, 1), (6, 1), (18, 2)]) ?_ | (with_reducible refine wM ?_ ?_) | ((with_reducible refine xS ?_); refine uD 7 (mdL [(4, 1), (5, 1), (6, 1), (18, 2)]) pSLawS_3_7E pSLawS_3_7P 112 rfl (by kernel_rfl) ?_)) <;> ((try with_reducible intro K1 hK1); simp only [go_sem, ↓reduceIte, reduceCtorEq, nA, nB, nC, nD, nE, nF] <;> and_intros <;> first | (apply hK1; clear hK1 K1) | (intros; first | omega | decide | (simp_all <;> omega)) | skip))))
  intro i hi
  refine hK1 _ ?_; clear hK1 K1
  have e0 : ({ H := upd h.H i (some (.cells [.row 1 (l.map encI) none, .v (.int .i64 0)])), T := h.T } : Hp) = h.st i l 0 := rfl
  rw [e0]
  have hc3 : costR 3 = 1190 := by simp [costR]
  have hc2 : costR 2 ≤ 1190 ∧ 0 ≤ costR 2 := by simp [costR]
  (repeat (first | refine gQ (by decide) ?_ | ((first | refine gM (mdL [(4, 1), (5, 1), (6, 1), (18, 2)]) ?_ | (with_reducible refine wM ?_ ?_) | ((with_reducible refine xS ?_); refine uD 7 (mdL [(4, 1), (5, 1), (6, 1), (18, 2)]) pSLawS_3_7E pSLawS_3_7P 112 rfl (by kernel_rfl) ?_)) <;> ((try with_reducible intro K1 hK1); simp only [go_sem, ↓reduceIte, reduceCtorEq, nA, nB, nC, nD, nE, nF] <;> and_intros <;> first | (apply hK1; clear hK1 K1) | (intros; first | omega | decide | (simp_all <;> omega)) | skip))))
  refine (g_Loop 3 3 (by omega) i l 0 h hl (by omega)).mono ?_; rintro _ _ ⟨t, a1, ht, ha1, rfl, rfl⟩; apply hK1; clear hK1 K1
  have hlen := encL_len t
  have htk : List.take 6 (encL t) = encL t := List.take_of_length_le (Nat.le_of_eq hlen)
  have hdr : List.drop 6 (encL t) = [] := List.drop_of_length_le (Nat.le_of_eq hlen)
  (repeat (first | refine gQ (by decide) ?_ | ((first | refine gM (mdL [(4, 1), (5, 1), (6, 1), (18, 2)]) ?_ | (with_reducible refine wM ?_ ?_) | ((with_reducible refine xS ?_); refine uD 7 (mdL [(4, 1), (5, 1), (6, 1), (18, 2)]) pSLawS_3_7E pSLawS_3_7P 112 rfl (by kernel_rfl) ?_)) <;> ((try with_reducible intro K1 hK1); simp only [go_sem, ↓reduceIte, reduceCtorEq, nA, nB, nC, nD, nE, nF, hlen, htk, hdr] <;> and_intros <;> first | (apply hK1; clear hK1 K1) | (intros; first | omega | decide | (simp_all <;> omega)) | skip))))
  refine (g_Loop 2 2 (by omega) i l a1 h hl (by omega)).mono ?_; rintro _ _ ⟨u, a2, hu, ha2, rfl, rfl⟩; apply hK1; clear hK1 K1
  have hlenu := encL_len u
  have htku : List.take 6 (encL u) = encL u := List.take_of_length_le (Nat.le_of_eq hlenu)
  have hdru : List.drop 6 (encL u) = [] := List.drop_of_length_le (Nat.le_of_eq hlenu)
  have hkt : KC 23 t := ht.kc
  have hmt := size_small23 ht
  have hku : KC 23 u := (hu.mono (by omega)).kc
  have hmu := size_small23 (hu.mono (by omega) : LC 23 u)
  have hft := fun h => g_fault6 23 t h hkt hmt
  have hlo := fun (h : Hp) (hw : WF t) (hl : lv t ≤ 1000) => g_leastR (SizeOf.sizeOf t) t h (Nat.le_refl _) hw hl
  (repeat (first | refine gQ (by decide) ?_ | ((first | refine gM (mdL [(4, 1), (5, 1), (6, 1), (18, 2)]) ?_ | (with_reducible refine wM ?_ ?_) | ((with_reducible refine xS ?_); refine uD 7 (mdL [(4, 1), (5, 1), (6, 1), (18, 2)]) pSLawS_3_7E pSLawS_3_7P 112 rfl (by kernel_rfl) ?_)) <;> ((try with_reducible intro K1 hK1); simp only [go_sem, ↓reduceIte, reduceCtorEq, nA, nB, nC, nD, nE, nF, hlen, htk, hdr, hlenu, htku, hdru] <;> and_intros <;> first | (apply hK1; clear hK1 K1) | (intros; first | omega | decide | (simp_all <;> omega)) | skip))))
  refine awp_seqJ (rl false [4, 2, 106]) 2 (fun s => ∃ (b : LT) (h' : Hp), KC 23 b ∧ manyF b ≤ 1000000000000000 ∧ s = ⟨((jnk 4 ((.loc 0 0) :: (.loc 1 0) :: (jnk 106 [])))), [encL t, encL b], h'⟩) ?_ ?_
  · (repeat (first | refine gO (by decide) ?_ | ((first | refine gM (mdL [(4, 1), (5, 1), (6, 1), (18, 2)]) ?_ | (with_reducible refine wM ?_ ?_) | ((with_reducible refine xS ?_); refine uD 7 (mdL [(4, 1), (5, 1), (6, 1), (18, 2)]) pSLawS_3_7E pSLawS_3_7P 112 rfl (by kernel_rfl) ?_)) <;> ((try with_reducible intro K1 hK1); simp only [go_sem, ↓reduceIte, reduceCtorEq, nA, nB, nC, nD, nE, nF, hlen, htk, hdr, hlenu, htku, hdru] <;> and_intros <;> first | (apply hK1; clear hK1 K1) | (intros; first | omega | decide | (simp_all <;> omega)) | skip))))
    refine (g_flip i l a2 3 h hl (by omega) (by omega)).mono ?_; rintro _ _ ⟨b, rfl, rfl⟩; apply hK1; clear hK1 K1
    cases b with
    | false =>
      (repeat (first | refine gO (by decide) ?_ | ((first | refine gM (mdL [(4, 1), (5, 1), (6, 1), (18, 2)]) ?_ | (with_reducible refine wM ?_ ?_) | ((with_reducible refine xS ?_); refine uD 7 (mdL [(4, 1), (5, 1), (6, 1), (18, 2)]) pSLawS_3_7E pSLawS_3_7P 112 rfl (by kernel_rfl) ?_)) <;> ((try with_reducible intro K1 hK1); simp only [go_sem, ↓reduceIte, reduceCtorEq, nA, nB, nC, nD, nE, nF, hlen, htk, hdr, hlenu, htku, hdru] <;> and_intros <;> first | (apply hK1; clear hK1 K1) | (intros; first | omega | decide | (simp_all <;> omega)) | skip))))
      refine ⟨.v (.bool false), rfl, hK1 _ ?_⟩; clear hK1 K1
      (repeat (first | refine gO (by decide) ?_ | ((first | refine gM (mdL [(4, 1), (5, 1), (6, 1), (18, 2)]) ?_ | (with_reducible refine wM ?_ ?_) | ((with_reducible refine xS ?_); refine uD 7 (mdL [(4, 1), (5, 1), (6, 1), (18, 2)]) pSLawS_3_7E pSLawS_3_7P 112 rfl (by kernel_rfl) ?_)) <;> ((try with_reducible intro K1 hK1); simp only [go_sem, ↓reduceIte, reduceCtorEq, nA, nB, nC, nD, nE, nF, hlen, htk, hdr, hlenu, htku, hdru] <;> and_intros <;> first | (apply hK1; clear hK1 K1) | (intros; first | omega | decide | (simp_all <;> omega)) | skip))))
      refine awp_cond (t := _) rfl (fun h9 => by cases h9) (fun _ => ?_)
      (repeat (first | refine gO (by decide) ?_ | ((first | refine gM (mdL [(4, 1), (5, 1), (6, 1), (18, 2)]) ?_ | (with_reducible refine wM ?_ ?_) | ((with_reducible refine xS ?_); refine uD 7 (mdL [(4, 1), (5, 1), (6, 1), (18, 2)]) pSLawS_3_7E pSLawS_3_7P 112 rfl (by kernel_rfl) ?_)) <;> ((try with_reducible intro K1 hK1); simp only [go_sem, ↓reduceIte, reduceCtorEq, nA, nB, nC, nD, nE, nF, hlen, htk, hdr, hlenu, htku, hdru] <;> and_intros <;> first | (apply hK1; clear hK1 K1) | (intros; first | omega | decide | (simp_all <;> omega)) | skip))))
      exact ⟨u, _, hku, hmu.1, rfl⟩
    | true =>
      (repeat (first | refine gO (by decide) ?_ | ((first | refine gM (mdL [(4, 1), (5, 1), (6, 1), (18, 2)]) ?_ | (with_reducible refine wM ?_ ?_) | ((with_reducible refine xS ?_); refine uD 7 (mdL [(4, 1), (5, 1), (6, 1), (18, 2)]) pSLawS_3_7E pSLawS_3_7P 112 rfl (by kernel_rfl) ?_)) <;> ((try with_reducible intro K1 hK1); simp only [go_sem, ↓reduceIte, reduceCtorEq, nA, nB, nC, nD, nE, nF, hlen, htk, hdr, hlenu, htku, hdru] <;> and_intros <;> first | (apply hK1; clear hK1 K1) | (intros; first | omega | decide | (simp_all <;> omega)) | skip))))
      refine (hft _).mono ?_; rintro _ hz ⟨rfl, hh⟩; refine ⟨rfl, hK1 _ ?_⟩; clear hK1 K1; rw [hh]; clear hh hz
      (repeat (first | refine gO (by decide) ?_ | ((first | refine gM (mdL [(4, 1), (5, 1), (6, 1), (18, 2)]) ?_ | (with_reducible refine wM ?_ ?_) | ((with_reducible refine xS ?_); refine uD 7 (mdL [(4, 1), (5, 1), (6, 1), (18, 2)]) pSLawS_3_7E pSLawS_3_7P 112 rfl (by kernel_rfl) ?_)) <;> ((try with_reducible intro K1 hK1); simp only [go_sem, ↓reduceIte, reduceCtorEq, nA, nB, nC, nD, nE, nF, hlen, htk, hdr, hlenu, htku, hdru] <;> and_intros <;> first | (apply hK1; clear hK1 K1) | (intros; first | omega | decide | (simp_all <;> omega)) | skip))))
      by_cases hf : faultF t = 0
      · obtain ⟨s1, s2, s3, s4, s5, s6, s7⟩ := least_small hkt hf
        have hll := encL_len (leastF t)
        have hlk : List.take 6 (encL (leastF t)) = encL (leastF t) := List.take_of_length_le (Nat.le_of_eq hll)
        have hld : List.drop 6 (encL (leastF t)) = [] := List.drop_of_length_le (Nat.le_of_eq hll)
        refine awp_cond (t := _) rfl (fun _ => ?_) (fun h9 => by simp [hf] at h9)
        (repeat (first | refine gO (by decide) ?_ | ((first | refine gM (mdL [(4, 1), (5, 1), (6, 1), (18, 2)]) ?_ | (with_reducible refine wM ?_ ?_) | ((with_reducible refine xS ?_); refine uD 7 (mdL [(4, 1), (5, 1), (6, 1), (18, 2)]) pSLawS_3_7E pSLawS_3_7P 112 rfl (by kernel_rfl) ?_)) <;> ((try with_reducible intro K1 hK1); simp only [go_sem, ↓reduceIte, reduceCtorEq, nA, nB, nC, nD, nE, nF, hlen, htk, hdr, hlenu, htku, hdru] <;> and_intros <;> first | (apply hK1; clear hK1 K1) | (intros; first | omega | decide | (simp_all <;> omega)) | skip))))
        refine (hlo _ s1 (by omega)).mono ?_; rintro _ hz ⟨rfl, hh⟩; apply hK1; clear hK1 K1; rw [hh]; clear hh hz
        (repeat (first | refine gO (by decide) ?_ | ((first | refine gM (mdL [(4, 1), (5, 1), (6, 1), (18, 2)]) ?_ | (with_reducible refine wM ?_ ?_) | ((with_reducible refine xS ?_); refine uD 7 (mdL [(4, 1), (5, 1), (6, 1), (18, 2)]) pSLawS_3_7E pSLawS_3_7P 112 rfl (by kernel_rfl) ?_)) <;> ((try with_reducible intro K1 hK1); simp only [go_sem, ↓reduceIte, reduceCtorEq, nA, nB, nC, nD, nE, nF, hlen, htk, hdr, hlenu, htku, hdru, hll, hlk, hld] <;> and_intros <;> first | (apply hK1; clear hK1 K1) | (intros; first | omega | decide | (simp_all <;> omega)) | skip))))
        exact ⟨leastF t, _, s4.mono (by omega), s7, rfl⟩
      · refine awp_cond (t := _) rfl (fun h9 => by simp [hf] at h9) (fun _ => ?_)
        (repeat (first | refine gO (by decide) ?_ | ((first | refine gM (mdL [(4, 1), (5, 1), (6, 1), (18, 2)]) ?_ | (with_reducible refine wM ?_ ?_) | ((with_reducible refine xS ?_); refine uD 7 (mdL [(4, 1), (5, 1), (6, 1), (18, 2)]) pSLawS_3_7E pSLawS_3_7P 112 rfl (by kernel_rfl) ?_)) <;> ((try with_reducible intro K1 hK1); simp only [go_sem, ↓reduceIte, reduceCtorEq, nA, nB, nC, nD, nE, nF, hlen, htk, hdr, hlenu, htku, hdru] <;> and_intros <;> first | (apply hK1; clear hK1 K1) | (intros; first | omega | decide | (simp_all <;> omega)) | skip))))
        exact ⟨u, _, hku, hmu.1, rfl⟩
  · rintro _ ⟨b, h1, hkb, hmb, rfl⟩
    clear hlenu htku hdru hku hmu hu
    have hlb := encL_len b
    have hbk : List.take 6 (encL b) = encL b := List.take_of_length_le (Nat.le_of_eq hlb)
    have hbd : List.drop 6 (encL b) = [] := List.drop_of_length_le (Nat.le_of_eq hlb)
    have hlx := encL_len (leastR t)
    have hxk : List.take 6 (encL (leastR t)) = encL (leastR t) := List.take_of_length_le (Nat.le_of_eq hlx)
    have hxd : List.drop 6 (encL (leastR t)) = [] := List.drop_of_length_le (Nat.le_of_eq hlx)
    have hfb := fun h => g_fault6 23 b h hkb ⟨hmb, by omega⟩
    (repeat (first | refine gQ (by decide) ?_ | ((first | refine gM (mdL [(4, 1), (5, 1), (6, 1), (18, 2)]) ?_ | (with_reducible refine wM ?_ ?_) | ((with_reducible refine xS ?_); refine uD 7 (mdL [(4, 1), (5, 1), (6, 1), (18, 2)]) pSLawS_3_7E pSLawS_3_7P 112 rfl (by kernel_rfl) ?_)) <;> ((try with_reducible intro K1 hK1); simp only [go_sem, ↓reduceIte, reduceCtorEq, nA, nB, nC, nD, nE, nF, hlen, htk, hdr] <;> and_intros <;> first | (apply hK1; clear hK1 K1) | (intros; first | omega | decide | (simp_all <;> omega)) | skip))))
    refine (g_LeastP 23 t h1 hkt hmt).mono ?_; rintro _ hz ⟨rfl, hh⟩; apply hK1; clear hK1 K1; rw [hh]; clear hh hz
    (repeat (first | refine gQ (by decide) ?_ | ((first | refine gM (mdL [(4, 1), (5, 1), (6, 1), (18, 2)]) ?_ | (with_reducible refine wM ?_ ?_) | ((with_reducible refine xS ?_); refine uD 7 (mdL [(4, 1), (5, 1), (6, 1), (18, 2)]) pSLawS_3_7E pSLawS_3_7P 112 rfl (by kernel_rfl) ?_)) <;> ((try with_reducible intro K1 hK1); simp only [go_sem, ↓reduceIte, reduceCtorEq, nA, nB, nC, nD, nE, nF, hlen, htk, hdr, hlx, hxk, hxd] <;> and_intros <;> first | (apply hK1; clear hK1 K1) | (intros; first | omega | decide | (simp_all <;> omega)) | skip))))
    refine (hft _).mono ?_; rintro _ hz ⟨rfl, hh⟩; apply hK1; clear hK1 K1; rw [hh]; clear hh hz
    (repeat (first | refine gQ (by decide) ?_ | ((first | refine gM (mdL [(4, 1), (5, 1), (6, 1), (18, 2)]) ?_ | (with_reducible refine wM ?_ ?_) | ((with_reducible refine xS ?_); refine uD 7 (mdL [(4, 1), (5, 1), (6, 1), (18, 2)]) pSLawS_3_7E pSLawS_3_7P 112 rfl (by kernel_rfl) ?_)) <;> ((try with_reducible intro K1 hK1); simp only [go_sem, ↓reduceIte, reduceCtorEq, nA, nB, nC, nD, nE, nF, hlen, htk, hdr, hlx, hxk, hxd] <;> and_intros <;> first | (apply hK1; clear hK1 K1) | (intros; first | omega | decide | (simp_all <;> omega)) | skip))))
    have hne : (faultF t != faultF t) = false := by simp
    refine awp_seqJ (rl false [4, 2, 2, 1, 103]) 2 (fun s => ∃ (h' : Hp), s = ⟨((jnk 4 ((.loc 0 0) :: (.loc 1 0) :: AV.junk :: AV.junk :: ((.v (.int .i64 (faultF t))) :: (jnk 103 []))))), [encL t, encL b], h'⟩) ?_ ?_
    · by_cases hf : faultF t = 0
      · obtain ⟨s1, s2, s3, s4, s5, s6, s7⟩ := least_small hkt hf
        have e9 : leastR t = leastF t := by unfold leastR; rw [if_pos hf]
        have hff : (faultF t == 0) = true := by simp [hf]
        have hfn : (faultF t != 0) = false := by simp [hf]
        have hsm := fun h => g_same (SizeOf.sizeOf (leastF t)) (leastF t) (leastF t) h (Nat.le_refl _) (bl_of _ s5 (by omega)) (bl_of _ s5 (by omega))
        rw [sameB_true.2 rfl] at hsm
        rw [e9] at hlx hxk hxd ⊢
        (repeat (first | refine gO (by decide) ?_ | ((first | refine gM (mdL [(4, 1), (5, 1), (6, 1), (18, 2)]) ?_ | (with_reducible refine wM ?_ ?_) | ((with_reducible refine xS ?_); refine uD 7 (mdL [(4, 1), (5, 1), (6, 1), (18, 2)]) pSLawS_3_7E pSLawS_3_7P 112 rfl (by kernel_rfl) ?_)) <;> ((try with_reducible intro K1 hK1); simp only [go_sem, ↓reduceIte, reduceCtorEq, nA, nB, nC, nD, nE, nF, hlen, htk, hdr, hlx, hxk, hxd, hne, hff, hfn] <;> and_intros <;> first | (apply hK1; clear hK1 K1) | (intros; first | omega | decide | (simp_all <;> omega)) | skip))))
        refine (hlo _ s1 (by omega)).mono ?_; rintro _ hz ⟨rfl, hh⟩; refine ⟨rfl, hK1 _ ?_⟩; clear hK1 K1; rw [hh]; clear hh hz
        (repeat (first | refine gO (by decide) ?_ | ((first | refine gM (mdL [(4, 1), (5, 1), (6, 1), (18, 2)]) ?_ | (with_reducible refine wM ?_ ?_) | ((with_reducible refine xS ?_); refine uD 7 (mdL [(4, 1), (5, 1), (6, 1), (18, 2)]) pSLawS_3_7E pSLawS_3_7P 112 rfl (by kernel_rfl) ?_)) <;> ((try with_reducible intro K1 hK1); simp only [go_sem, ↓reduceIte, reduceCtorEq, nA, nB, nC, nD, nE, nF, hlen, htk, hdr, hlx, hxk, hxd, hne, hff, hfn] <;> and_intros <;> first | (apply hK1; clear hK1 K1) | (intros; first | omega | decide | (simp_all <;> omega)) | skip))))
        refine (hsm _).mono ?_; rintro _ hz ⟨rfl, hh⟩; refine ⟨rfl, hK1 _ ?_⟩; clear hK1 K1; rw [hh]; clear hh hz
        (repeat (first | refine gO (by decide) ?_ | ((first | refine gM (mdL [(4, 1), (5, 1), (6, 1), (18, 2)]) ?_ | (with_reducible refine wM ?_ ?_) | ((with_reducible refine xS ?_); refine uD 7 (mdL [(4, 1), (5, 1), (6, 1), (18, 2)]) pSLawS_3_7E pSLawS_3_7P 112 rfl (by kernel_rfl) ?_)) <;> ((try with_reducible intro K1 hK1); simp only [go_sem, ↓reduceIte, reduceCtorEq, nA, nB, nC, nD, nE, nF, hlen, htk, hdr, hlx, hxk, hxd, hne, hff, hfn] <;> and_intros <;> first | (apply hK1; clear hK1 K1) | (intros; first | omega | decide | (simp_all <;> omega)) | skip))))
        refine ⟨.v (.bool false), fun hF => hF.elim, ?_⟩
        ((simp only [go_sem, ↓reduceIte, reduceCtorEq, nA, nB, nC, nD, nE, nF, hlen, htk, hdr, hlx, hxk, hxd, hne, hff, hfn]; (try and_intros); all_goals first | (refine hK1 _ ?_; clear hK1 K1) | (intros; first | omega | decide | (simp_all <;> omega)) | skip))
        (repeat (first | refine gO (by decide) ?_ | ((first | refine gM (mdL [(4, 1), (5, 1), (6, 1), (18, 2)]) ?_ | (with_reducible refine wM ?_ ?_) | ((with_reducible refine xS ?_); refine uD 7 (mdL [(4, 1), (5, 1), (6, 1), (18, 2)]) pSLawS_3_7E pSLawS_3_7P 112 rfl (by kernel_rfl) ?_)) <;> ((try with_reducible intro K1 hK1); simp only [go_sem, ↓reduceIte, reduceCtorEq, nA, nB, nC, nD, nE, nF, hlen, htk, hdr, hlx, hxk, hxd, hne, hff, hfn] <;> and_intros <;> first | (apply hK1; clear hK1 K1) | (intros; first | omega | decide | (simp_all <;> omega)) | skip))))
        refine ⟨.v (.bool false), rfl, rfl, hK1 _ ?_⟩; clear hK1 K1
        (repeat (first | refine gO (by decide) ?_ | ((first | refine gM (mdL [(4, 1), (5, 1), (6, 1), (18, 2)]) ?_ | (with_reducible refine wM ?_ ?_) | ((with_reducible refine xS ?_); refine uD 7 (mdL [(4, 1), (5, 1), (6, 1), (18, 2)]) pSLawS_3_7E pSLawS_3_7P 112 rfl (by kernel_rfl) ?_)) <;> ((try with_reducible intro K1 hK1); simp only [go_sem, ↓reduceIte, reduceCtorEq, nA, nB, nC, nD, nE, nF, hlen, htk, hdr, hlx, hxk, hxd, hne, hff, hfn] <;> and_intros <;> first | (apply hK1; clear hK1 K1) | (intros; first | omega | decide | (simp_all <;> omega)) | skip))))
        refine awp_cond (t := _) rfl (fun h9 => by cases h9) (fun _ => ?_)
        (repeat (first | refine gO (by decide) ?_ | ((first | refine gM (mdL [(4, 1), (5, 1), (6, 1), (18, 2)]) ?_ | (with_reducible refine wM ?_ ?_) | ((with_reducible refine xS ?_); refine uD 7 (mdL [(4, 1), (5, 1), (6, 1), (18, 2)]) pSLawS_3_7E pSLawS_3_7P 112 rfl (by kernel_rfl) ?_)) <;> ((try with_reducible intro K1 hK1); simp only [go_sem, ↓reduceIte, reduceCtorEq, nA, nB, nC, nD, nE, nF] <;> and_intros <;> first | (apply hK1; clear hK1 K1) | (intros; first | omega | decide | (simp_all <;> omega)) | skip))))
        exact ⟨_, rfl⟩
      · have e9 : leastR t = default := by unfold leastR; rw [if_neg hf]
        have hff : (faultF t == 0) = false := by simpa using hf
        have hfn : (faultF t != 0) = true := by simpa using hf
        have hdb : BL default := by
          show BL (.mk 0 ⟨#[]⟩ 0 0 [] [])
          rw [BL_eq]; exact ⟨by simp, by simp, by simp⟩
        have hsm := fun h => (g_same (SizeOf.sizeOf (default : LT)) default default h (Nat.le_refl _) hdb hdb).weakArgs (args' := [.agg (encL default), .agg z28']) rfl (fun j a b => by
          rcases j with _ | _ | j
          · exact Weak.refl _
          · exact Weak.zeroL
          · simp only [List.length_cons, List.length_nil] at a; omega)
        rw [sameB_true.2 rfl] at hsm
        rw [e9] at hlx hxk hxd ⊢
        (repeat (first | refine gO (by decide) ?_ | ((first | refine gM (mdL [(4, 1), (5, 1), (6, 1), (18, 2)]) ?_ | (with_reducible refine wM ?_ ?_) | ((with_reducible refine xS ?_); refine uD 7 (mdL [(4, 1), (5, 1), (6, 1), (18, 2)]) pSLawS_3_7E pSLawS_3_7P 112 rfl (by kernel_rfl) ?_)) <;> ((try with_reducible intro K1 hK1); simp only [go_sem, ↓reduceIte, reduceCtorEq, nA, nB, nC, nD, nE, nF, hlen, htk, hdr, hlx, hxk, hxd, hne, hff, hfn] <;> and_intros <;> first | (apply hK1; clear hK1 K1) | (intros; first | omega | decide | (simp_all <;> omega)) | skip))))
        refine ⟨.v (.bool false), rfl, ?_⟩
        ((simp only [go_sem, ↓reduceIte, reduceCtorEq, nA, nB, nC, nD, nE, nF, hlen, htk, hdr, hlx, hxk, hxd, hne, hff, hfn]; (try and_intros); all_goals first | (refine hK1 _ ?_; clear hK1 K1) | (intros; first | omega | decide | (simp_all <;> omega)) | skip))
        refine ⟨.agg z28', ?_, ?_⟩
        · unfold qE
          simp only [go_sem, ↓reduceIte, reduceCtorEq, Nat.reduceAdd, Nat.reduceSub, Nat.reduceMul, Nat.reduceLT, Nat.reduceLeDiff, Nat.reduceEqDiff, z28']
        · ((simp only [go_sem, ↓reduceIte, reduceCtorEq, nA, nB, nC, nD, nE, nF, hlen, htk, hdr, hlx, hxk, hxd, hne, hff, hfn]; (try and_intros); all_goals first | (refine hK1 _ ?_; clear hK1 K1) | (intros; first | omega | decide | (simp_all <;> omega)) | skip))
          (repeat (first | refine gO (by decide) ?_ | ((first | refine gM (mdL [(4, 1), (5, 1), (6, 1), (18, 2)]) ?_ | (with_reducible refine wM ?_ ?_) | ((with_reducible refine xS ?_); refine uD 7 (mdL [(4, 1), (5, 1), (6, 1), (18, 2)]) pSLawS_3_7E pSLawS_3_7P 112 rfl (by kernel_rfl) ?_)) <;> ((try with_reducible intro K1 hK1); simp only [go_sem, ↓reduceIte, reduceCtorEq, nA, nB, nC, nD, nE, nF, hlen, htk, hdr, hlx, hxk, hxd, hne, hff, hfn] <;> and_intros <;> first | (apply hK1; clear hK1 K1) | (intros; first | omega | decide | (simp_all <;> omega)) | skip))))
          refine (hsm _).mono ?_; rintro _ hz ⟨rfl, hh⟩; refine ⟨rfl, hK1 _ ?_⟩; clear hK1 K1; rw [hh]; clear hh hz
          (repeat (first | refine gO (by decide) ?_ | ((first | refine gM (mdL [(4, 1), (5, 1), (6, 1), (18, 2)]) ?_ | (with_reducible refine wM ?_ ?_) | ((with_reducible refine xS ?_); refine uD 7 (mdL [(4, 1), (5, 1), (6, 1), (18, 2)]) pSLawS_3_7E pSLawS_3_7P 112 rfl (by kernel_rfl) ?_)) <;> ((try with_reducible intro K1 hK1); simp only [go_sem, ↓reduceIte, reduceCtorEq, nA, nB, nC, nD, nE, nF, hlen, htk, hdr, hlx, hxk, hxd, hne, hff, hfn] <;> and_intros <;> first | (apply hK1; clear hK1 K1) | (intros; first | omega | decide | (simp_all <;> omega)) | skip))))
          refine awp_cond (t := _) rfl (fun h9 => by cases h9) (fun _ => ?_)
          (repeat (first | refine gO (by decide) ?_ | ((first | refine gM (mdL [(4, 1), (5, 1), (6, 1), (18, 2)]) ?_ | (with_reducible refine wM ?_ ?_) | ((with_reducible refine xS ?_); refine uD 7 (mdL [(4, 1), (5, 1), (6, 1), (18, 2)]) pSLawS_3_7E pSLawS_3_7P 112 rfl (by kernel_rfl) ?_)) <;> ((try with_reducible intro K1 hK1); simp only [go_sem, ↓reduceIte, reduceCtorEq, nA, nB, nC, nD, nE, nF] <;> and_intros <;> first | (apply hK1; clear hK1 K1) | (intros; first | omega | decide | (simp_all <;> omega)) | skip))))
          exact ⟨_, rfl⟩
    · rintro _ ⟨h3, rfl⟩
      (repeat (first | refine gQ (by decide) ?_ | ((first | refine gM (mdL [(4, 1), (5, 1), (6, 1), (18, 2)]) ?_ | (with_reducible refine wM ?_ ?_) | ((with_reducible refine xS ?_); refine uD 7 (mdL [(4, 1), (5, 1), (6, 1), (18, 2)]) pSLawS_3_7E pSLawS_3_7P 112 rfl (by kernel_rfl) ?_)) <;> ((try with_reducible intro K1 hK1); simp only [go_sem, ↓reduceIte, reduceCtorEq, nA, nB, nC, nD, nE, nF, hlen, htk, hdr, hlb, hbk, hbd] <;> and_intros <;> first | (apply hK1; clear hK1 K1) | (intros; first | omega | decide | (simp_all <;> omega)) | skip))))
      refine (g_same2 23 t b h3 hkt hmt hkb hmb).mono ?_
      rintro _ h4 rfl
      refine hK1 _ ?_; clear hK1 K1
      (repeat (first | refine gQ (by decide) ?_ | ((first | refine gM (mdL [(4, 1), (5, 1), (6, 1), (18, 2)]) ?_ | (with_reducible refine wM ?_ ?_) | ((with_reducible refine xS ?_); refine uD 7 (mdL [(4, 1), (5, 1), (6, 1), (18, 2)]) pSLawS_3_7E pSLawS_3_7P 112 rfl (by kernel_rfl) ?_)) <;> ((try with_reducible intro K1 hK1); simp only [go_sem, ↓reduceIte, reduceCtorEq, nA, nB, nC, nD, nE, nF, hlen, htk, hdr, hlb, hbk, hbd] <;> and_intros <;> first | (apply hK1; clear hK1 K1) | (intros; first | omega | decide | (simp_all <;> omega)) | skip))))
      refine (g_rounded 23 t h4 hkt hmt).mono ?_
      rintro _ h5 rfl
      refine hK1 _ ?_; clear hK1 K1
      (repeat (first | refine gQ (by decide) ?_ | ((first | refine gM (mdL [(4, 1), (5, 1), (6, 1), (18, 2)]) ?_ | (with_reducible refine wM ?_ ?_) | ((with_reducible refine xS ?_); refine uD 7 (mdL [(4, 1), (5, 1), (6, 1), (18, 2)]) pSLawS_3_7E pSLawS_3_7P 112 rfl (by kernel_rfl) ?_)) <;> ((try with_reducible intro K1 hK1); simp only [go_sem, ↓reduceIte, reduceCtorEq, nA, nB, nC, nD, nE, nF, hlen, htk, hdr, hlb, hbk, hbd] <;> and_intros <;> first | (apply hK1; clear hK1 K1) | (intros; first | omega | decide | (simp_all <;> omega)) | skip))))
      refine (g_rounded 23 b h5 hkb ⟨hmb, by omega⟩).mono ?_
      rintro _ h6 rfl
      refine hK1 _ ?_; clear hK1 K1
      (repeat (first | refine gO (by decide) ?_ | ((first | refine gM (mdL [(4, 1), (5, 1), (6, 1), (18, 2)]) ?_ | (with_reducible refine wM ?_ ?_) | ((with_reducible refine xS ?_); refine uD 7 (mdL [(4, 1), (5, 1), (6, 1), (18, 2)]) pSLawS_3_7E pSLawS_3_7P 112 rfl (by kernel_rfl) ?_)) <;> ((try with_reducible intro K1 hK1); simp only [go_sem, ↓reduceIte, reduceCtorEq, nA, nB, nC, nD, nE, nF, hlen, htk, hdr, hlb, hbk, hbd] <;> and_intros <;> first | (apply hK1; clear hK1 K1) | (intros; first | omega | decide | (simp_all <;> omega)) | skip))))
      refine (hfb h6).mono ?_; rintro _ hz ⟨rfl, hh⟩; apply hK1; clear hK1 K1; rw [hh]; clear hh hz
      (repeat (first | refine gO (by decide) ?_ | ((first | refine gM (mdL [(4, 1), (5, 1), (6, 1), (18, 2)]) ?_ | (with_reducible refine wM ?_ ?_) | ((with_reducible refine xS ?_); refine uD 7 (mdL [(4, 1), (5, 1), (6, 1), (18, 2)]) pSLawS_3_7E pSLawS_3_7P 112 rfl (by kernel_rfl) ?_)) <;> ((try with_reducible intro K1 hK1); simp only [go_sem, ↓reduceIte, reduceCtorEq, nA, nB, nC, nD, nE, nF, hlen, htk, hdr, hlb, hbk, hbd] <;> and_intros <;> first | (apply hK1; clear hK1 K1) | (intros; first | omega | decide | (simp_all <;> omega)) | skip))))
      have hor := g_orG [faultF t, faultF b, rdE 23 t, rdE 23 b] h6 (by simp)
      rw [or_same] at hor
      refine hor.mono ?_; rintro _ hz ⟨rfl, hh⟩; apply hK1; clear hK1 K1; rw [hh]; clear hh hz
      have hA0 : sameE 23 t b ≠ 0 → sameA 23 t b = false := fun e => by rw [sameA, if_neg e]
      by_cases hE : sameE 23 t b = 0
      · obtain ⟨f1, f2, f3, f4⟩ := sameE_zero hE
        have hA1 : sameA 23 t b = sameS (roundS 23 t) (roundS 23 b) := by rw [sameA, if_pos hE]
        have hp1 : rdS 23 t = roundS 23 t := by rw [rdS, if_pos f1]
        have hp2 : rdS 23 b = roundS 23 b := by rw [rdS, if_pos f2]
        have hl1 := roundS_pos (vl_of 23 t hkt (part_of_fault f1)) f3
        have hl2 := roundS_pos (vl_of 23 b hkb (part_of_fault f2)) f4
        have hss := fun h => g_sameSteps (roundS 23 t) (roundS 23 b) h ⟨hl1, roundS_len 23 t⟩ ⟨hl2, roundS_len 23 b⟩
        rw [← hA1] at hss
        rw [hE, hp1, hp2]
        (repeat (first | refine gO (by decide) ?_ | ((first | refine gM (mdL [(4, 1), (5, 1), (6, 1), (18, 2)]) ?_ | (with_reducible refine wM ?_ ?_) | ((with_reducible refine xS ?_); refine uD 7 (mdL [(4, 1), (5, 1), (6, 1), (18, 2)]) pSLawS_3_7E pSLawS_3_7P 112 rfl (by kernel_rfl) ?_)) <;> ((try with_reducible intro K1 hK1); simp only [go_sem, ↓reduceIte, reduceCtorEq, nA, nB, nC, nD, nE, nF] <;> and_intros <;> first | (apply hK1; clear hK1 K1) | (intros; first | omega | decide | (simp_all <;> omega)) | skip))))
        refine awp_cond (t := _) rfl (fun h9 => by cases h9) (fun _ => ?_)
        have h00 : ((0 : Int) == 0) = true := rfl
        have hAA : (sameA 23 t b == sameA 23 t b) = true := by simp
        (repeat (first | refine gO (by decide) ?_ | ((first | refine gM (mdL [(4, 1), (5, 1), (6, 1), (18, 2)]) ?_ | (with_reducible refine wM ?_ ?_) | ((with_reducible refine xS ?_); refine uD 7 (mdL [(4, 1), (5, 1), (6, 1), (18, 2)]) pSLawS_3_7E pSLawS_3_7P 112 rfl (by kernel_rfl) ?_)) <;> ((try with_reducible intro K1 hK1); simp only [go_sem, ↓reduceIte, reduceCtorEq, nA, nB, nC, nD, nE, nF, h00, hAA] <;> and_intros <;> first | (apply hK1; clear hK1 K1) | (intros; first | omega | decide | (simp_all <;> omega)) | skip))))
        refine (hss _).mono ?_; rintro _ hz ⟨rfl, hh⟩; refine ⟨rfl, hK1 _ ?_⟩; clear hK1 K1; rw [hh]; clear hh hz
        (repeat (first | refine gO (by decide) ?_ | ((first | refine gM (mdL [(4, 1), (5, 1), (6, 1), (18, 2)]) ?_ | (with_reducible refine wM ?_ ?_) | ((with_reducible refine xS ?_); refine uD 7 (mdL [(4, 1), (5, 1), (6, 1), (18, 2)]) pSLawS_3_7E pSLawS_3_7P 112 rfl (by kernel_rfl) ?_)) <;> ((try with_reducible intro K1 hK1); simp only [go_sem, ↓reduceIte, reduceCtorEq, nA, nB, nC, nD, nE, nF, h00, hAA] <;> and_intros <;> first | (apply hK1; clear hK1 K1) | (intros; first | omega | decide | (simp_all <;> omega)) | skip))))
        refine (g_loopedG h6).mono ?_
        rintro _ h7 rfl
        refine ⟨rfl, hK1 _ ?_⟩; clear hK1 K1
        (repeat (first | refine gO (by decide) ?_ | ((first | refine gM (mdL [(4, 1), (5, 1), (6, 1), (18, 2)]) ?_ | (with_reducible refine wM ?_ ?_) | ((with_reducible refine xS ?_); refine uD 7 (mdL [(4, 1), (5, 1), (6, 1), (18, 2)]) pSLawS_3_7E pSLawS_3_7P 112 rfl (by kernel_rfl) ?_)) <;> ((try with_reducible intro K1 hK1); simp only [go_sem, ↓reduceIte, reduceCtorEq, nA, nB, nC, nD, nE, nF, h00, hAA] <;> and_intros <;> first | (apply hK1; clear hK1 K1) | (intros; first | omega | decide | (simp_all <;> omega)) | skip))))
        simp only [Tryz.results3, go_sem, ↓reduceIte, reduceCtorEq, nA, nB, nC, nD, nE, nF]
        exact ⟨_, _, Weak.refl _, Hp.le.refl _, rfl⟩
      · have hA := hA0 hE
        have he1 : (sameE 23 t b != 0) = true := by simpa using hE
        have he2 : (sameE 23 t b == sameE 23 t b) = true := by simp
        rw [hA]
        (repeat (first | refine gO (by decide) ?_ | ((first | refine gM (mdL [(4, 1), (5, 1), (6, 1), (18, 2)]) ?_ | (with_reducible refine wM ?_ ?_) | ((with_reducible refine xS ?_); refine uD 7 (mdL [(4, 1), (5, 1), (6, 1), (18, 2)]) pSLawS_3_7E pSLawS_3_7P 112 rfl (by kernel_rfl) ?_)) <;> ((try with_reducible intro K1 hK1); simp only [go_sem, ↓reduceIte, reduceCtorEq, nA, nB, nC, nD, nE, nF, he1] <;> and_intros <;> first | (apply hK1; clear hK1 K1) | (intros; first | omega | decide | (simp_all <;> omega)) | skip))))
        refine awp_cond (t := _) rfl (fun _ => ?_) (fun h9 => by cases h9)
        (repeat (first | refine gO (by decide) ?_ | ((first | refine gM (mdL [(4, 1), (5, 1), (6, 1), (18, 2)]) ?_ | (with_reducible refine wM ?_ ?_) | ((with_reducible refine xS ?_); refine uD 7 (mdL [(4, 1), (5, 1), (6, 1), (18, 2)]) pSLawS_3_7E pSLawS_3_7P 112 rfl (by kernel_rfl) ?_)) <;> ((try with_reducible intro K1 hK1); simp only [go_sem, ↓reduceIte, reduceCtorEq, nA, nB, nC, nD, nE, nF, he2] <;> and_intros <;> first | (apply hK1; clear hK1 K1) | (intros; first | omega | decide | (simp_all <;> omega)) | skip))))
        refine (g_loopedG h6).mono ?_
        rintro _ h7 rfl
        refine ⟨rfl, hK1 _ ?_⟩; clear hK1 K1
        (repeat (first | refine gO (by decide) ?_ | ((first | refine gM (mdL [(4, 1), (5, 1), (6, 1), (18, 2)]) ?_ | (with_reducible refine wM ?_ ?_) | ((with_reducible refine xS ?_); refine uD 7 (mdL [(4, 1), (5, 1), (6, 1), (18, 2)]) pSLawS_3_7E pSLawS_3_7P 112 rfl (by kernel_rfl) ?_)) <;> ((try with_reducible intro K1 hK1); simp only [go_sem, ↓reduceIte, reduceCtorEq, nA, nB, nC, nD, nE, nF, he2] <;> and_intros <;> first | (apply hK1; clear hK1 K1) | (intros; first | omega | decide | (simp_all <;> omega)) | skip))))
        simp only [Tryz.results3, go_sem, ↓reduceIte, reduceCtorEq, nA, nB, nC, nD, nE, nF]
        exact ⟨_, _, Weak.refl _, Hp.le.refl _, rfl⟩
end Go.Proofs.YtoleejecmefogaaGreatDoor
namespace Go.Proofs.YtoleejecmefogaaGreatDoor.loopsShrinkDone
open Go.ChangeShapes Go.WideShapes Go.ChangeAt Go.RowKit
set_option linter.unusedVariables false
set_option linter.unusedSimpArgs false
theorem own : ownKnob Tryz.prog.godebug = none := by kernel_rfl
theorem laidOut : laidOutB Tryz.prog = true := by kernel_rfl
set_option maxRecDepth 100000 in
theorem lifted (os : Os) (started : os.Started) (H : Type) (enc : TypeId × Value → H) :
    ReturnsInHanded {} Tryz.checked os 3 .any (fun w args => (Rows.loopsShrinkSpec.pre enc Tryz.prog Tryz.f3 [] false w args ∧ laidMetH Tryz.prog Rows.loopsShrinkRow.laid w) ∧ sizedMet enc Tryz.prog Tryz.f3 (OpenSpec.ofChange Rows.loopsShrinkSpec) false w args)
      (Rows.loopsShrinkSpec.post enc Tryz.prog Tryz.f3 false true false false) := by
  refine returnsInHanded_of_change_and (C := Tryz.checked) (X := fun w _ => laidMetH Tryz.prog Rows.loopsShrinkRow.laid w) (fun _ _ _ hh h => h.of_heap hh) own started (by kernel_rfl) Tryz.func3
    (ChangeSpec.witness_shaped (enc := enc) (C := Tryz.checked) (os := os) (X := fun w _ => laidMetH Tryz.prog Rows.loopsShrinkRow.laid w) false (World.laidAll Tryz.prog os Rows.loopsShrinkRow.laid) #[.slice none 0 0] 8 (World.laidAll_os _ _ _)
      (World.shaped_of_ZipB (by kernel_rfl) (by kernel_rfl)) (by kernel_rfl) (by kernel_rfl) (by kernel_rfl)
      (by rw [MakeChecks.laidMetH_plain _ _ _ (by kernel_rfl)]; exact laidMet_laidAll _ (by kernel_rfl) (by kernel_rfl))) ?_
  intro W base args ds gs before hval0 hW _ _ hL _
  have hval : ∀ (j : Nat) t v, Tryz.f3.params[j]? = some t → args[j]? = some v → Value.okWide Tryz.prog W .any base t v := hval0
  have hW' := hW
  obtain ⟨p, q, hA0, hV, rfl, hfz, hnd⟩ := hW
  have hA : DataW.TrodAll enc Tryz.prog W 0 (fun _ => true) true Tryz.f3.params.toList args.toList ds p := hA0
  rw [Tryz.params3] at hA hval
  obtain ⟨v0, vs0, d0, ds0, p0, q0, hargs, rfl, rfl, h0, r0⟩ := trodAll_cons hA
  obtain ⟨rfl, rfl, rfl⟩ := trodAll_nil r0
  obtain rfl : args = #[v0] := by cases args; simp_all
  obtain ⟨rfl, rfl⟩ := trodVars_none hV
  obtain ⟨a0, len0, cap0, rfl⟩ := okWide_slice Tryz.underlying22 (hval 0 22 v0 rfl rfl)
  have k0 := h0
  have lt0 : ∀ x ∈ p0, x.block < W.heap.size := by obtain ⟨m, hm⟩ := k0; exact DataW.trod_lt m _ _ _ hm
  obtain ⟨z0, w0⟩ : ∃ zs, ARow W a0 len0 cap0 zs := by
    obtain ⟨fuel, hf⟩ := h0
    rcases open_ints Tryz.underlying22 Tryz.underlying3 (by kernel_rfl) hf with ⟨hcs, _⟩ | ⟨x, l, c, zs, hcs, _, hl, hm, hz, hpe, hcell, hwz⟩
    · simp [Value.cells] at hcs
      obtain ⟨rfl, rfl, rfl⟩ := hcs
      exact ⟨[], .inl ⟨rfl, rfl, rfl, rfl⟩⟩
    · simp [Value.cells] at hcs
      obtain ⟨rfl, rfl, rfl⟩ := hcs
      have hp0 : p0 = MemPlace.row x zs.length := (Prod.mk.inj hpe).2
      refine ⟨zs, .inr ⟨_, rfl, hl, hm, by simpa using hz, fun i hi => ⟨hcell i hi, ?_⟩, hwz⟩⟩
      have h1 := hcell 0 (by omega)
      obtain ⟨b, o, sp⟩ := x
      rw [show (⟨b, o, sp⟩ : Addr).add 0 = ⟨b, o, sp⟩ from rfl] at h1
      cases sp with
      | none => rw [Addr.add_lit]; exact hfz b (o + i) (by rw [hp0]; simp only [MemPlace.row, List.append_nil]; exact List.mem_map.2 ⟨i, List.mem_range.2 hi, rfl⟩)
      | some s =>
        simp only [World.cell?] at h1
        split at h1 <;> simp at h1
  clear hA0 hval0
  refine (law_calls g_lawShrink a0 len0 cap0 z0 W w0).mono fun e W' ⟨he, bel⟩ => ?_
  subst he
  exact ⟨_, rfl, _, _, _, [], _, [], hW', trodAll_mk1 (shut_bool Tryz.underlying4 _), (trodAll_cons_mk (Below.trod laidOut (by kernel_rfl) (of_decide_eq_true (by kernel_rfl)) k0 bel lt0) trodAll_mk0), rfl, bel.frame _, fun h => by cases h⟩
theorem said : Rows.LoopsShrinkSaid :=
  OpenClaim.holds_of_wide 3 Tryz.f3 rfl rfl rfl rfl rfl rfl rfl ⟨rfl, rfl, rfl, rfl, rfl⟩ rfl rfl rfl rfl rfl (by kernel_rfl) Tryz.func3 (by kernel_rfl)
    (of_decide_eq_true (by kernel_rfl)) (by unfold Func.isWrapper; first | (rw [if_pos (by decide +kernel)]; kernel_rfl) | (rw [if_neg (by decide +kernel)]; exact ⟨rfl, rfl⟩))
    (fun os started H enc _ => lifted os started H enc)
theorem plain (f : FuncId) (fn : Func) (hf : Tryz.pinned.checked.prog.funcNamed "signboard/signlaw1.LoopsShrink" = some f) (hfn : Tryz.pinned.checked.prog.funcs[f]? = some fn) :
    true = Tryz.pinned.checked.prog.looks [] ∧ ∀ (j : Nat) t, fn.params[j]? = some t → Tryz.pinned.checked.prog.wantsStandIn t = false := by
  obtain rfl : f = 3 := Option.some.inj ((show Tryz.prog.funcNamed "signboard/signlaw1.LoopsShrink" = some 3 by kernel_rfl).symm.trans hf) |>.symm
  obtain rfl : fn = Tryz.f3 := (Option.some.inj (Tryz.func3.symm.trans hfn)).symm
  refine ⟨by kernel_rfl, fun j t ht => ?_⟩
  rw [Tryz.params3] at ht
  obtain rfl : t = 22 := by simpa using Array.mem_of_getElem? ht
  exact (show Tryz.prog.wantsStandIn 22 = false by kernel_rfl)
theorem card : Rows.LoopsShrinkCardSaid :=
  Claim7.holds_tied_plain_at .later [] _ _ _ _ said (fun _ h => by cases h) (by kernel_rfl) (fun _ h => by cases h) loopsShrink_row_tie rfl ⟨rfl, rfl⟩ (by kernel_rfl) rfl plain (by kernel_rfl)
end Go.Proofs.YtoleejecmefogaaGreatDoor.loopsShrinkDone
