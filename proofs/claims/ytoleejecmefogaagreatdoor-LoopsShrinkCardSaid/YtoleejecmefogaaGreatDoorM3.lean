/- Same, SameSteps, rounded. -/
import Derived.Test.YtoleejecmefogaaGreatDoorM2
import Derived.Test.YtoleejecmefogaaGreatDoorAvFz
namespace Go.Proofs.YtoleejecmefogaaGreatDoor
open Go
set_option linter.unusedVariables false
set_option linter.unusedSimpArgs false
open Nat renaming reduceAdd → nA, reduceSub → nB, reduceMul → nC, reduceLT → nD, reduceLeDiff → nE, reduceEqDiff → nF
abbrev pSSteps_18_4E : List Nat := [0, 1, 2, 3, 4, 5, 6, 7, 8, 9, 10, 11, 12, 13, 14]
abbrev pSSteps_18_4P : List (Nat × List Nat × List Nat) := []
abbrev pSSteps_14_14E : List Nat := [0, 1, 2, 3, 4, 5, 6, 7]
abbrev pSSteps_14_14P : List (Nat × List Nat × List Nat) := []
abbrev pSSteps_14_18E : List Nat := [0, 1, 2, 3, 4, 5, 6, 7, 8, 9, 10, 11, 12, 13, 14]
abbrev pSSteps_14_18P : List (Nat × List Nat × List Nat) := []
attribute [go_sem] pSSteps_18_4E pSSteps_18_4P pSSteps_14_14E pSSteps_14_14P pSSteps_14_18E pSSteps_14_18P
set_option maxRecDepth 100000
set_option maxHeartbeats 8000000
def stepEq (x y : ByteArray × Int) : Bool := x.1 == y.1 && x.2 == y.2
def sameTo (xs ys : List (ByteArray × Int)) (j : Nat) : Bool := (List.range j).all fun i => stepEq (xs.getD (i % xs.length) default) (ys.getD (i % ys.length) default)
def sameS (xs ys : List (ByteArray × Int)) : Bool := sameTo xs ys (xs.length + ys.length)
theorem sameTo_succ (xs ys : List (ByteArray × Int)) (j : Nat) : sameTo xs ys (j + 1) = (sameTo xs ys j && stepEq (xs.getD (j % xs.length) default) (ys.getD (j % ys.length) default)) := by
  rw [sameTo, List.range_succ, List.all_append]; simp [sameTo]
theorem sameTo_false {xs ys : List (ByteArray × Int)} {j : Nat} (h : stepEq (xs.getD (j % xs.length) default) (ys.getD (j % ys.length) default) = false) {n : Nat} (hj : j < n) : sameTo xs ys n = false := by
  rw [sameTo, List.all_eq_false]
  exact ⟨j, by simpa using hj, by rw [h]; simp⟩
theorem g_sameSteps (xs ys : List (ByteArray × Int)) (h : Hp) (hx : 1 ≤ xs.length ∧ xs.length ≤ 5000) (hy : 1 ≤ ys.length ∧ ys.length ≤ 5000) : ACalls Tryz.prog 18 [.row 2 (xs.map encStep) none, .row 2 (ys.map encStep) none] h (fun r h' => r = .v (.bool (sameS xs ys)) ∧ h' = h) := by
  refine gE Tryz.func18 rfl (by kernel_rfl) 28 rfl fun c => ?_
  (repeat (first | refine gO (by decide) ?_ | ((first | refine gR ?_ | (with_reducible refine wM ?_ ?_) | ((with_reducible refine xS ?_); refine uD 4 (mdL []) pSSteps_18_4E pSSteps_18_4P 30 rfl (by kernel_rfl) ?_)) <;> ((try with_reducible intro K1 hK1); simp only [go_sem, ↓reduceIte, reduceCtorEq, nA, nB, nC, nD, nE, nF] <;> and_intros <;> first | (apply hK1; clear hK1 K1) | (intros; first | omega | decide | (simp_all <;> omega)) | skip))))
  refine awp_loopC (rl false [0, 2, 8, 2, 18]) 0 (fun g s => ∃ j : Nat, g + j = xs.length + ys.length ∧ sameTo xs ys j = true ∧
    s = ⟨((.row 2 (xs.map encStep) none) :: (.row 2 (ys.map encStep) none) :: (jnk 8 ((.v (.int .i64 ((xs.length : Int) + ys.length))) :: (.v (.int .i64 j)) :: (jnk 18 [])))), [], h⟩) (xs.length + ys.length) ⟨0, by omega, rfl, rfl⟩ ?_
  rintro g _ ⟨j, hj, hs, rfl⟩
  (repeat (first | refine gO (by decide) ?_ | ((first | refine gR ?_ | (with_reducible refine wM ?_ ?_) | ((with_reducible refine xS ?_); refine uD 4 (mdL []) pSSteps_18_4E pSSteps_18_4P 30 rfl (by kernel_rfl) ?_)) <;> ((try with_reducible intro K1 hK1); simp only [go_sem, ↓reduceIte, reduceCtorEq, nA, nB, nC, nD, nE, nF] <;> and_intros <;> first | (apply hK1; clear hK1 K1) | (intros; first | omega | decide | (simp_all <;> omega)) | skip))))
  refine awp_cond (t := _) rfl (fun h9 => ?_) (fun h9 => ?_)
  · simp only [decide_eq_true_eq] at h9
    have hm1 : (j : Int).tmod (xs.length : Int) = ((j % xs.length : Nat) : Int) := rfl
    have hm2 : (j : Int).tmod (ys.length : Int) = ((j % ys.length : Nat) : Int) := rfl
    have hl1 := Nat.mod_lt j (show 0 < xs.length by omega)
    have hl2 := Nat.mod_lt j (show 0 < ys.length by omega)
    have hg1 : (xs.map encStep).getD (j % xs.length) [] = encStep (xs.getD (j % xs.length) default) := getD_enc encStep xs _ default hl1
    have hg2 : (ys.map encStep).getD (j % ys.length) [] = encStep (ys.getD (j % ys.length) default) := getD_enc encStep ys _ default hl2
    have hsu := sameTo_succ xs ys j
    have hsf := fun h => sameTo_false (xs := xs) (ys := ys) (j := j) h (n := xs.length + ys.length) (by omega)
    generalize xs.getD (j % xs.length) default = x at hg1 hsu hsf
    generalize ys.getD (j % ys.length) default = y at hg2 hsu hsf
    (repeat (first | refine gO (by decide) ?_ | ((first | refine gR ?_ | (with_reducible refine wM ?_ ?_) | ((with_reducible refine xS ?_); refine uD 4 (mdL []) pSSteps_18_4E pSSteps_18_4P 30 rfl (by kernel_rfl) ?_)) <;> ((try with_reducible intro K1 hK1); simp only [go_sem, ↓reduceIte, reduceCtorEq, nA, nB, nC, nD, nE, nF, hm1, hm2, Int.toNat_natCast, hg1, hg2, encStep] <;> and_intros <;> first | (apply hK1; clear hK1 K1) | (intros; first | omega | decide | (simp_all <;> omega)) | skip))))
    refine awp_cond (t := _) rfl (fun h8 => ?_) (fun h8 => ?_)
    · have e8 : stepEq x y = false := by rw [stepEq]; revert h8; cases (x.1 == y.1) <;> cases (x.2 == y.2) <;> simp
      (repeat (first | refine gO (by decide) ?_ | ((first | refine gR ?_ | (with_reducible refine wM ?_ ?_) | ((with_reducible refine xS ?_); refine uD 4 (mdL []) pSSteps_18_4E pSSteps_18_4P 30 rfl (by kernel_rfl) ?_)) <;> ((try with_reducible intro K1 hK1); simp only [go_sem, ↓reduceIte, reduceCtorEq, nA, nB, nC, nD, nE, nF] <;> and_intros <;> first | (apply hK1; clear hK1 K1) | (intros; first | omega | decide | (simp_all <;> omega)) | skip))))
      simp only [Tryz.results18, go_sem, ↓reduceIte, reduceCtorEq, nA, nB, nC, nD, nE, nF]
      exact ⟨_, _, Weak.refl _, Hp.le.refl _, by rw [sameS, hsf e8], rfl⟩
    · have e8 : stepEq x y = true := by rw [stepEq]; revert h8; cases (x.1 == y.1) <;> cases (x.2 == y.2) <;> simp
      (repeat (first | refine gO (by decide) ?_ | ((first | refine gR ?_ | (with_reducible refine wM ?_ ?_) | ((with_reducible refine xS ?_); refine uD 4 (mdL []) pSSteps_18_4E pSSteps_18_4P 30 rfl (by kernel_rfl) ?_)) <;> ((try with_reducible intro K1 hK1); simp only [go_sem, ↓reduceIte, reduceCtorEq, nA, nB, nC, nD, nE, nF] <;> and_intros <;> first | (apply hK1; clear hK1 K1) | (intros; first | omega | decide | (simp_all <;> omega)) | skip))))
      exact ⟨g - 1, by omega, j + 1, by omega, by rw [hsu, hs, e8]; rfl, rfl⟩
  · simp only [decide_eq_false_iff_not] at h9
    have hjn : j = xs.length + ys.length := by omega
    subst hjn
    (repeat (first | refine gO (by decide) ?_ | ((first | refine gR ?_ | (with_reducible refine wM ?_ ?_) | ((with_reducible refine xS ?_); refine uD 4 (mdL []) pSSteps_18_4E pSSteps_18_4P 30 rfl (by kernel_rfl) ?_)) <;> ((try with_reducible intro K1 hK1); simp only [go_sem, ↓reduceIte, reduceCtorEq, nA, nB, nC, nD, nE, nF] <;> and_intros <;> first | (apply hK1; clear hK1 K1) | (intros; first | omega | decide | (simp_all <;> omega)) | skip))))
    simp only [Tryz.results18, go_sem, ↓reduceIte, reduceCtorEq, nA, nB, nC, nD, nE, nF]
    exact ⟨_, _, Weak.refl _, Hp.le.refl _, by rw [sameS, hs], rfl⟩
theorem part_of_fault {t : LT} (h : faultF t = 0) : partF t = 0 := by
  unfold faultF at h
  split at h
  · cases h
  · exact h
noncomputable def rdE (d : Nat) (t : LT) : Int := if faultF t = 0 then roundE d t else faultF t
noncomputable def rdN (d : Nat) (t : LT) : Nat := if faultF t = 0 then roundN d t else 0
noncomputable def rdS (d : Nat) (t : LT) : List (ByteArray × Int) := if faultF t = 0 then roundS d t else []
theorem g_rounded (d : Nat) (t : LT) (h : Hp) (hb : KC d t) (hd : manyF t ≤ 1000000000000000 ∧ d ≤ 1000) : ACalls Tryz.prog 15 [.agg (encL t)] h (fun r _ => r = .tup [.v (.int .i64 (rdN d t : Nat)), .row 2 ((rdS d t).map encStep) none, .v (.int .i64 (rdE d t))]) := by
  have hlen := encL_len t
  have htk : List.take 6 (encL t) = encL t := List.take_of_length_le (Nat.le_of_eq hlen)
  have hdk : List.drop 6 (encL t) = [] := List.drop_of_length_le (Nat.le_of_eq hlen)
  unfold rdE rdN rdS
  refine gE Tryz.func15 rfl (by kernel_rfl) 15 rfl fun c => ?_
  (repeat (first | refine gO (by decide) ?_ | (refine gR fun K1 hK1 => ?_; simp only [go_sem, ↓reduceIte, reduceCtorEq, nA, nB, nC, nD, nE, nF, hlen, htk, hdk] <;> and_intros <;> first | (apply hK1; clear hK1 K1) | (intros; first | omega | decide | (simp_all <;> omega)) | skip)))
  refine (g_fault6 d t h hb hd).mono ?_; rintro _ hz ⟨rfl, hh⟩; apply hK1; clear hK1 K1; rw [hh]; clear hh hz
  (repeat (first | refine gO (by decide) ?_ | (refine gR fun K1 hK1 => ?_; simp only [go_sem, ↓reduceIte, reduceCtorEq, nA, nB, nC, nD, nE, nF, hlen, htk, hdk] <;> and_intros <;> first | (apply hK1; clear hK1 K1) | (intros; first | omega | decide | (simp_all <;> omega)) | skip)))
  by_cases hf : faultF t = 0
  · have hv := vl_of d t hb (part_of_fault hf)
    rw [if_pos hf, if_pos hf, if_pos hf]
    refine awp_cond (t := _) rfl (fun h9 => by simp [hf] at h9) (fun _ => ?_)
    (repeat (first | refine gO (by decide) ?_ | (refine gR fun K1 hK1 => ?_; simp only [go_sem, ↓reduceIte, reduceCtorEq, nA, nB, nC, nD, nE, nF, hlen, htk, hdk] <;> and_intros <;> first | (apply hK1; clear hK1 K1) | (intros; first | omega | decide | (simp_all <;> omega)) | skip)))
    refine (g_roundR d t h hb hv).mono ?_
    rintro _ h2 rfl
    refine hK1 _ ?_; clear hK1 K1
    (repeat (first | refine gO (by decide) ?_ | (refine gR fun K1 hK1 => ?_; simp only [go_sem, ↓reduceIte, reduceCtorEq, nA, nB, nC, nD, nE, nF] <;> and_intros <;> first | (apply hK1; clear hK1 K1) | (intros; first | omega | decide | (simp_all <;> omega)) | skip)))
    simp only [Tryz.results15, go_sem, ↓reduceIte, reduceCtorEq, nA, nB, nC, nD, nE, nF]
    exact ⟨_, _, Weak.refl _, Hp.le.refl _, rfl⟩
  · rw [if_neg hf, if_neg hf, if_neg hf]
    refine awp_cond (t := _) rfl (fun _ => ?_) (fun h9 => by simp [hf] at h9)
    (repeat (first | refine gO (by decide) ?_ | (refine gR fun K1 hK1 => ?_; simp only [go_sem, ↓reduceIte, reduceCtorEq, nA, nB, nC, nD, nE, nF] <;> and_intros <;> first | (apply hK1; clear hK1 K1) | (intros; first | omega | decide | (simp_all <;> omega)) | skip)))
    simp only [Tryz.results15, go_sem, ↓reduceIte, reduceCtorEq, nA, nB, nC, nD, nE, nF]
    exact ⟨_, _, Weak.tup3 (Weak.refl _) (Weak.nil 2 0 0 ⟨rfl, rfl⟩) (Weak.refl _), Hp.le.refl _, rfl⟩
noncomputable def sameE (d : Nat) (a b : LT) : Int := if faultF a ≠ 0 then faultF a else if faultF b ≠ 0 then faultF b else if roundE d a ≠ 0 then roundE d a else roundE d b
noncomputable def sameA (d : Nat) (a b : LT) : Bool := if sameE d a b = 0 then sameS (roundS d a) (roundS d b) else false
theorem g_same2 (d : Nat) (a b : LT) (h : Hp) (ha : KC d a) (hda : manyF a ≤ 1000000000000000 ∧ d ≤ 1000) (hb : KC d b) (hdb : manyF b ≤ 1000000000000000) : ACalls Tryz.prog 14 [.agg (encL a), .agg (encL b)] h (fun r _ => r = .tup [.v (.bool (sameA d a b)), .v (.int .i64 (sameE d a b))]) := by
  have hca := fun h => g_check7 d a h ha hda
  have hcb := fun h => g_check7 d b h hb ⟨hdb, hda.2⟩
  have hra := fun h hf => g_roundP d a h ha (vl_of d a ha (part_of_fault hf)) (il_of d a (part_of_fault hf))
  have hrb := fun h hf => g_roundP d b h hb (vl_of d b hb (part_of_fault hf)) (il_of d b (part_of_fault hf))
  have hpa := fun hf e => roundS_pos (vl_of d a ha (part_of_fault hf)) e
  have hpb := fun hf e => roundS_pos (vl_of d b hb (part_of_fault hf)) e
  have hla := roundS_len d a
  have hlb := roundS_len d b
  have hE1 : faultF a ≠ 0 → sameE d a b = faultF a := fun e => by rw [sameE, if_pos e]
  have hE2 : faultF a = 0 → faultF b ≠ 0 → sameE d a b = faultF b := fun e e2 => by rw [sameE, if_neg (by simpa using e), if_pos e2]
  have hE3 : faultF a = 0 → faultF b = 0 → roundE d a ≠ 0 → sameE d a b = roundE d a := fun e e2 e3 => by rw [sameE, if_neg (by simpa using e), if_neg (by simpa using e2), if_pos e3]
  have hE4 : faultF a = 0 → faultF b = 0 → roundE d a = 0 → sameE d a b = roundE d b := fun e e2 e3 => by rw [sameE, if_neg (by simpa using e), if_neg (by simpa using e2), if_neg (by simpa using e3)]
  have hA0 : sameE d a b ≠ 0 → sameA d a b = false := fun e => by rw [sameA, if_neg e]
  have hA1 : sameE d a b = 0 → sameA d a b = sameS (roundS d a) (roundS d b) := fun e => by rw [sameA, if_pos e]
  have hrca : roundC d a = [.v (.int .i64 (roundN d a : Nat)), .row 2 ((roundS d a).map encStep) none, .v (.int .i64 ((roundS d a).map (·.2)).sum)] := rfl
  have hrcb : roundC d b = [.v (.int .i64 (roundN d b : Nat)), .row 2 ((roundS d b).map encStep) none, .v (.int .i64 ((roundS d b).map (·.2)).sum)] := rfl
  generalize faultF a = fa at *
  generalize faultF b = fb at *
  generalize roundC d a = ca at *
  generalize roundC d b = cb at *
  subst hrca hrcb
  generalize roundS d a = xs at *
  generalize roundS d b = ys at *
  generalize roundN d a = na at *
  generalize roundN d b = nb at *
  generalize roundE d a = ea at *
  generalize roundE d b = eb at *
  generalize sameE d a b = E at *
  generalize sameA d a b = B at *
  generalize (xs.map (·.2)).sum = sa at *
  generalize (ys.map (·.2)).sum = sb at *
  clear ha hda hb hdb
  obtain ⟨k, i, l, m, ks, s⟩ := a
  obtain ⟨k2, i2, l2, m2, ks2, s2⟩ := b
  simp only [encL_eq] at hca hcb hra hrb ⊢
  refine gE Tryz.func14 rfl (by kernel_rfl) 69 rfl fun c => ?_
  (repeat (first | refine gO (by decide) ?_ | ((first | refine gM (mdL [(7, 1), (9, 1), (11, 1)]) ?_ | (with_reducible refine wM ?_ ?_) | ((with_reducible refine xS ?_); refine uD 14 (mdL [(7, 1), (9, 1), (11, 1)]) pSSteps_14_14E pSSteps_14_14P 71 rfl (by kernel_rfl) ?_) | ((with_reducible refine xS ?_); refine uD 18 (mdL [(7, 1), (9, 1), (11, 1)]) pSSteps_14_18E pSSteps_14_18P 71 rfl (by kernel_rfl) ?_)) <;> ((try with_reducible intro K1 hK1); simp only [go_sem, ↓reduceIte, reduceCtorEq, nA, nB, nC, nD, nE, nF] <;> and_intros <;> first | (apply hK1; clear hK1 K1) | (intros; first | omega | decide | (simp_all <;> omega)) | skip))))
  refine awp_loopC (rl false [2, 2, 13, 2, 52]) 0 (fun g S => ∃ j : Nat, g + j = 2 ∧ (1 ≤ j → fa = 0) ∧ (2 ≤ j → fb = 0) ∧
    S = ⟨(AV.junk :: AV.junk :: ((.ref [.v (.int .i64 k), .v (.string i), .v (.int .i64 l), .v (.int .i64 m), .row 6 (ks.map encL) none, .row 1 (s.map encI) none] 0) :: (.ref [.v (.int .i64 k2), .v (.string i2), .v (.int .i64 l2), .v (.int .i64 m2), .row 6 (ks2.map encL) none, .row 1 (s2.map encI) none] 0) :: (jnk 13 ((.agg [.v (.int .i64 k), .v (.string i), .v (.int .i64 l), .v (.int .i64 m), .row 6 (ks.map encL) none, .row 1 (s.map encI) none, .v (.int .i64 k2), .v (.string i2), .v (.int .i64 l2), .v (.int .i64 m2), .row 6 (ks2.map encL) none, .row 1 (s2.map encI) none]) :: (.v (.int .i64 j)) :: (jnk 52 []))))), [], h⟩) 2 ⟨0, by omega, by omega, by omega, rfl⟩ ?_
  rintro g _ ⟨j, hj, hj1, hj2, rfl⟩
  (repeat (first | refine gO (by decide) ?_ | ((first | refine gM (mdL [(7, 1), (9, 1), (11, 1)]) ?_ | (with_reducible refine wM ?_ ?_) | ((with_reducible refine xS ?_); refine uD 14 (mdL [(7, 1), (9, 1), (11, 1)]) pSSteps_14_14E pSSteps_14_14P 71 rfl (by kernel_rfl) ?_) | ((with_reducible refine xS ?_); refine uD 18 (mdL [(7, 1), (9, 1), (11, 1)]) pSSteps_14_18E pSSteps_14_18P 71 rfl (by kernel_rfl) ?_)) <;> ((try with_reducible intro K1 hK1); simp only [go_sem, ↓reduceIte, reduceCtorEq, nA, nB, nC, nD, nE, nF] <;> and_intros <;> first | (apply hK1; clear hK1 K1) | (intros; first | omega | decide | (simp_all <;> omega)) | skip))))
  rcases (show j = 0 ∨ j = 1 ∨ j = 2 by omega) with rfl | rfl | rfl
  · refine awp_cond (t := _) rfl (fun _ => ?_) (fun h9 => by simp at h9)
    (repeat (first | refine gO (by decide) ?_ | ((first | refine gM (mdL [(7, 1), (9, 1), (11, 1)]) ?_ | (with_reducible refine wM ?_ ?_) | ((with_reducible refine xS ?_); refine uD 14 (mdL [(7, 1), (9, 1), (11, 1)]) pSSteps_14_14E pSSteps_14_14P 71 rfl (by kernel_rfl) ?_) | ((with_reducible refine xS ?_); refine uD 18 (mdL [(7, 1), (9, 1), (11, 1)]) pSSteps_14_18E pSSteps_14_18P 71 rfl (by kernel_rfl) ?_)) <;> ((try with_reducible intro K1 hK1); simp only [go_sem, ↓reduceIte, reduceCtorEq, nA, nB, nC, nD, nE, nF, Int.natCast_zero, Int.toNat_zero, Nat.zero_mul, List.drop_zero, List.take_succ_cons, List.take_zero] <;> and_intros <;> first | (apply hK1; clear hK1 K1) | (intros; first | omega | decide | (simp_all <;> omega)) | skip))))
    refine (hca h).mono ?_; rintro _ hz ⟨rfl, hh⟩; apply hK1; clear hK1 K1; rw [hh]; clear hh hz
    (repeat (first | refine gO (by decide) ?_ | ((first | refine gM (mdL [(7, 1), (9, 1), (11, 1)]) ?_ | (with_reducible refine wM ?_ ?_) | ((with_reducible refine xS ?_); refine uD 14 (mdL [(7, 1), (9, 1), (11, 1)]) pSSteps_14_14E pSSteps_14_14P 71 rfl (by kernel_rfl) ?_) | ((with_reducible refine xS ?_); refine uD 18 (mdL [(7, 1), (9, 1), (11, 1)]) pSSteps_14_18E pSSteps_14_18P 71 rfl (by kernel_rfl) ?_)) <;> ((try with_reducible intro K1 hK1); simp only [go_sem, ↓reduceIte, reduceCtorEq, nA, nB, nC, nD, nE, nF] <;> and_intros <;> first | (apply hK1; clear hK1 K1) | (intros; first | omega | decide | (simp_all <;> omega)) | skip))))
    by_cases e : fa = 0
    · subst e
      refine awp_cond (t := _) rfl (fun h9 => by simp at h9) (fun _ => ?_)
      (repeat (first | refine gO (by decide) ?_ | ((first | refine gM (mdL [(7, 1), (9, 1), (11, 1)]) ?_ | (with_reducible refine wM ?_ ?_) | ((with_reducible refine xS ?_); refine uD 14 (mdL [(7, 1), (9, 1), (11, 1)]) pSSteps_14_14E pSSteps_14_14P 71 rfl (by kernel_rfl) ?_) | ((with_reducible refine xS ?_); refine uD 18 (mdL [(7, 1), (9, 1), (11, 1)]) pSSteps_14_18E pSSteps_14_18P 71 rfl (by kernel_rfl) ?_)) <;> ((try with_reducible intro K1 hK1); simp only [go_sem, ↓reduceIte, reduceCtorEq, nA, nB, nC, nD, nE, nF] <;> and_intros <;> first | (apply hK1; clear hK1 K1) | (intros; first | omega | decide | (simp_all <;> omega)) | skip))))
      exact ⟨1, by omega, 1, rfl, fun _ => rfl, by omega, rfl⟩
    · refine awp_cond (t := _) rfl (fun _ => ?_) (fun h9 => by simp [e] at h9)
      (repeat (first | refine gO (by decide) ?_ | ((first | refine gM (mdL [(7, 1), (9, 1), (11, 1)]) ?_ | (with_reducible refine wM ?_ ?_) | ((with_reducible refine xS ?_); refine uD 14 (mdL [(7, 1), (9, 1), (11, 1)]) pSSteps_14_14E pSSteps_14_14P 71 rfl (by kernel_rfl) ?_) | ((with_reducible refine xS ?_); refine uD 18 (mdL [(7, 1), (9, 1), (11, 1)]) pSSteps_14_18E pSSteps_14_18P 71 rfl (by kernel_rfl) ?_)) <;> ((try with_reducible intro K1 hK1); simp only [go_sem, ↓reduceIte, reduceCtorEq, nA, nB, nC, nD, nE, nF] <;> and_intros <;> first | (apply hK1; clear hK1 K1) | (intros; first | omega | decide | (simp_all <;> omega)) | skip))))
      simp only [Tryz.results14, go_sem, ↓reduceIte, reduceCtorEq, nA, nB, nC, nD, nE, nF]
      exact ⟨_, _, Weak.refl _, Hp.le.refl _, by rw [hA0 (by rw [hE1 e]; exact e), hE1 e]⟩
  · obtain rfl := hj1 (by omega)
    refine awp_cond (t := _) rfl (fun _ => ?_) (fun h9 => by simp at h9)
    (repeat (first | refine gO (by decide) ?_ | ((first | refine gM (mdL [(7, 1), (9, 1), (11, 1)]) ?_ | (with_reducible refine wM ?_ ?_) | ((with_reducible refine xS ?_); refine uD 14 (mdL [(7, 1), (9, 1), (11, 1)]) pSSteps_14_14E pSSteps_14_14P 71 rfl (by kernel_rfl) ?_) | ((with_reducible refine xS ?_); refine uD 18 (mdL [(7, 1), (9, 1), (11, 1)]) pSSteps_14_18E pSSteps_14_18P 71 rfl (by kernel_rfl) ?_)) <;> ((try with_reducible intro K1 hK1); simp only [go_sem, ↓reduceIte, reduceCtorEq, nA, nB, nC, nD, nE, nF, Int.natCast_one, Int.toNat_one, Nat.one_mul, List.drop_succ_cons, List.drop_zero, List.take_succ_cons, List.take_zero] <;> and_intros <;> first | (apply hK1; clear hK1 K1) | (intros; first | omega | decide | (simp_all <;> omega)) | skip))))
    refine (hcb h).mono ?_; rintro _ hz ⟨rfl, hh⟩; apply hK1; clear hK1 K1; rw [hh]; clear hh hz
    (repeat (first | refine gO (by decide) ?_ | ((first | refine gM (mdL [(7, 1), (9, 1), (11, 1)]) ?_ | (with_reducible refine wM ?_ ?_) | ((with_reducible refine xS ?_); refine uD 14 (mdL [(7, 1), (9, 1), (11, 1)]) pSSteps_14_14E pSSteps_14_14P 71 rfl (by kernel_rfl) ?_) | ((with_reducible refine xS ?_); refine uD 18 (mdL [(7, 1), (9, 1), (11, 1)]) pSSteps_14_18E pSSteps_14_18P 71 rfl (by kernel_rfl) ?_)) <;> ((try with_reducible intro K1 hK1); simp only [go_sem, ↓reduceIte, reduceCtorEq, nA, nB, nC, nD, nE, nF] <;> and_intros <;> first | (apply hK1; clear hK1 K1) | (intros; first | omega | decide | (simp_all <;> omega)) | skip))))
    by_cases e : fb = 0
    · subst e
      refine awp_cond (t := _) rfl (fun h9 => by simp at h9) (fun _ => ?_)
      (repeat (first | refine gO (by decide) ?_ | ((first | refine gM (mdL [(7, 1), (9, 1), (11, 1)]) ?_ | (with_reducible refine wM ?_ ?_) | ((with_reducible refine xS ?_); refine uD 14 (mdL [(7, 1), (9, 1), (11, 1)]) pSSteps_14_14E pSSteps_14_14P 71 rfl (by kernel_rfl) ?_) | ((with_reducible refine xS ?_); refine uD 18 (mdL [(7, 1), (9, 1), (11, 1)]) pSSteps_14_18E pSSteps_14_18P 71 rfl (by kernel_rfl) ?_)) <;> ((try with_reducible intro K1 hK1); simp only [go_sem, ↓reduceIte, reduceCtorEq, nA, nB, nC, nD, nE, nF] <;> and_intros <;> first | (apply hK1; clear hK1 K1) | (intros; first | omega | decide | (simp_all <;> omega)) | skip))))
      exact ⟨0, by omega, 2, rfl, fun _ => rfl, fun _ => rfl, rfl⟩
    · refine awp_cond (t := _) rfl (fun _ => ?_) (fun h9 => by simp [e] at h9)
      (repeat (first | refine gO (by decide) ?_ | ((first | refine gM (mdL [(7, 1), (9, 1), (11, 1)]) ?_ | (with_reducible refine wM ?_ ?_) | ((with_reducible refine xS ?_); refine uD 14 (mdL [(7, 1), (9, 1), (11, 1)]) pSSteps_14_14E pSSteps_14_14P 71 rfl (by kernel_rfl) ?_) | ((with_reducible refine xS ?_); refine uD 18 (mdL [(7, 1), (9, 1), (11, 1)]) pSSteps_14_18E pSSteps_14_18P 71 rfl (by kernel_rfl) ?_)) <;> ((try with_reducible intro K1 hK1); simp only [go_sem, ↓reduceIte, reduceCtorEq, nA, nB, nC, nD, nE, nF] <;> and_intros <;> first | (apply hK1; clear hK1 K1) | (intros; first | omega | decide | (simp_all <;> omega)) | skip))))
      simp only [Tryz.results14, go_sem, ↓reduceIte, reduceCtorEq, nA, nB, nC, nD, nE, nF]
      exact ⟨_, _, Weak.refl _, Hp.le.refl _, by rw [hA0 (by rw [hE2 rfl e]; exact e), hE2 rfl e]⟩
  · obtain rfl := hj1 (by omega)
    obtain rfl := hj2 (by omega)
    refine awp_cond (t := _) rfl (fun h9 => by simp at h9) (fun _ => ?_)
    (repeat (first | refine gO (by decide) ?_ | ((first | refine gM (mdL [(7, 1), (9, 1), (11, 1)]) ?_ | (with_reducible refine wM ?_ ?_) | ((with_reducible refine xS ?_); refine uD 14 (mdL [(7, 1), (9, 1), (11, 1)]) pSSteps_14_14E pSSteps_14_14P 71 rfl (by kernel_rfl) ?_) | ((with_reducible refine xS ?_); refine uD 18 (mdL [(7, 1), (9, 1), (11, 1)]) pSSteps_14_18E pSSteps_14_18P 71 rfl (by kernel_rfl) ?_)) <;> ((try with_reducible intro K1 hK1); simp only [go_sem, ↓reduceIte, reduceCtorEq, nA, nB, nC, nD, nE, nF] <;> and_intros <;> first | (apply hK1; clear hK1 K1) | (intros; first | omega | decide | (simp_all <;> omega)) | skip))))
    refine (hra h rfl).mono ?_
    rintro _ h1 rfl
    refine hK1 _ ?_; clear hK1 K1
    (repeat (first | refine gO (by decide) ?_ | ((first | refine gM (mdL [(7, 1), (9, 1), (11, 1)]) ?_ | (with_reducible refine wM ?_ ?_) | ((with_reducible refine xS ?_); refine uD 14 (mdL [(7, 1), (9, 1), (11, 1)]) pSSteps_14_14E pSSteps_14_14P 71 rfl (by kernel_rfl) ?_) | ((with_reducible refine xS ?_); refine uD 18 (mdL [(7, 1), (9, 1), (11, 1)]) pSSteps_14_18E pSSteps_14_18P 71 rfl (by kernel_rfl) ?_)) <;> ((try with_reducible intro K1 hK1); simp only [go_sem, ↓reduceIte, reduceCtorEq, nA, nB, nC, nD, nE, nF] <;> and_intros <;> first | (apply hK1; clear hK1 K1) | (intros; first | omega | decide | (simp_all <;> omega)) | skip))))
    by_cases e : ea = 0
    rotate_left
    · refine awp_cond (t := _) rfl (fun _ => ?_) (fun h9 => by simp [e] at h9)
      (repeat (first | refine gO (by decide) ?_ | ((first | refine gM (mdL [(7, 1), (9, 1), (11, 1)]) ?_ | (with_reducible refine wM ?_ ?_) | ((with_reducible refine xS ?_); refine uD 14 (mdL [(7, 1), (9, 1), (11, 1)]) pSSteps_14_14E pSSteps_14_14P 71 rfl (by kernel_rfl) ?_) | ((with_reducible refine xS ?_); refine uD 18 (mdL [(7, 1), (9, 1), (11, 1)]) pSSteps_14_18E pSSteps_14_18P 71 rfl (by kernel_rfl) ?_)) <;> ((try with_reducible intro K1 hK1); simp only [go_sem, ↓reduceIte, reduceCtorEq, nA, nB, nC, nD, nE, nF] <;> and_intros <;> first | (apply hK1; clear hK1 K1) | (intros; first | omega | decide | (simp_all <;> omega)) | skip))))
      simp only [Tryz.results14, go_sem, ↓reduceIte, reduceCtorEq, nA, nB, nC, nD, nE, nF]
      exact ⟨_, _, Weak.refl _, Hp.le.refl _, by rw [hA0 (by rw [hE3 rfl rfl e]; exact e), hE3 rfl rfl e]⟩
    subst e
    refine awp_cond (t := _) rfl (fun h9 => by simp at h9) (fun _ => ?_)
    (repeat (first | refine gO (by decide) ?_ | ((first | refine gM (mdL [(7, 1), (9, 1), (11, 1)]) ?_ | (with_reducible refine wM ?_ ?_) | ((with_reducible refine xS ?_); refine uD 14 (mdL [(7, 1), (9, 1), (11, 1)]) pSSteps_14_14E pSSteps_14_14P 71 rfl (by kernel_rfl) ?_) | ((with_reducible refine xS ?_); refine uD 18 (mdL [(7, 1), (9, 1), (11, 1)]) pSSteps_14_18E pSSteps_14_18P 71 rfl (by kernel_rfl) ?_)) <;> ((try with_reducible intro K1 hK1); simp only [go_sem, ↓reduceIte, reduceCtorEq, nA, nB, nC, nD, nE, nF] <;> and_intros <;> first | (apply hK1; clear hK1 K1) | (intros; first | omega | decide | (simp_all <;> omega)) | skip))))
    refine (hrb h1 rfl).mono ?_
    rintro _ h2 rfl
    refine hK1 _ ?_; clear hK1 K1
    (repeat (first | refine gO (by decide) ?_ | ((first | refine gM (mdL [(7, 1), (9, 1), (11, 1)]) ?_ | (with_reducible refine wM ?_ ?_) | ((with_reducible refine xS ?_); refine uD 14 (mdL [(7, 1), (9, 1), (11, 1)]) pSSteps_14_14E pSSteps_14_14P 71 rfl (by kernel_rfl) ?_) | ((with_reducible refine xS ?_); refine uD 18 (mdL [(7, 1), (9, 1), (11, 1)]) pSSteps_14_18E pSSteps_14_18P 71 rfl (by kernel_rfl) ?_)) <;> ((try with_reducible intro K1 hK1); simp only [go_sem, ↓reduceIte, reduceCtorEq, nA, nB, nC, nD, nE, nF] <;> and_intros <;> first | (apply hK1; clear hK1 K1) | (intros; first | omega | decide | (simp_all <;> omega)) | skip))))
    have hEb := hE4 rfl rfl rfl
    by_cases e : eb = 0
    rotate_left
    · refine awp_cond (t := _) rfl (fun _ => ?_) (fun h9 => by simp [e] at h9)
      (repeat (first | refine gO (by decide) ?_ | ((first | refine gM (mdL [(7, 1), (9, 1), (11, 1)]) ?_ | (with_reducible refine wM ?_ ?_) | ((with_reducible refine xS ?_); refine uD 14 (mdL [(7, 1), (9, 1), (11, 1)]) pSSteps_14_14E pSSteps_14_14P 71 rfl (by kernel_rfl) ?_) | ((with_reducible refine xS ?_); refine uD 18 (mdL [(7, 1), (9, 1), (11, 1)]) pSSteps_14_18E pSSteps_14_18P 71 rfl (by kernel_rfl) ?_)) <;> ((try with_reducible intro K1 hK1); simp only [go_sem, ↓reduceIte, reduceCtorEq, nA, nB, nC, nD, nE, nF] <;> and_intros <;> first | (apply hK1; clear hK1 K1) | (intros; first | omega | decide | (simp_all <;> omega)) | skip))))
      simp only [Tryz.results14, go_sem, ↓reduceIte, reduceCtorEq, nA, nB, nC, nD, nE, nF]
      exact ⟨_, _, Weak.refl _, Hp.le.refl _, by rw [hA0 (by rw [hEb]; exact e), hEb]⟩
    subst e
    have hx := hpa rfl rfl
    have hy := hpb rfl rfl
    rw [hA1 hEb, hEb]
    clear hA0 hA1 hE1 hE2 hE3 hE4 hca hcb hra hrb hpa hpb hj1 hj2
    refine awp_cond (t := _) rfl (fun h9 => by simp at h9) (fun _ => ?_)
    (repeat (first | refine gO (by decide) ?_ | ((first | refine gM (mdL [(7, 1), (9, 1), (11, 1)]) ?_ | (with_reducible refine wM ?_ ?_) | ((with_reducible refine xS ?_); refine uD 14 (mdL [(7, 1), (9, 1), (11, 1)]) pSSteps_14_14E pSSteps_14_14P 71 rfl (by kernel_rfl) ?_) | ((with_reducible refine xS ?_); refine uD 18 (mdL [(7, 1), (9, 1), (11, 1)]) pSSteps_14_18E pSSteps_14_18P 71 rfl (by kernel_rfl) ?_)) <;> ((try with_reducible intro K1 hK1); simp only [go_sem, ↓reduceIte, reduceCtorEq, nA, nB, nC, nD, nE, nF] <;> and_intros <;> first | (apply hK1; clear hK1 K1) | (intros; first | omega | decide | (simp_all <;> omega)) | skip))))
    refine awp_loopC (rl false [9, 1, 1, 3, 37, 2, 18]) 2 (fun g S => ∃ j : Nat, g + j = xs.length + ys.length ∧ sameTo xs ys j = true ∧
      S = ⟨((jnk 9 ((.loc 0 0) :: AV.junk :: ((.loc 1 0) :: (.v (.int .i64 xs.length)) :: (.v (.int .i64 ys.length)) :: (jnk 37 ((.v (.int .i64 ((xs.length : Int) + ys.length))) :: (.v (.int .i64 j)) :: (jnk 18 []))))))),
        [[.v (.int .i64 na), .row 2 (xs.map encStep) none, .v (.int .i64 sa)], [.v (.int .i64 nb), .row 2 (ys.map encStep) none, .v (.int .i64 sb)]], h2⟩) (xs.length + ys.length) ⟨0, by omega, rfl, rfl⟩ ?_
    rintro g _ ⟨j, hj, hs, rfl⟩
    (repeat (first | refine gO (by decide) ?_ | ((first | refine gM (mdL [(7, 1), (9, 1), (11, 1)]) ?_ | (with_reducible refine wM ?_ ?_) | ((with_reducible refine xS ?_); refine uD 14 (mdL [(7, 1), (9, 1), (11, 1)]) pSSteps_14_14E pSSteps_14_14P 71 rfl (by kernel_rfl) ?_) | ((with_reducible refine xS ?_); refine uD 18 (mdL [(7, 1), (9, 1), (11, 1)]) pSSteps_14_18E pSSteps_14_18P 71 rfl (by kernel_rfl) ?_)) <;> ((try with_reducible intro K1 hK1); simp only [go_sem, ↓reduceIte, reduceCtorEq, nA, nB, nC, nD, nE, nF] <;> and_intros <;> first | (apply hK1; clear hK1 K1) | (intros; first | omega | decide | (simp_all <;> omega)) | skip))))
    refine awp_cond (t := _) rfl (fun h9 => ?_) (fun h9 => ?_)
    · simp only [decide_eq_true_eq] at h9
      have hm1 : (j : Int).tmod (xs.length : Int) = ((j % xs.length : Nat) : Int) := rfl
      have hm2 : (j : Int).tmod (ys.length : Int) = ((j % ys.length : Nat) : Int) := rfl
      have hl1 := Nat.mod_lt j (show 0 < xs.length by omega)
      have hl2 := Nat.mod_lt j (show 0 < ys.length by omega)
      have hg1 : (xs.map encStep).getD (j % xs.length) [] = encStep (xs.getD (j % xs.length) default) := getD_enc encStep xs _ default hl1
      have hg2 : (ys.map encStep).getD (j % ys.length) [] = encStep (ys.getD (j % ys.length) default) := getD_enc encStep ys _ default hl2
      have hsu := sameTo_succ xs ys j
      have hsf := fun h => sameTo_false (xs := xs) (ys := ys) (j := j) h (n := xs.length + ys.length) (by omega)
      generalize xs.getD (j % xs.length) default = x at hg1 hsu hsf
      generalize ys.getD (j % ys.length) default = y at hg2 hsu hsf
      (repeat (first | refine gO (by decide) ?_ | ((first | refine gM (mdL [(7, 1), (9, 1), (11, 1)]) ?_ | (with_reducible refine wM ?_ ?_) | ((with_reducible refine xS ?_); refine uD 14 (mdL [(7, 1), (9, 1), (11, 1)]) pSSteps_14_14E pSSteps_14_14P 71 rfl (by kernel_rfl) ?_) | ((with_reducible refine xS ?_); refine uD 18 (mdL [(7, 1), (9, 1), (11, 1)]) pSSteps_14_18E pSSteps_14_18P 71 rfl (by kernel_rfl) ?_)) <;> ((try with_reducible intro K1 hK1); simp only [go_sem, ↓reduceIte, reduceCtorEq, nA, nB, nC, nD, nE, nF, hm1, hm2, Int.toNat_natCast, hg1, hg2, encStep] <;> and_intros <;> first | (apply hK1; clear hK1 K1) | (intros; first | omega | decide | (simp_all <;> omega)) | skip))))
      refine awp_cond (t := _) rfl (fun h8 => ?_) (fun h8 => ?_)
      · have e8 : stepEq x y = false := by rw [stepEq]; revert h8; cases (x.1 == y.1) <;> cases (x.2 == y.2) <;> simp
        (repeat (first | refine gO (by decide) ?_ | ((first | refine gM (mdL [(7, 1), (9, 1), (11, 1)]) ?_ | (with_reducible refine wM ?_ ?_) | ((with_reducible refine xS ?_); refine uD 14 (mdL [(7, 1), (9, 1), (11, 1)]) pSSteps_14_14E pSSteps_14_14P 71 rfl (by kernel_rfl) ?_) | ((with_reducible refine xS ?_); refine uD 18 (mdL [(7, 1), (9, 1), (11, 1)]) pSSteps_14_18E pSSteps_14_18P 71 rfl (by kernel_rfl) ?_)) <;> ((try with_reducible intro K1 hK1); simp only [go_sem, ↓reduceIte, reduceCtorEq, nA, nB, nC, nD, nE, nF] <;> and_intros <;> first | (apply hK1; clear hK1 K1) | (intros; first | omega | decide | (simp_all <;> omega)) | skip))))
        simp only [Tryz.results14, go_sem, ↓reduceIte, reduceCtorEq, nA, nB, nC, nD, nE, nF]
        exact ⟨_, _, Weak.refl _, Hp.le.refl _, by rw [sameS, hsf e8]⟩
      · have e8 : stepEq x y = true := by rw [stepEq]; revert h8; cases (x.1 == y.1) <;> cases (x.2 == y.2) <;> simp
        (repeat (first | refine gO (by decide) ?_ | ((first | refine gM (mdL [(7, 1), (9, 1), (11, 1)]) ?_ | (with_reducible refine wM ?_ ?_) | ((with_reducible refine xS ?_); refine uD 14 (mdL [(7, 1), (9, 1), (11, 1)]) pSSteps_14_14E pSSteps_14_14P 71 rfl (by kernel_rfl) ?_) | ((with_reducible refine xS ?_); refine uD 18 (mdL [(7, 1), (9, 1), (11, 1)]) pSSteps_14_18E pSSteps_14_18P 71 rfl (by kernel_rfl) ?_)) <;> ((try with_reducible intro K1 hK1); simp only [go_sem, ↓reduceIte, reduceCtorEq, nA, nB, nC, nD, nE, nF] <;> and_intros <;> first | (apply hK1; clear hK1 K1) | (intros; first | omega | decide | (simp_all <;> omega)) | skip))))
        exact ⟨g - 1, by omega, j + 1, by omega, by rw [hsu, hs, e8]; rfl, rfl⟩
    · simp only [decide_eq_false_iff_not] at h9
      have hjn : j = xs.length + ys.length := by omega
      subst hjn
      (repeat (first | refine gO (by decide) ?_ | ((first | refine gM (mdL [(7, 1), (9, 1), (11, 1)]) ?_ | (with_reducible refine wM ?_ ?_) | ((with_reducible refine xS ?_); refine uD 14 (mdL [(7, 1), (9, 1), (11, 1)]) pSSteps_14_14E pSSteps_14_14P 71 rfl (by kernel_rfl) ?_) | ((with_reducible refine xS ?_); refine uD 18 (mdL [(7, 1), (9, 1), (11, 1)]) pSSteps_14_18E pSSteps_14_18P 71 rfl (by kernel_rfl) ?_)) <;> ((try with_reducible intro K1 hK1); simp only [go_sem, ↓reduceIte, reduceCtorEq, nA, nB, nC, nD, nE, nF] <;> and_intros <;> first | (apply hK1; clear hK1 K1) | (intros; first | omega | decide | (simp_all <;> omega)) | skip))))
      simp only [Tryz.results14, go_sem, ↓reduceIte, reduceCtorEq, nA, nB, nC, nD, nE, nF]
      exact ⟨_, _, Weak.refl _, Hp.le.refl _, by rw [sameS, hs]⟩
abbrev pSOrG_21_4E : List Nat := [0, 1, 2, 3, 4, 5, 6, 7, 8, 9, 10]
abbrev pSOrG_21_4P : List (Nat × List Nat × List Nat) := []
attribute [go_sem] pSOrG_21_4E pSOrG_21_4P
def orI : List Int → Int
  | [] => 0
  | x :: l => if x = 0 then orI l else x
theorem orI_at (l : List Int) (j : Nat) (h : j < l.length) (h0 : ∀ i, i < j → l.getD i 0 = 0) (hn : l.getD j 0 ≠ 0) : orI l = l.getD j 0 := by
  induction l generalizing j with
  | nil => simp at h
  | cons x l ih =>
    cases j with
    | zero => rw [orI, if_neg (by simpa using hn)]; rfl
    | succ j =>
      have hx := h0 0 (by omega)
      simp only [List.getD_cons_zero] at hx
      rw [orI, if_pos hx, List.getD_cons_succ]
      exact ih j (by simpa using h) (fun i hi => by simpa using h0 (i + 1) (by omega)) (by simpa using hn)
theorem orI_zero (l : List Int) (h : ∀ i, i < l.length → l.getD i 0 = 0) : orI l = 0 := by
  induction l with
  | nil => rfl
  | cons x l ih =>
    have hx := h 0 (by simp)
    simp only [List.getD_cons_zero] at hx
    rw [orI, if_pos hx]
    exact ih fun i hi => by simpa using h (i + 1) (by simpa using hi)
theorem g_orG (l : List Int) (h : Hp) (hl : l.length ≤ 1000) : ACalls Tryz.prog 16 [.row 1 (l.map encI) none] h (fun r h' => r = .v (.int .i64 (orI l)) ∧ h' = h) := by
  refine gE Tryz.func16 rfl (by kernel_rfl) 17 rfl fun c => ?_
  (repeat (first | refine gO (by decide) ?_ | (refine gR fun K1 hK1 => ?_; simp only [go_sem, ↓reduceIte, reduceCtorEq, nA, nB, nC, nD, nE, nF] <;> and_intros <;> first | (apply hK1; clear hK1 K1) | (intros; first | omega | decide | (simp_all <;> omega)) | skip)))
  refine awp_loopC (rl false [3, 1, 2, 3, 9]) 0 (fun g s => ∃ j : Nat, g + j = l.length ∧ (∀ i, i < j → l.getD i 0 = 0) ∧
    s = ⟨((jnk 3 ((.v (.int .i64 0)) :: AV.junk :: AV.junk :: ((.row 1 (l.map encI) none) :: (.v (.int .i64 l.length)) :: (.v (.int .i64 j)) :: (jnk 9 []))))), [], h⟩) l.length ⟨0, by omega, by omega, rfl⟩ ?_
  rintro g _ ⟨j, hj, h0, rfl⟩
  (repeat (first | refine gO (by decide) ?_ | (refine gR fun K1 hK1 => ?_; simp only [go_sem, ↓reduceIte, reduceCtorEq, nA, nB, nC, nD, nE, nF] <;> and_intros <;> first | (apply hK1; clear hK1 K1) | (intros; first | omega | decide | (simp_all <;> omega)) | skip)))
  refine awp_cond (t := _) rfl (fun h3 => ?_) (fun h3 => ?_)
  · simp only [decide_eq_true_eq] at h3
    have hjl : j < l.length := by omega
    have hgx : (l.map encI).getD j [] = [.v (.int .i64 (l.getD j 0))] := getD_enc encI l j 0 hjl
    have hat := orI_at l j hjl h0
    obtain ⟨x, hx⟩ : ∃ x, x = l.getD j 0 := ⟨_, rfl⟩
    rw [← hx] at hgx hat
    (repeat (first | refine gO (by decide) ?_ | (refine gR fun K1 hK1 => ?_; simp only [go_sem, ↓reduceIte, reduceCtorEq, nA, nB, nC, nD, nE, nF, Int.toNat_natCast, hgx] <;> and_intros <;> first | (apply hK1; clear hK1 K1) | (intros; first | omega | decide | (simp_all <;> omega)) | skip)))
    refine awp_cond (t := _) rfl (fun h4 => ?_) (fun h4 => ?_)
    · have h4' : x ≠ 0 := by simpa using h4
      (repeat (first | refine gO (by decide) ?_ | (refine gR fun K1 hK1 => ?_; simp only [go_sem, ↓reduceIte, reduceCtorEq, nA, nB, nC, nD, nE, nF] <;> and_intros <;> first | (apply hK1; clear hK1 K1) | (intros; first | omega | decide | (simp_all <;> omega)) | skip)))
      simp only [Tryz.results16, go_sem, ↓reduceIte, reduceCtorEq, nA, nB, nC, nD, nE, nF]
      exact ⟨_, _, Weak.refl _, Hp.le.refl _, by rw [hat h4'], rfl⟩
    · have h4' : x = 0 := by simpa using h4
      (repeat (first | refine gO (by decide) ?_ | (refine gR fun K1 hK1 => ?_; simp only [go_sem, ↓reduceIte, reduceCtorEq, nA, nB, nC, nD, nE, nF] <;> and_intros <;> first | (apply hK1; clear hK1 K1) | (intros; first | omega | decide | (simp_all <;> omega)) | skip)))
      exact ⟨g - 1, by omega, j + 1, by omega, fun i hi => by
        by_cases e : i = j
        · rw [e, ← hx]; exact h4'
        · exact h0 i (by omega), rfl⟩
  · simp only [decide_eq_false_iff_not] at h3
    have hjl : j = l.length := by omega
    subst hjl
    (repeat (first | refine gO (by decide) ?_ | (refine gR fun K1 hK1 => ?_; simp only [go_sem, ↓reduceIte, reduceCtorEq, nA, nB, nC, nD, nE, nF] <;> and_intros <;> first | (apply hK1; clear hK1 K1) | (intros; first | omega | decide | (simp_all <;> omega)) | skip)))
    simp only [Tryz.results16, go_sem, ↓reduceIte, reduceCtorEq, nA, nB, nC, nD, nE, nF]
    exact ⟨_, _, Weak.refl _, Hp.le.refl _, by rw [orI_zero l h0], rfl⟩
noncomputable def rdC (d : Nat) (t : LT) : List AV := [.v (.int .i64 (rdN d t : Nat)), .row 2 ((rdS d t).map encStep) none, .v (.int .i64 ((rdS d t).map (·.2)).sum)]
theorem g_checked (d : Nat) (t : LT) (h : Hp) (hb : KC d t) (hd : manyF t ≤ 1000000000000000 ∧ d ≤ 1000) : ACalls Tryz.prog 77 [.agg (encL t)] h (fun r _ => r = .tup [.agg (rdC d t), .v (.int .i64 (rdE d t))]) := by
  have hlen := encL_len t
  have htk : List.take 6 (encL t) = encL t := List.take_of_length_le (Nat.le_of_eq hlen)
  have hdk : List.drop 6 (encL t) = [] := List.drop_of_length_le (Nat.le_of_eq hlen)
  unfold rdC rdE rdN rdS
  refine gE Tryz.func77 rfl (by kernel_rfl) 14 rfl fun c => ?_
  (repeat (first | refine gO (by decide) ?_ | (refine gM (mdL [(2, 1)]) fun K1 hK1 => ?_; simp only [go_sem, ↓reduceIte, reduceCtorEq, nA, nB, nC, nD, nE, nF, hlen, htk, hdk] <;> and_intros <;> first | (apply hK1; clear hK1 K1) | (intros; first | omega | decide | (simp_all <;> omega)) | skip)))
  refine (g_check7 d t h hb hd).mono ?_; rintro _ hz ⟨rfl, hh⟩; apply hK1; clear hK1 K1; rw [hh]; clear hh hz
  (repeat (first | refine gO (by decide) ?_ | (refine gM (mdL [(2, 1)]) fun K1 hK1 => ?_; simp only [go_sem, ↓reduceIte, reduceCtorEq, nA, nB, nC, nD, nE, nF, hlen, htk, hdk] <;> and_intros <;> first | (apply hK1; clear hK1 K1) | (intros; first | omega | decide | (simp_all <;> omega)) | skip)))
  by_cases hf : faultF t = 0
  · have hv := vl_of d t hb (part_of_fault hf)
    simp only [if_pos hf]
    refine awp_cond (t := _) rfl (fun h9 => by simp [hf] at h9) (fun _ => ?_)
    (repeat (first | refine gO (by decide) ?_ | (refine gM (mdL [(2, 1)]) fun K1 hK1 => ?_; simp only [go_sem, ↓reduceIte, reduceCtorEq, nA, nB, nC, nD, nE, nF, hlen, htk, hdk] <;> and_intros <;> first | (apply hK1; clear hK1 K1) | (intros; first | omega | decide | (simp_all <;> omega)) | skip)))
    refine (g_roundP d t h hb hv (il_of d t (part_of_fault hf))).mono ?_
    rintro _ h2 rfl
    refine hK1 _ ?_; clear hK1 K1
    (repeat (first | refine gO (by decide) ?_ | (refine gM (mdL [(2, 1)]) fun K1 hK1 => ?_; simp only [go_sem, ↓reduceIte, reduceCtorEq, nA, nB, nC, nD, nE, nF, roundC] <;> and_intros <;> first | (apply hK1; clear hK1 K1) | (intros; first | omega | decide | (simp_all <;> omega)) | skip)))
    simp only [Tryz.results77, go_sem, ↓reduceIte, reduceCtorEq, nA, nB, nC, nD, nE, nF]
    exact ⟨_, _, Weak.refl _, Hp.le.refl _, rfl⟩
  · simp only [if_neg hf]
    refine awp_cond (t := _) rfl (fun _ => ?_) (fun h9 => by simp [hf] at h9)
    (repeat (first | refine gO (by decide) ?_ | (refine gM (mdL [(2, 1)]) fun K1 hK1 => ?_; simp only [go_sem, ↓reduceIte, reduceCtorEq, nA, nB, nC, nD, nE, nF] <;> and_intros <;> first | (apply hK1; clear hK1 K1) | (intros; first | omega | decide | (simp_all <;> omega)) | skip)))
    simp only [Tryz.results77, go_sem, ↓reduceIte, reduceCtorEq, nA, nB, nC, nD, nE, nF]
    exact ⟨_, _, Weak.tup1 (Weak.agg (.cons (Weak.refl _) (.cons (Weak.nil 2 0 0 ⟨rfl, rfl⟩) (.cons (Weak.refl _) .nil)))) (Weak.refl _), Hp.le.refl _, rfl⟩
theorem rd_bad {d : Nat} {t : LT} (h : rdE d t ≠ 0) : rdS d t = [] ∧ rdN d t = 0 := by
  unfold rdE at h
  unfold rdS rdN
  by_cases hf : faultF t = 0
  · rw [if_pos hf] at h
    rw [if_pos hf, if_pos hf]
    unfold roundE at h
    unfold roundS
    split at h
    · rename_i e; rw [if_pos e, e]; exact ⟨rfl, rfl⟩
    · exact absurd rfl h
  · rw [if_neg hf, if_neg hf]; exact ⟨rfl, rfl⟩
theorem g_RoundG (d : Nat) (t : LT) (h : Hp) (hb : KC d t) (hd : manyF t ≤ 1000000000000000 ∧ d ≤ 1000) : ACalls Tryz.prog 21 [.agg (encL t)] h (fun r _ => r = .tup [.v (.int .i64 (rdN d t : Nat)), .v (.int .i64 (rdS d t).length), .v (.int .i64 ((rdS d t).map (·.2)).sum), .v (.int .i64 (rdE d t))]) := by
  have hlen := encL_len t
  have htk : List.take 6 (encL t) = encL t := List.take_of_length_le (Nat.le_of_eq hlen)
  have hdk : List.drop 6 (encL t) = [] := List.drop_of_length_le (Nat.le_of_eq hlen)
  have hbad := rd_bad (d := d) (t := t)
  have hck := g_checked d t h hb hd
  unfold rdC at hck
  generalize rdS d t = xs at *
  generalize rdN d t = n at *
  generalize rdE d t = e at *
  generalize hs : (xs.map (·.2)).sum = s at *
  refine gE Tryz.func21 rfl (by kernel_rfl) 21 rfl fun c => ?_
  (repeat (first | refine gO (by decide) ?_ | ((first | refine gM (mdL [(6, 1)]) ?_ | (with_reducible refine wM ?_ ?_) | ((with_reducible refine xS ?_); refine uD 4 (mdL [(6, 1)]) pSOrG_21_4E pSOrG_21_4P 22 rfl (by kernel_rfl) ?_)) <;> ((try with_reducible intro K1 hK1); simp only [go_sem, ↓reduceIte, reduceCtorEq, nA, nB, nC, nD, nE, nF, hlen, htk, hdk] <;> and_intros <;> first | (apply hK1; clear hK1 K1) | (intros; first | omega | decide | (simp_all <;> omega)) | skip))))
  refine hck.mono ?_
  rintro _ h2 rfl
  refine hK1 _ ?_; clear hK1 K1
  (repeat (first | refine gO (by decide) ?_ | ((first | refine gM (mdL [(6, 1)]) ?_ | (with_reducible refine wM ?_ ?_) | ((with_reducible refine xS ?_); refine uD 4 (mdL [(6, 1)]) pSOrG_21_4E pSOrG_21_4P 22 rfl (by kernel_rfl) ?_)) <;> ((try with_reducible intro K1 hK1); simp only [go_sem, ↓reduceIte, reduceCtorEq, nA, nB, nC, nD, nE, nF] <;> and_intros <;> first | (apply hK1; clear hK1 K1) | (intros; first | omega | decide | (simp_all <;> omega)) | skip))))
  by_cases he : e = 0
  · subst he
    refine awp_cond (t := _) rfl (fun h9 => by simp at h9) (fun _ => ?_)
    (repeat (first | refine gO (by decide) ?_ | ((first | refine gM (mdL [(6, 1)]) ?_ | (with_reducible refine wM ?_ ?_) | ((with_reducible refine xS ?_); refine uD 4 (mdL [(6, 1)]) pSOrG_21_4E pSOrG_21_4P 22 rfl (by kernel_rfl) ?_)) <;> ((try with_reducible intro K1 hK1); simp only [go_sem, ↓reduceIte, reduceCtorEq, nA, nB, nC, nD, nE, nF] <;> and_intros <;> first | (apply hK1; clear hK1 K1) | (intros; first | omega | decide | (simp_all <;> omega)) | skip))))
    simp only [Tryz.results21, go_sem, ↓reduceIte, reduceCtorEq, nA, nB, nC, nD, nE, nF]
    exact ⟨_, _, Weak.refl _, Hp.le.refl _, rfl⟩
  · obtain ⟨rfl, rfl⟩ := hbad he
    subst hs
    refine awp_cond (t := _) rfl (fun _ => ?_) (fun h9 => by simp [he] at h9)
    (repeat (first | refine gO (by decide) ?_ | ((first | refine gM (mdL [(6, 1)]) ?_ | (with_reducible refine wM ?_ ?_) | ((with_reducible refine xS ?_); refine uD 4 (mdL [(6, 1)]) pSOrG_21_4E pSOrG_21_4P 22 rfl (by kernel_rfl) ?_)) <;> ((try with_reducible intro K1 hK1); simp only [go_sem, ↓reduceIte, reduceCtorEq, nA, nB, nC, nD, nE, nF] <;> and_intros <;> first | (apply hK1; clear hK1 K1) | (intros; first | omega | decide | (simp_all <;> omega)) | skip))))
    simp only [Tryz.results21, go_sem, ↓reduceIte, reduceCtorEq, nA, nB, nC, nD, nE, nF]
    exact ⟨_, _, Weak.refl _, Hp.le.refl _, rfl⟩
theorem encX_weakL : ∀ (d : Nat) (t : LT), LC d t → ∀ (G : Gh) (us : List Value), RepL G (encX t) us → RepL G (encL t) us
  | 0, _, h => h.elim
  | d + 1, .mk kind item long many kids shares, hb => fun G us hu => by
    obtain ⟨b1, b2, b3, b4, b5, b6, b7, b8⟩ := hb
    rw [encX_eq] at hu
    rw [encL_eq]
    refine hu.of6 (fun _ h => h) (fun _ h => h) (fun _ h => h) (fun _ h => h) (fun x h => ?_) (fun x h => ?_)
    · have hz : ∀ y ∈ kids.map encX, y.length = 6 := fun y hy => by obtain ⟨t, _, rfl⟩ := List.mem_map.1 hy; exact encX_len t
      have hz' : ∀ y ∈ kids.map encL, y.length = 6 := fun y hy => by obtain ⟨t, _, rfl⟩ := List.mem_map.1 hy; exact encL_len t
      have key : Rep G (.row 6 (kids.map encX) none) x := by
        cases kids with
        | nil => exact Weak.nil 6 0 0 ⟨rfl, rfl⟩ G x h
        | cons y ys => exact h
      refine key.rowFlat (GLe.refl G) (by simp) hz' (RepL.flat (by simp) hz fun i a b us2 h2 => ?_)
      simp only [List.length_map] at a
      simp only [List.getElem_map] at h2 ⊢
      exact encX_weakL d _ (b8 _ (List.getElem_mem _)) G us2 h2
    · cases shares with
      | nil => exact Weak.nil 1 0 0 ⟨rfl, rfl⟩ G x h
      | cons y ys => exact h
theorem encX_weak (d : Nat) (t : LT) (hb : LC d t) : Weak (.agg (encX t)) (.agg (encL t)) := fun G v hr => by
  obtain ⟨vs, rfl, hvs⟩ := RepL.of_agg hr
  exact (encX_weakL d t hb G vs hvs).agg
def tA : LT := .mk 1 ⟨#[97]⟩ 5 0 [] []
def tB : LT := .mk 1 ⟨#[98]⟩ 7 0 [] []
def tL : LT := .mk 3 ⟨#[]⟩ 0 0 [tA, tB] []
theorem g_loopedG (h : Hp) : ACalls Tryz.prog 17 [] h (fun r _ => r = .v (.bool true)) := by
  have hLC : LC 2 tL := by
    refine ⟨by unfold NB; omega, by decide, by unfold NB; omega, by unfold NB; omega, by decide, by decide, by simp, fun k hk => ?_⟩
    simp only [List.mem_cons, List.not_mem_nil, or_false] at hk
    rcases hk with rfl | rfl
    · exact ⟨by unfold NB; omega, by decide, by unfold NB; omega, by unfold NB; omega, by decide, by decide, by simp, by simp⟩
    · exact ⟨by unfold NB; omega, by decide, by unfold NB; omega, by unfold NB; omega, by decide, by decide, by simp, by simp⟩
  have hm : manyF tL = 3 := by simp [tL, tA, tB, manyF_eq]
  have hf : faultF tL = 0 := by
    have h2 : deepF tL = 2 := by simp [tL, tA, tB, deepF_eq]; rfl
    have ha : partF tA = 0 := by rw [tA, partF_eq]; rfl
    have hb : partF tB = 0 := by rw [tB, partF_eq]; rfl
    have h3 : partF tL = 0 := by
      rw [tL, partF_eq, List.map_cons, List.map_cons, List.map_nil, ha, hb]; rfl
    rw [faultF, hm, h2, h3]; rfl
  have hps0 : ps0 tL = .mk 0 [0, 0] [.mk 0 [] [], .mk 0 [] []] := by simp [tL, tA, tB, ps0_eq]
  have hp1 : passesU 2 tL 1 = (.mk 1 [1, 0] [.mk 1 [] [], .mk 0 [] []], [(⟨#[97]⟩, 5)]) := by
    show ((passU 2 tL (ps0 tL)).1, [] ++ (passU 2 tL (ps0 tL)).2) = _
    rw [hps0]; rfl
  have hp2 : passesU 2 tL 2 = (.mk 2 [1, 1] [.mk 1 [] [], .mk 1 [] []], [(⟨#[97]⟩, 5), (⟨#[98]⟩, 7)]) := by
    show ((passU 2 tL (passesU 2 tL 1).1).1, (passesU 2 tL 1).2 ++ (passU 2 tL (passesU 2 tL 1).1).2) = _
    rw [hp1]; rfl
  have hri : RoundIs 2 tL 2 := ⟨by omega, by rw [hp2]; simp, by rw [hp2]; rfl, fun n h1 h2 => by
    have e : n = 1 := by omega
    rw [e, hp1]; rfl⟩
  obtain ⟨r1, r2, r3⟩ := roundS_some hri
  have hp := g_RoundG 2 tL h hLC.kc (by omega)
  rw [show rdN 2 tL = 2 by rw [rdN, if_pos hf, r3], show rdS 2 tL = [(⟨#[97]⟩, 5), (⟨#[98]⟩, 7)] by rw [rdS, if_pos hf, r1, hp2], show rdE 2 tL = 0 by rw [rdE, if_pos hf, r2]] at hp
  have hpX := hp.weakArgs (args' := [.agg (encX tL)]) rfl (fun j a b => by
    simp only [List.length_cons, List.length_nil, Nat.zero_add, Nat.lt_one_iff] at a
    subst a
    exact encX_weak 2 tL hLC)
  have he : encX tL = [.v (.int .i64 3), .v (.string ⟨#[]⟩), .v (.int .i64 0), .v (.int .i64 0), .row 6 [[.v (.int .i64 1), .v (.string ⟨#[97]⟩), .v (.int .i64 5), .v (.int .i64 0), .v (.slice none 0 0), .v (.slice none 0 0)], [.v (.int .i64 1), .v (.string ⟨#[98]⟩), .v (.int .i64 7), .v (.int .i64 0), .v (.slice none 0 0), .v (.slice none 0 0)]] none, .v (.slice none 0 0)] := by
    simp [tL, tA, tB, encX_eq, nilOr]
  rw [he] at hpX
  refine gE Tryz.func17 rfl (by kernel_rfl) 31 rfl fun c => ?_
  (repeat (first | refine gO (by decide) ?_ | (refine gM (mdL [(1, 1)]) fun K1 hK1 => ?_; simp only [go_sem, ↓reduceIte, reduceCtorEq, nA, nB, nC, nD, nE, nF] <;> and_intros <;> first | (apply hK1; clear hK1 K1) | (intros; first | omega | decide | (simp_all <;> omega)) | skip)))
  refine hpX.mono ?_
  rintro _ h2 rfl
  refine hK1 _ ?_; clear hK1 K1
  (repeat (first | refine gO (by decide) ?_ | (refine gM (mdL [(1, 1)]) fun K1 hK1 => ?_; simp only [go_sem, ↓reduceIte, reduceCtorEq, nA, nB, nC, nD, nE, nF] <;> and_intros <;> first | (apply hK1; clear hK1 K1) | (intros; first | omega | decide | (simp_all <;> omega)) | skip)))
  simp only [Tryz.results17, go_sem, ↓reduceIte, reduceCtorEq, nA, nB, nC, nD, nE, nF]
  exact ⟨_, _, Weak.refl _, Hp.le.refl _, rfl⟩
abbrev pSSame_73_6E : List Nat := [0, 1, 2, 3, 4, 5, 6, 7, 8]
abbrev pSSame_73_6P : List (Nat × List Nat × List Nat) := []
attribute [go_sem] pSSame_73_6E pSSame_73_6P
def BL : LT → Prop
  | .mk _ _ _ _ kids shares => kids.length ≤ 1000 ∧ shares.length ≤ 1000 ∧ ∀ k ∈ kids, BL k
theorem BL_eq (kind : Int) (item : ByteArray) (long many : Int) (kids : List LT) (shares : List Int) : BL (.mk kind item long many kids shares) = (kids.length ≤ 1000 ∧ shares.length ≤ 1000 ∧ ∀ k ∈ kids, BL k) := by rw [BL]
open Classical in
noncomputable def sameB (a b : LT) : Bool := decide (a = b)
open Classical in
noncomputable def eqKs (a b : List LT) : Bool := decide (a = b)
theorem sameB_true {a b : LT} : sameB a b = true ↔ a = b := by simp [sameB]
theorem sameB_false {a b : LT} : sameB a b = false ↔ a ≠ b := by simp [sameB]
theorem eqKs_true {a b : List LT} : eqKs a b = true ↔ a = b := by simp [eqKs]
theorem eqKs_false {a b : List LT} : eqKs a b = false ↔ a ≠ b := by simp [eqKs]
theorem bytes_beq {a b : ByteArray} : (a == b) = true ↔ a = b := by
  first
  | exact beq_iff_eq
  | (cases a with
     | mk x =>
       cases b with
       | mk y =>
         rw [ByteArray.mk.injEq]
         exact @beq_iff_eq _ _ _ x y)
theorem sameB_mk (k : Int) (i : ByteArray) (l m : Int) (ks : List LT) (s : List Int) (k2 : Int) (i2 : ByteArray) (l2 m2 : Int) (ks2 : List LT) (s2 : List Int) :
    sameB (.mk k i l m ks s) (.mk k2 i2 l2 m2 ks2 s2) = ((k == k2) && (i == i2) && (l == l2) && (m == m2) && decide (s = s2) && eqKs ks ks2) := by
  rw [Bool.eq_iff_iff, sameB_true]
  simp only [Bool.and_eq_true, eqKs_true, decide_eq_true_eq, bytes_beq, beq_iff_eq, LT.mk.injEq]
  exact ⟨fun ⟨a, b, c, d, e, f⟩ => ⟨⟨⟨⟨⟨a, b⟩, c⟩, d⟩, f⟩, e⟩, fun ⟨⟨⟨⟨⟨a, b⟩, c⟩, d⟩, f⟩, e⟩ => ⟨a, b, c, d, e, f⟩⟩
theorem take_snoc {α : Type} (l : List α) (j : Nat) (d : α) (h : j < l.length) : l.take (j + 1) = l.take j ++ [l.getD j d] := by
  rw [List.take_add_one, List.getD_eq_getElem?_getD, List.getElem?_eq_getElem h]; rfl
theorem kid_size {k : LT} {kind : Int} {item : ByteArray} {long many : Int} {kids : List LT} {shares : List Int} (h : k ∈ kids) : SizeOf.sizeOf k < SizeOf.sizeOf (LT.mk kind item long many kids shares) := by
  have := List.sizeOf_lt_of_mem h
  rw [LT.mk.sizeOf_spec]; omega
theorem g_equalI (xs ys : List Int) (h : Hp) (hx : xs.length ≤ 1000) (hy : ys.length ≤ 1000) :
    ACalls Tryz.prog 73 [.row 1 (xs.map encI) none, .row 1 (ys.map encI) none] h (fun r h' => r = .v (.bool (decide (xs = ys))) ∧ h' = h) := by
  refine gE Tryz.func73 rfl (by kernel_rfl) 24 rfl fun c => ?_
  (repeat (first | refine gO (by decide) ?_ | ((first | refine gR ?_ | (with_reducible refine wM ?_ ?_) | ((with_reducible refine xS ?_); refine uD 6 (mdL []) pSSame_73_6E pSSame_73_6P 26 rfl (by kernel_rfl) ?_)) <;> ((try with_reducible intro K1 hK1); simp only [go_sem, ↓reduceIte, reduceCtorEq, nA, nB, nC, nD, nE, nF] <;> and_intros <;> first | (apply hK1; clear hK1 K1) | (intros; first | omega | decide | (simp_all <;> omega)) | skip))))
  refine awp_cond (t := _) rfl (fun h1 => ?_) (fun h1 => ?_)
  · (repeat (first | refine gO (by decide) ?_ | ((first | refine gR ?_ | (with_reducible refine wM ?_ ?_) | ((with_reducible refine xS ?_); refine uD 6 (mdL []) pSSame_73_6E pSSame_73_6P 26 rfl (by kernel_rfl) ?_)) <;> ((try with_reducible intro K1 hK1); simp only [go_sem, ↓reduceIte, reduceCtorEq, nA, nB, nC, nD, nE, nF] <;> and_intros <;> first | (apply hK1; clear hK1 K1) | (intros; first | omega | decide | (simp_all <;> omega)) | skip))))
    simp only [Tryz.results73, go_sem, ↓reduceIte, reduceCtorEq, nA, nB, nC, nD, nE, nF]
    exact ⟨_, _, Weak.refl _, Hp.le.refl _, by rw [decide_eq_false (fun e => by rw [e] at h1; simp at h1)], rfl⟩
  have hlen : xs.length = ys.length := by simp at h1; omega
  (repeat (first | refine gO (by decide) ?_ | ((first | refine gR ?_ | (with_reducible refine wM ?_ ?_) | ((with_reducible refine xS ?_); refine uD 6 (mdL []) pSSame_73_6E pSSame_73_6P 26 rfl (by kernel_rfl) ?_)) <;> ((try with_reducible intro K1 hK1); simp only [go_sem, ↓reduceIte, reduceCtorEq, nA, nB, nC, nD, nE, nF] <;> and_intros <;> first | (apply hK1; clear hK1 K1) | (intros; first | omega | decide | (simp_all <;> omega)) | skip))))
  refine awp_loopC (rl false [0, 2, 10, 2, 12]) 0 (fun g s => ∃ j : Nat, g + j = xs.length ∧ xs.take j = ys.take j ∧
    s = ⟨((.row 1 (xs.map encI) none) :: (.row 1 (ys.map encI) none) :: (jnk 10 ((.v (.int .i64 xs.length)) :: (.v (.int .i64 j)) :: (jnk 12 [])))), [], h⟩) xs.length ⟨0, by omega, by simp, rfl⟩ ?_
  rintro g _ ⟨j, hj, ht, rfl⟩
  (repeat (first | refine gO (by decide) ?_ | ((first | refine gR ?_ | (with_reducible refine wM ?_ ?_) | ((with_reducible refine xS ?_); refine uD 6 (mdL []) pSSame_73_6E pSSame_73_6P 26 rfl (by kernel_rfl) ?_)) <;> ((try with_reducible intro K1 hK1); simp only [go_sem, ↓reduceIte, reduceCtorEq, nA, nB, nC, nD, nE, nF] <;> and_intros <;> first | (apply hK1; clear hK1 K1) | (intros; first | omega | decide | (simp_all <;> omega)) | skip))))
  refine awp_cond (t := _) rfl (fun h2 => ?_) (fun h2 => ?_)
  · simp only [decide_eq_true_eq] at h2
    have hjx : j < xs.length := by omega
    have hjy : j < ys.length := by omega
    have gx : (xs.map encI).getD j [] = encI (xs.getD j 0) := getD_enc encI xs j 0 hjx
    have gy : (ys.map encI).getD j [] = encI (ys.getD j 0) := getD_enc encI ys j 0 hjy
    have tx := take_snoc xs j 0 hjx
    have ty2 := take_snoc ys j 0 hjy
    generalize xs.getD j 0 = a at gx tx
    generalize ys.getD j 0 = b at gy ty2
    (repeat (first | refine gO (by decide) ?_ | ((first | refine gR ?_ | (with_reducible refine wM ?_ ?_) | ((with_reducible refine xS ?_); refine uD 6 (mdL []) pSSame_73_6E pSSame_73_6P 26 rfl (by kernel_rfl) ?_)) <;> ((try with_reducible intro K1 hK1); simp only [go_sem, ↓reduceIte, reduceCtorEq, nA, nB, nC, nD, nE, nF, Int.toNat_natCast, gx, gy, encI] <;> and_intros <;> first | (apply hK1; clear hK1 K1) | (intros; first | omega | decide | (simp_all <;> omega)) | skip))))
    refine awp_cond (t := _) rfl (fun h3 => ?_) (fun h3 => ?_)
    · (repeat (first | refine gO (by decide) ?_ | ((first | refine gR ?_ | (with_reducible refine wM ?_ ?_) | ((with_reducible refine xS ?_); refine uD 6 (mdL []) pSSame_73_6E pSSame_73_6P 26 rfl (by kernel_rfl) ?_)) <;> ((try with_reducible intro K1 hK1); simp only [go_sem, ↓reduceIte, reduceCtorEq, nA, nB, nC, nD, nE, nF] <;> and_intros <;> first | (apply hK1; clear hK1 K1) | (intros; first | omega | decide | (simp_all <;> omega)) | skip))))
      simp only [Tryz.results73, go_sem, ↓reduceIte, reduceCtorEq, nA, nB, nC, nD, nE, nF]
      refine ⟨_, _, Weak.refl _, Hp.le.refl _, ?_, rfl⟩
      rw [decide_eq_false]
      intro e
      rw [e] at tx
      rw [tx] at ty2
      simp at ty2 h3
      exact h3 ty2
    · (repeat (first | refine gO (by decide) ?_ | ((first | refine gR ?_ | (with_reducible refine wM ?_ ?_) | ((with_reducible refine xS ?_); refine uD 6 (mdL []) pSSame_73_6E pSSame_73_6P 26 rfl (by kernel_rfl) ?_)) <;> ((try with_reducible intro K1 hK1); simp only [go_sem, ↓reduceIte, reduceCtorEq, nA, nB, nC, nD, nE, nF] <;> and_intros <;> first | (apply hK1; clear hK1 K1) | (intros; first | omega | decide | (simp_all <;> omega)) | skip))))
      refine ⟨g - 1, by omega, j + 1, by omega, ?_, rfl⟩
      rw [tx, ty2, ht]
      simp at h3
      rw [h3]
  · simp only [decide_eq_false_iff_not] at h2
    have hjx : j = xs.length := by omega
    subst hjx
    rw [List.take_length, hlen, List.take_length] at ht
    (repeat (first | refine gO (by decide) ?_ | ((first | refine gR ?_ | (with_reducible refine wM ?_ ?_) | ((with_reducible refine xS ?_); refine uD 6 (mdL []) pSSame_73_6E pSSame_73_6P 26 rfl (by kernel_rfl) ?_)) <;> ((try with_reducible intro K1 hK1); simp only [go_sem, ↓reduceIte, reduceCtorEq, nA, nB, nC, nD, nE, nF] <;> and_intros <;> first | (apply hK1; clear hK1 K1) | (intros; first | omega | decide | (simp_all <;> omega)) | skip))))
    simp only [Tryz.results73, go_sem, ↓reduceIte, reduceCtorEq, nA, nB, nC, nD, nE, nF]
    exact ⟨_, _, Weak.refl _, Hp.le.refl _, by rw [decide_eq_true ht], rfl⟩
theorem g_equalF (fid : Nat) (xs ys : List LT) (h : Hp) (hx : xs.length ≤ 1000) (hy : ys.length ≤ 1000)
    (hf : ∀ j, j < xs.length → j < ys.length → ACalls Tryz.prog fid [.agg (encL (xs.getD j default)), .agg (encL (ys.getD j default))] h (fun r h' => r = .v (.bool (sameB (xs.getD j default) (ys.getD j default))) ∧ h' = h)) :
    ACalls Tryz.prog 74 [.row 6 (xs.map encL) none, .row 6 (ys.map encL) none, .fn fid []] h (fun r h' => r = .v (.bool (eqKs xs ys)) ∧ h' = h) := by
  refine gE Tryz.func74 rfl (by kernel_rfl) 29 rfl fun c => ?_
  (repeat (first | refine gO (by decide) ?_ | (refine gM (mdL [(8, 1), (9, 1)]) fun K1 hK1 => ?_; simp only [go_sem, ↓reduceIte, reduceCtorEq, nA, nB, nC, nD, nE, nF] <;> and_intros <;> first | (apply hK1; clear hK1 K1) | (intros; first | omega | decide | (simp_all <;> omega)) | skip)))
  refine awp_cond (t := _) rfl (fun h1 => ?_) (fun h1 => ?_)
  · (repeat (first | refine gO (by decide) ?_ | (refine gM (mdL [(8, 1), (9, 1)]) fun K1 hK1 => ?_; simp only [go_sem, ↓reduceIte, reduceCtorEq, nA, nB, nC, nD, nE, nF] <;> and_intros <;> first | (apply hK1; clear hK1 K1) | (intros; first | omega | decide | (simp_all <;> omega)) | skip)))
    simp only [Tryz.results74, go_sem, ↓reduceIte, reduceCtorEq, nA, nB, nC, nD, nE, nF]
    exact ⟨_, _, Weak.refl _, Hp.le.refl _, by rw [eqKs_false.2 (fun e => by rw [e] at h1; simp at h1)], rfl⟩
  have hlen : xs.length = ys.length := by simp at h1; omega
  (repeat (first | refine gO (by decide) ?_ | (refine gM (mdL [(8, 1), (9, 1)]) fun K1 hK1 => ?_; simp only [go_sem, ↓reduceIte, reduceCtorEq, nA, nB, nC, nD, nE, nF] <;> and_intros <;> first | (apply hK1; clear hK1 K1) | (intros; first | omega | decide | (simp_all <;> omega)) | skip)))
  refine awp_loopC (rl false [1, 2, 12, 3, 14]) 0 (fun g s => ∃ j : Nat, g + j = xs.length ∧ xs.take j = ys.take j ∧
    s = ⟨(AV.junk :: ((.row 6 (ys.map encL) none) :: (.fn fid []) :: (jnk 12 ((.row 6 (xs.map encL) none) :: (.v (.int .i64 xs.length)) :: (.v (.int .i64 j)) :: (jnk 14 []))))), [], h⟩) xs.length ⟨0, by omega, by simp, rfl⟩ ?_
  rintro g _ ⟨j, hj, ht, rfl⟩
  (repeat (first | refine gO (by decide) ?_ | (refine gM (mdL [(8, 1), (9, 1)]) fun K1 hK1 => ?_; simp only [go_sem, ↓reduceIte, reduceCtorEq, nA, nB, nC, nD, nE, nF] <;> and_intros <;> first | (apply hK1; clear hK1 K1) | (intros; first | omega | decide | (simp_all <;> omega)) | skip)))
  refine awp_cond (t := _) rfl (fun h2 => ?_) (fun h2 => ?_)
  · simp only [decide_eq_true_eq] at h2
    have hjx : j < xs.length := by omega
    have hjy : j < ys.length := by omega
    have gx : (xs.map encL).getD j [] = encL (xs.getD j default) := getD_enc encL xs j default hjx
    have gy : (ys.map encL).getD j [] = encL (ys.getD j default) := getD_enc encL ys j default hjy
    have hc := hf j hjx hjy
    have tx := take_snoc xs j default hjx
    have ty2 := take_snoc ys j default hjy
    generalize xs.getD j default = a at gx tx hc
    generalize ys.getD j default = b at gy ty2 hc
    have la := encL_len a
    have lb := encL_len b
    have ka : List.take 6 (encL a) = encL a := List.take_of_length_le (Nat.le_of_eq la)
    have kb : List.take 6 (encL b) = encL b := List.take_of_length_le (Nat.le_of_eq lb)
    have da : List.drop 6 (encL a) = [] := List.drop_of_length_le (Nat.le_of_eq la)
    have db : List.drop 6 (encL b) = [] := List.drop_of_length_le (Nat.le_of_eq lb)
    (repeat (first | refine gO (by decide) ?_ | (refine gM (mdL [(8, 1), (9, 1)]) fun K1 hK1 => ?_; simp only [go_sem, ↓reduceIte, reduceCtorEq, nA, nB, nC, nD, nE, nF, Int.toNat_natCast, gx, gy, la, lb, ka, kb, da, db] <;> and_intros <;> first | (apply hK1; clear hK1 K1) | (intros; first | omega | decide | (simp_all <;> omega)) | skip)))
    refine hc.mono ?_; rintro _ hz ⟨rfl, hh⟩; apply hK1; clear hK1 K1; rw [hh]; clear hh hz
    (repeat (first | refine gO (by decide) ?_ | (refine gM (mdL [(8, 1), (9, 1)]) fun K1 hK1 => ?_; simp only [go_sem, ↓reduceIte, reduceCtorEq, nA, nB, nC, nD, nE, nF] <;> and_intros <;> first | (apply hK1; clear hK1 K1) | (intros; first | omega | decide | (simp_all <;> omega)) | skip)))
    refine awp_cond (t := _) rfl (fun h3 => ?_) (fun h3 => ?_)
    · (repeat (first | refine gO (by decide) ?_ | (refine gM (mdL [(8, 1), (9, 1)]) fun K1 hK1 => ?_; simp only [go_sem, ↓reduceIte, reduceCtorEq, nA, nB, nC, nD, nE, nF] <;> and_intros <;> first | (apply hK1; clear hK1 K1) | (intros; first | omega | decide | (simp_all <;> omega)) | skip)))
      simp only [Tryz.results74, go_sem, ↓reduceIte, reduceCtorEq, nA, nB, nC, nD, nE, nF]
      refine ⟨_, _, Weak.refl _, Hp.le.refl _, ?_, rfl⟩
      rw [eqKs_false.2]
      intro e
      rw [e] at tx
      rw [tx] at ty2
      have e2 : a = b := by simpa using ty2
      rw [sameB_true.2 e2] at h3
      cases h3
    · (repeat (first | refine gO (by decide) ?_ | (refine gM (mdL [(8, 1), (9, 1)]) fun K1 hK1 => ?_; simp only [go_sem, ↓reduceIte, reduceCtorEq, nA, nB, nC, nD, nE, nF] <;> and_intros <;> first | (apply hK1; clear hK1 K1) | (intros; first | omega | decide | (simp_all <;> omega)) | skip)))
      refine ⟨g - 1, by omega, j + 1, by omega, ?_, rfl⟩
      have e3 : a = b := sameB_true.1 (by simpa using h3)
      rw [tx, ty2, ht, e3]
  · simp only [decide_eq_false_iff_not] at h2
    have hjx : j = xs.length := by omega
    subst hjx
    rw [List.take_length, hlen, List.take_length] at ht
    (repeat (first | refine gO (by decide) ?_ | (refine gM (mdL [(8, 1), (9, 1)]) fun K1 hK1 => ?_; simp only [go_sem, ↓reduceIte, reduceCtorEq, nA, nB, nC, nD, nE, nF] <;> and_intros <;> first | (apply hK1; clear hK1 K1) | (intros; first | omega | decide | (simp_all <;> omega)) | skip)))
    simp only [Tryz.results74, go_sem, ↓reduceIte, reduceCtorEq, nA, nB, nC, nD, nE, nF]
    exact ⟨_, _, Weak.refl _, Hp.le.refl _, by rw [eqKs_true.2 ht], rfl⟩
theorem g_same (n : Nat) : ∀ (a b : LT) (h : Hp), SizeOf.sizeOf a ≤ n → BL a → BL b → ACalls Tryz.prog 13 [.agg (encL a), .agg (encL b)] h (fun r h' => r = .v (.bool (sameB a b)) ∧ h' = h) := by
  induction n with
  | zero =>
    rintro ⟨k, i, l, m, ks, s⟩ b h hn
    rw [LT.mk.sizeOf_spec] at hn
    omega
  | succ n ih =>
    rintro ⟨k, i, l, m, ks, s⟩ ⟨k2, i2, l2, m2, ks2, s2⟩ h hn ha hb
    rw [BL_eq] at ha hb
    obtain ⟨a1, a2, a3⟩ := ha
    obtain ⟨b1, b2, b3⟩ := hb
    have hks := g_equalF 13 ks ks2 h a1 b1 (fun j hj hj2 => ih _ _ h (by
      have := kid_size (kind := k) (item := i) (long := l) (many := m) (shares := s) (getD_mem' ks j default hj)
      omega) (a3 _ (getD_mem' ks j default hj)) (b3 _ (getD_mem' ks2 j default hj2)))
    have hss := g_equalI s s2 h a2 b2
    rw [sameB_mk, encL_eq, encL_eq]
    have key : ∀ q1 q2 q3 q4 q5 : Bool, (k == k2) = q1 → (i == i2) = q2 → (l == l2) = q3 → (m == m2) = q4 → decide (s = s2) = q5 → ACalls Tryz.prog 13 [.agg [.v (.int .i64 k), .v (.string i), .v (.int .i64 l), .v (.int .i64 m), .row 6 (ks.map encL) none, .row 1 (s.map encI) none], .agg [.v (.int .i64 k2), .v (.string i2), .v (.int .i64 l2), .v (.int .i64 m2), .row 6 (ks2.map encL) none, .row 1 (s2.map encI) none]] h
        (fun r h' => r = .v (.bool (q1 && q2 && q3 && q4 && q5 && eqKs ks ks2)) ∧ h' = h) := by
      intro q1 q2 q3 q4 q5 h1 h2 h3 h4 h5
      refine gE Tryz.func13 rfl (by kernel_rfl) 43 rfl fun c => ?_
      cases q1
      · (repeat (first | refine gO (by decide) ?_ | (refine gR fun K1 hK1 => ?_; simp only [go_sem, ↓reduceIte, reduceCtorEq, nA, nB, nC, nD, nE, nF, h1] <;> and_intros <;> first | (apply hK1; clear hK1 K1) | (intros; first | omega | decide | (simp_all <;> omega)) | skip)))
        simp only [Tryz.results13, go_sem, ↓reduceIte, reduceCtorEq, nA, nB, nC, nD, nE, nF]
        exact ⟨_, _, Weak.refl _, Hp.le.refl _, rfl, rfl⟩
      cases q2
      · (repeat (first | refine gO (by decide) ?_ | (refine gR fun K1 hK1 => ?_; simp only [go_sem, ↓reduceIte, reduceCtorEq, nA, nB, nC, nD, nE, nF, h1, h2] <;> and_intros <;> first | (apply hK1; clear hK1 K1) | (intros; first | omega | decide | (simp_all <;> omega)) | skip)))
        simp only [Tryz.results13, go_sem, ↓reduceIte, reduceCtorEq, nA, nB, nC, nD, nE, nF]
        exact ⟨_, _, Weak.refl _, Hp.le.refl _, rfl, rfl⟩
      cases q3
      · (repeat (first | refine gO (by decide) ?_ | (refine gR fun K1 hK1 => ?_; simp only [go_sem, ↓reduceIte, reduceCtorEq, nA, nB, nC, nD, nE, nF, h1, h2, h3] <;> and_intros <;> first | (apply hK1; clear hK1 K1) | (intros; first | omega | decide | (simp_all <;> omega)) | skip)))
        simp only [Tryz.results13, go_sem, ↓reduceIte, reduceCtorEq, nA, nB, nC, nD, nE, nF]
        exact ⟨_, _, Weak.refl _, Hp.le.refl _, rfl, rfl⟩
      cases q4
      · (repeat (first | refine gO (by decide) ?_ | (refine gR fun K1 hK1 => ?_; simp only [go_sem, ↓reduceIte, reduceCtorEq, nA, nB, nC, nD, nE, nF, h1, h2, h3, h4] <;> and_intros <;> first | (apply hK1; clear hK1 K1) | (intros; first | omega | decide | (simp_all <;> omega)) | skip)))
        simp only [Tryz.results13, go_sem, ↓reduceIte, reduceCtorEq, nA, nB, nC, nD, nE, nF]
        exact ⟨_, _, Weak.refl _, Hp.le.refl _, rfl, rfl⟩
      (repeat (first | refine gO (by decide) ?_ | (refine gR fun K1 hK1 => ?_; simp only [go_sem, ↓reduceIte, reduceCtorEq, nA, nB, nC, nD, nE, nF, h1, h2, h3, h4] <;> and_intros <;> first | (apply hK1; clear hK1 K1) | (intros; first | omega | decide | (simp_all <;> omega)) | skip)))
      refine hss.mono ?_; rintro _ hz ⟨rfl, hh⟩; refine ⟨rfl, hK1 _ ?_⟩; clear hK1 K1; rw [hh]; clear hh hz
      cases q5
      · (repeat (first | refine gO (by decide) ?_ | (refine gR fun K1 hK1 => ?_; simp only [go_sem, ↓reduceIte, reduceCtorEq, nA, nB, nC, nD, nE, nF, h5] <;> and_intros <;> first | (apply hK1; clear hK1 K1) | (intros; first | omega | decide | (simp_all <;> omega)) | skip)))
        simp only [Tryz.results13, go_sem, ↓reduceIte, reduceCtorEq, nA, nB, nC, nD, nE, nF]
        exact ⟨_, _, Weak.refl _, Hp.le.refl _, rfl, rfl⟩
      (repeat (first | refine gO (by decide) ?_ | (refine gR fun K1 hK1 => ?_; simp only [go_sem, ↓reduceIte, reduceCtorEq, nA, nB, nC, nD, nE, nF, h5] <;> and_intros <;> first | (apply hK1; clear hK1 K1) | (intros; first | omega | decide | (simp_all <;> omega)) | skip)))
      refine hks.mono ?_; rintro _ hz ⟨rfl, hh⟩; refine ⟨rfl, hK1 _ ?_⟩; clear hK1 K1; rw [hh]; clear hh hz
      (repeat (first | refine gO (by decide) ?_ | (refine gR fun K1 hK1 => ?_; simp only [go_sem, ↓reduceIte, reduceCtorEq, nA, nB, nC, nD, nE, nF] <;> and_intros <;> first | (apply hK1; clear hK1 K1) | (intros; first | omega | decide | (simp_all <;> omega)) | skip)))
      simp only [Tryz.results13, go_sem, ↓reduceIte, reduceCtorEq, nA, nB, nC, nD, nE, nF]
      exact ⟨_, _, Weak.refl _, Hp.le.refl _, rfl, rfl⟩
    exact key _ _ _ _ _ rfl rfl rfl rfl rfl
theorem g_equal (n : Nat) : ∀ (a b : LT) (h : Hp), SizeOf.sizeOf a ≤ n → BL a → BL b → ACalls Tryz.prog 175 [.agg (encL a), .agg (encL b)] h (fun r h' => r = .v (.bool (sameB a b)) ∧ h' = h) := by
  induction n with
  | zero =>
    rintro ⟨k, i, l, m, ks, s⟩ b h hn
    rw [LT.mk.sizeOf_spec] at hn
    omega
  | succ n ih =>
    rintro ⟨k, i, l, m, ks, s⟩ ⟨k2, i2, l2, m2, ks2, s2⟩ h hn ha hb
    rw [BL_eq] at ha hb
    obtain ⟨a1, a2, a3⟩ := ha
    obtain ⟨b1, b2, b3⟩ := hb
    have hks := g_equalF 175 ks ks2 h a1 b1 (fun j hj hj2 => ih _ _ h (by
      have := kid_size (kind := k) (item := i) (long := l) (many := m) (shares := s) (getD_mem' ks j default hj)
      omega) (a3 _ (getD_mem' ks j default hj)) (b3 _ (getD_mem' ks2 j default hj2)))
    have hss := g_equalI s s2 h a2 b2
    rw [sameB_mk, encL_eq, encL_eq]
    have key : ∀ q1 q2 q3 q4 q5 : Bool, (k == k2) = q1 → (i == i2) = q2 → (l == l2) = q3 → (m == m2) = q4 → decide (s = s2) = q5 → ACalls Tryz.prog 175 [.agg [.v (.int .i64 k), .v (.string i), .v (.int .i64 l), .v (.int .i64 m), .row 6 (ks.map encL) none, .row 1 (s.map encI) none], .agg [.v (.int .i64 k2), .v (.string i2), .v (.int .i64 l2), .v (.int .i64 m2), .row 6 (ks2.map encL) none, .row 1 (s2.map encI) none]] h
        (fun r h' => r = .v (.bool (q1 && q2 && q3 && q4 && q5 && eqKs ks ks2)) ∧ h' = h) := by
      intro q1 q2 q3 q4 q5 h1 h2 h3 h4 h5
      refine gE Tryz.func175 rfl (by kernel_rfl) 43 rfl fun c => ?_
      cases q1
      · (repeat (first | refine gO (by decide) ?_ | (refine gR fun K1 hK1 => ?_; simp only [go_sem, ↓reduceIte, reduceCtorEq, nA, nB, nC, nD, nE, nF, h1] <;> and_intros <;> first | (apply hK1; clear hK1 K1) | (intros; first | omega | decide | (simp_all <;> omega)) | skip)))
        simp only [Tryz.results175, go_sem, ↓reduceIte, reduceCtorEq, nA, nB, nC, nD, nE, nF]
        exact ⟨_, _, Weak.refl _, Hp.le.refl _, rfl, rfl⟩
      cases q2
      · (repeat (first | refine gO (by decide) ?_ | (refine gR fun K1 hK1 => ?_; simp only [go_sem, ↓reduceIte, reduceCtorEq, nA, nB, nC, nD, nE, nF, h1, h2] <;> and_intros <;> first | (apply hK1; clear hK1 K1) | (intros; first | omega | decide | (simp_all <;> omega)) | skip)))
        simp only [Tryz.results175, go_sem, ↓reduceIte, reduceCtorEq, nA, nB, nC, nD, nE, nF]
        exact ⟨_, _, Weak.refl _, Hp.le.refl _, rfl, rfl⟩
      cases q3
      · (repeat (first | refine gO (by decide) ?_ | (refine gR fun K1 hK1 => ?_; simp only [go_sem, ↓reduceIte, reduceCtorEq, nA, nB, nC, nD, nE, nF, h1, h2, h3] <;> and_intros <;> first | (apply hK1; clear hK1 K1) | (intros; first | omega | decide | (simp_all <;> omega)) | skip)))
        simp only [Tryz.results175, go_sem, ↓reduceIte, reduceCtorEq, nA, nB, nC, nD, nE, nF]
        exact ⟨_, _, Weak.refl _, Hp.le.refl _, rfl, rfl⟩
      cases q4
      · (repeat (first | refine gO (by decide) ?_ | (refine gR fun K1 hK1 => ?_; simp only [go_sem, ↓reduceIte, reduceCtorEq, nA, nB, nC, nD, nE, nF, h1, h2, h3, h4] <;> and_intros <;> first | (apply hK1; clear hK1 K1) | (intros; first | omega | decide | (simp_all <;> omega)) | skip)))
        simp only [Tryz.results175, go_sem, ↓reduceIte, reduceCtorEq, nA, nB, nC, nD, nE, nF]
        exact ⟨_, _, Weak.refl _, Hp.le.refl _, rfl, rfl⟩
      (repeat (first | refine gO (by decide) ?_ | (refine gR fun K1 hK1 => ?_; simp only [go_sem, ↓reduceIte, reduceCtorEq, nA, nB, nC, nD, nE, nF, h1, h2, h3, h4] <;> and_intros <;> first | (apply hK1; clear hK1 K1) | (intros; first | omega | decide | (simp_all <;> omega)) | skip)))
      refine hss.mono ?_; rintro _ hz ⟨rfl, hh⟩; refine ⟨rfl, hK1 _ ?_⟩; clear hK1 K1; rw [hh]; clear hh hz
      cases q5
      · (repeat (first | refine gO (by decide) ?_ | (refine gR fun K1 hK1 => ?_; simp only [go_sem, ↓reduceIte, reduceCtorEq, nA, nB, nC, nD, nE, nF, h5] <;> and_intros <;> first | (apply hK1; clear hK1 K1) | (intros; first | omega | decide | (simp_all <;> omega)) | skip)))
        simp only [Tryz.results175, go_sem, ↓reduceIte, reduceCtorEq, nA, nB, nC, nD, nE, nF]
        exact ⟨_, _, Weak.refl _, Hp.le.refl _, rfl, rfl⟩
      (repeat (first | refine gO (by decide) ?_ | (refine gR fun K1 hK1 => ?_; simp only [go_sem, ↓reduceIte, reduceCtorEq, nA, nB, nC, nD, nE, nF, h5] <;> and_intros <;> first | (apply hK1; clear hK1 K1) | (intros; first | omega | decide | (simp_all <;> omega)) | skip)))
      refine hks.mono ?_; rintro _ hz ⟨rfl, hh⟩; refine ⟨rfl, hK1 _ ?_⟩; clear hK1 K1; rw [hh]; clear hh hz
      (repeat (first | refine gO (by decide) ?_ | (refine gR fun K1 hK1 => ?_; simp only [go_sem, ↓reduceIte, reduceCtorEq, nA, nB, nC, nD, nE, nF] <;> and_intros <;> first | (apply hK1; clear hK1 K1) | (intros; first | omega | decide | (simp_all <;> omega)) | skip)))
      simp only [Tryz.results175, go_sem, ↓reduceIte, reduceCtorEq, nA, nB, nC, nD, nE, nF]
      exact ⟨_, _, Weak.refl _, Hp.le.refl _, rfl, rfl⟩
    exact key _ _ _ _ _ rfl rfl rfl rfl rfl
abbrev pSCount_171_4E : List Nat := [0, 1, 2, 3, 4, 5]
abbrev pSCount_171_4P : List (Nat × List Nat × List Nat) := [(6, [5], [7])]
abbrev pSCount_218_4E : List Nat := [0, 1, 2, 3, 4, 5]
abbrev pSCount_218_4P : List (Nat × List Nat × List Nat) := [(6, [5], [7, 8])]
attribute [go_sem] pSCount_171_4E pSCount_171_4P pSCount_218_4E pSCount_218_4P
def cntD (t : LT) : LT × Int := (cnt t).getD (default, 0)
theorem len_one {α : Type} {l : List α} (h : l.length = 1) : ∃ x, l = [x] := by
  match l, h with
  | [x], _ => exact ⟨x, rfl⟩
theorem Weak.zeroL : Weak (.agg [.v (.int .i64 0), .v (.string ⟨#[]⟩), .v (.int .i64 0), .v (.int .i64 0), .v (.slice none 0 0), .v (.slice none 0 0)]) (.agg (encL default)) := by
  rw [show (default : LT) = .mk 0 ⟨#[]⟩ 0 0 [] [] from rfl, encL_eq]
  exact Weak.agg (.cons (Weak.refl _) (.cons (Weak.refl _) (.cons (Weak.refl _) (.cons (Weak.refl _) (.cons (Weak.nil 6 0 0 ⟨rfl, rfl⟩) (.cons (Weak.nil 1 0 0 ⟨rfl, rfl⟩) .nil))))))
theorem Weak.tupC {a a' : AV} {xs : List AV} (ha : Weak a a') : Weak (.tup (a :: xs)) (.tup (a' :: xs)) := fun G v hr => by
  cases hr with
  | tup _ vs u hl hu hr =>
    refine .tup _ vs u (by simpa using hl) (fun j hj => hu j (by simpa using hj)) (fun j hj => ?_)
    cases j with
    | zero => exact ha G _ (hr 0 (by simp))
    | succ j => exact hr (j + 1) (by simpa using hj)
theorem g_cntR (t : LT) (h : Hp) (hw : WF t) : ACalls Tryz.prog 171 [.agg (encL t)] h (fun r h' => r = .tup (.agg (encL (cntD t).1) :: .v (.int .i64 (cntD t).2) :: []) ∧ h' = h) := by
  cases t with
  | mk k i l m ks s =>
  have w4 := ((WF_eq ..).mp hw).2.2.2.1
  by_cases h1 : k = 1
  · have e1 : (k == 1) = true := by simpa using h1
    have hc : cnt (.mk k i l m ks s) = some (.mk k i l m ks s, 1) := by rw [cnt_mk, if_pos h1]
    rw [cntD, hc, encL_eq]
    refine gE Tryz.func171 rfl (by kernel_rfl) 27 rfl fun c => ?_
    (repeat' (first | refine gO (by decide) ?_ | ((first | refine gM (mdL [(2, 1)]) ?_ | (with_reducible refine wM ?_ ?_) | ((with_reducible refine xS ?_); refine uD 4 (mdL [(2, 1)]) pSCount_171_4E pSCount_171_4P 28 rfl (by kernel_rfl) ?_)) <;> ((try with_reducible intro K1 hK1); simp only [go_sem, ↓reduceIte, reduceCtorEq, nA, nB, nC, nD, nE, nF, e1] <;> and_intros <;> first | (apply hK1; clear hK1 K1) | (intros; first | omega | decide | (simp_all <;> omega)) | skip)) | (refine awp_cond (t := _) rfl (fun hcnd => ?_) (fun hcnd => ?_) <;> first | (cases hcnd; done) | (simp only [hcnd]) | skip)))
    simp only [Tryz.results171, go_sem, ↓reduceIte, reduceCtorEq, nA, nB, nC, nD, nE, nF]
    exact ⟨_, _, Weak.refl _, Hp.le.refl _, by simp only [Option.getD_some, encL_eq, Option.isSome_some], rfl⟩
  have e1 : (k == 1) = false := by simpa using h1
  by_cases h5 : k = 5
  · have e5 : (k == 5) = true := by simpa using h5
    obtain ⟨x, rfl⟩ := len_one (w4 h5).1
    cases x with
    | mk k2 i2 l2 m2 ks2 s2 =>
    by_cases h2 : k2 = 1
    · have e2 : (k2 == 1) = true := by simpa using h2
      have hc : cnt (.mk k i l m [.mk k2 i2 l2 m2 ks2 s2] s) = some (.mk k2 i2 l2 m2 ks2 s2, m) := by rw [cnt_mk, if_neg h1, if_pos ⟨h5, h2⟩]; rfl
      rw [cntD, hc, encL_eq]
      refine gE Tryz.func171 rfl (by kernel_rfl) 27 rfl fun c => ?_
      (repeat' (first | refine gO (by decide) ?_ | ((first | refine gM (mdL [(2, 1)]) ?_ | (with_reducible refine wM ?_ ?_) | ((with_reducible refine xS ?_); refine uD 4 (mdL [(2, 1)]) pSCount_171_4E pSCount_171_4P 28 rfl (by kernel_rfl) ?_)) <;> ((try with_reducible intro K1 hK1); simp only [go_sem, ↓reduceIte, reduceCtorEq, nA, nB, nC, nD, nE, nF, e1, e5, e2, encL_eq, Int.toNat_zero] <;> and_intros <;> first | (apply hK1; clear hK1 K1) | (intros; first | omega | decide | (simp_all <;> omega)) | skip)) | (refine awp_cond (t := _) rfl (fun hcnd => ?_) (fun hcnd => ?_) <;> first | (cases hcnd; done) | (simp only [hcnd]) | skip)))
      simp only [Tryz.results171, go_sem, ↓reduceIte, reduceCtorEq, nA, nB, nC, nD, nE, nF]
      exact ⟨_, _, Weak.refl _, Hp.le.refl _, by simp only [Option.getD_some, encL_eq, Option.isSome_some], rfl⟩
    · have e2 : (k2 == 1) = false := by simpa using h2
      have hc : cnt (.mk k i l m [.mk k2 i2 l2 m2 ks2 s2] s) = none := by rw [cnt_mk, if_neg h1, if_neg]; exact fun h => h2 h.2
      rw [cntD, hc, encL_eq]
      refine gE Tryz.func171 rfl (by kernel_rfl) 27 rfl fun c => ?_
      (repeat' (first | refine gO (by decide) ?_ | ((first | refine gM (mdL [(2, 1)]) ?_ | (with_reducible refine wM ?_ ?_) | ((with_reducible refine xS ?_); refine uD 4 (mdL [(2, 1)]) pSCount_171_4E pSCount_171_4P 28 rfl (by kernel_rfl) ?_)) <;> ((try with_reducible intro K1 hK1); simp only [go_sem, ↓reduceIte, reduceCtorEq, nA, nB, nC, nD, nE, nF, e1, e5, e2, encL_eq, Int.toNat_zero] <;> and_intros <;> first | (apply hK1; clear hK1 K1) | (intros; first | omega | decide | (simp_all <;> omega)) | skip)) | (refine awp_cond (t := _) rfl (fun hcnd => ?_) (fun hcnd => ?_) <;> first | (cases hcnd; done) | (simp only [hcnd]) | skip)))
      simp only [Tryz.results171, go_sem, ↓reduceIte, reduceCtorEq, nA, nB, nC, nD, nE, nF]
      exact ⟨_, _, Weak.tupC Weak.zeroL, Hp.le.refl _, by simp only [Option.getD_none, Option.isSome_none], rfl⟩
  · have e5 : (k == 5) = false := by simpa using h5
    have hc : cnt (.mk k i l m ks s) = none := by rw [cnt_mk, if_neg h1, if_neg]; exact fun h => h5 h.1
    have hne := (((WF_eq ..).mp hw).2.2.1 h1).2.2
    rw [cntD, hc, encL_eq]
    obtain ⟨x, xs, rfl⟩ := List.exists_cons_of_ne_nil hne
    cases x with
    | mk k2 i2 l2 m2 ks2 s2 =>
    refine gE Tryz.func171 rfl (by kernel_rfl) 27 rfl fun c => ?_
    (repeat' (first | refine gO (by decide) ?_ | ((first | refine gM (mdL [(2, 1)]) ?_ | (with_reducible refine wM ?_ ?_) | ((with_reducible refine xS ?_); refine uD 4 (mdL [(2, 1)]) pSCount_171_4E pSCount_171_4P 28 rfl (by kernel_rfl) ?_)) <;> ((try with_reducible intro K1 hK1); simp only [go_sem, ↓reduceIte, reduceCtorEq, nA, nB, nC, nD, nE, nF, e1, e5, encL_eq, Int.toNat_zero] <;> and_intros <;> first | (apply hK1; clear hK1 K1) | (intros; first | omega | decide | (simp_all <;> omega)) | skip)) | (refine awp_cond (t := _) rfl (fun hcnd => ?_) (fun hcnd => ?_) <;> first | (cases hcnd; done) | (simp only [hcnd]) | skip)))
    simp only [Tryz.results171, go_sem, ↓reduceIte, reduceCtorEq, nA, nB, nC, nD, nE, nF]
    exact ⟨_, _, Weak.tupC Weak.zeroL, Hp.le.refl _, by simp only [Option.getD_none, Option.isSome_none], rfl⟩
theorem g_cntP (t : LT) (h : Hp) (hw : WF t) : ACalls Tryz.prog 218 [.agg (encL t)] h (fun r h' => r = .tup (.agg (encL (cntD t).1) :: .v (.int .i64 (cntD t).2) :: [.v (.bool (cnt t).isSome)]) ∧ h' = h) := by
  cases t with
  | mk k i l m ks s =>
  have w4 := ((WF_eq ..).mp hw).2.2.2.1
  by_cases h1 : k = 1
  · have e1 : (k == 1) = true := by simpa using h1
    have hc : cnt (.mk k i l m ks s) = some (.mk k i l m ks s, 1) := by rw [cnt_mk, if_pos h1]
    rw [cntD, hc, encL_eq]
    refine gE Tryz.func218 rfl (by kernel_rfl) 28 rfl fun c => ?_
    (repeat' (first | refine gO (by decide) ?_ | ((first | refine gM (mdL [(2, 1)]) ?_ | (with_reducible refine wM ?_ ?_) | ((with_reducible refine xS ?_); refine uD 4 (mdL [(2, 1)]) pSCount_218_4E pSCount_218_4P 29 rfl (by kernel_rfl) ?_)) <;> ((try with_reducible intro K1 hK1); simp only [go_sem, ↓reduceIte, reduceCtorEq, nA, nB, nC, nD, nE, nF, e1] <;> and_intros <;> first | (apply hK1; clear hK1 K1) | (intros; first | omega | decide | (simp_all <;> omega)) | skip)) | (refine awp_cond (t := _) rfl (fun hcnd => ?_) (fun hcnd => ?_) <;> first | (cases hcnd; done) | (simp only [hcnd]) | skip)))
    simp only [Tryz.results218, go_sem, ↓reduceIte, reduceCtorEq, nA, nB, nC, nD, nE, nF]
    exact ⟨_, _, Weak.refl _, Hp.le.refl _, by simp only [Option.getD_some, encL_eq, Option.isSome_some], rfl⟩
  have e1 : (k == 1) = false := by simpa using h1
  by_cases h5 : k = 5
  · have e5 : (k == 5) = true := by simpa using h5
    obtain ⟨x, rfl⟩ := len_one (w4 h5).1
    cases x with
    | mk k2 i2 l2 m2 ks2 s2 =>
    by_cases h2 : k2 = 1
    · have e2 : (k2 == 1) = true := by simpa using h2
      have hc : cnt (.mk k i l m [.mk k2 i2 l2 m2 ks2 s2] s) = some (.mk k2 i2 l2 m2 ks2 s2, m) := by rw [cnt_mk, if_neg h1, if_pos ⟨h5, h2⟩]; rfl
      rw [cntD, hc, encL_eq]
      refine gE Tryz.func218 rfl (by kernel_rfl) 28 rfl fun c => ?_
      (repeat' (first | refine gO (by decide) ?_ | ((first | refine gM (mdL [(2, 1)]) ?_ | (with_reducible refine wM ?_ ?_) | ((with_reducible refine xS ?_); refine uD 4 (mdL [(2, 1)]) pSCount_218_4E pSCount_218_4P 29 rfl (by kernel_rfl) ?_)) <;> ((try with_reducible intro K1 hK1); simp only [go_sem, ↓reduceIte, reduceCtorEq, nA, nB, nC, nD, nE, nF, e1, e5, e2, encL_eq, Int.toNat_zero] <;> and_intros <;> first | (apply hK1; clear hK1 K1) | (intros; first | omega | decide | (simp_all <;> omega)) | skip)) | (refine awp_cond (t := _) rfl (fun hcnd => ?_) (fun hcnd => ?_) <;> first | (cases hcnd; done) | (simp only [hcnd]) | skip)))
      simp only [Tryz.results218, go_sem, ↓reduceIte, reduceCtorEq, nA, nB, nC, nD, nE, nF]
      exact ⟨_, _, Weak.refl _, Hp.le.refl _, by simp only [Option.getD_some, encL_eq, Option.isSome_some], rfl⟩
    · have e2 : (k2 == 1) = false := by simpa using h2
      have hc : cnt (.mk k i l m [.mk k2 i2 l2 m2 ks2 s2] s) = none := by rw [cnt_mk, if_neg h1, if_neg]; exact fun h => h2 h.2
      rw [cntD, hc, encL_eq]
      refine gE Tryz.func218 rfl (by kernel_rfl) 28 rfl fun c => ?_
      (repeat' (first | refine gO (by decide) ?_ | ((first | refine gM (mdL [(2, 1)]) ?_ | (with_reducible refine wM ?_ ?_) | ((with_reducible refine xS ?_); refine uD 4 (mdL [(2, 1)]) pSCount_218_4E pSCount_218_4P 29 rfl (by kernel_rfl) ?_)) <;> ((try with_reducible intro K1 hK1); simp only [go_sem, ↓reduceIte, reduceCtorEq, nA, nB, nC, nD, nE, nF, e1, e5, e2, encL_eq, Int.toNat_zero] <;> and_intros <;> first | (apply hK1; clear hK1 K1) | (intros; first | omega | decide | (simp_all <;> omega)) | skip)) | (refine awp_cond (t := _) rfl (fun hcnd => ?_) (fun hcnd => ?_) <;> first | (cases hcnd; done) | (simp only [hcnd]) | skip)))
      simp only [Tryz.results218, go_sem, ↓reduceIte, reduceCtorEq, nA, nB, nC, nD, nE, nF]
      exact ⟨_, _, Weak.tupC Weak.zeroL, Hp.le.refl _, by simp only [Option.getD_none, Option.isSome_none], rfl⟩
  · have e5 : (k == 5) = false := by simpa using h5
    have hc : cnt (.mk k i l m ks s) = none := by rw [cnt_mk, if_neg h1, if_neg]; exact fun h => h5 h.1
    have hne := (((WF_eq ..).mp hw).2.2.1 h1).2.2
    rw [cntD, hc, encL_eq]
    obtain ⟨x, xs, rfl⟩ := List.exists_cons_of_ne_nil hne
    cases x with
    | mk k2 i2 l2 m2 ks2 s2 =>
    refine gE Tryz.func218 rfl (by kernel_rfl) 28 rfl fun c => ?_
    (repeat' (first | refine gO (by decide) ?_ | ((first | refine gM (mdL [(2, 1)]) ?_ | (with_reducible refine wM ?_ ?_) | ((with_reducible refine xS ?_); refine uD 4 (mdL [(2, 1)]) pSCount_218_4E pSCount_218_4P 29 rfl (by kernel_rfl) ?_)) <;> ((try with_reducible intro K1 hK1); simp only [go_sem, ↓reduceIte, reduceCtorEq, nA, nB, nC, nD, nE, nF, e1, e5, encL_eq, Int.toNat_zero] <;> and_intros <;> first | (apply hK1; clear hK1 K1) | (intros; first | omega | decide | (simp_all <;> omega)) | skip)) | (refine awp_cond (t := _) rfl (fun hcnd => ?_) (fun hcnd => ?_) <;> first | (cases hcnd; done) | (simp only [hcnd]) | skip)))
    simp only [Tryz.results218, go_sem, ↓reduceIte, reduceCtorEq, nA, nB, nC, nD, nE, nF]
    exact ⟨_, _, Weak.tupC Weak.zeroL, Hp.le.refl _, by simp only [Option.getD_none, Option.isSome_none], rfl⟩
theorem g_anyF (fid : Nat) (caps : List AV) (ts : List LT) (q : LT → Bool) (h : Hp) (hl : ts.length ≤ 1000)
    (hf : ∀ t ∈ ts, ACalls Tryz.prog fid (.agg (encL t) :: caps) h (fun r h' => r = .v (.bool (q t)) ∧ h' = h)) :
    ACalls Tryz.prog 123 [.row 6 (ts.map encL) none, .fn fid caps] h (fun r h' => r = .v (.bool (ts.any q)) ∧ h' = h) := by
  refine (g_contains41 fid caps (ts.map encL) (fun j hj => ?_) (by simp; omega) (fun j h' => h' = h ∧ (ts.take j).any q = false) (fun j h' => h' = h ∧ q (ts.getD j default) = true) h ⟨rfl, rfl⟩ ?_).mono ?_
  · have hj' : j < ts.length := by simpa using hj
    rw [show (ts.map encL).getD j [] = encL (ts.getD j default) from getD_enc encL ts j default hj']
    exact encL_len _
  · rintro j h' hj ⟨rfl, hI⟩
    have hj' : j < ts.length := by simpa using hj
    rw [show (ts.map encL).getD j [] = encL (ts.getD j default) from getD_enc encL ts j default hj']
    refine (hf _ (getD_mem' ts j default hj')).mono ?_
    rintro _ h2 ⟨rfl, hh⟩
    refine ⟨_, rfl, fun hb => ⟨hh, hb⟩, fun hb => ⟨hh, ?_⟩⟩
    rw [take_snoc ts j default hj', List.any_append, hI]
    simp only [List.any_cons, List.any_nil, hb, Bool.or_false]
  · rintro _ h' (⟨j, hj, rfl, hh, hb⟩ | ⟨rfl, hh, hI⟩)
    · have hj' : j < ts.length := by simpa using hj
      exact ⟨by rw [List.any_eq_true.2 ⟨_, getD_mem' ts j default hj', hb⟩], hh⟩
    · rw [List.length_map, List.take_length] at hI
      exact ⟨by rw [hI], hh⟩
theorem g_plainR (n : Nat) : ∀ (t : LT) (h : Hp), SizeOf.sizeOf t ≤ n → BL t → ACalls Tryz.prog 122 [.agg (encL t)] h (fun r h' => r = .v (.bool (plainT t)) ∧ h' = h) := by
  induction n with
  | zero =>
    rintro ⟨k, i, l, m, ks, s⟩ h hn
    rw [LT.mk.sizeOf_spec] at hn
    omega
  | succ n ih =>
    rintro ⟨k, i, l, m, ks, s⟩ h hn ha
    rw [BL_eq] at ha
    obtain ⟨a1, a2, a3⟩ := ha
    have hany := g_anyF 169 [] ks (fun t => !plainT t) h a1 (fun t ht => by
      have hlen := encL_len t
      have htk : List.take 6 (encL t) = encL t := List.take_of_length_le (Nat.le_of_eq hlen)
      have hdr : List.drop 6 (encL t) = [] := List.drop_of_length_le (Nat.le_of_eq hlen)
      refine gE Tryz.func169 rfl (by kernel_rfl) 5 rfl fun c => ?_
      (repeat (first | refine gO (by decide) ?_ | (refine gR fun K1 hK1 => ?_; simp only [go_sem, ↓reduceIte, reduceCtorEq, nA, nB, nC, nD, nE, nF, hlen, htk, hdr] <;> and_intros <;> first | (apply hK1; clear hK1 K1) | (intros; first | omega | decide | (simp_all <;> omega)) | skip)))
      refine (ih t h (by
        have := kid_size (kind := k) (item := i) (long := l) (many := m) (shares := s) ht
        omega) (a3 _ ht)).mono ?_; rintro _ hz ⟨rfl, hh⟩; apply hK1; clear hK1 K1; rw [hh]; clear hh hz
      (repeat (first | refine gO (by decide) ?_ | (refine gR fun K1 hK1 => ?_; simp only [go_sem, ↓reduceIte, reduceCtorEq, nA, nB, nC, nD, nE, nF] <;> and_intros <;> first | (apply hK1; clear hK1 K1) | (intros; first | omega | decide | (simp_all <;> omega)) | skip)))
      simp only [Tryz.results169, go_sem, ↓reduceIte, reduceCtorEq, nA, nB, nC, nD, nE, nF]
      exact ⟨_, _, Weak.refl _, Hp.le.refl _, rfl, rfl⟩)
    rw [plainT_eq, encL_eq]
    have key : ∀ q3 q4 : Bool, (k != 3) = q3 → (k != 4) = q4 → ACalls Tryz.prog 122 [.agg [.v (.int .i64 k), .v (.string i), .v (.int .i64 l), .v (.int .i64 m), .row 6 (ks.map encL) none, .row 1 (s.map encI) none]] h
        (fun r h' => r = .v (.bool (q3 && q4 && ks.all plainT)) ∧ h' = h) := by
      intro q3 q4 h3 h4
      refine gE Tryz.func122 rfl (by kernel_rfl) 16 rfl fun c => ?_
      cases q3
      · (repeat (first | refine gO (by decide) ?_ | (refine gR fun K1 hK1 => ?_; simp only [go_sem, ↓reduceIte, reduceCtorEq, nA, nB, nC, nD, nE, nF, h3] <;> and_intros <;> first | (apply hK1; clear hK1 K1) | (intros; first | omega | decide | (simp_all <;> omega)) | skip)))
        refine ⟨.v (.bool false), rfl, True.intro, hK1 _ ?_⟩; clear hK1 K1
        (repeat (first | refine gO (by decide) ?_ | (refine gR fun K1 hK1 => ?_; simp only [go_sem, ↓reduceIte, reduceCtorEq, nA, nB, nC, nD, nE, nF, h3] <;> and_intros <;> first | (apply hK1; clear hK1 K1) | (intros; first | omega | decide | (simp_all <;> omega)) | skip)))
        simp only [Tryz.results122, go_sem, ↓reduceIte, reduceCtorEq, nA, nB, nC, nD, nE, nF]
        exact ⟨_, _, Weak.refl _, Hp.le.refl _, rfl, rfl⟩
      cases q4
      · (repeat (first | refine gO (by decide) ?_ | (refine gR fun K1 hK1 => ?_; simp only [go_sem, ↓reduceIte, reduceCtorEq, nA, nB, nC, nD, nE, nF, h3, h4] <;> and_intros <;> first | (apply hK1; clear hK1 K1) | (intros; first | omega | decide | (simp_all <;> omega)) | skip)))
        refine ⟨.v (.bool false), rfl, True.intro, hK1 _ ?_⟩; clear hK1 K1
        (repeat (first | refine gO (by decide) ?_ | (refine gR fun K1 hK1 => ?_; simp only [go_sem, ↓reduceIte, reduceCtorEq, nA, nB, nC, nD, nE, nF, h3, h4] <;> and_intros <;> first | (apply hK1; clear hK1 K1) | (intros; first | omega | decide | (simp_all <;> omega)) | skip)))
        simp only [Tryz.results122, go_sem, ↓reduceIte, reduceCtorEq, nA, nB, nC, nD, nE, nF]
        exact ⟨_, _, Weak.refl _, Hp.le.refl _, rfl, rfl⟩
      (repeat (first | refine gO (by decide) ?_ | (refine gR fun K1 hK1 => ?_; simp only [go_sem, ↓reduceIte, reduceCtorEq, nA, nB, nC, nD, nE, nF, h3, h4] <;> and_intros <;> first | (apply hK1; clear hK1 K1) | (intros; first | omega | decide | (simp_all <;> omega)) | skip)))
      refine hany.mono ?_; rintro _ hz ⟨rfl, hh⟩; refine ⟨rfl, hK1 _ ?_⟩; clear hK1 K1; rw [hh]; clear hh hz
      (repeat (first | refine gO (by decide) ?_ | (refine gR fun K1 hK1 => ?_; simp only [go_sem, ↓reduceIte, reduceCtorEq, nA, nB, nC, nD, nE, nF, h3, h4] <;> and_intros <;> first | (apply hK1; clear hK1 K1) | (intros; first | omega | decide | (simp_all <;> omega)) | skip)))
      simp only [Tryz.results122, go_sem, ↓reduceIte, reduceCtorEq, nA, nB, nC, nD, nE, nF]
      exact ⟨_, _, Weak.refl _, Hp.le.refl _, by first | rw [List.all_eq_not_any_not] | simp [List.all_eq_not_any_not], rfl⟩
    exact key _ _ rfl rfl
theorem g_plainP (n : Nat) : ∀ (t : LT) (h : Hp), SizeOf.sizeOf t ≤ n → BL t → ACalls Tryz.prog 178 [.agg (encL t)] h (fun r h' => r = .v (.bool (plainT t)) ∧ h' = h) := by
  induction n with
  | zero =>
    rintro ⟨k, i, l, m, ks, s⟩ h hn
    rw [LT.mk.sizeOf_spec] at hn
    omega
  | succ n ih =>
    rintro ⟨k, i, l, m, ks, s⟩ h hn ha
    rw [BL_eq] at ha
    obtain ⟨a1, a2, a3⟩ := ha
    have hany := g_anyF 220 [] ks (fun t => !plainT t) h a1 (fun t ht => by
      have hlen := encL_len t
      have htk : List.take 6 (encL t) = encL t := List.take_of_length_le (Nat.le_of_eq hlen)
      have hdr : List.drop 6 (encL t) = [] := List.drop_of_length_le (Nat.le_of_eq hlen)
      refine gE Tryz.func220 rfl (by kernel_rfl) 5 rfl fun c => ?_
      (repeat (first | refine gO (by decide) ?_ | (refine gR fun K1 hK1 => ?_; simp only [go_sem, ↓reduceIte, reduceCtorEq, nA, nB, nC, nD, nE, nF, hlen, htk, hdr] <;> and_intros <;> first | (apply hK1; clear hK1 K1) | (intros; first | omega | decide | (simp_all <;> omega)) | skip)))
      refine (ih t h (by
        have := kid_size (kind := k) (item := i) (long := l) (many := m) (shares := s) ht
        omega) (a3 _ ht)).mono ?_; rintro _ hz ⟨rfl, hh⟩; apply hK1; clear hK1 K1; rw [hh]; clear hh hz
      (repeat (first | refine gO (by decide) ?_ | (refine gR fun K1 hK1 => ?_; simp only [go_sem, ↓reduceIte, reduceCtorEq, nA, nB, nC, nD, nE, nF] <;> and_intros <;> first | (apply hK1; clear hK1 K1) | (intros; first | omega | decide | (simp_all <;> omega)) | skip)))
      simp only [Tryz.results220, go_sem, ↓reduceIte, reduceCtorEq, nA, nB, nC, nD, nE, nF]
      exact ⟨_, _, Weak.refl _, Hp.le.refl _, rfl, rfl⟩)
    rw [plainT_eq, encL_eq]
    have key : ∀ q3 q4 : Bool, (k != 3) = q3 → (k != 4) = q4 → ACalls Tryz.prog 178 [.agg [.v (.int .i64 k), .v (.string i), .v (.int .i64 l), .v (.int .i64 m), .row 6 (ks.map encL) none, .row 1 (s.map encI) none]] h
        (fun r h' => r = .v (.bool (q3 && q4 && ks.all plainT)) ∧ h' = h) := by
      intro q3 q4 h3 h4
      refine gE Tryz.func178 rfl (by kernel_rfl) 16 rfl fun c => ?_
      cases q3
      · (repeat (first | refine gO (by decide) ?_ | (refine gR fun K1 hK1 => ?_; simp only [go_sem, ↓reduceIte, reduceCtorEq, nA, nB, nC, nD, nE, nF, h3] <;> and_intros <;> first | (apply hK1; clear hK1 K1) | (intros; first | omega | decide | (simp_all <;> omega)) | skip)))
        refine ⟨.v (.bool false), rfl, True.intro, hK1 _ ?_⟩; clear hK1 K1
        (repeat (first | refine gO (by decide) ?_ | (refine gR fun K1 hK1 => ?_; simp only [go_sem, ↓reduceIte, reduceCtorEq, nA, nB, nC, nD, nE, nF, h3] <;> and_intros <;> first | (apply hK1; clear hK1 K1) | (intros; first | omega | decide | (simp_all <;> omega)) | skip)))
        simp only [Tryz.results178, go_sem, ↓reduceIte, reduceCtorEq, nA, nB, nC, nD, nE, nF]
        exact ⟨_, _, Weak.refl _, Hp.le.refl _, rfl, rfl⟩
      cases q4
      · (repeat (first | refine gO (by decide) ?_ | (refine gR fun K1 hK1 => ?_; simp only [go_sem, ↓reduceIte, reduceCtorEq, nA, nB, nC, nD, nE, nF, h3, h4] <;> and_intros <;> first | (apply hK1; clear hK1 K1) | (intros; first | omega | decide | (simp_all <;> omega)) | skip)))
        refine ⟨.v (.bool false), rfl, True.intro, hK1 _ ?_⟩; clear hK1 K1
        (repeat (first | refine gO (by decide) ?_ | (refine gR fun K1 hK1 => ?_; simp only [go_sem, ↓reduceIte, reduceCtorEq, nA, nB, nC, nD, nE, nF, h3, h4] <;> and_intros <;> first | (apply hK1; clear hK1 K1) | (intros; first | omega | decide | (simp_all <;> omega)) | skip)))
        simp only [Tryz.results178, go_sem, ↓reduceIte, reduceCtorEq, nA, nB, nC, nD, nE, nF]
        exact ⟨_, _, Weak.refl _, Hp.le.refl _, rfl, rfl⟩
      (repeat (first | refine gO (by decide) ?_ | (refine gR fun K1 hK1 => ?_; simp only [go_sem, ↓reduceIte, reduceCtorEq, nA, nB, nC, nD, nE, nF, h3, h4] <;> and_intros <;> first | (apply hK1; clear hK1 K1) | (intros; first | omega | decide | (simp_all <;> omega)) | skip)))
      refine hany.mono ?_; rintro _ hz ⟨rfl, hh⟩; refine ⟨rfl, hK1 _ ?_⟩; clear hK1 K1; rw [hh]; clear hh hz
      (repeat (first | refine gO (by decide) ?_ | (refine gR fun K1 hK1 => ?_; simp only [go_sem, ↓reduceIte, reduceCtorEq, nA, nB, nC, nD, nE, nF, h3, h4] <;> and_intros <;> first | (apply hK1; clear hK1 K1) | (intros; first | omega | decide | (simp_all <;> omega)) | skip)))
      simp only [Tryz.results178, go_sem, ↓reduceIte, reduceCtorEq, nA, nB, nC, nD, nE, nF]
      exact ⟨_, _, Weak.refl _, Hp.le.refl _, by first | rw [List.all_eq_not_any_not] | simp [List.all_eq_not_any_not], rfl⟩
    exact key _ _ rfl rfl
theorem Weak.rowE {z : Nat} {xs ys : List (List AV)} {k : Option Nat} (hl : xs.length = ys.length) (hz : ∀ y ∈ ys, y.length = z) (hw : ∀ i, i < xs.length → WL (xs.getD i []) (ys.getD i [])) : Weak (.row z xs k) (.row z ys k) := fun G v hr => by
  cases hr with
  | row _ _ _ g o n c u hn hc hz' hu hr h1 ht =>
    refine .row z ys k g o n c u (by omega) hc hz hu (fun j hj => ?_) h1 ht
    have hfy := flatten_len hz
    have hfx := flatten_len hz'
    have hjn : j < n * z := by rw [hfy, ← hl, hn] at hj; exact hj
    have hz0 : 0 < z := by
      rcases Nat.eq_zero_or_pos z with h | h
      · rw [h, Nat.mul_zero] at hjn; omega
      · exact h
    have hi : j / z < ys.length := by
      have := Nat.div_lt_of_lt_mul (by rw [Nat.mul_comm] at hjn; exact hjn)
      omega
    have hr2 := Nat.mod_lt j hz0
    have hj2 : j / z * z + j % z = j := by have := Nat.div_add_mod j z; rw [Nat.mul_comm] at this; exact this
    have ey := flatten_at hz hi hr2
    have ex := flatten_at hz' (show j / z < xs.length by omega) hr2
    rw [hj2] at ey ex
    have hjx : j < xs.flatten.length := by rw [hfx, hn]; exact hjn
    have h2 := hr j hjx
    rw [List.getElem?_eq_getElem hjx] at ex
    rw [List.getElem?_eq_getElem hj] at ey
    have h3 := (hw (j / z) (by omega)).2 (j % z)
    rw [List.getD_eq_getElem?_getD, List.getD_eq_getElem?_getD, List.getD_eq_getElem?_getD, List.getD_eq_getElem?_getD, List.getElem?_eq_getElem hi, List.getElem?_eq_getElem (show j / z < xs.length by omega)] at h3
    simp only [Option.getD_some] at h3
    rw [← ex, ← ey] at h3
    exact h3 G _ h2
  | nil =>
    cases ys with
    | nil => exact .nil z k (by assumption)
    | cons => simp at hl
  | nilA =>
    cases ys with
    | nil => exact .nilA z _
    | cons => simp at hl
theorem WL.refl (cs : List AV) : WL cs cs := ⟨rfl, fun _ => Weak.refl _⟩
section
variable {P : Program} {c : Cx} {Q : Exit → St → Prop} {s : St}
theorem awp_frzLoc (j i k z : Nat) {cs : List AV} {xs : List (List AV)} {x : Code} (hj : s.lo[j]? = some cs) (hi : cs[i]? = some (.arr z k xs.length)) (hT : s.h.T k = some (.cont z xs)) (hz : ∀ y ∈ xs, y.length = z)
    (h : Awp P c x Q { s with lo := s.lo.set j (cs.set i (.row z xs none)), h := { s.h with T := upd s.h.T k none } }) : Awp P c x Q s := by
  rintro ac w ⟨G, L, sm, hg, hf, hL⟩
  obtain ⟨G', hle, hfr, hs2, hfz⟩ := sm.hs.freeze (h2 := { s.h with T := upd s.h.T k none }) (fun j => j = k) rfl (fun j hj => by subst hj; exact upd_same _ _ _) (fun j hj => upd_other _ _ hj)
  have ls2 := sm.ls.fr hle hfr
  refine h ac w ⟨G', L, ⟨hs2, sm.sz, fun u hu => (sm.sl u hu).mono hle, sm.df, ⟨by simpa using ls2.len, fun u b ds e e' => ?_, ls2.free, ls2.nd⟩⟩, hg.trans hle, hf.trans hfr, hL⟩
  by_cases hju : j = u
  · subst hju
    have hlt : j < s.lo.length := (List.getElem?_eq_some_iff.1 hj).1
    simp only [List.getElem?_set_self hlt, Option.some.injEq] at e'
    subst e'
    obtain ⟨vs, E, hh, hsz, hr⟩ := sm.ls.lo j b cs e hj
    obtain ⟨vs2, E2, hh2, hsz2, hr2⟩ := ls2.lo j b cs e hj
    rw [hh] at hh2
    simp only [Option.some.injEq, Obj.cells.injEq] at hh2
    obtain ⟨rfl, rfl, _⟩ := hh2
    refine ⟨vs, E, hh, by simpa using hsz, by simpa using hr.1, fun q hq hq' => ?_⟩
    have hq2 : q < cs.length := by simpa using hq
    have h3 := hr2.2 q hq2 hq'
    refine ⟨?_, h3.2⟩
    simp only [List.getElem_set]
    split
    · rename_i eiq
      subst eiq
      have h4 := (hr.2 i hq2 hq').1
      rw [show cs[i] = AV.arr z k xs.length by rw [List.getElem?_eq_getElem hq2] at hi; simpa using hi] at h4
      exact hfz k z xs _ rfl hT h4 xs rfl hz fun us hus => hus.mono hle
    · exact h3.1
  · simp only [List.getElem?_set_ne hju] at e'
    exact ls2.lo u b ds e e'
end
open Go
set_option linter.unusedVariables false
set_option linter.unusedSimpArgs false
open Nat renaming reduceAdd → nA, reduceSub → nB, reduceMul → nC, reduceLT → nD, reduceLeDiff → nE, reduceEqDiff → nF
set_option maxRecDepth 100000
set_option maxHeartbeats 8000000
theorem Weak.trans {a b c : AV} (h : Weak a b) (k : Weak b c) : Weak a c := fun G v hr => k G v (h G v hr)
def XW (xs : List (List AV)) (ts : List LT) : Prop := xs.length = ts.length ∧ ∀ i, i < ts.length → WL (xs.getD i []) (encL (ts.getD i default))
theorem XW.nil : XW [] [] := ⟨rfl, fun i h => by simp at h⟩
theorem XW.app {xs ys : List (List AV)} {ts us : List LT} (h : XW xs ts) (k : XW ys us) : XW (xs ++ ys) (ts ++ us) := by
  refine ⟨by simp [h.1, k.1], fun i hi => ?_⟩
  simp only [List.getD_eq_getElem?_getD]
  by_cases hlt : i < ts.length
  · rw [List.getElem?_append_left (by rw [h.1]; exact hlt), List.getElem?_append_left hlt]
    have := h.2 i hlt
    simpa only [List.getD_eq_getElem?_getD] using this
  · rw [List.getElem?_append_right (by rw [h.1]; omega), List.getElem?_append_right (by omega), h.1]
    have := k.2 (i - ts.length) (by simp at hi; omega)
    simpa only [List.getD_eq_getElem?_getD] using this
theorem XW.one {c : List AV} {t : LT} (h : WL c (encL t)) : XW [c] [t] := ⟨rfl, fun i hi => by
  obtain rfl : i = 0 := by simpa using hi
  exact h⟩
theorem XW.map (ts : List LT) : XW (ts.map encL) ts := ⟨by simp, fun i hi => by rw [getD_enc encL ts i default hi]; exact WL.refl _⟩
theorem XW.weak {xs : List (List AV)} {ts : List LT} (h : XW xs ts) (k : Option Nat) : Weak (.row 6 xs k) (.row 6 (ts.map encL) none) :=
  Weak.trans (Weak.rowE (by simp [h.1]) (fun y hy => by obtain ⟨t, _, rfl⟩ := List.mem_map.1 hy; exact encL_len t) (fun i hi => by
    have hi' : i < ts.length := by rw [← h.1]; exact hi
    rw [getD_enc encL ts i default hi']
    exact h.2 i hi')) (Weak.row 6 _ k)
theorem rep_wl (m : Int) (it : LT) : WL [.v (.int .i64 5), .v (.string ⟨#[]⟩), .v (.int .i64 0), .v (.int .i64 m), .row 6 [encL it] none, .v (.slice none 0 0)] (encL (repK m [it])) := by
  rw [repK, encL_eq]
  exact .cons (Weak.refl _) (.cons (Weak.refl _) (.cons (Weak.refl _) (.cons (Weak.refl _) (.cons (Weak.refl _) (.cons (Weak.nil 1 0 0 ⟨rfl, rfl⟩) .nil)))))
theorem le_upd {h : Hp} {k : Nat} (hk : h.T k = none) (x : Option TO) : Hp.le h ⟨h.H, upd h.T k x⟩ :=
  ⟨fun _ => .inr rfl, fun j => by
    by_cases e : j = k
    · subst e; exact .inl hk
    · exact .inr (by show h.T j = upd h.T k x j; rw [upd_other _ _ e])⟩
theorem g_many (it : LT) (n : Nat) (h : Hp) (hn : n ≤ 100000) : ACalls Tryz.prog 219 [.agg (encL it), .v (.int .i64 n)] h (fun r h' => r = .row 6 ((manyT it n).map encL) none ∧ h' = h) := by
  have hlen := encL_len it
  have htk : List.take 6 (encL it) = encL it := List.take_of_length_le (Nat.le_of_eq hlen)
  have hdr : List.drop 6 (encL it) = [] := List.drop_of_length_le (Nat.le_of_eq hlen)
  refine gE Tryz.func219 rfl (by kernel_rfl) 32 rfl fun c => ?_
  (repeat (first | refine gO (by decide) ?_ | (refine gR fun K1 hK1 => ?_; simp only [go_sem, ↓reduceIte, reduceCtorEq, nA, nB, nC, nD, nE, nF, hlen, htk, hdr] <;> and_intros <;> first | (apply hK1; clear hK1 K1) | (intros; first | omega | decide | (simp_all <;> omega)) | skip)))
  refine awp_own 5 6 rfl ⟨rfl, rfl⟩ (fun k hk => ?_)
  replace hk : h.T k = none := hk
  refine awp_loopC (rl false [1, 2, 2, 1, 28]) 0 (fun g s => ∃ (q : Nat) (xs : List (List AV)) (r : Int), g + 100 * q = n ∧ r = (n : Int) - 100 * q ∧ XW xs (List.replicate q (repK 100 [it])) ∧
    s = ⟨(AV.junk :: ((.v (.int .i64 r)) :: (.ref (encL it) 0) :: AV.junk :: AV.junk :: ((.row 6 xs (some k)) :: (jnk 28 [])))), [], ⟨h.H, upd h.T k (some (.tail q))⟩⟩) n ⟨0, [], n, by omega, by omega, XW.nil, rfl⟩ ?_
  rintro g _ ⟨q, xs, r, hg, hr, hx, rfl⟩
  have hxl : xs.length = q := by rw [hx.1, List.length_replicate]
  have hTq : upd h.T k (some (TO.tail q)) k = some (.tail xs.length) := by rw [upd_same, hxl]
  (repeat (first | refine gO (by decide) ?_ | (refine gR fun K1 hK1 => ?_; simp only [go_sem, ↓reduceIte, reduceCtorEq, nA, nB, nC, nD, nE, nF, hlen, htk, hdr] <;> and_intros <;> first | (apply hK1; clear hK1 K1) | (intros; first | omega | decide | (simp_all <;> omega)) | skip)))
  refine awp_cond (t := _) rfl (fun h1 => ?_) (fun h1 => ?_)
  · simp only [decide_eq_true_eq] at h1
    (repeat (first | refine gO (by decide) ?_ | (refine gR fun K1 hK1 => ?_; simp only [go_sem, ↓reduceIte, reduceCtorEq, nA, nB, nC, nD, nE, nF, hlen, htk, hdr, hTq] <;> and_intros <;> first | (apply hK1; clear hK1 K1) | (intros; first | omega | decide | (simp_all <;> omega)) | skip)))
    refine ⟨g - 100, by omega, q + 1, _, r - 100, by omega, by omega, ?_, by rw [hxl]; rfl⟩
    rw [List.replicate_succ']
    exact hx.app (XW.one (rep_wl 100 it))
  · simp only [decide_eq_false_iff_not] at h1
    have hq : n / 100 = q := by omega
    have hm : ((n % 100 : Nat) : Int) = r := by omega
    have hM : ∀ T, (if n % 100 = 0 then [] else if n % 100 = 1 then [it] else [repK (n % 100 : Nat) [it]]) = T → manyT it n = List.replicate q (repK 100 [it]) ++ T := fun T hT => by rw [manyT, hq, hT]
    (repeat (first | refine gO (by decide) ?_ | (refine gR fun K1 hK1 => ?_; simp only [go_sem, ↓reduceIte, reduceCtorEq, nA, nB, nC, nD, nE, nF, hlen, htk, hdr, hTq] <;> and_intros <;> first | (apply hK1; clear hK1 K1) | (intros; first | omega | decide | (simp_all <;> omega)) | skip)))
    refine awp_cond (t := _) rfl (fun h2 => ?_) (fun h2 => ?_)
    · have h3 : r = 1 := by simpa using h2
      (repeat (first | refine gO (by decide) ?_ | (refine gR fun K1 hK1 => ?_; simp only [go_sem, ↓reduceIte, reduceCtorEq, nA, nB, nC, nD, nE, nF, hlen, htk, hdr, hTq] <;> and_intros <;> first | (apply hK1; clear hK1 K1) | (intros; first | omega | decide | (simp_all <;> omega)) | skip)))
      simp only [Tryz.results219, go_sem, ↓reduceIte, reduceCtorEq, nA, nB, nC, nD, nE, nF]
      refine ⟨_, _, (hx.app (XW.one (t := it) (WL.refl _))).weak (some k), le_upd hk _, ?_, rfl⟩
      rw [hM [it] (by rw [if_neg (by omega), if_pos (by omega)])]
    · have h3 : r ≠ 1 := by simpa using h2
      (repeat (first | refine gO (by decide) ?_ | (refine gR fun K1 hK1 => ?_; simp only [go_sem, ↓reduceIte, reduceCtorEq, nA, nB, nC, nD, nE, nF, hlen, htk, hdr, hTq] <;> and_intros <;> first | (apply hK1; clear hK1 K1) | (intros; first | omega | decide | (simp_all <;> omega)) | skip)))
      refine awp_cond (t := _) rfl (fun h4 => ?_) (fun h4 => ?_)
      · simp only [decide_eq_true_eq] at h4
        (repeat (first | refine gO (by decide) ?_ | (refine gR fun K1 hK1 => ?_; simp only [go_sem, ↓reduceIte, reduceCtorEq, nA, nB, nC, nD, nE, nF, hlen, htk, hdr, hTq] <;> and_intros <;> first | (apply hK1; clear hK1 K1) | (intros; first | omega | decide | (simp_all <;> omega)) | skip)))
        simp only [Tryz.results219, go_sem, ↓reduceIte, reduceCtorEq, nA, nB, nC, nD, nE, nF]
        refine ⟨_, _, (hx.app (XW.one (rep_wl r it))).weak (some k), le_upd hk _, ?_, rfl⟩
        rw [hM [repK r [it]] (by rw [if_neg (by omega), if_neg (by omega), hm])]
      · simp only [decide_eq_false_iff_not] at h4
        (repeat (first | refine gO (by decide) ?_ | (refine gR fun K1 hK1 => ?_; simp only [go_sem, ↓reduceIte, reduceCtorEq, nA, nB, nC, nD, nE, nF, hlen, htk, hdr, hTq] <;> and_intros <;> first | (apply hK1; clear hK1 K1) | (intros; first | omega | decide | (simp_all <;> omega)) | skip)))
        simp only [Tryz.results219, go_sem, ↓reduceIte, reduceCtorEq, nA, nB, nC, nD, nE, nF]
        refine ⟨_, _, hx.weak (some k), le_upd hk _, ?_, rfl⟩
        rw [hM [] (by rw [if_pos (by omega)]), List.append_nil]
theorem gath_len : ∀ (f : Nat) (l : List LT), l.length ≤ f → (∀ x ∈ l, WF x) → (gath l).length ≤ l.length
  | _, [], _, _ => by rw [gath_nil]; exact Nat.le_refl _
  | 0, _ :: _, hl, _ => by simp at hl
  | f + 1, y :: ys, hl, hw => by
    simp only [List.length_cons] at hl
    cases hc : cnt y with
    | none =>
      have := gath_len f ys (by omega) fun y hy => hw y (by simp [hy])
      rw [gath_none ys hc, List.length_cons, List.length_cons]; omega
    | some q =>
      obtain ⟨it, n⟩ := q
      have hok := cnt_ok (hw y (by simp)) hc
      have hb := runN_bd it ys fun y hy => hw y (by simp [hy])
      have hr := runN_len it ys
      have ih := gath_len f (ys.drop (runN it ys).2) (by simp; omega) fun y hy => hw y (by simp [List.mem_of_mem_drop hy])
      have hm := manyT_len it (n + (runN it ys).1).toNat ((runN it ys).2 + 1) (by omega)
      rw [gath_some ys hc, List.length_append, List.length_cons]
      simp only [List.length_drop] at ih
      omega
theorem flatT_app (a b : List LT) : flatT (a ++ b) = flatT a ++ flatT b := List.flatMap_append
theorem flatT_snoc (l : List LT) (x : LT) : flatT (l ++ [x]) = flatT l ++ (if x.kd = 2 then x.ks else [x]) := by
  simp [flatT, List.flatMap_append]
theorem flatT_take_le (l : List LT) (j : Nat) : (flatT (l.take j)).length ≤ (flatT l).length := by
  have e : flatT l = flatT (l.take j) ++ flatT (l.drop j) := by rw [← flatT_app, List.take_append_drop]
  rw [e, List.length_append]; omega
theorem item_BL {it : LT} (hk : it.kd = 1) (hw : WF it) : BL it := by
  cases it with
  | mk k i l m ks s =>
    obtain ⟨h1, h2, _⟩ := ((WF_eq ..).mp hw).2.1 hk
    rw [BL_eq, h1, h2]
    exact ⟨by simp, by simp, fun k hk => by cases hk⟩
theorem drop_cons {α : Type} (l : List α) (j : Nat) (d : α) (h : j < l.length) : l.drop j = l.getD j d :: l.drop (j + 1) := by
  rw [List.getD_eq_getElem?_getD, List.getElem?_eq_getElem h]; exact List.drop_eq_getElem_cons h
theorem run_step {it x : LT} {xs : List LT} {m : Int} (hc : cnt x = some (it, m)) : runN it (x :: xs) = (m + (runN it xs).1, (runN it xs).2 + 1) := by
  rw [runN, hc]; simp only [if_true]
theorem run_stop0 {it x : LT} {xs : List LT} (h : ∀ m, cnt x ≠ some (it, m)) : runN it (x :: xs) = (0, 0) := runN_stop (fun y ys e n => by
  simp only [List.cons.injEq] at e
  rw [← e.1]; exact h n)
theorem g_gathP (l : List LT) (h : Hp) (hw : ∀ x ∈ l, WF x) (hl : l.length ≤ 1000) (hf : (flatT l).length ≤ 1000) :
    ACalls Tryz.prog 174 [.row 6 (l.map encL) none] h (fun r h' => r = .row 6 ((gath (flatT l)).map encL) none ∧ h' = h) := by
  have hfw := flatT_wf hw
  refine gE Tryz.func174 rfl (by kernel_rfl) 88 rfl fun c => ?_
  (repeat (first | refine gQ (by decide) ?_ | (refine gM (mdL [(5, 1), (8, 1), (11, 1)]) fun K1 hK1 => ?_; simp only [go_sem, ↓reduceIte, reduceCtorEq, nA, nB, nC, nD, nE, nF] <;> and_intros <;> first | (apply hK1; clear hK1 K1) | (intros; first | omega | decide | (simp_all <;> omega)) | skip)))
  refine awp_seq ?_
  refine awp_own 3 6 rfl ⟨rfl, rfl⟩ (fun k hk => ?_)
  replace hk : h.T k = none := hk
  (repeat (first | refine gO (by decide) ?_ | (refine gM (mdL [(5, 1), (8, 1), (11, 1)]) fun K1 hK1 => ?_; simp only [go_sem, ↓reduceIte, reduceCtorEq, nA, nB, nC, nD, nE, nF] <;> and_intros <;> first | (apply hK1; clear hK1 K1) | (intros; first | omega | decide | (simp_all <;> omega)) | skip)))
  refine awp_loopC (rl false [3, 1, 10, 3, 72]) 0 (fun g s => ∃ j : Nat, g + j = l.length ∧
    s = ⟨((jnk 3 ((.row 6 ((flatT (l.take j)).map encL) (some k)) :: (jnk 10 ((.row 6 (l.map encL) none) :: (.v (.int .i64 l.length)) :: (.v (.int .i64 j)) :: (jnk 72 [])))))), [], ⟨h.H, upd h.T k (some (.tail (flatT (l.take j)).length))⟩⟩) l.length ⟨0, by omega, rfl⟩ ?_
  rintro g _ ⟨j, hj, rfl⟩
  have hfl := flatT_take_le l j
  have hTq : upd h.T k (some (TO.tail (flatT (l.take j)).length)) k = some (.tail (flatT (l.take j)).length) := upd_same _ _ _
  (repeat (first | refine gO (by decide) ?_ | (refine gM (mdL [(5, 1), (8, 1), (11, 1)]) fun K1 hK1 => ?_; simp only [go_sem, ↓reduceIte, reduceCtorEq, nA, nB, nC, nD, nE, nF] <;> and_intros <;> first | (apply hK1; clear hK1 K1) | (intros; first | omega | decide | (simp_all <;> omega)) | skip)))
  refine awp_cond (t := _) rfl (fun h1 => ?_) (fun h1 => ?_)
  · simp only [decide_eq_true_eq] at h1
    have hjl : j < l.length := by omega
    have gx : (l.map encL).getD j [] = encL (l.getD j default) := getD_enc encL l j default hjl
    have tx := take_snoc l j default hjl
    have hwx := hw _ (getD_mem' l j default hjl)
    have hfl2 := flatT_take_le l (j + 1)
    generalize l.getD j default = x at gx tx hwx
    cases x with
    | mk kx ix lx mx ksx sx =>
    have hft : flatT (l.take (j + 1)) = flatT (l.take j) ++ (if kx = 2 then ksx else [.mk kx ix lx mx ksx sx]) := by rw [tx, flatT_snoc]; rfl
    by_cases h2 : kx = 2
    · have e2 : (kx == 2) = true := by simpa using h2
      rw [if_pos h2] at hft
      rw [hft, List.length_append] at hfl2
      (repeat (first | refine gO (by decide) ?_ | (refine gM (mdL [(5, 1), (8, 1), (11, 1)]) fun K1 hK1 => ?_; simp only [go_sem, ↓reduceIte, reduceCtorEq, nA, nB, nC, nD, nE, nF, Int.toNat_natCast, gx, encL_eq] <;> and_intros <;> first | (apply hK1; clear hK1 K1) | (intros; first | omega | decide | (simp_all <;> omega)) | skip)))
      refine awp_cond (t := _) rfl (fun _ => ?_) (fun h3 => by rw [e2] at h3; cases h3)
      (repeat (first | refine gO (by decide) ?_ | (refine gM (mdL [(5, 1), (8, 1), (11, 1)]) fun K1 hK1 => ?_; simp only [go_sem, ↓reduceIte, reduceCtorEq, nA, nB, nC, nD, nE, nF, hTq] <;> and_intros <;> first | (apply hK1; clear hK1 K1) | (intros; first | omega | decide | (simp_all <;> omega)) | skip)))
      refine ⟨g - 1, by omega, j + 1, by omega, ?_⟩
      rw [hft, List.map_append, List.length_append]
      (try simp only [List.length_map])
      rfl
    · have e2 : (kx == 2) = false := by simpa using h2
      rw [if_neg h2] at hft
      rw [hft, List.length_append] at hfl2
      (repeat (first | refine gO (by decide) ?_ | (refine gM (mdL [(5, 1), (8, 1), (11, 1)]) fun K1 hK1 => ?_; simp only [go_sem, ↓reduceIte, reduceCtorEq, nA, nB, nC, nD, nE, nF, Int.toNat_natCast, gx, encL_eq] <;> and_intros <;> first | (apply hK1; clear hK1 K1) | (intros; first | omega | decide | (simp_all <;> omega)) | skip)))
      refine awp_cond (t := _) rfl (fun h3 => by rw [e2] at h3; cases h3) (fun _ => ?_)
      (repeat (first | refine gO (by decide) ?_ | (refine gM (mdL [(5, 1), (8, 1), (11, 1)]) fun K1 hK1 => ?_; simp only [go_sem, ↓reduceIte, reduceCtorEq, nA, nB, nC, nD, nE, nF, hTq] <;> and_intros <;> first | (apply hK1; clear hK1 K1) | (intros; first | omega | decide | (simp_all <;> omega)) | skip)))
      refine ⟨g - 1, by omega, j + 1, by omega, ?_⟩
      rw [hft, List.map_append, List.length_append]
      simp only [List.length_map, List.map_cons, List.map_nil, encL_eq]
      rfl
  · simp only [decide_eq_false_iff_not] at h1
    have hjl : j = l.length := by omega
    subst hjl
    rw [List.take_length] at *
    (repeat (first | refine gQ (by decide) ?_ | (refine gM (mdL [(5, 1), (8, 1), (11, 1)]) fun K1 hK1 => ?_; simp only [go_sem, ↓reduceIte, reduceCtorEq, nA, nB, nC, nD, nE, nF] <;> and_intros <;> first | (apply hK1; clear hK1 K1) | (intros; first | omega | decide | (simp_all <;> omega)) | skip)))
    clear hfl hTq h1 hj
    generalize flatT l = F at hf hfw ⊢
    refine awp_own 6 6 rfl ⟨rfl, rfl⟩ (fun k2 hk2 => ?_)
    replace hk2 : upd h.T k (some (TO.tail F.length)) k2 = none := hk2
    have hne : k2 ≠ k := fun e => by subst e; rw [upd_same] at hk2; cases hk2
    replace hk2 : h.T k2 = none := by rw [← hk2]; exact (upd_other _ _ hne).symm
    have hle : ∀ n, Hp.le h ⟨h.H, upd (upd h.T k (some (.tail F.length))) k2 (some (.tail n))⟩ := fun n => ⟨fun _ => .inr rfl, fun j => by
      by_cases e : j = k2
      · subst e; exact .inl hk2
      · by_cases e2 : j = k
        · subst e2; exact .inl hk
        · exact .inr (by show h.T j = upd (upd h.T k _) k2 _ j; rw [upd_other _ _ e, upd_other _ _ e2])⟩
    (repeat (first | refine gO (by decide) ?_ | (refine gM (mdL [(5, 1), (8, 1), (11, 1)]) fun K1 hK1 => ?_; simp only [go_sem, ↓reduceIte, reduceCtorEq, nA, nB, nC, nD, nE, nF] <;> and_intros <;> first | (apply hK1; clear hK1 K1) | (intros; first | omega | decide | (simp_all <;> omega)) | skip)))
    refine awp_loopC (rl false [3, 1, 2, 2, 81]) 0 (fun g s => ∃ (i : Nat) (ts : List LT), g + i = F.length ∧ ts ++ gath (F.drop i) = gath F ∧
      s = ⟨((jnk 3 ((.row 6 (F.map encL) (some k)) :: AV.junk :: AV.junk :: ((.row 6 (ts.map encL) (some k2)) :: (.v (.int .i64 i)) :: (jnk 81 []))))), [], ⟨h.H, upd (upd h.T k (some (.tail F.length))) k2 (some (.tail ts.length))⟩⟩) F.length ⟨0, [], by omega, rfl, rfl⟩ ?_
    rintro g _ ⟨i, ts, hi, hts, rfl⟩
    have hgl := gath_len _ F (Nat.le_refl _) hfw
    have htl : ts.length ≤ 1000 := by
      have := congrArg List.length hts
      rw [List.length_append] at this; omega
    have hT2 : upd (upd h.T k (some (TO.tail F.length))) k2 (some (.tail ts.length)) k2 = some (.tail ts.length) := upd_same _ _ _
    (repeat (first | refine gO (by decide) ?_ | (refine gM (mdL [(5, 1), (8, 1), (11, 1)]) fun K1 hK1 => ?_; simp only [go_sem, ↓reduceIte, reduceCtorEq, nA, nB, nC, nD, nE, nF] <;> and_intros <;> first | (apply hK1; clear hK1 K1) | (intros; first | omega | decide | (simp_all <;> omega)) | skip)))
    refine awp_cond (t := _) rfl (fun h1 => ?_) (fun h1 => ?_)
    · simp only [decide_eq_true_eq] at h1
      have hiF : i < F.length := by omega
      have gx : (F.map encL).getD i [] = encL (F.getD i default) := getD_enc encL F i default hiF
      have hdc := drop_cons F i default hiF
      have hwx := hfw _ (getD_mem' F i default hiF)
      generalize F.getD i default = x at gx hdc hwx
      have hlx := encL_len x
      have kx : List.take 6 (encL x) = encL x := List.take_of_length_le (Nat.le_of_eq hlx)
      have dx : List.drop 6 (encL x) = [] := List.drop_of_length_le (Nat.le_of_eq hlx)
      (repeat (first | refine gO (by decide) ?_ | (refine gM (mdL [(5, 1), (8, 1), (11, 1)]) fun K1 hK1 => ?_; simp only [go_sem, ↓reduceIte, reduceCtorEq, nA, nB, nC, nD, nE, nF, Int.toNat_natCast, gx, hlx, kx, dx] <;> and_intros <;> first | (apply hK1; clear hK1 K1) | (intros; first | omega | decide | (simp_all <;> omega)) | skip)))
      refine (g_cntP x _ hwx).mono ?_; rintro _ hz ⟨rfl, hh⟩; apply hK1; clear hK1 K1; rw [hh]; clear hh hz
      cases hc : cnt x with
      | none =>
        have hcd : cntD x = (default, 0) := by rw [cntD, hc]; rfl
        have hld := encL_len default
        have kd : List.take 6 (encL default) = encL default := List.take_of_length_le (Nat.le_of_eq hld)
        have dd : List.drop 6 (encL default) = [] := List.drop_of_length_le (Nat.le_of_eq hld)
        (repeat (first | refine gO (by decide) ?_ | (refine gM (mdL [(5, 1), (8, 1), (11, 1)]) fun K1 hK1 => ?_; simp only [go_sem, ↓reduceIte, reduceCtorEq, nA, nB, nC, nD, nE, nF, hcd, Option.isSome_none, hld, kd, dd] <;> and_intros <;> first | (apply hK1; clear hK1 K1) | (intros; first | omega | decide | (simp_all <;> omega)) | skip)))
        refine awp_cond (t := _) rfl (fun _ => ?_) (fun h => by cases h)
        (repeat (first | refine gO (by decide) ?_ | (refine gM (mdL [(5, 1), (8, 1), (11, 1)]) fun K1 hK1 => ?_; simp only [go_sem, ↓reduceIte, reduceCtorEq, nA, nB, nC, nD, nE, nF, Int.toNat_natCast, gx, hlx, kx, dx, hT2] <;> and_intros <;> first | (apply hK1; clear hK1 K1) | (intros; first | omega | decide | (simp_all <;> omega)) | skip)))
        refine ⟨g - 1, by omega, i + 1, ts ++ [x], by omega, ?_, ?_⟩
        · rw [hdc, gath_none _ hc] at hts
          rw [← hts, List.append_assoc]; rfl
        · rw [List.map_append, List.length_append]
          (try simp only [List.length_map])
          rfl
      | some p =>
        obtain ⟨it, m⟩ := p
        have hok := cnt_ok hwx hc
        have hcd : cntD x = (it, m) := by rw [cntD, hc]; rfl
        have hld := encL_len it
        have kd : List.take 6 (encL it) = encL it := List.take_of_length_le (Nat.le_of_eq hld)
        have dd : List.drop 6 (encL it) = [] := List.drop_of_length_le (Nat.le_of_eq hld)
        have hrb := runN_bd it (F.drop (i + 1)) fun y hy => hfw y (List.mem_of_mem_drop hy)
        have hrl := runN_len it (F.drop (i + 1))
        rw [hdc, gath_some _ hc] at hts
        (repeat (first | refine gQ (by decide) ?_ | (refine gM (mdL [(5, 1), (8, 1), (11, 1)]) fun K1 hK1 => ?_; simp only [go_sem, ↓reduceIte, reduceCtorEq, nA, nB, nC, nD, nE, nF, hcd, Option.isSome_some, hld, kd, dd] <;> and_intros <;> first | (apply hK1; clear hK1 K1) | (intros; first | omega | decide | (simp_all <;> omega)) | skip)))
        refine awp_seq ?_
        (repeat (first | refine gQ (by decide) ?_ | (refine gM (mdL [(5, 1), (8, 1), (11, 1)]) fun K1 hK1 => ?_; simp only [go_sem, ↓reduceIte, reduceCtorEq, nA, nB, nC, nD, nE, nF] <;> and_intros <;> first | (apply hK1; clear hK1 K1) | (intros; first | omega | decide | (simp_all <;> omega)) | skip)))
        refine awp_cond (t := _) rfl (fun h => by cases h) (fun _ => ?_)
        (repeat (first | refine gQ (by decide) ?_ | (refine gM (mdL [(5, 1), (8, 1), (11, 1)]) fun K1 hK1 => ?_; simp only [go_sem, ↓reduceIte, reduceCtorEq, nA, nB, nC, nD, nE, nF] <;> and_intros <;> first | (apply hK1; clear hK1 K1) | (intros; first | omega | decide | (simp_all <;> omega)) | skip)))
        refine awp_seqJ (rl false [3, 1, 2, 4, 79]) 1 (fun s => ∃ (i2 N : Nat), i2 ≤ F.length ∧ i + 1 ≤ i2 ∧ N ≤ 100000 ∧ ts ++ manyT it N ++ gath (F.drop i2) = gath F ∧
          s = ⟨((jnk 3 ((.row 6 (F.map encL) (some k)) :: AV.junk :: AV.junk :: ((.row 6 (ts.map encL) (some k2)) :: (.v (.int .i64 i2)) :: (.loc 0 0) :: (.v (.int .i64 N)) :: (jnk 79 []))))), [encL it], ⟨h.H, upd (upd h.T k (some (.tail F.length))) k2 (some (.tail ts.length))⟩⟩) ?_ ?_
        · (repeat (first | refine gO (by decide) ?_ | (refine gM (mdL [(5, 1), (8, 1), (11, 1)]) fun K1 hK1 => ?_; simp only [go_sem, ↓reduceIte, reduceCtorEq, nA, nB, nC, nD, nE, nF] <;> and_intros <;> first | (apply hK1; clear hK1 K1) | (intros; first | omega | decide | (simp_all <;> omega)) | skip)))
          refine awp_loopC (rl false [3, 1, 2, 4, 79]) 1 (fun g s => ∃ (i2 : Nat) (n2 : Int), g + i2 = F.length ∧ i + 1 ≤ i2 ∧ n2 + (runN it (F.drop i2)).1 = m + (runN it (F.drop (i + 1))).1 ∧ i2 + (runN it (F.drop i2)).2 = i + 1 + (runN it (F.drop (i + 1))).2 ∧ (1 ≤ n2 ∧ n2 ≤ 100 * i2) ∧
            s = ⟨((jnk 3 ((.row 6 (F.map encL) (some k)) :: AV.junk :: AV.junk :: ((.row 6 (ts.map encL) (some k2)) :: (.v (.int .i64 i2)) :: (.loc 0 0) :: (.v (.int .i64 n2)) :: (jnk 79 []))))), [encL it], ⟨h.H, upd (upd h.T k (some (.tail F.length))) k2 (some (.tail ts.length))⟩⟩) (F.length - (i + 1)) ⟨i + 1, m, by omega, by omega, rfl, rfl, by omega, rfl⟩ ?_
          rintro g2 _ ⟨i2, n2, hg2, hi2, hn2, hc2, hb2, rfl⟩
          have fin : runN it (F.drop i2) = (0, 0) → ts ++ manyT it n2.toNat ++ gath (F.drop i2) = gath F := fun h0 => by
            rw [h0] at hn2 hc2
            simp only [Int.add_zero, Nat.add_zero] at hn2 hc2
            rw [← hts, ← hn2, hc2, List.drop_drop, List.append_assoc]
          have hnt : ((n2.toNat : Nat) : Int) = n2 := by omega
          (repeat (first | refine gO (by decide) ?_ | (refine gM (mdL [(5, 1), (8, 1), (11, 1)]) fun K1 hK1 => ?_; simp only [go_sem, ↓reduceIte, reduceCtorEq, nA, nB, nC, nD, nE, nF] <;> and_intros <;> first | (apply hK1; clear hK1 K1) | (intros; first | omega | decide | (simp_all <;> omega)) | skip)))
          refine awp_cond (t := _) rfl (fun h3 => ?_) (fun h3 => ?_)
          · simp only [decide_eq_true_eq] at h3
            have hiF2 : i2 < F.length := by omega
            have gy : (F.map encL).getD i2 [] = encL (F.getD i2 default) := getD_enc encL F i2 default hiF2
            have hdy := drop_cons F i2 default hiF2
            have hwy := hfw _ (getD_mem' F i2 default hiF2)
            generalize F.getD i2 default = y at gy hdy hwy
            have hly := encL_len y
            have ky : List.take 6 (encL y) = encL y := List.take_of_length_le (Nat.le_of_eq hly)
            have dy : List.drop 6 (encL y) = [] := List.drop_of_length_le (Nat.le_of_eq hly)
            (repeat (first | refine gO (by decide) ?_ | (refine gM (mdL [(5, 1), (8, 1), (11, 1)]) fun K1 hK1 => ?_; simp only [go_sem, ↓reduceIte, reduceCtorEq, nA, nB, nC, nD, nE, nF, Int.toNat_natCast, gy, hly, ky, dy] <;> and_intros <;> first | (apply hK1; clear hK1 K1) | (intros; first | omega | decide | (simp_all <;> omega)) | skip)))
            refine (g_cntP y _ hwy).mono ?_; rintro _ hz ⟨rfl, hh⟩; apply hK1; clear hK1 K1; rw [hh]; clear hh hz
            cases hcy : cnt y with
            | none =>
              have hcd2 : cntD y = (default, 0) := by rw [cntD, hcy]; rfl
              have hl0 := encL_len default
              have k0 : List.take 6 (encL default) = encL default := List.take_of_length_le (Nat.le_of_eq hl0)
              have d0 : List.drop 6 (encL default) = [] := List.drop_of_length_le (Nat.le_of_eq hl0)
              have hst : runN it (F.drop i2) = (0, 0) := by rw [hdy]; exact run_stop0 fun m' h' => by rw [hcy] at h'; cases h'
              (repeat (first | refine gO (by decide) ?_ | (refine gM (mdL [(5, 1), (8, 1), (11, 1)]) fun K1 hK1 => ?_; simp only [go_sem, ↓reduceIte, reduceCtorEq, nA, nB, nC, nD, nE, nF, hcd2, Option.isSome_none, hl0, k0, d0] <;> and_intros <;> first | (apply hK1; clear hK1 K1) | (intros; first | omega | decide | (simp_all <;> omega)) | skip)))
              refine ⟨.v (.bool true), rfl, hK1 _ ?_⟩
              clear hK1 K1
              (repeat (first | refine gO (by decide) ?_ | (refine gM (mdL [(5, 1), (8, 1), (11, 1)]) fun K1 hK1 => ?_; simp only [go_sem, ↓reduceIte, reduceCtorEq, nA, nB, nC, nD, nE, nF, hcd2, Option.isSome_none, hl0, k0, d0] <;> and_intros <;> first | (apply hK1; clear hK1 K1) | (intros; first | omega | decide | (simp_all <;> omega)) | skip)))
              refine awp_cond (t := _) rfl (fun _ => ?_) (fun h => by cases h)
              (repeat (first | refine gO (by decide) ?_ | (refine gM (mdL [(5, 1), (8, 1), (11, 1)]) fun K1 hK1 => ?_; simp only [go_sem, ↓reduceIte, reduceCtorEq, nA, nB, nC, nD, nE, nF] <;> and_intros <;> first | (apply hK1; clear hK1 K1) | (intros; first | omega | decide | (simp_all <;> omega)) | skip)))
              exact ⟨i2, n2.toNat, by omega, hi2, by omega, fin hst, by rw [hnt]; rfl⟩
            | some p2 =>
              obtain ⟨it2, m2⟩ := p2
              have hok2 := cnt_ok hwy hcy
              have hcd2 : cntD y = (it2, m2) := by rw [cntD, hcy]; rfl
              have hl0 := encL_len it2
              have k0 : List.take 6 (encL it2) = encL it2 := List.take_of_length_le (Nat.le_of_eq hl0)
              have d0 : List.drop 6 (encL it2) = [] := List.drop_of_length_le (Nat.le_of_eq hl0)
              (repeat (first | refine gO (by decide) ?_ | (refine gM (mdL [(5, 1), (8, 1), (11, 1)]) fun K1 hK1 => ?_; simp only [go_sem, ↓reduceIte, reduceCtorEq, nA, nB, nC, nD, nE, nF, hcd2, Option.isSome_some, hl0, k0, d0, kd, hld, dd] <;> and_intros <;> first | (apply hK1; clear hK1 K1) | (intros; first | omega | decide | (simp_all <;> omega)) | skip)))
              refine (g_equal (SizeOf.sizeOf it2) it2 it _ (Nat.le_refl _) (item_BL hok2.1 hok2.2.1) (item_BL hok.1 hok.2.1)).mono ?_; rintro _ hz ⟨rfl, hh⟩; refine ⟨rfl, hK1 _ ?_⟩; clear hK1 K1; rw [hh]; clear hh hz
              (repeat (first | refine gO (by decide) ?_ | (refine gM (mdL [(5, 1), (8, 1), (11, 1)]) fun K1 hK1 => ?_; simp only [go_sem, ↓reduceIte, reduceCtorEq, nA, nB, nC, nD, nE, nF] <;> and_intros <;> first | (apply hK1; clear hK1 K1) | (intros; first | omega | decide | (simp_all <;> omega)) | skip)))
              refine awp_cond (t := _) rfl (fun h4 => ?_) (fun h4 => ?_)
              · have e4 : it2 ≠ it := sameB_false.1 (by simpa using h4)
                have hst : runN it (F.drop i2) = (0, 0) := by
                  rw [hdy]
                  exact run_stop0 fun m' h' => by
                    rw [hcy] at h'
                    simp only [Option.some.injEq, Prod.mk.injEq] at h'
                    exact e4 h'.1
                (repeat (first | refine gO (by decide) ?_ | (refine gM (mdL [(5, 1), (8, 1), (11, 1)]) fun K1 hK1 => ?_; simp only [go_sem, ↓reduceIte, reduceCtorEq, nA, nB, nC, nD, nE, nF] <;> and_intros <;> first | (apply hK1; clear hK1 K1) | (intros; first | omega | decide | (simp_all <;> omega)) | skip)))
                exact ⟨i2, n2.toNat, by omega, hi2, by omega, fin hst, by rw [hnt]; rfl⟩
              · have e4 : it2 = it := sameB_true.1 (by simpa using h4)
                subst e4
                have hst : runN it2 (F.drop i2) = (m2 + (runN it2 (F.drop (i2 + 1))).1, (runN it2 (F.drop (i2 + 1))).2 + 1) := by rw [hdy]; exact run_step hcy
                rw [hst] at hn2 hc2
                simp only at hn2 hc2
                (repeat (first | refine gO (by decide) ?_ | (refine gM (mdL [(5, 1), (8, 1), (11, 1)]) fun K1 hK1 => ?_; simp only [go_sem, ↓reduceIte, reduceCtorEq, nA, nB, nC, nD, nE, nF] <;> and_intros <;> first | (apply hK1; clear hK1 K1) | (intros; first | omega | decide | (simp_all <;> omega)) | skip)))
                exact ⟨g2 - 1, by omega, i2 + 1, n2 + m2, by omega, by omega, by omega, by omega, by omega, rfl⟩
          · simp only [decide_eq_false_iff_not] at h3
            have hst : runN it (F.drop i2) = (0, 0) := by rw [List.drop_of_length_le (by omega)]; rfl
            (repeat (first | refine gO (by decide) ?_ | (refine gM (mdL [(5, 1), (8, 1), (11, 1)]) fun K1 hK1 => ?_; simp only [go_sem, ↓reduceIte, reduceCtorEq, nA, nB, nC, nD, nE, nF] <;> and_intros <;> first | (apply hK1; clear hK1 K1) | (intros; first | omega | decide | (simp_all <;> omega)) | skip)))
            exact ⟨i2, n2.toNat, by omega, hi2, by omega, fin hst, by rw [hnt]; rfl⟩
        · rintro _ ⟨i2, N, hi2, hii, hN, hG, rfl⟩
          have hml : ts.length + (manyT it N).length ≤ 1000 := by
            have := congrArg List.length hG
            rw [List.length_append, List.length_append] at this; omega
          (repeat (first | refine gO (by decide) ?_ | (refine gM (mdL [(5, 1), (8, 1), (11, 1)]) fun K1 hK1 => ?_; simp only [go_sem, ↓reduceIte, reduceCtorEq, nA, nB, nC, nD, nE, nF, hld, kd, dd] <;> and_intros <;> first | (apply hK1; clear hK1 K1) | (intros; first | omega | decide | (simp_all <;> omega)) | skip)))
          refine (g_many it N _ (by omega)).mono ?_; rintro _ hz ⟨rfl, hh⟩; apply hK1; clear hK1 K1; rw [hh]; clear hh hz
          (repeat (first | refine gO (by decide) ?_ | (refine gM (mdL [(5, 1), (8, 1), (11, 1)]) fun K1 hK1 => ?_; simp only [go_sem, ↓reduceIte, reduceCtorEq, nA, nB, nC, nD, nE, nF, hT2] <;> and_intros <;> first | (apply hK1; clear hK1 K1) | (intros; first | omega | decide | (simp_all <;> omega)) | skip)))
          refine ⟨F.length - i2, by omega, i2, ts ++ manyT it N, by omega, hG, ?_⟩
          rw [List.map_append, List.length_append]
          (try simp only [List.length_map])
          rfl
    · simp only [decide_eq_false_iff_not] at h1
      rw [List.drop_of_length_le (by omega), gath_nil, List.append_nil] at hts
      (repeat (first | refine gO (by decide) ?_ | (refine gM (mdL [(5, 1), (8, 1), (11, 1)]) fun K1 hK1 => ?_; simp only [go_sem, ↓reduceIte, reduceCtorEq, nA, nB, nC, nD, nE, nF] <;> and_intros <;> first | (apply hK1; clear hK1 K1) | (intros; first | omega | decide | (simp_all <;> omega)) | skip)))
      simp only [Tryz.results174, go_sem, ↓reduceIte, reduceCtorEq, nA, nB, nC, nD, nE, nF]
      exact ⟨_, _, Weak.row 6 _ (some k2), hle _, by rw [hts], rfl⟩
abbrev pSChgP_177_1E : List Nat := [0, 1, 2, 3, 4]
abbrev pSChgP_177_1P : List (Nat × List Nat × List Nat) := [(5, [], [6, 7, 8]), (9, [], [10, 11, 12])]
abbrev pSChgP_129_4E : List Nat := [0, 1, 2, 3, 4, 5, 6, 7, 8, 9, 10, 11, 12, 13, 14, 15, 16, 17, 18, 19, 20, 21, 22]
abbrev pSChgP_129_4P : List (Nat × List Nat × List Nat) := []
abbrev pSChgP_129_5E : List Nat := [0, 1, 2, 3, 4, 5, 6, 7, 8, 9, 10, 11, 12, 13]
abbrev pSChgP_129_5P : List (Nat × List Nat × List Nat) := [(14, [], [15])]
abbrev pSChgP_129_7E : List Nat := [0, 1, 2, 3, 4, 5, 6]
abbrev pSChgP_129_7P : List (Nat × List Nat × List Nat) := [(7, [5], [8])]
attribute [go_sem] pSChgP_177_1E pSChgP_177_1P pSChgP_129_4E pSChgP_129_4P pSChgP_129_5E pSChgP_129_5P pSChgP_129_7E pSChgP_129_7P
theorem bl_of : ∀ t : LT, WF t → lv t ≤ 1000 → BL t
  | .mk kind item long many kids shares, hw, hl => by
    have hk := ks_len hw
    simp only [LT.ks] at hk
    obtain ⟨w1, w2, w3, w4, w5, w6, w7, w8, w9, w10⟩ := (WF_eq ..).mp hw
    rw [BL_eq]
    refine ⟨by omega, ?_, fun k hkm => bl_of k (w10 k hkm) (by have := lv_kid (t := .mk kind item long many kids shares) hkm; omega)⟩
    by_cases h4 : kind = 4
    · have := w6 h4; omega
    · rw [w7 h4]; simp
theorem mul_bd' {a b A B : Int} (ha : 0 ≤ a ∧ a ≤ A) (hb : 0 ≤ b ∧ b ≤ B) : 0 ≤ a * b ∧ a * b ≤ A * B :=
  ⟨Int.mul_nonneg ha.1 hb.1, Int.le_trans (Int.mul_le_mul_of_nonneg_right ha.2 hb.1) (Int.mul_le_mul_of_nonneg_left hb.2 (by omega))⟩
theorem rep_wl2 (m : Int) (ks : List LT) : WL [.v (.int .i64 5), .v (.string ⟨#[]⟩), .v (.int .i64 0), .v (.int .i64 m), .row 6 (ks.map encL) none, .v (.slice none 0 0)] (encL (repK m ks)) := by
  rw [repK, encL_eq]
  exact .cons (Weak.refl _) (.cons (Weak.refl _) (.cons (Weak.refl _) (.cons (Weak.refl _) (.cons (Weak.refl _) (.cons (Weak.nil 1 0 0 ⟨rfl, rfl⟩) .nil)))))
theorem row_wl (ks : List LT) : WL [.v (.int .i64 2), .v (.string ⟨#[]⟩), .v (.int .i64 0), .v (.int .i64 0), .row 6 (ks.map encL) none, .v (.slice none 0 0)] (encL (rowT ks)) := by
  rw [rowT, encL_eq]
  exact .cons (Weak.refl _) (.cons (Weak.refl _) (.cons (Weak.refl _) (.cons (Weak.refl _) (.cons (Weak.refl _) (.cons (Weak.nil 1 0 0 ⟨rfl, rfl⟩) .nil)))))
def ChgR (t : LT) (h : Hp) (r : AV) (h' : Hp) : Prop := ∃ u, r = .tup [.agg (encL u), .v (.bool (stepT t).isSome)] ∧ (∀ v, stepT t = some v → u = v) ∧ h' = h
theorem flat_len {l : List LT} {n : Nat} (hw : ∀ x ∈ l, WF x) (hn : (l.map lv).sum ≤ n) : (flatT l).length ≤ n := by
  have h1 := sum_lv_len (flatT_wf hw)
  rw [flatT_lv hw] at h1
  omega
theorem g_chgSame (x : LT) (cs : List AV) (t : LT) (h : Hp) (hcs : ∃ k i l m ks sh, cs = [k, i, l, m, .row 6 ((x :: ks).map encL) none, sh]) (hx : BL x) (ht : BL t) : ACalls Tryz.prog 177 [.agg (encL t), .ref cs 0] h (fun r h' => r = .v (.bool (!sameB t x || !plainT t)) ∧ h' = h) := by
  obtain ⟨k, i, l, m, ks, sh, rfl⟩ := hcs
  have hlt := encL_len t
  have kt : List.take 6 (encL t) = encL t := List.take_of_length_le (Nat.le_of_eq hlt)
  have dt : List.drop 6 (encL t) = [] := List.drop_of_length_le (Nat.le_of_eq hlt)
  have hlx := encL_len x
  have kx : List.take 6 (encL x) = encL x := List.take_of_length_le (Nat.le_of_eq hlx)
  have dx : List.drop 6 (encL x) = [] := List.drop_of_length_le (Nat.le_of_eq hlx)
  have g1 := g_equal (SizeOf.sizeOf t) t x h (Nat.le_refl _) ht hx
  have g2 := g_plainP (SizeOf.sizeOf t) t h (Nat.le_refl _) ht
  generalize sameB t x = q1 at *
  generalize plainT t = q2 at *
  refine gE Tryz.func177 rfl (by kernel_rfl) 14 rfl fun c => ?_
  (repeat (first | refine gO (by decide) ?_ | ((first | refine gR ?_ | (with_reducible refine wM ?_ ?_) | ((with_reducible refine xS ?_); refine uD 1 (mdL []) pSChgP_177_1E pSChgP_177_1P 16 rfl (by kernel_rfl) ?_)) <;> ((try with_reducible intro K1 hK1); simp only [go_sem, ↓reduceIte, reduceCtorEq, nA, nB, nC, nD, nE, nF, Int.toNat_zero, hlt, kt, dt, hlx, kx, dx] <;> and_intros <;> first | (apply hK1; clear hK1 K1) | (intros; first | omega | decide | (simp_all <;> omega)) | skip))))
  refine g1.mono ?_; rintro _ hz ⟨rfl, hh⟩; apply hK1; clear hK1 K1; rw [hh]; clear hh hz
  cases q1
  · (repeat (first | refine gO (by decide) ?_ | ((first | refine gR ?_ | (with_reducible refine wM ?_ ?_) | ((with_reducible refine xS ?_); refine uD 1 (mdL []) pSChgP_177_1E pSChgP_177_1P 16 rfl (by kernel_rfl) ?_)) <;> ((try with_reducible intro K1 hK1); simp only [go_sem, ↓reduceIte, reduceCtorEq, nA, nB, nC, nD, nE, nF, Int.toNat_zero, hlt, kt, dt, hlx, kx, dx] <;> and_intros <;> first | (apply hK1; clear hK1 K1) | (intros; first | omega | decide | (simp_all <;> omega)) | skip))))
    refine ⟨.v (.bool true), rfl, True.intro, hK1 _ ?_⟩; clear hK1 K1
    (repeat (first | refine gO (by decide) ?_ | ((first | refine gR ?_ | (with_reducible refine wM ?_ ?_) | ((with_reducible refine xS ?_); refine uD 1 (mdL []) pSChgP_177_1E pSChgP_177_1P 16 rfl (by kernel_rfl) ?_)) <;> ((try with_reducible intro K1 hK1); simp only [go_sem, ↓reduceIte, reduceCtorEq, nA, nB, nC, nD, nE, nF, Int.toNat_zero, hlt, kt, dt, hlx, kx, dx] <;> and_intros <;> first | (apply hK1; clear hK1 K1) | (intros; first | omega | decide | (simp_all <;> omega)) | skip))))
    simp only [Tryz.results177, go_sem, ↓reduceIte, reduceCtorEq, nA, nB, nC, nD, nE, nF]
    exact ⟨_, _, Weak.refl _, Hp.le.refl _, rfl, rfl⟩
  · (repeat (first | refine gO (by decide) ?_ | ((first | refine gR ?_ | (with_reducible refine wM ?_ ?_) | ((with_reducible refine xS ?_); refine uD 1 (mdL []) pSChgP_177_1E pSChgP_177_1P 16 rfl (by kernel_rfl) ?_)) <;> ((try with_reducible intro K1 hK1); simp only [go_sem, ↓reduceIte, reduceCtorEq, nA, nB, nC, nD, nE, nF, Int.toNat_zero, hlt, kt, dt, hlx, kx, dx] <;> and_intros <;> first | (apply hK1; clear hK1 K1) | (intros; first | omega | decide | (simp_all <;> omega)) | skip))))
    refine g2.mono ?_; rintro _ hz ⟨rfl, hh⟩; refine ⟨rfl, hK1 _ ?_⟩; clear hK1 K1; rw [hh]; clear hh hz
    (repeat (first | refine gO (by decide) ?_ | ((first | refine gR ?_ | (with_reducible refine wM ?_ ?_) | ((with_reducible refine xS ?_); refine uD 1 (mdL []) pSChgP_177_1E pSChgP_177_1P 16 rfl (by kernel_rfl) ?_)) <;> ((try with_reducible intro K1 hK1); simp only [go_sem, ↓reduceIte, reduceCtorEq, nA, nB, nC, nD, nE, nF, Int.toNat_zero, hlt, kt, dt, hlx, kx, dx] <;> and_intros <;> first | (apply hK1; clear hK1 K1) | (intros; first | omega | decide | (simp_all <;> omega)) | skip))))
    simp only [Tryz.results177, go_sem, ↓reduceIte, reduceCtorEq, nA, nB, nC, nD, nE, nF]
    exact ⟨_, _, Weak.refl _, Hp.le.refl _, rfl, rfl⟩
theorem g_chgP0 (t : LT) (h : Hp) (hw : WF t) (hl : lv t ≤ 1000) (h4 : t.kd ≠ 4 ∨ t.ks.length = 1) : ACalls Tryz.prog 129 [.agg (encL t)] h (ChgR t h) := by
  cases t with
  | mk kind item long many kids shares =>
  have hkl := ks_len hw
  have hln := fun h0 => lv_ks (t := .mk kind item long many kids shares) h0
  simp only [LT.ks, LT.kd] at hkl h4 hln
  obtain ⟨w1, w2, w3, w4, w5, w6, w7, w8, w9, w10⟩ := (WF_eq ..).mp hw
  have hst := stepT_mk kind item long many kids shares
  rw [encL_eq]
  by_cases h1 : kind = 1
  · subst h1
    rw [if_pos rfl] at hst
    obtain ⟨e1, e2, e3⟩ := w2 rfl
    subst e1
    refine gE Tryz.func129 rfl (by kernel_rfl) 124 rfl fun c => ?_
    (repeat' (first | refine gO (by decide) ?_ | ((first | refine gM (mdL [(2, 1)]) ?_ | (with_reducible refine wM ?_ ?_) | ((with_reducible refine xS ?_); refine uD 4 (mdL [(2, 1)]) pSChgP_129_4E pSChgP_129_4P 125 rfl (by kernel_rfl) ?_) | ((with_reducible refine xS ?_); refine uD 5 (mdL [(2, 1)]) pSChgP_129_5E pSChgP_129_5P 125 rfl (by kernel_rfl) ?_) | ((with_reducible refine xS ?_); refine uD 7 (mdL [(2, 1)]) pSChgP_129_7E pSChgP_129_7P 125 rfl (by kernel_rfl) ?_)) <;> ((try with_reducible intro K1 hK1); simp only [go_sem, ↓reduceIte, reduceCtorEq, nA, nB, nC, nD, nE, nF] <;> and_intros <;> first | (apply hK1; clear hK1 K1) | (intros; first | omega | decide | (simp_all <;> omega)) | skip)) | (refine awp_cond (t := _) rfl (fun hcnd => ?_) (fun hcnd => ?_) <;> first | (cases hcnd; done) | (simp only [hcnd]) | skip)))
    simp only [Tryz.results129, go_sem, ↓reduceIte, reduceCtorEq, nA, nB, nC, nD, nE, nF]
    exact ⟨_, _, Weak.refl _, Hp.le.refl _, .mk 1 item long many [] shares, by rw [hst, encL_eq]; rfl, fun v hv => (by rw [hst] at hv; cases hv), rfl⟩
  obtain ⟨x, xs, rfl⟩ := List.exists_cons_of_ne_nil (w3 h1).2.2
  have hwx := w10 x (by simp)
  rw [if_neg h1] at hst
  simp only [List.getD_cons_zero] at hst
  have hx6 := encL_len x
  have kx : List.take 6 (encL x) = encL x := List.take_of_length_le (Nat.le_of_eq hx6)
  have dx : List.drop 6 (encL x) = [] := List.drop_of_length_le (Nat.le_of_eq hx6)
  by_cases h5 : kind = 5
  · subst h5
    rw [if_pos rfl] at hst
    obtain ⟨m0, m1, m2⟩ := w4 rfl
    obtain rfl : xs = [] := by cases xs with | nil => rfl | cons => simp at m0
    have hA : many = 1 → stepT (.mk 5 item long many [x] shares) = some x := fun e => by rw [hst, if_pos e]
    have hB : many ≠ 1 → x.kd = 5 → many * x.mn ≤ 100 → stepT (.mk 5 item long many [x] shares) = some (repK (many * x.mn) x.ks) := fun e e1 e2 => by rw [hst, if_neg e, if_pos ⟨e1, e2⟩]
    have hC : many ≠ 1 → ¬ (x.kd = 5 ∧ many * x.mn ≤ 100) → stepT (.mk 5 item long many [x] shares) = none := fun e e1 => by rw [hst, if_neg e, if_neg e1]
    clear hst
    cases x with
    | mk k2 i2 l2 m2' ks2 s2 =>
    simp only [LT.kd, LT.mn, LT.ks] at hB hC
    obtain ⟨v1, v2, v3, v4, v5, v6, v7, v8, v9, v10⟩ := (WF_eq ..).mp hwx
    have fin : ¬ (k2 = 5 ∧ many * m2' ≤ 100) → ∃ u, AV.tup [.agg (encL (.mk k2 i2 l2 m2' ks2 s2)), .v (.bool (many == 1))] = .tup [.agg (encL u), .v (.bool (stepT (.mk 5 item long many [.mk k2 i2 l2 m2' ks2 s2] shares)).isSome)] ∧ (∀ v, stepT (.mk 5 item long many [.mk k2 i2 l2 m2' ks2 s2] shares) = some v → u = v) ∧ h = h := fun hc => by
      by_cases hm1 : many = 1
      · refine ⟨_, ?_, fun v hv => (by rw [hA hm1] at hv; cases hv; rfl), rfl⟩
        rw [hA hm1, hm1]; rfl
      · refine ⟨.mk k2 i2 l2 m2' ks2 s2, ?_, fun v hv => (by rw [hC hm1 hc] at hv; cases hv), rfl⟩
        have hm1' : (many == 1) = false := by simpa using hm1
        rw [hC hm1 hc, hm1']; rfl
    by_cases h25 : k2 = 5
    · subst h25
      obtain ⟨n0, n1, n2⟩ := v4 rfl
      have hmul := mul_bd' (a := many) (b := m2') (A := 100) (B := 100) (by omega) (by omega)
      by_cases hc : many * m2' ≤ 100
      · have hcd : decide (many * m2' ≤ 100) = true := by simpa using hc
        obtain ⟨p1, p2, _⟩ := v3 (by omega)
        have p3 := v7 (by omega)
        have key : stepT (.mk 5 item long many [.mk 5 i2 l2 m2' ks2 s2] shares) = some (repK (many * m2') ks2) := by
          by_cases hm1 : many = 1
          · rw [hA hm1, repK, hm1, Int.one_mul, p1, p2, p3]
          · exact hB hm1 rfl hc
        refine gE Tryz.func129 rfl (by kernel_rfl) 124 rfl fun c => ?_
        (repeat' (first | refine gO (by decide) ?_ | ((first | refine gM (mdL [(2, 1)]) ?_ | (with_reducible refine wM ?_ ?_) | ((with_reducible refine xS ?_); refine uD 4 (mdL [(2, 1)]) pSChgP_129_4E pSChgP_129_4P 125 rfl (by kernel_rfl) ?_) | ((with_reducible refine xS ?_); refine uD 5 (mdL [(2, 1)]) pSChgP_129_5E pSChgP_129_5P 125 rfl (by kernel_rfl) ?_) | ((with_reducible refine xS ?_); refine uD 7 (mdL [(2, 1)]) pSChgP_129_7E pSChgP_129_7P 125 rfl (by kernel_rfl) ?_)) <;> ((try with_reducible intro K1 hK1); simp only [go_sem, ↓reduceIte, reduceCtorEq, nA, nB, nC, nD, nE, nF, encL_eq, Int.toNat_zero, hcd] <;> and_intros <;> first | (apply hK1; clear hK1 K1) | (intros; first | omega | decide | (simp_all <;> omega)) | skip)) | (refine awp_cond (t := _) rfl (fun hcnd => ?_) (fun hcnd => ?_) <;> first | (cases hcnd; done) | (simp only [hcnd]) | skip)))
        simp only [Tryz.results129, go_sem, ↓reduceIte, reduceCtorEq, nA, nB, nC, nD, nE, nF]
        exact ⟨_, _, Weak.tup1 (Weak.agg (rep_wl2 (many * m2') ks2)) (Weak.refl _), Hp.le.refl _, repK (many * m2') ks2, by rw [key]; rfl, fun v hv => (by rw [key] at hv; cases hv; rfl), rfl⟩
      · have hcd : decide (many * m2' ≤ 100) = false := by simpa using hc
        refine gE Tryz.func129 rfl (by kernel_rfl) 124 rfl fun c => ?_
        (repeat' (first | refine gO (by decide) ?_ | ((first | refine gM (mdL [(2, 1)]) ?_ | (with_reducible refine wM ?_ ?_) | ((with_reducible refine xS ?_); refine uD 4 (mdL [(2, 1)]) pSChgP_129_4E pSChgP_129_4P 125 rfl (by kernel_rfl) ?_) | ((with_reducible refine xS ?_); refine uD 5 (mdL [(2, 1)]) pSChgP_129_5E pSChgP_129_5P 125 rfl (by kernel_rfl) ?_) | ((with_reducible refine xS ?_); refine uD 7 (mdL [(2, 1)]) pSChgP_129_7E pSChgP_129_7P 125 rfl (by kernel_rfl) ?_)) <;> ((try with_reducible intro K1 hK1); simp only [go_sem, ↓reduceIte, reduceCtorEq, nA, nB, nC, nD, nE, nF, encL_eq, Int.toNat_zero, hcd] <;> and_intros <;> first | (apply hK1; clear hK1 K1) | (intros; first | omega | decide | (simp_all <;> omega)) | skip)) | (refine awp_cond (t := _) rfl (fun hcnd => ?_) (fun hcnd => ?_) <;> first | (cases hcnd; done) | (simp only [hcnd]) | skip)))
        simp only [Tryz.results129, go_sem, ↓reduceIte, reduceCtorEq, nA, nB, nC, nD, nE, nF]
        have f9 := fin fun e => hc e.2
        rw [encL_eq] at f9
        exact ⟨_, _, Weak.refl _, Hp.le.refl _, f9⟩
    · have e25 : (k2 == 5) = false := by simpa using h25
      refine gE Tryz.func129 rfl (by kernel_rfl) 124 rfl fun c => ?_
      (repeat' (first | refine gO (by decide) ?_ | ((first | refine gM (mdL [(2, 1)]) ?_ | (with_reducible refine wM ?_ ?_) | ((with_reducible refine xS ?_); refine uD 4 (mdL [(2, 1)]) pSChgP_129_4E pSChgP_129_4P 125 rfl (by kernel_rfl) ?_) | ((with_reducible refine xS ?_); refine uD 5 (mdL [(2, 1)]) pSChgP_129_5E pSChgP_129_5P 125 rfl (by kernel_rfl) ?_) | ((with_reducible refine xS ?_); refine uD 7 (mdL [(2, 1)]) pSChgP_129_7E pSChgP_129_7P 125 rfl (by kernel_rfl) ?_)) <;> ((try with_reducible intro K1 hK1); simp only [go_sem, ↓reduceIte, reduceCtorEq, nA, nB, nC, nD, nE, nF, encL_eq, Int.toNat_zero, e25] <;> and_intros <;> first | (apply hK1; clear hK1 K1) | (intros; first | omega | decide | (simp_all <;> omega)) | skip)) | (refine awp_cond (t := _) rfl (fun hcnd => ?_) (fun hcnd => ?_) <;> first | (cases hcnd; done) | (simp only [hcnd]) | skip)))
      simp only [Tryz.results129, go_sem, ↓reduceIte, reduceCtorEq, nA, nB, nC, nD, nE, nF]
      have f9 := fin fun e => h25 e.1
      rw [encL_eq] at f9
      exact ⟨_, _, Weak.refl _, Hp.le.refl _, f9⟩
  rw [if_neg h5] at hst
  have e1 : (kind == 1) = false := by simpa using h1
  have e5 : (kind == 5) = false := by simpa using h5
  clear hx6 kx dx
  cases x with
  | mk k2 i2 l2 m2' ks2 s2 =>
  by_cases hone : xs = []
  · subst hone
    rw [if_pos (by rfl)] at hst
    refine gE Tryz.func129 rfl (by kernel_rfl) 124 rfl fun c => ?_
    (repeat' (first | refine gO (by decide) ?_ | ((first | refine gM (mdL [(2, 1)]) ?_ | (with_reducible refine wM ?_ ?_) | ((with_reducible refine xS ?_); refine uD 4 (mdL [(2, 1)]) pSChgP_129_4E pSChgP_129_4P 125 rfl (by kernel_rfl) ?_) | ((with_reducible refine xS ?_); refine uD 5 (mdL [(2, 1)]) pSChgP_129_5E pSChgP_129_5P 125 rfl (by kernel_rfl) ?_) | ((with_reducible refine xS ?_); refine uD 7 (mdL [(2, 1)]) pSChgP_129_7E pSChgP_129_7P 125 rfl (by kernel_rfl) ?_)) <;> ((try with_reducible intro K1 hK1); simp only [go_sem, ↓reduceIte, reduceCtorEq, nA, nB, nC, nD, nE, nF, e1, e5, Int.toNat_zero, encL_eq] <;> and_intros <;> first | (apply hK1; clear hK1 K1) | (intros; first | omega | decide | (simp_all <;> omega)) | skip)) | (refine awp_cond (t := _) rfl (fun hcnd => ?_) (fun hcnd => ?_) <;> first | (cases hcnd; done) | (simp only [hcnd]) | skip)))
    simp only [Tryz.results129, go_sem, ↓reduceIte, reduceCtorEq, nA, nB, nC, nD, nE, nF]
    exact ⟨_, _, Weak.refl _, Hp.le.refl _, .mk k2 i2 l2 m2' ks2 s2, by rw [hst, encL_eq]; rfl, fun v hv => (by rw [hst] at hv; cases hv; rfl), rfl⟩
  have hxl : 0 < xs.length := List.length_pos_iff.2 hone
  rw [if_neg (by simp; omega)] at hst
  have eone : (((xs.length + 1 : Nat) : Int) == 1) = false := by simp; omega
  simp only [List.length_cons] at hkl h4
  have hkb : ∀ k ∈ LT.mk k2 i2 l2 m2' ks2 s2 :: xs, BL k := (((BL_eq ..).mp (bl_of _ hw hl)).2.2)
  by_cases h2 : kind = 2
  · subst h2
    rw [if_pos rfl] at hst
    have hg := g_gathP (LT.mk k2 i2 l2 m2' ks2 s2 :: xs) h w10 (by simp; omega) (flat_len w10 (by rw [← hln (by simp)]; exact hl))
    have hgw : ∀ k ∈ gath (flatT (LT.mk k2 i2 l2 m2' ks2 s2 :: xs)), WF k := gath_all (p := WF) (fun it a b => ⟨b, fun m p q => (rep_ok a b m p q).2⟩) _ (flatT (LT.mk k2 i2 l2 m2' ks2 s2 :: xs)) (Nat.le_refl _) (flatT_wf w10) (fun y hy _ => flatT_wf w10 y hy)
    have hgs := gath_lv _ (flatT (LT.mk k2 i2 l2 m2' ks2 s2 :: xs)) (Nat.le_refl _) (flatT_wf w10)
    rw [flatT_lv w10, ← hln (by simp)] at hgs
    have hgl := sum_lv_len hgw
    have hgb : ∀ k ∈ gath (flatT (LT.mk k2 i2 l2 m2' ks2 s2 :: xs)), BL k := fun k hk => bl_of k (hgw k hk) (by
      have : ∀ l : List LT, k ∈ l → lv k ≤ (l.map lv).sum := fun l => by
        induction l with
        | nil => intro h; cases h
        | cons y ys ih =>
          intro h
          rw [List.map_cons, List.sum_cons]
          rcases List.mem_cons.1 h with rfl | h
          · omega
          · have := ih h; omega
      have := this _ hk
      omega)
    generalize gath (flatT (LT.mk k2 i2 l2 m2' ks2 s2 :: xs)) = gs at *
    have he := g_equalF 175 gs (LT.mk k2 i2 l2 m2' ks2 s2 :: xs) h (by omega) (by simp; omega) (fun j hj hj2 => g_equal _ _ _ h (Nat.le_refl _) (hgb _ (getD_mem' gs j default hj)) (hkb _ (getD_mem' (LT.mk k2 i2 l2 m2' ks2 s2 :: xs) j default hj2)))
    simp only [List.map_cons, encL_eq] at hg he
    have hq1 : gs = LT.mk k2 i2 l2 m2' ks2 s2 :: xs → eqKs gs (LT.mk k2 i2 l2 m2' ks2 s2 :: xs) = true := eqKs_true.2
    have hq2 : gs ≠ LT.mk k2 i2 l2 m2' ks2 s2 :: xs → eqKs gs (LT.mk k2 i2 l2 m2' ks2 s2 :: xs) = false := eqKs_false.2
    generalize eqKs gs (LT.mk k2 i2 l2 m2' ks2 s2 :: xs) = q at he hq1 hq2
    refine gE Tryz.func129 rfl (by kernel_rfl) 124 rfl fun c => ?_
    (repeat' (first | refine gO (by decide) ?_ | ((first | refine gM (mdL [(2, 1)]) ?_ | (with_reducible refine wM ?_ ?_) | ((with_reducible refine xS ?_); refine uD 4 (mdL [(2, 1)]) pSChgP_129_4E pSChgP_129_4P 125 rfl (by kernel_rfl) ?_) | ((with_reducible refine xS ?_); refine uD 5 (mdL [(2, 1)]) pSChgP_129_5E pSChgP_129_5P 125 rfl (by kernel_rfl) ?_) | ((with_reducible refine xS ?_); refine uD 7 (mdL [(2, 1)]) pSChgP_129_7E pSChgP_129_7P 125 rfl (by kernel_rfl) ?_)) <;> ((try with_reducible intro K1 hK1); simp only [go_sem, ↓reduceIte, reduceCtorEq, nA, nB, nC, nD, nE, nF, eone, encL_eq, Int.toNat_zero] <;> and_intros <;> first | (apply hK1; clear hK1 K1) | (intros; first | omega | decide | (simp_all <;> omega)) | skip)) | (refine awp_cond (t := _) rfl (fun hcnd => ?_) (fun hcnd => ?_) <;> first | (cases hcnd; done) | (simp only [hcnd]) | skip)))
    refine hg.mono ?_; rintro _ hz ⟨rfl, hh⟩; apply hK1; clear hK1 K1; rw [hh]; clear hh hz
    (repeat' (first | refine gO (by decide) ?_ | ((first | refine gM (mdL [(2, 1)]) ?_ | (with_reducible refine wM ?_ ?_) | ((with_reducible refine xS ?_); refine uD 4 (mdL [(2, 1)]) pSChgP_129_4E pSChgP_129_4P 125 rfl (by kernel_rfl) ?_) | ((with_reducible refine xS ?_); refine uD 5 (mdL [(2, 1)]) pSChgP_129_5E pSChgP_129_5P 125 rfl (by kernel_rfl) ?_) | ((with_reducible refine xS ?_); refine uD 7 (mdL [(2, 1)]) pSChgP_129_7E pSChgP_129_7P 125 rfl (by kernel_rfl) ?_)) <;> ((try with_reducible intro K1 hK1); simp only [go_sem, ↓reduceIte, reduceCtorEq, nA, nB, nC, nD, nE, nF, eone, encL_eq, Int.toNat_zero] <;> and_intros <;> first | (apply hK1; clear hK1 K1) | (intros; first | omega | decide | (simp_all <;> omega)) | skip)) | (refine awp_cond (t := _) rfl (fun hcnd => ?_) (fun hcnd => ?_) <;> first | (cases hcnd; done) | (simp only [hcnd]) | skip)))
    refine he.mono ?_; rintro _ hz ⟨rfl, hh⟩; apply hK1; clear hK1 K1; rw [hh]; clear hh hz
    (repeat' (first | refine gO (by decide) ?_ | ((first | refine gM (mdL [(2, 1)]) ?_ | (with_reducible refine wM ?_ ?_) | ((with_reducible refine xS ?_); refine uD 4 (mdL [(2, 1)]) pSChgP_129_4E pSChgP_129_4P 125 rfl (by kernel_rfl) ?_) | ((with_reducible refine xS ?_); refine uD 5 (mdL [(2, 1)]) pSChgP_129_5E pSChgP_129_5P 125 rfl (by kernel_rfl) ?_) | ((with_reducible refine xS ?_); refine uD 7 (mdL [(2, 1)]) pSChgP_129_7E pSChgP_129_7P 125 rfl (by kernel_rfl) ?_)) <;> ((try with_reducible intro K1 hK1); simp only [go_sem, ↓reduceIte, reduceCtorEq, nA, nB, nC, nD, nE, nF, eone, encL_eq, Int.toNat_zero] <;> and_intros <;> first | (apply hK1; clear hK1 K1) | (intros; first | omega | decide | (simp_all <;> omega)) | skip)) | (refine awp_cond (t := _) rfl (fun hcnd => ?_) (fun hcnd => ?_) <;> first | (cases hcnd; done) | (simp only [hcnd]) | skip)))
    simp only [Tryz.results129, go_sem, ↓reduceIte, reduceCtorEq, nA, nB, nC, nD, nE, nF]
    refine ⟨_, _, Weak.tup1 (Weak.agg (row_wl gs)) (Weak.refl _), Hp.le.refl _, rowT gs, ?_, fun v hv => ?_, rfl⟩
    · rw [hst]
      split
      · rename_i e; rw [hq1 e]; rfl
      · rename_i e; rw [hq2 e]; rfl
    · rw [hst] at hv
      split at hv
      · cases hv
      · cases hv; rfl
  rw [if_neg h2] at hst
  have h4' : kind ≠ 4 := by
    rcases h4 with h | h
    · exact h
    · omega
  rw [if_neg h4'] at hst
  have h3 : kind = 3 := by omega
  subst h3
  have hany := g_anyF 177 [.ref [.v (.int .i64 3), .v (.string item), .v (.int .i64 long), .v (.int .i64 many), .row 6 ((LT.mk k2 i2 l2 m2' ks2 s2 :: xs).map encL) none, .row 1 (shares.map encI) none] 0] (LT.mk k2 i2 l2 m2' ks2 s2 :: xs) (fun t => !sameB t (.mk k2 i2 l2 m2' ks2 s2) || !plainT t) h (by simp; omega)
    (fun t ht => g_chgSame (.mk k2 i2 l2 m2' ks2 s2) _ t h ⟨_, _, _, _, xs, _, rfl⟩ (hkb _ (List.mem_cons_self ..)) (hkb t ht))
  simp only [List.map_cons, encL_eq] at hany
  have hq1 : (plainT (.mk k2 i2 l2 m2' ks2 s2) = true ∧ ∀ k ∈ LT.mk k2 i2 l2 m2' ks2 s2 :: xs, k = .mk k2 i2 l2 m2' ks2 s2) → (LT.mk k2 i2 l2 m2' ks2 s2 :: xs).any (fun t => !sameB t (.mk k2 i2 l2 m2' ks2 s2) || !plainT t) = false := fun hc => by
    rw [List.any_eq_false]
    intro k hk
    rw [hc.2 k hk, sameB_true.2 rfl, hc.1]; simp
  have hq2 : ¬ (plainT (.mk k2 i2 l2 m2' ks2 s2) = true ∧ ∀ k ∈ LT.mk k2 i2 l2 m2' ks2 s2 :: xs, k = .mk k2 i2 l2 m2' ks2 s2) → (LT.mk k2 i2 l2 m2' ks2 s2 :: xs).any (fun t => !sameB t (.mk k2 i2 l2 m2' ks2 s2) || !plainT t) = true := fun hc => by
    rw [List.any_eq_true]
    by_cases hp : plainT (.mk k2 i2 l2 m2' ks2 s2) = true
    · have : ∃ k ∈ LT.mk k2 i2 l2 m2' ks2 s2 :: xs, k ≠ .mk k2 i2 l2 m2' ks2 s2 := Classical.byContradiction fun hn => hc ⟨hp, fun k hk => Classical.byContradiction fun h => hn ⟨k, hk, h⟩⟩
      obtain ⟨k, hk, hne⟩ := this
      exact ⟨k, hk, by rw [sameB_false.2 hne]; rfl⟩
    · exact ⟨.mk k2 i2 l2 m2' ks2 s2, by simp, by simp only [Bool.not_eq_true] at hp; rw [hp]; simp⟩
  generalize (LT.mk k2 i2 l2 m2' ks2 s2 :: xs).any (fun t => !sameB t (.mk k2 i2 l2 m2' ks2 s2) || !plainT t) = q at hany hq1 hq2
  refine gE Tryz.func129 rfl (by kernel_rfl) 124 rfl fun c => ?_
  (repeat' (first | refine gO (by decide) ?_ | ((first | refine gM (mdL [(2, 1)]) ?_ | (with_reducible refine wM ?_ ?_) | ((with_reducible refine xS ?_); refine uD 4 (mdL [(2, 1)]) pSChgP_129_4E pSChgP_129_4P 125 rfl (by kernel_rfl) ?_) | ((with_reducible refine xS ?_); refine uD 5 (mdL [(2, 1)]) pSChgP_129_5E pSChgP_129_5P 125 rfl (by kernel_rfl) ?_) | ((with_reducible refine xS ?_); refine uD 7 (mdL [(2, 1)]) pSChgP_129_7E pSChgP_129_7P 125 rfl (by kernel_rfl) ?_)) <;> ((try with_reducible intro K1 hK1); simp only [go_sem, ↓reduceIte, reduceCtorEq, nA, nB, nC, nD, nE, nF, eone, encL_eq, Int.toNat_zero] <;> and_intros <;> first | (apply hK1; clear hK1 K1) | (intros; first | omega | decide | (simp_all <;> omega)) | skip)) | (refine awp_cond (t := _) rfl (fun hcnd => ?_) (fun hcnd => ?_) <;> first | (cases hcnd; done) | (simp only [hcnd]) | skip)))
  refine hany.mono ?_; rintro _ hz ⟨rfl, hh⟩; apply hK1; clear hK1 K1; rw [hh]; clear hh hz
  (repeat' (first | refine gO (by decide) ?_ | ((first | refine gM (mdL [(2, 1)]) ?_ | (with_reducible refine wM ?_ ?_) | ((with_reducible refine xS ?_); refine uD 4 (mdL [(2, 1)]) pSChgP_129_4E pSChgP_129_4P 125 rfl (by kernel_rfl) ?_) | ((with_reducible refine xS ?_); refine uD 5 (mdL [(2, 1)]) pSChgP_129_5E pSChgP_129_5P 125 rfl (by kernel_rfl) ?_) | ((with_reducible refine xS ?_); refine uD 7 (mdL [(2, 1)]) pSChgP_129_7E pSChgP_129_7P 125 rfl (by kernel_rfl) ?_)) <;> ((try with_reducible intro K1 hK1); simp only [go_sem, ↓reduceIte, reduceCtorEq, nA, nB, nC, nD, nE, nF, eone, encL_eq, Int.toNat_zero] <;> and_intros <;> first | (apply hK1; clear hK1 K1) | (intros; first | omega | decide | (simp_all <;> omega)) | skip)) | (refine awp_cond (t := _) rfl (fun hcnd => ?_) (fun hcnd => ?_) <;> first | (cases hcnd; done) | (simp only [hcnd]) | skip)))
  simp only [Tryz.results129, go_sem, ↓reduceIte, reduceCtorEq, nA, nB, nC, nD, nE, nF]
  refine ⟨_, _, Weak.refl _, Hp.le.refl _, .mk k2 i2 l2 m2' ks2 s2, ?_, fun v hv => ?_, rfl⟩
  · rw [hst, encL_eq]
    split
    · rename_i e; rw [hq1 e]; rfl
    · rename_i e; rw [hq2 e]; rfl
  · rw [hst] at hv
    split at hv
    · cases hv; rfl
    · cases hv
section
variable {P : Program} {c : Cx} {Q : Exit → St → Prop} {s : St}
theorem awp_nilRow (t z : Nat) {k : Option Nat} {x : Code} (ht : s.sl.getD t .junk = .row z [] k) (h1 : Awp P c x Q { s with sl := s.sl.set t (.v (.slice none 0 0)) })
    (h2 : ∀ g o n, Awp P c x Q { s with sl := s.sl.set t (.v (.slice (some ⟨g, o, none⟩) 0 (n + 1))) }) (h3 : ∀ a, Awp P c x Q { s with sl := s.sl.set t (.v (.slice (some a) 0 0)) }) : Awp P c x Q s := by
  rintro ac w ⟨G, L, sm, hg, hf, hL⟩
  have put : ∀ v, ac.tmps.getD t undef = v → v.oneCell' = true → Awp P c x Q { s with sl := s.sl.set t (.v v) } → x.wp P (fun e a' w' => ∃ s', Q e s' ∧ In c s' a' w') ac w := fun v hv h1 h => by
    refine h ac w ⟨G, L, ⟨sm.hs, by simpa using sm.sz, fun u hu => ?_, sm.df, sm.ls⟩, hg, hf, hL⟩
    have hu' : u < s.sl.length := by simpa using hu
    simp only [List.getElem_set]
    split
    · rename_i e
      subst e
      rw [hv]
      exact RepT.of (.v _ h1)
    · exact sm.sl u hu'
  by_cases hlt : t < s.sl.length
  · have h9 := sm.sl t hlt
    rw [List.getD_eq_getElem?_getD, List.getElem?_eq_getElem hlt, Option.getD_some] at ht
    rw [ht] at h9
    generalize hv : ac.tmps.getD t undef = v at h9
    have h9' : Rep G (.row z [] k) v := h9
    cases h9' with
    | row _ _ _ g o n cc u hn =>
      simp only [List.length_nil] at hn
      subst hn
      cases cc with
      | zero => exact put _ hv rfl (h3 _)
      | succ cc => exact put _ hv rfl (h2 g o cc)
    | nil => exact put _ hv rfl h1
    | nilA _ a =>
      cases a with
      | none => exact put _ hv rfl h1
      | some a => exact put _ hv rfl (h3 a)
  · rw [List.getD_eq_getElem?_getD, List.getElem?_eq_none (by omega)] at ht
    cases ht
end
theorem g_clI (x : List AV) (xs : List (List AV)) (k : Option Nat) (h : Hp) (hb : xs.length ≤ 1000) : ACalls Tryz.prog 68 [.row 1 (x :: xs) k] h (fun r h' => ∃ q, h.T q = none ∧ r = .arr 1 q (xs.length + 1) ∧ h' = { h with T := upd h.T q (some (.cont 1 (x :: xs))) }) := by
  refine gE Tryz.func68 rfl (by kernel_rfl) 7 rfl fun c => ?_
  (repeat (first | refine gO (by decide) ?_ | (refine gM (mdL [(5, 1)]) fun K1 hK1 => ?_; simp only [go_sem, ↓reduceIte, reduceCtorEq, nA, nB, nC, nD, nE, nF] <;> and_intros <;> first | (apply hK1; clear hK1 K1) | (intros; first | omega | decide | (simp_all <;> omega)) | skip)))
  refine awp_cond (t := _) rfl (fun h1 => by cases h1) (fun _ => ?_)
  (repeat (first | refine gO (by decide) ?_ | (refine gM (mdL [(5, 1)]) fun K1 hK1 => ?_; simp only [go_sem, ↓reduceIte, reduceCtorEq, nA, nB, nC, nD, nE, nF] <;> and_intros <;> first | (apply hK1; clear hK1 K1) | (intros; first | omega | decide | (simp_all <;> omega)) | skip)))
  intro q hq
  and_intros <;> first | (refine hK1 _ ?_; clear hK1 K1) | exact .inl trivial | exact .inr rfl | exact .inr True.intro | exact True.intro | omega
  (repeat (first | refine gO (by decide) ?_ | (refine gM (mdL [(5, 1)]) fun K1 hK1 => ?_; simp only [go_sem, ↓reduceIte, reduceCtorEq, nA, nB, nC, nD, nE, nF] <;> and_intros <;> first | (apply hK1; clear hK1 K1) | (intros; first | omega | decide | (simp_all <;> omega)) | skip)))
  simp only [Tryz.results68, go_sem, ↓reduceIte, reduceCtorEq, nA, nB, nC, nD, nE, nF]
  exact ⟨_, _, Weak.refl _, Hp.le.refl _, q, hq, rfl, rfl⟩
theorem g_clI0 (k : Option Nat) (h : Hp) : ACalls Tryz.prog 68 [.row 1 [] k] h (fun r h' => r = .row 1 [] none ∧ h' = h) := by
  refine ACalls.gup (R := fun r h' => r = .row 1 [] none ∧ h' = h ∨ ∃ q, h.T q = none ∧ r = .arr 1 q 0 ∧ h' = { h with T := upd h.T q (some (.cont 1 [])) }) ?_ ?_
  · refine gE Tryz.func68 rfl (by kernel_rfl) 7 rfl fun c => ?_
    have fin2 : ∀ q, h.T q = none → ∃ r' h', Weak (.arr 1 q 0) r' ∧ Hp.le h' ⟨h.H, upd h.T q (some (.cont 1 []))⟩ ∧ (r' = .row 1 [] none ∧ h' = h ∨ ∃ q, h.T q = none ∧ r' = .arr 1 q 0 ∧ h' = { h with T := upd h.T q (some (.cont 1 [])) }) :=
      fun q hq => ⟨_, _, Weak.refl _, Hp.le.refl _, .inr ⟨q, hq, rfl, rfl⟩⟩
    refine awp_nilRow 0 1 rfl ?_ (fun g o n => ?_) (fun a => ?_)
    · (repeat (first | refine gO (by decide) ?_ | (refine gM (mdL [(5, 1)]) fun K1 hK1 => ?_; simp only [go_sem, ↓reduceIte, reduceCtorEq, nA, nB, nC, nD, nE, nF] <;> and_intros <;> first | (apply hK1; clear hK1 K1) | (intros; first | omega | decide | (simp_all <;> omega)) | skip)))
      refine awp_cond (t := _) rfl (fun _ => ?_) (fun h1 => by cases h1)
      (repeat (first | refine gO (by decide) ?_ | (refine gM (mdL [(5, 1)]) fun K1 hK1 => ?_; simp only [go_sem, ↓reduceIte, reduceCtorEq, nA, nB, nC, nD, nE, nF] <;> and_intros <;> first | (apply hK1; clear hK1 K1) | (intros; first | omega | decide | (simp_all <;> omega)) | skip)))
      simp only [Tryz.results68, go_sem, ↓reduceIte, reduceCtorEq, nA, nB, nC, nD, nE, nF]
      exact ⟨_, _, Weak.nil 1 0 0 ⟨rfl, rfl⟩, Hp.le.refl _, .inl ⟨rfl, rfl⟩⟩
    · (repeat (first | refine gO (by decide) ?_ | (refine gM (mdL [(5, 1)]) fun K1 hK1 => ?_; simp only [go_sem, ↓reduceIte, reduceCtorEq, nA, nB, nC, nD, nE, nF] <;> and_intros <;> first | (apply hK1; clear hK1 K1) | (intros; first | omega | decide | (simp_all <;> omega)) | skip)))
      refine awp_cond (t := _) rfl (fun h1 => by cases h1) (fun _ => ?_)
      (repeat (first | refine gO (by decide) ?_ | (refine gM (mdL [(5, 1)]) fun K1 hK1 => ?_; simp only [go_sem, ↓reduceIte, reduceCtorEq, nA, nB, nC, nD, nE, nF] <;> and_intros <;> first | (apply hK1; clear hK1 K1) | (intros; first | omega | decide | (simp_all <;> omega)) | skip)))
      intro q hq
      and_intros <;> first | (refine hK1 _ ?_; clear hK1 K1) | exact .inl trivial | exact .inr rfl | exact .inr True.intro | exact True.intro | omega
      (repeat (first | refine gO (by decide) ?_ | (refine gM (mdL [(5, 1)]) fun K1 hK1 => ?_; simp only [go_sem, ↓reduceIte, reduceCtorEq, nA, nB, nC, nD, nE, nF] <;> and_intros <;> first | (apply hK1; clear hK1 K1) | (intros; first | omega | decide | (simp_all <;> omega)) | skip)))
      simp only [Tryz.results68, go_sem, ↓reduceIte, reduceCtorEq, nA, nB, nC, nD, nE, nF]
      exact fin2 q hq
    · (repeat (first | refine gO (by decide) ?_ | (refine gM (mdL [(5, 1)]) fun K1 hK1 => ?_; simp only [go_sem, ↓reduceIte, reduceCtorEq, nA, nB, nC, nD, nE, nF] <;> and_intros <;> first | (apply hK1; clear hK1 K1) | (intros; first | omega | decide | (simp_all <;> omega)) | skip)))
      refine awp_cond (t := _) rfl (fun h1 => by cases h1) (fun _ => ?_)
      (repeat (first | refine gO (by decide) ?_ | (refine gM (mdL [(5, 1)]) fun K1 hK1 => ?_; simp only [go_sem, ↓reduceIte, reduceCtorEq, nA, nB, nC, nD, nE, nF] <;> and_intros <;> first | (apply hK1; clear hK1 K1) | (intros; first | omega | decide | (simp_all <;> omega)) | skip)))
      intro q hq
      and_intros <;> first | (refine hK1 _ ?_; clear hK1 K1) | exact .inl trivial | exact .inr rfl | exact .inr True.intro | exact True.intro | omega
      (repeat (first | refine gO (by decide) ?_ | (refine gM (mdL [(5, 1)]) fun K1 hK1 => ?_; simp only [go_sem, ↓reduceIte, reduceCtorEq, nA, nB, nC, nD, nE, nF] <;> and_intros <;> first | (apply hK1; clear hK1 K1) | (intros; first | omega | decide | (simp_all <;> omega)) | skip)))
      simp only [Tryz.results68, go_sem, ↓reduceIte, reduceCtorEq, nA, nB, nC, nD, nE, nF]
      exact fin2 q hq
  · rintro r h' G w v (⟨rfl, rfl⟩ | ⟨q, hq, rfl, rfl⟩) hs hr
    · exact ⟨_, _, G, ⟨rfl, rfl⟩, GLe.refl _, Fr.refl _ _ _, hs, hr⟩
    · obtain ⟨G', hle, hfr, hs2, hfz⟩ := hs.freeze (h2 := h) (fun j => j = q) rfl (fun j hj => by subst hj; exact hq) (fun j hj => (upd_other _ _ hj).symm)
      exact ⟨_, _, G', ⟨rfl, rfl⟩, hle, hfr, hs2, hfz q 1 [] v rfl (upd_same _ _ _) hr [] rfl (by simp) fun us hus => hus.mono hle⟩
theorem g_clL (x : List AV) (xs : List (List AV)) (k : Option Nat) (h : Hp) (hb : xs.length ≤ 1000) : ACalls Tryz.prog 117 [.row 6 (x :: xs) k] h (fun r h' => ∃ q, h.T q = none ∧ r = .arr 6 q (xs.length + 1) ∧ h' = { h with T := upd h.T q (some (.cont 6 (x :: xs))) }) := by
  refine gE Tryz.func117 rfl (by kernel_rfl) 7 rfl fun c => ?_
  (repeat (first | refine gO (by decide) ?_ | (refine gM (mdL [(5, 1)]) fun K1 hK1 => ?_; simp only [go_sem, ↓reduceIte, reduceCtorEq, nA, nB, nC, nD, nE, nF] <;> and_intros <;> first | (apply hK1; clear hK1 K1) | (intros; first | omega | decide | (simp_all <;> omega)) | skip)))
  refine awp_cond (t := _) rfl (fun h1 => by cases h1) (fun _ => ?_)
  (repeat (first | refine gO (by decide) ?_ | (refine gM (mdL [(5, 1)]) fun K1 hK1 => ?_; simp only [go_sem, ↓reduceIte, reduceCtorEq, nA, nB, nC, nD, nE, nF] <;> and_intros <;> first | (apply hK1; clear hK1 K1) | (intros; first | omega | decide | (simp_all <;> omega)) | skip)))
  intro q hq
  and_intros <;> first | (refine hK1 _ ?_; clear hK1 K1) | exact .inl trivial | exact .inr rfl | exact .inr True.intro | exact True.intro | omega
  (repeat (first | refine gO (by decide) ?_ | (refine gM (mdL [(5, 1)]) fun K1 hK1 => ?_; simp only [go_sem, ↓reduceIte, reduceCtorEq, nA, nB, nC, nD, nE, nF] <;> and_intros <;> first | (apply hK1; clear hK1 K1) | (intros; first | omega | decide | (simp_all <;> omega)) | skip)))
  simp only [Tryz.results117, go_sem, ↓reduceIte, reduceCtorEq, nA, nB, nC, nD, nE, nF]
  exact ⟨_, _, Weak.refl _, Hp.le.refl _, q, hq, rfl, rfl⟩
theorem g_clL0 (k : Option Nat) (h : Hp) : ACalls Tryz.prog 117 [.row 6 [] k] h (fun r h' => r = .row 6 [] none ∧ h' = h) := by
  refine ACalls.gup (R := fun r h' => r = .row 6 [] none ∧ h' = h ∨ ∃ q, h.T q = none ∧ r = .arr 6 q 0 ∧ h' = { h with T := upd h.T q (some (.cont 6 [])) }) ?_ ?_
  · refine gE Tryz.func117 rfl (by kernel_rfl) 7 rfl fun c => ?_
    have fin2 : ∀ q, h.T q = none → ∃ r' h', Weak (.arr 6 q 0) r' ∧ Hp.le h' ⟨h.H, upd h.T q (some (.cont 6 []))⟩ ∧ (r' = .row 6 [] none ∧ h' = h ∨ ∃ q, h.T q = none ∧ r' = .arr 6 q 0 ∧ h' = { h with T := upd h.T q (some (.cont 6 [])) }) :=
      fun q hq => ⟨_, _, Weak.refl _, Hp.le.refl _, .inr ⟨q, hq, rfl, rfl⟩⟩
    refine awp_nilRow 0 6 rfl ?_ (fun g o n => ?_) (fun a => ?_)
    · (repeat (first | refine gO (by decide) ?_ | (refine gM (mdL [(5, 1)]) fun K1 hK1 => ?_; simp only [go_sem, ↓reduceIte, reduceCtorEq, nA, nB, nC, nD, nE, nF] <;> and_intros <;> first | (apply hK1; clear hK1 K1) | (intros; first | omega | decide | (simp_all <;> omega)) | skip)))
      refine awp_cond (t := _) rfl (fun _ => ?_) (fun h1 => by cases h1)
      (repeat (first | refine gO (by decide) ?_ | (refine gM (mdL [(5, 1)]) fun K1 hK1 => ?_; simp only [go_sem, ↓reduceIte, reduceCtorEq, nA, nB, nC, nD, nE, nF] <;> and_intros <;> first | (apply hK1; clear hK1 K1) | (intros; first | omega | decide | (simp_all <;> omega)) | skip)))
      simp only [Tryz.results117, go_sem, ↓reduceIte, reduceCtorEq, nA, nB, nC, nD, nE, nF]
      exact ⟨_, _, Weak.nil 6 0 0 ⟨rfl, rfl⟩, Hp.le.refl _, .inl ⟨rfl, rfl⟩⟩
    · (repeat (first | refine gO (by decide) ?_ | (refine gM (mdL [(5, 1)]) fun K1 hK1 => ?_; simp only [go_sem, ↓reduceIte, reduceCtorEq, nA, nB, nC, nD, nE, nF] <;> and_intros <;> first | (apply hK1; clear hK1 K1) | (intros; first | omega | decide | (simp_all <;> omega)) | skip)))
      refine awp_cond (t := _) rfl (fun h1 => by cases h1) (fun _ => ?_)
      (repeat (first | refine gO (by decide) ?_ | (refine gM (mdL [(5, 1)]) fun K1 hK1 => ?_; simp only [go_sem, ↓reduceIte, reduceCtorEq, nA, nB, nC, nD, nE, nF] <;> and_intros <;> first | (apply hK1; clear hK1 K1) | (intros; first | omega | decide | (simp_all <;> omega)) | skip)))
      intro q hq
      and_intros <;> first | (refine hK1 _ ?_; clear hK1 K1) | exact .inl trivial | exact .inr rfl | exact .inr True.intro | exact True.intro | omega
      (repeat (first | refine gO (by decide) ?_ | (refine gM (mdL [(5, 1)]) fun K1 hK1 => ?_; simp only [go_sem, ↓reduceIte, reduceCtorEq, nA, nB, nC, nD, nE, nF] <;> and_intros <;> first | (apply hK1; clear hK1 K1) | (intros; first | omega | decide | (simp_all <;> omega)) | skip)))
      simp only [Tryz.results117, go_sem, ↓reduceIte, reduceCtorEq, nA, nB, nC, nD, nE, nF]
      exact fin2 q hq
    · (repeat (first | refine gO (by decide) ?_ | (refine gM (mdL [(5, 1)]) fun K1 hK1 => ?_; simp only [go_sem, ↓reduceIte, reduceCtorEq, nA, nB, nC, nD, nE, nF] <;> and_intros <;> first | (apply hK1; clear hK1 K1) | (intros; first | omega | decide | (simp_all <;> omega)) | skip)))
      refine awp_cond (t := _) rfl (fun h1 => by cases h1) (fun _ => ?_)
      (repeat (first | refine gO (by decide) ?_ | (refine gM (mdL [(5, 1)]) fun K1 hK1 => ?_; simp only [go_sem, ↓reduceIte, reduceCtorEq, nA, nB, nC, nD, nE, nF] <;> and_intros <;> first | (apply hK1; clear hK1 K1) | (intros; first | omega | decide | (simp_all <;> omega)) | skip)))
      intro q hq
      and_intros <;> first | (refine hK1 _ ?_; clear hK1 K1) | exact .inl trivial | exact .inr rfl | exact .inr True.intro | exact True.intro | omega
      (repeat (first | refine gO (by decide) ?_ | (refine gM (mdL [(5, 1)]) fun K1 hK1 => ?_; simp only [go_sem, ↓reduceIte, reduceCtorEq, nA, nB, nC, nD, nE, nF] <;> and_intros <;> first | (apply hK1; clear hK1 K1) | (intros; first | omega | decide | (simp_all <;> omega)) | skip)))
      simp only [Tryz.results117, go_sem, ↓reduceIte, reduceCtorEq, nA, nB, nC, nD, nE, nF]
      exact fin2 q hq
  · rintro r h' G w v (⟨rfl, rfl⟩ | ⟨q, hq, rfl, rfl⟩) hs hr
    · exact ⟨_, _, G, ⟨rfl, rfl⟩, GLe.refl _, Fr.refl _ _ _, hs, hr⟩
    · obtain ⟨G', hle, hfr, hs2, hfz⟩ := hs.freeze (h2 := h) (fun j => j = q) rfl (fun j hj => by subst hj; exact hq) (fun j hj => (upd_other _ _ hj).symm)
      exact ⟨_, _, G', ⟨rfl, rfl⟩, hle, hfr, hs2, hfz q 6 [] v rfl (upd_same _ _ _) hr [] rfl (by simp) fun us hus => hus.mono hle⟩
theorem g_clIs (l : List Int) (k : Option Nat) (h : Hp) (hne : l ≠ []) (hb : l.length ≤ 1000) : ACalls Tryz.prog 68 [.row 1 (l.map encI) k] h (fun r h' => ∃ q, h.T q = none ∧ r = .arr 1 q l.length ∧ h' = { h with T := upd h.T q (some (.cont 1 (l.map encI))) }) := by
  cases l with
  | nil => exact absurd rfl hne
  | cons x l => simpa using g_clI (encI x) (l.map encI) k h (by simp at hb ⊢; omega)
theorem g_clLs (l : List LT) (k : Option Nat) (h : Hp) (hne : l ≠ []) (hb : l.length ≤ 1000) : ACalls Tryz.prog 117 [.row 6 (l.map encL) k] h (fun r h' => ∃ q, h.T q = none ∧ r = .arr 6 q l.length ∧ h' = { h with T := upd h.T q (some (.cont 6 (l.map encL))) }) := by
  cases l with
  | nil => exact absurd rfl hne
  | cons x l => simpa using g_clL (encL x) (l.map encL) k h (by simp at hb ⊢; omega)
theorem upd_noneA {α : Type} {f : Nat → Option α} {q : Nat} {x : Option α} (h : f q = none) : upd (upd f q x) q none = f := by
  funext j
  by_cases e : j = q
  · subst e; rw [upd_same, h]
  · rw [upd_other _ _ e, upd_other _ _ e]
open Go
set_option linter.unusedVariables false
set_option linter.unusedSimpArgs false
open Nat renaming reduceAdd → nA, reduceSub → nB, reduceMul → nC, reduceLT → nD, reduceLeDiff → nE, reduceEqDiff → nF
abbrev pSChgP4_129_4E : List Nat := [0, 1, 2, 3, 4, 5, 6, 7, 8, 9, 10, 11, 12, 13, 14, 15, 16, 17, 18, 19, 20, 21, 22]
abbrev pSChgP4_129_4P : List (Nat × List Nat × List Nat) := []
abbrev pSChgP4_129_5E : List Nat := [0, 1, 2, 3, 4, 5, 6, 7, 8, 9, 10, 11, 12, 13]
abbrev pSChgP4_129_5P : List (Nat × List Nat × List Nat) := [(14, [], [15])]
abbrev pSChgP4_129_7E : List Nat := [0, 1, 2, 3, 4, 5, 6]
abbrev pSChgP4_129_7P : List (Nat × List Nat × List Nat) := [(7, [5], [8])]
attribute [go_sem] pSChgP4_129_4E pSChgP4_129_4P pSChgP4_129_5E pSChgP4_129_5P pSChgP4_129_7E pSChgP4_129_7P
set_option maxRecDepth 100000
set_option maxHeartbeats 8000000
def divTo (g : Nat) (l : List Int) (j : Nat) : List Int := (l.take j).map (fun x => x / (g : Int)) ++ l.drop j
theorem divTo_len (g : Nat) (l : List Int) (j : Nat) : (divTo g l j).length = l.length := by simp [divTo]; omega
theorem divTo_at (g : Nat) (l : List Int) (j : Nat) (h : j < l.length) : (divTo g l j).getD j 0 = l.getD j 0 := by
  rw [divTo, List.getD_eq_getElem?_getD, List.getD_eq_getElem?_getD, List.getElem?_append_right (by simp; omega), List.getElem?_drop]
  simp only [List.length_map, List.length_take]
  congr 2; omega
theorem divTo_set (g : Nat) (l : List Int) (j : Nat) (h : j < l.length) : (divTo g l j).set j (l.getD j 0 / (g : Int)) = divTo g l (j + 1) := by
  refine List.ext_getElem? fun i => ?_
  rw [List.getElem?_set]
  simp only [divTo_len]
  split
  · rename_i e
    subst e
    rw [divTo, List.getElem?_append_left (by simp; omega), List.getElem?_map, List.getElem?_take, if_pos (by omega), List.getElem?_eq_getElem h, List.getD_eq_getElem?_getD, List.getElem?_eq_getElem h]; rfl
  · rename_i hne
    unfold divTo
    rcases Nat.lt_or_ge i j with hlt | hge
    · rw [List.getElem?_append_left (by simp; omega), List.getElem?_append_left (by simp; omega), List.getElem?_map, List.getElem?_map, List.getElem?_take, List.getElem?_take, if_pos hlt, if_pos (by omega)]
    · rw [List.getElem?_append_right (by simp; omega), List.getElem?_append_right (by simp; omega), List.getElem?_drop, List.getElem?_drop]
      congr 1; simp; omega
theorem divTo_all (g : Nat) (l : List Int) : divTo g l l.length = divI g l := by simp [divTo, divI]
theorem map_set_encI (l : List Int) (j : Nat) (x : Int) : (l.map encI).set j [.v (.int .i64 x)] = (l.set j x).map encI := by
  rw [List.map_set]; rfl
theorem gcdI_le {l : List Int} (h : ∀ x ∈ l, 1 ≤ x ∧ x ≤ 1000) : gcdI l ≤ 1000 := by rw [← gcdTo_all]; exact gcdTo_le l h _ (Nat.le_refl _)
theorem g_chgP4 (item : ByteArray) (long many : Int) (kids : List LT) (shares : List Int) (h : Hp) (hw : WF (.mk 4 item long many kids shares)) (hl : lv (.mk 4 item long many kids shares) ≤ 1000) (h1 : kids.length ≠ 1) :
    ACalls Tryz.prog 129 [.agg (encL (.mk 4 item long many kids shares))] h (ChgR (.mk 4 item long many kids shares) h) := by
  have hkl := ks_len hw
  simp only [LT.ks] at hkl
  obtain ⟨w1, w2, w3, w4, w5, w6, w7, w8, w9, w10⟩ := (WF_eq ..).mp hw
  have hsl := w6 rfl
  have hkp : 0 < kids.length := List.length_pos_iff.2 (w3 (by decide)).2.2
  have hst := stepT_mk 4 item long many kids shares
  rw [if_neg (by decide), if_neg (by decide), if_neg h1, if_neg (by decide), if_pos rfl] at hst
  have hne : shares ≠ [] := fun e => by rw [e] at hsl; simp at hsl; omega
  have hgp := gcdI_pos (fun x hx => (w8 x hx).1) hne
  have hgl := gcdI_le w8
  have hdv := g_divisorP shares h (by omega) w8
  have hcl := g_clIs shares none h hne (by omega)
  have eone : ((kids.length : Int) == 1) = false := by simp; omega
  have fin : ∀ g : Nat, g = gcdI shares → ∃ u, AV.tup [.agg [.v (.int .i64 4), .v (.string item), .v (.int .i64 long), .v (.int .i64 many), .row 6 (kids.map encL) none, .row 1 ((divI (gcdI shares) shares).map encI) none], .v (.bool (decide ((1 : Int) < (g : Nat))))] = .tup [.agg (encL u), .v (.bool (stepT (.mk 4 item long many kids shares)).isSome)] ∧ (∀ v, stepT (.mk 4 item long many kids shares) = some v → u = v) ∧ h = h := fun g e => by
    refine ⟨.mk 4 item long many kids (divI (gcdI shares) shares), ?_, fun v hv => ?_, rfl⟩
    · rw [hst, encL_eq, e]
      split
      · rename_i h9
        have : decide ((1 : Int) < (gcdI shares : Nat)) = true := by simp; omega
        rw [this]; rfl
      · rename_i h9
        have : decide ((1 : Int) < (gcdI shares : Nat)) = false := by simp; omega
        rw [this]; rfl
    · rw [hst] at hv
      split at hv
      · cases hv; rfl
      · cases hv
  rw [encL_eq]
  generalize hG : gcdI shares = gg at *
  obtain ⟨x, xs, rfl⟩ := List.exists_cons_of_ne_nil (show kids ≠ [] by intro e; rw [e] at hkp; simp at hkp)
  cases x with
  | mk k2 i2 l2 m2' ks2 s2 =>
  simp only [List.length_cons] at eone
  have hKK : (LT.mk k2 i2 l2 m2' ks2 s2 :: xs).map encL = ([.v (.int .i64 k2), .v (.string i2), .v (.int .i64 l2), .v (.int .i64 m2'), .row 6 (ks2.map encL) none, .row 1 (s2.map encI) none] :: xs.map encL) := by rw [List.map_cons, encL_eq]
  rw [hKK] at fin ⊢
  refine gE Tryz.func129 rfl (by kernel_rfl) 124 rfl fun c => ?_
  (repeat' (first | refine gO (by decide) ?_ | ((first | refine gM (mdL [(1, 1), (2, 1)]) ?_ | (with_reducible refine wM ?_ ?_) | ((with_reducible refine xS ?_); refine uD 4 (mdL [(1, 1), (2, 1)]) pSChgP4_129_4E pSChgP4_129_4P 125 rfl (by kernel_rfl) ?_) | ((with_reducible refine xS ?_); refine uD 5 (mdL [(1, 1), (2, 1)]) pSChgP4_129_5E pSChgP4_129_5P 125 rfl (by kernel_rfl) ?_) | ((with_reducible refine xS ?_); refine uD 7 (mdL [(1, 1), (2, 1)]) pSChgP4_129_7E pSChgP4_129_7P 125 rfl (by kernel_rfl) ?_)) <;> ((try with_reducible intro K1 hK1); simp only [go_sem, ↓reduceIte, reduceCtorEq, nA, nB, nC, nD, nE, nF, eone, Int.toNat_zero, List.length_map] <;> and_intros <;> first | (apply hK1; clear hK1 K1) | (intros; first | omega | decide | (simp_all <;> omega)) | skip)) | (refine awp_cond (t := _) rfl (fun hcnd => ?_) (fun hcnd => ?_) <;> first | (cases hcnd; done) | (simp only [hcnd]) | skip)))
  refine hdv.mono ?_; rintro _ hz ⟨rfl, hh⟩; apply hK1; clear hK1 K1; rw [hh]; clear hh hz
  (repeat' (first | refine gO (by decide) ?_ | ((first | refine gM (mdL [(1, 1), (2, 1)]) ?_ | (with_reducible refine wM ?_ ?_) | ((with_reducible refine xS ?_); refine uD 4 (mdL [(1, 1), (2, 1)]) pSChgP4_129_4E pSChgP4_129_4P 125 rfl (by kernel_rfl) ?_) | ((with_reducible refine xS ?_); refine uD 5 (mdL [(1, 1), (2, 1)]) pSChgP4_129_5E pSChgP4_129_5P 125 rfl (by kernel_rfl) ?_) | ((with_reducible refine xS ?_); refine uD 7 (mdL [(1, 1), (2, 1)]) pSChgP4_129_7E pSChgP4_129_7P 125 rfl (by kernel_rfl) ?_)) <;> ((try with_reducible intro K1 hK1); simp only [go_sem, ↓reduceIte, reduceCtorEq, nA, nB, nC, nD, nE, nF, eone, Int.toNat_zero, List.length_map] <;> and_intros <;> first | (apply hK1; clear hK1 K1) | (intros; first | omega | decide | (simp_all <;> omega)) | skip)) | (refine awp_cond (t := _) rfl (fun hcnd => ?_) (fun hcnd => ?_) <;> first | (cases hcnd; done) | (simp only [hcnd]) | skip)))
  refine hcl.mono ?_; rintro _ _ ⟨q, hq, rfl, rfl⟩; apply hK1; clear hK1 K1
  (repeat (first | refine gO (by decide) ?_ | ((first | refine gM (mdL [(1, 1), (2, 1)]) ?_ | (with_reducible refine wM ?_ ?_) | ((with_reducible refine xS ?_); refine uD 4 (mdL [(1, 1), (2, 1)]) pSChgP4_129_4E pSChgP4_129_4P 125 rfl (by kernel_rfl) ?_) | ((with_reducible refine xS ?_); refine uD 5 (mdL [(1, 1), (2, 1)]) pSChgP4_129_5E pSChgP4_129_5P 125 rfl (by kernel_rfl) ?_) | ((with_reducible refine xS ?_); refine uD 7 (mdL [(1, 1), (2, 1)]) pSChgP4_129_7E pSChgP4_129_7P 125 rfl (by kernel_rfl) ?_)) <;> ((try with_reducible intro K1 hK1); simp only [go_sem, ↓reduceIte, reduceCtorEq, nA, nB, nC, nD, nE, nF] <;> and_intros <;> first | (apply hK1; clear hK1 K1) | (intros; first | omega | decide | (simp_all <;> omega)) | skip))))
  refine awp_loopC (rl false [1, 2, 3, 1, 92, 2, 24]) 2 (fun g s => ∃ j : Nat, g + j = shares.length ∧
    s = ⟨(AV.junk :: ((.loc 0 0) :: (.loc 1 0) :: (jnk 3 ((.v (.int .i64 (gg : Nat))) :: (jnk 92 ((.v (.int .i64 shares.length)) :: (.v (.int .i64 j)) :: (jnk 24 []))))))),
      [[.v (.int .i64 4), .v (.string item), .v (.int .i64 long), .v (.int .i64 many), .row 6 ([.v (.int .i64 k2), .v (.string i2), .v (.int .i64 l2), .v (.int .i64 m2'), .row 6 (ks2.map encL) none, .row 1 (s2.map encI) none] :: xs.map encL) none, .arr 1 q shares.length], [.v (.int .i64 0), .v (.string ⟨#[]⟩), .v (.int .i64 0), .v (.int .i64 0), .v (.slice none 0 0), .v (.slice none 0 0)]], ⟨h.H, upd h.T q (some (.cont 1 ((divTo gg shares j).map encI)))⟩⟩) shares.length ⟨0, by omega, rfl⟩ ?_
  rintro g _ ⟨j, hj, rfl⟩
  obtain ⟨ys, hys⟩ : ∃ ys, ys = (divTo gg shares j).map encI := ⟨_, rfl⟩
  rw [← hys]
  have hyl : ys.length = shares.length := by rw [hys, List.length_map, divTo_len]
  have hTq : upd h.T q (some (TO.cont 1 ys)) q = some (.cont 1 ys) := upd_same _ _ _
  (repeat (first | refine gO (by decide) ?_ | ((first | refine gM (mdL [(1, 1), (2, 1)]) ?_ | (with_reducible refine wM ?_ ?_) | ((with_reducible refine xS ?_); refine uD 4 (mdL [(1, 1), (2, 1)]) pSChgP4_129_4E pSChgP4_129_4P 125 rfl (by kernel_rfl) ?_) | ((with_reducible refine xS ?_); refine uD 5 (mdL [(1, 1), (2, 1)]) pSChgP4_129_5E pSChgP4_129_5P 125 rfl (by kernel_rfl) ?_) | ((with_reducible refine xS ?_); refine uD 7 (mdL [(1, 1), (2, 1)]) pSChgP4_129_7E pSChgP4_129_7P 125 rfl (by kernel_rfl) ?_)) <;> ((try with_reducible intro K1 hK1); simp only [go_sem, ↓reduceIte, reduceCtorEq, nA, nB, nC, nD, nE, nF] <;> and_intros <;> first | (apply hK1; clear hK1 K1) | (intros; first | omega | decide | (simp_all <;> omega)) | skip))))
  refine awp_cond (t := _) rfl (fun h9 => ?_) (fun h9 => ?_)
  · simp only [decide_eq_true_eq] at h9
    have hjl : j < shares.length := by omega
    have hgy : ys.getD j [] = [.v (.int .i64 (shares.getD j 0))] := by
      rw [hys, getD_enc encI _ j 0 (by rw [divTo_len]; exact hjl), divTo_at _ _ _ hjl]; rfl
    have hset := divTo_set gg shares j hjl
    have hxb := w8 _ (getD_mem' shares j 0 hjl)
    generalize shares.getD j 0 = x at *
    have hq2 : x.tdiv (gg : Int) = x / (gg : Int) := Int.tdiv_eq_ediv_of_nonneg (by omega)
    have hq3 : 0 ≤ x / (gg : Int) ∧ x / (gg : Int) ≤ x := ⟨Int.ediv_nonneg (by omega) (by omega), Int.ediv_le_self _ (by omega)⟩
    (repeat (first | refine gO (by decide) ?_ | ((first | refine gM (mdL [(1, 1), (2, 1)]) ?_ | (with_reducible refine wM ?_ ?_) | ((with_reducible refine xS ?_); refine uD 4 (mdL [(1, 1), (2, 1)]) pSChgP4_129_4E pSChgP4_129_4P 125 rfl (by kernel_rfl) ?_) | ((with_reducible refine xS ?_); refine uD 5 (mdL [(1, 1), (2, 1)]) pSChgP4_129_5E pSChgP4_129_5P 125 rfl (by kernel_rfl) ?_) | ((with_reducible refine xS ?_); refine uD 7 (mdL [(1, 1), (2, 1)]) pSChgP4_129_7E pSChgP4_129_7P 125 rfl (by kernel_rfl) ?_)) <;> ((try with_reducible intro K1 hK1); simp only [go_sem, ↓reduceIte, reduceCtorEq, nA, nB, nC, nD, nE, nF, Int.toNat_natCast, hTq, hyl, hgy, hq2] <;> and_intros <;> first | (apply hK1; clear hK1 K1) | (intros; first | omega | decide | (simp_all <;> omega)) | skip))))
    refine ⟨g - 1, by omega, j + 1, by omega, ?_⟩
    rw [← hset, ← map_set_encI, ← hys]; rfl
  · simp only [decide_eq_false_iff_not] at h9
    have hjl : j = shares.length := by omega
    subst hjl
    rw [divTo_all] at hys
    refine awp_frzLoc 0 5 q 1 (xs := ys) rfl (by rw [hyl]; rfl) hTq (fun y hy => by rw [hys] at hy; obtain ⟨_, _, rfl⟩ := List.mem_map.1 hy; rfl) ?_
    simp only [upd_upd, upd_noneA hq, List.set_cons_zero, List.set_cons_succ]
    (repeat (first | refine gO (by decide) ?_ | ((first | refine gM (mdL [(1, 1), (2, 1)]) ?_ | (with_reducible refine wM ?_ ?_) | ((with_reducible refine xS ?_); refine uD 4 (mdL [(1, 1), (2, 1)]) pSChgP4_129_4E pSChgP4_129_4P 125 rfl (by kernel_rfl) ?_) | ((with_reducible refine xS ?_); refine uD 5 (mdL [(1, 1), (2, 1)]) pSChgP4_129_5E pSChgP4_129_5P 125 rfl (by kernel_rfl) ?_) | ((with_reducible refine xS ?_); refine uD 7 (mdL [(1, 1), (2, 1)]) pSChgP4_129_7E pSChgP4_129_7P 125 rfl (by kernel_rfl) ?_)) <;> ((try with_reducible intro K1 hK1); simp only [go_sem, ↓reduceIte, reduceCtorEq, nA, nB, nC, nD, nE, nF] <;> and_intros <;> first | (apply hK1; clear hK1 K1) | (intros; first | omega | decide | (simp_all <;> omega)) | skip))))
    simp only [Tryz.results129, go_sem, ↓reduceIte, reduceCtorEq, nA, nB, nC, nD, nE, nF]
    subst hys
    exact ⟨_, _, Weak.refl _, Hp.le.refl _, fin gg rfl⟩
theorem g_chgP (t : LT) (h : Hp) (hw : WF t) (hl : lv t ≤ 1000) : ACalls Tryz.prog 129 [.agg (encL t)] h (ChgR t h) := by
  by_cases h4 : t.kd ≠ 4 ∨ t.ks.length = 1
  · exact g_chgP0 t h hw hl h4
  · cases t with
    | mk kind item long many kids shares =>
      simp only [LT.kd, LT.ks, not_or, Decidable.not_not] at h4
      obtain ⟨rfl, h5⟩ := h4
      exact g_chgP4 item long many kids shares h hw hl h5
abbrev pSLeast_72_5E : List Nat := [0, 1, 2, 3]
abbrev pSLeast_72_5P : List (Nat × List Nat × List Nat) := [(4, [1], [5]), (6, [], [])]
attribute [go_sem] pSLeast_72_5E pSLeast_72_5P
def mapTo (f : LT → LT) (l : List LT) (j : Nat) : List LT := (l.take j).map f ++ l.drop j
theorem mapTo_len (f : LT → LT) (l : List LT) (j : Nat) : (mapTo f l j).length = l.length := by simp [mapTo]; omega
theorem mapTo_at (f : LT → LT) (l : List LT) (j : Nat) (h : j < l.length) : (mapTo f l j).getD j default = l.getD j default := by
  rw [mapTo, List.getD_eq_getElem?_getD, List.getD_eq_getElem?_getD, List.getElem?_append_right (by simp; omega), List.getElem?_drop]
  simp only [List.length_map, List.length_take]
  congr 2; omega
theorem mapTo_set (f : LT → LT) (l : List LT) (j : Nat) (h : j < l.length) : (mapTo f l j).set j (f (l.getD j default)) = mapTo f l (j + 1) := by
  refine List.ext_getElem? fun i => ?_
  rw [List.getElem?_set]
  simp only [mapTo_len]
  split
  · rename_i e
    subst e
    rw [mapTo, List.getElem?_append_left (by simp; omega), List.getElem?_map, List.getElem?_take, if_pos (by omega), List.getElem?_eq_getElem h, List.getD_eq_getElem?_getD, List.getElem?_eq_getElem h]; rfl
  · rename_i hne
    unfold mapTo
    rcases Nat.lt_or_ge i j with hlt | hge
    · rw [List.getElem?_append_left (by simp; omega), List.getElem?_append_left (by simp; omega), List.getElem?_map, List.getElem?_map, List.getElem?_take, List.getElem?_take, if_pos hlt, if_pos (by omega)]
    · rw [List.getElem?_append_right (by simp; omega), List.getElem?_append_right (by simp; omega), List.getElem?_drop, List.getElem?_drop]
      congr 1; simp; omega
theorem mapTo_all (f : LT → LT) (l : List LT) : mapTo f l l.length = l.map f := by simp [mapTo]
def z28' : List AV := [.v (.int .i64 0), .v (.string ⟨#[]⟩), .v (.int .i64 0), .v (.int .i64 0), .v (.slice none 0 0), .v (.slice none 0 0)]
theorem one_row (z : Nat) (xs : List (List AV)) (k : Option Nat) : OneV (.row z xs k) := ⟨rfl, rfl, rfl, rfl, rfl⟩
theorem one_arr (z k n : Nat) : OneV (.arr z k n) := ⟨rfl, rfl, rfl, rfl, rfl⟩
def ClK (kids : List LT) (h : Hp) (r : AV) (h' : Hp) : Prop := OneV r ∧ (kids = [] ∧ r = .row 6 [] none ∧ h' = h ∨ ∃ q, h.T q = none ∧ r = .arr 6 q kids.length ∧ h' = ⟨h.H, upd h.T q (some (.cont 6 (kids.map encL)))⟩ ∧ kids ≠ [])
theorem g_clK (kids : List LT) (k : Option Nat) (h : Hp) (hb : kids.length ≤ 1000) : ACalls Tryz.prog 117 [.row 6 (kids.map encL) k] h (ClK kids h) := by
  by_cases hn : kids = []
  · subst hn
    exact (g_clL0 k h).mono fun r h' ⟨e, e'⟩ => ⟨by rw [e]; exact one_row .., .inl ⟨rfl, e, e'⟩⟩
  · exact (g_clLs kids k h hn hb).mono fun r h' ⟨q, a, b, c⟩ => ⟨by rw [b]; exact one_arr .., .inr ⟨q, a, b, c, hn⟩⟩
def ClS (xs : List Int) (h : Hp) (r : AV) (h' : Hp) : Prop := OneV r ∧ (xs = [] ∧ r = .row 1 [] none ∧ h' = h ∨ ∃ q, h.T q = none ∧ r = .arr 1 q xs.length ∧ h' = ⟨h.H, upd h.T q (some (.cont 1 (xs.map encI)))⟩ ∧ xs ≠ [])
theorem g_clS (xs : List Int) (k : Option Nat) (h : Hp) (hb : xs.length ≤ 1000) : ACalls Tryz.prog 68 [.row 1 (xs.map encI) k] h (ClS xs h) := by
  by_cases hn : xs = []
  · subst hn
    exact (g_clI0 k h).mono fun r h' ⟨e, e'⟩ => ⟨by rw [e]; exact one_row .., .inl ⟨rfl, e, e'⟩⟩
  · exact (g_clIs xs k h hn hb).mono fun r h' ⟨q, a, b, c⟩ => ⟨by rw [b]; exact one_arr .., .inr ⟨q, a, b, c, hn⟩⟩
theorem map_set_encL (l : List LT) (j : Nat) (x : LT) : (l.map encL).set j (encL x) = (l.set j x).map encL := by rw [List.map_set]
theorem g_leastP (n : Nat) : ∀ (t : LT) (h : Hp), SizeOf.sizeOf t ≤ n → WF t → lv t ≤ 1000 → ACalls Tryz.prog 72 [.agg (encL t)] h (fun r h' => r = .agg (encL (leastF t)) ∧ h' = h) := by
  induction n with
  | zero =>
    rintro ⟨k, i, l, m, ks, s⟩ h hn
    rw [LT.mk.sizeOf_spec] at hn
    omega
  | succ n ih =>
    rintro ⟨kind, item, long, many, kids, shares⟩ h hn hw hl
    have hkl := ks_len hw
    simp only [LT.ks] at hkl
    have hwk : ∀ k ∈ kids, WF k := hw.kids
    have hgood := least_good hw hl
    have hih : ∀ k ∈ kids, ∀ h, ACalls Tryz.prog 72 [.agg (encL k)] h (fun r h' => r = .agg (encL (leastF k)) ∧ h' = h) := fun k hk h => ih k h (by
      have := kid_size (kind := kind) (item := item) (long := long) (many := many) (shares := shares) hk
      omega) (hwk k hk) (by have := lv_kid (t := .mk kind item long many kids shares) hk; omega)
    rw [leastF_eq]
    have hent : encL (.mk kind item long many (kids.map leastF) shares) = [.v (.int .i64 kind), .v (.string item), .v (.int .i64 long), .v (.int .i64 many), .row 6 ((kids.map leastF).map encL) none, .row 1 (shares.map encI) none] := encL_eq ..
    generalize LT.mk kind item long many (kids.map leastF) shares = t' at hgood hent ⊢
    have hcl := g_clK kids none h (by omega)
    rw [encL_eq]
    refine gE Tryz.func72 rfl (by kernel_rfl) 39 rfl fun c => ?_
    (repeat (first | refine gQ (by decide) ?_ | ((first | refine gM (mdL [(1, 1), (2, 1), (4, 1), (5, 2)]) ?_ | (with_reducible refine wM ?_ ?_) | ((with_reducible refine xR ?_); refine uE 5 (mdL [(1, 1), (2, 1), (4, 1), (5, 2)]) pSLeast_72_5E pSLeast_72_5P 40 rfl (by kernel_rfl) ?_)) <;> ((try with_reducible intro K1 hK1); simp only [go_sem, ↓reduceIte, reduceCtorEq, nA, nB, nC, nD, nE, nF] <;> and_intros <;> first | (apply hK1; clear hK1 K1) | (intros; first | omega | decide | (simp_all <;> omega)) | skip))))
    refine hcl.mono ?_
    rintro r h1 ⟨o3, hr⟩
    obtain ⟨w1, w2, w3, w4, w5⟩ := o3
    unfold uside at w1; unfold unw at w2; unfold AV.noLoc at w3; unfold isOpt at w4; simp only [AV.cellsB, Value.oneCell'] at w5
    refine hK1 _ ?_; clear hK1 K1
    (repeat (first | refine gQ (by decide) ?_ | ((first | refine gM (mdL [(1, 1), (2, 1), (4, 1), (5, 2)]) ?_ | (with_reducible refine wM ?_ ?_) | ((with_reducible refine xR ?_); refine uE 5 (mdL [(1, 1), (2, 1), (4, 1), (5, 2)]) pSLeast_72_5E pSLeast_72_5P 40 rfl (by kernel_rfl) ?_)) <;> ((try with_reducible intro K1 hK1); simp only [go_sem, ↓reduceIte, reduceCtorEq, nA, nB, nC, nD, nE, nF, w1, w2, w3, w4, w5] <;> and_intros <;> first | (apply hK1; clear hK1 K1) | (intros; first | omega | decide | (simp_all <;> omega)) | skip))))
    refine awp_seqJ (rl false [1, 2, 37]) 2 (fun s => s = ⟨(AV.junk :: ((.loc 0 0) :: (.loc 1 0) :: (jnk 37 []))), [encL t', z28'], h⟩) ?_ ?_
    · rw [hent]
      rcases hr with ⟨rfl, rfl, rfl⟩ | ⟨q, hq, rfl, rfl, hkn⟩
      · (repeat (first | refine gO (by decide) ?_ | ((first | refine gM (mdL [(1, 1), (2, 1), (4, 1), (5, 2)]) ?_ | (with_reducible refine wM ?_ ?_) | ((with_reducible refine xR ?_); refine uE 5 (mdL [(1, 1), (2, 1), (4, 1), (5, 2)]) pSLeast_72_5E pSLeast_72_5P 40 rfl (by kernel_rfl) ?_)) <;> ((try with_reducible intro K1 hK1); simp only [go_sem, ↓reduceIte, reduceCtorEq, nA, nB, nC, nD, nE, nF] <;> and_intros <;> first | (apply hK1; clear hK1 K1) | (intros; first | omega | decide | (simp_all <;> omega)) | skip))))
        refine awp_loopC (rl false [1, 2, 9, 3, 25]) 2 (fun g s => s = ⟨(AV.junk :: ((.loc 0 0) :: (.loc 1 0) :: (jnk 9 ((.row 6 [] none) :: (.v (.int .i64 0)) :: (.v (.int .i64 0)) :: (jnk 25 []))))), [[.v (.int .i64 kind), .v (.string item), .v (.int .i64 long), .v (.int .i64 many), .row 6 [] none, .row 1 (shares.map encI) none], z28'], h1⟩) 0 rfl ?_
        rintro g _ rfl
        (repeat (first | refine gO (by decide) ?_ | ((first | refine gM (mdL [(1, 1), (2, 1), (4, 1), (5, 2)]) ?_ | (with_reducible refine wM ?_ ?_) | ((with_reducible refine xR ?_); refine uE 5 (mdL [(1, 1), (2, 1), (4, 1), (5, 2)]) pSLeast_72_5E pSLeast_72_5P 40 rfl (by kernel_rfl) ?_)) <;> ((try with_reducible intro K1 hK1); simp only [go_sem, ↓reduceIte, reduceCtorEq, nA, nB, nC, nD, nE, nF] <;> and_intros <;> first | (apply hK1; clear hK1 K1) | (intros; first | omega | decide | (simp_all <;> omega)) | skip))))
        refine awp_cond (t := _) rfl (fun h9 => by cases h9) (fun h9 => ?_)
        (repeat (first | refine gO (by decide) ?_ | ((first | refine gM (mdL [(1, 1), (2, 1), (4, 1), (5, 2)]) ?_ | (with_reducible refine wM ?_ ?_) | ((with_reducible refine xR ?_); refine uE 5 (mdL [(1, 1), (2, 1), (4, 1), (5, 2)]) pSLeast_72_5E pSLeast_72_5P 40 rfl (by kernel_rfl) ?_)) <;> ((try with_reducible intro K1 hK1); simp only [go_sem, ↓reduceIte, reduceCtorEq, nA, nB, nC, nD, nE, nF] <;> and_intros <;> first | (apply hK1; clear hK1 K1) | (intros; first | omega | decide | (simp_all <;> omega)) | skip))))
        rfl
      · (repeat (first | refine gO (by decide) ?_ | ((first | refine gM (mdL [(1, 1), (2, 1), (4, 1), (5, 2)]) ?_ | (with_reducible refine wM ?_ ?_) | ((with_reducible refine xR ?_); refine uE 5 (mdL [(1, 1), (2, 1), (4, 1), (5, 2)]) pSLeast_72_5E pSLeast_72_5P 40 rfl (by kernel_rfl) ?_)) <;> ((try with_reducible intro K1 hK1); simp only [go_sem, ↓reduceIte, reduceCtorEq, nA, nB, nC, nD, nE, nF] <;> and_intros <;> first | (apply hK1; clear hK1 K1) | (intros; first | omega | decide | (simp_all <;> omega)) | skip))))
        refine awp_loopC (rl false [1, 2, 9, 3, 25]) 2 (fun g s => ∃ j : Nat, g + j = kids.length ∧
          s = ⟨(AV.junk :: ((.loc 0 0) :: (.loc 1 0) :: (jnk 9 ((.arr 6 q kids.length) :: (.v (.int .i64 kids.length)) :: (.v (.int .i64 j)) :: (jnk 25 []))))),
            [[.v (.int .i64 kind), .v (.string item), .v (.int .i64 long), .v (.int .i64 many), .arr 6 q kids.length, .row 1 (shares.map encI) none], z28'], ⟨h.H, upd h.T q (some (.cont 6 ((mapTo leastF kids j).map encL)))⟩⟩) kids.length ⟨0, by omega, rfl⟩ ?_
        rintro g _ ⟨j, hj, rfl⟩
        obtain ⟨ys, hys⟩ : ∃ ys, ys = (mapTo leastF kids j).map encL := ⟨_, rfl⟩
        rw [← hys]
        have hyl : ys.length = kids.length := by rw [hys, List.length_map, mapTo_len]
        have hTq : upd h.T q (some (TO.cont 6 ys)) q = some (.cont 6 ys) := upd_same _ _ _
        (repeat (first | refine gO (by decide) ?_ | ((first | refine gM (mdL [(1, 1), (2, 1), (4, 1), (5, 2)]) ?_ | (with_reducible refine wM ?_ ?_) | ((with_reducible refine xR ?_); refine uE 5 (mdL [(1, 1), (2, 1), (4, 1), (5, 2)]) pSLeast_72_5E pSLeast_72_5P 40 rfl (by kernel_rfl) ?_)) <;> ((try with_reducible intro K1 hK1); simp only [go_sem, ↓reduceIte, reduceCtorEq, nA, nB, nC, nD, nE, nF] <;> and_intros <;> first | (apply hK1; clear hK1 K1) | (intros; first | omega | decide | (simp_all <;> omega)) | skip))))
        refine awp_cond (t := _) rfl (fun h9 => ?_) (fun h9 => ?_)
        · simp only [decide_eq_true_eq] at h9
          have hjl : j < kids.length := by omega
          have hgy : ys.getD j [] = encL (kids.getD j default) := by
            rw [hys, getD_enc encL _ j default (by rw [mapTo_len]; exact hjl), mapTo_at _ _ _ hjl]
          have hset := mapTo_set leastF kids j hjl
          have hc := hih _ (getD_mem' kids j default hjl)
          generalize kids.getD j default = x at *
          have hlx := encL_len x
          have kx : List.take 6 (encL x) = encL x := List.take_of_length_le (Nat.le_of_eq hlx)
          have dx : List.drop 6 (encL x) = [] := List.drop_of_length_le (Nat.le_of_eq hlx)
          have hly := encL_len (leastF x)
          have ky : List.take 6 (encL (leastF x)) = encL (leastF x) := List.take_of_length_le (Nat.le_of_eq hly)
          (repeat (first | refine gO (by decide) ?_ | ((first | refine gM (mdL [(1, 1), (2, 1), (4, 1), (5, 2)]) ?_ | (with_reducible refine wM ?_ ?_) | ((with_reducible refine xR ?_); refine uE 5 (mdL [(1, 1), (2, 1), (4, 1), (5, 2)]) pSLeast_72_5E pSLeast_72_5P 40 rfl (by kernel_rfl) ?_)) <;> ((try with_reducible intro K1 hK1); simp only [go_sem, ↓reduceIte, reduceCtorEq, nA, nB, nC, nD, nE, nF, Int.toNat_natCast, hTq, hyl, hgy, hlx, kx, dx] <;> and_intros <;> first | (apply hK1; clear hK1 K1) | (intros; first | omega | decide | (simp_all <;> omega)) | skip))))
          refine (hc _).mono ?_; rintro _ hz ⟨rfl, hh⟩; apply hK1; clear hK1 K1; rw [hh]; clear hh hz
          (repeat (first | refine gO (by decide) ?_ | ((first | refine gM (mdL [(1, 1), (2, 1), (4, 1), (5, 2)]) ?_ | (with_reducible refine wM ?_ ?_) | ((with_reducible refine xR ?_); refine uE 5 (mdL [(1, 1), (2, 1), (4, 1), (5, 2)]) pSLeast_72_5E pSLeast_72_5P 40 rfl (by kernel_rfl) ?_)) <;> ((try with_reducible intro K1 hK1); simp only [go_sem, ↓reduceIte, reduceCtorEq, nA, nB, nC, nD, nE, nF, Int.toNat_natCast, hTq, hyl, hgy, hlx, kx, dx, hly, ky] <;> and_intros <;> first | (apply hK1; clear hK1 K1) | (intros; first | omega | decide | (simp_all <;> omega)) | skip))))
          refine ⟨g - 1, by omega, j + 1, by omega, ?_⟩
          rw [← hset, ← map_set_encL, ← hys]; rfl
        · simp only [decide_eq_false_iff_not] at h9
          have hjl : j = kids.length := by omega
          subst hjl
          rw [mapTo_all] at hys
          refine awp_frzLoc 0 4 q 6 (xs := ys) rfl (by rw [hyl]; rfl) hTq (fun y hy => by rw [hys] at hy; obtain ⟨z, _, rfl⟩ := List.mem_map.1 hy; exact encL_len z) ?_
          simp only [upd_upd, upd_noneA hq, List.set_cons_zero, List.set_cons_succ]
          (repeat (first | refine gO (by decide) ?_ | ((first | refine gM (mdL [(1, 1), (2, 1), (4, 1), (5, 2)]) ?_ | (with_reducible refine wM ?_ ?_) | ((with_reducible refine xR ?_); refine uE 5 (mdL [(1, 1), (2, 1), (4, 1), (5, 2)]) pSLeast_72_5E pSLeast_72_5P 40 rfl (by kernel_rfl) ?_)) <;> ((try with_reducible intro K1 hK1); simp only [go_sem, ↓reduceIte, reduceCtorEq, nA, nB, nC, nD, nE, nF] <;> and_intros <;> first | (apply hK1; clear hK1 K1) | (intros; first | omega | decide | (simp_all <;> omega)) | skip))))
          rw [hys]; rfl
    · rintro _ rfl
      clear hcl hr w1 w2 w3 w4 w5 hih hent
      have hlt := encL_len t'
      have kt : List.take 6 (encL t') = encL t' := List.take_of_length_le (Nat.le_of_eq hlt)
      have dt : List.drop 6 (encL t') = [] := List.drop_of_length_le (Nat.le_of_eq hlt)
      (repeat (first | refine gQ (by decide) ?_ | ((first | refine gM (mdL [(1, 1), (2, 1), (4, 1), (5, 2)]) ?_ | (with_reducible refine wM ?_ ?_) | ((with_reducible refine xR ?_); refine uE 5 (mdL [(1, 1), (2, 1), (4, 1), (5, 2)]) pSLeast_72_5E pSLeast_72_5P 40 rfl (by kernel_rfl) ?_)) <;> ((try with_reducible intro K1 hK1); simp only [go_sem, ↓reduceIte, reduceCtorEq, nA, nB, nC, nD, nE, nF] <;> and_intros <;> first | (apply hK1; clear hK1 K1) | (intros; first | omega | decide | (simp_all <;> omega)) | skip))))
      refine awp_seq ?_
      (repeat (first | refine gO (by decide) ?_ | ((first | refine gM (mdL [(1, 1), (2, 1), (4, 1), (5, 2)]) ?_ | (with_reducible refine wM ?_ ?_) | ((with_reducible refine xR ?_); refine uE 5 (mdL [(1, 1), (2, 1), (4, 1), (5, 2)]) pSLeast_72_5E pSLeast_72_5P 40 rfl (by kernel_rfl) ?_)) <;> ((try with_reducible intro K1 hK1); simp only [go_sem, ↓reduceIte, reduceCtorEq, nA, nB, nC, nD, nE, nF, hlt, kt, dt] <;> and_intros <;> first | (apply hK1; clear hK1 K1) | (intros; first | omega | decide | (simp_all <;> omega)) | skip))))
      refine (g_chgP t' h hgood.1.1 hgood.1.2).mono ?_
      rintro _ hz ⟨u, rfl, hu, hh⟩
      refine hK1 _ ?_; clear hK1 K1
      rw [hh]; clear hh hz
      have hlu := encL_len u
      have ku : List.take 6 (encL u) = encL u := List.take_of_length_le (Nat.le_of_eq hlu)
      have du : List.drop 6 (encL u) = [] := List.drop_of_length_le (Nat.le_of_eq hlu)
      (repeat (first | refine gO (by decide) ?_ | ((first | refine gM (mdL [(1, 1), (2, 1), (4, 1), (5, 2)]) ?_ | (with_reducible refine wM ?_ ?_) | ((with_reducible refine xR ?_); refine uE 5 (mdL [(1, 1), (2, 1), (4, 1), (5, 2)]) pSLeast_72_5E pSLeast_72_5P 40 rfl (by kernel_rfl) ?_)) <;> ((try with_reducible intro K1 hK1); simp only [go_sem, ↓reduceIte, reduceCtorEq, nA, nB, nC, nD, nE, nF, hlu, ku, du] <;> and_intros <;> first | (apply hK1; clear hK1 K1) | (intros; first | omega | decide | (simp_all <;> omega)) | skip))))
      intro i hi
      and_intros <;> first | (refine hK1 _ ?_; clear hK1 K1) | exact .inl trivial | exact .inr rfl | exact .inr True.intro | exact True.intro | omega
      (repeat (first | refine gO (by decide) ?_ | ((first | refine gM (mdL [(1, 1), (2, 1), (4, 1), (5, 2)]) ?_ | (with_reducible refine wM ?_ ?_) | ((with_reducible refine xR ?_); refine uE 5 (mdL [(1, 1), (2, 1), (4, 1), (5, 2)]) pSLeast_72_5E pSLeast_72_5P 40 rfl (by kernel_rfl) ?_)) <;> ((try with_reducible intro K1 hK1); simp only [go_sem, ↓reduceIte, reduceCtorEq, nA, nB, nC, nD, nE, nF, hlu, ku, du] <;> and_intros <;> first | (apply hK1; clear hK1 K1) | (intros; first | omega | decide | (simp_all <;> omega)) | skip))))
      refine awp_loopC (rl false [1, 2, 2, 2, 33]) 2 (fun g s => ∃ (cur u : LT) (i : Nat) (H' : Nat → Option AO), GoodN 1000 g cur ∧ fixT g cur = fixT 2 t' ∧ (∀ v, stepT cur = some v → u = v) ∧ (∀ j, h.H j ≠ none → H' j = h.H j) ∧ H' i = some (.cells (encL u)) ∧
        s = ⟨(AV.junk :: ((.loc 0 0) :: (.loc 1 0) :: AV.junk :: AV.junk :: ((.ptr i 0) :: (.v (.bool (stepT cur).isSome)) :: (jnk 33 [])))), [encL cur, z28'], ⟨H', h.T⟩⟩) 2 ⟨t', u, i, _, hgood, rfl, hu, fun j hj => upd_other _ _ (fun e => hj (e ▸ hi)), upd_same _ _ _, rfl⟩ ?_
      clear hlu ku du hlt kt dt hu hi
      rintro g _ ⟨cur, u, i, H', hg, hf, hu, hk, hi, rfl⟩
      have hlu := encL_len u
      have ku : List.take 6 (encL u) = encL u := List.take_of_length_le (Nat.le_of_eq hlu)
      have du : List.drop 6 (encL u) = [] := List.drop_of_length_le (Nat.le_of_eq hlu)
      have hlc := encL_len cur
      have kc : List.take 6 (encL cur) = encL cur := List.take_of_length_le (Nat.le_of_eq hlc)
      have dc : List.drop 6 (encL cur) = [] := List.drop_of_length_le (Nat.le_of_eq hlc)
      (repeat (first | refine gO (by decide) ?_ | ((first | refine gM (mdL [(1, 1), (2, 1), (4, 1), (5, 2)]) ?_ | (with_reducible refine wM ?_ ?_) | ((with_reducible refine xR ?_); refine uE 5 (mdL [(1, 1), (2, 1), (4, 1), (5, 2)]) pSLeast_72_5E pSLeast_72_5P 40 rfl (by kernel_rfl) ?_)) <;> ((try with_reducible intro K1 hK1); simp only [go_sem, ↓reduceIte, reduceCtorEq, nA, nB, nC, nD, nE, nF] <;> and_intros <;> first | (apply hK1; clear hK1 K1) | (intros; first | omega | decide | (simp_all <;> omega)) | skip))))
      cases hs : stepT cur with
      | none =>
        refine awp_cond (t := _) rfl (fun h9 => by cases h9) (fun h9 => ?_)
        rw [fix_none hs] at hf
        have dz : List.drop 6 z28' = [] := rfl
        (repeat (first | refine gO (by decide) ?_ | ((first | refine gM (mdL [(1, 1), (2, 1), (4, 1), (5, 2)]) ?_ | (with_reducible refine wM ?_ ?_) | ((with_reducible refine xR ?_); refine uE 5 (mdL [(1, 1), (2, 1), (4, 1), (5, 2)]) pSLeast_72_5E pSLeast_72_5P 40 rfl (by kernel_rfl) ?_)) <;> ((try with_reducible intro K1 hK1); simp only [go_sem, ↓reduceIte, reduceCtorEq, nA, nB, nC, nD, nE, nF, hlc, kc, dc, dz] <;> and_intros <;> first | (apply hK1; clear hK1 K1) | (intros; first | omega | decide | (simp_all <;> omega)) | skip))))
        simp only [Tryz.results72, go_sem, ↓reduceIte, reduceCtorEq, nA, nB, nC, nD, nE, nF, hlc, kc, dc, dz]
        exact ⟨_, h, Weak.refl _, ⟨fun j => by
          by_cases e : h.H j = none
          · exact .inl e
          · exact .inr (hk j e).symm, fun _ => .inr rfl⟩, by rw [hf], rfl⟩
      | some v =>
        obtain rfl := hu v hs
        refine awp_cond (t := _) rfl (fun h9 => ?_) (fun h9 => by cases h9)
        obtain ⟨g, rfl⟩ : ∃ g', g = g' + 1 := by
          cases g with
          | zero => have := hg.2; rw [this] at hs; cases hs
          | succ g => exact ⟨g, rfl⟩
        have hg2 := hg.2 u hs
        rw [fix_some hs] at hf
        (repeat (first | refine gO (by decide) ?_ | ((first | refine gM (mdL [(1, 1), (2, 1), (4, 1), (5, 2)]) ?_ | (with_reducible refine wM ?_ ?_) | ((with_reducible refine xR ?_); refine uE 5 (mdL [(1, 1), (2, 1), (4, 1), (5, 2)]) pSLeast_72_5E pSLeast_72_5P 40 rfl (by kernel_rfl) ?_)) <;> ((try with_reducible intro K1 hK1); simp only [go_sem, ↓reduceIte, reduceCtorEq, nA, nB, nC, nD, nE, nF, hi, hlu, ku, du, hlc, kc, dc] <;> and_intros <;> first | (apply hK1; clear hK1 K1) | (intros; first | omega | decide | (simp_all <;> omega)) | skip))))
        intro i2 hi2
        and_intros <;> first | (refine hK1 _ ?_; clear hK1 K1) | exact .inl trivial | exact .inr rfl | exact .inr True.intro | exact True.intro | omega
        (repeat (first | refine gO (by decide) ?_ | ((first | refine gM (mdL [(1, 1), (2, 1), (4, 1), (5, 2)]) ?_ | (with_reducible refine wM ?_ ?_) | ((with_reducible refine xR ?_); refine uE 5 (mdL [(1, 1), (2, 1), (4, 1), (5, 2)]) pSLeast_72_5E pSLeast_72_5P 40 rfl (by kernel_rfl) ?_)) <;> ((try with_reducible intro K1 hK1); simp only [go_sem, ↓reduceIte, reduceCtorEq, nA, nB, nC, nD, nE, nF, hi, hlu, ku, du, hlc, kc, dc] <;> and_intros <;> first | (apply hK1; clear hK1 K1) | (intros; first | omega | decide | (simp_all <;> omega)) | skip))))
        refine (g_chgP u _ (by cases g <;> exact hg2.1.1) (by cases g <;> exact hg2.1.2)).mono ?_
        rintro _ hz ⟨u2, rfl, hu2, hh⟩
        refine hK1 _ ?_; clear hK1 K1
        rw [hh]; clear hh hz
        have hlu2 := encL_len u2
        have ku2 : List.take 6 (encL u2) = encL u2 := List.take_of_length_le (Nat.le_of_eq hlu2)
        have du2 : List.drop 6 (encL u2) = [] := List.drop_of_length_le (Nat.le_of_eq hlu2)
        (repeat (first | refine gO (by decide) ?_ | ((first | refine gM (mdL [(1, 1), (2, 1), (4, 1), (5, 2)]) ?_ | (with_reducible refine wM ?_ ?_) | ((with_reducible refine xR ?_); refine uE 5 (mdL [(1, 1), (2, 1), (4, 1), (5, 2)]) pSLeast_72_5E pSLeast_72_5P 40 rfl (by kernel_rfl) ?_)) <;> ((try with_reducible intro K1 hK1); simp only [go_sem, ↓reduceIte, reduceCtorEq, nA, nB, nC, nD, nE, nF, hlu, ku, du, hlu2, ku2, du2] <;> and_intros <;> first | (apply hK1; clear hK1 K1) | (intros; first | omega | decide | (simp_all <;> omega)) | skip))))
        exact ⟨g, by omega, u, u2, i2, _, hg2, hf, hu2, fun j hj => by
          have e : j ≠ i2 := fun e => by subst e; rw [hk _ hj] at hi2; exact hj hi2
          first | exact (upd_other _ _ e).trans (hk j hj) | (rw [upd_other _ _ e, upd_other _ _ e]; exact hk j hj), upd_same _ _ _, rfl⟩
def DQ : Nat → LT → Prop
  | 0, _ => False
  | n + 1, t => 1 ≤ n ∧ (t.kd = 1 ∨ t.kd = 5 ∧ t.hd.kd = 1 ∨ ∀ k ∈ t.ks, DQ n k)
theorem DQ.mono : ∀ {n m : Nat} {t : LT}, DQ n t → n ≤ m → DQ m t
  | 0, _, _, h, _ => h.elim
  | n + 1, 0, _, _, h => by omega
  | n + 1, m + 1, t, ⟨h1, h2⟩, hm => ⟨by omega, by
      rcases h2 with h | h | h
      · exact .inl h
      · exact .inr (.inl h)
      · exact .inr (.inr fun k hk => (h k hk).mono (by omega))⟩
theorem DQ.two : ∀ {n : Nat} {t : LT}, DQ n t → 2 ≤ n
  | 0, _, h => h.elim
  | n + 1, _, h => by have := h.1; omega
theorem DQ.item {n : Nat} {t : LT} (hn : 2 ≤ n) (h : t.kd = 1) : DQ n t := by
  obtain ⟨m, rfl⟩ : ∃ m, n = m + 1 := ⟨n - 1, by omega⟩
  exact ⟨by omega, .inl h⟩
theorem DQ.rep {n : Nat} {it : LT} (hn : 2 ≤ n) (h : it.kd = 1) (m : Int) : DQ n (repK m [it]) := by
  obtain ⟨k, rfl⟩ : ∃ k, n = k + 1 := ⟨n - 1, by omega⟩
  exact ⟨by omega, .inr (.inl ⟨rfl, h⟩)⟩
theorem DQ.congr {n : Nat} {t u : LT} (h : DQ n t) (h1 : u.kd = t.kd) (h2 : u.ks = t.ks) : DQ n u := by
  cases n with
  | zero => exact h.elim
  | succ n =>
    obtain ⟨a, b⟩ := h
    refine ⟨a, ?_⟩
    have h3 : u.hd = t.hd := by rw [LT.hd, LT.hd, h2]
    rw [h1, h2, h3]; exact b
theorem DQ.kids {n : Nat} {t : LT} (h : DQ (n + 1) t) (h1 : t.kd ≠ 1) (h2 : ¬ (t.kd = 5 ∧ t.hd.kd = 1)) : ∀ k ∈ t.ks, DQ n k := by
  rcases h.2 with h | h | h
  · exact absurd h h1
  · exact absurd h h2
  · exact h
theorem WF.five {t : LT} (h : WF t) (h5 : t.kd = 5) : t.ks = [t.hd] := by
  cases t with
  | mk k i l m ks s =>
    have := ((WF_eq ..).mp h).2.2.2.1 h5
    obtain ⟨x, rfl⟩ : ∃ x, ks = [x] := by
      match ks, this.1 with
      | [x], _ => exact ⟨x, rfl⟩
    rfl
theorem WF.one {t : LT} (h : WF t) (h1 : t.kd = 1) : t.ks = [] := by
  cases t with
  | mk k i l m ks s => exact (((WF_eq ..).mp h).2.1 h1).1
theorem DQ.kid {n : Nat} {t : LT} (h : DQ n t) (hw : WF t) {k : LT} (hk : k ∈ t.ks) : DQ n k := by
  cases n with
  | zero => exact h.elim
  | succ n =>
    have h2 := h.two
    rcases h.2 with e | e | e
    · rw [hw.one e] at hk; cases hk
    · rw [hw.five e.1, List.mem_singleton] at hk
      rw [hk]; exact .item h2 e.2
    · exact (e k hk).mono (by omega)
theorem dq_step {n : Nat} {t v : LT} (h : DQ n t) (hw : WF t) (hs : stepT t = some v) : DQ n v := by
  cases t with
  | mk kind item long many kids shares =>
    have hwk : ∀ k ∈ kids, WF k := hw.kids
    have h2 := h.two
    obtain ⟨m, rfl⟩ : ∃ m, n = m + 1 := ⟨n - 1, by omega⟩
    rw [stepT_mk] at hs
    split at hs
    · cases hs
    rename_i h1
    have hne : kids ≠ [] := hw.ne (t := .mk kind item long many kids shares) h1
    have hm := getD0_mem hne
    have hf : DQ (m + 1) (kids.getD 0 default) := h.kid hw hm
    split at hs
    · rename_i h5
      split at hs
      · cases hs; exact hf
      · split at hs
        · rename_i hc
          cases hs
          have hk := (DQ.kids h h1 (by
            rintro ⟨_, h9⟩
            have h9' : (kids.getD 0 default).kd = 1 := h9
            omega)) _ hm
          exact (hk.mono (by omega)).congr (by simp only [repK, LT.kd]; exact hc.1.symm) rfl
        · cases hs
    rename_i h5
    have hkk : ∀ k ∈ kids, DQ m k := DQ.kids h h1 (fun h9 => h5 h9.1)
    split at hs
    · cases hs; exact hf
    split at hs
    · split at hs
      · cases hs
      · cases hs
        have hm2 := (hkk _ hm).two
        refine ⟨by omega, .inr (.inr ?_)⟩
        show ∀ k ∈ gath (flatT kids), DQ m k
        refine gath_all (p := fun x => DQ m x) (fun it a _ => ⟨.item hm2 a, fun r _ _ => .rep hm2 a r⟩) _ (flatT kids) (Nat.le_refl _) (flatT_wf hwk) fun x hx _ => ?_
        obtain ⟨k, hk2, hxk⟩ := List.mem_flatMap.1 hx
        split at hxk
        · exact (hkk k hk2).kid (hwk k hk2) hxk
        · rw [List.mem_singleton.1 hxk]; exact hkk k hk2
    · split at hs
      · split at hs
        · rename_i h4 _
          cases hs
          exact h.congr (by simp only [LT.kd]; exact h4.symm) rfl
        · cases hs
      · split at hs
        · cases hs; exact hf
        · cases hs
theorem dq_fix {N : Nat} {n : Nat} : ∀ (m : Nat) (t : LT), GoodN N m t → DQ n t → DQ n (fixT m t)
  | 0, _, _, h => h
  | m + 1, t, hg, h => by
    rw [fixT]
    cases hs : stepT t with
    | none => exact h
    | some v => exact dq_fix m v (hg.2 v hs) (dq_step h hg.1.1 hs)
theorem least_item {t : LT} (hw : WF t) (h1 : t.kd = 1) : leastF t = t := by
  cases t with
  | mk kind item long many kids shares =>
    have e := hw.one h1
    simp only [LT.ks] at e
    subst e
    have h1' : kind = 1 := h1
    rw [leastF_eq, List.map_nil]
    exact fix_none (by rw [stepT_mk, if_pos h1']) 2
theorem dq_least : ∀ (t : LT) (n : Nat), WF t → DQ n t → DQ n (leastF t)
  | .mk kind item long many kids shares, n, hw, h => by
    rw [leastF_eq]
    refine dq_fix 2 _ (least_good hw (Nat.le_refl _)) ?_
    have h2 := h.two
    obtain ⟨m, rfl⟩ : ∃ m, n = m + 1 := ⟨n - 1, by omega⟩
    refine ⟨by omega, ?_⟩
    by_cases h1 : kind = 1
    · exact .inl h1
    by_cases h5 : kind = 5 ∧ (kids.getD 0 default).kd = 1
    · have h6 : kids = [kids.getD 0 default] := hw.five (t := .mk kind item long many kids shares) h5.1
      have hw0 : WF (kids.getD 0 default) := hw.kids _ (getD0_mem (hw.ne (t := .mk kind item long many kids shares) h1))
      refine .inr (.inl ⟨h5.1, ?_⟩)
      show ((kids.map leastF).getD 0 default).kd = 1
      generalize kids.getD 0 default = x at *
      rw [h6, List.map_cons, List.map_nil, List.getD_cons_zero, least_item hw0 h5.2]; exact h5.2
    · refine .inr (.inr fun k hk => ?_)
      obtain ⟨k2, hk2, rfl⟩ := List.mem_map.1 (show k ∈ kids.map leastF from hk)
      exact dq_least k2 m (hw.kids k2 hk2) (DQ.kids h h1 h5 k2 hk2)
theorem many_le : ∀ (n : Nat) (t : LT), WF t → DQ n t → manyF t ≤ lv t * n
  | 0, _, _, h => h.elim
  | n + 1, .mk kind item long many kids shares, hw, h => by
    have hwk : ∀ k ∈ kids, WF k := hw.kids
    have h2 := h.two
    have hl := lv_pos _ hw
    have hl1 : ((1 : Nat) : Int) * (n + 1 : Nat) ≤ (lv (.mk kind item long many kids shares) : Int) * (n + 1 : Nat) := Int.mul_le_mul_of_nonneg_right (by omega) (by omega)
    rw [manyF_eq]
    by_cases h1 : kind = 1
    · have e := hw.one (t := .mk kind item long many kids shares) h1
      simp only [LT.ks] at e
      rw [e]; rw [e] at hl1
      simp only [List.map_nil, List.sum_nil]
      omega
    by_cases h5 : kind = 5 ∧ (kids.getD 0 default).kd = 1
    · have h6 : kids = [kids.getD 0 default] := hw.five (t := .mk kind item long many kids shares) h5.1
      have hw0 : WF (kids.getD 0 default) := hw.kids _ (getD0_mem (hw.ne (t := .mk kind item long many kids shares) h1))
      have e := hw0.one h5.2
      generalize kids.getD 0 default = x at *
      have hx : manyF x = 1 := by
        cases x with
        | mk a b c d f g =>
          simp only [LT.ks] at e
          rw [manyF_eq, e]; rfl
      rw [h6]; rw [h6] at hl1
      simp only [List.map_cons, List.map_nil, List.sum_cons, List.sum_nil, hx]
      omega
    · have hkk : ∀ k ∈ kids, DQ n k := DQ.kids h h1 h5
      have key : ∀ l : List LT, (∀ k ∈ l, manyF k ≤ lv k * n) → (l.map manyF).sum ≤ (((l.map lv).sum : Nat) : Int) * n := fun l => by
        induction l with
        | nil => simp
        | cons x l ih =>
          intro h
          have a := h x (by simp)
          have b := ih fun y hy => h y (by simp [hy])
          simp only [List.map_cons, List.sum_cons]
          rw [show ((lv x + (l.map lv).sum : Nat) : Int) = (lv x : Int) + ((l.map lv).sum : Nat) by omega, Int.add_mul]
          omega
      have hs := key kids fun k hk => many_le n k (hwk k hk) (hkk k hk)
      have hlk := lv_ks (t := .mk kind item long many kids shares) (hw.ne h1)
      simp only [LT.ks] at hlk
      rw [← hlk] at hs
      rw [show ((n + 1 : Nat) : Int) = (n : Int) + 1 by omega, Int.mul_add, Int.mul_one]
      omega
theorem kc_of : ∀ (n : Nat) (t : LT), WF t → DQ n t → lv t ≤ 1000 → KC n t
  | 0, _, _, h, _ => h.elim
  | n + 1, .mk kind item long many kids shares, hw, h, hl => by
    have hwk : ∀ k ∈ kids, WF k := hw.kids
    have h2 := h.two
    have hkl := ks_len hw
    simp only [LT.ks] at hkl
    obtain ⟨w1, w2, w3, w4, w5, w6, w7, w8, w9, w10⟩ := (WF_eq ..).mp hw
    refine ⟨by unfold NB; omega, w9.2, w9.1, ?_, by omega, ?_, fun x hx => by have := w8 x hx; unfold NB; omega, fun k hk => ?_⟩
    · by_cases h5 : kind = 5
      · have := w4 h5; unfold NB; omega
      · have := w5 h5; unfold NB; omega
    · by_cases h4 : kind = 4
      · have := w6 h4; omega
      · rw [w7 h4]; simp
    · have hk' : k ∈ (LT.mk kind item long many kids shares).ks := hk
      have hlk := lv_kid hk'
      by_cases h1 : kind = 1
      · rw [(w2 h1).1] at hk; cases hk
      by_cases h5 : kind = 5 ∧ (kids.getD 0 default).kd = 1
      · have h6 : kids = [kids.getD 0 default] := hw.five (t := .mk kind item long many kids shares) h5.1
        have hkd : k.kd = 1 := by
          rw [h6, List.mem_singleton] at hk
          rw [hk]; exact h5.2
        have hwk' := hwk k hk
        cases k with
        | mk a b c d f g =>
          obtain ⟨v1, v2, v3, v4, v5, v6, v7, v8, v9, v10⟩ := (WF_eq ..).mp hwk'
          obtain ⟨n', rfl⟩ : ∃ n', n = n' + 1 := ⟨n - 1, by omega⟩
          obtain ⟨e1, e2, e3⟩ := v2 hkd
          exact ⟨by unfold NB; omega, v9.2, v9.1, by unfold NB; omega, by rw [e1]; simp, by rw [e2]; simp, by rw [e2]; simp, by rw [e1]; simp⟩
      · exact kc_of n k (hwk k hk) (DQ.kids h h1 h5 k hk) (by omega)
theorem dq_of_deep : ∀ (n : Nat) (t : LT), WF t → deepF t ≤ n → DQ (n + 1) t
  | 0, .mk kind item long many kids shares, _, h => by
    have := (max_bd deepF ((kids.map deepF).foldl max 0 + 0) kids 0)
    rw [deepF_eq] at h
    have mono : ∀ (l : List Int) (a : Int), a ≤ l.foldl max a := fun l => by
      induction l with
      | nil => intro a; exact Int.le_refl _
      | cons y l ih => intro a; have := ih (max a y); simp only [List.foldl_cons]; omega
    have := mono (kids.map deepF) 0
    omega
  | n + 1, .mk kind item long many kids shares, hw, h => by
    refine ⟨by omega, ?_⟩
    by_cases h1 : kind = 1
    · exact .inl h1
    refine .inr (.inr fun k hk => ?_)
    have hk' : k ∈ kids := hk
    obtain ⟨j, hj, rfl⟩ := List.mem_iff_getElem.1 hk'
    have hm := max_take kids deepF j hj
    rw [deepF_eq] at h
    rw [List.getD_eq_getElem?_getD, List.getElem?_eq_getElem hj, Option.getD_some] at hm
    exact dq_of_deep n _ (hw.kids _ hk) (by omega)
theorem lv_le : ∀ (t : LT), (lv t : Int) ≤ manyF t
  | .mk kind item long many kids shares => by
    have key : ∀ l : List LT, (∀ k ∈ l, (lv k : Int) ≤ manyF k) → (((l.map lv).sum : Nat) : Int) ≤ (l.map manyF).sum := fun l => by
      induction l with
      | nil => intro _; simp
      | cons x l ih =>
        intro h
        have a := h x (by simp)
        have b := ih fun y hy => h y (by simp [hy])
        simp only [List.map_cons, List.sum_cons]
        omega
    have hk := key kids fun k hk => lv_le k
    rw [lv_eq, manyF_eq]
    split
    · rename_i h9
      have := List.isEmpty_iff.1 h9
      subst this
      simp
    · omega
theorem bytes_of_bne {a b : ByteArray} (h : ¬ (a != b) = true) : a = b := by
  rw [bne, Bool.not_eq_true', Bool.not_eq_false] at h
  exact bytes_beq.1 h
theorem wf_of : ∀ (d : Nat) (t : LT), KC d t → partF t = 0 → WF t
  | 0, _, h, _ => h.elim
  | d + 1, .mk kind item long many kids shares, hb, hp => by
    obtain ⟨b1, b2, b3, b4, b5, b6, b7, b8⟩ := hb
    rw [partF_eq] at hp
    by_cases h1 : outB kind 1 5
    · rw [if_pos h1] at hp; omega
    rw [if_neg h1] at hp
    by_cases h2 : formB kind item long many kids.length shares.length
    · rw [if_pos h2] at hp; omega
    rw [if_neg h2] at hp
    by_cases h3 : (kind == 1 && !keyB item) = true
    · rw [if_pos h3] at hp; omega
    rw [if_neg h3] at hp
    by_cases h4 : (kind == 1 && outB long 1 3600000) = true
    · rw [if_pos h4] at hp; omega
    rw [if_neg h4] at hp
    by_cases h5 : (kind == 5 && outB many 1 100) = true
    · rw [if_pos h5] at hp; omega
    rw [if_neg h5] at hp
    by_cases h6 : shares.any (fun n => outB n 1 1000)
    · rw [if_pos h6] at hp; omega
    rw [if_neg h6] at hp
    have hnz : ∀ (l : List Int), firstNZ l = 0 → ∀ x ∈ l, x = 0 := fun l => by
      induction l with
      | nil => intro _ x hx; cases hx
      | cons y l ih =>
        intro h x hx
        simp only [firstNZ] at h
        split at h
        · rename_i h0
          rcases List.mem_cons.1 hx with rfl | hx
          · exact h0
          · exact ih h x hx
        · rename_i h0; exact absurd h h0
    have hk := hnz _ hp
    simp only [outB, Bool.or_eq_true, decide_eq_true_eq, not_or, Int.not_lt] at h1
    simp only [formB, Bool.or_eq_true, Bool.and_eq_true, beq_iff_eq, bne_iff_ne, ne_eq, not_or, not_and, Decidable.not_not] at h2
    simp only [outB, Bool.and_eq_true, beq_iff_eq, Bool.or_eq_true, decide_eq_true_eq, not_and, not_or, Int.not_lt] at h5
    obtain ⟨⟨⟨⟨⟨⟨g1, g2⟩, g3⟩, g4⟩, g5⟩, g6⟩, g7⟩ := h2
    rw [WF_eq]
    refine ⟨by omega, fun h => ⟨List.eq_nil_of_length_eq_zero (by have := g1 h; omega), List.eq_nil_of_length_eq_zero (by have := g5 (by omega); omega), g7 (by omega)⟩, fun h => ⟨bytes_of_bne (g6 h).1, (g6 h).2, fun hn => by subst hn; exact g3 h rfl⟩,
      fun h => ⟨by have := g2 h; omega, (h5 h).1, (h5 h).2⟩, fun h => g7 h, fun h => by have := g4 h; omega, fun h => List.eq_nil_of_length_eq_zero (by have := g5 h; omega), fun n hn => ?_, ⟨b3, b2⟩, fun k hkm => wf_of d k (b8 k hkm) (hk _ (List.mem_map.2 ⟨k, hkm, rfl⟩))⟩
    have h7 : outB n 1 1000 = false := by
      cases e : outB n 1 1000 with
      | false => rfl
      | true => exact absurd (List.any_eq_true.2 ⟨n, hn, e⟩) h6
    simp only [outB, Bool.or_eq_false_iff, decide_eq_false_iff_not, Int.not_lt] at h7
    exact h7
theorem least_small {d : Nat} {t : LT} (hb : KC d t) (hf : faultF t = 0) : WF t ∧ lv t ≤ 200 ∧ KC 13 t ∧ KC 13 (leastF t) ∧ WF (leastF t) ∧ lv (leastF t) ≤ 200 ∧ manyF (leastF t) ≤ 1000000000000000 := by
  unfold faultF at hf
  split at hf
  · cases hf
  rename_i h
  have hw := wf_of d t hb hf
  have hl := lv_le t
  have hdq := dq_of_deep 12 t hw (by omega)
  have ho := least_ok t hw
  have hdl := dq_least t 13 hw hdq
  have hm := many_le 13 _ ho.2.1 hdl
  exact ⟨hw, by omega, kc_of 13 t hw hdq (by omega), kc_of 13 _ ho.2.1 hdl (by omega), ho.2.1, by omega, by omega⟩
abbrev pSLeastC_71_1E : List Nat := [0, 1, 3, 4]
abbrev pSLeastC_71_1P : List (Nat × List Nat × List Nat) := [(2, [4], [6]), (5, [], []), (7, [], [8]), (9, [], [])]
abbrev pSLeastC_71_5E : List Nat := [0, 1, 2, 3]
abbrev pSLeastC_71_5P : List (Nat × List Nat × List Nat) := [(4, [1], [5]), (6, [], [])]
attribute [go_sem] pSLeastC_71_1E pSLeastC_71_1P pSLeastC_71_5E pSLeastC_71_5P
theorem g_cloneP (n : Nat) : ∀ (t : LT) (h : Hp), SizeOf.sizeOf t ≤ n → BL t → ACalls Tryz.prog 71 [.agg (encL t)] h (fun r h' => r = .agg (encL t) ∧ h' = h) := by
  induction n with
  | zero =>
    rintro ⟨k, i, l, m, ks, s⟩ h hn
    rw [LT.mk.sizeOf_spec] at hn
    omega
  | succ n ih =>
    rintro ⟨kind, item, long, many, kids, shares⟩ h hn hb
    obtain ⟨b1, b2, b3⟩ := (BL_eq ..).mp hb
    have hih : ∀ k ∈ kids, ∀ h, ACalls Tryz.prog 71 [.agg (encL k)] h (fun r h' => r = .agg (encL k) ∧ h' = h) := fun k hk h => ih k h (by
      have := kid_size (kind := kind) (item := item) (long := long) (many := many) (shares := shares) hk
      omega) (b3 k hk)
    have hcS := g_clS shares none h b2
    have hcK := fun h => g_clK kids none h b1
    rw [encL_eq]
    refine gE Tryz.func71 rfl (by kernel_rfl) 28 rfl fun c => ?_
    (repeat (first | refine gQ (by decide) ?_ | ((first | refine gM (mdL [(1, 1), (2, 1), (4, 1)]) ?_ | (with_reducible refine wM ?_ ?_) | ((with_reducible refine xS ?_); refine uD 1 (mdL [(1, 1), (2, 1), (4, 1)]) pSLeastC_71_1E pSLeastC_71_1P 29 rfl (by kernel_rfl) ?_) | ((with_reducible refine xR ?_); refine uE 5 (mdL [(1, 1), (2, 1), (4, 1)]) pSLeastC_71_5E pSLeastC_71_5P 29 rfl (by kernel_rfl) ?_)) <;> ((try with_reducible intro K1 hK1); simp only [go_sem, ↓reduceIte, reduceCtorEq, nA, nB, nC, nD, nE, nF] <;> and_intros <;> first | (apply hK1; clear hK1 K1) | (intros; first | omega | decide | (simp_all <;> omega)) | skip))))
    refine hcS.mono ?_
    rintro r h1 ⟨o3, hr⟩
    obtain ⟨w1, w2, w3, w4, w5⟩ := o3
    unfold uside at w1; unfold unw at w2; unfold AV.noLoc at w3; unfold isOpt at w4; simp only [AV.cellsB, Value.oneCell'] at w5
    refine hK1 _ ?_; clear hK1 K1
    (repeat (first | refine gQ (by decide) ?_ | ((first | refine gM (mdL [(1, 1), (2, 1), (4, 1)]) ?_ | (with_reducible refine wM ?_ ?_) | ((with_reducible refine xS ?_); refine uD 1 (mdL [(1, 1), (2, 1), (4, 1)]) pSLeastC_71_1E pSLeastC_71_1P 29 rfl (by kernel_rfl) ?_) | ((with_reducible refine xR ?_); refine uE 5 (mdL [(1, 1), (2, 1), (4, 1)]) pSLeastC_71_5E pSLeastC_71_5P 29 rfl (by kernel_rfl) ?_)) <;> ((try with_reducible intro K1 hK1); simp only [go_sem, ↓reduceIte, reduceCtorEq, nA, nB, nC, nD, nE, nF, w1, w2, w3, w4, w5] <;> and_intros <;> first | (apply hK1; clear hK1 K1) | (intros; first | omega | decide | (simp_all <;> omega)) | skip))))
    refine (hcK h1).mono ?_
    rintro r2 h2 ⟨o3, hr2⟩
    obtain ⟨v1, v2, v3, v4, v5⟩ := o3
    unfold uside at v1; unfold unw at v2; unfold AV.noLoc at v3; unfold isOpt at v4; simp only [AV.cellsB, Value.oneCell'] at v5
    refine hK1 _ ?_; clear hK1 K1
    (repeat (first | refine gQ (by decide) ?_ | ((first | refine gM (mdL [(1, 1), (2, 1), (4, 1)]) ?_ | (with_reducible refine wM ?_ ?_) | ((with_reducible refine xS ?_); refine uD 1 (mdL [(1, 1), (2, 1), (4, 1)]) pSLeastC_71_1E pSLeastC_71_1P 29 rfl (by kernel_rfl) ?_) | ((with_reducible refine xR ?_); refine uE 5 (mdL [(1, 1), (2, 1), (4, 1)]) pSLeastC_71_5E pSLeastC_71_5P 29 rfl (by kernel_rfl) ?_)) <;> ((try with_reducible intro K1 hK1); simp only [go_sem, ↓reduceIte, reduceCtorEq, nA, nB, nC, nD, nE, nF, w1, w2, w3, w4, w5, v1, v2, v3, v4, v5] <;> and_intros <;> first | (apply hK1; clear hK1 K1) | (intros; first | omega | decide | (simp_all <;> omega)) | skip))))
    refine awp_seqJ (rl false [1, 2, 26]) 2 (fun s => s = ⟨(AV.junk :: ((.loc 0 0) :: (.loc 1 0) :: (jnk 26 []))), [[.v (.int .i64 kind), .v (.string item), .v (.int .i64 long), .v (.int .i64 many), .row 6 (kids.map encL) none, r], z28'], h1⟩) ?_ ?_
    · rcases hr2 with ⟨rfl, rfl, rfl⟩ | ⟨q, hq, rfl, rfl, hkn⟩
      · (repeat (first | refine gO (by decide) ?_ | ((first | refine gM (mdL [(1, 1), (2, 1), (4, 1)]) ?_ | (with_reducible refine wM ?_ ?_) | ((with_reducible refine xS ?_); refine uD 1 (mdL [(1, 1), (2, 1), (4, 1)]) pSLeastC_71_1E pSLeastC_71_1P 29 rfl (by kernel_rfl) ?_) | ((with_reducible refine xR ?_); refine uE 5 (mdL [(1, 1), (2, 1), (4, 1)]) pSLeastC_71_5E pSLeastC_71_5P 29 rfl (by kernel_rfl) ?_)) <;> ((try with_reducible intro K1 hK1); simp only [go_sem, ↓reduceIte, reduceCtorEq, nA, nB, nC, nD, nE, nF, w1, w2, w3, w4, w5] <;> and_intros <;> first | (apply hK1; clear hK1 K1) | (intros; first | omega | decide | (simp_all <;> omega)) | skip))))
        refine awp_loopC (rl false [1, 2, 11, 3, 12]) 2 (fun g s => s = ⟨(AV.junk :: ((.loc 0 0) :: (.loc 1 0) :: (jnk 11 ((.row 6 [] none) :: (.v (.int .i64 0)) :: (.v (.int .i64 0)) :: (jnk 12 []))))), [[.v (.int .i64 kind), .v (.string item), .v (.int .i64 long), .v (.int .i64 many), .row 6 [] none, r], z28'], h2⟩) 0 rfl ?_
        rintro g _ rfl
        (repeat (first | refine gO (by decide) ?_ | ((first | refine gM (mdL [(1, 1), (2, 1), (4, 1)]) ?_ | (with_reducible refine wM ?_ ?_) | ((with_reducible refine xS ?_); refine uD 1 (mdL [(1, 1), (2, 1), (4, 1)]) pSLeastC_71_1E pSLeastC_71_1P 29 rfl (by kernel_rfl) ?_) | ((with_reducible refine xR ?_); refine uE 5 (mdL [(1, 1), (2, 1), (4, 1)]) pSLeastC_71_5E pSLeastC_71_5P 29 rfl (by kernel_rfl) ?_)) <;> ((try with_reducible intro K1 hK1); simp only [go_sem, ↓reduceIte, reduceCtorEq, nA, nB, nC, nD, nE, nF] <;> and_intros <;> first | (apply hK1; clear hK1 K1) | (intros; first | omega | decide | (simp_all <;> omega)) | skip))))
        refine awp_cond (t := _) rfl (fun h9 => by cases h9) (fun h9 => ?_)
        (repeat (first | refine gO (by decide) ?_ | ((first | refine gM (mdL [(1, 1), (2, 1), (4, 1)]) ?_ | (with_reducible refine wM ?_ ?_) | ((with_reducible refine xS ?_); refine uD 1 (mdL [(1, 1), (2, 1), (4, 1)]) pSLeastC_71_1E pSLeastC_71_1P 29 rfl (by kernel_rfl) ?_) | ((with_reducible refine xR ?_); refine uE 5 (mdL [(1, 1), (2, 1), (4, 1)]) pSLeastC_71_5E pSLeastC_71_5P 29 rfl (by kernel_rfl) ?_)) <;> ((try with_reducible intro K1 hK1); simp only [go_sem, ↓reduceIte, reduceCtorEq, nA, nB, nC, nD, nE, nF] <;> and_intros <;> first | (apply hK1; clear hK1 K1) | (intros; first | omega | decide | (simp_all <;> omega)) | skip))))
        rfl
      · (repeat (first | refine gO (by decide) ?_ | ((first | refine gM (mdL [(1, 1), (2, 1), (4, 1)]) ?_ | (with_reducible refine wM ?_ ?_) | ((with_reducible refine xS ?_); refine uD 1 (mdL [(1, 1), (2, 1), (4, 1)]) pSLeastC_71_1E pSLeastC_71_1P 29 rfl (by kernel_rfl) ?_) | ((with_reducible refine xR ?_); refine uE 5 (mdL [(1, 1), (2, 1), (4, 1)]) pSLeastC_71_5E pSLeastC_71_5P 29 rfl (by kernel_rfl) ?_)) <;> ((try with_reducible intro K1 hK1); simp only [go_sem, ↓reduceIte, reduceCtorEq, nA, nB, nC, nD, nE, nF, w1, w2, w3, w4, w5] <;> and_intros <;> first | (apply hK1; clear hK1 K1) | (intros; first | omega | decide | (simp_all <;> omega)) | skip))))
        refine awp_loopC (rl false [1, 2, 11, 3, 12]) 2 (fun g s => ∃ j : Nat, g + j = kids.length ∧
          s = ⟨(AV.junk :: ((.loc 0 0) :: (.loc 1 0) :: (jnk 11 ((.arr 6 q kids.length) :: (.v (.int .i64 kids.length)) :: (.v (.int .i64 j)) :: (jnk 12 []))))),
            [[.v (.int .i64 kind), .v (.string item), .v (.int .i64 long), .v (.int .i64 many), .arr 6 q kids.length, r], z28'], ⟨h1.H, upd h1.T q (some (.cont 6 (kids.map encL)))⟩⟩) kids.length ⟨0, by omega, rfl⟩ ?_
        rintro g _ ⟨j, hj, rfl⟩
        obtain ⟨ys, hys⟩ : ∃ ys, ys = kids.map encL := ⟨_, rfl⟩
        rw [← hys]
        have hyl : ys.length = kids.length := by rw [hys, List.length_map]
        have hTq : upd h1.T q (some (TO.cont 6 ys)) q = some (.cont 6 ys) := upd_same _ _ _
        (repeat (first | refine gO (by decide) ?_ | ((first | refine gM (mdL [(1, 1), (2, 1), (4, 1)]) ?_ | (with_reducible refine wM ?_ ?_) | ((with_reducible refine xS ?_); refine uD 1 (mdL [(1, 1), (2, 1), (4, 1)]) pSLeastC_71_1E pSLeastC_71_1P 29 rfl (by kernel_rfl) ?_) | ((with_reducible refine xR ?_); refine uE 5 (mdL [(1, 1), (2, 1), (4, 1)]) pSLeastC_71_5E pSLeastC_71_5P 29 rfl (by kernel_rfl) ?_)) <;> ((try with_reducible intro K1 hK1); simp only [go_sem, ↓reduceIte, reduceCtorEq, nA, nB, nC, nD, nE, nF] <;> and_intros <;> first | (apply hK1; clear hK1 K1) | (intros; first | omega | decide | (simp_all <;> omega)) | skip))))
        refine awp_cond (t := _) rfl (fun h9 => ?_) (fun h9 => ?_)
        · simp only [decide_eq_true_eq] at h9
          have hjl : j < kids.length := by omega
          have hgy : ys.getD j [] = encL (kids.getD j default) := by rw [hys, getD_enc encL _ j default hjl]
          have hset : ys.set j (encL (kids.getD j default)) = ys := by
            rw [← hgy]
            refine List.ext_getElem? fun i => ?_
            rw [List.getElem?_set]
            split
            · rename_i e
              subst e
              rw [if_pos (by omega), List.getD_eq_getElem?_getD, List.getElem?_eq_getElem (by omega : j < ys.length)]; rfl
            · rfl
          have hc := hih _ (getD_mem' kids j default hjl)
          generalize kids.getD j default = x at *
          have hlx := encL_len x
          have kx : List.take 6 (encL x) = encL x := List.take_of_length_le (Nat.le_of_eq hlx)
          have dx : List.drop 6 (encL x) = [] := List.drop_of_length_le (Nat.le_of_eq hlx)
          (repeat (first | refine gO (by decide) ?_ | ((first | refine gM (mdL [(1, 1), (2, 1), (4, 1)]) ?_ | (with_reducible refine wM ?_ ?_) | ((with_reducible refine xS ?_); refine uD 1 (mdL [(1, 1), (2, 1), (4, 1)]) pSLeastC_71_1E pSLeastC_71_1P 29 rfl (by kernel_rfl) ?_) | ((with_reducible refine xR ?_); refine uE 5 (mdL [(1, 1), (2, 1), (4, 1)]) pSLeastC_71_5E pSLeastC_71_5P 29 rfl (by kernel_rfl) ?_)) <;> ((try with_reducible intro K1 hK1); simp only [go_sem, ↓reduceIte, reduceCtorEq, nA, nB, nC, nD, nE, nF, Int.toNat_natCast, hTq, hyl, hgy, hlx, kx, dx] <;> and_intros <;> first | (apply hK1; clear hK1 K1) | (intros; first | omega | decide | (simp_all <;> omega)) | skip))))
          refine (hc _).mono ?_; rintro _ hz ⟨rfl, hh⟩; apply hK1; clear hK1 K1; rw [hh]; clear hh hz
          (repeat (first | refine gO (by decide) ?_ | ((first | refine gM (mdL [(1, 1), (2, 1), (4, 1)]) ?_ | (with_reducible refine wM ?_ ?_) | ((with_reducible refine xS ?_); refine uD 1 (mdL [(1, 1), (2, 1), (4, 1)]) pSLeastC_71_1E pSLeastC_71_1P 29 rfl (by kernel_rfl) ?_) | ((with_reducible refine xR ?_); refine uE 5 (mdL [(1, 1), (2, 1), (4, 1)]) pSLeastC_71_5E pSLeastC_71_5P 29 rfl (by kernel_rfl) ?_)) <;> ((try with_reducible intro K1 hK1); simp only [go_sem, ↓reduceIte, reduceCtorEq, nA, nB, nC, nD, nE, nF, Int.toNat_natCast, hTq, hyl, hgy, hlx, kx, dx, hset] <;> and_intros <;> first | (apply hK1; clear hK1 K1) | (intros; first | omega | decide | (simp_all <;> omega)) | skip))))
          exact ⟨g - 1, by omega, j + 1, by omega, by rw [hys]; rfl⟩
        · refine awp_frzLoc 0 4 q 6 (xs := ys) rfl (by rw [hyl]; rfl) hTq (fun y hy => by rw [hys] at hy; obtain ⟨z, _, rfl⟩ := List.mem_map.1 hy; exact encL_len z) ?_
          simp only [upd_upd, upd_noneA hq, List.set_cons_zero, List.set_cons_succ]
          (repeat (first | refine gO (by decide) ?_ | ((first | refine gM (mdL [(1, 1), (2, 1), (4, 1)]) ?_ | (with_reducible refine wM ?_ ?_) | ((with_reducible refine xS ?_); refine uD 1 (mdL [(1, 1), (2, 1), (4, 1)]) pSLeastC_71_1E pSLeastC_71_1P 29 rfl (by kernel_rfl) ?_) | ((with_reducible refine xR ?_); refine uE 5 (mdL [(1, 1), (2, 1), (4, 1)]) pSLeastC_71_5E pSLeastC_71_5P 29 rfl (by kernel_rfl) ?_)) <;> ((try with_reducible intro K1 hK1); simp only [go_sem, ↓reduceIte, reduceCtorEq, nA, nB, nC, nD, nE, nF] <;> and_intros <;> first | (apply hK1; clear hK1 K1) | (intros; first | omega | decide | (simp_all <;> omega)) | skip))))
          rw [hys]; rfl
    · rintro _ rfl
      rcases hr with ⟨rfl, rfl, rfl⟩ | ⟨q, hq, rfl, rfl, hkn⟩
      · (repeat (first | refine gO (by decide) ?_ | ((first | refine gM (mdL [(1, 1), (2, 1), (4, 1)]) ?_ | (with_reducible refine wM ?_ ?_) | ((with_reducible refine xS ?_); refine uD 1 (mdL [(1, 1), (2, 1), (4, 1)]) pSLeastC_71_1E pSLeastC_71_1P 29 rfl (by kernel_rfl) ?_) | ((with_reducible refine xR ?_); refine uE 5 (mdL [(1, 1), (2, 1), (4, 1)]) pSLeastC_71_5E pSLeastC_71_5P 29 rfl (by kernel_rfl) ?_)) <;> ((try with_reducible intro K1 hK1); simp only [go_sem, ↓reduceIte, reduceCtorEq, nA, nB, nC, nD, nE, nF] <;> and_intros <;> first | (apply hK1; clear hK1 K1) | (intros; first | omega | decide | (simp_all <;> omega)) | skip))))
        simp only [Tryz.results71, go_sem, ↓reduceIte, reduceCtorEq, nA, nB, nC, nD, nE, nF]
        exact ⟨_, _, Weak.refl _, Hp.le.refl _, rfl, rfl⟩
      · refine awp_frzLoc 0 5 q 1 (xs := shares.map encI) rfl (by rw [List.length_map]; rfl) (upd_same _ _ _) (fun y hy => by obtain ⟨z, _, rfl⟩ := List.mem_map.1 hy; rfl) ?_
        simp only [upd_upd, upd_noneA hq, List.set_cons_zero, List.set_cons_succ]
        (repeat (first | refine gO (by decide) ?_ | ((first | refine gM (mdL [(1, 1), (2, 1), (4, 1)]) ?_ | (with_reducible refine wM ?_ ?_) | ((with_reducible refine xS ?_); refine uD 1 (mdL [(1, 1), (2, 1), (4, 1)]) pSLeastC_71_1E pSLeastC_71_1P 29 rfl (by kernel_rfl) ?_) | ((with_reducible refine xR ?_); refine uE 5 (mdL [(1, 1), (2, 1), (4, 1)]) pSLeastC_71_5E pSLeastC_71_5P 29 rfl (by kernel_rfl) ?_)) <;> ((try with_reducible intro K1 hK1); simp only [go_sem, ↓reduceIte, reduceCtorEq, nA, nB, nC, nD, nE, nF] <;> and_intros <;> first | (apply hK1; clear hK1 K1) | (intros; first | omega | decide | (simp_all <;> omega)) | skip))))
        simp only [Tryz.results71, go_sem, ↓reduceIte, reduceCtorEq, nA, nB, nC, nD, nE, nF]
        exact ⟨_, _, Weak.refl _, Hp.le.refl _, rfl, rfl⟩
noncomputable def leastR (t : LT) : LT := if faultF t = 0 then leastF t else default
theorem g_LeastP (d : Nat) (t : LT) (h : Hp) (hb : KC d t) (hd : manyF t ≤ 1000000000000000 ∧ d ≤ 1000) : ACalls Tryz.prog 12 [.agg (encL t)] h (fun r h' => r = .tup [.agg (encL (leastR t)), .v (.int .i64 (faultF t))] ∧ h' = h) := by
  have hlt := encL_len t
  have kt : List.take 6 (encL t) = encL t := List.take_of_length_le (Nat.le_of_eq hlt)
  have dt : List.drop 6 (encL t) = [] := List.drop_of_length_le (Nat.le_of_eq hlt)
  have hck := g_check7 d t h hb hd
  refine gE Tryz.func12 rfl (by kernel_rfl) 13 rfl fun c => ?_
  (repeat (first | refine gO (by decide) ?_ | (refine gM (mdL [(1, 1), (2, 1)]) fun K1 hK1 => ?_; simp only [go_sem, ↓reduceIte, reduceCtorEq, nA, nB, nC, nD, nE, nF, hlt, kt, dt] <;> and_intros <;> first | (apply hK1; clear hK1 K1) | (intros; first | omega | decide | (simp_all <;> omega)) | skip)))
  refine hck.mono ?_; rintro _ hz ⟨rfl, hh⟩; apply hK1; clear hK1 K1; rw [hh]; clear hh hz
  (repeat (first | refine gO (by decide) ?_ | (refine gM (mdL [(1, 1), (2, 1)]) fun K1 hK1 => ?_; simp only [go_sem, ↓reduceIte, reduceCtorEq, nA, nB, nC, nD, nE, nF, hlt, kt, dt] <;> and_intros <;> first | (apply hK1; clear hK1 K1) | (intros; first | omega | decide | (simp_all <;> omega)) | skip)))
  by_cases hf : faultF t = 0
  · obtain ⟨s1, s2, s3, s4, s5, s6, s7⟩ := least_small hb hf
    have hg := g_leastP (SizeOf.sizeOf t) t h (Nat.le_refl _) s1 (by omega)
    have hc := g_cloneP (SizeOf.sizeOf (leastF t)) (leastF t) h (Nat.le_refl _) (bl_of _ s5 (by omega))
    have hlu := encL_len (leastF t)
    have ku : List.take 6 (encL (leastF t)) = encL (leastF t) := List.take_of_length_le (Nat.le_of_eq hlu)
    have du : List.drop 6 (encL (leastF t)) = [] := List.drop_of_length_le (Nat.le_of_eq hlu)
    refine awp_cond (t := _) rfl (fun h9 => by rw [hf] at h9; cases h9) (fun _ => ?_)
    (repeat (first | refine gO (by decide) ?_ | (refine gM (mdL [(1, 1), (2, 1)]) fun K1 hK1 => ?_; simp only [go_sem, ↓reduceIte, reduceCtorEq, nA, nB, nC, nD, nE, nF, hlt, kt, dt] <;> and_intros <;> first | (apply hK1; clear hK1 K1) | (intros; first | omega | decide | (simp_all <;> omega)) | skip)))
    refine hg.mono ?_; rintro _ hz ⟨rfl, hh⟩; apply hK1; clear hK1 K1; rw [hh]; clear hh hz
    (repeat (first | refine gO (by decide) ?_ | (refine gM (mdL [(1, 1), (2, 1)]) fun K1 hK1 => ?_; simp only [go_sem, ↓reduceIte, reduceCtorEq, nA, nB, nC, nD, nE, nF, hlt, kt, dt, hlu, ku, du] <;> and_intros <;> first | (apply hK1; clear hK1 K1) | (intros; first | omega | decide | (simp_all <;> omega)) | skip)))
    refine hc.mono ?_; rintro _ hz ⟨rfl, hh⟩; apply hK1; clear hK1 K1; rw [hh]; clear hh hz
    (repeat (first | refine gO (by decide) ?_ | (refine gM (mdL [(1, 1), (2, 1)]) fun K1 hK1 => ?_; simp only [go_sem, ↓reduceIte, reduceCtorEq, nA, nB, nC, nD, nE, nF, hlt, kt, dt, hlu, ku, du] <;> and_intros <;> first | (apply hK1; clear hK1 K1) | (intros; first | omega | decide | (simp_all <;> omega)) | skip)))
    simp only [Tryz.results12, go_sem, ↓reduceIte, reduceCtorEq, nA, nB, nC, nD, nE, nF, hlt, kt, dt, hlu, ku, du]
    have e9 : leastR t = leastF t := by unfold leastR; rw [if_pos hf]
    exact ⟨_, _, Weak.refl _, Hp.le.refl _, by rw [e9, hf], rfl⟩
  · refine awp_cond (t := _) rfl (fun _ => ?_) (fun h9 => by simp [hf] at h9)
    (repeat (first | refine gO (by decide) ?_ | (refine gM (mdL [(1, 1), (2, 1)]) fun K1 hK1 => ?_; simp only [go_sem, ↓reduceIte, reduceCtorEq, nA, nB, nC, nD, nE, nF] <;> and_intros <;> first | (apply hK1; clear hK1 K1) | (intros; first | omega | decide | (simp_all <;> omega)) | skip)))
    simp only [Tryz.results12, go_sem, ↓reduceIte, reduceCtorEq, nA, nB, nC, nD, nE, nF]
    refine ⟨_, _, Weak.tup1 Weak.zeroL (Weak.refl _), Hp.le.refl _, by unfold leastR; rw [if_neg hf], rfl⟩
theorem manyT_big (it : LT) (r : Nat) (h : 100 ≤ r) : manyT it r = repK 100 [it] :: manyT it (r - 100) := by
  have h1 : r / 100 = (r - 100) / 100 + 1 := by omega
  have h2 : (r - 100) % 100 = r % 100 := by omega
  unfold manyT
  rw [h2, h1, List.replicate_succ]; rfl
theorem manyT_small (it : LT) (r : Nat) (h : 1 < r) (h2 : r < 100) : manyT it r = [repK r [it]] := by
  unfold manyT
  rw [show r / 100 = 0 by omega, show r % 100 = r by omega, if_neg (by omega), if_neg (by omega)]; rfl
theorem manyT_1 (it : LT) : manyT it 1 = [it] := rfl
theorem manyT_0 (it : LT) : manyT it 0 = [] := rfl
theorem g_gathR (l : List LT) (h : Hp) (hw : ∀ x ∈ l, WF x) (hl : l.length ≤ 1000) (hf : (flatT l).length ≤ 1000) :
    ACalls Tryz.prog 126 [.row 6 (l.map encL) none] h (fun r h' => r = .row 6 ((gath (flatT l)).map encL) none ∧ h' = h) := by
  have hfw := flatT_wf hw
  refine gE Tryz.func126 rfl (by kernel_rfl) 100 rfl fun c => ?_
  (repeat (first | refine gQ (by decide) ?_ | (refine gM (mdL [(5, 1), (8, 1), (11, 1)]) fun K1 hK1 => ?_; simp only [go_sem, ↓reduceIte, reduceCtorEq, nA, nB, nC, nD, nE, nF] <;> and_intros <;> first | (apply hK1; clear hK1 K1) | (intros; first | omega | decide | (simp_all <;> omega)) | skip)))
  refine awp_seq ?_
  refine awp_own 3 6 rfl ⟨rfl, rfl⟩ (fun k hk => ?_)
  replace hk : h.T k = none := hk
  (repeat (first | refine gO (by decide) ?_ | (refine gM (mdL [(5, 1), (8, 1), (11, 1)]) fun K1 hK1 => ?_; simp only [go_sem, ↓reduceIte, reduceCtorEq, nA, nB, nC, nD, nE, nF] <;> and_intros <;> first | (apply hK1; clear hK1 K1) | (intros; first | omega | decide | (simp_all <;> omega)) | skip)))
  refine awp_loopC (rl false [3, 1, 10, 3, 84]) 0 (fun g s => ∃ j : Nat, g + j = l.length ∧
    s = ⟨((jnk 3 ((.row 6 ((flatT (l.take j)).map encL) (some k)) :: (jnk 10 ((.row 6 (l.map encL) none) :: (.v (.int .i64 l.length)) :: (.v (.int .i64 j)) :: (jnk 84 [])))))), [], ⟨h.H, upd h.T k (some (.tail (flatT (l.take j)).length))⟩⟩) l.length ⟨0, by omega, rfl⟩ ?_
  rintro g _ ⟨j, hj, rfl⟩
  have hfl := flatT_take_le l j
  have hTq : upd h.T k (some (TO.tail (flatT (l.take j)).length)) k = some (.tail (flatT (l.take j)).length) := upd_same _ _ _
  (repeat (first | refine gO (by decide) ?_ | (refine gM (mdL [(5, 1), (8, 1), (11, 1)]) fun K1 hK1 => ?_; simp only [go_sem, ↓reduceIte, reduceCtorEq, nA, nB, nC, nD, nE, nF] <;> and_intros <;> first | (apply hK1; clear hK1 K1) | (intros; first | omega | decide | (simp_all <;> omega)) | skip)))
  refine awp_cond (t := _) rfl (fun h1 => ?_) (fun h1 => ?_)
  · simp only [decide_eq_true_eq] at h1
    have hjl : j < l.length := by omega
    have gx : (l.map encL).getD j [] = encL (l.getD j default) := getD_enc encL l j default hjl
    have tx := take_snoc l j default hjl
    have hwx := hw _ (getD_mem' l j default hjl)
    have hfl2 := flatT_take_le l (j + 1)
    generalize l.getD j default = x at gx tx hwx
    cases x with
    | mk kx ix lx mx ksx sx =>
    have hft : flatT (l.take (j + 1)) = flatT (l.take j) ++ (if kx = 2 then ksx else [.mk kx ix lx mx ksx sx]) := by rw [tx, flatT_snoc]; rfl
    by_cases h2 : kx = 2
    · have e2 : (kx == 2) = true := by simpa using h2
      rw [if_pos h2] at hft
      rw [hft, List.length_append] at hfl2
      (repeat (first | refine gO (by decide) ?_ | (refine gM (mdL [(5, 1), (8, 1), (11, 1)]) fun K1 hK1 => ?_; simp only [go_sem, ↓reduceIte, reduceCtorEq, nA, nB, nC, nD, nE, nF, Int.toNat_natCast, gx, encL_eq] <;> and_intros <;> first | (apply hK1; clear hK1 K1) | (intros; first | omega | decide | (simp_all <;> omega)) | skip)))
      refine awp_cond (t := _) rfl (fun _ => ?_) (fun h3 => by rw [e2] at h3; cases h3)
      (repeat (first | refine gO (by decide) ?_ | (refine gM (mdL [(5, 1), (8, 1), (11, 1)]) fun K1 hK1 => ?_; simp only [go_sem, ↓reduceIte, reduceCtorEq, nA, nB, nC, nD, nE, nF, hTq] <;> and_intros <;> first | (apply hK1; clear hK1 K1) | (intros; first | omega | decide | (simp_all <;> omega)) | skip)))
      refine ⟨g - 1, by omega, j + 1, by omega, ?_⟩
      rw [hft, List.map_append, List.length_append]
      (try simp only [List.length_map])
      rfl
    · have e2 : (kx == 2) = false := by simpa using h2
      rw [if_neg h2] at hft
      rw [hft, List.length_append] at hfl2
      (repeat (first | refine gO (by decide) ?_ | (refine gM (mdL [(5, 1), (8, 1), (11, 1)]) fun K1 hK1 => ?_; simp only [go_sem, ↓reduceIte, reduceCtorEq, nA, nB, nC, nD, nE, nF, Int.toNat_natCast, gx, encL_eq] <;> and_intros <;> first | (apply hK1; clear hK1 K1) | (intros; first | omega | decide | (simp_all <;> omega)) | skip)))
      refine awp_cond (t := _) rfl (fun h3 => by rw [e2] at h3; cases h3) (fun _ => ?_)
      (repeat (first | refine gO (by decide) ?_ | (refine gM (mdL [(5, 1), (8, 1), (11, 1)]) fun K1 hK1 => ?_; simp only [go_sem, ↓reduceIte, reduceCtorEq, nA, nB, nC, nD, nE, nF, hTq] <;> and_intros <;> first | (apply hK1; clear hK1 K1) | (intros; first | omega | decide | (simp_all <;> omega)) | skip)))
      refine ⟨g - 1, by omega, j + 1, by omega, ?_⟩
      rw [hft, List.map_append, List.length_append]
      simp only [List.length_map, List.map_cons, List.map_nil, encL_eq]
      rfl
  · simp only [decide_eq_false_iff_not] at h1
    have hjl : j = l.length := by omega
    subst hjl
    rw [List.take_length] at *
    (repeat (first | refine gQ (by decide) ?_ | (refine gM (mdL [(5, 1), (8, 1), (11, 1)]) fun K1 hK1 => ?_; simp only [go_sem, ↓reduceIte, reduceCtorEq, nA, nB, nC, nD, nE, nF] <;> and_intros <;> first | (apply hK1; clear hK1 K1) | (intros; first | omega | decide | (simp_all <;> omega)) | skip)))
    clear hfl hTq h1 hj
    generalize flatT l = F at hf hfw ⊢
    refine awp_own 6 6 rfl ⟨rfl, rfl⟩ (fun k2 hk2 => ?_)
    replace hk2 : upd h.T k (some (TO.tail F.length)) k2 = none := hk2
    have hne : k2 ≠ k := fun e => by subst e; rw [upd_same] at hk2; cases hk2
    replace hk2 : h.T k2 = none := by rw [← hk2]; exact (upd_other _ _ hne).symm
    have hle : ∀ n, Hp.le h ⟨h.H, upd (upd h.T k (some (.tail F.length))) k2 (some (.tail n))⟩ := fun n => ⟨fun _ => .inr rfl, fun j => by
      by_cases e : j = k2
      · subst e; exact .inl hk2
      · by_cases e2 : j = k
        · subst e2; exact .inl hk
        · exact .inr (by show h.T j = upd (upd h.T k _) k2 _ j; rw [upd_other _ _ e, upd_other _ _ e2])⟩
    (repeat (first | refine gO (by decide) ?_ | (refine gM (mdL [(5, 1), (8, 1), (11, 1)]) fun K1 hK1 => ?_; simp only [go_sem, ↓reduceIte, reduceCtorEq, nA, nB, nC, nD, nE, nF] <;> and_intros <;> first | (apply hK1; clear hK1 K1) | (intros; first | omega | decide | (simp_all <;> omega)) | skip)))
    refine awp_loopC (rl false [3, 1, 2, 2, 93]) 0 (fun g s => ∃ (i : Nat) (ts : List LT) (xs : List (List AV)), g + i = F.length ∧ ts ++ gath (F.drop i) = gath F ∧ XW xs ts ∧
      s = ⟨((jnk 3 ((.row 6 (F.map encL) (some k)) :: AV.junk :: AV.junk :: ((.row 6 xs (some k2)) :: (.v (.int .i64 i)) :: (jnk 93 []))))), [], ⟨h.H, upd (upd h.T k (some (.tail F.length))) k2 (some (.tail xs.length))⟩⟩) F.length ⟨0, [], [], by omega, rfl, XW.nil, rfl⟩ ?_
    rintro g _ ⟨i, ts, xs, hi, hts, hxw, rfl⟩
    have hgl := gath_len _ F (Nat.le_refl _) hfw
    have htl : ts.length ≤ 1000 := by
      have := congrArg List.length hts
      rw [List.length_append] at this; omega
    have hxl : xs.length = ts.length := hxw.1
    have hT2 : upd (upd h.T k (some (TO.tail F.length))) k2 (some (.tail xs.length)) k2 = some (.tail xs.length) := upd_same _ _ _
    (repeat (first | refine gO (by decide) ?_ | (refine gM (mdL [(5, 1), (8, 1), (11, 1)]) fun K1 hK1 => ?_; simp only [go_sem, ↓reduceIte, reduceCtorEq, nA, nB, nC, nD, nE, nF] <;> and_intros <;> first | (apply hK1; clear hK1 K1) | (intros; first | omega | decide | (simp_all <;> omega)) | skip)))
    refine awp_cond (t := _) rfl (fun h1 => ?_) (fun h1 => ?_)
    · simp only [decide_eq_true_eq] at h1
      have hiF : i < F.length := by omega
      have gx : (F.map encL).getD i [] = encL (F.getD i default) := getD_enc encL F i default hiF
      have hdc := drop_cons F i default hiF
      have hwx := hfw _ (getD_mem' F i default hiF)
      generalize F.getD i default = x at gx hdc hwx
      have hlx := encL_len x
      have kx : List.take 6 (encL x) = encL x := List.take_of_length_le (Nat.le_of_eq hlx)
      have dx : List.drop 6 (encL x) = [] := List.drop_of_length_le (Nat.le_of_eq hlx)
      (repeat (first | refine gO (by decide) ?_ | (refine gM (mdL [(5, 1), (8, 1), (11, 1)]) fun K1 hK1 => ?_; simp only [go_sem, ↓reduceIte, reduceCtorEq, nA, nB, nC, nD, nE, nF, Int.toNat_natCast, gx, hlx, kx, dx] <;> and_intros <;> first | (apply hK1; clear hK1 K1) | (intros; first | omega | decide | (simp_all <;> omega)) | skip)))
      refine (g_cntR x _ hwx).mono ?_; rintro _ hz ⟨rfl, hh⟩; apply hK1; clear hK1 K1; rw [hh]; clear hh hz
      cases hc : cnt x with
      | none =>
        have hcd : cntD x = (default, 0) := by rw [cntD, hc]; rfl
        have hld := encL_len default
        have kd : List.take 6 (encL default) = encL default := List.take_of_length_le (Nat.le_of_eq hld)
        have dd : List.drop 6 (encL default) = [] := List.drop_of_length_le (Nat.le_of_eq hld)
        (repeat (first | refine gO (by decide) ?_ | (refine gM (mdL [(5, 1), (8, 1), (11, 1)]) fun K1 hK1 => ?_; simp only [go_sem, ↓reduceIte, reduceCtorEq, nA, nB, nC, nD, nE, nF, hcd, hld, kd, dd] <;> and_intros <;> first | (apply hK1; clear hK1 K1) | (intros; first | omega | decide | (simp_all <;> omega)) | skip)))
        refine awp_cond (t := _) rfl (fun _ => ?_) (fun h => by cases h)
        (repeat (first | refine gO (by decide) ?_ | (refine gM (mdL [(5, 1), (8, 1), (11, 1)]) fun K1 hK1 => ?_; simp only [go_sem, ↓reduceIte, reduceCtorEq, nA, nB, nC, nD, nE, nF, Int.toNat_natCast, gx, hlx, kx, dx, hT2] <;> and_intros <;> first | (apply hK1; clear hK1 K1) | (intros; first | omega | decide | (simp_all <;> omega)) | skip)))
        refine ⟨g - 1, by omega, i + 1, ts ++ [x], _, by omega, ?_, hxw.app (XW.one (t := x) (WL.refl _)), ?_⟩
        · rw [hdc, gath_none _ hc] at hts
          rw [← hts, List.append_assoc]; rfl
        · rw [List.length_append]
          rfl
      | some p =>
        obtain ⟨it, m⟩ := p
        have hok := cnt_ok hwx hc
        have hcd : cntD x = (it, m) := by rw [cntD, hc]; rfl
        have hld := encL_len it
        have kd : List.take 6 (encL it) = encL it := List.take_of_length_le (Nat.le_of_eq hld)
        have dd : List.drop 6 (encL it) = [] := List.drop_of_length_le (Nat.le_of_eq hld)
        have hrb := runN_bd it (F.drop (i + 1)) fun y hy => hfw y (List.mem_of_mem_drop hy)
        have hrl := runN_len it (F.drop (i + 1))
        have hri : runN it (F.drop i) = (m + (runN it (F.drop (i + 1))).1, (runN it (F.drop (i + 1))).2 + 1) := by rw [hdc]; exact run_step hc
        have hm0 : (m == 0) = false := by simp; omega
        rw [hdc, gath_some _ hc] at hts
        (repeat (first | refine gQ (by decide) ?_ | (refine gM (mdL [(5, 1), (8, 1), (11, 1)]) fun K1 hK1 => ?_; simp only [go_sem, ↓reduceIte, reduceCtorEq, nA, nB, nC, nD, nE, nF, hcd, hld, kd, dd] <;> and_intros <;> first | (apply hK1; clear hK1 K1) | (intros; first | omega | decide | (simp_all <;> omega)) | skip)))
        refine awp_seq ?_
        (repeat (first | refine gQ (by decide) ?_ | (refine gM (mdL [(5, 1), (8, 1), (11, 1)]) fun K1 hK1 => ?_; simp only [go_sem, ↓reduceIte, reduceCtorEq, nA, nB, nC, nD, nE, nF, hm0] <;> and_intros <;> first | (apply hK1; clear hK1 K1) | (intros; first | omega | decide | (simp_all <;> omega)) | skip)))
        refine awp_cond (t := _) rfl (fun h => by cases h) (fun _ => ?_)
        (repeat (first | refine gQ (by decide) ?_ | (refine gM (mdL [(5, 1), (8, 1), (11, 1)]) fun K1 hK1 => ?_; simp only [go_sem, ↓reduceIte, reduceCtorEq, nA, nB, nC, nD, nE, nF] <;> and_intros <;> first | (apply hK1; clear hK1 K1) | (intros; first | omega | decide | (simp_all <;> omega)) | skip)))
        refine awp_seqJ (rl false [3, 1, 2, 3, 1, 1, 90]) 1 (fun s => ∃ (i2 N : Nat), i2 ≤ F.length ∧ i + 1 ≤ i2 ∧ N ≤ 100000 ∧ ts ++ manyT it N ++ gath (F.drop i2) = gath F ∧
          s = ⟨((jnk 3 ((.row 6 (F.map encL) (some k)) :: AV.junk :: AV.junk :: ((.row 6 xs (some k2)) :: (.v (.int .i64 i2)) :: (.loc 0 0) :: AV.junk :: ((.v (.int .i64 N)) :: (jnk 90 [])))))), [encL it], ⟨h.H, upd (upd h.T k (some (.tail F.length))) k2 (some (.tail xs.length))⟩⟩) ?_ ?_
        · (repeat (first | refine gO (by decide) ?_ | (refine gM (mdL [(5, 1), (8, 1), (11, 1)]) fun K1 hK1 => ?_; simp only [go_sem, ↓reduceIte, reduceCtorEq, nA, nB, nC, nD, nE, nF] <;> and_intros <;> first | (apply hK1; clear hK1 K1) | (intros; first | omega | decide | (simp_all <;> omega)) | skip)))
          refine awp_loopC (rl false [3, 1, 2, 3, 1, 1, 90]) 1 (fun g s => ∃ (i2 : Nat) (n2 : Int), g + i2 = F.length ∧ n2 + (runN it (F.drop i2)).1 = (runN it (F.drop i)).1 ∧ i2 + (runN it (F.drop i2)).2 = i + (runN it (F.drop i)).2 ∧ (0 ≤ n2 ∧ n2 ≤ 100 * i2) ∧
            s = ⟨((jnk 3 ((.row 6 (F.map encL) (some k)) :: AV.junk :: AV.junk :: ((.row 6 xs (some k2)) :: (.v (.int .i64 i2)) :: (.loc 0 0) :: AV.junk :: ((.v (.int .i64 n2)) :: (jnk 90 [])))))), [encL it], ⟨h.H, upd (upd h.T k (some (.tail F.length))) k2 (some (.tail xs.length))⟩⟩) (F.length - i) ⟨i, 0, by omega, by omega, rfl, by omega, rfl⟩ ?_
          rintro g2 _ ⟨i2, n2, hg2, hn2, hc2, hb2, rfl⟩
          have fin : runN it (F.drop i2) = (0, 0) → i + 1 ≤ i2 ∧ ts ++ manyT it n2.toNat ++ gath (F.drop i2) = gath F := fun h0 => by
            rw [h0, hri] at hn2 hc2
            simp only [Int.add_zero, Nat.add_zero] at hn2 hc2
            refine ⟨by omega, ?_⟩
            rw [← hts, hn2, show i2 = i + 1 + (runN it (F.drop (i + 1))).2 by omega, List.drop_drop, List.append_assoc]
          have hnt : ((n2.toNat : Nat) : Int) = n2 := by omega
          (repeat (first | refine gO (by decide) ?_ | (refine gM (mdL [(5, 1), (8, 1), (11, 1)]) fun K1 hK1 => ?_; simp only [go_sem, ↓reduceIte, reduceCtorEq, nA, nB, nC, nD, nE, nF] <;> and_intros <;> first | (apply hK1; clear hK1 K1) | (intros; first | omega | decide | (simp_all <;> omega)) | skip)))
          refine awp_cond (t := _) rfl (fun h3 => ?_) (fun h3 => ?_)
          · simp only [decide_eq_true_eq] at h3
            have hiF2 : i2 < F.length := by omega
            have gy : (F.map encL).getD i2 [] = encL (F.getD i2 default) := getD_enc encL F i2 default hiF2
            have hdy := drop_cons F i2 default hiF2
            have hwy := hfw _ (getD_mem' F i2 default hiF2)
            generalize F.getD i2 default = y at gy hdy hwy
            have hly := encL_len y
            have ky : List.take 6 (encL y) = encL y := List.take_of_length_le (Nat.le_of_eq hly)
            have dy : List.drop 6 (encL y) = [] := List.drop_of_length_le (Nat.le_of_eq hly)
            (repeat (first | refine gO (by decide) ?_ | (refine gM (mdL [(5, 1), (8, 1), (11, 1)]) fun K1 hK1 => ?_; simp only [go_sem, ↓reduceIte, reduceCtorEq, nA, nB, nC, nD, nE, nF, Int.toNat_natCast, gy, hly, ky, dy] <;> and_intros <;> first | (apply hK1; clear hK1 K1) | (intros; first | omega | decide | (simp_all <;> omega)) | skip)))
            refine (g_cntR y _ hwy).mono ?_; rintro _ hz ⟨rfl, hh⟩; apply hK1; clear hK1 K1; rw [hh]; clear hh hz
            cases hcy : cnt y with
            | none =>
              have h00 : ((0 : Int) == 0) = true := rfl
              have hcd2 : cntD y = (default, 0) := by rw [cntD, hcy]; rfl
              have hl0 := encL_len default
              have k0 : List.take 6 (encL default) = encL default := List.take_of_length_le (Nat.le_of_eq hl0)
              have d0 : List.drop 6 (encL default) = [] := List.drop_of_length_le (Nat.le_of_eq hl0)
              have hst : runN it (F.drop i2) = (0, 0) := by rw [hdy]; exact run_stop0 fun m' h' => by rw [hcy] at h'; cases h'
              (repeat (first | refine gO (by decide) ?_ | (refine gM (mdL [(5, 1), (8, 1), (11, 1)]) fun K1 hK1 => ?_; simp only [go_sem, ↓reduceIte, reduceCtorEq, nA, nB, nC, nD, nE, nF, hcd2, h00, hl0, k0, d0] <;> and_intros <;> first | (apply hK1; clear hK1 K1) | (intros; first | omega | decide | (simp_all <;> omega)) | skip)))
              refine ⟨.v (.bool true), rfl, hK1 _ ?_⟩
              clear hK1 K1
              (repeat (first | refine gO (by decide) ?_ | (refine gM (mdL [(5, 1), (8, 1), (11, 1)]) fun K1 hK1 => ?_; simp only [go_sem, ↓reduceIte, reduceCtorEq, nA, nB, nC, nD, nE, nF, hcd2, h00, hl0, k0, d0] <;> and_intros <;> first | (apply hK1; clear hK1 K1) | (intros; first | omega | decide | (simp_all <;> omega)) | skip)))
              refine awp_cond (t := _) rfl (fun _ => ?_) (fun h => by cases h)
              (repeat (first | refine gO (by decide) ?_ | (refine gM (mdL [(5, 1), (8, 1), (11, 1)]) fun K1 hK1 => ?_; simp only [go_sem, ↓reduceIte, reduceCtorEq, nA, nB, nC, nD, nE, nF] <;> and_intros <;> first | (apply hK1; clear hK1 K1) | (intros; first | omega | decide | (simp_all <;> omega)) | skip)))
              exact ⟨i2, n2.toNat, by omega, (fin hst).1, by omega, (fin hst).2, by rw [hnt]; rfl⟩
            | some p2 =>
              obtain ⟨it2, m2⟩ := p2
              have hok2 := cnt_ok hwy hcy
              have hcd2 : cntD y = (it2, m2) := by rw [cntD, hcy]; rfl
              have hl0 := encL_len it2
              have k0 : List.take 6 (encL it2) = encL it2 := List.take_of_length_le (Nat.le_of_eq hl0)
              have d0 : List.drop 6 (encL it2) = [] := List.drop_of_length_le (Nat.le_of_eq hl0)
              have hm2 : (m2 == 0) = false := by simp; omega
              (repeat (first | refine gO (by decide) ?_ | (refine gM (mdL [(5, 1), (8, 1), (11, 1)]) fun K1 hK1 => ?_; simp only [go_sem, ↓reduceIte, reduceCtorEq, nA, nB, nC, nD, nE, nF, hcd2, hm2, hl0, k0, d0, kd, hld, dd] <;> and_intros <;> first | (apply hK1; clear hK1 K1) | (intros; first | omega | decide | (simp_all <;> omega)) | skip)))
              refine (g_same (SizeOf.sizeOf it2) it2 it _ (Nat.le_refl _) (item_BL hok2.1 hok2.2.1) (item_BL hok.1 hok.2.1)).mono ?_; rintro _ hz ⟨rfl, hh⟩; refine ⟨rfl, hK1 _ ?_⟩; clear hK1 K1; rw [hh]; clear hh hz
              (repeat (first | refine gO (by decide) ?_ | (refine gM (mdL [(5, 1), (8, 1), (11, 1)]) fun K1 hK1 => ?_; simp only [go_sem, ↓reduceIte, reduceCtorEq, nA, nB, nC, nD, nE, nF] <;> and_intros <;> first | (apply hK1; clear hK1 K1) | (intros; first | omega | decide | (simp_all <;> omega)) | skip)))
              refine awp_cond (t := _) rfl (fun h4 => ?_) (fun h4 => ?_)
              · have e4 : it2 ≠ it := sameB_false.1 (by simpa using h4)
                have hst : runN it (F.drop i2) = (0, 0) := by
                  rw [hdy]
                  exact run_stop0 fun m' h' => by
                    rw [hcy] at h'
                    simp only [Option.some.injEq, Prod.mk.injEq] at h'
                    exact e4 h'.1
                (repeat (first | refine gO (by decide) ?_ | (refine gM (mdL [(5, 1), (8, 1), (11, 1)]) fun K1 hK1 => ?_; simp only [go_sem, ↓reduceIte, reduceCtorEq, nA, nB, nC, nD, nE, nF] <;> and_intros <;> first | (apply hK1; clear hK1 K1) | (intros; first | omega | decide | (simp_all <;> omega)) | skip)))
                exact ⟨i2, n2.toNat, by omega, (fin hst).1, by omega, (fin hst).2, by rw [hnt]; rfl⟩
              · have e4 : it2 = it := sameB_true.1 (by simpa using h4)
                subst e4
                have hst : runN it2 (F.drop i2) = (m2 + (runN it2 (F.drop (i2 + 1))).1, (runN it2 (F.drop (i2 + 1))).2 + 1) := by rw [hdy]; exact run_step hcy
                rw [hst] at hn2 hc2
                simp only at hn2 hc2
                (repeat (first | refine gO (by decide) ?_ | (refine gM (mdL [(5, 1), (8, 1), (11, 1)]) fun K1 hK1 => ?_; simp only [go_sem, ↓reduceIte, reduceCtorEq, nA, nB, nC, nD, nE, nF] <;> and_intros <;> first | (apply hK1; clear hK1 K1) | (intros; first | omega | decide | (simp_all <;> omega)) | skip)))
                exact ⟨g2 - 1, by omega, i2 + 1, n2 + m2, by omega, by omega, by omega, by omega, rfl⟩
          · simp only [decide_eq_false_iff_not] at h3
            have hst : runN it (F.drop i2) = (0, 0) := by rw [List.drop_of_length_le (by omega)]; rfl
            (repeat (first | refine gO (by decide) ?_ | (refine gM (mdL [(5, 1), (8, 1), (11, 1)]) fun K1 hK1 => ?_; simp only [go_sem, ↓reduceIte, reduceCtorEq, nA, nB, nC, nD, nE, nF] <;> and_intros <;> first | (apply hK1; clear hK1 K1) | (intros; first | omega | decide | (simp_all <;> omega)) | skip)))
            exact ⟨i2, n2.toNat, by omega, (fin hst).1, by omega, (fin hst).2, by rw [hnt]; rfl⟩
        · rintro _ ⟨i2, N, hi2, hii, hN, hG, rfl⟩
          have hml : ts.length + (manyT it N).length ≤ 1000 := by
            have := congrArg List.length hG
            rw [List.length_append, List.length_append] at this; omega
          (repeat (first | refine gO (by decide) ?_ | (refine gM (mdL [(5, 1), (8, 1), (11, 1)]) fun K1 hK1 => ?_; simp only [go_sem, ↓reduceIte, reduceCtorEq, nA, nB, nC, nD, nE, nF] <;> and_intros <;> first | (apply hK1; clear hK1 K1) | (intros; first | omega | decide | (simp_all <;> omega)) | skip)))
          refine awp_loopC (rl false [3, 1, 2, 3, 1, 1, 90]) 1 (fun g s => ∃ (pre : List LT) (ys : List (List AV)), XW ys (ts ++ pre) ∧ pre ++ manyT it g = manyT it N ∧ g ≤ N ∧
            s = ⟨((jnk 3 ((.row 6 (F.map encL) (some k)) :: AV.junk :: AV.junk :: ((.row 6 ys (some k2)) :: (.v (.int .i64 i2)) :: (.loc 0 0) :: AV.junk :: ((.v (.int .i64 g)) :: (jnk 90 [])))))), [encL it], ⟨h.H, upd (upd h.T k (some (.tail F.length))) k2 (some (.tail ys.length))⟩⟩) N ⟨[], xs, by rw [List.append_nil]; exact hxw, rfl, Nat.le_refl _, rfl⟩ ?_
          rintro r _ ⟨pre, ys, hyw, hpre, hrN, rfl⟩
          have hyl : ys.length ≤ 1000 := by
            rw [hyw.1, List.length_append]
            have := congrArg List.length hpre
            rw [List.length_append] at this; omega
          have hT3 : upd (upd h.T k (some (TO.tail F.length))) k2 (some (.tail ys.length)) k2 = some (.tail ys.length) := upd_same _ _ _
          (repeat (first | refine gO (by decide) ?_ | (refine gM (mdL [(5, 1), (8, 1), (11, 1)]) fun K1 hK1 => ?_; simp only [go_sem, ↓reduceIte, reduceCtorEq, nA, nB, nC, nD, nE, nF] <;> and_intros <;> first | (apply hK1; clear hK1 K1) | (intros; first | omega | decide | (simp_all <;> omega)) | skip)))
          refine awp_cond (t := _) rfl (fun h3 => ?_) (fun h3 => ?_)
          · simp only [decide_eq_true_eq] at h3
            by_cases hr : 100 ≤ r
            · have hmin : min (r : Int) 100 = 100 := by omega
              (repeat (first | refine gO (by decide) ?_ | (refine gM (mdL [(5, 1), (8, 1), (11, 1)]) fun K1 hK1 => ?_; simp only [go_sem, ↓reduceIte, reduceCtorEq, nA, nB, nC, nD, nE, nF, hld, kd, dd, hT3, hmin] <;> and_intros <;> first | (apply hK1; clear hK1 K1) | (intros; first | omega | decide | (simp_all <;> omega)) | skip)))
              refine ⟨r - 100, by omega, pre ++ [repK 100 [it]], ys ++ [[.v (.int .i64 5), .v (.string ⟨#[]⟩), .v (.int .i64 0), .v (.int .i64 100), .row 6 [encL it] none, .v (.slice none 0 0)]], ?_, ?_, by omega, ?_⟩
              rotate_left 2
              · rw [show ((r - 100 : Nat) : Int) = (r : Int) - 100 by omega, List.length_append]; rfl
              · rw [← List.append_assoc]; exact hyw.app (XW.one (rep_wl 100 it))
              · rw [← hpre, manyT_big it r hr, List.append_assoc]; rfl
            · have hmin : min (r : Int) 100 = r := by omega
              (repeat (first | refine gO (by decide) ?_ | (refine gM (mdL [(5, 1), (8, 1), (11, 1)]) fun K1 hK1 => ?_; simp only [go_sem, ↓reduceIte, reduceCtorEq, nA, nB, nC, nD, nE, nF, hld, kd, dd, hT3, hmin] <;> and_intros <;> first | (apply hK1; clear hK1 K1) | (intros; first | omega | decide | (simp_all <;> omega)) | skip)))
              refine ⟨0, by omega, pre ++ [repK r [it]], ys ++ [[.v (.int .i64 5), .v (.string ⟨#[]⟩), .v (.int .i64 0), .v (.int .i64 r), .row 6 [encL it] none, .v (.slice none 0 0)]], ?_, ?_, by omega, ?_⟩
              rotate_left 2
              · rw [show ((0 : Nat) : Int) = (r : Int) - r by omega, List.length_append]; rfl
              · rw [← List.append_assoc]; exact hyw.app (XW.one (rep_wl r it))
              · rw [← hpre, manyT_small it r (by omega) (by omega), manyT_0, List.append_nil]
          · simp only [decide_eq_false_iff_not] at h3
            by_cases hr : r = 1
            · have hr1 : ((r : Int) == 1) = true := by simp; omega
              (repeat (first | refine gO (by decide) ?_ | (refine gM (mdL [(5, 1), (8, 1), (11, 1)]) fun K1 hK1 => ?_; simp only [go_sem, ↓reduceIte, reduceCtorEq, nA, nB, nC, nD, nE, nF, hr1] <;> and_intros <;> first | (apply hK1; clear hK1 K1) | (intros; first | omega | decide | (simp_all <;> omega)) | skip)))
              refine awp_cond (t := _) rfl (fun _ => ?_) (fun h => by cases h)
              (repeat (first | refine gO (by decide) ?_ | (refine gM (mdL [(5, 1), (8, 1), (11, 1)]) fun K1 hK1 => ?_; simp only [go_sem, ↓reduceIte, reduceCtorEq, nA, nB, nC, nD, nE, nF, hld, kd, dd, hT3] <;> and_intros <;> first | (apply hK1; clear hK1 K1) | (intros; first | omega | decide | (simp_all <;> omega)) | skip)))
              refine ⟨F.length - i2, by omega, i2, ts ++ manyT it N, ys ++ [encL it], by omega, hG, ?_, ?_⟩
              rotate_left
              · rw [List.length_append]; rfl
              · rw [← hpre, hr, manyT_1, ← List.append_assoc]; exact hyw.app (XW.one (t := it) (WL.refl _))
            · have hr1 : ((r : Int) == 1) = false := by simp; omega
              (repeat (first | refine gO (by decide) ?_ | (refine gM (mdL [(5, 1), (8, 1), (11, 1)]) fun K1 hK1 => ?_; simp only [go_sem, ↓reduceIte, reduceCtorEq, nA, nB, nC, nD, nE, nF, hr1] <;> and_intros <;> first | (apply hK1; clear hK1 K1) | (intros; first | omega | decide | (simp_all <;> omega)) | skip)))
              refine awp_cond (t := _) rfl (fun h => by cases h) (fun _ => ?_)
              (repeat (first | refine gO (by decide) ?_ | (refine gM (mdL [(5, 1), (8, 1), (11, 1)]) fun K1 hK1 => ?_; simp only [go_sem, ↓reduceIte, reduceCtorEq, nA, nB, nC, nD, nE, nF] <;> and_intros <;> first | (apply hK1; clear hK1 K1) | (intros; first | omega | decide | (simp_all <;> omega)) | skip)))
              refine ⟨F.length - i2, by omega, i2, ts ++ manyT it N, ys, by omega, hG, ?_, rfl⟩
              rw [← hpre, show r = 0 by omega, manyT_0, List.append_nil]; exact hyw
    · simp only [decide_eq_false_iff_not] at h1
      rw [List.drop_of_length_le (by omega), gath_nil, List.append_nil] at hts
      (repeat (first | refine gO (by decide) ?_ | (refine gM (mdL [(5, 1), (8, 1), (11, 1)]) fun K1 hK1 => ?_; simp only [go_sem, ↓reduceIte, reduceCtorEq, nA, nB, nC, nD, nE, nF] <;> and_intros <;> first | (apply hK1; clear hK1 K1) | (intros; first | omega | decide | (simp_all <;> omega)) | skip)))
      simp only [Tryz.results126, go_sem, ↓reduceIte, reduceCtorEq, nA, nB, nC, nD, nE, nF]
      exact ⟨_, _, hxw.weak (some k2), hle _, by rw [hts], rfl⟩
end Go.Proofs.YtoleejecmefogaaGreatDoor
