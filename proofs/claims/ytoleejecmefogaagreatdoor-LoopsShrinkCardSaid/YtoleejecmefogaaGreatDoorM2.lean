/- All as at the beginning: loop.part.begins and signref1.runner.home. -/
import Derived.Test.YtoleejecmefogaaGreatDoorM1
namespace Go.Proofs.YtoleejecmefogaaGreatDoor
open Go
set_option linter.unusedVariables false
set_option linter.unusedSimpArgs false
open Nat renaming reduceAdd → nA, reduceSub → nB, reduceMul → nC, reduceLT → nD, reduceLeDiff → nE, reduceEqDiff → nF
abbrev pSHomeG_131_6E : List Nat := [0, 1, 2, 3, 4, 5, 6, 7, 8]
abbrev pSHomeG_131_6P : List (Nat × List Nat × List Nat) := [(9, [3], [10, 11])]
attribute [go_sem] pSHomeG_131_6E pSHomeG_131_6P
set_option maxRecDepth 100000
set_option maxHeartbeats 8000000
theorem g_ixP (fid : Nat) (xs : List AT) (K : AV) (hK : kidsC xs K) (hl : xs.length ≤ 100000) (I P : Nat → Hp → Prop) (h : Hp) (h0 : I 0 h)
    (step : ∀ j h, j < xs.length → I j h → ACalls Tryz.prog fid [.ptr (xs.getD j default).id 0] h (fun r h' => ∃ b, r = .v (.bool b) ∧ (b = true → P j h') ∧ (b = false → I (j + 1) h'))) :
    ACalls Tryz.prog 221 [K, .fn fid []] h (fun r h' => (∃ j : Nat, j < xs.length ∧ r = .v (.int .i64 j) ∧ P j h') ∨ r = .v (.int .i64 (-1)) ∧ I xs.length h') := by
  rcases hK with ⟨rfl, rfl⟩ | ⟨tk, rfl⟩
  · refine gE Tryz.func221 rfl (by kernel_rfl) 17 rfl fun c => ?_
    (repeat (first | refine gO (by decide) ?_ | (refine gR fun K1 hK1 => ?_; simp only [go_sem, ↓reduceIte, reduceCtorEq, nA, nB, nC, nD, nE, nF] <;> and_intros <;> first | (apply hK1; clear hK1 K1) | (intros; first | omega | decide | (simp_all <;> omega)) | skip)))
    refine awp_loopC (rl false [7, 2, 10]) 0 (fun g s => s = ⟨((jnk 7 ((.v (.int .i64 0)) :: (.v (.int .i64 0)) :: (jnk 10 [])))), [], h⟩) 0 rfl ?_
    rintro g _ rfl
    (repeat (first | refine gO (by decide) ?_ | (refine gR fun K1 hK1 => ?_; simp only [go_sem, ↓reduceIte, reduceCtorEq, nA, nB, nC, nD, nE, nF] <;> and_intros <;> first | (apply hK1; clear hK1 K1) | (intros; first | omega | decide | (simp_all <;> omega)) | skip)))
    refine awp_cond (t := _) rfl (fun h1 => by cases h1) (fun h1 => ?_)
    (repeat (first | refine gO (by decide) ?_ | (refine gR fun K1 hK1 => ?_; simp only [go_sem, ↓reduceIte, reduceCtorEq, nA, nB, nC, nD, nE, nF] <;> and_intros <;> first | (apply hK1; clear hK1 K1) | (intros; first | omega | decide | (simp_all <;> omega)) | skip)))
    simp only [Tryz.results221, go_sem, ↓reduceIte, reduceCtorEq, nA, nB, nC, nD, nE, nF]
    exact ⟨_, _, Weak.refl _, Hp.le.refl _, .inr ⟨rfl, h0⟩⟩
  · refine gE Tryz.func221 rfl (by kernel_rfl) 17 rfl fun c => ?_
    (repeat (first | refine gO (by decide) ?_ | (refine gR fun K1 hK1 => ?_; simp only [go_sem, ↓reduceIte, reduceCtorEq, nA, nB, nC, nD, nE, nF] <;> and_intros <;> first | (apply hK1; clear hK1 K1) | (intros; first | omega | decide | (simp_all <;> omega)) | skip)))
    refine awp_loopC (rl false [0, 2, 5, 2, 10]) 0 (fun g s => ∃ (j : Nat) (h' : Hp), g + j = xs.length ∧ I j h' ∧ s = ⟨((.row 1 (xs.map fun a => [.ptr a.id 0]) tk) :: (.fn fid []) :: (jnk 5 ((.v (.int .i64 xs.length)) :: (.v (.int .i64 j)) :: (jnk 10 [])))), [], h'⟩) xs.length ⟨0, h, by omega, h0, rfl⟩ ?_
    rintro g _ ⟨j, h', hj, hI, rfl⟩
    (repeat (first | refine gO (by decide) ?_ | (refine gR fun K1 hK1 => ?_; simp only [go_sem, ↓reduceIte, reduceCtorEq, nA, nB, nC, nD, nE, nF] <;> and_intros <;> first | (apply hK1; clear hK1 K1) | (intros; first | omega | decide | (simp_all <;> omega)) | skip)))
    refine awp_cond (t := _) rfl (fun h1 => ?_) (fun h1 => ?_)
    · simp only [decide_eq_true_eq] at h1
      have hjk : j < xs.length := by omega
      have hg : (xs.map fun a : AT => [AV.ptr a.id 0]).getD j [] = [.ptr (xs.getD j default).id 0] := getD_enc (fun a : AT => [AV.ptr a.id 0]) xs j default hjk
      have st := step j h' hjk hI
      (repeat (first | refine gO (by decide) ?_ | (refine gR fun K1 hK1 => ?_; simp only [go_sem, ↓reduceIte, reduceCtorEq, nA, nB, nC, nD, nE, nF, Int.toNat_natCast, hg] <;> and_intros <;> first | (apply hK1; clear hK1 K1) | (intros; first | omega | decide | (simp_all <;> omega)) | skip)))
      refine st.mono ?_; rintro _ _ ⟨b, rfl, hb1, hb2⟩; apply hK1; clear hK1 K1
      (repeat (first | refine gO (by decide) ?_ | (refine gR fun K1 hK1 => ?_; simp only [go_sem, ↓reduceIte, reduceCtorEq, nA, nB, nC, nD, nE, nF] <;> and_intros <;> first | (apply hK1; clear hK1 K1) | (intros; first | omega | decide | (simp_all <;> omega)) | skip)))
      refine awp_cond (t := _) rfl (fun h2 => ?_) (fun h2 => ?_)
      · (repeat (first | refine gO (by decide) ?_ | (refine gR fun K1 hK1 => ?_; simp only [go_sem, ↓reduceIte, reduceCtorEq, nA, nB, nC, nD, nE, nF] <;> and_intros <;> first | (apply hK1; clear hK1 K1) | (intros; first | omega | decide | (simp_all <;> omega)) | skip)))
        simp only [Tryz.results221, go_sem, ↓reduceIte, reduceCtorEq, nA, nB, nC, nD, nE, nF]
        exact ⟨_, _, Weak.refl _, Hp.le.refl _, .inl ⟨j, hjk, rfl, hb1 h2⟩⟩
      · (repeat (first | refine gO (by decide) ?_ | (refine gR fun K1 hK1 => ?_; simp only [go_sem, ↓reduceIte, reduceCtorEq, nA, nB, nC, nD, nE, nF] <;> and_intros <;> first | (apply hK1; clear hK1 K1) | (intros; first | omega | decide | (simp_all <;> omega)) | skip)))
        exact ⟨g - 1, by omega, j + 1, _, by omega, hb2 h2, rfl⟩
    · simp only [decide_eq_false_iff_not] at h1
      have hjk : j = xs.length := by omega
      subst hjk
      (repeat (first | refine gO (by decide) ?_ | (refine gR fun K1 hK1 => ?_; simp only [go_sem, ↓reduceIte, reduceCtorEq, nA, nB, nC, nD, nE, nF] <;> and_intros <;> first | (apply hK1; clear hK1 K1) | (intros; first | omega | decide | (simp_all <;> omega)) | skip)))
      simp only [Tryz.results221, go_sem, ↓reduceIte, reduceCtorEq, nA, nB, nC, nD, nE, nF]
      exact ⟨_, _, Weak.refl _, Hp.le.refl _, .inr ⟨rfl, hI⟩⟩
theorem g_coP (fid : Nat) (xs : List AT) (K : AV) (hK : kidsC xs K) (hl : xs.length ≤ 100000) (q : Nat → Bool) (h : Hp)
    (step : ∀ j, j < xs.length → ACalls Tryz.prog fid [.ptr (xs.getD j default).id 0] h (fun r h' => r = .v (.bool (!q j)) ∧ h' = h)) :
    ACalls Tryz.prog 179 [K, .fn fid []] h (fun r h' => r = .v (.bool (!(List.range xs.length).all q)) ∧ h' = h) := by
  have hi := g_ixP fid xs K hK hl (fun j h' => h' = h ∧ ∀ l, l < j → q l = true) (fun j h' => h' = h ∧ q j = false) h ⟨rfl, fun l hl => by omega⟩ (fun j h' hj ⟨e, hI⟩ => by
    rw [e]
    refine (step j hj).mono ?_
    rintro _ h2 ⟨rfl, e2⟩
    refine ⟨_, rfl, fun hb => ⟨e2, by simpa using hb⟩, fun hb => ⟨e2, fun l hl => ?_⟩⟩
    by_cases hlj : l = j
    · rw [hlj]; simpa using hb
    · exact hI l (by omega))
  have o3 : OneV K := by rcases hK with ⟨_, rfl⟩ | ⟨tk, rfl⟩ <;> exact ⟨rfl, rfl, rfl, rfl, rfl⟩
  obtain ⟨w1, w2, w3, w4, w5⟩ := o3
  unfold uside at w1; unfold unw at w2; unfold AV.noLoc at w3; unfold isOpt at w4; simp only [AV.cellsB, Value.oneCell'] at w5
  refine gE Tryz.func179 rfl (by kernel_rfl) 7 rfl fun c => ?_
  (repeat (first | refine gO (by decide) ?_ | (refine gR fun K1 hK1 => ?_; simp only [go_sem, ↓reduceIte, reduceCtorEq, nA, nB, nC, nD, nE, nF, w1, w2, w3, w4, w5] <;> and_intros <;> first | (apply hK1; clear hK1 K1) | (intros; first | omega | decide | (simp_all <;> omega)) | skip)))
  refine hi.mono ?_
  rintro _ h' (⟨j, hj, rfl, rfl, hp⟩ | ⟨rfl, rfl, hi9⟩)
  · refine hK1 _ ?_; clear hK1 K1
    have e9 : (List.range xs.length).all q = false := by
      rw [List.all_eq_false]
      exact ⟨j, by simpa using hj, by rw [hp]; simp⟩
    (repeat (first | refine gO (by decide) ?_ | (refine gR fun K1 hK1 => ?_; simp only [go_sem, ↓reduceIte, reduceCtorEq, nA, nB, nC, nD, nE, nF] <;> and_intros <;> first | (apply hK1; clear hK1 K1) | (intros; first | omega | decide | (simp_all <;> omega)) | skip)))
    simp only [Tryz.results179, go_sem, ↓reduceIte, reduceCtorEq, nA, nB, nC, nD, nE, nF]
    exact ⟨_, _, Weak.refl _, Hp.le.refl _, by rw [e9]; simp, rfl⟩
  · refine hK1 _ ?_; clear hK1 K1
    have e9 : (List.range xs.length).all q = true := by
      rw [List.all_eq_true]
      exact fun l hl => hi9 l (by simpa using hl)
    (repeat (first | refine gO (by decide) ?_ | (refine gR fun K1 hK1 => ?_; simp only [go_sem, ↓reduceIte, reduceCtorEq, nA, nB, nC, nD, nE, nF] <;> and_intros <;> first | (apply hK1; clear hK1 K1) | (intros; first | omega | decide | (simp_all <;> omega)) | skip)))
    simp only [Tryz.results179, go_sem, ↓reduceIte, reduceCtorEq, nA, nB, nC, nD, nE, nF]
    exact ⟨_, _, Weak.refl _, Hp.le.refl _, by rw [e9]; simp, rfl⟩
theorem g_ixR (fid : Nat) (xs : List AT) (K : AV) (hK : kidsC xs K) (hl : xs.length ≤ 100000) (I P : Nat → Hp → Prop) (h : Hp) (h0 : I 0 h)
    (step : ∀ j h, j < xs.length → I j h → ACalls Tryz.prog fid [.ptr (xs.getD j default).id 0] h (fun r h' => ∃ b, r = .v (.bool b) ∧ (b = true → P j h') ∧ (b = false → I (j + 1) h'))) :
    ACalls Tryz.prog 222 [K, .fn fid []] h (fun r h' => (∃ j : Nat, j < xs.length ∧ r = .v (.int .i64 j) ∧ P j h') ∨ r = .v (.int .i64 (-1)) ∧ I xs.length h') := by
  rcases hK with ⟨rfl, rfl⟩ | ⟨tk, rfl⟩
  · refine gE Tryz.func222 rfl (by kernel_rfl) 17 rfl fun c => ?_
    (repeat (first | refine gO (by decide) ?_ | (refine gR fun K1 hK1 => ?_; simp only [go_sem, ↓reduceIte, reduceCtorEq, nA, nB, nC, nD, nE, nF] <;> and_intros <;> first | (apply hK1; clear hK1 K1) | (intros; first | omega | decide | (simp_all <;> omega)) | skip)))
    refine awp_loopC (rl false [7, 2, 10]) 0 (fun g s => s = ⟨((jnk 7 ((.v (.int .i64 0)) :: (.v (.int .i64 0)) :: (jnk 10 [])))), [], h⟩) 0 rfl ?_
    rintro g _ rfl
    (repeat (first | refine gO (by decide) ?_ | (refine gR fun K1 hK1 => ?_; simp only [go_sem, ↓reduceIte, reduceCtorEq, nA, nB, nC, nD, nE, nF] <;> and_intros <;> first | (apply hK1; clear hK1 K1) | (intros; first | omega | decide | (simp_all <;> omega)) | skip)))
    refine awp_cond (t := _) rfl (fun h1 => by cases h1) (fun h1 => ?_)
    (repeat (first | refine gO (by decide) ?_ | (refine gR fun K1 hK1 => ?_; simp only [go_sem, ↓reduceIte, reduceCtorEq, nA, nB, nC, nD, nE, nF] <;> and_intros <;> first | (apply hK1; clear hK1 K1) | (intros; first | omega | decide | (simp_all <;> omega)) | skip)))
    simp only [Tryz.results222, go_sem, ↓reduceIte, reduceCtorEq, nA, nB, nC, nD, nE, nF]
    exact ⟨_, _, Weak.refl _, Hp.le.refl _, .inr ⟨rfl, h0⟩⟩
  · refine gE Tryz.func222 rfl (by kernel_rfl) 17 rfl fun c => ?_
    (repeat (first | refine gO (by decide) ?_ | (refine gR fun K1 hK1 => ?_; simp only [go_sem, ↓reduceIte, reduceCtorEq, nA, nB, nC, nD, nE, nF] <;> and_intros <;> first | (apply hK1; clear hK1 K1) | (intros; first | omega | decide | (simp_all <;> omega)) | skip)))
    refine awp_loopC (rl false [0, 2, 5, 2, 10]) 0 (fun g s => ∃ (j : Nat) (h' : Hp), g + j = xs.length ∧ I j h' ∧ s = ⟨((.row 1 (xs.map fun a => [.ptr a.id 0]) tk) :: (.fn fid []) :: (jnk 5 ((.v (.int .i64 xs.length)) :: (.v (.int .i64 j)) :: (jnk 10 [])))), [], h'⟩) xs.length ⟨0, h, by omega, h0, rfl⟩ ?_
    rintro g _ ⟨j, h', hj, hI, rfl⟩
    (repeat (first | refine gO (by decide) ?_ | (refine gR fun K1 hK1 => ?_; simp only [go_sem, ↓reduceIte, reduceCtorEq, nA, nB, nC, nD, nE, nF] <;> and_intros <;> first | (apply hK1; clear hK1 K1) | (intros; first | omega | decide | (simp_all <;> omega)) | skip)))
    refine awp_cond (t := _) rfl (fun h1 => ?_) (fun h1 => ?_)
    · simp only [decide_eq_true_eq] at h1
      have hjk : j < xs.length := by omega
      have hg : (xs.map fun a : AT => [AV.ptr a.id 0]).getD j [] = [.ptr (xs.getD j default).id 0] := getD_enc (fun a : AT => [AV.ptr a.id 0]) xs j default hjk
      have st := step j h' hjk hI
      (repeat (first | refine gO (by decide) ?_ | (refine gR fun K1 hK1 => ?_; simp only [go_sem, ↓reduceIte, reduceCtorEq, nA, nB, nC, nD, nE, nF, Int.toNat_natCast, hg] <;> and_intros <;> first | (apply hK1; clear hK1 K1) | (intros; first | omega | decide | (simp_all <;> omega)) | skip)))
      refine st.mono ?_; rintro _ _ ⟨b, rfl, hb1, hb2⟩; apply hK1; clear hK1 K1
      (repeat (first | refine gO (by decide) ?_ | (refine gR fun K1 hK1 => ?_; simp only [go_sem, ↓reduceIte, reduceCtorEq, nA, nB, nC, nD, nE, nF] <;> and_intros <;> first | (apply hK1; clear hK1 K1) | (intros; first | omega | decide | (simp_all <;> omega)) | skip)))
      refine awp_cond (t := _) rfl (fun h2 => ?_) (fun h2 => ?_)
      · (repeat (first | refine gO (by decide) ?_ | (refine gR fun K1 hK1 => ?_; simp only [go_sem, ↓reduceIte, reduceCtorEq, nA, nB, nC, nD, nE, nF] <;> and_intros <;> first | (apply hK1; clear hK1 K1) | (intros; first | omega | decide | (simp_all <;> omega)) | skip)))
        simp only [Tryz.results222, go_sem, ↓reduceIte, reduceCtorEq, nA, nB, nC, nD, nE, nF]
        exact ⟨_, _, Weak.refl _, Hp.le.refl _, .inl ⟨j, hjk, rfl, hb1 h2⟩⟩
      · (repeat (first | refine gO (by decide) ?_ | (refine gR fun K1 hK1 => ?_; simp only [go_sem, ↓reduceIte, reduceCtorEq, nA, nB, nC, nD, nE, nF] <;> and_intros <;> first | (apply hK1; clear hK1 K1) | (intros; first | omega | decide | (simp_all <;> omega)) | skip)))
        exact ⟨g - 1, by omega, j + 1, _, by omega, hb2 h2, rfl⟩
    · simp only [decide_eq_false_iff_not] at h1
      have hjk : j = xs.length := by omega
      subst hjk
      (repeat (first | refine gO (by decide) ?_ | (refine gR fun K1 hK1 => ?_; simp only [go_sem, ↓reduceIte, reduceCtorEq, nA, nB, nC, nD, nE, nF] <;> and_intros <;> first | (apply hK1; clear hK1 K1) | (intros; first | omega | decide | (simp_all <;> omega)) | skip)))
      simp only [Tryz.results222, go_sem, ↓reduceIte, reduceCtorEq, nA, nB, nC, nD, nE, nF]
      exact ⟨_, _, Weak.refl _, Hp.le.refl _, .inr ⟨rfl, hI⟩⟩
theorem g_coR (fid : Nat) (xs : List AT) (K : AV) (hK : kidsC xs K) (hl : xs.length ≤ 100000) (q : Nat → Bool) (h : Hp)
    (step : ∀ j, j < xs.length → ACalls Tryz.prog fid [.ptr (xs.getD j default).id 0] h (fun r h' => r = .v (.bool (!q j)) ∧ h' = h)) :
    ACalls Tryz.prog 183 [K, .fn fid []] h (fun r h' => r = .v (.bool (!(List.range xs.length).all q)) ∧ h' = h) := by
  have hi := g_ixR fid xs K hK hl (fun j h' => h' = h ∧ ∀ l, l < j → q l = true) (fun j h' => h' = h ∧ q j = false) h ⟨rfl, fun l hl => by omega⟩ (fun j h' hj ⟨e, hI⟩ => by
    rw [e]
    refine (step j hj).mono ?_
    rintro _ h2 ⟨rfl, e2⟩
    refine ⟨_, rfl, fun hb => ⟨e2, by simpa using hb⟩, fun hb => ⟨e2, fun l hl => ?_⟩⟩
    by_cases hlj : l = j
    · rw [hlj]; simpa using hb
    · exact hI l (by omega))
  have o3 : OneV K := by rcases hK with ⟨_, rfl⟩ | ⟨tk, rfl⟩ <;> exact ⟨rfl, rfl, rfl, rfl, rfl⟩
  obtain ⟨w1, w2, w3, w4, w5⟩ := o3
  unfold uside at w1; unfold unw at w2; unfold AV.noLoc at w3; unfold isOpt at w4; simp only [AV.cellsB, Value.oneCell'] at w5
  refine gE Tryz.func183 rfl (by kernel_rfl) 7 rfl fun c => ?_
  (repeat (first | refine gO (by decide) ?_ | (refine gR fun K1 hK1 => ?_; simp only [go_sem, ↓reduceIte, reduceCtorEq, nA, nB, nC, nD, nE, nF, w1, w2, w3, w4, w5] <;> and_intros <;> first | (apply hK1; clear hK1 K1) | (intros; first | omega | decide | (simp_all <;> omega)) | skip)))
  refine hi.mono ?_
  rintro _ h' (⟨j, hj, rfl, rfl, hp⟩ | ⟨rfl, rfl, hi9⟩)
  · refine hK1 _ ?_; clear hK1 K1
    have e9 : (List.range xs.length).all q = false := by
      rw [List.all_eq_false]
      exact ⟨j, by simpa using hj, by rw [hp]; simp⟩
    (repeat (first | refine gO (by decide) ?_ | (refine gR fun K1 hK1 => ?_; simp only [go_sem, ↓reduceIte, reduceCtorEq, nA, nB, nC, nD, nE, nF] <;> and_intros <;> first | (apply hK1; clear hK1 K1) | (intros; first | omega | decide | (simp_all <;> omega)) | skip)))
    simp only [Tryz.results183, go_sem, ↓reduceIte, reduceCtorEq, nA, nB, nC, nD, nE, nF]
    exact ⟨_, _, Weak.refl _, Hp.le.refl _, by rw [e9]; simp, rfl⟩
  · refine hK1 _ ?_; clear hK1 K1
    have e9 : (List.range xs.length).all q = true := by
      rw [List.all_eq_true]
      exact fun l hl => hi9 l (by simpa using hl)
    (repeat (first | refine gO (by decide) ?_ | (refine gR fun K1 hK1 => ?_; simp only [go_sem, ↓reduceIte, reduceCtorEq, nA, nB, nC, nD, nE, nF] <;> and_intros <;> first | (apply hK1; clear hK1 K1) | (intros; first | omega | decide | (simp_all <;> omega)) | skip)))
    simp only [Tryz.results183, go_sem, ↓reduceIte, reduceCtorEq, nA, nB, nC, nD, nE, nF]
    exact ⟨_, _, Weak.refl _, Hp.le.refl _, by rw [e9]; simp, rfl⟩
theorem homeF_eq (d : Nat) (kind : Int) (item : ByteArray) (long many : Int) (kids : List LT) (shares : List Int) (p : Int) (cs : List Int) (ks : List PS) :
    homeF (d + 1) (.mk kind item long many kids shares) (.mk p cs ks) = ((p.tmod (everyF kind kids.length shares) == 0) && (List.range kids.length).all fun j => homeF d (kids.getD j default) (ks.getD j default)) := rfl
theorem sum_bdI {l : List Int} (h : ∀ x ∈ l, 1 ≤ x ∧ x ≤ 1000) (hl : l.length ≤ 1000) : 0 ≤ l.sum ∧ l.sum ≤ 1000000 := by
  have key : ∀ l : List Int, (∀ x ∈ l, 1 ≤ x ∧ x ≤ 1000) → 0 ≤ l.sum ∧ l.sum ≤ l.length * 1000 := fun l => by
    induction l with
    | nil => simp
    | cons y l ih => intro h; have := h y (by simp); have := ih fun z hz => h z (by simp [hz]); simp only [List.sum_cons, List.length_cons]; omega
  have := key l h
  omega
theorem g_beginsG : ∀ (d : Nat) (t : LT) (a : AT) (s : PS) (h : Hp), VL d t → RAt XP h d t a s → PSB d t s 100000 → ACalls Tryz.prog 131 [.ptr a.id 0] h (fun r h' => r = .v (.bool (homeF d t s)) ∧ h' = h)
  | 0, _, _, _, _, hv, _, _ => hv.elim
  | d + 1, .mk kind item long many kids shares, .mk i c0 az, .mk p cs ks, h0, hv, hR, hB => by
    obtain ⟨v1, v2, v3, v4, v5, v6, v7, v8⟩ := id hv
    obtain ⟨⟨K, hH, hK⟩, hT, ⟨l1, l2, l3, l4⟩, hkids⟩ := id hR
    obtain ⟨c1, c2, c3⟩ := id hB
    have hH0 : h0.H i = some (.cells [.v (.int .i64 kind), .v (.string item), .v (.int .i64 long), .v (.int .i64 many), .row 6 (kids.map encL) none, .row 1 (shares.map encI) none, K, .v (.int .i64 p), .arr 1 c0 kids.length, .v (.int .i64 shares.sum)]) := hH
    have o3 : OneV K := by rcases hK with ⟨_, rfl⟩ | ⟨tk, rfl⟩ <;> exact ⟨rfl, rfl, rfl, rfl, rfl⟩
    obtain ⟨w1, w2, w3, w4, w5⟩ := o3
    unfold uside at w1; unfold unw at w2; unfold AV.noLoc at w3; unfold isOpt at w4; simp only [AV.cellsB, Value.oneCell'] at w5
    have hclo : ∀ j, j < az.length → ACalls Tryz.prog 180 [.ptr (az.getD j default).id 0] h0 (fun r h' => r = .v (.bool (!homeF d (kids.getD j default) (ks.getD j default))) ∧ h' = h0) := fun j hj => by
      have g1 := g_beginsG d _ _ _ h0 (v8 _ (getD_mem' kids j default (by omega))) (hkids j (by omega)) (c3 j (by omega))
      refine gE Tryz.func180 rfl (by kernel_rfl) 5 rfl fun c => ?_
      (repeat (first | refine gO (by decide) ?_ | (refine gR fun K1 hK1 => ?_; simp only [go_sem, ↓reduceIte, reduceCtorEq, nA, nB, nC, nD, nE, nF] <;> and_intros <;> first | (apply hK1; clear hK1 K1) | (intros; first | omega | decide | (simp_all <;> omega)) | skip)))
      refine g1.mono ?_; rintro _ hz ⟨rfl, hh⟩; apply hK1; clear hK1 K1; rw [hh]; clear hh hz
      (repeat (first | refine gO (by decide) ?_ | (refine gR fun K1 hK1 => ?_; simp only [go_sem, ↓reduceIte, reduceCtorEq, nA, nB, nC, nD, nE, nF] <;> and_intros <;> first | (apply hK1; clear hK1 K1) | (intros; first | omega | decide | (simp_all <;> omega)) | skip)))
      simp only [Tryz.results180, go_sem, ↓reduceIte, reduceCtorEq, nA, nB, nC, nD, nE, nF]
      exact ⟨_, _, Weak.refl _, Hp.le.refl _, rfl, rfl⟩
    have hcon := g_coP 180 az K hK (by omega) (fun j => homeF d (kids.getD j default) (ks.getD j default)) h0 hclo
    rw [l3] at hcon
    have hdiv := g_divisorP shares h0 v7.2 v6
    have hev := every_pos hv
    show ACalls Tryz.prog 131 [.ptr i 0] h0 _
    rw [homeF_eq]
    have hef : everyF kind kids.length shares = if kind = 3 then (kids.length : Int) else if kind = 4 then shares.sum / gcdI shares else 1 := rfl
    generalize hQ : (List.range kids.length).all (fun j => homeF d (kids.getD j default) (ks.getD j default)) = qq at *
    refine gE Tryz.func131 rfl (by kernel_rfl) 43 rfl fun c => ?_
    (repeat (first | refine gQ (by decide) ?_ | ((first | refine gR ?_ | (with_reducible refine wM ?_ ?_) | ((with_reducible refine xR ?_); refine uE 6 (mdL []) pSHomeG_131_6E pSHomeG_131_6P 44 rfl (by kernel_rfl) ?_)) <;> ((try with_reducible intro K1 hK1); simp only [go_sem, ↓reduceIte, reduceCtorEq, nA, nB, nC, nD, nE, nF, hH0] <;> and_intros <;> first | (apply hK1; clear hK1 K1) | (intros; first | omega | decide | (simp_all <;> omega)) | skip))))
    refine awp_seq ?_
    refine awp_join (rl false [0, 1, 2, 1, 40]) 0 (fun s => s = ⟨((.ptr i 0) :: AV.junk :: AV.junk :: ((.v (.int .i64 (everyF kind kids.length shares))) :: (jnk 40 []))), [], h0⟩) ?_ ?_
    · by_cases h3 : kind = 3
      · have e3 : (kind == 3) = true := by simp; exact h3
        obtain ⟨tk, rfl⟩ : ∃ tk, K = .row 1 (az.map fun a => [.ptr a.id 0]) tk := by
          rcases hK with ⟨rfl, _⟩ | h9
          · simp at l3; exact absurd (List.eq_nil_of_length_eq_zero l3.symm) (v3 (by omega))
          · exact h9
        (repeat (first | refine gO (by decide) ?_ | ((first | refine gR ?_ | (with_reducible refine wM ?_ ?_) | ((with_reducible refine xR ?_); refine uE 6 (mdL []) pSHomeG_131_6E pSHomeG_131_6P 44 rfl (by kernel_rfl) ?_)) <;> ((try with_reducible intro K1 hK1); simp only [go_sem, ↓reduceIte, reduceCtorEq, nA, nB, nC, nD, nE, nF, hH0, e3] <;> and_intros <;> first | (apply hK1; clear hK1 K1) | (intros; first | omega | decide | (simp_all <;> omega)) | skip))))
        refine awp_cond (t := _) rfl (fun _ => ?_) (fun h => by cases h)
        (repeat (first | refine gO (by decide) ?_ | ((first | refine gR ?_ | (with_reducible refine wM ?_ ?_) | ((with_reducible refine xR ?_); refine uE 6 (mdL []) pSHomeG_131_6E pSHomeG_131_6P 44 rfl (by kernel_rfl) ?_)) <;> ((try with_reducible intro K1 hK1); simp only [go_sem, ↓reduceIte, reduceCtorEq, nA, nB, nC, nD, nE, nF, hH0, l3] <;> and_intros <;> first | (apply hK1; clear hK1 K1) | (intros; first | omega | decide | (simp_all <;> omega)) | skip))))
        rw [hef, if_pos h3]; rfl
      · have e3 : (kind == 3) = false := by simp; exact h3
        by_cases h4 : kind = 4
        · have e4 : (kind == 4) = true := by simp; exact h4
          have hne : shares ≠ [] := fun e => v3 (by omega) (List.eq_nil_of_length_eq_zero (by rw [← v5 h4, e]; rfl))
          have hgp := gcdI_pos (fun x hx => (v6 x hx).1) hne
          have hsb := sum_bdI v6 v7.2
          have hq2 : shares.sum.tdiv (gcdI shares : Int) = shares.sum / (gcdI shares : Int) := Int.tdiv_eq_ediv_of_nonneg hsb.1
          have hq3 : 0 ≤ shares.sum / (gcdI shares : Int) ∧ shares.sum / (gcdI shares : Int) ≤ shares.sum := ⟨Int.ediv_nonneg hsb.1 (by omega), Int.ediv_le_self _ hsb.1⟩
          (repeat (first | refine gO (by decide) ?_ | ((first | refine gR ?_ | (with_reducible refine wM ?_ ?_) | ((with_reducible refine xR ?_); refine uE 6 (mdL []) pSHomeG_131_6E pSHomeG_131_6P 44 rfl (by kernel_rfl) ?_)) <;> ((try with_reducible intro K1 hK1); simp only [go_sem, ↓reduceIte, reduceCtorEq, nA, nB, nC, nD, nE, nF, hH0, e3, e4] <;> and_intros <;> first | (apply hK1; clear hK1 K1) | (intros; first | omega | decide | (simp_all <;> omega)) | skip))))
          refine awp_cond (t := _) rfl (fun h => by cases h) (fun _ => ?_)
          (repeat (first | refine gO (by decide) ?_ | ((first | refine gR ?_ | (with_reducible refine wM ?_ ?_) | ((with_reducible refine xR ?_); refine uE 6 (mdL []) pSHomeG_131_6E pSHomeG_131_6P 44 rfl (by kernel_rfl) ?_)) <;> ((try with_reducible intro K1 hK1); simp only [go_sem, ↓reduceIte, reduceCtorEq, nA, nB, nC, nD, nE, nF, hH0, e3, e4] <;> and_intros <;> first | (apply hK1; clear hK1 K1) | (intros; first | omega | decide | (simp_all <;> omega)) | skip))))
          refine awp_cond (t := _) rfl (fun _ => ?_) (fun h => by cases h)
          (repeat (first | refine gO (by decide) ?_ | ((first | refine gR ?_ | (with_reducible refine wM ?_ ?_) | ((with_reducible refine xR ?_); refine uE 6 (mdL []) pSHomeG_131_6E pSHomeG_131_6P 44 rfl (by kernel_rfl) ?_)) <;> ((try with_reducible intro K1 hK1); simp only [go_sem, ↓reduceIte, reduceCtorEq, nA, nB, nC, nD, nE, nF, hH0, hq2] <;> and_intros <;> first | (apply hK1; clear hK1 K1) | (intros; first | omega | decide | (simp_all <;> omega)) | skip))))
          refine hdiv.mono ?_; rintro _ hz ⟨rfl, hh⟩; apply hK1; clear hK1 K1; rw [hh]; clear hh hz
          (repeat (first | refine gO (by decide) ?_ | ((first | refine gR ?_ | (with_reducible refine wM ?_ ?_) | ((with_reducible refine xR ?_); refine uE 6 (mdL []) pSHomeG_131_6E pSHomeG_131_6P 44 rfl (by kernel_rfl) ?_)) <;> ((try with_reducible intro K1 hK1); simp only [go_sem, ↓reduceIte, reduceCtorEq, nA, nB, nC, nD, nE, nF, hH0, hq2] <;> and_intros <;> first | (apply hK1; clear hK1 K1) | (intros; first | omega | decide | (simp_all <;> omega)) | skip))))
          rw [hef, if_neg h3, if_pos h4]; rfl
        · have e4 : (kind == 4) = false := by simp; exact h4
          (repeat (first | refine gO (by decide) ?_ | ((first | refine gR ?_ | (with_reducible refine wM ?_ ?_) | ((with_reducible refine xR ?_); refine uE 6 (mdL []) pSHomeG_131_6E pSHomeG_131_6P 44 rfl (by kernel_rfl) ?_)) <;> ((try with_reducible intro K1 hK1); simp only [go_sem, ↓reduceIte, reduceCtorEq, nA, nB, nC, nD, nE, nF, hH0, e3, e4] <;> and_intros <;> first | (apply hK1; clear hK1 K1) | (intros; first | omega | decide | (simp_all <;> omega)) | skip))))
          refine awp_cond (t := _) rfl (fun h => by cases h) (fun _ => ?_)
          (repeat (first | refine gO (by decide) ?_ | ((first | refine gR ?_ | (with_reducible refine wM ?_ ?_) | ((with_reducible refine xR ?_); refine uE 6 (mdL []) pSHomeG_131_6E pSHomeG_131_6P 44 rfl (by kernel_rfl) ?_)) <;> ((try with_reducible intro K1 hK1); simp only [go_sem, ↓reduceIte, reduceCtorEq, nA, nB, nC, nD, nE, nF, hH0, e3, e4] <;> and_intros <;> first | (apply hK1; clear hK1 K1) | (intros; first | omega | decide | (simp_all <;> omega)) | skip))))
          refine awp_cond (t := _) rfl (fun h => by cases h) (fun _ => ?_)
          (repeat (first | refine gO (by decide) ?_ | ((first | refine gR ?_ | (with_reducible refine wM ?_ ?_) | ((with_reducible refine xR ?_); refine uE 6 (mdL []) pSHomeG_131_6E pSHomeG_131_6P 44 rfl (by kernel_rfl) ?_)) <;> ((try with_reducible intro K1 hK1); simp only [go_sem, ↓reduceIte, reduceCtorEq, nA, nB, nC, nD, nE, nF] <;> and_intros <;> first | (apply hK1; clear hK1 K1) | (intros; first | omega | decide | (simp_all <;> omega)) | skip))))
          rw [hef, if_neg h3, if_neg h4]; rfl
    · rintro _ rfl
      generalize everyF kind kids.length shares = ev at *
      rcases hb : (p.tmod ev == 0) with _ | _
      · (repeat (first | refine gO (by decide) ?_ | ((first | refine gR ?_ | (with_reducible refine wM ?_ ?_) | ((with_reducible refine xR ?_); refine uE 6 (mdL []) pSHomeG_131_6E pSHomeG_131_6P 44 rfl (by kernel_rfl) ?_)) <;> ((try with_reducible intro K1 hK1); simp only [go_sem, ↓reduceIte, reduceCtorEq, nA, nB, nC, nD, nE, nF, hH0, w1, w2, w3, w4, w5, hb] <;> and_intros <;> first | (apply hK1; clear hK1 K1) | (intros; first | omega | decide | (simp_all <;> omega)) | skip))))
        refine ⟨.v (.bool false), rfl, True.intro, hK1 _ ?_⟩; clear hK1 K1
        (repeat (first | refine gO (by decide) ?_ | ((first | refine gR ?_ | (with_reducible refine wM ?_ ?_) | ((with_reducible refine xR ?_); refine uE 6 (mdL []) pSHomeG_131_6E pSHomeG_131_6P 44 rfl (by kernel_rfl) ?_)) <;> ((try with_reducible intro K1 hK1); simp only [go_sem, ↓reduceIte, reduceCtorEq, nA, nB, nC, nD, nE, nF, hH0, w1, w2, w3, w4, w5, hb] <;> and_intros <;> first | (apply hK1; clear hK1 K1) | (intros; first | omega | decide | (simp_all <;> omega)) | skip))))
        simp only [Tryz.results131, go_sem, ↓reduceIte, reduceCtorEq, nA, nB, nC, nD, nE, nF]
        exact ⟨_, _, Weak.refl _, Hp.le.refl _, rfl, rfl⟩
      · (repeat (first | refine gO (by decide) ?_ | ((first | refine gR ?_ | (with_reducible refine wM ?_ ?_) | ((with_reducible refine xR ?_); refine uE 6 (mdL []) pSHomeG_131_6E pSHomeG_131_6P 44 rfl (by kernel_rfl) ?_)) <;> ((try with_reducible intro K1 hK1); simp only [go_sem, ↓reduceIte, reduceCtorEq, nA, nB, nC, nD, nE, nF, hH0, w1, w2, w3, w4, w5, hb] <;> and_intros <;> first | (apply hK1; clear hK1 K1) | (intros; first | omega | decide | (simp_all <;> omega)) | skip))))
        refine hcon.mono ?_; rintro _ hz ⟨rfl, hh⟩; refine ⟨rfl, hK1 _ ?_⟩; clear hK1 K1; rw [hh]; clear hh hz
        (repeat (first | refine gO (by decide) ?_ | ((first | refine gR ?_ | (with_reducible refine wM ?_ ?_) | ((with_reducible refine xR ?_); refine uE 6 (mdL []) pSHomeG_131_6E pSHomeG_131_6P 44 rfl (by kernel_rfl) ?_)) <;> ((try with_reducible intro K1 hK1); simp only [go_sem, ↓reduceIte, reduceCtorEq, nA, nB, nC, nD, nE, nF, hH0, w1, w2, w3, w4, w5, hb] <;> and_intros <;> first | (apply hK1; clear hK1 K1) | (intros; first | omega | decide | (simp_all <;> omega)) | skip))))
        simp only [Tryz.results131, go_sem, ↓reduceIte, reduceCtorEq, nA, nB, nC, nD, nE, nF]
        exact ⟨_, _, Weak.refl _, Hp.le.refl _, by simp, rfl⟩
theorem g_homeG : ∀ (d : Nat) (t : LT) (a : AT) (s : PS) (h : Hp), VL d t → RAt XR h d t a s → PSB d t s 100000 → ACalls Tryz.prog 136 [.ptr a.id 0] h (fun r h' => r = .v (.bool (homeF d t s)) ∧ h' = h)
  | 0, _, _, _, _, hv, _, _ => hv.elim
  | d + 1, .mk kind item long many kids shares, .mk i c0 az, .mk p cs ks, h0, hv, hR, hB => by
    obtain ⟨v1, v2, v3, v4, v5, v6, v7, v8⟩ := id hv
    obtain ⟨⟨K, hH, hK⟩, hT, ⟨l1, l2, l3, l4⟩, hkids⟩ := id hR
    obtain ⟨c1, c2, c3⟩ := id hB
    have hH0 : h0.H i = some (.cells [.v (.int .i64 kind), .v (.string item), .v (.int .i64 long), .v (.int .i64 many), .row 6 (kids.map encL) none, .row 1 (shares.map encI) none, K, .v (.int .i64 p), .arr 1 c0 kids.length]) := hH
    have o3 : OneV K := by rcases hK with ⟨_, rfl⟩ | ⟨tk, rfl⟩ <;> exact ⟨rfl, rfl, rfl, rfl, rfl⟩
    obtain ⟨w1, w2, w3, w4, w5⟩ := o3
    unfold uside at w1; unfold unw at w2; unfold AV.noLoc at w3; unfold isOpt at w4; simp only [AV.cellsB, Value.oneCell'] at w5
    have hclo : ∀ j, j < az.length → ACalls Tryz.prog 184 [.ptr (az.getD j default).id 0] h0 (fun r h' => r = .v (.bool (!homeF d (kids.getD j default) (ks.getD j default))) ∧ h' = h0) := fun j hj => by
      have g1 := g_homeG d _ _ _ h0 (v8 _ (getD_mem' kids j default (by omega))) (hkids j (by omega)) (c3 j (by omega))
      refine gE Tryz.func184 rfl (by kernel_rfl) 5 rfl fun c => ?_
      (repeat (first | refine gO (by decide) ?_ | (refine gR fun K1 hK1 => ?_; simp only [go_sem, ↓reduceIte, reduceCtorEq, nA, nB, nC, nD, nE, nF] <;> and_intros <;> first | (apply hK1; clear hK1 K1) | (intros; first | omega | decide | (simp_all <;> omega)) | skip)))
      refine g1.mono ?_; rintro _ hz ⟨rfl, hh⟩; apply hK1; clear hK1 K1; rw [hh]; clear hh hz
      (repeat (first | refine gO (by decide) ?_ | (refine gR fun K1 hK1 => ?_; simp only [go_sem, ↓reduceIte, reduceCtorEq, nA, nB, nC, nD, nE, nF] <;> and_intros <;> first | (apply hK1; clear hK1 K1) | (intros; first | omega | decide | (simp_all <;> omega)) | skip)))
      simp only [Tryz.results184, go_sem, ↓reduceIte, reduceCtorEq, nA, nB, nC, nD, nE, nF]
      exact ⟨_, _, Weak.refl _, Hp.le.refl _, rfl, rfl⟩
    have hcon := g_coR 184 az K hK (by omega) (fun j => homeF d (kids.getD j default) (ks.getD j default)) h0 hclo
    rw [l3] at hcon
    have hev := every_pos hv
    show ACalls Tryz.prog 136 [.ptr i 0] h0 _
    rw [homeF_eq]
    have hef : everyF kind kids.length shares = if kind = 3 then (kids.length : Int) else if kind = 4 then shares.sum / gcdI shares else 1 := rfl
    generalize hQ : (List.range kids.length).all (fun j => homeF d (kids.getD j default) (ks.getD j default)) = qq at *
    refine gE Tryz.func136 rfl (by kernel_rfl) 53 rfl fun c => ?_
    (repeat (first | refine gQ (by decide) ?_ | (refine gR fun K1 hK1 => ?_; simp only [go_sem, ↓reduceIte, reduceCtorEq, nA, nB, nC, nD, nE, nF, hH0] <;> and_intros <;> first | (apply hK1; clear hK1 K1) | (intros; first | omega | decide | (simp_all <;> omega)) | skip)))
    refine awp_seq ?_
    refine awp_join (rl false [0, 1, 2, 1, 50]) 0 (fun s => s = ⟨((.ptr i 0) :: AV.junk :: AV.junk :: ((.v (.int .i64 (everyF kind kids.length shares))) :: (jnk 50 []))), [], h0⟩) ?_ ?_
    · by_cases h3 : kind = 3
      · have e3 : (kind == 3) = true := by simp; exact h3
        obtain ⟨tk, rfl⟩ : ∃ tk, K = .row 1 (az.map fun a => [.ptr a.id 0]) tk := by
          rcases hK with ⟨rfl, _⟩ | h9
          · simp at l3; exact absurd (List.eq_nil_of_length_eq_zero l3.symm) (v3 (by omega))
          · exact h9
        (repeat (first | refine gO (by decide) ?_ | (refine gR fun K1 hK1 => ?_; simp only [go_sem, ↓reduceIte, reduceCtorEq, nA, nB, nC, nD, nE, nF, hH0, e3] <;> and_intros <;> first | (apply hK1; clear hK1 K1) | (intros; first | omega | decide | (simp_all <;> omega)) | skip)))
        refine awp_cond (t := _) rfl (fun _ => ?_) (fun h => by cases h)
        (repeat (first | refine gO (by decide) ?_ | (refine gR fun K1 hK1 => ?_; simp only [go_sem, ↓reduceIte, reduceCtorEq, nA, nB, nC, nD, nE, nF, hH0, l3] <;> and_intros <;> first | (apply hK1; clear hK1 K1) | (intros; first | omega | decide | (simp_all <;> omega)) | skip)))
        rw [hef, if_pos h3]; rfl
      · have e3 : (kind == 3) = false := by simp; exact h3
        by_cases h4 : kind = 4
        · have e4 : (kind == 4) = true := by simp; exact h4
          have hne : shares ≠ [] := fun e => v3 (by omega) (List.eq_nil_of_length_eq_zero (by rw [← v5 h4, e]; rfl))
          have hgp := gcdI_pos (fun x hx => (v6 x hx).1) hne
          have hsb := sum_bdI v6 v7.2
          have hq2 : shares.sum.tdiv (gcdI shares : Int) = shares.sum / (gcdI shares : Int) := Int.tdiv_eq_ediv_of_nonneg hsb.1
          have hq3 : 0 ≤ shares.sum / (gcdI shares : Int) ∧ shares.sum / (gcdI shares : Int) ≤ shares.sum := ⟨Int.ediv_nonneg hsb.1 (by omega), Int.ediv_le_self _ hsb.1⟩
          (repeat (first | refine gO (by decide) ?_ | (refine gR fun K1 hK1 => ?_; simp only [go_sem, ↓reduceIte, reduceCtorEq, nA, nB, nC, nD, nE, nF, hH0, e3, e4] <;> and_intros <;> first | (apply hK1; clear hK1 K1) | (intros; first | omega | decide | (simp_all <;> omega)) | skip)))
          refine awp_cond (t := _) rfl (fun h => by cases h) (fun _ => ?_)
          (repeat (first | refine gO (by decide) ?_ | (refine gR fun K1 hK1 => ?_; simp only [go_sem, ↓reduceIte, reduceCtorEq, nA, nB, nC, nD, nE, nF, hH0, e3, e4] <;> and_intros <;> first | (apply hK1; clear hK1 K1) | (intros; first | omega | decide | (simp_all <;> omega)) | skip)))
          refine awp_cond (t := _) rfl (fun _ => ?_) (fun h => by cases h)
          (repeat (first | refine gO (by decide) ?_ | (refine gR fun K1 hK1 => ?_; simp only [go_sem, ↓reduceIte, reduceCtorEq, nA, nB, nC, nD, nE, nF, hH0] <;> and_intros <;> first | (apply hK1; clear hK1 K1) | (intros; first | omega | decide | (simp_all <;> omega)) | skip)))
          refine awp_loopC (rl false [0, 1, 2, 2, 20, 3, 26]) 0 (fun g s => ∃ j : Nat, g + j = shares.length ∧
            s = ⟨((.ptr i 0) :: AV.junk :: AV.junk :: ((.v (.int .i64 (shares.take j).sum)) :: (.v (.int .i64 (gcdTo shares j : Nat))) :: (jnk 20 ((.row 1 (shares.map encI) none) :: (.v (.int .i64 shares.length)) :: (.v (.int .i64 j)) :: (jnk 26 []))))), [], h0⟩) shares.length ⟨0, by omega, rfl⟩ ?_
          rintro g _ ⟨j, hj, rfl⟩
          have hst := sum_bdI (l := shares.take j) (fun x hx => v6 x (List.mem_of_mem_take hx)) (by simp; omega)
          (repeat (first | refine gO (by decide) ?_ | (refine gR fun K1 hK1 => ?_; simp only [go_sem, ↓reduceIte, reduceCtorEq, nA, nB, nC, nD, nE, nF] <;> and_intros <;> first | (apply hK1; clear hK1 K1) | (intros; first | omega | decide | (simp_all <;> omega)) | skip)))
          refine awp_cond (t := _) rfl (fun h9 => ?_) (fun h9 => ?_)
          · simp only [decide_eq_true_eq] at h9
            have hjl : j < shares.length := by omega
            have gx : (shares.map encI).getD j [] = encI (shares.getD j 0) := getD_enc encI shares j 0 hjl
            have hb := v6 _ (getD_mem' shares j 0 hjl)
            have e1 := gcdTo_succ shares j hjl
            have hl1 := gcdTo_le shares v6 j (by omega)
            have e2 := sum_take_succ shares j hjl
            generalize shares.getD j 0 = y at gx hb e1 e2
            obtain ⟨y, rfl⟩ : ∃ z : Nat, y = z := ⟨y.toNat, by omega⟩
            rw [Int.toNat_natCast] at e1
            (repeat (first | refine gO (by decide) ?_ | (refine gR fun K1 hK1 => ?_; simp only [go_sem, ↓reduceIte, reduceCtorEq, nA, nB, nC, nD, nE, nF, Int.toNat_natCast, gx, encI] <;> and_intros <;> first | (apply hK1; clear hK1 K1) | (intros; first | omega | decide | (simp_all <;> omega)) | skip)))
            refine (g_gcdR (gcdTo shares j) y _ (by omega) (by omega)).mono ?_; rintro _ hz ⟨rfl, hh⟩; apply hK1; clear hK1 K1; rw [hh]; clear hh hz
            (repeat (first | refine gO (by decide) ?_ | (refine gR fun K1 hK1 => ?_; simp only [go_sem, ↓reduceIte, reduceCtorEq, nA, nB, nC, nD, nE, nF] <;> and_intros <;> first | (apply hK1; clear hK1 K1) | (intros; first | omega | decide | (simp_all <;> omega)) | skip)))
            exact ⟨g - 1, by omega, j + 1, by omega, by rw [e1, e2]; rfl⟩
          · simp only [decide_eq_false_iff_not] at h9
            have hjl : j = shares.length := by omega
            subst hjl
            rw [gcdTo_all, List.take_length]
            (repeat (first | refine gO (by decide) ?_ | (refine gR fun K1 hK1 => ?_; simp only [go_sem, ↓reduceIte, reduceCtorEq, nA, nB, nC, nD, nE, nF, hq2] <;> and_intros <;> first | (apply hK1; clear hK1 K1) | (intros; first | omega | decide | (simp_all <;> omega)) | skip)))
            rw [hef, if_neg h3, if_pos h4]; rfl
        · have e4 : (kind == 4) = false := by simp; exact h4
          (repeat (first | refine gO (by decide) ?_ | (refine gR fun K1 hK1 => ?_; simp only [go_sem, ↓reduceIte, reduceCtorEq, nA, nB, nC, nD, nE, nF, hH0, e3, e4] <;> and_intros <;> first | (apply hK1; clear hK1 K1) | (intros; first | omega | decide | (simp_all <;> omega)) | skip)))
          refine awp_cond (t := _) rfl (fun h => by cases h) (fun _ => ?_)
          (repeat (first | refine gO (by decide) ?_ | (refine gR fun K1 hK1 => ?_; simp only [go_sem, ↓reduceIte, reduceCtorEq, nA, nB, nC, nD, nE, nF, hH0, e3, e4] <;> and_intros <;> first | (apply hK1; clear hK1 K1) | (intros; first | omega | decide | (simp_all <;> omega)) | skip)))
          refine awp_cond (t := _) rfl (fun h => by cases h) (fun _ => ?_)
          (repeat (first | refine gO (by decide) ?_ | (refine gR fun K1 hK1 => ?_; simp only [go_sem, ↓reduceIte, reduceCtorEq, nA, nB, nC, nD, nE, nF] <;> and_intros <;> first | (apply hK1; clear hK1 K1) | (intros; first | omega | decide | (simp_all <;> omega)) | skip)))
          rw [hef, if_neg h3, if_neg h4]; rfl
    · rintro _ rfl
      generalize everyF kind kids.length shares = ev at *
      rcases hb : (p.tmod ev == 0) with _ | _
      · have hb2 : (p.tmod ev != 0) = true := by rw [bne, hb]; rfl
        (repeat (first | refine gO (by decide) ?_ | (refine gR fun K1 hK1 => ?_; simp only [go_sem, ↓reduceIte, reduceCtorEq, nA, nB, nC, nD, nE, nF, hH0, hb2] <;> and_intros <;> first | (apply hK1; clear hK1 K1) | (intros; first | omega | decide | (simp_all <;> omega)) | skip)))
        refine awp_cond (t := _) rfl (fun _ => ?_) (fun h => by cases h)
        (repeat (first | refine gO (by decide) ?_ | (refine gR fun K1 hK1 => ?_; simp only [go_sem, ↓reduceIte, reduceCtorEq, nA, nB, nC, nD, nE, nF] <;> and_intros <;> first | (apply hK1; clear hK1 K1) | (intros; first | omega | decide | (simp_all <;> omega)) | skip)))
        simp only [Tryz.results136, go_sem, ↓reduceIte, reduceCtorEq, nA, nB, nC, nD, nE, nF]
        exact ⟨_, _, Weak.refl _, Hp.le.refl _, rfl, rfl⟩
      · have hb2 : (p.tmod ev != 0) = false := by rw [bne, hb]; rfl
        (repeat (first | refine gO (by decide) ?_ | (refine gR fun K1 hK1 => ?_; simp only [go_sem, ↓reduceIte, reduceCtorEq, nA, nB, nC, nD, nE, nF, hH0, hb2] <;> and_intros <;> first | (apply hK1; clear hK1 K1) | (intros; first | omega | decide | (simp_all <;> omega)) | skip)))
        refine awp_cond (t := _) rfl (fun h => by cases h) (fun _ => ?_)
        (repeat (first | refine gO (by decide) ?_ | (refine gR fun K1 hK1 => ?_; simp only [go_sem, ↓reduceIte, reduceCtorEq, nA, nB, nC, nD, nE, nF, hH0, w1, w2, w3, w4, w5] <;> and_intros <;> first | (apply hK1; clear hK1 K1) | (intros; first | omega | decide | (simp_all <;> omega)) | skip)))
        refine hcon.mono ?_; rintro _ hz ⟨rfl, hh⟩; apply hK1; clear hK1 K1; rw [hh]; clear hh hz
        (repeat (first | refine gO (by decide) ?_ | (refine gR fun K1 hK1 => ?_; simp only [go_sem, ↓reduceIte, reduceCtorEq, nA, nB, nC, nD, nE, nF, hH0, w1, w2, w3, w4, w5] <;> and_intros <;> first | (apply hK1; clear hK1 K1) | (intros; first | omega | decide | (simp_all <;> omega)) | skip)))
        simp only [Tryz.results136, go_sem, ↓reduceIte, reduceCtorEq, nA, nB, nC, nD, nE, nF]
        exact ⟨_, _, Weak.refl _, Hp.le.refl _, by simp, rfl⟩
abbrev pSPassR_135_4E : List Nat := [0, 1, 2, 3, 4, 5, 6, 7, 8, 9, 10, 11, 12, 13, 14, 15]
abbrev pSPassR_135_4P : List (Nat × List Nat × List Nat) := [(16, [], [17]), (18, [], [])]
abbrev pSPassR_135_12E : List Nat := [0, 1, 2, 3, 4, 5, 6, 7, 8, 9, 10, 11]
abbrev pSPassR_135_12P : List (Nat × List Nat × List Nat) := []
attribute [go_sem] pSPassR_135_4E pSPassR_135_4P pSPassR_135_12E pSPassR_135_12P
def encN (j : Nat) : List AV := [.v (.int .i64 (j : Int))]
theorem upd_none {α : Type} {f : Nat → Option α} {q : Nat} {x : Option α} (h : f q = none) : upd (upd f q x) q none = f := by
  funext j
  by_cases hj : j = q
  · subst hj; rw [upd_same, h]
  · rw [upd_other _ _ hj, upd_other _ _ hj]
def PRes (d : Nat) (t : LT) (a : AT) (s : PS) (h : Hp) (o k : Nat) (out : List (ByteArray × Int)) (r : AV) (h' : Hp) : Prop :=
  if out.length + (passU d t s).2.length ≤ 5000 then r = .v (.bool true) ∧ RAt XR h' d t a (passU d t s).1 ∧ OutAt h' o k [] (out ++ (passU d t s).2) ∧ FrP a o k h h' else r = .v (.bool false)
def PassJ (d : Nat) (kind : Int) (item : ByteArray) (long many : Int) (kids : List LT) (shares : List Int) (i c0 : Nat) (az : List AT) (p : Int) (cs : List Int) (ks : List PS) (h : Hp) (o k : Nat) (out : List (ByteArray × Int)) (s : St) : Prop :=
  ∃ hb v h1, RAt XR hb (d + 1) (.mk kind item long many kids shares) (.mk i c0 az) (.mk p cs ks) ∧ OutAt hb o k [] (out ++ if kind = 1 then [(item, long)] else []) ∧ FrP (.mk i c0 az) o k h hb ∧
    (v.noLoc = true ∧ Weak v (.row 1 ((idxL kind p many kids.length (nextF shares p cs)).map encN) none) ∧ Hp.le hb h1 ∨ ∃ q, v = .arr 1 q (idxL kind p many kids.length (nextF shares p cs)).length ∧ hb.T q = none ∧ h1 = { hb with T := upd hb.T q (some (.cont 1 ((idxL kind p many kids.length (nextF shares p cs)).map encN))) }) ∧
    s = ⟨((.ptr i 0) :: (.ptr o 0) :: (.v (.int .i64 5000)) :: (jnk 4 ((v) :: (jnk 109 [])))), [], h1⟩
theorem g_passR : ∀ (d : Nat) (t : LT) (a : AT) (s : PS) (h : Hp) (o k : Nat) (out : List (ByteArray × Int)), VL d t → RAt XR h d t a s → Sep d a → PSB d t s out.length → OutAt h o k [] out → o ∉ idsT a → out.length ≤ 5000 →
    ACalls Tryz.prog 135 [.ptr a.id 0, .ptr o 0, .v (.int .i64 5000)] h (PRes d t a s h o k out)
  | 0, _, _, _, _, _, _, _, hv, _, _, _, _, _, _ => hv.elim
  | d + 1, .mk kind item long many kids shares, .mk i c0 az, .mk p cs ks, h, o, k, out, hv, hR, hS, hB, hO, ho, hout => by
    have hfit := hR.fits
    have hkt := hR.tokNe hO.2
    obtain ⟨v1, v2, v3, v4, v5, v6, v7, v8⟩ := id hv
    obtain ⟨⟨K, hH, hK⟩, hT, ⟨l1, l2, l3, l4⟩, hkids⟩ := id hR
    have hH0 : h.H i = some (.cells [.v (.int .i64 kind), .v (.string item), .v (.int .i64 long), .v (.int .i64 many), .row 6 (kids.map encL) none, .row 1 (shares.map encI) none, K, .v (.int .i64 p), .arr 1 c0 kids.length]) := hH
    have hT0 : h.T c0 = some (.cont 1 (cs.map encI)) := hT
    have hO1 : h.H o = some (.cells [.row 2 (out.map encStep) (some k)]) := hO.1
    have hO2 : h.T k = some (.tail out.length) := hO.2
    have hpn : 0 ≤ p ∧ p ≤ 5000 := by have := hB.1; omega
    have hcn : ∀ x ∈ cs, 0 ≤ x ∧ x ≤ 1000000 := fun x hx => by have := hB.2.1 x hx; omega
    have hfr0 : FrP (.mk i c0 az) o k h h := ⟨fun _ _ _ => rfl, fun _ _ _ => rfl⟩
    show ACalls Tryz.prog 135 [.ptr i 0, .ptr o 0, .v (.int .i64 5000)] h _
    refine gE Tryz.func135 rfl (by kernel_rfl) 114 rfl fun c => ?_
    (repeat (first | refine gQ (by decide) ?_ | ((first | ((with_reducible refine yS ?_); refine awp_keep 9905787658939656716169610695 100 (kS ?_)) | ((with_reducible refine yR ?_); refine awp_keep 9905787658939656716169610695 100 (kR ?_)) | refine gR ?_ | (with_reducible refine wM ?_ ?_) | ((with_reducible refine xR ?_); refine awp_keep 9905787658939656716169610695 100 (uE 4 (mdL []) pSPassR_135_4E pSPassR_135_4P 117 rfl (by kernel_rfl) ?_)) | ((with_reducible refine xR ?_); refine awp_keep 9905787658939656716169610695 100 (uE 12 (mdL []) pSPassR_135_12E pSPassR_135_12P 117 rfl (by kernel_rfl) ?_))) <;> ((try with_reducible intro K1 hK1); simp only [go_sem, ↓reduceIte, reduceCtorEq, nA, nB, nC, nD, nE, nF, hH0, Nat.reduceMod, Nat.reduceDiv, Nat.reducePow] <;> and_intros <;> first | (apply hK1; clear hK1 K1) | (intros; first | omega | decide | (simp_all <;> omega)) | skip))))
    refine awp_seq ?_
    refine awp_join (rl false [0, 3, 4, 1, 109]) 0 (fun s => PassJ d kind item long many kids shares i c0 az p cs ks h o k out s) ?_ ?_
    · have hkz : kind ≠ 1 → ∃ tk, K = .row 1 (az.map fun a => [.ptr a.id 0]) tk := fun h1 => by
        rcases hK with ⟨rfl, _⟩ | h2
        · simp at l3; exact absurd (List.eq_nil_of_length_eq_zero l3.symm) (v3 h1)
        · exact h2
      rcases (show kind = 1 ∨ kind = 2 ∨ kind = 3 ∨ kind = 4 ∨ kind = 5 by omega) with rfl | rfl | rfl | rfl | rfl
      · (repeat (first | refine gO (by decide) ?_ | ((first | ((with_reducible refine yS ?_); refine awp_keep 9905787658939656716169610695 100 (kS ?_)) | ((with_reducible refine yR ?_); refine awp_keep 9905787658939656716169610695 100 (kR ?_)) | refine gR ?_ | (with_reducible refine wM ?_ ?_) | ((with_reducible refine xR ?_); refine awp_keep 9905787658939656716169610695 100 (uE 4 (mdL []) pSPassR_135_4E pSPassR_135_4P 117 rfl (by kernel_rfl) ?_)) | ((with_reducible refine xR ?_); refine awp_keep 9905787658939656716169610695 100 (uE 12 (mdL []) pSPassR_135_12E pSPassR_135_12P 117 rfl (by kernel_rfl) ?_))) <;> ((try with_reducible intro K1 hK1); simp only [go_sem, ↓reduceIte, reduceCtorEq, nA, nB, nC, nD, nE, nF, hH0, Nat.reduceMod, Nat.reduceDiv, Nat.reducePow] <;> and_intros <;> first | (apply hK1; clear hK1 K1) | (intros; first | omega | decide | (simp_all <;> omega)) | skip))))
        refine awp_cond (t := _) rfl (fun _ => ?_) (fun h1 => by cases h1)
        (repeat (first | refine gO (by decide) ?_ | ((first | ((with_reducible refine yS ?_); refine awp_keep 9905787658939656716169610695 100 (kS ?_)) | ((with_reducible refine yR ?_); refine awp_keep 9905787658939656716169610695 100 (kR ?_)) | refine gR ?_ | (with_reducible refine wM ?_ ?_) | ((with_reducible refine xR ?_); refine awp_keep 9905787658939656716169610695 100 (uE 4 (mdL []) pSPassR_135_4E pSPassR_135_4P 117 rfl (by kernel_rfl) ?_)) | ((with_reducible refine xR ?_); refine awp_keep 9905787658939656716169610695 100 (uE 12 (mdL []) pSPassR_135_12E pSPassR_135_12P 117 rfl (by kernel_rfl) ?_))) <;> ((try with_reducible intro K1 hK1); simp only [go_sem, ↓reduceIte, reduceCtorEq, nA, nB, nC, nD, nE, nF, hH0, hO1, hO2, Nat.reduceMod, Nat.reduceDiv, Nat.reducePow] <;> and_intros <;> first | (apply hK1; clear hK1 K1) | (intros; first | omega | decide | (simp_all <;> omega)) | skip))))
        refine ⟨{ H := upd h.H o (some (.cells [.row 2 (out.map encStep ++ [[.v (.string item), .v (.int .i64 long)]]) (some k)])), T := upd h.T k (some (.tail (out.length + 1))) }, .v (.slice none 0 0), _, hR.frame (fun x hx => upd_other _ _ (fun e => by subst e; exact ho hx)) (fun x hx => upd_other _ _ (fun e => by subst e; exact hkt hx)), ⟨?_, ?_⟩, ⟨fun x _ hx => upd_other _ _ hx, fun x _ hx => upd_other _ _ hx⟩, .inl ⟨rfl, Weak.nil 1 0 0 ⟨rfl, rfl⟩, Hp.le.refl _⟩, rfl⟩
        · rw [show (out ++ if (1 : Int) = 1 then [(item, long)] else []).map encStep = out.map encStep ++ [[.v (.string item), .v (.int .i64 long)]] by simp [encStep]]
          exact upd_same _ _ _
        · rw [show (out ++ if (1 : Int) = 1 then [(item, long)] else []).length = out.length + 1 by simp]
          exact upd_same _ _ _
      · obtain ⟨tk, rfl⟩ := hkz (by omega)
        have hO' : OutAt h o k [] (out ++ if (2 : Int) = 1 then [(item, long)] else []) := by simpa using hO
        (repeat (first | refine gO (by decide) ?_ | ((first | ((with_reducible refine yS ?_); refine awp_keep 9905787658939656716169610695 100 (kS ?_)) | ((with_reducible refine yR ?_); refine awp_keep 9905787658939656716169610695 100 (kR ?_)) | refine gR ?_ | (with_reducible refine wM ?_ ?_) | ((with_reducible refine xR ?_); refine awp_keep 9905787658939656716169610695 100 (uE 4 (mdL []) pSPassR_135_4E pSPassR_135_4P 117 rfl (by kernel_rfl) ?_)) | ((with_reducible refine xR ?_); refine awp_keep 9905787658939656716169610695 100 (uE 12 (mdL []) pSPassR_135_12E pSPassR_135_12P 117 rfl (by kernel_rfl) ?_))) <;> ((try with_reducible intro K1 hK1); simp only [go_sem, ↓reduceIte, reduceCtorEq, nA, nB, nC, nD, nE, nF, hH0, Nat.reduceMod, Nat.reduceDiv, Nat.reducePow] <;> and_intros <;> first | (apply hK1; clear hK1 K1) | (intros; first | omega | decide | (simp_all <;> omega)) | skip))))
        refine awp_cond (t := _) rfl (fun h1 => by cases h1) (fun _ => ?_)
        (repeat (first | refine gO (by decide) ?_ | ((first | ((with_reducible refine yS ?_); refine awp_keep 9905787658939656716169610695 100 (kS ?_)) | ((with_reducible refine yR ?_); refine awp_keep 9905787658939656716169610695 100 (kR ?_)) | refine gR ?_ | (with_reducible refine wM ?_ ?_) | ((with_reducible refine xR ?_); refine awp_keep 9905787658939656716169610695 100 (uE 4 (mdL []) pSPassR_135_4E pSPassR_135_4P 117 rfl (by kernel_rfl) ?_)) | ((with_reducible refine xR ?_); refine awp_keep 9905787658939656716169610695 100 (uE 12 (mdL []) pSPassR_135_12E pSPassR_135_12P 117 rfl (by kernel_rfl) ?_))) <;> ((try with_reducible intro K1 hK1); simp only [go_sem, ↓reduceIte, reduceCtorEq, nA, nB, nC, nD, nE, nF, hH0, Nat.reduceMod, Nat.reduceDiv, Nat.reducePow] <;> and_intros <;> first | (apply hK1; clear hK1 K1) | (intros; first | omega | decide | (simp_all <;> omega)) | skip))))
        refine awp_cond (t := _) rfl (fun _ => ?_) (fun h1 => by cases h1)
        (repeat (first | refine gO (by decide) ?_ | ((first | ((with_reducible refine yS ?_); refine awp_keep 9905787658939656716169610695 100 (kS ?_)) | ((with_reducible refine yR ?_); refine awp_keep 9905787658939656716169610695 100 (kR ?_)) | refine gR ?_ | (with_reducible refine wM ?_ ?_) | ((with_reducible refine xR ?_); refine awp_keep 9905787658939656716169610695 100 (uE 4 (mdL []) pSPassR_135_4E pSPassR_135_4P 117 rfl (by kernel_rfl) ?_)) | ((with_reducible refine xR ?_); refine awp_keep 9905787658939656716169610695 100 (uE 12 (mdL []) pSPassR_135_12E pSPassR_135_12P 117 rfl (by kernel_rfl) ?_))) <;> ((try with_reducible intro K1 hK1); simp only [go_sem, ↓reduceIte, reduceCtorEq, nA, nB, nC, nD, nE, nF, hH0, Nat.reduceMod, Nat.reduceDiv, Nat.reducePow] <;> and_intros <;> first | (apply hK1; clear hK1 K1) | (intros; first | omega | decide | (simp_all <;> omega)) | skip))))
        refine awp_own 7 1 rfl ⟨rfl, rfl⟩ (fun q hq => ?_)
        simp only [List.set_cons_zero, List.set_cons_succ]
        replace hq : h.T q = none := hq
        refine awp_loopC (rl false [0, 3, 4, 1, 34, 2, 73]) 0 (fun g s => ∃ j : Nat, g + j = kids.length ∧ s = ⟨((.ptr i 0) :: (.ptr o 0) :: (.v (.int .i64 5000)) :: (jnk 4 ((.row 1 ((List.range j).map encN) (some q)) :: (jnk 34 ((.v (.int .i64 kids.length)) :: (.v (.int .i64 j)) :: (jnk 73 [])))))), [], { h with T := upd h.T q (some (.tail j)) }⟩) kids.length ⟨0, by omega, by rw [← l3]; rfl⟩ ?_
        rintro g _ ⟨j, hj, rfl⟩
        (repeat (first | refine gO (by decide) ?_ | ((first | ((with_reducible refine yS ?_); refine awp_keep 9905787658939656716169610695 100 (kS ?_)) | ((with_reducible refine yR ?_); refine awp_keep 9905787658939656716169610695 100 (kR ?_)) | refine gR ?_ | (with_reducible refine wM ?_ ?_) | ((with_reducible refine xR ?_); refine awp_keep 9905787658939656716169610695 100 (uE 4 (mdL []) pSPassR_135_4E pSPassR_135_4P 117 rfl (by kernel_rfl) ?_)) | ((with_reducible refine xR ?_); refine awp_keep 9905787658939656716169610695 100 (uE 12 (mdL []) pSPassR_135_12E pSPassR_135_12P 117 rfl (by kernel_rfl) ?_))) <;> ((try with_reducible intro K1 hK1); simp only [go_sem, ↓reduceIte, reduceCtorEq, nA, nB, nC, nD, nE, nF, Nat.reduceMod, Nat.reduceDiv, Nat.reducePow] <;> and_intros <;> first | (apply hK1; clear hK1 K1) | (intros; first | omega | decide | (simp_all <;> omega)) | skip))))
        refine awp_cond (t := _) rfl (fun h1 => ?_) (fun h1 => ?_)
        · simp only [decide_eq_true_eq] at h1
          (repeat (first | refine gO (by decide) ?_ | ((first | ((with_reducible refine yS ?_); refine awp_keep 9905787658939656716169610695 100 (kS ?_)) | ((with_reducible refine yR ?_); refine awp_keep 9905787658939656716169610695 100 (kR ?_)) | refine gR ?_ | (with_reducible refine wM ?_ ?_) | ((with_reducible refine xR ?_); refine awp_keep 9905787658939656716169610695 100 (uE 4 (mdL []) pSPassR_135_4E pSPassR_135_4P 117 rfl (by kernel_rfl) ?_)) | ((with_reducible refine xR ?_); refine awp_keep 9905787658939656716169610695 100 (uE 12 (mdL []) pSPassR_135_12E pSPassR_135_12P 117 rfl (by kernel_rfl) ?_))) <;> ((try with_reducible intro K1 hK1); simp only [go_sem, ↓reduceIte, reduceCtorEq, nA, nB, nC, nD, nE, nF, List.length_range, Nat.reduceMod, Nat.reduceDiv, Nat.reducePow] <;> and_intros <;> first | (apply hK1; clear hK1 K1) | (intros; first | omega | decide | (simp_all <;> omega)) | skip))))
          refine ⟨g - 1, by omega, j + 1, by omega, ?_⟩
          rw [List.range_succ, List.map_append]; rfl
        · simp only [decide_eq_false_iff_not] at h1
          have hjk : j = kids.length := by omega
          (repeat (first | refine gO (by decide) ?_ | ((first | ((with_reducible refine yS ?_); refine awp_keep 9905787658939656716169610695 100 (kS ?_)) | ((with_reducible refine yR ?_); refine awp_keep 9905787658939656716169610695 100 (kR ?_)) | refine gR ?_ | (with_reducible refine wM ?_ ?_) | ((with_reducible refine xR ?_); refine awp_keep 9905787658939656716169610695 100 (uE 4 (mdL []) pSPassR_135_4E pSPassR_135_4P 117 rfl (by kernel_rfl) ?_)) | ((with_reducible refine xR ?_); refine awp_keep 9905787658939656716169610695 100 (uE 12 (mdL []) pSPassR_135_12E pSPassR_135_12P 117 rfl (by kernel_rfl) ?_))) <;> ((try with_reducible intro K1 hK1); simp only [go_sem, ↓reduceIte, reduceCtorEq, nA, nB, nC, nD, nE, nF, Nat.reduceMod, Nat.reduceDiv, Nat.reducePow] <;> and_intros <;> first | (apply hK1; clear hK1 K1) | (intros; first | omega | decide | (simp_all <;> omega)) | skip))))
          have hix : idxL 2 p many kids.length (nextF shares p cs) = List.range kids.length := by simp [idxL]
          refine ⟨h, .row 1 ((List.range kids.length).map encN) (some q), { h with T := upd h.T q (some (.tail kids.length)) }, hR, hO', hfr0, .inl ⟨rfl, by rw [hix]; exact Weak.row _ _ _, ⟨fun _ => .inr rfl, fun x => ?_⟩⟩, by rw [hjk]; rfl⟩
          by_cases hx : x = q
          · subst hx; exact .inl hq
          · exact .inr (upd_other _ _ hx).symm
      · obtain ⟨tk, rfl⟩ := hkz (by omega)
        have hO' : OutAt h o k [] (out ++ if (3 : Int) = 1 then [(item, long)] else []) := by simpa using hO
        (repeat (first | refine gO (by decide) ?_ | ((first | ((with_reducible refine yS ?_); refine awp_keep 9905787658939656716169610695 100 (kS ?_)) | ((with_reducible refine yR ?_); refine awp_keep 9905787658939656716169610695 100 (kR ?_)) | refine gR ?_ | (with_reducible refine wM ?_ ?_) | ((with_reducible refine xR ?_); refine awp_keep 9905787658939656716169610695 100 (uE 4 (mdL []) pSPassR_135_4E pSPassR_135_4P 117 rfl (by kernel_rfl) ?_)) | ((with_reducible refine xR ?_); refine awp_keep 9905787658939656716169610695 100 (uE 12 (mdL []) pSPassR_135_12E pSPassR_135_12P 117 rfl (by kernel_rfl) ?_))) <;> ((try with_reducible intro K1 hK1); simp only [go_sem, ↓reduceIte, reduceCtorEq, nA, nB, nC, nD, nE, nF, hH0, Nat.reduceMod, Nat.reduceDiv, Nat.reducePow] <;> and_intros <;> first | (apply hK1; clear hK1 K1) | (intros; first | omega | decide | (simp_all <;> omega)) | skip))))
        refine awp_cond (t := _) rfl (fun h1 => by cases h1) (fun _ => ?_)
        (repeat (first | refine gO (by decide) ?_ | ((first | ((with_reducible refine yS ?_); refine awp_keep 9905787658939656716169610695 100 (kS ?_)) | ((with_reducible refine yR ?_); refine awp_keep 9905787658939656716169610695 100 (kR ?_)) | refine gR ?_ | (with_reducible refine wM ?_ ?_) | ((with_reducible refine xR ?_); refine awp_keep 9905787658939656716169610695 100 (uE 4 (mdL []) pSPassR_135_4E pSPassR_135_4P 117 rfl (by kernel_rfl) ?_)) | ((with_reducible refine xR ?_); refine awp_keep 9905787658939656716169610695 100 (uE 12 (mdL []) pSPassR_135_12E pSPassR_135_12P 117 rfl (by kernel_rfl) ?_))) <;> ((try with_reducible intro K1 hK1); simp only [go_sem, ↓reduceIte, reduceCtorEq, nA, nB, nC, nD, nE, nF, hH0, Nat.reduceMod, Nat.reduceDiv, Nat.reducePow] <;> and_intros <;> first | (apply hK1; clear hK1 K1) | (intros; first | omega | decide | (simp_all <;> omega)) | skip))))
        refine awp_cond (t := _) rfl (fun h1 => by cases h1) (fun _ => ?_)
        (repeat (first | refine gO (by decide) ?_ | ((first | ((with_reducible refine yS ?_); refine awp_keep 9905787658939656716169610695 100 (kS ?_)) | ((with_reducible refine yR ?_); refine awp_keep 9905787658939656716169610695 100 (kR ?_)) | refine gR ?_ | (with_reducible refine wM ?_ ?_) | ((with_reducible refine xR ?_); refine awp_keep 9905787658939656716169610695 100 (uE 4 (mdL []) pSPassR_135_4E pSPassR_135_4P 117 rfl (by kernel_rfl) ?_)) | ((with_reducible refine xR ?_); refine awp_keep 9905787658939656716169610695 100 (uE 12 (mdL []) pSPassR_135_12E pSPassR_135_12P 117 rfl (by kernel_rfl) ?_))) <;> ((try with_reducible intro K1 hK1); simp only [go_sem, ↓reduceIte, reduceCtorEq, nA, nB, nC, nD, nE, nF, hH0, Nat.reduceMod, Nat.reduceDiv, Nat.reducePow] <;> and_intros <;> first | (apply hK1; clear hK1 K1) | (intros; first | omega | decide | (simp_all <;> omega)) | skip))))
        refine awp_cond (t := _) rfl (fun _ => ?_) (fun h1 => by cases h1)
        have hnk : 0 < kids.length := List.length_pos_iff.2 (v3 (by omega))
        have htm := Int.tmod_lt_of_pos p (show (0 : Int) < kids.length by omega)
        have htn := Int.tmod_nonneg (kids.length : Int) hpn.1
        have hzl : az.length = kids.length := l3
        (repeat (first | refine gO (by decide) ?_ | ((first | ((with_reducible refine yS ?_); refine awp_keep 9905787658939656716169610695 100 (kS ?_)) | ((with_reducible refine yR ?_); refine awp_keep 9905787658939656716169610695 100 (kR ?_)) | refine gR ?_ | (with_reducible refine wM ?_ ?_) | ((with_reducible refine xR ?_); refine awp_keep 9905787658939656716169610695 100 (uE 4 (mdL []) pSPassR_135_4E pSPassR_135_4P 117 rfl (by kernel_rfl) ?_)) | ((with_reducible refine xR ?_); refine awp_keep 9905787658939656716169610695 100 (uE 12 (mdL []) pSPassR_135_12E pSPassR_135_12P 117 rfl (by kernel_rfl) ?_))) <;> ((try with_reducible intro K1 hK1); simp only [go_sem, ↓reduceIte, reduceCtorEq, nA, nB, nC, nD, nE, nF, hH0, hzl, Nat.reduceMod, Nat.reduceDiv, Nat.reducePow] <;> and_intros <;> first | (apply hK1; clear hK1 K1) | (intros; first | omega | decide | (simp_all <;> omega)) | skip))))
        have hix : idxL 3 p many kids.length (nextF shares p cs) = [(p.tmod kids.length).toNat] := by simp [idxL]
        refine ⟨h, .row 1 [[.v (.int .i64 (p.tmod kids.length))]] none, h, hR, hO', hfr0, .inl ⟨rfl, ?_, Hp.le.refl _⟩, rfl⟩
        rw [hix, List.map_cons, List.map_nil, encN, Int.toNat_of_nonneg htn]
        exact Weak.refl _
      · obtain ⟨tk, rfl⟩ := hkz (by omega)
        have hO' : OutAt h o k [] (out ++ if (4 : Int) = 1 then [(item, long)] else []) := by simpa using hO
        (repeat (first | refine gO (by decide) ?_ | ((first | ((with_reducible refine yS ?_); refine awp_keep 9905787658939656716169610695 100 (kS ?_)) | ((with_reducible refine yR ?_); refine awp_keep 9905787658939656716169610695 100 (kR ?_)) | refine gR ?_ | (with_reducible refine wM ?_ ?_) | ((with_reducible refine xR ?_); refine awp_keep 9905787658939656716169610695 100 (uE 4 (mdL []) pSPassR_135_4E pSPassR_135_4P 117 rfl (by kernel_rfl) ?_)) | ((with_reducible refine xR ?_); refine awp_keep 9905787658939656716169610695 100 (uE 12 (mdL []) pSPassR_135_12E pSPassR_135_12P 117 rfl (by kernel_rfl) ?_))) <;> ((try with_reducible intro K1 hK1); simp only [go_sem, ↓reduceIte, reduceCtorEq, nA, nB, nC, nD, nE, nF, hH0, Nat.reduceMod, Nat.reduceDiv, Nat.reducePow] <;> and_intros <;> first | (apply hK1; clear hK1 K1) | (intros; first | omega | decide | (simp_all <;> omega)) | skip))))
        refine awp_cond (t := _) rfl (fun h1 => by cases h1) (fun _ => ?_)
        (repeat (first | refine gO (by decide) ?_ | ((first | ((with_reducible refine yS ?_); refine awp_keep 9905787658939656716169610695 100 (kS ?_)) | ((with_reducible refine yR ?_); refine awp_keep 9905787658939656716169610695 100 (kR ?_)) | refine gR ?_ | (with_reducible refine wM ?_ ?_) | ((with_reducible refine xR ?_); refine awp_keep 9905787658939656716169610695 100 (uE 4 (mdL []) pSPassR_135_4E pSPassR_135_4P 117 rfl (by kernel_rfl) ?_)) | ((with_reducible refine xR ?_); refine awp_keep 9905787658939656716169610695 100 (uE 12 (mdL []) pSPassR_135_12E pSPassR_135_12P 117 rfl (by kernel_rfl) ?_))) <;> ((try with_reducible intro K1 hK1); simp only [go_sem, ↓reduceIte, reduceCtorEq, nA, nB, nC, nD, nE, nF, hH0, Nat.reduceMod, Nat.reduceDiv, Nat.reducePow] <;> and_intros <;> first | (apply hK1; clear hK1 K1) | (intros; first | omega | decide | (simp_all <;> omega)) | skip))))
        refine awp_cond (t := _) rfl (fun h1 => by cases h1) (fun _ => ?_)
        (repeat (first | refine gO (by decide) ?_ | ((first | ((with_reducible refine yS ?_); refine awp_keep 9905787658939656716169610695 100 (kS ?_)) | ((with_reducible refine yR ?_); refine awp_keep 9905787658939656716169610695 100 (kR ?_)) | refine gR ?_ | (with_reducible refine wM ?_ ?_) | ((with_reducible refine xR ?_); refine awp_keep 9905787658939656716169610695 100 (uE 4 (mdL []) pSPassR_135_4E pSPassR_135_4P 117 rfl (by kernel_rfl) ?_)) | ((with_reducible refine xR ?_); refine awp_keep 9905787658939656716169610695 100 (uE 12 (mdL []) pSPassR_135_12E pSPassR_135_12P 117 rfl (by kernel_rfl) ?_))) <;> ((try with_reducible intro K1 hK1); simp only [go_sem, ↓reduceIte, reduceCtorEq, nA, nB, nC, nD, nE, nF, hH0, Nat.reduceMod, Nat.reduceDiv, Nat.reducePow] <;> and_intros <;> first | (apply hK1; clear hK1 K1) | (intros; first | omega | decide | (simp_all <;> omega)) | skip))))
        refine awp_cond (t := _) rfl (fun h1 => by cases h1) (fun _ => ?_)
        (repeat (first | refine gO (by decide) ?_ | ((first | ((with_reducible refine yS ?_); refine awp_keep 9905787658939656716169610695 100 (kS ?_)) | ((with_reducible refine yR ?_); refine awp_keep 9905787658939656716169610695 100 (kR ?_)) | refine gR ?_ | (with_reducible refine wM ?_ ?_) | ((with_reducible refine xR ?_); refine awp_keep 9905787658939656716169610695 100 (uE 4 (mdL []) pSPassR_135_4E pSPassR_135_4P 117 rfl (by kernel_rfl) ?_)) | ((with_reducible refine xR ?_); refine awp_keep 9905787658939656716169610695 100 (uE 12 (mdL []) pSPassR_135_12E pSPassR_135_12P 117 rfl (by kernel_rfl) ?_))) <;> ((try with_reducible intro K1 hK1); simp only [go_sem, ↓reduceIte, reduceCtorEq, nA, nB, nC, nD, nE, nF, hH0, Nat.reduceMod, Nat.reduceDiv, Nat.reducePow] <;> and_intros <;> first | (apply hK1; clear hK1 K1) | (intros; first | omega | decide | (simp_all <;> omega)) | skip))))
        refine awp_cond (t := _) rfl (fun _ => ?_) (fun h1 => by cases h1)
        have hsl := v5 rfl
        rw [← hsl] at hH0
        (repeat (first | refine gO (by decide) ?_ | ((first | ((with_reducible refine yS ?_); refine awp_keep 9905787658939656716169610695 100 (kS ?_)) | ((with_reducible refine yR ?_); refine awp_keep 9905787658939656716169610695 100 (kR ?_)) | refine gR ?_ | (with_reducible refine wM ?_ ?_) | ((with_reducible refine xR ?_); refine awp_keep 9905787658939656716169610695 100 (uE 4 (mdL []) pSPassR_135_4E pSPassR_135_4P 117 rfl (by kernel_rfl) ?_)) | ((with_reducible refine xR ?_); refine awp_keep 9905787658939656716169610695 100 (uE 12 (mdL []) pSPassR_135_12E pSPassR_135_12P 117 rfl (by kernel_rfl) ?_))) <;> ((try with_reducible intro K1 hK1); simp only [go_sem, ↓reduceIte, reduceCtorEq, nA, nB, nC, nD, nE, nF, hH0, Nat.reduceMod, Nat.reduceDiv, Nat.reducePow] <;> and_intros <;> first | (apply hK1; clear hK1 K1) | (intros; first | omega | decide | (simp_all <;> omega)) | skip))))
        refine (g_next46 4 item long many (.row 6 (kids.map encL) none) shares (.row 1 (az.map fun a => [.ptr a.id 0]) tk) p i c0 cs h hH0 hT0 (by omega) (by omega) v6 (by omega) hcn).mono ?_; rintro _ hz ⟨rfl, hh⟩; apply hK1; clear hK1 K1; rw [hh]; clear hh hz
        (repeat (first | refine gO (by decide) ?_ | ((first | ((with_reducible refine yS ?_); refine awp_keep 9905787658939656716169610695 100 (kS ?_)) | ((with_reducible refine yR ?_); refine awp_keep 9905787658939656716169610695 100 (kR ?_)) | refine gR ?_ | (with_reducible refine wM ?_ ?_) | ((with_reducible refine xR ?_); refine awp_keep 9905787658939656716169610695 100 (uE 4 (mdL []) pSPassR_135_4E pSPassR_135_4P 117 rfl (by kernel_rfl) ?_)) | ((with_reducible refine xR ?_); refine awp_keep 9905787658939656716169610695 100 (uE 12 (mdL []) pSPassR_135_12E pSPassR_135_12P 117 rfl (by kernel_rfl) ?_))) <;> ((try with_reducible intro K1 hK1); simp only [go_sem, ↓reduceIte, reduceCtorEq, nA, nB, nC, nD, nE, nF, Nat.reduceMod, Nat.reduceDiv, Nat.reducePow] <;> and_intros <;> first | (apply hK1; clear hK1 K1) | (intros; first | omega | decide | (simp_all <;> omega)) | skip))))
        have hix : idxL 4 p many kids.length (nextF shares p cs) = [nextF shares p cs] := by simp [idxL]
        exact ⟨h, .row 1 [[.v (.int .i64 (nextF shares p cs))]] none, h, hR, hO', hfr0, .inl ⟨rfl, by rw [hix]; exact Weak.refl _, Hp.le.refl _⟩, rfl⟩
      · obtain ⟨tk, rfl⟩ := hkz (by omega)
        have hO' : OutAt h o k [] (out ++ if (5 : Int) = 1 then [(item, long)] else []) := by simpa using hO
        (repeat (first | refine gO (by decide) ?_ | ((first | ((with_reducible refine yS ?_); refine awp_keep 9905787658939656716169610695 100 (kS ?_)) | ((with_reducible refine yR ?_); refine awp_keep 9905787658939656716169610695 100 (kR ?_)) | refine gR ?_ | (with_reducible refine wM ?_ ?_) | ((with_reducible refine xR ?_); refine awp_keep 9905787658939656716169610695 100 (uE 4 (mdL []) pSPassR_135_4E pSPassR_135_4P 117 rfl (by kernel_rfl) ?_)) | ((with_reducible refine xR ?_); refine awp_keep 9905787658939656716169610695 100 (uE 12 (mdL []) pSPassR_135_12E pSPassR_135_12P 117 rfl (by kernel_rfl) ?_))) <;> ((try with_reducible intro K1 hK1); simp only [go_sem, ↓reduceIte, reduceCtorEq, nA, nB, nC, nD, nE, nF, hH0, Nat.reduceMod, Nat.reduceDiv, Nat.reducePow] <;> and_intros <;> first | (apply hK1; clear hK1 K1) | (intros; first | omega | decide | (simp_all <;> omega)) | skip))))
        refine awp_cond (t := _) rfl (fun h1 => by cases h1) (fun _ => ?_)
        (repeat (first | refine gO (by decide) ?_ | ((first | ((with_reducible refine yS ?_); refine awp_keep 9905787658939656716169610695 100 (kS ?_)) | ((with_reducible refine yR ?_); refine awp_keep 9905787658939656716169610695 100 (kR ?_)) | refine gR ?_ | (with_reducible refine wM ?_ ?_) | ((with_reducible refine xR ?_); refine awp_keep 9905787658939656716169610695 100 (uE 4 (mdL []) pSPassR_135_4E pSPassR_135_4P 117 rfl (by kernel_rfl) ?_)) | ((with_reducible refine xR ?_); refine awp_keep 9905787658939656716169610695 100 (uE 12 (mdL []) pSPassR_135_12E pSPassR_135_12P 117 rfl (by kernel_rfl) ?_))) <;> ((try with_reducible intro K1 hK1); simp only [go_sem, ↓reduceIte, reduceCtorEq, nA, nB, nC, nD, nE, nF, hH0, Nat.reduceMod, Nat.reduceDiv, Nat.reducePow] <;> and_intros <;> first | (apply hK1; clear hK1 K1) | (intros; first | omega | decide | (simp_all <;> omega)) | skip))))
        refine awp_cond (t := _) rfl (fun h1 => by cases h1) (fun _ => ?_)
        (repeat (first | refine gO (by decide) ?_ | ((first | ((with_reducible refine yS ?_); refine awp_keep 9905787658939656716169610695 100 (kS ?_)) | ((with_reducible refine yR ?_); refine awp_keep 9905787658939656716169610695 100 (kR ?_)) | refine gR ?_ | (with_reducible refine wM ?_ ?_) | ((with_reducible refine xR ?_); refine awp_keep 9905787658939656716169610695 100 (uE 4 (mdL []) pSPassR_135_4E pSPassR_135_4P 117 rfl (by kernel_rfl) ?_)) | ((with_reducible refine xR ?_); refine awp_keep 9905787658939656716169610695 100 (uE 12 (mdL []) pSPassR_135_12E pSPassR_135_12P 117 rfl (by kernel_rfl) ?_))) <;> ((try with_reducible intro K1 hK1); simp only [go_sem, ↓reduceIte, reduceCtorEq, nA, nB, nC, nD, nE, nF, hH0, Nat.reduceMod, Nat.reduceDiv, Nat.reducePow] <;> and_intros <;> first | (apply hK1; clear hK1 K1) | (intros; first | omega | decide | (simp_all <;> omega)) | skip))))
        refine awp_cond (t := _) rfl (fun h1 => by cases h1) (fun _ => ?_)
        (repeat (first | refine gO (by decide) ?_ | ((first | ((with_reducible refine yS ?_); refine awp_keep 9905787658939656716169610695 100 (kS ?_)) | ((with_reducible refine yR ?_); refine awp_keep 9905787658939656716169610695 100 (kR ?_)) | refine gR ?_ | (with_reducible refine wM ?_ ?_) | ((with_reducible refine xR ?_); refine awp_keep 9905787658939656716169610695 100 (uE 4 (mdL []) pSPassR_135_4E pSPassR_135_4P 117 rfl (by kernel_rfl) ?_)) | ((with_reducible refine xR ?_); refine awp_keep 9905787658939656716169610695 100 (uE 12 (mdL []) pSPassR_135_12E pSPassR_135_12P 117 rfl (by kernel_rfl) ?_))) <;> ((try with_reducible intro K1 hK1); simp only [go_sem, ↓reduceIte, reduceCtorEq, nA, nB, nC, nD, nE, nF, hH0, Nat.reduceMod, Nat.reduceDiv, Nat.reducePow] <;> and_intros <;> first | (apply hK1; clear hK1 K1) | (intros; first | omega | decide | (simp_all <;> omega)) | skip))))
        refine awp_cond (t := _) rfl (fun h1 => by cases h1) (fun _ => ?_)
        (repeat (first | refine gO (by decide) ?_ | ((first | ((with_reducible refine yS ?_); refine awp_keep 9905787658939656716169610695 100 (kS ?_)) | ((with_reducible refine yR ?_); refine awp_keep 9905787658939656716169610695 100 (kR ?_)) | refine gR ?_ | (with_reducible refine wM ?_ ?_) | ((with_reducible refine xR ?_); refine awp_keep 9905787658939656716169610695 100 (uE 4 (mdL []) pSPassR_135_4E pSPassR_135_4P 117 rfl (by kernel_rfl) ?_)) | ((with_reducible refine xR ?_); refine awp_keep 9905787658939656716169610695 100 (uE 12 (mdL []) pSPassR_135_12E pSPassR_135_12P 117 rfl (by kernel_rfl) ?_))) <;> ((try with_reducible intro K1 hK1); simp only [go_sem, ↓reduceIte, reduceCtorEq, nA, nB, nC, nD, nE, nF, hH0, Nat.reduceMod, Nat.reduceDiv, Nat.reducePow] <;> and_intros <;> first | (apply hK1; clear hK1 K1) | (intros; first | omega | decide | (simp_all <;> omega)) | skip))))
        refine awp_cond (t := _) rfl (fun _ => ?_) (fun h1 => by cases h1)
        have hm5 := v4 rfl
        (repeat (first | refine gO (by decide) ?_ | ((first | ((with_reducible refine yS ?_); refine awp_keep 9905787658939656716169610695 100 (kS ?_)) | ((with_reducible refine yR ?_); refine awp_keep 9905787658939656716169610695 100 (kR ?_)) | refine gR ?_ | (with_reducible refine wM ?_ ?_) | ((with_reducible refine xR ?_); refine awp_keep 9905787658939656716169610695 100 (uE 4 (mdL []) pSPassR_135_4E pSPassR_135_4P 117 rfl (by kernel_rfl) ?_)) | ((with_reducible refine xR ?_); refine awp_keep 9905787658939656716169610695 100 (uE 12 (mdL []) pSPassR_135_12E pSPassR_135_12P 117 rfl (by kernel_rfl) ?_))) <;> ((try with_reducible intro K1 hK1); simp only [go_sem, ↓reduceIte, reduceCtorEq, nA, nB, nC, nD, nE, nF, hH0, Nat.reduceMod, Nat.reduceDiv, Nat.reducePow] <;> and_intros <;> first | (apply hK1; clear hK1 K1) | (intros; first | omega | decide | (simp_all <;> omega)) | skip))))
        intro q hq
        refine hK1 _ ?_; clear hK1 K1
        (repeat (first | refine gO (by decide) ?_ | ((first | ((with_reducible refine yS ?_); refine awp_keep 9905787658939656716169610695 100 (kS ?_)) | ((with_reducible refine yR ?_); refine awp_keep 9905787658939656716169610695 100 (kR ?_)) | refine gR ?_ | (with_reducible refine wM ?_ ?_) | ((with_reducible refine xR ?_); refine awp_keep 9905787658939656716169610695 100 (uE 4 (mdL []) pSPassR_135_4E pSPassR_135_4P 117 rfl (by kernel_rfl) ?_)) | ((with_reducible refine xR ?_); refine awp_keep 9905787658939656716169610695 100 (uE 12 (mdL []) pSPassR_135_12E pSPassR_135_12P 117 rfl (by kernel_rfl) ?_))) <;> ((try with_reducible intro K1 hK1); simp only [go_sem, ↓reduceIte, reduceCtorEq, nA, nB, nC, nD, nE, nF, hH0, Nat.reduceMod, Nat.reduceDiv, Nat.reducePow] <;> and_intros <;> first | (apply hK1; clear hK1 K1) | (intros; first | omega | decide | (simp_all <;> omega)) | skip))))
        have hix : idxL 5 p many kids.length (nextF shares p cs) = List.replicate many.toNat 0 := by simp [idxL]
        refine ⟨h, .arr 1 q many.toNat, _, hR, hO', hfr0, .inr ⟨q, by rw [hix, List.length_replicate], hq, rfl⟩, ?_⟩
        rw [hix, List.map_replicate]; rfl
    · rintro _ ⟨hb, v, h1, hRb, hOb, hFb, hv7, rfl⟩
      have hidx := idxL_lt (many := many) (nx := nextF shares p cs) v1 (fun h => List.length_pos_iff.2 (v3 h)) (fun h4 => by rw [← v5 h4]; exact bestTo_lt _ _ (by rw [v5 h4]; exact List.length_pos_iff.2 (v3 (by omega)))) hpn.1
      have hLn : (idxL kind p many kids.length (nextF shares p cs)).length ≤ 1000 := by
        unfold idxL
        split
        · simp
        · split
          · simp; omega
          · split
            · simp
            · split
              · simp
              · have := v4 (by omega); simp; omega
      have hL1 : (idxL kind p many kids.length (nextF shares p cs)).length ≠ 0 → kind ≠ 1 := fun h hk => h (by unfold idxL; rw [if_pos hk]; rfl)
      have hPS := passU_succ d kind item long many kids shares p cs ks
      generalize idxL kind p many kids.length (nextF shares p cs) = L at *
      have hzl : ∀ y ∈ L.map encN, y.length = 1 := fun y hy => by obtain ⟨x, _, rfl⟩ := List.mem_map.1 hy; rfl
      refine awp_via (fun s => s = ⟨((.ptr i 0) :: (.ptr o 0) :: (.v (.int .i64 5000)) :: (jnk 4 ((.row 1 (L.map encN) none) :: (jnk 109 [])))), [], hb⟩) ?_ ?_
      rotate_left
      · intro main
        rcases hv7 with ⟨hn, hw, hle⟩ | ⟨q, rfl, hq, rfl⟩
        · exact awp_less hle (awp_weakS 7 rfl hn hw (main _ rfl))
        · refine awp_frz 7 q 1 (xs := L.map encN) (by rw [List.length_map]; rfl) (upd_same _ _ _) hzl (main _ ?_)
          simp only [upd_none hq]
          rfl
      rintro _ rfl
      clear hv7 h1 v
      (repeat (first | refine gQ (by decide) ?_ | ((first | ((with_reducible refine yS ?_); refine awp_keep 9905787658939656716169610695 100 (kS ?_)) | ((with_reducible refine yR ?_); refine awp_keep 9905787658939656716169610695 100 (kR ?_)) | refine gR ?_ | (with_reducible refine wM ?_ ?_) | ((with_reducible refine xR ?_); refine awp_keep 9905787658939656716169610695 100 (uE 4 (mdL []) pSPassR_135_4E pSPassR_135_4P 117 rfl (by kernel_rfl) ?_)) | ((with_reducible refine xR ?_); refine awp_keep 9905787658939656716169610695 100 (uE 12 (mdL []) pSPassR_135_12E pSPassR_135_12P 117 rfl (by kernel_rfl) ?_))) <;> ((try with_reducible intro K1 hK1); simp only [go_sem, ↓reduceIte, reduceCtorEq, nA, nB, nC, nD, nE, nF, Nat.reduceMod, Nat.reduceDiv, Nat.reducePow] <;> and_intros <;> first | (apply hK1; clear hK1 K1) | (intros; first | omega | decide | (simp_all <;> omega)) | skip))))
      refine awp_seq ?_
      (repeat (first | refine gO (by decide) ?_ | ((first | ((with_reducible refine yS ?_); refine awp_keep 9905787658939656716169610695 100 (kS ?_)) | ((with_reducible refine yR ?_); refine awp_keep 9905787658939656716169610695 100 (kR ?_)) | refine gR ?_ | (with_reducible refine wM ?_ ?_) | ((with_reducible refine xR ?_); refine awp_keep 9905787658939656716169610695 100 (uE 4 (mdL []) pSPassR_135_4E pSPassR_135_4P 117 rfl (by kernel_rfl) ?_)) | ((with_reducible refine xR ?_); refine awp_keep 9905787658939656716169610695 100 (uE 12 (mdL []) pSPassR_135_12E pSPassR_135_12P 117 rfl (by kernel_rfl) ?_))) <;> ((try with_reducible intro K1 hK1); simp only [go_sem, ↓reduceIte, reduceCtorEq, nA, nB, nC, nD, nE, nF, Nat.reduceMod, Nat.reduceDiv, Nat.reducePow] <;> and_intros <;> first | (apply hK1; clear hK1 K1) | (intros; first | omega | decide | (simp_all <;> omega)) | skip))))
      refine awp_loopC (rl false [0, 3, 74, 3, 37]) 0 (fun g s => ∃ (j : Nat) (h1 : Hp) (acc : (List Int × List PS) × List (ByteArray × Int)), g + j = L.length ∧ acc = (L.take j).foldl (stepU (passU d) kids) ((cs, ks), if kind = 1 then [(item, long)] else []) ∧
        RAt XR h1 (d + 1) (.mk kind item long many kids shares) (.mk i c0 az) (.mk p acc.1.1 acc.1.2) ∧ OutAt h1 o k [] (out ++ acc.2) ∧ FrP (.mk i c0 az) o k h h1 ∧ FOk d kids (out.length + acc.2.length) acc.1 ∧ (L.length ≠ 0 → out.length + acc.2.length ≤ 5000) ∧ out.length + acc.2.length ≤ 5001 ∧
        s = ⟨((.ptr i 0) :: (.ptr o 0) :: (.v (.int .i64 5000)) :: (jnk 74 ((.row 1 (L.map encN) none) :: (.v (.int .i64 L.length)) :: (.v (.int .i64 j)) :: (jnk 37 [])))), [], h1⟩) L.length ⟨0, hb, ((cs, ks), if kind = 1 then [(item, long)] else []), by omega, rfl, hRb, hOb, hFb, ⟨⟨l2, l4⟩, fun x hx => ?_, fun j hj => (hB.2.2 j hj).mono ?_⟩, fun h => ?_, ?_, rfl⟩ ?_
      · have := hB.2.1 x hx; simp only []; omega
      · simp only []; omega
      · rw [if_neg (hL1 h)]; simp; omega
      · simp only []; split <;> simp <;> omega
      rintro g _ ⟨j, h1, acc, hj, hacc, hR1, hO1', hF1, hFk, hl5, hl6, rfl⟩
      (repeat (first | refine gO (by decide) ?_ | ((first | ((with_reducible refine yS ?_); refine awp_keep 9905787658939656716169610695 100 (kS ?_)) | ((with_reducible refine yR ?_); refine awp_keep 9905787658939656716169610695 100 (kR ?_)) | refine gR ?_ | (with_reducible refine wM ?_ ?_) | ((with_reducible refine xR ?_); refine awp_keep 9905787658939656716169610695 100 (uE 4 (mdL []) pSPassR_135_4E pSPassR_135_4P 117 rfl (by kernel_rfl) ?_)) | ((with_reducible refine xR ?_); refine awp_keep 9905787658939656716169610695 100 (uE 12 (mdL []) pSPassR_135_12E pSPassR_135_12P 117 rfl (by kernel_rfl) ?_))) <;> ((try with_reducible intro K1 hK1); simp only [go_sem, ↓reduceIte, reduceCtorEq, nA, nB, nC, nD, nE, nF, Nat.reduceMod, Nat.reduceDiv, Nat.reducePow] <;> and_intros <;> first | (apply hK1; clear hK1 K1) | (intros; first | omega | decide | (simp_all <;> omega)) | skip))))
      refine awp_cond (t := _) rfl (fun h2 => ?_) (fun h2 => ?_)
      · simp only [decide_eq_true_eq] at h2
        have hjL : j < L.length := by omega
        have hgL : (L.map encN).getD j [] = encN (L.getD j 0) := getD_enc encN L j 0 hjL
        have hx := hidx _ (getD_mem' L j 0 hjL)
        have hsplit : L.take (j + 1) = L.take j ++ [L.getD j 0] := by rw [List.take_add_one, List.getD_eq_getElem?_getD, List.getElem?_eq_getElem hjL]; rfl
        generalize L.getD j 0 = x at hgL hx hsplit
        obtain ⟨⟨K1', hH1, hK1'⟩, hT1, ⟨m1, m2, m3, m4⟩, hk1⟩ := id hR1
        obtain ⟨tk, rfl⟩ : ∃ tk, K1' = .row 1 (az.map fun a => [.ptr a.id 0]) tk := by
          rcases hK1' with ⟨rfl, _⟩ | h9
          · simp at m3; omega
          · exact h9
        have hH10 : h1.H i = some (.cells [.v (.int .i64 kind), .v (.string item), .v (.int .i64 long), .v (.int .i64 many), .row 6 (kids.map encL) none, .row 1 (shares.map encI) none, .row 1 (az.map fun a => [.ptr a.id 0]) tk, .v (.int .i64 p), .arr 1 c0 kids.length]) := hH1
        have hgz : (az.map fun a : AT => [AV.ptr a.id 0]).getD x [] = [.ptr (az.getD x default).id 0] := getD_enc (fun a : AT => [AV.ptr a.id 0]) az x default (by omega)
        have ho5 := hl5 (by omega)
        have hSx := hS x (by omega)
        (repeat (first | refine gO (by decide) ?_ | ((first | ((with_reducible refine yS ?_); refine awp_keep 9905787658939656716169610695 100 (kS ?_)) | ((with_reducible refine yR ?_); refine awp_keep 9905787658939656716169610695 100 (kR ?_)) | refine gR ?_ | (with_reducible refine wM ?_ ?_) | ((with_reducible refine xR ?_); refine awp_keep 9905787658939656716169610695 100 (uE 4 (mdL []) pSPassR_135_4E pSPassR_135_4P 117 rfl (by kernel_rfl) ?_)) | ((with_reducible refine xR ?_); refine awp_keep 9905787658939656716169610695 100 (uE 12 (mdL []) pSPassR_135_12E pSPassR_135_12P 117 rfl (by kernel_rfl) ?_))) <;> ((try with_reducible intro K1 hK1); simp only [go_sem, ↓reduceIte, reduceCtorEq, nA, nB, nC, nD, nE, nF, Int.toNat_natCast, hgL, encN, hH10, hgz, m3, Nat.reduceMod, Nat.reduceDiv, Nat.reducePow] <;> and_intros <;> first | (apply hK1; clear hK1 K1) | (intros; first | omega | decide | (simp_all <;> omega)) | skip))))
        refine (g_passR d (kids.getD x default) (az.getD x default) (acc.1.2.getD x default) h1 o k (out ++ acc.2) (v8 _ (getD_mem' kids x default hx)) (hk1 x hx) hSx.1.2.2 (by rw [List.length_append]; exact_mod_cast hFk.2.2 x hx) hO1' (fun h => ho (idsT_kid (by omega) h)) (by rw [List.length_append]; exact ho5)).mono ?_
        intro r h3 hres
        have hpo := passU_ok d (kids.getD x default) (acc.1.2.getD x default) (out.length + acc.2.length) (v8 _ (getD_mem' kids x default hx)) (hk1 x hx).fits (by omega) (hFk.2.2 x hx)
        unfold PRes at hres
        split at hres
        · rename_i hle
          obtain ⟨rfl, hR3, hO3, hF3⟩ := hres
          have hkt1 := hR1.tokNe hO1'.2
          have hoi : i ≠ o := fun e => ho (by rw [idsT_eq, e]; simp)
          have hck : c0 ≠ k := fun e => hkt1 (by rw [toksT_eq, e]; simp)
          have hH3 := (hF3.1 i hSx.1.1 hoi).trans hH10
          have hT3 : h3.T c0 = some (.cont 1 (acc.1.1.map encI)) := (hF3.2 c0 hSx.1.2.1 hck).trans hT1
          have hgc : (acc.1.1.map encI).getD x [] = encI (acc.1.1.getD x 0) := getD_enc encI acc.1.1 x 0 (by omega)
          have hcb := hFk.2.1 _ (getD_mem' acc.1.1 x 0 (by omega))
          refine hK1 _ ?_; clear hK1 K1
          (repeat (first | refine gO (by decide) ?_ | ((first | ((with_reducible refine yS ?_); refine awp_keep 9905787658939656716169610695 100 (kS ?_)) | ((with_reducible refine yR ?_); refine awp_keep 9905787658939656716169610695 100 (kR ?_)) | refine gR ?_ | (with_reducible refine wM ?_ ?_) | ((with_reducible refine xR ?_); refine awp_keep 9905787658939656716169610695 100 (uE 4 (mdL []) pSPassR_135_4E pSPassR_135_4P 117 rfl (by kernel_rfl) ?_)) | ((with_reducible refine xR ?_); refine awp_keep 9905787658939656716169610695 100 (uE 12 (mdL []) pSPassR_135_12E pSPassR_135_12P 117 rfl (by kernel_rfl) ?_))) <;> ((try with_reducible intro K1 hK1); simp only [go_sem, ↓reduceIte, reduceCtorEq, nA, nB, nC, nD, nE, nF, Nat.reduceMod, Nat.reduceDiv, Nat.reducePow] <;> and_intros <;> first | (apply hK1; clear hK1 K1) | (intros; first | omega | decide | (simp_all <;> omega)) | skip))))
          refine awp_cond (t := _) rfl (fun h => by cases h) (fun _ => ?_)
          (repeat (first | refine gO (by decide) ?_ | ((first | ((with_reducible refine yS ?_); refine awp_keep 9905787658939656716169610695 100 (kS ?_)) | ((with_reducible refine yR ?_); refine awp_keep 9905787658939656716169610695 100 (kR ?_)) | refine gR ?_ | (with_reducible refine wM ?_ ?_) | ((with_reducible refine xR ?_); refine awp_keep 9905787658939656716169610695 100 (uE 4 (mdL []) pSPassR_135_4E pSPassR_135_4P 117 rfl (by kernel_rfl) ?_)) | ((with_reducible refine xR ?_); refine awp_keep 9905787658939656716169610695 100 (uE 12 (mdL []) pSPassR_135_12E pSPassR_135_12P 117 rfl (by kernel_rfl) ?_))) <;> ((try with_reducible intro K1 hK1); simp only [go_sem, ↓reduceIte, reduceCtorEq, nA, nB, nC, nD, nE, nF, hH3, hT3, m2, hgc, Int.toNat_natCast, encI, Nat.reduceMod, Nat.reduceDiv, Nat.reducePow] <;> and_intros <;> first | (apply hK1; clear hK1 K1) | (intros; first | omega | decide | (simp_all <;> omega)) | skip))))
          obtain ⟨s1, s2⟩ := stepU_ok (f := passU d) hFk hx rfl hpo.1 hpo.2.1
          rw [List.length_append] at hle
          refine ⟨g - 1, by omega, j + 1, { h3 with T := upd h3.T c0 (some (.cont 1 ((acc.1.1.set x (acc.1.1.getD x 0 + 1)).map encI))) }, stepU (passU d) kids acc x, by omega, by rw [hsplit, List.foldl_append, ← hacc]; rfl, ?_, ⟨?_, ?_⟩, hF1.trans ⟨fun y hy hyo => (hF3.kid (i := i) (c := c0) (by omega)).1 y hy hyo, fun y hy hyk => (upd_other _ _ (fun e => hy (by rw [toksT_eq, e]; simp))).trans ((hF3.kid (i := i) (c := c0) (by omega)).2 y hy hyk)⟩, ?_, fun _ => by rw [s2]; omega, by rw [s2]; omega, ?_⟩
          · exact (hR1.kid hS ho hkt1 hx hR3 hF3).count hS (cs' := acc.1.1.set x (acc.1.1.getD x 0 + 1)) (by simp) (by simp [XR]; omega)
          · rw [show (stepU (passU d) kids acc x).2 = acc.2 ++ (passU d (kids.getD x default) (acc.1.2.getD x default)).2 from rfl, ← List.append_assoc]
            exact hO3.1
          · rw [show (stepU (passU d) kids acc x).2 = acc.2 ++ (passU d (kids.getD x default) (acc.1.2.getD x default)).2 from rfl, ← List.append_assoc]
            exact (upd_other _ _ (fun e => hck e.symm)).trans hO3.2
          · rw [s2]
            have e5 : ((out.length : Int) + ((acc.2.length + (passU d (kids.getD x default) (acc.1.2.getD x default)).2.length : Nat) : Int)) = out.length + acc.2.length + (passU d (kids.getD x default) (acc.1.2.getD x default)).2.length := by omega
            rw [e5]; exact s1
          · rw [List.map_set]; rfl
        · rename_i hle
          subst hres
          refine hK1 _ ?_; clear hK1 K1
          (repeat (first | refine gO (by decide) ?_ | ((first | ((with_reducible refine yS ?_); refine awp_keep 9905787658939656716169610695 100 (kS ?_)) | ((with_reducible refine yR ?_); refine awp_keep 9905787658939656716169610695 100 (kR ?_)) | refine gR ?_ | (with_reducible refine wM ?_ ?_) | ((with_reducible refine xR ?_); refine awp_keep 9905787658939656716169610695 100 (uE 4 (mdL []) pSPassR_135_4E pSPassR_135_4P 117 rfl (by kernel_rfl) ?_)) | ((with_reducible refine xR ?_); refine awp_keep 9905787658939656716169610695 100 (uE 12 (mdL []) pSPassR_135_12E pSPassR_135_12P 117 rfl (by kernel_rfl) ?_))) <;> ((try with_reducible intro K1 hK1); simp only [go_sem, ↓reduceIte, reduceCtorEq, nA, nB, nC, nD, nE, nF, Nat.reduceMod, Nat.reduceDiv, Nat.reducePow] <;> and_intros <;> first | (apply hK1; clear hK1 K1) | (intros; first | omega | decide | (simp_all <;> omega)) | skip))))
          refine awp_cond (t := _) rfl (fun _ => ?_) (fun h => by cases h)
          (repeat (first | refine gO (by decide) ?_ | ((first | ((with_reducible refine yS ?_); refine awp_keep 9905787658939656716169610695 100 (kS ?_)) | ((with_reducible refine yR ?_); refine awp_keep 9905787658939656716169610695 100 (kR ?_)) | refine gR ?_ | (with_reducible refine wM ?_ ?_) | ((with_reducible refine xR ?_); refine awp_keep 9905787658939656716169610695 100 (uE 4 (mdL []) pSPassR_135_4E pSPassR_135_4P 117 rfl (by kernel_rfl) ?_)) | ((with_reducible refine xR ?_); refine awp_keep 9905787658939656716169610695 100 (uE 12 (mdL []) pSPassR_135_12E pSPassR_135_12P 117 rfl (by kernel_rfl) ?_))) <;> ((try with_reducible intro K1 hK1); simp only [go_sem, ↓reduceIte, reduceCtorEq, nA, nB, nC, nD, nE, nF, Nat.reduceMod, Nat.reduceDiv, Nat.reducePow] <;> and_intros <;> first | (apply hK1; clear hK1 K1) | (intros; first | omega | decide | (simp_all <;> omega)) | skip))))
          simp only [Tryz.results135, go_sem, ↓reduceIte, reduceCtorEq, nA, nB, nC, nD, nE, nF]
          refine ⟨_, _, Weak.refl _, Hp.le.refl _, ?_⟩
          have hmo := fold_mono (f := passU d) (kids := kids) (L.drop (j + 1)) ((L.take (j + 1)).foldl (stepU (passU d) kids) ((cs, ks), if kind = 1 then [(item, long)] else []))
          rw [← List.foldl_append, List.take_append_drop, hsplit, List.foldl_append, ← hacc] at hmo
          have e6 : ([x].foldl (stepU (passU d) kids) acc).2.length = acc.2.length + (passU d (kids.getD x default) (acc.1.2.getD x default)).2.length := by simp [stepU]
          rw [e6] at hmo
          rw [List.length_append] at hle
          unfold PRes
          rw [hPS, if_neg (by simp only []; omega)]
      · simp only [decide_eq_false_iff_not] at h2
        have hjL : j = L.length := by omega
        subst hjL
        rw [List.take_length] at hacc
        obtain ⟨⟨K1', hH1, hK1'⟩, hT1, ⟨m1, m2, m3, m4⟩, hk1⟩ := id hR1
        have hH10 : h1.H i = some (.cells [.v (.int .i64 kind), .v (.string item), .v (.int .i64 long), .v (.int .i64 many), .row 6 (kids.map encL) none, .row 1 (shares.map encI) none, K1', .v (.int .i64 p), .arr 1 c0 kids.length]) := hH1
        have hoi : o ≠ i := fun e => ho (by rw [idsT_eq, e]; simp)
        have hHo : ∀ y, upd h1.H i y o = some (.cells [.row 2 ((out ++ acc.2).map encStep) (some k)]) := fun y => (upd_other _ _ hoi).trans hO1'.1
        (repeat (first | refine gO (by decide) ?_ | ((first | ((with_reducible refine yS ?_); refine awp_keep 9905787658939656716169610695 100 (kS ?_)) | ((with_reducible refine yR ?_); refine awp_keep 9905787658939656716169610695 100 (kR ?_)) | refine gR ?_ | (with_reducible refine wM ?_ ?_) | ((with_reducible refine xR ?_); refine awp_keep 9905787658939656716169610695 100 (uE 4 (mdL []) pSPassR_135_4E pSPassR_135_4P 117 rfl (by kernel_rfl) ?_)) | ((with_reducible refine xR ?_); refine awp_keep 9905787658939656716169610695 100 (uE 12 (mdL []) pSPassR_135_12E pSPassR_135_12P 117 rfl (by kernel_rfl) ?_))) <;> ((try with_reducible intro K1 hK1); simp only [go_sem, ↓reduceIte, reduceCtorEq, nA, nB, nC, nD, nE, nF, hH10, hHo, Nat.reduceMod, Nat.reduceDiv, Nat.reducePow] <;> and_intros <;> first | (apply hK1; clear hK1 K1) | (intros; first | omega | decide | (simp_all <;> omega)) | skip))))
        simp only [Tryz.results135, go_sem, ↓reduceIte, reduceCtorEq, nA, nB, nC, nD, nE, nF]
        refine ⟨_, _, Weak.refl _, Hp.le.refl _, ?_⟩
        unfold PRes
        rw [hPS, ← hacc]
        have e9 : (out ++ acc.2).length = out.length + acc.2.length := List.length_append
        show (if out.length + acc.2.length ≤ 5000 then _ else _)
        split
        · rename_i hle
          refine ⟨by simp only [AV.v.injEq, Value.bool.injEq, decide_eq_true_eq]; omega, hR1.hadOne hS hK1', ⟨hHo _, hO1'.2⟩, hF1.trans ⟨fun y hy _ => upd_other _ _ (fun e => hy (by rw [idsT_eq, e]; simp)), fun _ _ _ => rfl⟩⟩
        · rename_i hle
          simp only [AV.v.injEq, Value.bool.injEq, decide_eq_false_iff_not]
          omega
def PassRel (d : Nat) (t : LT) (s : PS) (out : List (ByteArray × Int)) (s' : PS) (out' : List (ByteArray × Int)) : Prop :=
  (5000 < out.length → s' = s ∧ out' = out) ∧ (out.length ≤ 5000 → out.length + (passU d t s).2.length ≤ 5000 → s' = (passU d t s).1 ∧ out' = out ++ (passU d t s).2) ∧
  (out.length ≤ 5000 → 5000 < out.length + (passU d t s).2.length → out'.length = 5001 ∧ PSB d t s' 5001)
def RunR (d : Nat) (kids : List LT) (out : List (ByteArray × Int)) (acc : (List Int × List PS) × List (ByteArray × Int)) (cs : List Int) (ks : List PS) (out' : List (ByteArray × Int)) : Prop :=
  FOk d kids out'.length (cs, ks) ∧ out'.length ≤ 5001 ∧ (out.length + acc.2.length ≤ 5000 → (cs, ks) = acc.1 ∧ out' = out ++ acc.2) ∧ (5000 < out.length + acc.2.length → out'.length = 5001)
theorem set_getD {α : Type} (l : List α) (x : Nat) (d : α) : l.set x (l.getD x d) = l := by
  by_cases h : x < l.length
  · rw [List.getD_eq_getElem?_getD, List.getElem?_eq_getElem h]; simp
  · rw [List.set_eq_of_length_le (by omega)]
theorem RunR.step {d : Nat} {kids : List LT} {out : List (ByteArray × Int)} {acc : (List Int × List PS) × List (ByteArray × Int)} {cs : List Int} {ks : List PS} {out' : List (ByteArray × Int)} (hR : RunR d kids out acc cs ks out') {x : Nat} (hx : x < kids.length)
    (hv : VL d (kids.getD x default)) (hf : Fits d (kids.getD x default) (ks.getD x default)) {s'' : PS} {out'' : List (ByteArray × Int)} (hp : PassRel d (kids.getD x default) (ks.getD x default) out' s'' out'') :
    RunR d kids out (stepU (passU d) kids acc x) (if out.length + acc.2.length ≤ 5000 then cs.set x (cs.getD x 0 + 1) else cs) (ks.set x s'') out'' := by
  obtain ⟨h1, h2, h3, h4⟩ := hR
  obtain ⟨p1, p2, p3⟩ := hp
  obtain ⟨⟨f1, f2⟩, f3, f4⟩ := id h1
  have hpo := passU_ok d (kids.getD x default) (ks.getD x default) out'.length hv hf (by omega) (f4 x hx)
  by_cases hex : out.length + acc.2.length ≤ 5000
  · rw [if_pos hex]
    obtain ⟨e1, e2⟩ := h3 hex
    have e3 : acc.1.1 = cs := by rw [← e1]
    have e4 : acc.1.2 = ks := by rw [← e1]
    have e5 : out'.length = out.length + acc.2.length := by rw [e2, List.length_append]
    have hst : (stepU (passU d) kids acc x).1 = (cs.set x (cs.getD x 0 + 1), ks.set x (passU d (kids.getD x default) (ks.getD x default)).1) := by simp only [stepU, e3, e4]
    have hs2 : (stepU (passU d) kids acc x).2 = acc.2 ++ (passU d (kids.getD x default) (ks.getD x default)).2 := by simp only [stepU, e4]
    by_cases hk : out'.length + (passU d (kids.getD x default) (ks.getD x default)).2.length ≤ 5000
    · obtain ⟨rfl, rfl⟩ := p2 (by omega) hk
      have hh : FOk d kids out'.length acc.1 := by rw [← e1]; exact h1
      obtain ⟨s1, s2⟩ := stepU_ok (f := passU d) (a := acc) hh hx (by rw [e4]) hpo.1 (by rw [e4]; exact hpo.2.1)
      rw [hst] at s1
      refine ⟨by rw [List.length_append]; exact_mod_cast s1, by rw [List.length_append]; omega, fun _ => ⟨hst.symm, by rw [hs2, e2, List.append_assoc]⟩, fun h => ?_⟩
      rw [hs2, List.length_append] at h; omega
    · obtain ⟨q1, q2⟩ := p3 (by omega) (by omega)
      have q1' : (out''.length : Int) = 5001 := by omega
      refine ⟨⟨⟨by simpa using f1, by simpa using f2⟩, fun y hy => ?_, fun j hj => ?_⟩, by omega, fun h => ?_, fun _ => q1⟩
      · rw [q1']
        rcases mem_set_or hy with h | h
        · have := f3 y h; omega
        · have := f3 _ (getD_mem' cs x 0 (show x < cs.length from by have : cs.length = kids.length := f1; omega)); omega
      · rw [q1']
        show PSB d (kids.getD j default) ((ks.set x s'').getD j default) 5001
        by_cases hxj : x = j
        · subst hxj; rw [getD_setS _ _ _ _ (by have : ks.length = kids.length := f2; omega)]; exact q2
        · rw [getD_setN _ _ _ _ _ hxj]; exact (f4 j hj).mono (by omega)
      · rw [hs2, List.length_append] at h; omega
  · rw [if_neg hex]
    have e5 := h4 (by omega)
    obtain ⟨rfl, rfl⟩ := p1 (by omega)
    rw [set_getD]
    have hs2 : acc.2.length ≤ (stepU (passU d) kids acc x).2.length := by simp [stepU]
    exact ⟨h1, h2, fun h => by omega, fun _ => e5⟩
def oEx : List AV := [.v (.int .i64 5000)]
def St2 (d : Nat) (t : LT) (kids : List LT) (a : AT) (p : Int) (h : Hp) (o k : Nat) (out : List (ByteArray × Int)) (acc : (List Int × List PS) × List (ByteArray × Int)) (h1 : Hp) (cs : List Int) (ks : List PS) (out' : List (ByteArray × Int)) : Prop :=
  RAt XP h1 (d + 1) t a (.mk p cs ks) ∧ OutAt h1 o k oEx out' ∧ FrP a o k h h1 ∧ RunR d kids out acc cs ks out'
def PRp (d : Nat) (t : LT) (a : AT) (s : PS) (h : Hp) (o k : Nat) (out : List (ByteArray × Int)) (r : AV) (h' : Hp) : Prop :=
  r = .tup [] ∧ ∃ s' out', RAt XP h' d t a s' ∧ OutAt h' o k oEx out' ∧ FrP a o k h h' ∧ PassRel d t s out s' out'
theorem RAt.counts {h : Hp} {d : Nat} {kind : Int} {item : ByteArray} {long many : Int} {kids : List LT} {shares : List Int} {a : AT} {p : Int} {cs cs' : List Int} {ks : List PS} (h4 : kind ≠ 4) (hl : cs'.length = cs.length)
    (hR : RAt XP h (d + 1) (.mk kind item long many kids shares) a (.mk p cs ks)) : RAt XP h (d + 1) (.mk kind item long many kids shares) a (.mk p cs' ks) := by
  cases a with
  | mk i c az =>
    obtain ⟨h1, h2, ⟨l1, l2, l3, l4⟩, h5⟩ := hR
    have e : XP.cf kind cs' = XP.cf kind cs := by simp only [XP, if_neg h4, hl]
    exact ⟨h1, by rw [e]; exact h2, ⟨by rw [e]; exact l1, by omega, l3, l4⟩, h5⟩
theorem St2.next {d : Nat} {kind : Int} {item : ByteArray} {long many : Int} {kids : List LT} {shares : List Int} {i c : Nat} {az : List AT} {p : Int} {h : Hp} {o k : Nat} {out : List (ByteArray × Int)} {acc : (List Int × List PS) × List (ByteArray × Int)} {h1 : Hp} {cs : List Int} {ks : List PS} {out' : List (ByteArray × Int)}
    (hs : St2 d (.mk kind item long many kids shares) kids (.mk i c az) p h o k out acc h1 cs ks out') (h4 : kind ≠ 4) (hS : Sep (d + 1) (.mk i c az)) (ho : o ∉ idsT (.mk i c az)) {x : Nat} (hx : x < kids.length) (hv : VL d (kids.getD x default))
    {r : AV} {h3 : Hp} (hp : PRp d (kids.getD x default) (az.getD x default) (ks.getD x default) h1 o k out' r h3) : ∃ cs' ks' out'', St2 d (.mk kind item long many kids shares) kids (.mk i c az) p h o k out (stepU (passU d) kids acc x) h3 cs' ks' out'' := by
  obtain ⟨g1, g2, g3, g4⟩ := hs
  obtain ⟨rfl, s', out'', r1, r2, r3, r4⟩ := hp
  obtain ⟨_, _, ⟨l1, l2, l3, l4⟩, hk⟩ := id g1
  have hkt := g1.tokNe g2.2
  refine ⟨if out.length + acc.2.length ≤ 5000 then cs.set x (cs.getD x 0 + 1) else cs, ks.set x s', out'', (g1.kid hS ho hkt hx r1 r3).counts h4 (by split <;> simp), r2, g3.trans (r3.kid (by omega)), g4.step hx hv (hk x hx).fits r4⟩
theorem St2.ask {d : Nat} {kind : Int} {item : ByteArray} {long many : Int} {kids : List LT} {shares : List Int} {i c : Nat} {az : List AT} {p : Int} {h : Hp} {o k : Nat} {out : List (ByteArray × Int)} {acc : (List Int × List PS) × List (ByteArray × Int)} {h1 : Hp} {cs : List Int} {ks : List PS} {out' : List (ByteArray × Int)}
    (hs : St2 d (.mk kind item long many kids shares) kids (.mk i c az) p h o k out acc h1 cs ks out') (hS : Sep (d + 1) (.mk i c az)) (ho : o ∉ idsT (.mk i c az)) {x : Nat} (hx : x < kids.length) :
    RAt XP h1 d (kids.getD x default) (az.getD x default) (ks.getD x default) ∧ Sep d (az.getD x default) ∧ PSB d (kids.getD x default) (ks.getD x default) out'.length ∧ OutAt h1 o k oEx out' ∧ o ∉ idsT (az.getD x default) ∧ out'.length ≤ 5001 := by
  obtain ⟨g1, g2, g3, g4⟩ := hs
  obtain ⟨_, _, ⟨l1, l2, l3, l4⟩, hk⟩ := id g1
  exact ⟨hk x hx, (hS x (by omega)).1.2.2, g4.1.2.2 x hx, g2, fun hh => ho (idsT_kid (by omega) hh), g4.2.1⟩
theorem St2.cells {d : Nat} {kind : Int} {item : ByteArray} {long many : Int} {kids : List LT} {shares : List Int} {i c : Nat} {az : List AT} {p : Int} {h : Hp} {o k : Nat} {out : List (ByteArray × Int)} {acc : (List Int × List PS) × List (ByteArray × Int)} {h1 : Hp} {cs : List Int} {ks : List PS} {out' : List (ByteArray × Int)}
    (hs : St2 d (.mk kind item long many kids shares) kids (.mk i c az) p h o k out acc h1 cs ks out') (hne : kids ≠ []) : (∃ tk, h1.H i = some (.cells [.v (.int .i64 kind), .v (.string item), .v (.int .i64 long), .v (.int .i64 many), .row 6 (kids.map encL) none, .row 1 (shares.map encI) none, .row 1 (az.map fun a => [.ptr a.id 0]) tk, .v (.int .i64 p), .arr 1 c kids.length, .v (.int .i64 shares.sum)])) ∧ az.length = kids.length := by
  obtain ⟨⟨⟨K, h1, hK⟩, _, ⟨l1, l2, l3, l4⟩, _⟩, _⟩ := hs
  refine ⟨?_, l3⟩
  rcases hK with ⟨rfl, _⟩ | ⟨tk, rfl⟩
  · simp at l3; exact absurd (List.eq_nil_of_length_eq_zero l3.symm) hne
  · exact ⟨tk, h1⟩
abbrev pSPassP_132_7E : List Nat := [0, 1, 2, 3, 4, 5, 6, 7, 8, 9, 10, 11, 12, 13, 14, 15, 16]
abbrev pSPassP_132_7P : List (Nat × List Nat × List Nat) := [(17, [], [18, 19]), (20, [], [])]
abbrev pSPassP_132_15E : List Nat := [0, 1, 2, 3, 4, 5, 6, 7, 8, 9, 10, 11, 12, 13, 14, 15, 16]
abbrev pSPassP_132_15P : List (Nat × List Nat × List Nat) := [(17, [], [])]
attribute [go_sem] pSPassP_132_7E pSPassP_132_7P pSPassP_132_15E pSPassP_132_15P
def PassJp (d : Nat) (kind : Int) (item : ByteArray) (long many : Int) (kids : List LT) (shares : List Int) (i c0 : Nat) (az : List AT) (p : Int) (cs : List Int) (ks : List PS) (h : Hp) (o k : Nat) (out : List (ByteArray × Int)) (s : St) : Prop :=
  ∃ h1 cs' ks' out', St2 d (.mk kind item long many kids shares) kids (.mk i c0 az) p h o k out ((idxL kind p many kids.length (nextF shares p cs)).foldl (stepU (passU d) kids) ((cs, ks), if kind = 1 then [(item, long)] else [])) h1 cs' ks' out' ∧
    s = ⟨((.ptr i 0) :: (.ptr o 0) :: (jnk 114 [])), [], h1⟩
theorem g_passP : ∀ (d : Nat) (t : LT) (a : AT) (s : PS) (h : Hp) (o k : Nat) (out : List (ByteArray × Int)), VL d t → RAt XP h d t a s → Sep d a → PSB d t s out.length → OutAt h o k oEx out → o ∉ idsT a → out.length ≤ 5001 →
    ACalls Tryz.prog 132 [.ptr a.id 0, .ptr o 0] h (PRp d t a s h o k out)
  | 0, _, _, _, _, _, _, _, hv, _, _, _, _, _, _ => hv.elim
  | d + 1, .mk kind item long many kids shares, .mk i c0 az, .mk p cs ks, h, o, k, out, hv, hR, hS, hB, hO, ho, hout => by
    have hfit := hR.fits
    have hkt := hR.tokNe hO.2
    obtain ⟨v1, v2, v3, v4, v5, v6, v7, v8⟩ := id hv
    obtain ⟨⟨K, hH, hK⟩, hT, ⟨l1, l2, l3, l4⟩, hkids⟩ := id hR
    have hH0 : h.H i = some (.cells [.v (.int .i64 kind), .v (.string item), .v (.int .i64 long), .v (.int .i64 many), .row 6 (kids.map encL) none, .row 1 (shares.map encI) none, K, .v (.int .i64 p), .arr 1 c0 kids.length, .v (.int .i64 shares.sum)]) := hH
    have hO1 : h.H o = some (.cells [.row 2 (out.map encStep) (some k), .v (.int .i64 5000)]) := hO.1
    have hO2 : h.T k = some (.tail out.length) := hO.2
    have hfr0 : FrP (.mk i c0 az) o k h h := ⟨fun _ _ _ => rfl, fun _ _ _ => rfl⟩
    show ACalls Tryz.prog 132 [.ptr i 0, .ptr o 0] h _
    refine gE Tryz.func132 rfl (by kernel_rfl) 114 rfl fun c => ?_
    (repeat (first | refine gO (by decide) ?_ | ((first | ((with_reducible refine yS ?_); refine awp_keep 154742654650856545879597411 100 (kS ?_)) | ((with_reducible refine yR ?_); refine awp_keep 154742654650856545879597411 100 (kR ?_)) | refine gR ?_ | (with_reducible refine wM ?_ ?_) | ((with_reducible refine xR ?_); refine awp_keep 154742654650856545879597411 100 (uE 7 (mdL []) pSPassP_132_7E pSPassP_132_7P 116 rfl (by kernel_rfl) ?_)) | ((with_reducible refine xR ?_); refine awp_keep 154742654650856545879597411 100 (uE 15 (mdL []) pSPassP_132_15E pSPassP_132_15P 116 rfl (by kernel_rfl) ?_))) <;> ((try with_reducible intro K1 hK1); simp only [go_sem, ↓reduceIte, reduceCtorEq, nA, nB, nC, nD, nE, nF, Nat.reduceMod, Nat.reduceDiv, Nat.reducePow] <;> and_intros <;> first | (apply hK1; clear hK1 K1) | (intros; first | omega | decide | (simp_all <;> omega)) | skip))))
    refine (g_full28 o k h out hO).mono ?_; rintro _ hz ⟨rfl, hh⟩; apply hK1; clear hK1 K1; rw [hh]; clear hh hz
    (repeat (first | refine gO (by decide) ?_ | ((first | ((with_reducible refine yS ?_); refine awp_keep 154742654650856545879597411 100 (kS ?_)) | ((with_reducible refine yR ?_); refine awp_keep 154742654650856545879597411 100 (kR ?_)) | refine gR ?_ | (with_reducible refine wM ?_ ?_) | ((with_reducible refine xR ?_); refine awp_keep 154742654650856545879597411 100 (uE 7 (mdL []) pSPassP_132_7E pSPassP_132_7P 116 rfl (by kernel_rfl) ?_)) | ((with_reducible refine xR ?_); refine awp_keep 154742654650856545879597411 100 (uE 15 (mdL []) pSPassP_132_15E pSPassP_132_15P 116 rfl (by kernel_rfl) ?_))) <;> ((try with_reducible intro K1 hK1); simp only [go_sem, ↓reduceIte, reduceCtorEq, nA, nB, nC, nD, nE, nF, Nat.reduceMod, Nat.reduceDiv, Nat.reducePow] <;> and_intros <;> first | (apply hK1; clear hK1 K1) | (intros; first | omega | decide | (simp_all <;> omega)) | skip))))
    refine awp_cond (t := _) rfl (fun hf => ?_) (fun hf => ?_)
    · (repeat (first | refine gO (by decide) ?_ | ((first | ((with_reducible refine yS ?_); refine awp_keep 154742654650856545879597411 100 (kS ?_)) | ((with_reducible refine yR ?_); refine awp_keep 154742654650856545879597411 100 (kR ?_)) | refine gR ?_ | (with_reducible refine wM ?_ ?_) | ((with_reducible refine xR ?_); refine awp_keep 154742654650856545879597411 100 (uE 7 (mdL []) pSPassP_132_7E pSPassP_132_7P 116 rfl (by kernel_rfl) ?_)) | ((with_reducible refine xR ?_); refine awp_keep 154742654650856545879597411 100 (uE 15 (mdL []) pSPassP_132_15E pSPassP_132_15P 116 rfl (by kernel_rfl) ?_))) <;> ((try with_reducible intro K1 hK1); simp only [go_sem, ↓reduceIte, reduceCtorEq, nA, nB, nC, nD, nE, nF, Nat.reduceMod, Nat.reduceDiv, Nat.reducePow] <;> and_intros <;> first | (apply hK1; clear hK1 K1) | (intros; first | omega | decide | (simp_all <;> omega)) | skip))))
      simp only [Tryz.results132, go_sem, ↓reduceIte, reduceCtorEq, nA, nB, nC, nD, nE, nF]
      simp only [decide_eq_true_eq] at hf
      exact ⟨_, _, Weak.refl _, Hp.le.refl _, rfl, _, out, hR, hO, hfr0, fun _ => ⟨rfl, rfl⟩, fun h => by omega, fun h => by omega⟩
    simp only [decide_eq_false_iff_not] at hf
    have hpn : 0 ≤ p ∧ p ≤ 5000 := by have := hB.1; omega
    have hcn : ∀ x ∈ cs, 0 ≤ x ∧ x ≤ 1000000 := fun x hx => by have := hB.2.1 x hx; omega
    (repeat (first | refine gQ (by decide) ?_ | ((first | ((with_reducible refine yS ?_); refine awp_keep 154742654650856545879597411 100 (kS ?_)) | ((with_reducible refine yR ?_); refine awp_keep 154742654650856545879597411 100 (kR ?_)) | refine gR ?_ | (with_reducible refine wM ?_ ?_) | ((with_reducible refine xR ?_); refine awp_keep 154742654650856545879597411 100 (uE 7 (mdL []) pSPassP_132_7E pSPassP_132_7P 116 rfl (by kernel_rfl) ?_)) | ((with_reducible refine xR ?_); refine awp_keep 154742654650856545879597411 100 (uE 15 (mdL []) pSPassP_132_15E pSPassP_132_15P 116 rfl (by kernel_rfl) ?_))) <;> ((try with_reducible intro K1 hK1); simp only [go_sem, ↓reduceIte, reduceCtorEq, nA, nB, nC, nD, nE, nF, hH0, Nat.reduceMod, Nat.reduceDiv, Nat.reducePow] <;> and_intros <;> first | (apply hK1; clear hK1 K1) | (intros; first | omega | decide | (simp_all <;> omega)) | skip))))
    refine awp_seq ?_
    refine awp_join (rl false [0, 2, 114]) 0 (fun s => PassJp d kind item long many kids shares i c0 az p cs ks h o k out s) ?_ ?_
    · rcases (show kind = 1 ∨ kind = 2 ∨ kind = 3 ∨ kind = 4 ∨ kind = 5 by omega) with rfl | rfl | rfl | rfl | rfl
      · (repeat (first | refine gO (by decide) ?_ | ((first | ((with_reducible refine yS ?_); refine awp_keep 154742654650856545879597411 100 (kS ?_)) | ((with_reducible refine yR ?_); refine awp_keep 154742654650856545879597411 100 (kR ?_)) | refine gR ?_ | (with_reducible refine wM ?_ ?_) | ((with_reducible refine xR ?_); refine awp_keep 154742654650856545879597411 100 (uE 7 (mdL []) pSPassP_132_7E pSPassP_132_7P 116 rfl (by kernel_rfl) ?_)) | ((with_reducible refine xR ?_); refine awp_keep 154742654650856545879597411 100 (uE 15 (mdL []) pSPassP_132_15E pSPassP_132_15P 116 rfl (by kernel_rfl) ?_))) <;> ((try with_reducible intro K1 hK1); simp only [go_sem, ↓reduceIte, reduceCtorEq, nA, nB, nC, nD, nE, nF, hH0, Nat.reduceMod, Nat.reduceDiv, Nat.reducePow] <;> and_intros <;> first | (apply hK1; clear hK1 K1) | (intros; first | omega | decide | (simp_all <;> omega)) | skip))))
        refine awp_cond (t := _) rfl (fun _ => ?_) (fun h1 => by cases h1)
        (repeat (first | refine gO (by decide) ?_ | ((first | ((with_reducible refine yS ?_); refine awp_keep 154742654650856545879597411 100 (kS ?_)) | ((with_reducible refine yR ?_); refine awp_keep 154742654650856545879597411 100 (kR ?_)) | refine gR ?_ | (with_reducible refine wM ?_ ?_) | ((with_reducible refine xR ?_); refine awp_keep 154742654650856545879597411 100 (uE 7 (mdL []) pSPassP_132_7E pSPassP_132_7P 116 rfl (by kernel_rfl) ?_)) | ((with_reducible refine xR ?_); refine awp_keep 154742654650856545879597411 100 (uE 15 (mdL []) pSPassP_132_15E pSPassP_132_15P 116 rfl (by kernel_rfl) ?_))) <;> ((try with_reducible intro K1 hK1); simp only [go_sem, ↓reduceIte, reduceCtorEq, nA, nB, nC, nD, nE, nF, hH0, hO1, hO2, Nat.reduceMod, Nat.reduceDiv, Nat.reducePow] <;> and_intros <;> first | (apply hK1; clear hK1 K1) | (intros; first | omega | decide | (simp_all <;> omega)) | skip))))
        have hix : idxL 1 p many kids.length (nextF shares p cs) = [] := by simp [idxL]
        refine ⟨{ H := upd h.H o (some (.cells [.row 2 (out.map encStep ++ [[.v (.string item), .v (.int .i64 long)]]) (some k), .v (.int .i64 5000)])), T := upd h.T k (some (.tail (out.length + 1))) }, cs, ks, out ++ [(item, long)], ⟨hR.frame (fun x hx => upd_other _ _ (fun e => by subst e; exact ho hx)) (fun x hx => upd_other _ _ (fun e => by subst e; exact hkt hx)), ⟨?_, ?_⟩, ⟨fun x _ hx => upd_other _ _ hx, fun x _ hx => upd_other _ _ hx⟩, ?_⟩, rfl⟩
        · rw [show (out ++ [(item, long)]).map encStep = out.map encStep ++ [[.v (.string item), .v (.int .i64 long)]] by simp [encStep]]
          exact upd_same _ _ _
        · rw [show (out ++ [(item, long)]).length = out.length + 1 by simp]
          exact upd_same _ _ _
        · rw [hix]
          have e7 : (out ++ [(item, long)]).length = out.length + 1 := by simp
          refine ⟨⟨⟨l2, l4⟩, fun x hx => ?_, fun j hj => (hB.2.2 j hj).mono (by omega)⟩, by omega, fun _ => ⟨rfl, by simp⟩, fun h => ?_⟩
          · have := hB.2.1 x hx; omega
          · simp at h; omega
      · have hs0 : St2 d (.mk 2 item long many kids shares) kids (.mk i c0 az) p h o k out ((cs, ks), []) h cs ks out := ⟨hR, hO, hfr0, ⟨⟨l2, l4⟩, hB.2.1, hB.2.2⟩, by omega, fun _ => ⟨rfl, by simp⟩, fun h => by simp only [List.length_nil] at h; omega⟩
        obtain ⟨⟨tk, hC0⟩, hz0⟩ := hs0.cells (v3 (by omega))
        have hKe := hH0.symm.trans hC0
        simp only [Option.some.injEq, AO.cells.injEq, List.cons.injEq, true_and, and_true] at hKe
        subst hKe
        (repeat (first | refine gO (by decide) ?_ | ((first | ((with_reducible refine yS ?_); refine awp_keep 154742654650856545879597411 100 (kS ?_)) | ((with_reducible refine yR ?_); refine awp_keep 154742654650856545879597411 100 (kR ?_)) | refine gR ?_ | (with_reducible refine wM ?_ ?_) | ((with_reducible refine xR ?_); refine awp_keep 154742654650856545879597411 100 (uE 7 (mdL []) pSPassP_132_7E pSPassP_132_7P 116 rfl (by kernel_rfl) ?_)) | ((with_reducible refine xR ?_); refine awp_keep 154742654650856545879597411 100 (uE 15 (mdL []) pSPassP_132_15E pSPassP_132_15P 116 rfl (by kernel_rfl) ?_))) <;> ((try with_reducible intro K1 hK1); simp only [go_sem, ↓reduceIte, reduceCtorEq, nA, nB, nC, nD, nE, nF, hH0, Nat.reduceMod, Nat.reduceDiv, Nat.reducePow] <;> and_intros <;> first | (apply hK1; clear hK1 K1) | (intros; first | omega | decide | (simp_all <;> omega)) | skip))))
        refine awp_cond (t := _) rfl (fun h1 => by cases h1) (fun _ => ?_)
        (repeat (first | refine gO (by decide) ?_ | ((first | ((with_reducible refine yS ?_); refine awp_keep 154742654650856545879597411 100 (kS ?_)) | ((with_reducible refine yR ?_); refine awp_keep 154742654650856545879597411 100 (kR ?_)) | refine gR ?_ | (with_reducible refine wM ?_ ?_) | ((with_reducible refine xR ?_); refine awp_keep 154742654650856545879597411 100 (uE 7 (mdL []) pSPassP_132_7E pSPassP_132_7P 116 rfl (by kernel_rfl) ?_)) | ((with_reducible refine xR ?_); refine awp_keep 154742654650856545879597411 100 (uE 15 (mdL []) pSPassP_132_15E pSPassP_132_15P 116 rfl (by kernel_rfl) ?_))) <;> ((try with_reducible intro K1 hK1); simp only [go_sem, ↓reduceIte, reduceCtorEq, nA, nB, nC, nD, nE, nF, hH0, Nat.reduceMod, Nat.reduceDiv, Nat.reducePow] <;> and_intros <;> first | (apply hK1; clear hK1 K1) | (intros; first | omega | decide | (simp_all <;> omega)) | skip))))
        refine awp_cond (t := _) rfl (fun _ => ?_) (fun h1 => by cases h1)
        (repeat (first | refine gO (by decide) ?_ | ((first | ((with_reducible refine yS ?_); refine awp_keep 154742654650856545879597411 100 (kS ?_)) | ((with_reducible refine yR ?_); refine awp_keep 154742654650856545879597411 100 (kR ?_)) | refine gR ?_ | (with_reducible refine wM ?_ ?_) | ((with_reducible refine xR ?_); refine awp_keep 154742654650856545879597411 100 (uE 7 (mdL []) pSPassP_132_7E pSPassP_132_7P 116 rfl (by kernel_rfl) ?_)) | ((with_reducible refine xR ?_); refine awp_keep 154742654650856545879597411 100 (uE 15 (mdL []) pSPassP_132_15E pSPassP_132_15P 116 rfl (by kernel_rfl) ?_))) <;> ((try with_reducible intro K1 hK1); simp only [go_sem, ↓reduceIte, reduceCtorEq, nA, nB, nC, nD, nE, nF, hH0, Nat.reduceMod, Nat.reduceDiv, Nat.reducePow] <;> and_intros <;> first | (apply hK1; clear hK1 K1) | (intros; first | omega | decide | (simp_all <;> omega)) | skip))))
        have hix : idxL 2 p many kids.length (nextF shares p cs) = List.range kids.length := by simp [idxL]
        refine awp_loopC (rl false [0, 2, 55, 3, 56]) 0 (fun g s => ∃ (j : Nat) (h1 : Hp) (cs' : List Int) (ks' : List PS) (out' : List (ByteArray × Int)), g + j = kids.length ∧ St2 d (.mk 2 item long many kids shares) kids (.mk i c0 az) p h o k out ((List.range j).foldl (stepU (passU d) kids) ((cs, ks), [])) h1 cs' ks' out' ∧
          s = ⟨((.ptr i 0) :: (.ptr o 0) :: (jnk 55 ((.row 1 (az.map fun a => [.ptr a.id 0]) tk) :: (.v (.int .i64 kids.length)) :: (.v (.int .i64 j)) :: (jnk 56 [])))), [], h1⟩) kids.length ⟨0, h, cs, ks, out, by omega, hs0, by rw [← hz0]; rfl⟩ ?_
        rintro g _ ⟨j, h1, cs', ks', out', hj, hs, rfl⟩
        (repeat (first | refine gO (by decide) ?_ | ((first | ((with_reducible refine yS ?_); refine awp_keep 154742654650856545879597411 100 (kS ?_)) | ((with_reducible refine yR ?_); refine awp_keep 154742654650856545879597411 100 (kR ?_)) | refine gR ?_ | (with_reducible refine wM ?_ ?_) | ((with_reducible refine xR ?_); refine awp_keep 154742654650856545879597411 100 (uE 7 (mdL []) pSPassP_132_7E pSPassP_132_7P 116 rfl (by kernel_rfl) ?_)) | ((with_reducible refine xR ?_); refine awp_keep 154742654650856545879597411 100 (uE 15 (mdL []) pSPassP_132_15E pSPassP_132_15P 116 rfl (by kernel_rfl) ?_))) <;> ((try with_reducible intro K1 hK1); simp only [go_sem, ↓reduceIte, reduceCtorEq, nA, nB, nC, nD, nE, nF, Nat.reduceMod, Nat.reduceDiv, Nat.reducePow] <;> and_intros <;> first | (apply hK1; clear hK1 K1) | (intros; first | omega | decide | (simp_all <;> omega)) | skip))))
        refine awp_cond (t := _) rfl (fun h2 => ?_) (fun h2 => ?_)
        · simp only [decide_eq_true_eq] at h2
          have hx : j < kids.length := by omega
          have hgz : (az.map fun a : AT => [AV.ptr a.id 0]).getD j [] = [.ptr (az.getD j default).id 0] := getD_enc (fun a : AT => [AV.ptr a.id 0]) az j default (by omega)
          obtain ⟨a1, a2, a3, a4, a5, a6⟩ := hs.ask hS ho hx
          (repeat (first | refine gO (by decide) ?_ | ((first | ((with_reducible refine yS ?_); refine awp_keep 154742654650856545879597411 100 (kS ?_)) | ((with_reducible refine yR ?_); refine awp_keep 154742654650856545879597411 100 (kR ?_)) | refine gR ?_ | (with_reducible refine wM ?_ ?_) | ((with_reducible refine xR ?_); refine awp_keep 154742654650856545879597411 100 (uE 7 (mdL []) pSPassP_132_7E pSPassP_132_7P 116 rfl (by kernel_rfl) ?_)) | ((with_reducible refine xR ?_); refine awp_keep 154742654650856545879597411 100 (uE 15 (mdL []) pSPassP_132_15E pSPassP_132_15P 116 rfl (by kernel_rfl) ?_))) <;> ((try with_reducible intro K1 hK1); simp only [go_sem, ↓reduceIte, reduceCtorEq, nA, nB, nC, nD, nE, nF, Int.toNat_natCast, hgz, hz0, Nat.reduceMod, Nat.reduceDiv, Nat.reducePow] <;> and_intros <;> first | (apply hK1; clear hK1 K1) | (intros; first | omega | decide | (simp_all <;> omega)) | skip))))
          refine (g_passP d _ _ _ h1 o k out' (v8 _ (getD_mem' kids j default hx)) a1 a2 a3 a4 a5 a6).mono ?_
          intro r h3 hres
          obtain ⟨cs2, ks2, out2, hs2⟩ := hs.next (by omega) hS ho hx (v8 _ (getD_mem' kids j default hx)) hres
          obtain ⟨rfl, _⟩ := hres
          refine hK1 _ ?_; clear hK1 K1
          (repeat (first | refine gO (by decide) ?_ | ((first | ((with_reducible refine yS ?_); refine awp_keep 154742654650856545879597411 100 (kS ?_)) | ((with_reducible refine yR ?_); refine awp_keep 154742654650856545879597411 100 (kR ?_)) | refine gR ?_ | (with_reducible refine wM ?_ ?_) | ((with_reducible refine xR ?_); refine awp_keep 154742654650856545879597411 100 (uE 7 (mdL []) pSPassP_132_7E pSPassP_132_7P 116 rfl (by kernel_rfl) ?_)) | ((with_reducible refine xR ?_); refine awp_keep 154742654650856545879597411 100 (uE 15 (mdL []) pSPassP_132_15E pSPassP_132_15P 116 rfl (by kernel_rfl) ?_))) <;> ((try with_reducible intro K1 hK1); simp only [go_sem, ↓reduceIte, reduceCtorEq, nA, nB, nC, nD, nE, nF, Nat.reduceMod, Nat.reduceDiv, Nat.reducePow] <;> and_intros <;> first | (apply hK1; clear hK1 K1) | (intros; first | omega | decide | (simp_all <;> omega)) | skip))))
          exact ⟨g - 1, by omega, j + 1, h3, cs2, ks2, out2, by omega, by rw [List.range_succ, List.foldl_append]; exact hs2, rfl⟩
        · simp only [decide_eq_false_iff_not] at h2
          have hjk : j = kids.length := by omega
          subst hjk
          (repeat (first | refine gO (by decide) ?_ | ((first | ((with_reducible refine yS ?_); refine awp_keep 154742654650856545879597411 100 (kS ?_)) | ((with_reducible refine yR ?_); refine awp_keep 154742654650856545879597411 100 (kR ?_)) | refine gR ?_ | (with_reducible refine wM ?_ ?_) | ((with_reducible refine xR ?_); refine awp_keep 154742654650856545879597411 100 (uE 7 (mdL []) pSPassP_132_7E pSPassP_132_7P 116 rfl (by kernel_rfl) ?_)) | ((with_reducible refine xR ?_); refine awp_keep 154742654650856545879597411 100 (uE 15 (mdL []) pSPassP_132_15E pSPassP_132_15P 116 rfl (by kernel_rfl) ?_))) <;> ((try with_reducible intro K1 hK1); simp only [go_sem, ↓reduceIte, reduceCtorEq, nA, nB, nC, nD, nE, nF, Nat.reduceMod, Nat.reduceDiv, Nat.reducePow] <;> and_intros <;> first | (apply hK1; clear hK1 K1) | (intros; first | omega | decide | (simp_all <;> omega)) | skip))))
          exact ⟨h1, cs', ks', out', by rw [hix]; exact hs, rfl⟩
      · have hs0 : St2 d (.mk 3 item long many kids shares) kids (.mk i c0 az) p h o k out ((cs, ks), []) h cs ks out := ⟨hR, hO, hfr0, ⟨⟨l2, l4⟩, hB.2.1, hB.2.2⟩, by omega, fun _ => ⟨rfl, by simp⟩, fun h => by simp only [List.length_nil] at h; omega⟩
        obtain ⟨⟨tk, hC0⟩, hz0⟩ := hs0.cells (v3 (by omega))
        have hKe := hH0.symm.trans hC0
        simp only [Option.some.injEq, AO.cells.injEq, List.cons.injEq, true_and, and_true] at hKe
        subst hKe
        (repeat (first | refine gO (by decide) ?_ | ((first | ((with_reducible refine yS ?_); refine awp_keep 154742654650856545879597411 100 (kS ?_)) | ((with_reducible refine yR ?_); refine awp_keep 154742654650856545879597411 100 (kR ?_)) | refine gR ?_ | (with_reducible refine wM ?_ ?_) | ((with_reducible refine xR ?_); refine awp_keep 154742654650856545879597411 100 (uE 7 (mdL []) pSPassP_132_7E pSPassP_132_7P 116 rfl (by kernel_rfl) ?_)) | ((with_reducible refine xR ?_); refine awp_keep 154742654650856545879597411 100 (uE 15 (mdL []) pSPassP_132_15E pSPassP_132_15P 116 rfl (by kernel_rfl) ?_))) <;> ((try with_reducible intro K1 hK1); simp only [go_sem, ↓reduceIte, reduceCtorEq, nA, nB, nC, nD, nE, nF, hH0, Nat.reduceMod, Nat.reduceDiv, Nat.reducePow] <;> and_intros <;> first | (apply hK1; clear hK1 K1) | (intros; first | omega | decide | (simp_all <;> omega)) | skip))))
        refine awp_cond (t := _) rfl (fun h1 => by cases h1) (fun _ => ?_)
        (repeat (first | refine gO (by decide) ?_ | ((first | ((with_reducible refine yS ?_); refine awp_keep 154742654650856545879597411 100 (kS ?_)) | ((with_reducible refine yR ?_); refine awp_keep 154742654650856545879597411 100 (kR ?_)) | refine gR ?_ | (with_reducible refine wM ?_ ?_) | ((with_reducible refine xR ?_); refine awp_keep 154742654650856545879597411 100 (uE 7 (mdL []) pSPassP_132_7E pSPassP_132_7P 116 rfl (by kernel_rfl) ?_)) | ((with_reducible refine xR ?_); refine awp_keep 154742654650856545879597411 100 (uE 15 (mdL []) pSPassP_132_15E pSPassP_132_15P 116 rfl (by kernel_rfl) ?_))) <;> ((try with_reducible intro K1 hK1); simp only [go_sem, ↓reduceIte, reduceCtorEq, nA, nB, nC, nD, nE, nF, hH0, Nat.reduceMod, Nat.reduceDiv, Nat.reducePow] <;> and_intros <;> first | (apply hK1; clear hK1 K1) | (intros; first | omega | decide | (simp_all <;> omega)) | skip))))
        refine awp_cond (t := _) rfl (fun h1 => by cases h1) (fun _ => ?_)
        (repeat (first | refine gO (by decide) ?_ | ((first | ((with_reducible refine yS ?_); refine awp_keep 154742654650856545879597411 100 (kS ?_)) | ((with_reducible refine yR ?_); refine awp_keep 154742654650856545879597411 100 (kR ?_)) | refine gR ?_ | (with_reducible refine wM ?_ ?_) | ((with_reducible refine xR ?_); refine awp_keep 154742654650856545879597411 100 (uE 7 (mdL []) pSPassP_132_7E pSPassP_132_7P 116 rfl (by kernel_rfl) ?_)) | ((with_reducible refine xR ?_); refine awp_keep 154742654650856545879597411 100 (uE 15 (mdL []) pSPassP_132_15E pSPassP_132_15P 116 rfl (by kernel_rfl) ?_))) <;> ((try with_reducible intro K1 hK1); simp only [go_sem, ↓reduceIte, reduceCtorEq, nA, nB, nC, nD, nE, nF, hH0, Nat.reduceMod, Nat.reduceDiv, Nat.reducePow] <;> and_intros <;> first | (apply hK1; clear hK1 K1) | (intros; first | omega | decide | (simp_all <;> omega)) | skip))))
        refine awp_cond (t := _) rfl (fun _ => ?_) (fun h1 => by cases h1)
        have hnk : 0 < kids.length := List.length_pos_iff.2 (v3 (by omega))
        have htm := Int.tmod_lt_of_pos p (show (0 : Int) < kids.length by omega)
        have htn := Int.tmod_nonneg (kids.length : Int) hpn.1
        have hix : idxL 3 p many kids.length (nextF shares p cs) = [(p.tmod kids.length).toNat] := by simp [idxL]
        have hx : (p.tmod kids.length).toNat < kids.length := by omega
        have hgz : (az.map fun a : AT => [AV.ptr a.id 0]).getD (p.tmod kids.length).toNat [] = [.ptr (az.getD (p.tmod kids.length).toNat default).id 0] := getD_enc (fun a : AT => [AV.ptr a.id 0]) az _ default (by omega)
        obtain ⟨a1, a2, a3, a4, a5, a6⟩ := hs0.ask hS ho hx
        (repeat (first | refine gO (by decide) ?_ | ((first | ((with_reducible refine yS ?_); refine awp_keep 154742654650856545879597411 100 (kS ?_)) | ((with_reducible refine yR ?_); refine awp_keep 154742654650856545879597411 100 (kR ?_)) | refine gR ?_ | (with_reducible refine wM ?_ ?_) | ((with_reducible refine xR ?_); refine awp_keep 154742654650856545879597411 100 (uE 7 (mdL []) pSPassP_132_7E pSPassP_132_7P 116 rfl (by kernel_rfl) ?_)) | ((with_reducible refine xR ?_); refine awp_keep 154742654650856545879597411 100 (uE 15 (mdL []) pSPassP_132_15E pSPassP_132_15P 116 rfl (by kernel_rfl) ?_))) <;> ((try with_reducible intro K1 hK1); simp only [go_sem, ↓reduceIte, reduceCtorEq, nA, nB, nC, nD, nE, nF, hH0, hz0, hgz, Nat.reduceMod, Nat.reduceDiv, Nat.reducePow] <;> and_intros <;> first | (apply hK1; clear hK1 K1) | (intros; first | omega | decide | (simp_all <;> omega)) | skip))))
        refine (g_passP d _ _ _ h o k out (v8 _ (getD_mem' kids _ default hx)) a1 a2 a3 a4 a5 a6).mono ?_
        intro r h3 hres
        obtain ⟨cs2, ks2, out2, hs2⟩ := hs0.next (by omega) hS ho hx (v8 _ (getD_mem' kids _ default hx)) hres
        obtain ⟨rfl, _⟩ := hres
        refine hK1 _ ?_; clear hK1 K1
        (repeat (first | refine gO (by decide) ?_ | ((first | ((with_reducible refine yS ?_); refine awp_keep 154742654650856545879597411 100 (kS ?_)) | ((with_reducible refine yR ?_); refine awp_keep 154742654650856545879597411 100 (kR ?_)) | refine gR ?_ | (with_reducible refine wM ?_ ?_) | ((with_reducible refine xR ?_); refine awp_keep 154742654650856545879597411 100 (uE 7 (mdL []) pSPassP_132_7E pSPassP_132_7P 116 rfl (by kernel_rfl) ?_)) | ((with_reducible refine xR ?_); refine awp_keep 154742654650856545879597411 100 (uE 15 (mdL []) pSPassP_132_15E pSPassP_132_15P 116 rfl (by kernel_rfl) ?_))) <;> ((try with_reducible intro K1 hK1); simp only [go_sem, ↓reduceIte, reduceCtorEq, nA, nB, nC, nD, nE, nF, Nat.reduceMod, Nat.reduceDiv, Nat.reducePow] <;> and_intros <;> first | (apply hK1; clear hK1 K1) | (intros; first | omega | decide | (simp_all <;> omega)) | skip))))
        exact ⟨h3, cs2, ks2, out2, by rw [hix]; exact hs2, rfl⟩
      · have hs0 : St2 d (.mk 4 item long many kids shares) kids (.mk i c0 az) p h o k out ((cs, ks), []) h cs ks out := ⟨hR, hO, hfr0, ⟨⟨l2, l4⟩, hB.2.1, hB.2.2⟩, by omega, fun _ => ⟨rfl, by simp⟩, fun h => by simp only [List.length_nil] at h; omega⟩
        obtain ⟨⟨tk, hC0⟩, hz0⟩ := hs0.cells (v3 (by omega))
        have hKe := hH0.symm.trans hC0
        simp only [Option.some.injEq, AO.cells.injEq, List.cons.injEq, true_and, and_true] at hKe
        subst hKe
        (repeat (first | refine gO (by decide) ?_ | ((first | ((with_reducible refine yS ?_); refine awp_keep 154742654650856545879597411 100 (kS ?_)) | ((with_reducible refine yR ?_); refine awp_keep 154742654650856545879597411 100 (kR ?_)) | refine gR ?_ | (with_reducible refine wM ?_ ?_) | ((with_reducible refine xR ?_); refine awp_keep 154742654650856545879597411 100 (uE 7 (mdL []) pSPassP_132_7E pSPassP_132_7P 116 rfl (by kernel_rfl) ?_)) | ((with_reducible refine xR ?_); refine awp_keep 154742654650856545879597411 100 (uE 15 (mdL []) pSPassP_132_15E pSPassP_132_15P 116 rfl (by kernel_rfl) ?_))) <;> ((try with_reducible intro K1 hK1); simp only [go_sem, ↓reduceIte, reduceCtorEq, nA, nB, nC, nD, nE, nF, hH0, Nat.reduceMod, Nat.reduceDiv, Nat.reducePow] <;> and_intros <;> first | (apply hK1; clear hK1 K1) | (intros; first | omega | decide | (simp_all <;> omega)) | skip))))
        refine awp_cond (t := _) rfl (fun h1 => by cases h1) (fun _ => ?_)
        (repeat (first | refine gO (by decide) ?_ | ((first | ((with_reducible refine yS ?_); refine awp_keep 154742654650856545879597411 100 (kS ?_)) | ((with_reducible refine yR ?_); refine awp_keep 154742654650856545879597411 100 (kR ?_)) | refine gR ?_ | (with_reducible refine wM ?_ ?_) | ((with_reducible refine xR ?_); refine awp_keep 154742654650856545879597411 100 (uE 7 (mdL []) pSPassP_132_7E pSPassP_132_7P 116 rfl (by kernel_rfl) ?_)) | ((with_reducible refine xR ?_); refine awp_keep 154742654650856545879597411 100 (uE 15 (mdL []) pSPassP_132_15E pSPassP_132_15P 116 rfl (by kernel_rfl) ?_))) <;> ((try with_reducible intro K1 hK1); simp only [go_sem, ↓reduceIte, reduceCtorEq, nA, nB, nC, nD, nE, nF, hH0, Nat.reduceMod, Nat.reduceDiv, Nat.reducePow] <;> and_intros <;> first | (apply hK1; clear hK1 K1) | (intros; first | omega | decide | (simp_all <;> omega)) | skip))))
        refine awp_cond (t := _) rfl (fun h1 => by cases h1) (fun _ => ?_)
        (repeat (first | refine gO (by decide) ?_ | ((first | ((with_reducible refine yS ?_); refine awp_keep 154742654650856545879597411 100 (kS ?_)) | ((with_reducible refine yR ?_); refine awp_keep 154742654650856545879597411 100 (kR ?_)) | refine gR ?_ | (with_reducible refine wM ?_ ?_) | ((with_reducible refine xR ?_); refine awp_keep 154742654650856545879597411 100 (uE 7 (mdL []) pSPassP_132_7E pSPassP_132_7P 116 rfl (by kernel_rfl) ?_)) | ((with_reducible refine xR ?_); refine awp_keep 154742654650856545879597411 100 (uE 15 (mdL []) pSPassP_132_15E pSPassP_132_15P 116 rfl (by kernel_rfl) ?_))) <;> ((try with_reducible intro K1 hK1); simp only [go_sem, ↓reduceIte, reduceCtorEq, nA, nB, nC, nD, nE, nF, hH0, Nat.reduceMod, Nat.reduceDiv, Nat.reducePow] <;> and_intros <;> first | (apply hK1; clear hK1 K1) | (intros; first | omega | decide | (simp_all <;> omega)) | skip))))
        refine awp_cond (t := _) rfl (fun h1 => by cases h1) (fun _ => ?_)
        (repeat (first | refine gO (by decide) ?_ | ((first | ((with_reducible refine yS ?_); refine awp_keep 154742654650856545879597411 100 (kS ?_)) | ((with_reducible refine yR ?_); refine awp_keep 154742654650856545879597411 100 (kR ?_)) | refine gR ?_ | (with_reducible refine wM ?_ ?_) | ((with_reducible refine xR ?_); refine awp_keep 154742654650856545879597411 100 (uE 7 (mdL []) pSPassP_132_7E pSPassP_132_7P 116 rfl (by kernel_rfl) ?_)) | ((with_reducible refine xR ?_); refine awp_keep 154742654650856545879597411 100 (uE 15 (mdL []) pSPassP_132_15E pSPassP_132_15P 116 rfl (by kernel_rfl) ?_))) <;> ((try with_reducible intro K1 hK1); simp only [go_sem, ↓reduceIte, reduceCtorEq, nA, nB, nC, nD, nE, nF, hH0, Nat.reduceMod, Nat.reduceDiv, Nat.reducePow] <;> and_intros <;> first | (apply hK1; clear hK1 K1) | (intros; first | omega | decide | (simp_all <;> omega)) | skip))))
        refine awp_cond (t := _) rfl (fun _ => ?_) (fun h1 => by cases h1)
        have hsl := v5 rfl
        have hnk : 0 < kids.length := List.length_pos_iff.2 (v3 (by omega))
        have hx : nextF shares p cs < kids.length := by rw [← hsl]; exact bestTo_lt _ _ (by omega)
        have hix : idxL 4 p many kids.length (nextF shares p cs) = [nextF shares p cs] := by simp [idxL]
        have hT0 : h.T c0 = some (.cont 1 (cs.map encI)) := hT
        have hH4 := hH0
        rw [← hsl] at hH4
        (repeat (first | refine gO (by decide) ?_ | ((first | ((with_reducible refine yS ?_); refine awp_keep 154742654650856545879597411 100 (kS ?_)) | ((with_reducible refine yR ?_); refine awp_keep 154742654650856545879597411 100 (kR ?_)) | refine gR ?_ | (with_reducible refine wM ?_ ?_) | ((with_reducible refine xR ?_); refine awp_keep 154742654650856545879597411 100 (uE 7 (mdL []) pSPassP_132_7E pSPassP_132_7P 116 rfl (by kernel_rfl) ?_)) | ((with_reducible refine xR ?_); refine awp_keep 154742654650856545879597411 100 (uE 15 (mdL []) pSPassP_132_15E pSPassP_132_15P 116 rfl (by kernel_rfl) ?_))) <;> ((try with_reducible intro K1 hK1); simp only [go_sem, ↓reduceIte, reduceCtorEq, nA, nB, nC, nD, nE, nF, Nat.reduceMod, Nat.reduceDiv, Nat.reducePow] <;> and_intros <;> first | (apply hK1; clear hK1 K1) | (intros; first | omega | decide | (simp_all <;> omega)) | skip))))
        refine (g_behind45 4 item long many (.row 6 (kids.map encL) none) shares (.row 1 (az.map fun a => [.ptr a.id 0]) tk) p i c0 cs h hH4 hT0 (by omega) (by omega) v6 (by omega) hcn).mono ?_; rintro _ hz ⟨rfl, hh⟩; apply hK1; clear hK1 K1; rw [hh]; clear hh hz
        have hcl : cs.length = kids.length := l2
        have hgc : (cs.map encI).getD (nextF shares p cs) [] = encI (cs.getD (nextF shares p cs) 0) := getD_enc encI cs _ 0 (by omega)
        have hcb := hcn _ (getD_mem' cs (nextF shares p cs) 0 (by omega))
        have hgz : (az.map fun a : AT => [AV.ptr a.id 0]).getD (nextF shares p cs) [] = [.ptr (az.getD (nextF shares p cs) default).id 0] := getD_enc (fun a : AT => [AV.ptr a.id 0]) az _ default (by omega)
        generalize hxe : nextF shares p cs = x at *
        (repeat (first | refine gO (by decide) ?_ | ((first | ((with_reducible refine yS ?_); refine awp_keep 154742654650856545879597411 100 (kS ?_)) | ((with_reducible refine yR ?_); refine awp_keep 154742654650856545879597411 100 (kR ?_)) | refine gR ?_ | (with_reducible refine wM ?_ ?_) | ((with_reducible refine xR ?_); refine awp_keep 154742654650856545879597411 100 (uE 7 (mdL []) pSPassP_132_7E pSPassP_132_7P 116 rfl (by kernel_rfl) ?_)) | ((with_reducible refine xR ?_); refine awp_keep 154742654650856545879597411 100 (uE 15 (mdL []) pSPassP_132_15E pSPassP_132_15P 116 rfl (by kernel_rfl) ?_))) <;> ((try with_reducible intro K1 hK1); simp only [go_sem, ↓reduceIte, reduceCtorEq, nA, nB, nC, nD, nE, nF, hH0, hT0, hcl, hgc, hz0, hgz, Int.toNat_natCast, encI, Nat.reduceMod, Nat.reduceDiv, Nat.reducePow] <;> and_intros <;> first | (apply hK1; clear hK1 K1) | (intros; first | omega | decide | (simp_all <;> omega)) | skip))))
        have hck : c0 ≠ k := fun e => hkt (by rw [toksT_eq, e]; simp)
        have hR4 := hR.count hS (cs' := cs.set x (cs.getD x 0 + 1)) (by simp) (by simp [XP]; omega)
        rw [show XP.cf 4 (cs.set x (cs.getD x 0 + 1)) = cs.set x (cs.getD x 0 + 1) from rfl, List.map_set] at hR4
        have hO4 : OutAt { h with T := upd h.T c0 (some (.cont 1 ((cs.map encI).set x (encI (cs.getD x 0 + 1))))) } o k oEx out := ⟨hO.1, (upd_other _ _ (fun e => hck e.symm)).trans hO.2⟩
        have hk4 := hR4.2.2.2 x hx
        have hF4 : FrP (.mk i c0 az) o k h { h with T := upd h.T c0 (some (.cont 1 ((cs.map encI).set x (encI (cs.getD x 0 + 1))))) } := ⟨fun _ _ _ => rfl, fun y hy _ => upd_other _ _ (fun e => hy (by rw [toksT_eq, e]; simp))⟩
        refine (g_passP d _ _ _ _ o k out (v8 _ (getD_mem' kids x default hx)) hk4 (hS x (by omega)).1.2.2 (hB.2.2 x hx) hO4 (fun hh => ho (idsT_kid (by omega) hh)) hout).mono ?_
        rintro r h3 ⟨rfl, s', out2, r1, r2, r3, r4⟩
        refine hK1 _ ?_; clear hK1 K1
        (repeat (first | refine gO (by decide) ?_ | ((first | ((with_reducible refine yS ?_); refine awp_keep 154742654650856545879597411 100 (kS ?_)) | ((with_reducible refine yR ?_); refine awp_keep 154742654650856545879597411 100 (kR ?_)) | refine gR ?_ | (with_reducible refine wM ?_ ?_) | ((with_reducible refine xR ?_); refine awp_keep 154742654650856545879597411 100 (uE 7 (mdL []) pSPassP_132_7E pSPassP_132_7P 116 rfl (by kernel_rfl) ?_)) | ((with_reducible refine xR ?_); refine awp_keep 154742654650856545879597411 100 (uE 15 (mdL []) pSPassP_132_15E pSPassP_132_15P 116 rfl (by kernel_rfl) ?_))) <;> ((try with_reducible intro K1 hK1); simp only [go_sem, ↓reduceIte, reduceCtorEq, nA, nB, nC, nD, nE, nF, Nat.reduceMod, Nat.reduceDiv, Nat.reducePow] <;> and_intros <;> first | (apply hK1; clear hK1 K1) | (intros; first | omega | decide | (simp_all <;> omega)) | skip))))
        have hst := hs0.2.2.2.step hx (v8 _ (getD_mem' kids x default hx)) hk4.fits r4
        rw [if_pos (by simp only [List.length_nil]; omega)] at hst
        exact ⟨h3, _, _, out2, ⟨hR4.kid hS ho (hR4.tokNe hO4.2) hx r1 r3, r2, hF4.trans (r3.kid (by omega)), by rw [hxe, hix]; exact hst⟩, rfl⟩
      · have hs0 : St2 d (.mk 5 item long many kids shares) kids (.mk i c0 az) p h o k out ((cs, ks), []) h cs ks out := ⟨hR, hO, hfr0, ⟨⟨l2, l4⟩, hB.2.1, hB.2.2⟩, by omega, fun _ => ⟨rfl, by simp⟩, fun h => by simp only [List.length_nil] at h; omega⟩
        obtain ⟨⟨tk, hC0⟩, hz0⟩ := hs0.cells (v3 (by omega))
        have hKe := hH0.symm.trans hC0
        simp only [Option.some.injEq, AO.cells.injEq, List.cons.injEq, true_and, and_true] at hKe
        subst hKe
        (repeat (first | refine gO (by decide) ?_ | ((first | ((with_reducible refine yS ?_); refine awp_keep 154742654650856545879597411 100 (kS ?_)) | ((with_reducible refine yR ?_); refine awp_keep 154742654650856545879597411 100 (kR ?_)) | refine gR ?_ | (with_reducible refine wM ?_ ?_) | ((with_reducible refine xR ?_); refine awp_keep 154742654650856545879597411 100 (uE 7 (mdL []) pSPassP_132_7E pSPassP_132_7P 116 rfl (by kernel_rfl) ?_)) | ((with_reducible refine xR ?_); refine awp_keep 154742654650856545879597411 100 (uE 15 (mdL []) pSPassP_132_15E pSPassP_132_15P 116 rfl (by kernel_rfl) ?_))) <;> ((try with_reducible intro K1 hK1); simp only [go_sem, ↓reduceIte, reduceCtorEq, nA, nB, nC, nD, nE, nF, hH0, Nat.reduceMod, Nat.reduceDiv, Nat.reducePow] <;> and_intros <;> first | (apply hK1; clear hK1 K1) | (intros; first | omega | decide | (simp_all <;> omega)) | skip))))
        refine awp_cond (t := _) rfl (fun h1 => by cases h1) (fun _ => ?_)
        (repeat (first | refine gO (by decide) ?_ | ((first | ((with_reducible refine yS ?_); refine awp_keep 154742654650856545879597411 100 (kS ?_)) | ((with_reducible refine yR ?_); refine awp_keep 154742654650856545879597411 100 (kR ?_)) | refine gR ?_ | (with_reducible refine wM ?_ ?_) | ((with_reducible refine xR ?_); refine awp_keep 154742654650856545879597411 100 (uE 7 (mdL []) pSPassP_132_7E pSPassP_132_7P 116 rfl (by kernel_rfl) ?_)) | ((with_reducible refine xR ?_); refine awp_keep 154742654650856545879597411 100 (uE 15 (mdL []) pSPassP_132_15E pSPassP_132_15P 116 rfl (by kernel_rfl) ?_))) <;> ((try with_reducible intro K1 hK1); simp only [go_sem, ↓reduceIte, reduceCtorEq, nA, nB, nC, nD, nE, nF, hH0, Nat.reduceMod, Nat.reduceDiv, Nat.reducePow] <;> and_intros <;> first | (apply hK1; clear hK1 K1) | (intros; first | omega | decide | (simp_all <;> omega)) | skip))))
        refine awp_cond (t := _) rfl (fun h1 => by cases h1) (fun _ => ?_)
        (repeat (first | refine gO (by decide) ?_ | ((first | ((with_reducible refine yS ?_); refine awp_keep 154742654650856545879597411 100 (kS ?_)) | ((with_reducible refine yR ?_); refine awp_keep 154742654650856545879597411 100 (kR ?_)) | refine gR ?_ | (with_reducible refine wM ?_ ?_) | ((with_reducible refine xR ?_); refine awp_keep 154742654650856545879597411 100 (uE 7 (mdL []) pSPassP_132_7E pSPassP_132_7P 116 rfl (by kernel_rfl) ?_)) | ((with_reducible refine xR ?_); refine awp_keep 154742654650856545879597411 100 (uE 15 (mdL []) pSPassP_132_15E pSPassP_132_15P 116 rfl (by kernel_rfl) ?_))) <;> ((try with_reducible intro K1 hK1); simp only [go_sem, ↓reduceIte, reduceCtorEq, nA, nB, nC, nD, nE, nF, hH0, Nat.reduceMod, Nat.reduceDiv, Nat.reducePow] <;> and_intros <;> first | (apply hK1; clear hK1 K1) | (intros; first | omega | decide | (simp_all <;> omega)) | skip))))
        refine awp_cond (t := _) rfl (fun h1 => by cases h1) (fun _ => ?_)
        (repeat (first | refine gO (by decide) ?_ | ((first | ((with_reducible refine yS ?_); refine awp_keep 154742654650856545879597411 100 (kS ?_)) | ((with_reducible refine yR ?_); refine awp_keep 154742654650856545879597411 100 (kR ?_)) | refine gR ?_ | (with_reducible refine wM ?_ ?_) | ((with_reducible refine xR ?_); refine awp_keep 154742654650856545879597411 100 (uE 7 (mdL []) pSPassP_132_7E pSPassP_132_7P 116 rfl (by kernel_rfl) ?_)) | ((with_reducible refine xR ?_); refine awp_keep 154742654650856545879597411 100 (uE 15 (mdL []) pSPassP_132_15E pSPassP_132_15P 116 rfl (by kernel_rfl) ?_))) <;> ((try with_reducible intro K1 hK1); simp only [go_sem, ↓reduceIte, reduceCtorEq, nA, nB, nC, nD, nE, nF, hH0, Nat.reduceMod, Nat.reduceDiv, Nat.reducePow] <;> and_intros <;> first | (apply hK1; clear hK1 K1) | (intros; first | omega | decide | (simp_all <;> omega)) | skip))))
        refine awp_cond (t := _) rfl (fun h1 => by cases h1) (fun _ => ?_)
        have hm5 := v4 rfl
        have hx : 0 < kids.length := by omega
        (repeat (first | refine gO (by decide) ?_ | ((first | ((with_reducible refine yS ?_); refine awp_keep 154742654650856545879597411 100 (kS ?_)) | ((with_reducible refine yR ?_); refine awp_keep 154742654650856545879597411 100 (kR ?_)) | refine gR ?_ | (with_reducible refine wM ?_ ?_) | ((with_reducible refine xR ?_); refine awp_keep 154742654650856545879597411 100 (uE 7 (mdL []) pSPassP_132_7E pSPassP_132_7P 116 rfl (by kernel_rfl) ?_)) | ((with_reducible refine xR ?_); refine awp_keep 154742654650856545879597411 100 (uE 15 (mdL []) pSPassP_132_15E pSPassP_132_15P 116 rfl (by kernel_rfl) ?_))) <;> ((try with_reducible intro K1 hK1); simp only [go_sem, ↓reduceIte, reduceCtorEq, nA, nB, nC, nD, nE, nF, hH0, Nat.reduceMod, Nat.reduceDiv, Nat.reducePow] <;> and_intros <;> first | (apply hK1; clear hK1 K1) | (intros; first | omega | decide | (simp_all <;> omega)) | skip))))
        have hix : idxL 5 p many kids.length (nextF shares p cs) = List.replicate many.toNat 0 := by simp [idxL]
        refine awp_loopC (rl false [0, 2, 16, 2, 96]) 0 (fun g s => ∃ (j : Nat) (h1 : Hp) (cs' : List Int) (ks' : List PS) (out' : List (ByteArray × Int)), g + j = many.toNat ∧ St2 d (.mk 5 item long many kids shares) kids (.mk i c0 az) p h o k out ((List.replicate j 0).foldl (stepU (passU d) kids) ((cs, ks), [])) h1 cs' ks' out' ∧
          s = ⟨((.ptr i 0) :: (.ptr o 0) :: (jnk 16 ((.v (.int .i64 many)) :: (.v (.int .i64 j)) :: (jnk 96 [])))), [], h1⟩) many.toNat ⟨0, h, cs, ks, out, by omega, hs0, rfl⟩ ?_
        rintro g _ ⟨j, h1, cs', ks', out', hj, hs, rfl⟩
        (repeat (first | refine gO (by decide) ?_ | ((first | ((with_reducible refine yS ?_); refine awp_keep 154742654650856545879597411 100 (kS ?_)) | ((with_reducible refine yR ?_); refine awp_keep 154742654650856545879597411 100 (kR ?_)) | refine gR ?_ | (with_reducible refine wM ?_ ?_) | ((with_reducible refine xR ?_); refine awp_keep 154742654650856545879597411 100 (uE 7 (mdL []) pSPassP_132_7E pSPassP_132_7P 116 rfl (by kernel_rfl) ?_)) | ((with_reducible refine xR ?_); refine awp_keep 154742654650856545879597411 100 (uE 15 (mdL []) pSPassP_132_15E pSPassP_132_15P 116 rfl (by kernel_rfl) ?_))) <;> ((try with_reducible intro K1 hK1); simp only [go_sem, ↓reduceIte, reduceCtorEq, nA, nB, nC, nD, nE, nF, Nat.reduceMod, Nat.reduceDiv, Nat.reducePow] <;> and_intros <;> first | (apply hK1; clear hK1 K1) | (intros; first | omega | decide | (simp_all <;> omega)) | skip))))
        refine awp_cond (t := _) rfl (fun h2 => ?_) (fun h2 => ?_)
        · simp only [decide_eq_true_eq] at h2
          have hgz : (az.map fun a : AT => [AV.ptr a.id 0]).getD 0 [] = [.ptr (az.getD 0 default).id 0] := getD_enc (fun a : AT => [AV.ptr a.id 0]) az 0 default (by omega)
          obtain ⟨a1, a2, a3, a4, a5, a6⟩ := hs.ask hS ho hx
          obtain ⟨⟨tk1, hC1⟩, _⟩ := hs.cells (v3 (by omega))
          have hgz0 : ∀ tz, (az.map fun a : AT => [AV.ptr a.id 0]).getD (Int.toNat 0) tz = (az.map fun a : AT => [AV.ptr a.id 0]).getD 0 tz := fun _ => rfl
          (repeat (first | refine gO (by decide) ?_ | ((first | ((with_reducible refine yS ?_); refine awp_keep 154742654650856545879597411 100 (kS ?_)) | ((with_reducible refine yR ?_); refine awp_keep 154742654650856545879597411 100 (kR ?_)) | refine gR ?_ | (with_reducible refine wM ?_ ?_) | ((with_reducible refine xR ?_); refine awp_keep 154742654650856545879597411 100 (uE 7 (mdL []) pSPassP_132_7E pSPassP_132_7P 116 rfl (by kernel_rfl) ?_)) | ((with_reducible refine xR ?_); refine awp_keep 154742654650856545879597411 100 (uE 15 (mdL []) pSPassP_132_15E pSPassP_132_15P 116 rfl (by kernel_rfl) ?_))) <;> ((try with_reducible intro K1 hK1); simp only [go_sem, ↓reduceIte, reduceCtorEq, nA, nB, nC, nD, nE, nF, hC1, hgz0, hgz, hz0, Nat.reduceMod, Nat.reduceDiv, Nat.reducePow] <;> and_intros <;> first | (apply hK1; clear hK1 K1) | (intros; first | omega | decide | (simp_all <;> omega)) | skip))))
          refine (g_passP d _ _ _ h1 o k out' (v8 _ (getD_mem' kids 0 default hx)) a1 a2 a3 a4 a5 a6).mono ?_
          intro r h3 hres
          obtain ⟨cs2, ks2, out2, hs2⟩ := hs.next (by omega) hS ho hx (v8 _ (getD_mem' kids 0 default hx)) hres
          obtain ⟨rfl, _⟩ := hres
          refine hK1 _ ?_; clear hK1 K1
          (repeat (first | refine gO (by decide) ?_ | ((first | ((with_reducible refine yS ?_); refine awp_keep 154742654650856545879597411 100 (kS ?_)) | ((with_reducible refine yR ?_); refine awp_keep 154742654650856545879597411 100 (kR ?_)) | refine gR ?_ | (with_reducible refine wM ?_ ?_) | ((with_reducible refine xR ?_); refine awp_keep 154742654650856545879597411 100 (uE 7 (mdL []) pSPassP_132_7E pSPassP_132_7P 116 rfl (by kernel_rfl) ?_)) | ((with_reducible refine xR ?_); refine awp_keep 154742654650856545879597411 100 (uE 15 (mdL []) pSPassP_132_15E pSPassP_132_15P 116 rfl (by kernel_rfl) ?_))) <;> ((try with_reducible intro K1 hK1); simp only [go_sem, ↓reduceIte, reduceCtorEq, nA, nB, nC, nD, nE, nF, Nat.reduceMod, Nat.reduceDiv, Nat.reducePow] <;> and_intros <;> first | (apply hK1; clear hK1 K1) | (intros; first | omega | decide | (simp_all <;> omega)) | skip))))
          exact ⟨g - 1, by omega, j + 1, h3, cs2, ks2, out2, by omega, by rw [List.replicate_succ', List.foldl_append]; exact hs2, rfl⟩
        · simp only [decide_eq_false_iff_not] at h2
          have hjk : j = many.toNat := by omega
          subst hjk
          (repeat (first | refine gO (by decide) ?_ | ((first | ((with_reducible refine yS ?_); refine awp_keep 154742654650856545879597411 100 (kS ?_)) | ((with_reducible refine yR ?_); refine awp_keep 154742654650856545879597411 100 (kR ?_)) | refine gR ?_ | (with_reducible refine wM ?_ ?_) | ((with_reducible refine xR ?_); refine awp_keep 154742654650856545879597411 100 (uE 7 (mdL []) pSPassP_132_7E pSPassP_132_7P 116 rfl (by kernel_rfl) ?_)) | ((with_reducible refine xR ?_); refine awp_keep 154742654650856545879597411 100 (uE 15 (mdL []) pSPassP_132_15E pSPassP_132_15P 116 rfl (by kernel_rfl) ?_))) <;> ((try with_reducible intro K1 hK1); simp only [go_sem, ↓reduceIte, reduceCtorEq, nA, nB, nC, nD, nE, nF, Nat.reduceMod, Nat.reduceDiv, Nat.reducePow] <;> and_intros <;> first | (apply hK1; clear hK1 K1) | (intros; first | omega | decide | (simp_all <;> omega)) | skip))))
          exact ⟨h1, cs', ks', out', by rw [hix]; exact hs, rfl⟩
    · rintro _ ⟨h1, cs', ks', out', ⟨g1, g2, g3, g4⟩, rfl⟩
      obtain ⟨⟨K1', hH1, hK1'⟩, hT1, ⟨m1, m2, m3, m4⟩, hk1⟩ := id g1
      have hH10 : h1.H i = some (.cells [.v (.int .i64 kind), .v (.string item), .v (.int .i64 long), .v (.int .i64 many), .row 6 (kids.map encL) none, .row 1 (shares.map encI) none, K1', .v (.int .i64 p), .arr 1 c0 kids.length, .v (.int .i64 shares.sum)]) := hH1
      have hoi : o ≠ i := fun e => ho (by rw [idsT_eq, e]; simp)
      have hPS := passU_succ d kind item long many kids shares p cs ks
      have hpo := passU_ok (d + 1) _ _ out.length hv hfit (by omega) hB
      generalize (idxL kind p many kids.length (nextF shares p cs)).foldl (stepU (passU d) kids) ((cs, ks), if kind = 1 then [(item, long)] else []) = acc at *
      (repeat (first | refine gO (by decide) ?_ | ((first | ((with_reducible refine yS ?_); refine awp_keep 154742654650856545879597411 100 (kS ?_)) | ((with_reducible refine yR ?_); refine awp_keep 154742654650856545879597411 100 (kR ?_)) | refine gR ?_ | (with_reducible refine wM ?_ ?_) | ((with_reducible refine xR ?_); refine awp_keep 154742654650856545879597411 100 (uE 7 (mdL []) pSPassP_132_7E pSPassP_132_7P 116 rfl (by kernel_rfl) ?_)) | ((with_reducible refine xR ?_); refine awp_keep 154742654650856545879597411 100 (uE 15 (mdL []) pSPassP_132_15E pSPassP_132_15P 116 rfl (by kernel_rfl) ?_))) <;> ((try with_reducible intro K1 hK1); simp only [go_sem, ↓reduceIte, reduceCtorEq, nA, nB, nC, nD, nE, nF, hH10, Nat.reduceMod, Nat.reduceDiv, Nat.reducePow] <;> and_intros <;> first | (apply hK1; clear hK1 K1) | (intros; first | omega | decide | (simp_all <;> omega)) | skip))))
      simp only [retQ, Tryz.results132, resV, resL]
      refine ⟨_, _, Weak.refl _, Hp.le.refl _, rfl, .mk (p + 1) cs' ks', out', g1.hadOne hS hK1', ⟨(upd_other _ _ hoi).trans g2.1, g2.2⟩, g3.trans ⟨fun y hy _ => upd_other _ _ (fun e => hy (by rw [idsT_eq, e]; simp)), fun _ _ _ => rfl⟩, fun h => by omega, fun _ hle => ?_, fun _ hlt => ?_⟩
      · rw [hPS] at hle ⊢
        obtain ⟨e1, e2⟩ := g4.2.2.1 hle
        have e3 : acc.1.1 = cs' := by rw [← e1]
        have e4 : acc.1.2 = ks' := by rw [← e1]
        exact ⟨by rw [e3, e4], e2⟩
      · rw [hPS] at hlt
        have e5 := g4.2.2.2 hlt
        refine ⟨e5, ⟨by omega, ?_, ?_⟩⟩
        · have := g4.1.2.1; rw [e5] at this; exact this
        · have := g4.1.2.2; rw [e5] at this; exact this
abbrev pSPart2_67_1E : List Nat := [0, 1, 2, 3, 4, 5, 6, 7, 8, 9, 10, 11]
abbrev pSPart2_67_1P : List (Nat × List Nat × List Nat) := []
attribute [go_sem] pSPart2_67_1E pSPart2_67_1P
theorem a_in2 (x lo hi : Int) (h : Hp) : ACalls Tryz.prog 87 [.v (.int .i64 x), .v (.int .i64 lo), .v (.int .i64 hi)] h (fun r h' => r = .v (.bool (!outB x lo hi)) ∧ h' = h) :=
  (a_in x lo hi h).mono fun r h' ⟨e, e2⟩ => ⟨by rw [e, outB]; congr 2; rw [Bool.eq_iff_iff]; simp, e2⟩
theorem g_share40 (x : Int) (h : Hp) : ACalls Tryz.prog 121 [.v (.int .i64 x)] h (fun r h' => r = .v (.bool (outB x 1 1000)) ∧ h' = h) := by
  refine gE Tryz.func121 rfl (by kernel_rfl) 5 rfl fun c => ?_
  (repeat (first | refine gO (by decide) ?_ | (refine gR fun K1 hK1 => ?_; simp only [go_sem, ↓reduceIte, reduceCtorEq, nA, nB, nC, nD, nE, nF] <;> and_intros <;> first | (apply hK1; clear hK1 K1) | (intros; first | omega | decide | (simp_all <;> omega)) | skip)))
  refine (a_in2 x 1 1000 h).mono ?_; rintro _ hz ⟨rfl, hh⟩; apply hK1; clear hK1 K1; rw [hh]; clear hh hz
  (repeat (first | refine gO (by decide) ?_ | (refine gR fun K1 hK1 => ?_; simp only [go_sem, ↓reduceIte, reduceCtorEq, nA, nB, nC, nD, nE, nF] <;> and_intros <;> first | (apply hK1; clear hK1 K1) | (intros; first | omega | decide | (simp_all <;> omega)) | skip)))
  simp only [Tryz.results121, go_sem, ↓reduceIte, reduceCtorEq, nA, nB, nC, nD, nE, nF]
  exact ⟨_, _, Weak.refl _, Hp.le.refl _, by simp, rfl⟩
theorem g_shares (l : List Int) (hl : l.length ≤ 1000) (h : Hp) : ACalls Tryz.prog 120 [.row 1 (l.map encI) none, .fn 121 []] h (fun r h' => r = .v (.bool (l.any fun n => outB n 1 1000)) ∧ h' = h) := by
  refine (g_contains39 121 [] l (by omega) (fun j h' => h' = h ∧ (l.take j).any (fun n => outB n 1 1000) = false) (fun j h' => h' = h ∧ outB (l.getD j 0) 1 1000 = true) h ⟨rfl, rfl⟩ ?_).mono ?_
  · rintro j h' hj ⟨rfl, hI⟩
    refine (g_share40 _ _).mono ?_
    rintro _ h2 ⟨rfl, hh⟩
    refine ⟨_, rfl, fun hb => ⟨hh, hb⟩, fun hb => ⟨hh, ?_⟩⟩
    rw [List.any_eq_false] at hI ⊢
    intro x hx
    rw [List.take_add_one, List.getElem?_eq_getElem hj] at hx
    rcases List.mem_append.1 hx with hx | hx
    · exact hI x hx
    · rw [List.getD_eq_getElem?_getD, List.getElem?_eq_getElem hj] at hb
      simp at hx hb
      rw [hx]; simpa using hb
  · rintro _ h' (⟨j, hj, rfl, hh, hb⟩ | ⟨rfl, hh, hI⟩)
    · exact ⟨by rw [List.any_eq_true.2 ⟨_, getD_mem' l j 0 hj, hb⟩], hh⟩
    · rw [List.take_length] at hI
      exact ⟨by rw [hI], hh⟩
theorem g_part22 : ∀ (d : Nat) (t : LT) (h : Hp), KC d t → ACalls Tryz.prog 67 [.agg (encL t)] h (fun r h' => r = .v (.int .i64 (partF t)) ∧ h' = h)
  | 0, _, _, hb => hb.elim
  | d + 1, .mk kind item long many kids shares, h0, hb => by
    obtain ⟨b1, b2, b3, b4, b5, b6, b7, b8⟩ := hb
    simp only [encL_eq]
    refine gE Tryz.func67 rfl (by kernel_rfl) 119 rfl fun c => ?_
    (repeat (first | refine gQ (by decide) ?_ | ((first | ((with_reducible refine yS ?_); refine awp_keep 171031419293486646490912486693274495 100 (uS (mdL [(8, 1)]) ?_)) | ((with_reducible refine yR ?_); refine awp_keep 171031419293486646490912486693274495 100 (uR (mdL [(8, 1)]) ?_)) | refine gM (mdL [(8, 1)]) ?_ | (with_reducible refine wM ?_ ?_) | ((with_reducible refine xS ?_); refine awp_keep 171031419293486646490912486693274495 100 (uD 1 (mdL [(8, 1)]) pSPart2_67_1E pSPart2_67_1P 120 rfl (by kernel_rfl) ?_))) <;> ((try with_reducible intro K1 hK1); simp only [go_sem, ↓reduceIte, reduceCtorEq, nA, nB, nC, nD, nE, nF, Nat.reduceMod, Nat.reduceDiv, Nat.reducePow] <;> and_intros <;> first | (apply hK1; clear hK1 K1) | (intros; first | omega | decide | (simp_all <;> omega)) | skip))))
    refine awp_seq ?_
    refine awp_join (rl false [1, 1, 118]) 0 (fun s => partF (.mk kind item long many kids shares) = firstNZ (kids.map partF) ∧ s = ⟨(AV.junk :: ((.ref [.v (.int .i64 kind), .v (.string item), .v (.int .i64 long), .v (.int .i64 many), .row 6 (kids.map encL) none, .row 1 (shares.map encI) none] 0) :: (jnk 118 []))), [], h0⟩) ?_ ?_
    · (repeat (first | refine gO (by decide) ?_ | ((first | ((with_reducible refine yS ?_); refine awp_keep 171031419293486646490912486693274495 100 (uS (mdL [(8, 1)]) ?_)) | ((with_reducible refine yR ?_); refine awp_keep 171031419293486646490912486693274495 100 (uR (mdL [(8, 1)]) ?_)) | refine gM (mdL [(8, 1)]) ?_ | (with_reducible refine wM ?_ ?_) | ((with_reducible refine xS ?_); refine awp_keep 171031419293486646490912486693274495 100 (uD 1 (mdL [(8, 1)]) pSPart2_67_1E pSPart2_67_1P 120 rfl (by kernel_rfl) ?_))) <;> ((try with_reducible intro K1 hK1); simp only [go_sem, ↓reduceIte, reduceCtorEq, nA, nB, nC, nD, nE, nF, Nat.reduceMod, Nat.reduceDiv, Nat.reducePow] <;> and_intros <;> first | (apply hK1; clear hK1 K1) | (intros; first | omega | decide | (simp_all <;> omega)) | skip))))
      refine (a_in2 kind 1 5 _).mono ?_; rintro _ hz ⟨rfl, hh⟩; apply hK1; clear hK1 K1; rw [hh]; clear hh hz
      (repeat (first | refine gO (by decide) ?_ | ((first | ((with_reducible refine yS ?_); refine awp_keep 171031419293486646490912486693274495 100 (uS (mdL [(8, 1)]) ?_)) | ((with_reducible refine yR ?_); refine awp_keep 171031419293486646490912486693274495 100 (uR (mdL [(8, 1)]) ?_)) | refine gM (mdL [(8, 1)]) ?_ | (with_reducible refine wM ?_ ?_) | ((with_reducible refine xS ?_); refine awp_keep 171031419293486646490912486693274495 100 (uD 1 (mdL [(8, 1)]) pSPart2_67_1E pSPart2_67_1P 120 rfl (by kernel_rfl) ?_))) <;> ((try with_reducible intro K1 hK1); simp only [go_sem, ↓reduceIte, reduceCtorEq, nA, nB, nC, nD, nE, nF, Nat.reduceMod, Nat.reduceDiv, Nat.reducePow] <;> and_intros <;> first | (apply hK1; clear hK1 K1) | (intros; first | omega | decide | (simp_all <;> omega)) | skip))))
      refine awp_cond (t := _) rfl (fun h1 => ?_) (fun h1 => ?_)
      · (repeat (first | refine gO (by decide) ?_ | ((first | ((with_reducible refine yS ?_); refine awp_keep 171031419293486646490912486693274495 100 (uS (mdL [(8, 1)]) ?_)) | ((with_reducible refine yR ?_); refine awp_keep 171031419293486646490912486693274495 100 (uR (mdL [(8, 1)]) ?_)) | refine gM (mdL [(8, 1)]) ?_ | (with_reducible refine wM ?_ ?_) | ((with_reducible refine xS ?_); refine awp_keep 171031419293486646490912486693274495 100 (uD 1 (mdL [(8, 1)]) pSPart2_67_1E pSPart2_67_1P 120 rfl (by kernel_rfl) ?_))) <;> ((try with_reducible intro K1 hK1); simp only [go_sem, ↓reduceIte, reduceCtorEq, nA, nB, nC, nD, nE, nF, Nat.reduceMod, Nat.reduceDiv, Nat.reducePow] <;> and_intros <;> first | (apply hK1; clear hK1 K1) | (intros; first | omega | decide | (simp_all <;> omega)) | skip))))
        simp only [Tryz.results67, go_sem, ↓reduceIte, reduceCtorEq, nA, nB, nC, nD, nE, nF]
        exact ⟨_, _, Weak.refl _, Hp.le.refl _, by rw [partF_eq, h1]; rfl, rfl⟩
      have hgt : decide ((0 : Int) < shares.length) = ((shares.length : Int) != 0) := by rw [Bool.eq_iff_iff]; simp only [decide_eq_true_eq, bne_iff_ne, ne_eq]; omega
      have key : ∀ q1 q4 q5 : Bool, (kind == 1) = q1 → (kind == 4) = q4 → (kind == 5) = q5 → (q1 && q4) = false → (q1 && q5) = false → (q4 && q5) = false → (q1 = true ∧ q4 = false ∧ q5 = false ∨ q1 = false ∧ q4 = true ∧ q5 = false ∨ q1 = false ∧ q4 = false ∧ q5 = true ∨ q1 = false ∧ q4 = false ∧ q5 = false) := by intro q1 q4 q5 _ _ _; cases q1 <;> cases q4 <;> cases q5 <;> simp
      rcases key _ _ _ rfl rfl rfl (by simp; omega) (by simp; omega) (by simp; omega) with ⟨e1, e4, e5⟩ | ⟨e1, e4, e5⟩ | ⟨e1, e4, e5⟩ | ⟨e1, e4, e5⟩ <;> clear key <;> (repeat' (first | refine gO (by decide) ?_ | ((first | ((with_reducible refine yS ?_); refine awp_keep 171031419293486646490912486693274495 100 (uS (mdL [(8, 1)]) ?_)) | ((with_reducible refine yR ?_); refine awp_keep 171031419293486646490912486693274495 100 (uR (mdL [(8, 1)]) ?_)) | refine gM (mdL [(8, 1)]) ?_ | (with_reducible refine wM ?_ ?_) | ((with_reducible refine xS ?_); refine awp_keep 171031419293486646490912486693274495 100 (uD 1 (mdL [(8, 1)]) pSPart2_67_1E pSPart2_67_1P 120 rfl (by kernel_rfl) ?_))) <;> ((try with_reducible intro K1 hK1); simp only [go_sem, ↓reduceIte, reduceCtorEq, nA, nB, nC, nD, nE, nF, e1, e4, e5, hgt, Nat.reduceMod, Nat.reduceDiv, Nat.reducePow] <;> and_intros <;> first | (apply hK1; clear hK1 K1) | (intros; first | omega | decide | (simp_all <;> omega)) | skip)) | (refine awp_cond (t := _) rfl (fun hcnd => ?_) (fun hcnd => ?_) <;> first | (cases hcnd; done) | (simp only [hcnd]) | skip)))
      all_goals first | (simp only [Tryz.results67, go_sem, ↓reduceIte, reduceCtorEq, nA, nB, nC, nD, nE, nF]; exact ⟨_, _, Weak.refl _, Hp.le.refl _, by rw [partF_eq, h1, show formB kind item long many kids.length shares.length = true from (by clear b1 b2 b3 b4 b5 b6 b7 b8 c; simp only [formB, bne, Bool.not_eq_true', Bool.not_eq_false'] at *; simp only [*, Bool.not_true, Bool.not_false, Bool.false_and, Bool.true_and, Bool.and_false, Bool.and_true, Bool.false_or, Bool.true_or, Bool.or_true, Bool.or_false])]; rfl, rfl⟩) | skip
      · have hF : formB kind item long many kids.length shares.length = false := by clear hK1 K1; clear b1 b2 b3 b4 b5 b6 b7 b8 c; simp only [formB, bne, Bool.not_eq_true', Bool.not_eq_false'] at *; simp only [*, Bool.not_true, Bool.not_false, Bool.false_and, Bool.true_and, Bool.and_false, Bool.and_true, Bool.false_or, Bool.true_or, Bool.or_true, Bool.or_false]
        refine (a_key item (by omega) _).mono ?_; rintro _ hz ⟨rfl, hh⟩; refine ⟨rfl, hK1 _ ?_⟩; clear hK1 K1; rw [hh]; clear hh hz
        (repeat (first | refine gO (by decide) ?_ | ((first | ((with_reducible refine yS ?_); refine awp_keep 171031419293486646490912486693274495 100 (uS (mdL [(8, 1)]) ?_)) | ((with_reducible refine yR ?_); refine awp_keep 171031419293486646490912486693274495 100 (uR (mdL [(8, 1)]) ?_)) | refine gM (mdL [(8, 1)]) ?_ | (with_reducible refine wM ?_ ?_) | ((with_reducible refine xS ?_); refine awp_keep 171031419293486646490912486693274495 100 (uD 1 (mdL [(8, 1)]) pSPart2_67_1E pSPart2_67_1P 120 rfl (by kernel_rfl) ?_))) <;> ((try with_reducible intro K1 hK1); simp only [go_sem, ↓reduceIte, reduceCtorEq, nA, nB, nC, nD, nE, nF, e1, e4, e5, Nat.reduceMod, Nat.reduceDiv, Nat.reducePow] <;> and_intros <;> first | (apply hK1; clear hK1 K1) | (intros; first | omega | decide | (simp_all <;> omega)) | skip))))
        refine awp_cond (t := _) rfl (fun h3 => ?_) (fun h3 => ?_)
        · (repeat (first | refine gO (by decide) ?_ | ((first | ((with_reducible refine yS ?_); refine awp_keep 171031419293486646490912486693274495 100 (uS (mdL [(8, 1)]) ?_)) | ((with_reducible refine yR ?_); refine awp_keep 171031419293486646490912486693274495 100 (uR (mdL [(8, 1)]) ?_)) | refine gM (mdL [(8, 1)]) ?_ | (with_reducible refine wM ?_ ?_) | ((with_reducible refine xS ?_); refine awp_keep 171031419293486646490912486693274495 100 (uD 1 (mdL [(8, 1)]) pSPart2_67_1E pSPart2_67_1P 120 rfl (by kernel_rfl) ?_))) <;> ((try with_reducible intro K1 hK1); simp only [go_sem, ↓reduceIte, reduceCtorEq, nA, nB, nC, nD, nE, nF, e1, e4, e5, Nat.reduceMod, Nat.reduceDiv, Nat.reducePow] <;> and_intros <;> first | (apply hK1; clear hK1 K1) | (intros; first | omega | decide | (simp_all <;> omega)) | skip))))
          simp only [Tryz.results67, go_sem, ↓reduceIte, reduceCtorEq, nA, nB, nC, nD, nE, nF]
          exact ⟨_, _, Weak.refl _, Hp.le.refl _, by rw [partF_eq, h1, hF, e1, h3]; rfl, rfl⟩
        · (repeat (first | refine gO (by decide) ?_ | ((first | ((with_reducible refine yS ?_); refine awp_keep 171031419293486646490912486693274495 100 (uS (mdL [(8, 1)]) ?_)) | ((with_reducible refine yR ?_); refine awp_keep 171031419293486646490912486693274495 100 (uR (mdL [(8, 1)]) ?_)) | refine gM (mdL [(8, 1)]) ?_ | (with_reducible refine wM ?_ ?_) | ((with_reducible refine xS ?_); refine awp_keep 171031419293486646490912486693274495 100 (uD 1 (mdL [(8, 1)]) pSPart2_67_1E pSPart2_67_1P 120 rfl (by kernel_rfl) ?_))) <;> ((try with_reducible intro K1 hK1); simp only [go_sem, ↓reduceIte, reduceCtorEq, nA, nB, nC, nD, nE, nF, e1, e4, e5, Nat.reduceMod, Nat.reduceDiv, Nat.reducePow] <;> and_intros <;> first | (apply hK1; clear hK1 K1) | (intros; first | omega | decide | (simp_all <;> omega)) | skip))))
          refine (a_in2 long 1 3600000 _).mono ?_; rintro _ hz ⟨rfl, hh⟩; refine ⟨rfl, hK1 _ ?_⟩; clear hK1 K1; rw [hh]; clear hh hz
          (repeat (first | refine gO (by decide) ?_ | ((first | ((with_reducible refine yS ?_); refine awp_keep 171031419293486646490912486693274495 100 (uS (mdL [(8, 1)]) ?_)) | ((with_reducible refine yR ?_); refine awp_keep 171031419293486646490912486693274495 100 (uR (mdL [(8, 1)]) ?_)) | refine gM (mdL [(8, 1)]) ?_ | (with_reducible refine wM ?_ ?_) | ((with_reducible refine xS ?_); refine awp_keep 171031419293486646490912486693274495 100 (uD 1 (mdL [(8, 1)]) pSPart2_67_1E pSPart2_67_1P 120 rfl (by kernel_rfl) ?_))) <;> ((try with_reducible intro K1 hK1); simp only [go_sem, ↓reduceIte, reduceCtorEq, nA, nB, nC, nD, nE, nF, e1, e4, e5, Nat.reduceMod, Nat.reduceDiv, Nat.reducePow] <;> and_intros <;> first | (apply hK1; clear hK1 K1) | (intros; first | omega | decide | (simp_all <;> omega)) | skip))))
          refine awp_cond (t := _) rfl (fun h4 => ?_) (fun h4 => ?_)
          · (repeat (first | refine gO (by decide) ?_ | ((first | ((with_reducible refine yS ?_); refine awp_keep 171031419293486646490912486693274495 100 (uS (mdL [(8, 1)]) ?_)) | ((with_reducible refine yR ?_); refine awp_keep 171031419293486646490912486693274495 100 (uR (mdL [(8, 1)]) ?_)) | refine gM (mdL [(8, 1)]) ?_ | (with_reducible refine wM ?_ ?_) | ((with_reducible refine xS ?_); refine awp_keep 171031419293486646490912486693274495 100 (uD 1 (mdL [(8, 1)]) pSPart2_67_1E pSPart2_67_1P 120 rfl (by kernel_rfl) ?_))) <;> ((try with_reducible intro K1 hK1); simp only [go_sem, ↓reduceIte, reduceCtorEq, nA, nB, nC, nD, nE, nF, e1, e4, e5, Nat.reduceMod, Nat.reduceDiv, Nat.reducePow] <;> and_intros <;> first | (apply hK1; clear hK1 K1) | (intros; first | omega | decide | (simp_all <;> omega)) | skip))))
            refine awp_cond (t := _) rfl (fun _ => ?_) (fun h => by rw [h4] at h; cases h)
            (repeat (first | refine gO (by decide) ?_ | ((first | ((with_reducible refine yS ?_); refine awp_keep 171031419293486646490912486693274495 100 (uS (mdL [(8, 1)]) ?_)) | ((with_reducible refine yR ?_); refine awp_keep 171031419293486646490912486693274495 100 (uR (mdL [(8, 1)]) ?_)) | refine gM (mdL [(8, 1)]) ?_ | (with_reducible refine wM ?_ ?_) | ((with_reducible refine xS ?_); refine awp_keep 171031419293486646490912486693274495 100 (uD 1 (mdL [(8, 1)]) pSPart2_67_1E pSPart2_67_1P 120 rfl (by kernel_rfl) ?_))) <;> ((try with_reducible intro K1 hK1); simp only [go_sem, ↓reduceIte, reduceCtorEq, nA, nB, nC, nD, nE, nF, e1, e4, e5, Nat.reduceMod, Nat.reduceDiv, Nat.reducePow] <;> and_intros <;> first | (apply hK1; clear hK1 K1) | (intros; first | omega | decide | (simp_all <;> omega)) | skip))))
            simp only [Tryz.results67, go_sem, ↓reduceIte, reduceCtorEq, nA, nB, nC, nD, nE, nF]
            exact ⟨_, _, Weak.refl _, Hp.le.refl _, by rw [partF_eq, h1, hF, e1, h3, h4]; rfl, rfl⟩
          · (repeat (first | refine gO (by decide) ?_ | ((first | ((with_reducible refine yS ?_); refine awp_keep 171031419293486646490912486693274495 100 (uS (mdL [(8, 1)]) ?_)) | ((with_reducible refine yR ?_); refine awp_keep 171031419293486646490912486693274495 100 (uR (mdL [(8, 1)]) ?_)) | refine gM (mdL [(8, 1)]) ?_ | (with_reducible refine wM ?_ ?_) | ((with_reducible refine xS ?_); refine awp_keep 171031419293486646490912486693274495 100 (uD 1 (mdL [(8, 1)]) pSPart2_67_1E pSPart2_67_1P 120 rfl (by kernel_rfl) ?_))) <;> ((try with_reducible intro K1 hK1); simp only [go_sem, ↓reduceIte, reduceCtorEq, nA, nB, nC, nD, nE, nF, e1, e4, e5, Nat.reduceMod, Nat.reduceDiv, Nat.reducePow] <;> and_intros <;> first | (apply hK1; clear hK1 K1) | (intros; first | omega | decide | (simp_all <;> omega)) | skip))))
            refine ⟨.v (.bool false), rfl, True.intro, hK1 _ ?_⟩; clear hK1 K1
            (repeat (first | refine gO (by decide) ?_ | ((first | ((with_reducible refine yS ?_); refine awp_keep 171031419293486646490912486693274495 100 (uS (mdL [(8, 1)]) ?_)) | ((with_reducible refine yR ?_); refine awp_keep 171031419293486646490912486693274495 100 (uR (mdL [(8, 1)]) ?_)) | refine gM (mdL [(8, 1)]) ?_ | (with_reducible refine wM ?_ ?_) | ((with_reducible refine xS ?_); refine awp_keep 171031419293486646490912486693274495 100 (uD 1 (mdL [(8, 1)]) pSPart2_67_1E pSPart2_67_1P 120 rfl (by kernel_rfl) ?_))) <;> ((try with_reducible intro K1 hK1); simp only [go_sem, ↓reduceIte, reduceCtorEq, nA, nB, nC, nD, nE, nF, e1, e4, e5, Nat.reduceMod, Nat.reduceDiv, Nat.reducePow] <;> and_intros <;> first | (apply hK1; clear hK1 K1) | (intros; first | omega | decide | (simp_all <;> omega)) | skip))))
            refine awp_cond (t := _) rfl (fun h => by cases h) (fun _ => ?_)
            (repeat (first | refine gO (by decide) ?_ | ((first | ((with_reducible refine yS ?_); refine awp_keep 171031419293486646490912486693274495 100 (uS (mdL [(8, 1)]) ?_)) | ((with_reducible refine yR ?_); refine awp_keep 171031419293486646490912486693274495 100 (uR (mdL [(8, 1)]) ?_)) | refine gM (mdL [(8, 1)]) ?_ | (with_reducible refine wM ?_ ?_) | ((with_reducible refine xS ?_); refine awp_keep 171031419293486646490912486693274495 100 (uD 1 (mdL [(8, 1)]) pSPart2_67_1E pSPart2_67_1P 120 rfl (by kernel_rfl) ?_))) <;> ((try with_reducible intro K1 hK1); simp only [go_sem, ↓reduceIte, reduceCtorEq, nA, nB, nC, nD, nE, nF, e1, e4, e5, Nat.reduceMod, Nat.reduceDiv, Nat.reducePow] <;> and_intros <;> first | (apply hK1; clear hK1 K1) | (intros; first | omega | decide | (simp_all <;> omega)) | skip))))
            refine (g_shares shares (by omega) _).mono ?_; rintro _ hz ⟨rfl, hh⟩; apply hK1; clear hK1 K1; rw [hh]; clear hh hz
            (repeat (first | refine gO (by decide) ?_ | ((first | ((with_reducible refine yS ?_); refine awp_keep 171031419293486646490912486693274495 100 (uS (mdL [(8, 1)]) ?_)) | ((with_reducible refine yR ?_); refine awp_keep 171031419293486646490912486693274495 100 (uR (mdL [(8, 1)]) ?_)) | refine gM (mdL [(8, 1)]) ?_ | (with_reducible refine wM ?_ ?_) | ((with_reducible refine xS ?_); refine awp_keep 171031419293486646490912486693274495 100 (uD 1 (mdL [(8, 1)]) pSPart2_67_1E pSPart2_67_1P 120 rfl (by kernel_rfl) ?_))) <;> ((try with_reducible intro K1 hK1); simp only [go_sem, ↓reduceIte, reduceCtorEq, nA, nB, nC, nD, nE, nF, Nat.reduceMod, Nat.reduceDiv, Nat.reducePow] <;> and_intros <;> first | (apply hK1; clear hK1 K1) | (intros; first | omega | decide | (simp_all <;> omega)) | skip))))
            refine awp_cond (t := _) rfl (fun h6 => ?_) (fun h6 => ?_)
            · (repeat (first | refine gO (by decide) ?_ | ((first | ((with_reducible refine yS ?_); refine awp_keep 171031419293486646490912486693274495 100 (uS (mdL [(8, 1)]) ?_)) | ((with_reducible refine yR ?_); refine awp_keep 171031419293486646490912486693274495 100 (uR (mdL [(8, 1)]) ?_)) | refine gM (mdL [(8, 1)]) ?_ | (with_reducible refine wM ?_ ?_) | ((with_reducible refine xS ?_); refine awp_keep 171031419293486646490912486693274495 100 (uD 1 (mdL [(8, 1)]) pSPart2_67_1E pSPart2_67_1P 120 rfl (by kernel_rfl) ?_))) <;> ((try with_reducible intro K1 hK1); simp only [go_sem, ↓reduceIte, reduceCtorEq, nA, nB, nC, nD, nE, nF, Nat.reduceMod, Nat.reduceDiv, Nat.reducePow] <;> and_intros <;> first | (apply hK1; clear hK1 K1) | (intros; first | omega | decide | (simp_all <;> omega)) | skip))))
              simp only [Tryz.results67, go_sem, ↓reduceIte, reduceCtorEq, nA, nB, nC, nD, nE, nF]
              exact ⟨_, _, Weak.refl _, Hp.le.refl _, by rw [partF_eq, h1, hF, e1, h3, h4, e5, h6]; rfl, rfl⟩
            · (repeat (first | refine gO (by decide) ?_ | ((first | ((with_reducible refine yS ?_); refine awp_keep 171031419293486646490912486693274495 100 (uS (mdL [(8, 1)]) ?_)) | ((with_reducible refine yR ?_); refine awp_keep 171031419293486646490912486693274495 100 (uR (mdL [(8, 1)]) ?_)) | refine gM (mdL [(8, 1)]) ?_ | (with_reducible refine wM ?_ ?_) | ((with_reducible refine xS ?_); refine awp_keep 171031419293486646490912486693274495 100 (uD 1 (mdL [(8, 1)]) pSPart2_67_1E pSPart2_67_1P 120 rfl (by kernel_rfl) ?_))) <;> ((try with_reducible intro K1 hK1); simp only [go_sem, ↓reduceIte, reduceCtorEq, nA, nB, nC, nD, nE, nF, Nat.reduceMod, Nat.reduceDiv, Nat.reducePow] <;> and_intros <;> first | (apply hK1; clear hK1 K1) | (intros; first | omega | decide | (simp_all <;> omega)) | skip))))
              exact ⟨by rw [partF_eq, h1, hF, e1, h3, h4, e5, h6]; rfl, rfl⟩
      · have hF : formB kind item long many kids.length shares.length = false := by clear hK1 K1; clear b1 b2 b3 b4 b5 b6 b7 b8 c; simp only [formB, bne, Bool.not_eq_true', Bool.not_eq_false'] at *; simp only [*, Bool.not_true, Bool.not_false, Bool.false_and, Bool.true_and, Bool.and_false, Bool.and_true, Bool.false_or, Bool.true_or, Bool.or_true, Bool.or_false]
        refine ⟨.v (.bool false), rfl, True.intro, hK1 _ ?_⟩; clear hK1 K1
        (repeat (first | refine gO (by decide) ?_ | ((first | ((with_reducible refine yS ?_); refine awp_keep 171031419293486646490912486693274495 100 (uS (mdL [(8, 1)]) ?_)) | ((with_reducible refine yR ?_); refine awp_keep 171031419293486646490912486693274495 100 (uR (mdL [(8, 1)]) ?_)) | refine gM (mdL [(8, 1)]) ?_ | (with_reducible refine wM ?_ ?_) | ((with_reducible refine xS ?_); refine awp_keep 171031419293486646490912486693274495 100 (uD 1 (mdL [(8, 1)]) pSPart2_67_1E pSPart2_67_1P 120 rfl (by kernel_rfl) ?_))) <;> ((try with_reducible intro K1 hK1); simp only [go_sem, ↓reduceIte, reduceCtorEq, nA, nB, nC, nD, nE, nF, e1, e4, e5, Nat.reduceMod, Nat.reduceDiv, Nat.reducePow] <;> and_intros <;> first | (apply hK1; clear hK1 K1) | (intros; first | omega | decide | (simp_all <;> omega)) | skip))))
        refine awp_cond (t := _) rfl (fun h => by cases h) (fun _ => ?_)
        (repeat (first | refine gO (by decide) ?_ | ((first | ((with_reducible refine yS ?_); refine awp_keep 171031419293486646490912486693274495 100 (uS (mdL [(8, 1)]) ?_)) | ((with_reducible refine yR ?_); refine awp_keep 171031419293486646490912486693274495 100 (uR (mdL [(8, 1)]) ?_)) | refine gM (mdL [(8, 1)]) ?_ | (with_reducible refine wM ?_ ?_) | ((with_reducible refine xS ?_); refine awp_keep 171031419293486646490912486693274495 100 (uD 1 (mdL [(8, 1)]) pSPart2_67_1E pSPart2_67_1P 120 rfl (by kernel_rfl) ?_))) <;> ((try with_reducible intro K1 hK1); simp only [go_sem, ↓reduceIte, reduceCtorEq, nA, nB, nC, nD, nE, nF, e1, e4, e5, Nat.reduceMod, Nat.reduceDiv, Nat.reducePow] <;> and_intros <;> first | (apply hK1; clear hK1 K1) | (intros; first | omega | decide | (simp_all <;> omega)) | skip))))
        refine ⟨.v (.bool false), rfl, True.intro, hK1 _ ?_⟩; clear hK1 K1
        (repeat (first | refine gO (by decide) ?_ | ((first | ((with_reducible refine yS ?_); refine awp_keep 171031419293486646490912486693274495 100 (uS (mdL [(8, 1)]) ?_)) | ((with_reducible refine yR ?_); refine awp_keep 171031419293486646490912486693274495 100 (uR (mdL [(8, 1)]) ?_)) | refine gM (mdL [(8, 1)]) ?_ | (with_reducible refine wM ?_ ?_) | ((with_reducible refine xS ?_); refine awp_keep 171031419293486646490912486693274495 100 (uD 1 (mdL [(8, 1)]) pSPart2_67_1E pSPart2_67_1P 120 rfl (by kernel_rfl) ?_))) <;> ((try with_reducible intro K1 hK1); simp only [go_sem, ↓reduceIte, reduceCtorEq, nA, nB, nC, nD, nE, nF, e1, e4, e5, Nat.reduceMod, Nat.reduceDiv, Nat.reducePow] <;> and_intros <;> first | (apply hK1; clear hK1 K1) | (intros; first | omega | decide | (simp_all <;> omega)) | skip))))
        refine awp_cond (t := _) rfl (fun h => by cases h) (fun _ => ?_)
        (repeat (first | refine gO (by decide) ?_ | ((first | ((with_reducible refine yS ?_); refine awp_keep 171031419293486646490912486693274495 100 (uS (mdL [(8, 1)]) ?_)) | ((with_reducible refine yR ?_); refine awp_keep 171031419293486646490912486693274495 100 (uR (mdL [(8, 1)]) ?_)) | refine gM (mdL [(8, 1)]) ?_ | (with_reducible refine wM ?_ ?_) | ((with_reducible refine xS ?_); refine awp_keep 171031419293486646490912486693274495 100 (uD 1 (mdL [(8, 1)]) pSPart2_67_1E pSPart2_67_1P 120 rfl (by kernel_rfl) ?_))) <;> ((try with_reducible intro K1 hK1); simp only [go_sem, ↓reduceIte, reduceCtorEq, nA, nB, nC, nD, nE, nF, e1, e4, e5, Nat.reduceMod, Nat.reduceDiv, Nat.reducePow] <;> and_intros <;> first | (apply hK1; clear hK1 K1) | (intros; first | omega | decide | (simp_all <;> omega)) | skip))))
        refine ⟨.v (.bool false), rfl, True.intro, hK1 _ ?_⟩; clear hK1 K1
        (repeat (first | refine gO (by decide) ?_ | ((first | ((with_reducible refine yS ?_); refine awp_keep 171031419293486646490912486693274495 100 (uS (mdL [(8, 1)]) ?_)) | ((with_reducible refine yR ?_); refine awp_keep 171031419293486646490912486693274495 100 (uR (mdL [(8, 1)]) ?_)) | refine gM (mdL [(8, 1)]) ?_ | (with_reducible refine wM ?_ ?_) | ((with_reducible refine xS ?_); refine awp_keep 171031419293486646490912486693274495 100 (uD 1 (mdL [(8, 1)]) pSPart2_67_1E pSPart2_67_1P 120 rfl (by kernel_rfl) ?_))) <;> ((try with_reducible intro K1 hK1); simp only [go_sem, ↓reduceIte, reduceCtorEq, nA, nB, nC, nD, nE, nF, e1, e4, e5, Nat.reduceMod, Nat.reduceDiv, Nat.reducePow] <;> and_intros <;> first | (apply hK1; clear hK1 K1) | (intros; first | omega | decide | (simp_all <;> omega)) | skip))))
        refine awp_cond (t := _) rfl (fun h => by cases h) (fun _ => ?_)
        (repeat (first | refine gO (by decide) ?_ | ((first | ((with_reducible refine yS ?_); refine awp_keep 171031419293486646490912486693274495 100 (uS (mdL [(8, 1)]) ?_)) | ((with_reducible refine yR ?_); refine awp_keep 171031419293486646490912486693274495 100 (uR (mdL [(8, 1)]) ?_)) | refine gM (mdL [(8, 1)]) ?_ | (with_reducible refine wM ?_ ?_) | ((with_reducible refine xS ?_); refine awp_keep 171031419293486646490912486693274495 100 (uD 1 (mdL [(8, 1)]) pSPart2_67_1E pSPart2_67_1P 120 rfl (by kernel_rfl) ?_))) <;> ((try with_reducible intro K1 hK1); simp only [go_sem, ↓reduceIte, reduceCtorEq, nA, nB, nC, nD, nE, nF, e1, e4, e5, Nat.reduceMod, Nat.reduceDiv, Nat.reducePow] <;> and_intros <;> first | (apply hK1; clear hK1 K1) | (intros; first | omega | decide | (simp_all <;> omega)) | skip))))
        refine (g_shares shares (by omega) _).mono ?_; rintro _ hz ⟨rfl, hh⟩; apply hK1; clear hK1 K1; rw [hh]; clear hh hz
        (repeat (first | refine gO (by decide) ?_ | ((first | ((with_reducible refine yS ?_); refine awp_keep 171031419293486646490912486693274495 100 (uS (mdL [(8, 1)]) ?_)) | ((with_reducible refine yR ?_); refine awp_keep 171031419293486646490912486693274495 100 (uR (mdL [(8, 1)]) ?_)) | refine gM (mdL [(8, 1)]) ?_ | (with_reducible refine wM ?_ ?_) | ((with_reducible refine xS ?_); refine awp_keep 171031419293486646490912486693274495 100 (uD 1 (mdL [(8, 1)]) pSPart2_67_1E pSPart2_67_1P 120 rfl (by kernel_rfl) ?_))) <;> ((try with_reducible intro K1 hK1); simp only [go_sem, ↓reduceIte, reduceCtorEq, nA, nB, nC, nD, nE, nF, Nat.reduceMod, Nat.reduceDiv, Nat.reducePow] <;> and_intros <;> first | (apply hK1; clear hK1 K1) | (intros; first | omega | decide | (simp_all <;> omega)) | skip))))
        refine awp_cond (t := _) rfl (fun h6 => ?_) (fun h6 => ?_)
        · (repeat (first | refine gO (by decide) ?_ | ((first | ((with_reducible refine yS ?_); refine awp_keep 171031419293486646490912486693274495 100 (uS (mdL [(8, 1)]) ?_)) | ((with_reducible refine yR ?_); refine awp_keep 171031419293486646490912486693274495 100 (uR (mdL [(8, 1)]) ?_)) | refine gM (mdL [(8, 1)]) ?_ | (with_reducible refine wM ?_ ?_) | ((with_reducible refine xS ?_); refine awp_keep 171031419293486646490912486693274495 100 (uD 1 (mdL [(8, 1)]) pSPart2_67_1E pSPart2_67_1P 120 rfl (by kernel_rfl) ?_))) <;> ((try with_reducible intro K1 hK1); simp only [go_sem, ↓reduceIte, reduceCtorEq, nA, nB, nC, nD, nE, nF, Nat.reduceMod, Nat.reduceDiv, Nat.reducePow] <;> and_intros <;> first | (apply hK1; clear hK1 K1) | (intros; first | omega | decide | (simp_all <;> omega)) | skip))))
          simp only [Tryz.results67, go_sem, ↓reduceIte, reduceCtorEq, nA, nB, nC, nD, nE, nF]
          exact ⟨_, _, Weak.refl _, Hp.le.refl _, by rw [partF_eq, h1, hF, e1, e5, h6]; rfl, rfl⟩
        · (repeat (first | refine gO (by decide) ?_ | ((first | ((with_reducible refine yS ?_); refine awp_keep 171031419293486646490912486693274495 100 (uS (mdL [(8, 1)]) ?_)) | ((with_reducible refine yR ?_); refine awp_keep 171031419293486646490912486693274495 100 (uR (mdL [(8, 1)]) ?_)) | refine gM (mdL [(8, 1)]) ?_ | (with_reducible refine wM ?_ ?_) | ((with_reducible refine xS ?_); refine awp_keep 171031419293486646490912486693274495 100 (uD 1 (mdL [(8, 1)]) pSPart2_67_1E pSPart2_67_1P 120 rfl (by kernel_rfl) ?_))) <;> ((try with_reducible intro K1 hK1); simp only [go_sem, ↓reduceIte, reduceCtorEq, nA, nB, nC, nD, nE, nF, Nat.reduceMod, Nat.reduceDiv, Nat.reducePow] <;> and_intros <;> first | (apply hK1; clear hK1 K1) | (intros; first | omega | decide | (simp_all <;> omega)) | skip))))
          exact ⟨by rw [partF_eq, h1, hF, e1, e5, h6]; rfl, rfl⟩
      · have hF : formB kind item long many kids.length shares.length = false := by clear hK1 K1; clear b1 b2 b3 b4 b5 b6 b7 b8 c; simp only [formB, bne, Bool.not_eq_true', Bool.not_eq_false'] at *; simp only [*, Bool.not_true, Bool.not_false, Bool.false_and, Bool.true_and, Bool.and_false, Bool.and_true, Bool.false_or, Bool.true_or, Bool.or_true, Bool.or_false]
        refine ⟨.v (.bool false), rfl, True.intro, hK1 _ ?_⟩; clear hK1 K1
        (repeat (first | refine gO (by decide) ?_ | ((first | ((with_reducible refine yS ?_); refine awp_keep 171031419293486646490912486693274495 100 (uS (mdL [(8, 1)]) ?_)) | ((with_reducible refine yR ?_); refine awp_keep 171031419293486646490912486693274495 100 (uR (mdL [(8, 1)]) ?_)) | refine gM (mdL [(8, 1)]) ?_ | (with_reducible refine wM ?_ ?_) | ((with_reducible refine xS ?_); refine awp_keep 171031419293486646490912486693274495 100 (uD 1 (mdL [(8, 1)]) pSPart2_67_1E pSPart2_67_1P 120 rfl (by kernel_rfl) ?_))) <;> ((try with_reducible intro K1 hK1); simp only [go_sem, ↓reduceIte, reduceCtorEq, nA, nB, nC, nD, nE, nF, e1, e4, e5, Nat.reduceMod, Nat.reduceDiv, Nat.reducePow] <;> and_intros <;> first | (apply hK1; clear hK1 K1) | (intros; first | omega | decide | (simp_all <;> omega)) | skip))))
        refine awp_cond (t := _) rfl (fun h => by cases h) (fun _ => ?_)
        (repeat (first | refine gO (by decide) ?_ | ((first | ((with_reducible refine yS ?_); refine awp_keep 171031419293486646490912486693274495 100 (uS (mdL [(8, 1)]) ?_)) | ((with_reducible refine yR ?_); refine awp_keep 171031419293486646490912486693274495 100 (uR (mdL [(8, 1)]) ?_)) | refine gM (mdL [(8, 1)]) ?_ | (with_reducible refine wM ?_ ?_) | ((with_reducible refine xS ?_); refine awp_keep 171031419293486646490912486693274495 100 (uD 1 (mdL [(8, 1)]) pSPart2_67_1E pSPart2_67_1P 120 rfl (by kernel_rfl) ?_))) <;> ((try with_reducible intro K1 hK1); simp only [go_sem, ↓reduceIte, reduceCtorEq, nA, nB, nC, nD, nE, nF, e1, e4, e5, Nat.reduceMod, Nat.reduceDiv, Nat.reducePow] <;> and_intros <;> first | (apply hK1; clear hK1 K1) | (intros; first | omega | decide | (simp_all <;> omega)) | skip))))
        refine ⟨.v (.bool false), rfl, True.intro, hK1 _ ?_⟩; clear hK1 K1
        (repeat (first | refine gO (by decide) ?_ | ((first | ((with_reducible refine yS ?_); refine awp_keep 171031419293486646490912486693274495 100 (uS (mdL [(8, 1)]) ?_)) | ((with_reducible refine yR ?_); refine awp_keep 171031419293486646490912486693274495 100 (uR (mdL [(8, 1)]) ?_)) | refine gM (mdL [(8, 1)]) ?_ | (with_reducible refine wM ?_ ?_) | ((with_reducible refine xS ?_); refine awp_keep 171031419293486646490912486693274495 100 (uD 1 (mdL [(8, 1)]) pSPart2_67_1E pSPart2_67_1P 120 rfl (by kernel_rfl) ?_))) <;> ((try with_reducible intro K1 hK1); simp only [go_sem, ↓reduceIte, reduceCtorEq, nA, nB, nC, nD, nE, nF, e1, e4, e5, Nat.reduceMod, Nat.reduceDiv, Nat.reducePow] <;> and_intros <;> first | (apply hK1; clear hK1 K1) | (intros; first | omega | decide | (simp_all <;> omega)) | skip))))
        refine awp_cond (t := _) rfl (fun h => by cases h) (fun _ => ?_)
        (repeat (first | refine gO (by decide) ?_ | ((first | ((with_reducible refine yS ?_); refine awp_keep 171031419293486646490912486693274495 100 (uS (mdL [(8, 1)]) ?_)) | ((with_reducible refine yR ?_); refine awp_keep 171031419293486646490912486693274495 100 (uR (mdL [(8, 1)]) ?_)) | refine gM (mdL [(8, 1)]) ?_ | (with_reducible refine wM ?_ ?_) | ((with_reducible refine xS ?_); refine awp_keep 171031419293486646490912486693274495 100 (uD 1 (mdL [(8, 1)]) pSPart2_67_1E pSPart2_67_1P 120 rfl (by kernel_rfl) ?_))) <;> ((try with_reducible intro K1 hK1); simp only [go_sem, ↓reduceIte, reduceCtorEq, nA, nB, nC, nD, nE, nF, e1, e4, e5, Nat.reduceMod, Nat.reduceDiv, Nat.reducePow] <;> and_intros <;> first | (apply hK1; clear hK1 K1) | (intros; first | omega | decide | (simp_all <;> omega)) | skip))))
        refine (a_in2 many 1 100 _).mono ?_; rintro _ hz ⟨rfl, hh⟩; refine ⟨rfl, hK1 _ ?_⟩; clear hK1 K1; rw [hh]; clear hh hz
        (repeat (first | refine gO (by decide) ?_ | ((first | ((with_reducible refine yS ?_); refine awp_keep 171031419293486646490912486693274495 100 (uS (mdL [(8, 1)]) ?_)) | ((with_reducible refine yR ?_); refine awp_keep 171031419293486646490912486693274495 100 (uR (mdL [(8, 1)]) ?_)) | refine gM (mdL [(8, 1)]) ?_ | (with_reducible refine wM ?_ ?_) | ((with_reducible refine xS ?_); refine awp_keep 171031419293486646490912486693274495 100 (uD 1 (mdL [(8, 1)]) pSPart2_67_1E pSPart2_67_1P 120 rfl (by kernel_rfl) ?_))) <;> ((try with_reducible intro K1 hK1); simp only [go_sem, ↓reduceIte, reduceCtorEq, nA, nB, nC, nD, nE, nF, e1, e4, e5, Nat.reduceMod, Nat.reduceDiv, Nat.reducePow] <;> and_intros <;> first | (apply hK1; clear hK1 K1) | (intros; first | omega | decide | (simp_all <;> omega)) | skip))))
        refine awp_cond (t := _) rfl (fun h4 => ?_) (fun h4 => ?_)
        · (repeat (first | refine gO (by decide) ?_ | ((first | ((with_reducible refine yS ?_); refine awp_keep 171031419293486646490912486693274495 100 (uS (mdL [(8, 1)]) ?_)) | ((with_reducible refine yR ?_); refine awp_keep 171031419293486646490912486693274495 100 (uR (mdL [(8, 1)]) ?_)) | refine gM (mdL [(8, 1)]) ?_ | (with_reducible refine wM ?_ ?_) | ((with_reducible refine xS ?_); refine awp_keep 171031419293486646490912486693274495 100 (uD 1 (mdL [(8, 1)]) pSPart2_67_1E pSPart2_67_1P 120 rfl (by kernel_rfl) ?_))) <;> ((try with_reducible intro K1 hK1); simp only [go_sem, ↓reduceIte, reduceCtorEq, nA, nB, nC, nD, nE, nF, e1, e4, e5, Nat.reduceMod, Nat.reduceDiv, Nat.reducePow] <;> and_intros <;> first | (apply hK1; clear hK1 K1) | (intros; first | omega | decide | (simp_all <;> omega)) | skip))))
          simp only [Tryz.results67, go_sem, ↓reduceIte, reduceCtorEq, nA, nB, nC, nD, nE, nF]
          exact ⟨_, _, Weak.refl _, Hp.le.refl _, by rw [partF_eq, h1, hF, e1, e5, h4]; rfl, rfl⟩
        · (repeat (first | refine gO (by decide) ?_ | ((first | ((with_reducible refine yS ?_); refine awp_keep 171031419293486646490912486693274495 100 (uS (mdL [(8, 1)]) ?_)) | ((with_reducible refine yR ?_); refine awp_keep 171031419293486646490912486693274495 100 (uR (mdL [(8, 1)]) ?_)) | refine gM (mdL [(8, 1)]) ?_ | (with_reducible refine wM ?_ ?_) | ((with_reducible refine xS ?_); refine awp_keep 171031419293486646490912486693274495 100 (uD 1 (mdL [(8, 1)]) pSPart2_67_1E pSPart2_67_1P 120 rfl (by kernel_rfl) ?_))) <;> ((try with_reducible intro K1 hK1); simp only [go_sem, ↓reduceIte, reduceCtorEq, nA, nB, nC, nD, nE, nF, e1, e4, e5, Nat.reduceMod, Nat.reduceDiv, Nat.reducePow] <;> and_intros <;> first | (apply hK1; clear hK1 K1) | (intros; first | omega | decide | (simp_all <;> omega)) | skip))))
          refine (g_shares shares (by omega) _).mono ?_; rintro _ hz ⟨rfl, hh⟩; apply hK1; clear hK1 K1; rw [hh]; clear hh hz
          (repeat (first | refine gO (by decide) ?_ | ((first | ((with_reducible refine yS ?_); refine awp_keep 171031419293486646490912486693274495 100 (uS (mdL [(8, 1)]) ?_)) | ((with_reducible refine yR ?_); refine awp_keep 171031419293486646490912486693274495 100 (uR (mdL [(8, 1)]) ?_)) | refine gM (mdL [(8, 1)]) ?_ | (with_reducible refine wM ?_ ?_) | ((with_reducible refine xS ?_); refine awp_keep 171031419293486646490912486693274495 100 (uD 1 (mdL [(8, 1)]) pSPart2_67_1E pSPart2_67_1P 120 rfl (by kernel_rfl) ?_))) <;> ((try with_reducible intro K1 hK1); simp only [go_sem, ↓reduceIte, reduceCtorEq, nA, nB, nC, nD, nE, nF, Nat.reduceMod, Nat.reduceDiv, Nat.reducePow] <;> and_intros <;> first | (apply hK1; clear hK1 K1) | (intros; first | omega | decide | (simp_all <;> omega)) | skip))))
          refine awp_cond (t := _) rfl (fun h6 => ?_) (fun h6 => ?_)
          · (repeat (first | refine gO (by decide) ?_ | ((first | ((with_reducible refine yS ?_); refine awp_keep 171031419293486646490912486693274495 100 (uS (mdL [(8, 1)]) ?_)) | ((with_reducible refine yR ?_); refine awp_keep 171031419293486646490912486693274495 100 (uR (mdL [(8, 1)]) ?_)) | refine gM (mdL [(8, 1)]) ?_ | (with_reducible refine wM ?_ ?_) | ((with_reducible refine xS ?_); refine awp_keep 171031419293486646490912486693274495 100 (uD 1 (mdL [(8, 1)]) pSPart2_67_1E pSPart2_67_1P 120 rfl (by kernel_rfl) ?_))) <;> ((try with_reducible intro K1 hK1); simp only [go_sem, ↓reduceIte, reduceCtorEq, nA, nB, nC, nD, nE, nF, Nat.reduceMod, Nat.reduceDiv, Nat.reducePow] <;> and_intros <;> first | (apply hK1; clear hK1 K1) | (intros; first | omega | decide | (simp_all <;> omega)) | skip))))
            simp only [Tryz.results67, go_sem, ↓reduceIte, reduceCtorEq, nA, nB, nC, nD, nE, nF]
            exact ⟨_, _, Weak.refl _, Hp.le.refl _, by rw [partF_eq, h1, hF, e1, e5, h4, h6]; rfl, rfl⟩
          · (repeat (first | refine gO (by decide) ?_ | ((first | ((with_reducible refine yS ?_); refine awp_keep 171031419293486646490912486693274495 100 (uS (mdL [(8, 1)]) ?_)) | ((with_reducible refine yR ?_); refine awp_keep 171031419293486646490912486693274495 100 (uR (mdL [(8, 1)]) ?_)) | refine gM (mdL [(8, 1)]) ?_ | (with_reducible refine wM ?_ ?_) | ((with_reducible refine xS ?_); refine awp_keep 171031419293486646490912486693274495 100 (uD 1 (mdL [(8, 1)]) pSPart2_67_1E pSPart2_67_1P 120 rfl (by kernel_rfl) ?_))) <;> ((try with_reducible intro K1 hK1); simp only [go_sem, ↓reduceIte, reduceCtorEq, nA, nB, nC, nD, nE, nF, Nat.reduceMod, Nat.reduceDiv, Nat.reducePow] <;> and_intros <;> first | (apply hK1; clear hK1 K1) | (intros; first | omega | decide | (simp_all <;> omega)) | skip))))
            exact ⟨by rw [partF_eq, h1, hF, e1, e5, h4, h6]; rfl, rfl⟩
      · have hF : formB kind item long many kids.length shares.length = false := by clear hK1 K1; clear b1 b2 b3 b4 b5 b6 b7 b8 c; simp only [formB, bne, Bool.not_eq_true', Bool.not_eq_false'] at *; simp only [*, Bool.not_true, Bool.not_false, Bool.false_and, Bool.true_and, Bool.and_false, Bool.and_true, Bool.false_or, Bool.true_or, Bool.or_true, Bool.or_false]
        refine ⟨.v (.bool false), rfl, True.intro, hK1 _ ?_⟩; clear hK1 K1
        (repeat (first | refine gO (by decide) ?_ | ((first | ((with_reducible refine yS ?_); refine awp_keep 171031419293486646490912486693274495 100 (uS (mdL [(8, 1)]) ?_)) | ((with_reducible refine yR ?_); refine awp_keep 171031419293486646490912486693274495 100 (uR (mdL [(8, 1)]) ?_)) | refine gM (mdL [(8, 1)]) ?_ | (with_reducible refine wM ?_ ?_) | ((with_reducible refine xS ?_); refine awp_keep 171031419293486646490912486693274495 100 (uD 1 (mdL [(8, 1)]) pSPart2_67_1E pSPart2_67_1P 120 rfl (by kernel_rfl) ?_))) <;> ((try with_reducible intro K1 hK1); simp only [go_sem, ↓reduceIte, reduceCtorEq, nA, nB, nC, nD, nE, nF, e1, e4, e5, Nat.reduceMod, Nat.reduceDiv, Nat.reducePow] <;> and_intros <;> first | (apply hK1; clear hK1 K1) | (intros; first | omega | decide | (simp_all <;> omega)) | skip))))
        refine awp_cond (t := _) rfl (fun h => by cases h) (fun _ => ?_)
        (repeat (first | refine gO (by decide) ?_ | ((first | ((with_reducible refine yS ?_); refine awp_keep 171031419293486646490912486693274495 100 (uS (mdL [(8, 1)]) ?_)) | ((with_reducible refine yR ?_); refine awp_keep 171031419293486646490912486693274495 100 (uR (mdL [(8, 1)]) ?_)) | refine gM (mdL [(8, 1)]) ?_ | (with_reducible refine wM ?_ ?_) | ((with_reducible refine xS ?_); refine awp_keep 171031419293486646490912486693274495 100 (uD 1 (mdL [(8, 1)]) pSPart2_67_1E pSPart2_67_1P 120 rfl (by kernel_rfl) ?_))) <;> ((try with_reducible intro K1 hK1); simp only [go_sem, ↓reduceIte, reduceCtorEq, nA, nB, nC, nD, nE, nF, e1, e4, e5, Nat.reduceMod, Nat.reduceDiv, Nat.reducePow] <;> and_intros <;> first | (apply hK1; clear hK1 K1) | (intros; first | omega | decide | (simp_all <;> omega)) | skip))))
        refine ⟨.v (.bool false), rfl, True.intro, hK1 _ ?_⟩; clear hK1 K1
        (repeat (first | refine gO (by decide) ?_ | ((first | ((with_reducible refine yS ?_); refine awp_keep 171031419293486646490912486693274495 100 (uS (mdL [(8, 1)]) ?_)) | ((with_reducible refine yR ?_); refine awp_keep 171031419293486646490912486693274495 100 (uR (mdL [(8, 1)]) ?_)) | refine gM (mdL [(8, 1)]) ?_ | (with_reducible refine wM ?_ ?_) | ((with_reducible refine xS ?_); refine awp_keep 171031419293486646490912486693274495 100 (uD 1 (mdL [(8, 1)]) pSPart2_67_1E pSPart2_67_1P 120 rfl (by kernel_rfl) ?_))) <;> ((try with_reducible intro K1 hK1); simp only [go_sem, ↓reduceIte, reduceCtorEq, nA, nB, nC, nD, nE, nF, e1, e4, e5, Nat.reduceMod, Nat.reduceDiv, Nat.reducePow] <;> and_intros <;> first | (apply hK1; clear hK1 K1) | (intros; first | omega | decide | (simp_all <;> omega)) | skip))))
        refine awp_cond (t := _) rfl (fun h => by cases h) (fun _ => ?_)
        (repeat (first | refine gO (by decide) ?_ | ((first | ((with_reducible refine yS ?_); refine awp_keep 171031419293486646490912486693274495 100 (uS (mdL [(8, 1)]) ?_)) | ((with_reducible refine yR ?_); refine awp_keep 171031419293486646490912486693274495 100 (uR (mdL [(8, 1)]) ?_)) | refine gM (mdL [(8, 1)]) ?_ | (with_reducible refine wM ?_ ?_) | ((with_reducible refine xS ?_); refine awp_keep 171031419293486646490912486693274495 100 (uD 1 (mdL [(8, 1)]) pSPart2_67_1E pSPart2_67_1P 120 rfl (by kernel_rfl) ?_))) <;> ((try with_reducible intro K1 hK1); simp only [go_sem, ↓reduceIte, reduceCtorEq, nA, nB, nC, nD, nE, nF, e1, e4, e5, Nat.reduceMod, Nat.reduceDiv, Nat.reducePow] <;> and_intros <;> first | (apply hK1; clear hK1 K1) | (intros; first | omega | decide | (simp_all <;> omega)) | skip))))
        refine ⟨.v (.bool false), rfl, True.intro, hK1 _ ?_⟩; clear hK1 K1
        (repeat (first | refine gO (by decide) ?_ | ((first | ((with_reducible refine yS ?_); refine awp_keep 171031419293486646490912486693274495 100 (uS (mdL [(8, 1)]) ?_)) | ((with_reducible refine yR ?_); refine awp_keep 171031419293486646490912486693274495 100 (uR (mdL [(8, 1)]) ?_)) | refine gM (mdL [(8, 1)]) ?_ | (with_reducible refine wM ?_ ?_) | ((with_reducible refine xS ?_); refine awp_keep 171031419293486646490912486693274495 100 (uD 1 (mdL [(8, 1)]) pSPart2_67_1E pSPart2_67_1P 120 rfl (by kernel_rfl) ?_))) <;> ((try with_reducible intro K1 hK1); simp only [go_sem, ↓reduceIte, reduceCtorEq, nA, nB, nC, nD, nE, nF, e1, e4, e5, Nat.reduceMod, Nat.reduceDiv, Nat.reducePow] <;> and_intros <;> first | (apply hK1; clear hK1 K1) | (intros; first | omega | decide | (simp_all <;> omega)) | skip))))
        refine awp_cond (t := _) rfl (fun h => by cases h) (fun _ => ?_)
        (repeat (first | refine gO (by decide) ?_ | ((first | ((with_reducible refine yS ?_); refine awp_keep 171031419293486646490912486693274495 100 (uS (mdL [(8, 1)]) ?_)) | ((with_reducible refine yR ?_); refine awp_keep 171031419293486646490912486693274495 100 (uR (mdL [(8, 1)]) ?_)) | refine gM (mdL [(8, 1)]) ?_ | (with_reducible refine wM ?_ ?_) | ((with_reducible refine xS ?_); refine awp_keep 171031419293486646490912486693274495 100 (uD 1 (mdL [(8, 1)]) pSPart2_67_1E pSPart2_67_1P 120 rfl (by kernel_rfl) ?_))) <;> ((try with_reducible intro K1 hK1); simp only [go_sem, ↓reduceIte, reduceCtorEq, nA, nB, nC, nD, nE, nF, e1, e4, e5, Nat.reduceMod, Nat.reduceDiv, Nat.reducePow] <;> and_intros <;> first | (apply hK1; clear hK1 K1) | (intros; first | omega | decide | (simp_all <;> omega)) | skip))))
        refine (g_shares shares (by omega) _).mono ?_; rintro _ hz ⟨rfl, hh⟩; apply hK1; clear hK1 K1; rw [hh]; clear hh hz
        (repeat (first | refine gO (by decide) ?_ | ((first | ((with_reducible refine yS ?_); refine awp_keep 171031419293486646490912486693274495 100 (uS (mdL [(8, 1)]) ?_)) | ((with_reducible refine yR ?_); refine awp_keep 171031419293486646490912486693274495 100 (uR (mdL [(8, 1)]) ?_)) | refine gM (mdL [(8, 1)]) ?_ | (with_reducible refine wM ?_ ?_) | ((with_reducible refine xS ?_); refine awp_keep 171031419293486646490912486693274495 100 (uD 1 (mdL [(8, 1)]) pSPart2_67_1E pSPart2_67_1P 120 rfl (by kernel_rfl) ?_))) <;> ((try with_reducible intro K1 hK1); simp only [go_sem, ↓reduceIte, reduceCtorEq, nA, nB, nC, nD, nE, nF, Nat.reduceMod, Nat.reduceDiv, Nat.reducePow] <;> and_intros <;> first | (apply hK1; clear hK1 K1) | (intros; first | omega | decide | (simp_all <;> omega)) | skip))))
        refine awp_cond (t := _) rfl (fun h6 => ?_) (fun h6 => ?_)
        · (repeat (first | refine gO (by decide) ?_ | ((first | ((with_reducible refine yS ?_); refine awp_keep 171031419293486646490912486693274495 100 (uS (mdL [(8, 1)]) ?_)) | ((with_reducible refine yR ?_); refine awp_keep 171031419293486646490912486693274495 100 (uR (mdL [(8, 1)]) ?_)) | refine gM (mdL [(8, 1)]) ?_ | (with_reducible refine wM ?_ ?_) | ((with_reducible refine xS ?_); refine awp_keep 171031419293486646490912486693274495 100 (uD 1 (mdL [(8, 1)]) pSPart2_67_1E pSPart2_67_1P 120 rfl (by kernel_rfl) ?_))) <;> ((try with_reducible intro K1 hK1); simp only [go_sem, ↓reduceIte, reduceCtorEq, nA, nB, nC, nD, nE, nF, Nat.reduceMod, Nat.reduceDiv, Nat.reducePow] <;> and_intros <;> first | (apply hK1; clear hK1 K1) | (intros; first | omega | decide | (simp_all <;> omega)) | skip))))
          simp only [Tryz.results67, go_sem, ↓reduceIte, reduceCtorEq, nA, nB, nC, nD, nE, nF]
          exact ⟨_, _, Weak.refl _, Hp.le.refl _, by rw [partF_eq, h1, hF, e1, e5, h6]; rfl, rfl⟩
        · (repeat (first | refine gO (by decide) ?_ | ((first | ((with_reducible refine yS ?_); refine awp_keep 171031419293486646490912486693274495 100 (uS (mdL [(8, 1)]) ?_)) | ((with_reducible refine yR ?_); refine awp_keep 171031419293486646490912486693274495 100 (uR (mdL [(8, 1)]) ?_)) | refine gM (mdL [(8, 1)]) ?_ | (with_reducible refine wM ?_ ?_) | ((with_reducible refine xS ?_); refine awp_keep 171031419293486646490912486693274495 100 (uD 1 (mdL [(8, 1)]) pSPart2_67_1E pSPart2_67_1P 120 rfl (by kernel_rfl) ?_))) <;> ((try with_reducible intro K1 hK1); simp only [go_sem, ↓reduceIte, reduceCtorEq, nA, nB, nC, nD, nE, nF, Nat.reduceMod, Nat.reduceDiv, Nat.reducePow] <;> and_intros <;> first | (apply hK1; clear hK1 K1) | (intros; first | omega | decide | (simp_all <;> omega)) | skip))))
          exact ⟨by rw [partF_eq, h1, hF, e1, e5, h6]; rfl, rfl⟩
    · rintro _ ⟨hpf, rfl⟩
      (repeat (first | refine gO (by decide) ?_ | ((first | ((with_reducible refine yS ?_); refine awp_keep 171031419293486646490912486693274495 100 (uS (mdL [(8, 1)]) ?_)) | ((with_reducible refine yR ?_); refine awp_keep 171031419293486646490912486693274495 100 (uR (mdL [(8, 1)]) ?_)) | refine gM (mdL [(8, 1)]) ?_ | (with_reducible refine wM ?_ ?_) | ((with_reducible refine xS ?_); refine awp_keep 171031419293486646490912486693274495 100 (uD 1 (mdL [(8, 1)]) pSPart2_67_1E pSPart2_67_1P 120 rfl (by kernel_rfl) ?_))) <;> ((try with_reducible intro K1 hK1); simp only [go_sem, ↓reduceIte, reduceCtorEq, nA, nB, nC, nD, nE, nF, Nat.reduceMod, Nat.reduceDiv, Nat.reducePow] <;> and_intros <;> first | (apply hK1; clear hK1 K1) | (intros; first | omega | decide | (simp_all <;> omega)) | skip))))
      refine awp_loopC (rl false [108, 3, 9]) 0 (fun g s => ∃ j : Nat, g + j = kids.length ∧ firstNZ ((kids.map partF).take j) = 0 ∧
        s = ⟨((jnk 108 ((.row 6 (kids.map encL) none) :: (.v (.int .i64 kids.length)) :: (.v (.int .i64 j)) :: (jnk 9 [])))), [], h0⟩) kids.length ⟨0, by omega, rfl, rfl⟩ ?_
      rintro g _ ⟨j, hj, hnz, rfl⟩
      (repeat (first | refine gO (by decide) ?_ | ((first | ((with_reducible refine yS ?_); refine awp_keep 171031419293486646490912486693274495 100 (uS (mdL [(8, 1)]) ?_)) | ((with_reducible refine yR ?_); refine awp_keep 171031419293486646490912486693274495 100 (uR (mdL [(8, 1)]) ?_)) | refine gM (mdL [(8, 1)]) ?_ | (with_reducible refine wM ?_ ?_) | ((with_reducible refine xS ?_); refine awp_keep 171031419293486646490912486693274495 100 (uD 1 (mdL [(8, 1)]) pSPart2_67_1E pSPart2_67_1P 120 rfl (by kernel_rfl) ?_))) <;> ((try with_reducible intro K1 hK1); simp only [go_sem, ↓reduceIte, reduceCtorEq, nA, nB, nC, nD, nE, nF, Nat.reduceMod, Nat.reduceDiv, Nat.reducePow] <;> and_intros <;> first | (apply hK1; clear hK1 K1) | (intros; first | omega | decide | (simp_all <;> omega)) | skip))))
      refine awp_cond (t := _) rfl (fun h6 => ?_) (fun h6 => ?_)
      · simp only [decide_eq_true_eq] at h6
        have hjk : j < kids.length := by omega
        have hg : (kids.map encL).getD j [] = encL (kids.getD j default) := getD_enc encL kids j default hjk
        have hmem := getD_mem' kids j default hjk
        have hbt := b8 _ hmem
        have hgp : (kids.map partF)[j]? = some (partF (kids.getD j default)) := by rw [List.getElem?_map, List.getElem?_eq_getElem hjk, List.getD_eq_getElem?_getD, List.getElem?_eq_getElem hjk]; rfl
        have e1 : (kids.map partF).take (j + 1) = (kids.map partF).take j ++ [partF (kids.getD j default)] := by rw [List.take_add_one, hgp]; rfl
        generalize kids.getD j default = t2 at hg hmem hbt hgp e1
        have hlen := encL_len t2
        have htk : List.take 6 (encL t2) = encL t2 := List.take_of_length_le (Nat.le_of_eq hlen)
        have hdr : List.drop 6 (encL t2) = [] := List.drop_of_length_le (Nat.le_of_eq hlen)
        (repeat (first | refine gO (by decide) ?_ | ((first | ((with_reducible refine yS ?_); refine awp_keep 171031419293486646490912486693274495 100 (uS (mdL [(8, 1)]) ?_)) | ((with_reducible refine yR ?_); refine awp_keep 171031419293486646490912486693274495 100 (uR (mdL [(8, 1)]) ?_)) | refine gM (mdL [(8, 1)]) ?_ | (with_reducible refine wM ?_ ?_) | ((with_reducible refine xS ?_); refine awp_keep 171031419293486646490912486693274495 100 (uD 1 (mdL [(8, 1)]) pSPart2_67_1E pSPart2_67_1P 120 rfl (by kernel_rfl) ?_))) <;> ((try with_reducible intro K1 hK1); simp only [go_sem, ↓reduceIte, reduceCtorEq, nA, nB, nC, nD, nE, nF, Int.toNat_natCast, hg, hlen, htk, hdr, Nat.reduceMod, Nat.reduceDiv, Nat.reducePow] <;> and_intros <;> first | (apply hK1; clear hK1 K1) | (intros; first | omega | decide | (simp_all <;> omega)) | skip))))
        refine (g_part22 d t2 h0 hbt).mono ?_; rintro _ hz ⟨rfl, hh⟩; apply hK1; clear hK1 K1; rw [hh]; clear hh hz
        (repeat (first | refine gO (by decide) ?_ | ((first | ((with_reducible refine yS ?_); refine awp_keep 171031419293486646490912486693274495 100 (uS (mdL [(8, 1)]) ?_)) | ((with_reducible refine yR ?_); refine awp_keep 171031419293486646490912486693274495 100 (uR (mdL [(8, 1)]) ?_)) | refine gM (mdL [(8, 1)]) ?_ | (with_reducible refine wM ?_ ?_) | ((with_reducible refine xS ?_); refine awp_keep 171031419293486646490912486693274495 100 (uD 1 (mdL [(8, 1)]) pSPart2_67_1E pSPart2_67_1P 120 rfl (by kernel_rfl) ?_))) <;> ((try with_reducible intro K1 hK1); simp only [go_sem, ↓reduceIte, reduceCtorEq, nA, nB, nC, nD, nE, nF, Nat.reduceMod, Nat.reduceDiv, Nat.reducePow] <;> and_intros <;> first | (apply hK1; clear hK1 K1) | (intros; first | omega | decide | (simp_all <;> omega)) | skip))))
        refine awp_cond (t := _) rfl (fun h7 => ?_) (fun h7 => ?_)
        · (repeat (first | refine gO (by decide) ?_ | ((first | ((with_reducible refine yS ?_); refine awp_keep 171031419293486646490912486693274495 100 (uS (mdL [(8, 1)]) ?_)) | ((with_reducible refine yR ?_); refine awp_keep 171031419293486646490912486693274495 100 (uR (mdL [(8, 1)]) ?_)) | refine gM (mdL [(8, 1)]) ?_ | (with_reducible refine wM ?_ ?_) | ((with_reducible refine xS ?_); refine awp_keep 171031419293486646490912486693274495 100 (uD 1 (mdL [(8, 1)]) pSPart2_67_1E pSPart2_67_1P 120 rfl (by kernel_rfl) ?_))) <;> ((try with_reducible intro K1 hK1); simp only [go_sem, ↓reduceIte, reduceCtorEq, nA, nB, nC, nD, nE, nF, Nat.reduceMod, Nat.reduceDiv, Nat.reducePow] <;> and_intros <;> first | (apply hK1; clear hK1 K1) | (intros; first | omega | decide | (simp_all <;> omega)) | skip))))
          simp only [Tryz.results67, go_sem, ↓reduceIte, reduceCtorEq, nA, nB, nC, nD, nE, nF]
          exact ⟨_, _, Weak.refl _, Hp.le.refl _, by rw [hpf, firstNZ_pre _ j _ hgp (by simpa using h7) hnz], rfl⟩
        · (repeat (first | refine gO (by decide) ?_ | ((first | ((with_reducible refine yS ?_); refine awp_keep 171031419293486646490912486693274495 100 (uS (mdL [(8, 1)]) ?_)) | ((with_reducible refine yR ?_); refine awp_keep 171031419293486646490912486693274495 100 (uR (mdL [(8, 1)]) ?_)) | refine gM (mdL [(8, 1)]) ?_ | (with_reducible refine wM ?_ ?_) | ((with_reducible refine xS ?_); refine awp_keep 171031419293486646490912486693274495 100 (uD 1 (mdL [(8, 1)]) pSPart2_67_1E pSPart2_67_1P 120 rfl (by kernel_rfl) ?_))) <;> ((try with_reducible intro K1 hK1); simp only [go_sem, ↓reduceIte, reduceCtorEq, nA, nB, nC, nD, nE, nF, Nat.reduceMod, Nat.reduceDiv, Nat.reducePow] <;> and_intros <;> first | (apply hK1; clear hK1 K1) | (intros; first | omega | decide | (simp_all <;> omega)) | skip))))
          refine ⟨g - 1, by omega, j + 1, by omega, ?_, rfl⟩
          rw [e1, firstNZ_app, if_pos hnz]
          simpa using h7
      · simp only [decide_eq_false_iff_not] at h6
        have hjk : j = kids.length := by omega
        rw [List.take_of_length_le (by simp; omega)] at hnz
        (repeat (first | refine gO (by decide) ?_ | ((first | ((with_reducible refine yS ?_); refine awp_keep 171031419293486646490912486693274495 100 (uS (mdL [(8, 1)]) ?_)) | ((with_reducible refine yR ?_); refine awp_keep 171031419293486646490912486693274495 100 (uR (mdL [(8, 1)]) ?_)) | refine gM (mdL [(8, 1)]) ?_ | (with_reducible refine wM ?_ ?_) | ((with_reducible refine xS ?_); refine awp_keep 171031419293486646490912486693274495 100 (uD 1 (mdL [(8, 1)]) pSPart2_67_1E pSPart2_67_1P 120 rfl (by kernel_rfl) ?_))) <;> ((try with_reducible intro K1 hK1); simp only [go_sem, ↓reduceIte, reduceCtorEq, nA, nB, nC, nD, nE, nF, Nat.reduceMod, Nat.reduceDiv, Nat.reducePow] <;> and_intros <;> first | (apply hK1; clear hK1 K1) | (intros; first | omega | decide | (simp_all <;> omega)) | skip))))
        simp only [Tryz.results67, go_sem, ↓reduceIte, reduceCtorEq, nA, nB, nC, nD, nE, nF]
        exact ⟨_, _, Weak.refl _, Hp.le.refl _, by rw [hpf, hnz], rfl⟩
def oMany (m : Int) : AO := .cells [.v (.int .i64 m)]
theorem sum_take_le (kids : List LT) (f : LT → Int) (hf : ∀ x ∈ kids, 0 ≤ f x) (j : Nat) : ((kids.take j).map f).sum ≤ (kids.map f).sum := by
  have e : (kids.map f).sum = ((kids.take j).map f).sum + ((kids.drop j).map f).sum := by rw [← List.sum_append, ← List.map_append, List.take_append_drop]
  have : ∀ l : List LT, (∀ x ∈ l, 0 ≤ f x) → 0 ≤ (l.map f).sum := fun l => by
    induction l with
    | nil => simp
    | cons x l ih => intro h; have h1 := h x (by simp); have h2 := ih fun y hy => h y (by simp [hy]); simp only [List.map_cons, List.sum_cons]; omega
  have := this (kids.drop j) fun x hx => hf x (List.mem_of_mem_drop hx)
  omega
theorem max_take (kids : List LT) (f : LT → Int) : ∀ (j : Nat) (_ : j < kids.length), f (kids.getD j default) ≤ (kids.map f).foldl max 0 := by
  have key : ∀ (l : List LT) (a : Int) (j : Nat), j < l.length → a ≤ (l.map f).foldl max a ∧ f (l.getD j default) ≤ (l.map f).foldl max a := by
    intro l
    induction l with
    | nil => intro a j h; simp at h
    | cons x l ih =>
      intro a j h
      simp only [List.map_cons, List.foldl_cons]
      have mono : ∀ (l : List Int) (a : Int), a ≤ l.foldl max a := fun l => by
        induction l with
        | nil => intro a; exact Int.le_refl _
        | cons y l ih => intro a; have := ih (max a y); simp only [List.foldl_cons]; omega
      cases j with
      | zero => have := mono (l.map f) (max a (f x)); simp only [List.getD_cons_zero]; omega
      | succ j => have := ih (max a (f x)) j (by simpa using h); simp only [List.getD_cons_succ]; omega
  exact fun j hj => (key kids 0 j hj).2
def LargeR (t : LT) (deep m : Int) (h : Hp) (i : Nat) (r : AV) (h' : Hp) : Prop :=
  ∃ (b : Bool) (m' : Int), r = .v (.bool b) ∧ h' = { h with H := upd h.H i (some (oMany m')) } ∧ (b = true → 200 < m + manyF t ∨ 12 < deep + deepF t - 1) ∧ (b = false → m + manyF t ≤ 200 ∧ deep + deepF t - 1 ≤ 12 ∧ m' = m + manyF t)
theorem g_large : ∀ (d : Nat) (t : LT) (h : Hp) (i : Nat) (m deep : Int), KC d t → manyF t ≤ 1000000000000000 ∧ d ≤ 1000 → (0 ≤ m ∧ m ≤ 200) → (0 ≤ deep ∧ deep ≤ 1000) → h.H i = some (oMany m) →
    ACalls Tryz.prog 127 [.ptr i 0, .agg (encL t), .v (.int .i64 deep)] h (LargeR t deep m h i)
  | 0, _, _, _, _, _, hb, _, _, _, _ => hb.elim
  | d + 1, t, h, i, m, deep, hb, hd, hm, hdp, hi => by
    cases t with
    | mk kind item long many kids shares =>
    obtain ⟨b1, b2, b3, b4, b5, b6, b7, b8⟩ := id hb
    have hi' : h.H i = some (.cells [.v (.int .i64 m)]) := hi
    have hpos : ∀ x ∈ kids, 1 ≤ manyF x ∧ 1 ≤ deepF x := fun x hx => by have := size_bd d x (b8 x hx); omega
    refine gE Tryz.func127 rfl (by kernel_rfl) 24 rfl fun c => ?_
    rw [encL_eq]
    (repeat (first | refine gO (by decide) ?_ | (refine gR fun K1 hK1 => ?_; simp only [go_sem, ↓reduceIte, reduceCtorEq, nA, nB, nC, nD, nE, nF, hi'] <;> and_intros <;> first | (apply hK1; clear hK1 K1) | (intros; first | omega | decide | (simp_all <;> omega)) | skip)))
    refine awp_cond (t := _) rfl (fun h1 => ?_) (fun h1 => ?_)
    · (repeat (first | refine gO (by decide) ?_ | (refine gR fun K1 hK1 => ?_; simp only [go_sem, ↓reduceIte, reduceCtorEq, nA, nB, nC, nD, nE, nF, hi'] <;> and_intros <;> first | (apply hK1; clear hK1 K1) | (intros; first | omega | decide | (simp_all <;> omega)) | skip)))
      simp only [Tryz.results127, go_sem, ↓reduceIte, reduceCtorEq, nA, nB, nC, nD, nE, nF]
      simp only [Bool.or_eq_true, decide_eq_true_eq] at h1
      have hs := sum_bd manyF 0 (Int.le_refl _) ([] : List LT) (by simp)
      have hd1 := size_bd (d + 1) _ hb
      refine ⟨_, _, Weak.refl _, Hp.le.refl _, true, m + 1, rfl, rfl, fun _ => ?_, fun h => by cases h⟩
      rw [manyF_eq, deepF_eq] at *
      have h2 := sum_take_le kids manyF (fun x hx => by have := hpos x hx; omega) 0
      have h3 := max_bd deepF 1000 kids 0 (by omega) fun x hx => by have := size_bd d x (b8 x hx); omega
      simp only [List.take_zero, List.map_nil, List.sum_nil] at h2
      omega
    · (repeat (first | refine gO (by decide) ?_ | (refine gR fun K1 hK1 => ?_; simp only [go_sem, ↓reduceIte, reduceCtorEq, nA, nB, nC, nD, nE, nF, hi'] <;> and_intros <;> first | (apply hK1; clear hK1 K1) | (intros; first | omega | decide | (simp_all <;> omega)) | skip)))
      simp only [Bool.or_eq_false_iff, decide_eq_false_iff_not] at h1
      refine (g_contains41 172 [.ref [.ptr i 0] 0, .ref [.v (.int .i64 deep)] 0] (kids.map encL) (fun j hj => ?_) (by simp; omega)
        (fun j h' => h' = { h with H := upd h.H i (some (oMany (m + 1 + ((kids.take j).map manyF).sum))) } ∧ m + 1 + ((kids.take j).map manyF).sum ≤ 200 ∧ (((kids.take j).map deepF).foldl max 0 + deep ≤ 12))
        (fun j h' => ∃ m', h' = { h with H := upd h.H i (some (oMany m')) } ∧ (200 < m + 1 + ((kids.take (j + 1)).map manyF).sum ∨ 12 < deep + deepF (kids.getD j default)))
        _ ⟨by simp; rfl, by simp; omega, by simp; omega⟩ ?_).mono ?_
      · have hj' : j < kids.length := by simpa using hj
        rw [show (kids.map encL).getD j [] = encL (kids.getD j default) from getD_enc encL kids j default hj']
        exact encL_len _
      · rintro j h' hj ⟨rfl, hs1, hs2⟩
        have hjk : j < kids.length := by simpa using hj
        rw [show (kids.map encL).getD j [] = encL (kids.getD j default) from getD_enc encL kids j default hjk]
        have hmem := getD_mem' kids j default hjk
        have e1 := take_succ_map manyF kids j hjk
        have e2 := take_succ_map deepF kids j hjk
        have hbt := b8 _ hmem
        have hp2 := hpos _ hmem
        have h0 := many_take (kids := kids) (fun x hx => by have := hpos x hx; omega) j
        have hmk := many_kid (kids := kids) (fun x hx => by have := hpos x hx; omega) hmem
        have hd1 := hd.1
        rw [manyF_eq] at hd1
        rw [e1, List.sum_append]
        have hl42 : ∀ t2, KC d t2 → manyF t2 ≤ 1000000000000000 → ACalls Tryz.prog 172 [aggOf (encL t2), .ref [.ptr i 0] 0, .ref [.v (.int .i64 deep)] 0] { h with H := upd h.H i (some (oMany (m + 1 + ((kids.take j).map manyF).sum))) } (LargeR t2 (deep + 1) (m + 1 + ((kids.take j).map manyF).sum) h i) := fun t2 ht2 hm2 => by
          have hlen := encL_len t2
          have htk : List.take 6 (encL t2) = encL t2 := List.take_of_length_le (Nat.le_of_eq hlen)
          unfold aggOf
          refine gE Tryz.func172 rfl (by kernel_rfl) 7 rfl fun c => ?_
          (repeat (first | refine gO (by decide) ?_ | (refine gR fun K1 hK1 => ?_; simp only [go_sem, ↓reduceIte, reduceCtorEq, nA, nB, nC, nD, nE, nF, hlen, htk] <;> and_intros <;> first | (apply hK1; clear hK1 K1) | (intros; first | omega | decide | (simp_all <;> omega)) | skip)))
          refine (g_large d t2 _ i _ (deep + 1) ht2 ⟨hm2, by omega⟩ (by omega) (by omega) (upd_same _ _ _)).mono ?_
          rintro _ _ ⟨b, m', rfl, rfl, hb1, hb2⟩
          refine hK1 _ ?_; clear hK1 K1
          (repeat (first | refine gO (by decide) ?_ | (refine gR fun K1 hK1 => ?_; simp only [go_sem, ↓reduceIte, reduceCtorEq, nA, nB, nC, nD, nE, nF] <;> and_intros <;> first | (apply hK1; clear hK1 K1) | (intros; first | omega | decide | (simp_all <;> omega)) | skip)))
          simp only [Tryz.results172, go_sem, ↓reduceIte, reduceCtorEq, nA, nB, nC, nD, nE, nF]
          exact ⟨_, _, Weak.refl _, Hp.le.refl _, b, m', rfl, by simp only [upd_upd], hb1, hb2⟩
        refine (hl42 _ hbt (by omega)).mono ?_
        rintro _ _ ⟨b, m', rfl, rfl, hb1, hb2⟩
        refine ⟨b, rfl, fun hb => ⟨m', rfl, ?_⟩, fun hb => ?_⟩
        · have := hb1 hb
          simp only [List.sum_cons, List.sum_nil]
          omega
        · obtain ⟨h6, h7, rfl⟩ := hb2 hb
          rw [e2, List.foldl_append]
          simp only [List.sum_cons, List.sum_nil, List.foldl_cons, List.foldl_nil, Int.add_zero]
          exact ⟨by rw [Int.add_assoc (m + 1)], by omega, by omega⟩
      · rintro _ h' (⟨j, hj, rfl, m', rfl, hP⟩ | ⟨rfl, rfl, hs1, hs2⟩)
        · have hjk : j < kids.length := by simpa using hj
          refine hK1 _ ?_; clear hK1 K1
          (repeat (first | refine gO (by decide) ?_ | (refine gR fun K1 hK1 => ?_; simp only [go_sem, ↓reduceIte, reduceCtorEq, nA, nB, nC, nD, nE, nF] <;> and_intros <;> first | (apply hK1; clear hK1 K1) | (intros; first | omega | decide | (simp_all <;> omega)) | skip)))
          simp only [Tryz.results127, go_sem, ↓reduceIte, reduceCtorEq, nA, nB, nC, nD, nE, nF]
          refine ⟨_, _, Weak.refl _, Hp.le.refl _, true, m', rfl, rfl, fun _ => ?_, fun h => by cases h⟩
          rw [manyF_eq, deepF_eq]
          have h2 := sum_take_le kids manyF (fun x hx => by have := hpos x hx; omega) (j + 1)
          have h3 := max_take kids deepF j hjk
          omega
        · refine hK1 _ ?_; clear hK1 K1
          (repeat (first | refine gO (by decide) ?_ | (refine gR fun K1 hK1 => ?_; simp only [go_sem, ↓reduceIte, reduceCtorEq, nA, nB, nC, nD, nE, nF] <;> and_intros <;> first | (apply hK1; clear hK1 K1) | (intros; first | omega | decide | (simp_all <;> omega)) | skip)))
          simp only [Tryz.results127, go_sem, ↓reduceIte, reduceCtorEq, nA, nB, nC, nD, nE, nF]
          simp only [List.length_map, List.take_length] at hs1 hs2 ⊢
          refine ⟨_, _, Weak.refl _, Hp.le.refl _, false, _, rfl, rfl, fun h => (by cases h), fun _ => ?_⟩
          rw [manyF_eq, deepF_eq]
          omega
def faultF (t : LT) : Int := if 200 < manyF t ∨ 12 < deepF t then 2 else partF t
theorem g_fault6 (d : Nat) (t : LT) (h0 : Hp) (hb : KC d t) (hd : manyF t ≤ 1000000000000000 ∧ d ≤ 1000) : ACalls Tryz.prog 10 [.agg (encL t)] h0 (fun r h' => r = .v (.int .i64 (faultF t)) ∧ h' = h0) := by
  have hlen := encL_len t
  have htk : List.take 6 (encL t) = encL t := List.take_of_length_le (Nat.le_of_eq hlen)
  refine gE Tryz.func10 rfl (by kernel_rfl) 17 rfl fun c => ?_
  (repeat (first | refine gO (by decide) ?_ | (refine gR fun K1 hK1 => ?_; simp only [go_sem, ↓reduceIte, reduceCtorEq, nA, nB, nC, nD, nE, nF, hlen, htk] <;> and_intros <;> first | (apply hK1; clear hK1 K1) | (intros; first | omega | decide | (simp_all <;> omega)) | skip)))
  refine (g_size d t h0 hb hd).mono ?_; rintro _ hz ⟨rfl, hh⟩; apply hK1; clear hK1 K1; rw [hh]; clear hh hz
  (repeat (first | refine gO (by decide) ?_ | (refine gR fun K1 hK1 => ?_; simp only [go_sem, ↓reduceIte, reduceCtorEq, nA, nB, nC, nD, nE, nF, hlen, htk] <;> and_intros <;> first | (apply hK1; clear hK1 K1) | (intros; first | omega | decide | (simp_all <;> omega)) | skip)))
  refine awp_cond (t := _) rfl (fun h1 => ?_) (fun h1 => ?_)
  · (repeat (first | refine gO (by decide) ?_ | (refine gR fun K1 hK1 => ?_; simp only [go_sem, ↓reduceIte, reduceCtorEq, nA, nB, nC, nD, nE, nF, hlen, htk] <;> and_intros <;> first | (apply hK1; clear hK1 K1) | (intros; first | omega | decide | (simp_all <;> omega)) | skip)))
    simp only [Tryz.results10, go_sem, ↓reduceIte, reduceCtorEq, nA, nB, nC, nD, nE, nF]
    exact ⟨_, _, Weak.refl _, Hp.le.refl _, by rw [faultF, if_pos (by simpa using h1)], rfl⟩
  · (repeat (first | refine gO (by decide) ?_ | (refine gR fun K1 hK1 => ?_; simp only [go_sem, ↓reduceIte, reduceCtorEq, nA, nB, nC, nD, nE, nF, hlen, htk] <;> and_intros <;> first | (apply hK1; clear hK1 K1) | (intros; first | omega | decide | (simp_all <;> omega)) | skip)))
    refine (g_part22 d t h0 hb).mono ?_; rintro _ hz ⟨rfl, hh⟩; apply hK1; clear hK1 K1; rw [hh]; clear hh hz
    (repeat (first | refine gO (by decide) ?_ | (refine gR fun K1 hK1 => ?_; simp only [go_sem, ↓reduceIte, reduceCtorEq, nA, nB, nC, nD, nE, nF] <;> and_intros <;> first | (apply hK1; clear hK1 K1) | (intros; first | omega | decide | (simp_all <;> omega)) | skip)))
    simp only [Tryz.results10, go_sem, ↓reduceIte, reduceCtorEq, nA, nB, nC, nD, nE, nF]
    exact ⟨_, _, Weak.refl _, Hp.le.refl _, by rw [faultF, if_neg (by simp at h1; omega)], rfl⟩
theorem g_check7 (d : Nat) (t : LT) (h0 : Hp) (hb : KC d t) (hd : manyF t ≤ 1000000000000000 ∧ d ≤ 1000) : ACalls Tryz.prog 70 [.agg (encL t)] h0 (fun r h' => r = .v (.int .i64 (faultF t)) ∧ h' = h0) := by
  have hlen := encL_len t
  have htk : List.take 6 (encL t) = encL t := List.take_of_length_le (Nat.le_of_eq hlen)
  have hz := size_bd d t hb
  refine gE Tryz.func70 rfl (by kernel_rfl) 8 rfl fun c => ?_
  (repeat (first | refine gO (by decide) ?_ | (refine gM (mdL [(3, 2)]) fun K1 hK1 => ?_; simp only [go_sem, ↓reduceIte, reduceCtorEq, nA, nB, nC, nD, nE, nF, hlen, htk] <;> and_intros <;> first | (apply hK1; clear hK1 K1) | (intros; first | omega | decide | (simp_all <;> omega)) | skip)))
  intro i hi
  and_intros <;> first | (refine hK1 _ ?_; clear hK1 K1) | exact .inl trivial | exact .inr rfl | exact .inr True.intro | exact True.intro | omega
  (repeat (first | refine gO (by decide) ?_ | (refine gM (mdL [(3, 2)]) fun K1 hK1 => ?_; simp only [go_sem, ↓reduceIte, reduceCtorEq, nA, nB, nC, nD, nE, nF, hlen, htk] <;> and_intros <;> first | (apply hK1; clear hK1 K1) | (intros; first | omega | decide | (simp_all <;> omega)) | skip)))
  refine (g_large d t _ i 0 1 hb hd (by omega) (by omega) (upd_same _ _ _)).mono ?_
  rintro _ _ ⟨b, m', rfl, rfl, hb1, hb2⟩
  refine hK1 _ ?_; clear hK1 K1
  (repeat (first | refine gO (by decide) ?_ | (refine gM (mdL [(3, 2)]) fun K1 hK1 => ?_; simp only [go_sem, ↓reduceIte, reduceCtorEq, nA, nB, nC, nD, nE, nF, hlen, htk] <;> and_intros <;> first | (apply hK1; clear hK1 K1) | (intros; first | omega | decide | (simp_all <;> omega)) | skip)))
  have hle : Hp.le h0 { H := upd h0.H i (some (oMany m')), T := h0.T } := ⟨fun j => by
    by_cases hj : j = i
    · rw [hj]; exact .inl hi
    · exact .inr (upd_other _ _ hj).symm, fun _ => .inr rfl⟩
  refine awp_cond (t := _) rfl (fun h1 => ?_) (fun h1 => ?_)
  · (repeat (first | refine gO (by decide) ?_ | (refine gM (mdL [(3, 2)]) fun K1 hK1 => ?_; simp only [go_sem, ↓reduceIte, reduceCtorEq, nA, nB, nC, nD, nE, nF, hlen, htk] <;> and_intros <;> first | (apply hK1; clear hK1 K1) | (intros; first | omega | decide | (simp_all <;> omega)) | skip)))
    simp only [Tryz.results70, go_sem, ↓reduceIte, reduceCtorEq, nA, nB, nC, nD, nE, nF]
    exact ⟨_, h0, Weak.refl _, by simpa using hle, by rw [faultF, if_pos (by have := hb1 h1; omega)], rfl⟩
  · (repeat (first | refine gO (by decide) ?_ | (refine gM (mdL [(3, 2)]) fun K1 hK1 => ?_; simp only [go_sem, ↓reduceIte, reduceCtorEq, nA, nB, nC, nD, nE, nF, hlen, htk] <;> and_intros <;> first | (apply hK1; clear hK1 K1) | (intros; first | omega | decide | (simp_all <;> omega)) | skip)))
    refine (g_part24 d t _ hb).mono ?_; rintro _ hz ⟨rfl, hh⟩; apply hK1; clear hK1 K1; rw [hh]; clear hh hz
    (repeat (first | refine gO (by decide) ?_ | (refine gM (mdL [(3, 2)]) fun K1 hK1 => ?_; simp only [go_sem, ↓reduceIte, reduceCtorEq, nA, nB, nC, nD, nE, nF] <;> and_intros <;> first | (apply hK1; clear hK1 K1) | (intros; first | omega | decide | (simp_all <;> omega)) | skip)))
    simp only [Tryz.results70, go_sem, ↓reduceIte, reduceCtorEq, nA, nB, nC, nD, nE, nF]
    exact ⟨_, h0, Weak.refl _, by simpa using hle, by rw [faultF, if_neg (by have := hb2 h1; omega)], rfl⟩
abbrev pSRoundG_76_9E : List Nat := [0, 1, 2, 3, 4]
abbrev pSRoundG_76_9P : List (Nat × List Nat × List Nat) := []
attribute [go_sem] pSRoundG_76_9E pSRoundG_76_9P
noncomputable def roundC (d : Nat) (t : LT) : List AV := [.v (.int .i64 (roundN d t : Nat)), .row 2 ((roundS d t).map encStep) none, .v (.int .i64 ((roundS d t).map (·.2)).sum)]
theorem roundS_some {d : Nat} {t : LT} {N : Nat} (h : RoundIs d t N) : roundS d t = (passesU d t N).2 ∧ roundE d t = 0 ∧ roundN d t = N := by
  have e := roundN_some h
  have h1 := h.1.1
  exact ⟨by rw [roundS, if_neg (by omega), e], by rw [roundE, if_neg (by omega)], e⟩
theorem roundS_none {d : Nat} {t : LT} (e : roundN d t = 0) : roundS d t = [] ∧ roundE d t = 2 := ⟨by rw [roundS, if_pos e], by rw [roundE, if_pos e]⟩
theorem roundC_none {d : Nat} {t : LT} (e : roundN d t = 0) : roundC d t = [.v (.int .i64 0), .row 2 [] none, .v (.int .i64 0)] := by
  rw [roundC, e, (roundS_none e).1]; rfl
theorem passesU_len (d : Nat) (t : LT) (j : Nat) : (passesU d t (j + 1)).2.length = (passesU d t j).2.length + (passU d t (passesU d t j).1).2.length := by simp only [passesU, List.length_append]
theorem sum_bdS (xs : List (ByteArray × Int)) (h : ∀ x ∈ xs, 1 ≤ x.2 ∧ x.2 ≤ 3600000) : 0 ≤ (xs.map (·.2)).sum ∧ (xs.map (·.2)).sum ≤ xs.length * 3600000 := by
  induction xs with
  | nil => simp
  | cons y l ih => have := h y (by simp); have := ih fun z hz => h z (by simp [hz]); simp only [List.map_cons, List.sum_cons, List.length_cons]; omega
theorem Weak.tup3 {a a' b b' c c' : AV} (ha : Weak a a') (hb : Weak b b') (hc : Weak c c') : Weak (.tup [a, b, c]) (.tup [a', b', c']) := fun G v hr => by
  cases hr with
  | tup _ vs u hl hu hr =>
    refine .tup _ vs u (by simpa using hl) (fun j hj => hu j (by simpa using hj)) (fun j hj => ?_)
    rcases j with _ | _ | _ | j
    · exact ha G _ (hr 0 (by simp))
    · exact hb G _ (hr 1 (by simp))
    · exact hc G _ (hr 2 (by simp))
    · simp only [List.length_cons, List.length_nil] at hj; omega
theorem g_roundP (d : Nat) (t : LT) (h : Hp) (hb : KC d t) (hv : VL d t) (hil : IL d t) : ACalls Tryz.prog 75 [.agg (encL t)] h (fun r _ => r = .tup [.agg (roundC d t), .v (.int .i64 (roundE d t))]) := by
  have hlen := encL_len t
  have htk : List.take 6 (encL t) = encL t := List.take_of_length_le (Nat.le_of_eq hlen)
  have hdk : List.drop 6 (encL t) = [] := List.drop_of_length_le (Nat.le_of_eq hlen)
  refine gE Tryz.func75 rfl (by kernel_rfl) 56 rfl fun c => ?_
  (repeat (first | refine gQ (by decide) ?_ | (refine gM (mdL [(2, 1), (6, 1), (8, 1), (12, 2)]) fun K1 hK1 => ?_; simp only [go_sem, ↓reduceIte, reduceCtorEq, nA, nB, nC, nD, nE, nF, hlen, htk, hdk] <;> and_intros <;> first | (apply hK1; clear hK1 K1) | (intros; first | omega | decide | (simp_all <;> omega)) | skip)))
  refine (g_newPart d t h hb).mono ?_
  rintro _ h1 ⟨a, rfl, hR, hS, hn1, hn2, hk1, hk2⟩
  refine hK1 _ ?_; clear hK1 K1
  first | refine gO (by decide) ?_ | (refine gM (mdL [(2, 1), (6, 1), (8, 1), (12, 2)]) fun K1 hK1 => ?_; simp only [go_sem, ↓reduceIte, reduceCtorEq, nA, nB, nC, nD, nE, nF] <;> and_intros <;> first | (apply hK1; clear hK1 K1) | (intros; first | omega | decide | (simp_all <;> omega)) | skip)
  intro o ho
  refine hK1 _ ?_; clear hK1 K1
  refine vRem_nil ?_
  refine awp_ownPtr (cs := [.v (.slice none 0 0), .v (.int .i64 5000)]) o 0 2 (upd_same _ _ _) rfl (fun k hk => ?_)
  simp only [List.set_cons_zero, upd_upd]
  replace hk : h1.T k = none := hk
  replace ho : h1.H o = none := ho
  have hoa : o ∉ idsT a := fun hx => hR.ne.1 o hx ho
  have hka : k ∉ toksT a := fun hx => hR.ne.2 k hx hk
  have hok := passesU_ok d t hv
  (repeat (first | refine gQ (by decide) ?_ | (refine gM (mdL [(2, 1), (6, 1), (8, 1), (12, 2)]) fun K1 hK1 => ?_; simp only [go_sem, ↓reduceIte, reduceCtorEq, nA, nB, nC, nD, nE, nF] <;> and_intros <;> first | (apply hK1; clear hK1 K1) | (intros; first | omega | decide | (simp_all <;> omega)) | skip)))
  refine awp_seq ?_
  refine awp_block ?_
  refine awp_loopC (rl false [2, 1, 1, 3, 50]) 2 (fun g s => ∃ (j : Nat) (h2 : Hp), g + j = 5001 ∧ (passesU d t j).2.length ≤ 5000 ∧ (∀ n, 1 ≤ n → n < j → homeF d t (passesU d t n).1 = false) ∧ RAt XP h2 d t a (passesU d t j).1 ∧ OutAt h2 o k oEx (passesU d t j).2 ∧
    s = ⟨(AV.junk :: AV.junk :: ((.loc 0 0) :: AV.junk :: ((.ptr a.id 0) :: (.ptr o 0) :: (.loc 1 0) :: (jnk 50 [])))), [[.v (.int .i64 0), .v (.slice none 0 0), .v (.int .i64 0)], [.v (.int .i64 j), .v (.slice none 0 0), .v (.int .i64 0)]], h2⟩) 5001 ⟨0, _, by omega, by simp [passesU], fun n h1 h2 => by omega, hR.frame (fun i hi => upd_other _ _ (fun e => hoa (by subst e; exact hi))) (fun c hc => upd_other _ _ (fun e => hka (by subst e; exact hc))), ⟨upd_same _ _ _, upd_same _ _ _⟩, rfl⟩ ?_
  rintro g _ ⟨j, h2, hj, hlj, hnh, hR2, hO2, rfl⟩
  have hj5 : j ≤ 5000 := by have := (hok j).2.2; omega
  (repeat (first | refine gQ (by decide) ?_ | (refine gM (mdL [(2, 1), (6, 1), (8, 1), (12, 2)]) fun K1 hK1 => ?_; simp only [go_sem, ↓reduceIte, reduceCtorEq, nA, nB, nC, nD, nE, nF] <;> and_intros <;> first | (apply hK1; clear hK1 K1) | (intros; first | omega | decide | (simp_all <;> omega)) | skip)))
  refine awp_seq ?_
  refine awp_join (rl false [2, 1, 1, 3, 50]) 2 (fun s => (∀ n, 1 ≤ n → n ≤ j → homeF d t (passesU d t n).1 = false) ∧ s = ⟨(AV.junk :: AV.junk :: ((.loc 0 0) :: AV.junk :: ((.ptr a.id 0) :: (.ptr o 0) :: (.loc 1 0) :: (jnk 50 [])))), [[.v (.int .i64 0), .v (.slice none 0 0), .v (.int .i64 0)], [.v (.int .i64 j), .v (.slice none 0 0), .v (.int .i64 0)]], h2⟩) ?_ ?_
  · by_cases hj0 : j = 0
    · have e0 : ((j : Int) == 0) = true := by simp; omega
      (repeat (first | refine gO (by decide) ?_ | (refine gM (mdL [(2, 1), (6, 1), (8, 1), (12, 2)]) fun K1 hK1 => ?_; simp only [go_sem, ↓reduceIte, reduceCtorEq, nA, nB, nC, nD, nE, nF, e0] <;> and_intros <;> first | (apply hK1; clear hK1 K1) | (intros; first | omega | decide | (simp_all <;> omega)) | skip)))
      refine ⟨.v (.bool true), rfl, hK1 _ ?_⟩; clear hK1 K1
      (repeat (first | refine gO (by decide) ?_ | (refine gM (mdL [(2, 1), (6, 1), (8, 1), (12, 2)]) fun K1 hK1 => ?_; simp only [go_sem, ↓reduceIte, reduceCtorEq, nA, nB, nC, nD, nE, nF, e0] <;> and_intros <;> first | (apply hK1; clear hK1 K1) | (intros; first | omega | decide | (simp_all <;> omega)) | skip)))
      refine awp_cond (t := _) rfl (fun _ => ?_) (fun h => by cases h)
      (repeat (first | refine gO (by decide) ?_ | (refine gM (mdL [(2, 1), (6, 1), (8, 1), (12, 2)]) fun K1 hK1 => ?_; simp only [go_sem, ↓reduceIte, reduceCtorEq, nA, nB, nC, nD, nE, nF] <;> and_intros <;> first | (apply hK1; clear hK1 K1) | (intros; first | omega | decide | (simp_all <;> omega)) | skip)))
      exact ⟨fun n h1 h2 => by omega, rfl⟩
    · have e0 : ((j : Int) == 0) = false := by simp; omega
      (repeat (first | refine gO (by decide) ?_ | (refine gM (mdL [(2, 1), (6, 1), (8, 1), (12, 2)]) fun K1 hK1 => ?_; simp only [go_sem, ↓reduceIte, reduceCtorEq, nA, nB, nC, nD, nE, nF, e0] <;> and_intros <;> first | (apply hK1; clear hK1 K1) | (intros; first | omega | decide | (simp_all <;> omega)) | skip)))
      refine (g_beginsG d t a _ h2 hv hR2 ((hok j).1.mono (by omega))).mono ?_; rintro _ hz ⟨rfl, hh⟩; refine ⟨rfl, hK1 _ ?_⟩; clear hK1 K1; rw [hh]; clear hh hz
      (repeat (first | refine gO (by decide) ?_ | (refine gM (mdL [(2, 1), (6, 1), (8, 1), (12, 2)]) fun K1 hK1 => ?_; simp only [go_sem, ↓reduceIte, reduceCtorEq, nA, nB, nC, nD, nE, nF, e0] <;> and_intros <;> first | (apply hK1; clear hK1 K1) | (intros; first | omega | decide | (simp_all <;> omega)) | skip)))
      cases eh : homeF d t (passesU d t j).1 with
      | true =>
        have hri : RoundIs d t j := ⟨by omega, hlj, eh, hnh⟩
        obtain ⟨r1, r2, r3⟩ := roundS_some hri
        have hlong := passes_long hil j
        have hO20 : h2.H o = some (.cells [.row 2 ((passesU d t j).2.map encStep) (some k), .v (.int .i64 5000)]) := hO2.1
        have hrc : roundC d t = [.v (.int .i64 j), .row 2 ((passesU d t j).2.map encStep) none, .v (.int .i64 ((passesU d t j).2.map (·.2)).sum)] := by rw [roundC, r1, r3]
        rw [hrc, r2]
        refine awp_cond (t := _) rfl (fun h => by cases h) (fun _ => ?_)
        generalize (passesU d t j).2 = xs at *
        (repeat (first | refine gQ (by decide) ?_ | (refine gM (mdL [(2, 1), (6, 1), (8, 1), (12, 2)]) fun K1 hK1 => ?_; simp only [go_sem, ↓reduceIte, reduceCtorEq, nA, nB, nC, nD, nE, nF, hO20] <;> and_intros <;> first | (apply hK1; clear hK1 K1) | (intros; first | omega | decide | (simp_all <;> omega)) | skip)))
        refine awp_seq ?_
        (repeat (first | refine gO (by decide) ?_ | (refine gM (mdL [(2, 1), (6, 1), (8, 1), (12, 2)]) fun K1 hK1 => ?_; simp only [go_sem, ↓reduceIte, reduceCtorEq, nA, nB, nC, nD, nE, nF] <;> and_intros <;> first | (apply hK1; clear hK1 K1) | (intros; first | omega | decide | (simp_all <;> omega)) | skip)))
        refine awp_loopC (rl false [2, 1, 3, 1, 36, 3, 11]) 2 (fun g s => ∃ m : Nat, g + m = xs.length ∧ s = ⟨(AV.junk :: AV.junk :: ((.loc 0 0) :: (jnk 3 ((.loc 1 0) :: (jnk 36 ((.row 2 (xs.map encStep) (some k)) :: (.v (.int .i64 xs.length)) :: (.v (.int .i64 m)) :: (jnk 11 []))))))),
          [[.v (.int .i64 0), .v (.slice none 0 0), .v (.int .i64 0)], [.v (.int .i64 j), .row 2 (xs.map encStep) (some k), .v (.int .i64 ((xs.map (·.2)).take m).sum)]], h2⟩) xs.length ⟨0, by omega, rfl⟩ ?_
        rintro g2 _ ⟨m, hm, rfl⟩
        have hsb : 0 ≤ ((xs.map (·.2)).take m).sum ∧ ((xs.map (·.2)).take m).sum ≤ 5000 * 3600000 := by
          have h9 := sum_bdS (xs.take m) fun x hx => hlong x (List.mem_of_mem_take hx)
          rw [← List.map_take]
          have h10 : ((xs.take m).length : Int) ≤ 5000 := by simp; omega
          omega
        (repeat (first | refine gO (by decide) ?_ | (refine gM (mdL [(2, 1), (6, 1), (8, 1), (12, 2)]) fun K1 hK1 => ?_; simp only [go_sem, ↓reduceIte, reduceCtorEq, nA, nB, nC, nD, nE, nF] <;> and_intros <;> first | (apply hK1; clear hK1 K1) | (intros; first | omega | decide | (simp_all <;> omega)) | skip)))
        refine awp_cond (t := _) rfl (fun h9 => ?_) (fun h9 => ?_)
        · simp only [decide_eq_true_eq] at h9
          have hmx : m < xs.length := by omega
          have hgx : (xs.map encStep).getD m [] = encStep (xs.getD m default) := getD_enc encStep xs m default hmx
          have hxb := hlong _ (getD_mem' xs m default hmx)
          have e9 : ((xs.map (·.2)).take (m + 1)).sum = ((xs.map (·.2)).take m).sum + (xs.getD m default).2 := by
            rw [sum_take_succ _ _ (by simpa using hmx)]
            congr 1
            rw [List.getD_eq_getElem?_getD, List.getD_eq_getElem?_getD, List.getElem?_map, List.getElem?_eq_getElem hmx]; rfl
          generalize xs.getD m default = y at hgx hxb e9
          (repeat (first | refine gO (by decide) ?_ | (refine gM (mdL [(2, 1), (6, 1), (8, 1), (12, 2)]) fun K1 hK1 => ?_; simp only [go_sem, ↓reduceIte, reduceCtorEq, nA, nB, nC, nD, nE, nF, Int.toNat_natCast, hgx, encStep] <;> and_intros <;> first | (apply hK1; clear hK1 K1) | (intros; first | omega | decide | (simp_all <;> omega)) | skip)))
          refine ⟨g2 - 1, by omega, m + 1, by omega, ?_⟩
          rw [e9]; rfl
        · simp only [decide_eq_false_iff_not] at h9
          have hmx : m = xs.length := by omega
          rw [List.take_of_length_le (by simp; omega)] at hsb ⊢
          (repeat (first | refine gO (by decide) ?_ | (refine gM (mdL [(2, 1), (6, 1), (8, 1), (12, 2)]) fun K1 hK1 => ?_; simp only [go_sem, ↓reduceIte, reduceCtorEq, nA, nB, nC, nD, nE, nF] <;> and_intros <;> first | (apply hK1; clear hK1 K1) | (intros; first | omega | decide | (simp_all <;> omega)) | skip)))
          simp only [Tryz.results75, go_sem, ↓reduceIte, reduceCtorEq, nA, nB, nC, nD, nE, nF]
          refine ⟨_, _, Weak.tup1 (Weak.agg (.cons (Weak.refl _) (.cons (Weak.row _ _ _) (.cons (Weak.refl _) .nil)))) (Weak.refl _), Hp.le.refl _, rfl⟩
      | false =>
        refine awp_cond (t := _) rfl (fun _ => ?_) (fun h => by cases h)
        (repeat (first | refine gO (by decide) ?_ | (refine gM (mdL [(2, 1), (6, 1), (8, 1), (12, 2)]) fun K1 hK1 => ?_; simp only [go_sem, ↓reduceIte, reduceCtorEq, nA, nB, nC, nD, nE, nF] <;> and_intros <;> first | (apply hK1; clear hK1 K1) | (intros; first | omega | decide | (simp_all <;> omega)) | skip)))
        exact ⟨fun n h1 h2 => by
          by_cases e : n = j
          · rw [e]; exact eh
          · exact hnh n h1 (by omega), rfl⟩
  · rintro _ ⟨hnh2, rfl⟩
    (repeat (first | refine gO (by decide) ?_ | (refine gM (mdL [(2, 1), (6, 1), (8, 1), (12, 2)]) fun K1 hK1 => ?_; simp only [go_sem, ↓reduceIte, reduceCtorEq, nA, nB, nC, nD, nE, nF] <;> and_intros <;> first | (apply hK1; clear hK1 K1) | (intros; first | omega | decide | (simp_all <;> omega)) | skip)))
    refine (g_passP d t a _ h2 o k _ hv hR2 hS (hok j).1 hO2 hoa (by omega)).mono ?_
    rintro r h6 ⟨rfl, s2, out2, hR6, hO6, _, q1, q2, q3⟩
    have e5 := passesU_len d t j
    refine hK1 _ ?_; clear hK1 K1
    (repeat (first | refine gO (by decide) ?_ | (refine gM (mdL [(2, 1), (6, 1), (8, 1), (12, 2)]) fun K1 hK1 => ?_; simp only [go_sem, ↓reduceIte, reduceCtorEq, nA, nB, nC, nD, nE, nF] <;> and_intros <;> first | (apply hK1; clear hK1 K1) | (intros; first | omega | decide | (simp_all <;> omega)) | skip)))
    refine (g_full28 o k h6 _ hO6).mono ?_; rintro _ hz ⟨rfl, hh⟩; apply hK1; clear hK1 K1; rw [hh]; clear hh hz
    by_cases hl6 : (passesU d t (j + 1)).2.length ≤ 5000
    · obtain ⟨rfl, rfl⟩ := q2 hlj (by omega)
      have hj6 : j + 1 ≤ 5000 := by have := (hok (j + 1)).2.2; omega
      have hnf : decide ((5000 : Int) < ((passesU d t j).2 ++ (passU d t (passesU d t j).1).2).length) = false := by simp only [decide_eq_false_iff_not, List.length_append]; omega
      have hnf2 : decide ((5000 : Int) < (j : Int) + 1) = false := by simp only [decide_eq_false_iff_not]; omega
      (repeat (first | refine gO (by decide) ?_ | (refine gM (mdL [(2, 1), (6, 1), (8, 1), (12, 2)]) fun K1 hK1 => ?_; simp only [go_sem, ↓reduceIte, reduceCtorEq, nA, nB, nC, nD, nE, nF, hnf, hnf2] <;> and_intros <;> first | (apply hK1; clear hK1 K1) | (intros; first | omega | decide | (simp_all <;> omega)) | skip)))
      refine awp_cond (t := _) rfl (fun h => by cases h) (fun _ => ?_)
      (repeat (first | refine gO (by decide) ?_ | (refine gM (mdL [(2, 1), (6, 1), (8, 1), (12, 2)]) fun K1 hK1 => ?_; simp only [go_sem, ↓reduceIte, reduceCtorEq, nA, nB, nC, nD, nE, nF] <;> and_intros <;> first | (apply hK1; clear hK1 K1) | (intros; first | omega | decide | (simp_all <;> omega)) | skip)))
      exact ⟨g - 1, by omega, j + 1, h6, by omega, hl6, fun n h1 h2 => hnh2 n h1 (by omega), hR6, hO6, rfl⟩
    · obtain ⟨z1, _⟩ := q3 hlj (by omega)
      have hr0 : roundN d t = 0 := round_long (j := j) (by omega) hnh2
      have hnf : decide ((5000 : Int) < out2.length) = true := by simp only [decide_eq_true_eq]; omega
      rw [roundC_none hr0, (roundS_none hr0).2]
      (repeat (first | refine gO (by decide) ?_ | (refine gM (mdL [(2, 1), (6, 1), (8, 1), (12, 2)]) fun K1 hK1 => ?_; simp only [go_sem, ↓reduceIte, reduceCtorEq, nA, nB, nC, nD, nE, nF, hnf] <;> and_intros <;> first | (apply hK1; clear hK1 K1) | (intros; first | omega | decide | (simp_all <;> omega)) | skip)))
      refine awp_cond (t := _) rfl (fun _ => ?_) (fun h => by cases h)
      (repeat (first | refine gO (by decide) ?_ | (refine gM (mdL [(2, 1), (6, 1), (8, 1), (12, 2)]) fun K1 hK1 => ?_; simp only [go_sem, ↓reduceIte, reduceCtorEq, nA, nB, nC, nD, nE, nF] <;> and_intros <;> first | (apply hK1; clear hK1 K1) | (intros; first | omega | decide | (simp_all <;> omega)) | skip)))
      simp only [Tryz.results75, go_sem, ↓reduceIte, reduceCtorEq, nA, nB, nC, nD, nE, nF]
      refine ⟨_, _, Weak.tup1 (Weak.agg (.cons (Weak.refl _) (.cons (Weak.nil 2 0 0 ⟨rfl, rfl⟩) (.cons (Weak.refl _) .nil)))) (Weak.refl _), Hp.le.refl _, rfl⟩
theorem g_roundR (d : Nat) (t : LT) (h : Hp) (hb : KC d t) (hv : VL d t) : ACalls Tryz.prog 76 [.agg (encL t)] h (fun r _ => r = .tup [.v (.int .i64 (roundN d t : Nat)), .row 2 ((roundS d t).map encStep) none, .v (.int .i64 (roundE d t))]) := by
  have hlen := encL_len t
  have htk : List.take 6 (encL t) = encL t := List.take_of_length_le (Nat.le_of_eq hlen)
  have hdk : List.drop 6 (encL t) = [] := List.drop_of_length_le (Nat.le_of_eq hlen)
  refine gE Tryz.func76 rfl (by kernel_rfl) 20 rfl fun c => ?_
  (repeat (first | refine gQ (by decide) ?_ | ((first | refine gM (mdL [(5, 2)]) ?_ | (with_reducible refine wM ?_ ?_) | ((with_reducible refine xS ?_); refine uD 9 (mdL [(5, 2)]) pSRoundG_76_9E pSRoundG_76_9P 21 rfl (by kernel_rfl) ?_)) <;> ((try with_reducible intro K1 hK1); simp only [go_sem, ↓reduceIte, reduceCtorEq, nA, nB, nC, nD, nE, nF, hlen, htk, hdk] <;> and_intros <;> first | (apply hK1; clear hK1 K1) | (intros; first | omega | decide | (simp_all <;> omega)) | skip))))
  intro o ho
  refine hK1 _ ?_; clear hK1 K1
  refine vRem_nil ?_
  refine awp_ownPtr (cs := [.v (.slice none 0 0)]) o 0 2 (upd_same _ _ _) rfl (fun k hk => ?_)
  simp only [List.set_cons_zero, upd_upd]
  replace hk : h.T k = none := hk
  (repeat (first | refine gQ (by decide) ?_ | ((first | refine gM (mdL [(5, 2)]) ?_ | (with_reducible refine wM ?_ ?_) | ((with_reducible refine xS ?_); refine uD 9 (mdL [(5, 2)]) pSRoundG_76_9E pSRoundG_76_9P 21 rfl (by kernel_rfl) ?_)) <;> ((try with_reducible intro K1 hK1); simp only [go_sem, ↓reduceIte, reduceCtorEq, nA, nB, nC, nD, nE, nF, hlen, htk, hdk] <;> and_intros <;> first | (apply hK1; clear hK1 K1) | (intros; first | omega | decide | (simp_all <;> omega)) | skip))))
  refine (g_newRunner d t _ hb).mono ?_
  rintro _ h1 ⟨a, rfl, hR, hS, hn1, hn2, hk1, hk2⟩
  refine hK1 _ ?_; clear hK1 K1
  have hoa : o ∉ idsT a := fun hx => by have := hn1 o hx; rw [show (_ : Hp).H o = _ from upd_same h.H o _] at this; cases this
  have hH1 : h1.H o = some (.cells [.row 2 [] (some k)]) := (hk1 o (by rw [show (_ : Hp).H o = _ from upd_same h.H o _]; simp)).trans (upd_same _ _ _)
  have hT1 : h1.T k = some (.tail 0) := (hk2 k (by rw [show (_ : Hp).T k = _ from upd_same h.T k _]; simp)).trans (upd_same _ _ _)
  have hO1 : OutAt h1 o k [] [] := ⟨hH1, hT1⟩
  have hok := passesU_ok d t hv
  (repeat (first | refine gQ (by decide) ?_ | ((first | refine gM (mdL [(5, 2)]) ?_ | (with_reducible refine wM ?_ ?_) | ((with_reducible refine xS ?_); refine uD 9 (mdL [(5, 2)]) pSRoundG_76_9E pSRoundG_76_9P 21 rfl (by kernel_rfl) ?_)) <;> ((try with_reducible intro K1 hK1); simp only [go_sem, ↓reduceIte, reduceCtorEq, nA, nB, nC, nD, nE, nF] <;> and_intros <;> first | (apply hK1; clear hK1 K1) | (intros; first | omega | decide | (simp_all <;> omega)) | skip))))
  refine awp_seq ?_
  (repeat (first | refine gO (by decide) ?_ | ((first | refine gM (mdL [(5, 2)]) ?_ | (with_reducible refine wM ?_ ?_) | ((with_reducible refine xS ?_); refine uD 9 (mdL [(5, 2)]) pSRoundG_76_9E pSRoundG_76_9P 21 rfl (by kernel_rfl) ?_)) <;> ((try with_reducible intro K1 hK1); simp only [go_sem, ↓reduceIte, reduceCtorEq, nA, nB, nC, nD, nE, nF] <;> and_intros <;> first | (apply hK1; clear hK1 K1) | (intros; first | omega | decide | (simp_all <;> omega)) | skip))))
  refine awp_loopC (rl false [5, 3, 13]) 0 (fun g s => ∃ (j : Nat) (h2 : Hp), g + j = 5000 ∧ (passesU d t j).2.length ≤ 5000 ∧ (∀ n, 1 ≤ n → n ≤ j → homeF d t (passesU d t n).1 = false) ∧ RAt XR h2 d t a (passesU d t j).1 ∧ OutAt h2 o k [] (passesU d t j).2 ∧
    s = ⟨((jnk 5 ((.ptr o 0) :: (.ptr a.id 0) :: (.v (.int .i64 ((j : Int) + 1))) :: (jnk 13 [])))), [], h2⟩) 5000 ⟨0, h1, by omega, by simp [passesU], fun n h1 h2 => by omega, hR, hO1, rfl⟩ ?_
  rintro g _ ⟨j, h2, hj, hlj, hnh, hR2, hO2, rfl⟩
  have hj5 : j ≤ 5000 := by omega
  have e5 := passesU_len d t j
  (repeat (first | refine gO (by decide) ?_ | ((first | refine gM (mdL [(5, 2)]) ?_ | (with_reducible refine wM ?_ ?_) | ((with_reducible refine xS ?_); refine uD 9 (mdL [(5, 2)]) pSRoundG_76_9E pSRoundG_76_9P 21 rfl (by kernel_rfl) ?_)) <;> ((try with_reducible intro K1 hK1); simp only [go_sem, ↓reduceIte, reduceCtorEq, nA, nB, nC, nD, nE, nF] <;> and_intros <;> first | (apply hK1; clear hK1 K1) | (intros; first | omega | decide | (simp_all <;> omega)) | skip))))
  refine awp_cond (t := _) rfl (fun h3 => ?_) (fun h3 => ?_)
  · simp only [decide_eq_true_eq] at h3
    (repeat (first | refine gO (by decide) ?_ | ((first | refine gM (mdL [(5, 2)]) ?_ | (with_reducible refine wM ?_ ?_) | ((with_reducible refine xS ?_); refine uD 9 (mdL [(5, 2)]) pSRoundG_76_9E pSRoundG_76_9P 21 rfl (by kernel_rfl) ?_)) <;> ((try with_reducible intro K1 hK1); simp only [go_sem, ↓reduceIte, reduceCtorEq, nA, nB, nC, nD, nE, nF] <;> and_intros <;> first | (apply hK1; clear hK1 K1) | (intros; first | omega | decide | (simp_all <;> omega)) | skip))))
    refine (g_passR d t a _ h2 o k _ hv hR2 hS (hok j).1 hO2 hoa hlj).mono ?_
    intro r h4 hres
    unfold PRes at hres
    split at hres
    · rename_i hle
      obtain ⟨rfl, hR4, hO4, _⟩ := hres
      have hl6 : (passesU d t (j + 1)).2.length ≤ 5000 := by omega
      refine hK1 _ ?_; clear hK1 K1
      (repeat (first | refine gO (by decide) ?_ | ((first | refine gM (mdL [(5, 2)]) ?_ | (with_reducible refine wM ?_ ?_) | ((with_reducible refine xS ?_); refine uD 9 (mdL [(5, 2)]) pSRoundG_76_9E pSRoundG_76_9P 21 rfl (by kernel_rfl) ?_)) <;> ((try with_reducible intro K1 hK1); simp only [go_sem, ↓reduceIte, reduceCtorEq, nA, nB, nC, nD, nE, nF] <;> and_intros <;> first | (apply hK1; clear hK1 K1) | (intros; first | omega | decide | (simp_all <;> omega)) | skip))))
      refine awp_cond (t := _) rfl (fun h => by cases h) (fun _ => ?_)
      (repeat (first | refine gO (by decide) ?_ | ((first | refine gM (mdL [(5, 2)]) ?_ | (with_reducible refine wM ?_ ?_) | ((with_reducible refine xS ?_); refine uD 9 (mdL [(5, 2)]) pSRoundG_76_9E pSRoundG_76_9P 21 rfl (by kernel_rfl) ?_)) <;> ((try with_reducible intro K1 hK1); simp only [go_sem, ↓reduceIte, reduceCtorEq, nA, nB, nC, nD, nE, nF] <;> and_intros <;> first | (apply hK1; clear hK1 K1) | (intros; first | omega | decide | (simp_all <;> omega)) | skip))))
      refine (g_homeG d t a (passesU d t (j + 1)).1 h4 hv hR4 ((hok (j + 1)).1.mono (by omega))).mono ?_; rintro _ hz ⟨rfl, hh⟩; apply hK1; clear hK1 K1; rw [hh]; clear hh hz
      (repeat (first | refine gO (by decide) ?_ | ((first | refine gM (mdL [(5, 2)]) ?_ | (with_reducible refine wM ?_ ?_) | ((with_reducible refine xS ?_); refine uD 9 (mdL [(5, 2)]) pSRoundG_76_9E pSRoundG_76_9P 21 rfl (by kernel_rfl) ?_)) <;> ((try with_reducible intro K1 hK1); simp only [go_sem, ↓reduceIte, reduceCtorEq, nA, nB, nC, nD, nE, nF] <;> and_intros <;> first | (apply hK1; clear hK1 K1) | (intros; first | omega | decide | (simp_all <;> omega)) | skip))))
      cases eh : homeF d t (passesU d t (j + 1)).1 with
      | true =>
        have hri : RoundIs d t (j + 1) := ⟨by omega, hl6, eh, fun n h1 h2 => hnh n h1 (by omega)⟩
        obtain ⟨r1, r2, r3⟩ := roundS_some hri
        have hO40 : h4.H o = some (.cells [.row 2 ((passesU d t (j + 1)).2.map encStep) (some k)]) := hO4.1
        rw [r1, r2, r3]
        refine awp_cond (t := _) rfl (fun _ => ?_) (fun h => by cases h)
        (repeat (first | refine gO (by decide) ?_ | ((first | refine gM (mdL [(5, 2)]) ?_ | (with_reducible refine wM ?_ ?_) | ((with_reducible refine xS ?_); refine uD 9 (mdL [(5, 2)]) pSRoundG_76_9E pSRoundG_76_9P 21 rfl (by kernel_rfl) ?_)) <;> ((try with_reducible intro K1 hK1); simp only [go_sem, ↓reduceIte, reduceCtorEq, nA, nB, nC, nD, nE, nF, hO40] <;> and_intros <;> first | (apply hK1; clear hK1 K1) | (intros; first | omega | decide | (simp_all <;> omega)) | skip))))
        simp only [Tryz.results76, go_sem, ↓reduceIte, reduceCtorEq, nA, nB, nC, nD, nE, nF]
        exact ⟨_, _, Weak.tup3 (Weak.refl _) (Weak.row _ _ _) (Weak.refl _), Hp.le.refl _, rfl⟩
      | false =>
        refine awp_cond (t := _) rfl (fun h => by cases h) (fun _ => ?_)
        (repeat (first | refine gO (by decide) ?_ | ((first | refine gM (mdL [(5, 2)]) ?_ | (with_reducible refine wM ?_ ?_) | ((with_reducible refine xS ?_); refine uD 9 (mdL [(5, 2)]) pSRoundG_76_9E pSRoundG_76_9P 21 rfl (by kernel_rfl) ?_)) <;> ((try with_reducible intro K1 hK1); simp only [go_sem, ↓reduceIte, reduceCtorEq, nA, nB, nC, nD, nE, nF] <;> and_intros <;> first | (apply hK1; clear hK1 K1) | (intros; first | omega | decide | (simp_all <;> omega)) | skip))))
        exact ⟨g - 1, by omega, j + 1, h4, by omega, hl6, fun n h1 h2 => by
          by_cases e : n = j + 1
          · rw [e]; exact eh
          · exact hnh n h1 (by omega), hR4, hO4, rfl⟩
    · rename_i hle
      subst hres
      have hr0 : roundN d t = 0 := round_long (j := j) (by omega) hnh
      refine hK1 _ ?_; clear hK1 K1
      rw [(roundS_none hr0).1, (roundS_none hr0).2, hr0]
      (repeat (first | refine gO (by decide) ?_ | ((first | refine gM (mdL [(5, 2)]) ?_ | (with_reducible refine wM ?_ ?_) | ((with_reducible refine xS ?_); refine uD 9 (mdL [(5, 2)]) pSRoundG_76_9E pSRoundG_76_9P 21 rfl (by kernel_rfl) ?_)) <;> ((try with_reducible intro K1 hK1); simp only [go_sem, ↓reduceIte, reduceCtorEq, nA, nB, nC, nD, nE, nF] <;> and_intros <;> first | (apply hK1; clear hK1 K1) | (intros; first | omega | decide | (simp_all <;> omega)) | skip))))
      refine awp_cond (t := _) rfl (fun _ => ?_) (fun h => by cases h)
      (repeat (first | refine gO (by decide) ?_ | ((first | refine gM (mdL [(5, 2)]) ?_ | (with_reducible refine wM ?_ ?_) | ((with_reducible refine xS ?_); refine uD 9 (mdL [(5, 2)]) pSRoundG_76_9E pSRoundG_76_9P 21 rfl (by kernel_rfl) ?_)) <;> ((try with_reducible intro K1 hK1); simp only [go_sem, ↓reduceIte, reduceCtorEq, nA, nB, nC, nD, nE, nF] <;> and_intros <;> first | (apply hK1; clear hK1 K1) | (intros; first | omega | decide | (simp_all <;> omega)) | skip))))
      simp only [Tryz.results76, go_sem, ↓reduceIte, reduceCtorEq, nA, nB, nC, nD, nE, nF]
      exact ⟨_, _, Weak.tup3 (Weak.refl _) (Weak.nil 2 0 0 ⟨rfl, rfl⟩) (Weak.refl _), Hp.le.refl _, rfl⟩
  · simp only [decide_eq_false_iff_not] at h3
    have hj9 : j = 5000 := by omega
    have hr0 : roundN d t = 0 := round_long (j := j) (by have := (hok (j + 1)).2.2; omega) hnh
    rw [(roundS_none hr0).1, (roundS_none hr0).2, hr0]
    (repeat (first | refine gO (by decide) ?_ | ((first | refine gM (mdL [(5, 2)]) ?_ | (with_reducible refine wM ?_ ?_) | ((with_reducible refine xS ?_); refine uD 9 (mdL [(5, 2)]) pSRoundG_76_9E pSRoundG_76_9P 21 rfl (by kernel_rfl) ?_)) <;> ((try with_reducible intro K1 hK1); simp only [go_sem, ↓reduceIte, reduceCtorEq, nA, nB, nC, nD, nE, nF] <;> and_intros <;> first | (apply hK1; clear hK1 K1) | (intros; first | omega | decide | (simp_all <;> omega)) | skip))))
    simp only [Tryz.results76, go_sem, ↓reduceIte, reduceCtorEq, nA, nB, nC, nD, nE, nF]
    exact ⟨_, _, Weak.tup3 (Weak.refl _) (Weak.nil 2 0 0 ⟨rfl, rfl⟩) (Weak.refl _), Hp.le.refl _, rfl⟩
end Go.Proofs.YtoleejecmefogaaGreatDoor
