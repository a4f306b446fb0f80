/- What is wrong with rights, in trees. -/
import Derived.Test.YtmghfolmgmhabaaGreatDoorM1
import Derived.Test.YtmghfolmgmhabaaGreatDoorAvRun
import Derived.Test.YtmghfolmgmhabaaGreatDoorAvFz
import Derived.Lib.SlicesCompact
import Derived.Test.YtmghfolmgmhabaaGreatDoorShelf
import Derived.Lib.OwnBridge
import Derived.Test.YtmghfolmgmhabaaGreatDoorAvApp2
import Derived.Test.YtmghfolmgmhabaaGreatDoorAvOld
import Derived.Test.YtmghfolmgmhabaaGreatDoorAvMap
namespace Go.Proofs.YtmghfolmgmhabaaGreatDoor
open Go
set_option linter.unusedVariables false
set_option linter.unusedSimpArgs false
open Nat renaming reduceAdd → nA, reduceSub → nB, reduceMul → nC, reduceLT → nD, reduceLeDiff → nE, reduceEqDiff → nF, reduceMod → nG, reduceDiv → nH, reducePow → nI
set_option maxRecDepth 100000
set_option maxHeartbeats 8000000
abbrev zM20 : Option Tmp → Nat := mdL [(4, 1)]
abbrev zM21 : Option Tmp → Nat := mdL [(11, 1)]
abbrev zM22 : Option Tmp → Nat := mdL []
abbrev zM23 : Option Tmp → Nat := mdL [(2, 1), (6, 1)]
abbrev zM24 : Option Tmp → Nat := mdL [(11, 1), (21, 1)]
abbrev zM25 : Option Tmp → Nat := mdL [(12, 1), (14, 1), (19, 1)]
attribute [go_sem] zM20 zM21 zM22 zM23 zM24 zM25
def wndF (a b : Int) : Int := if 0 ≤ a ∧ a < b ∧ b ≤ 345686400000 then 0 else 1
theorem wndF_of {a b : Int} {x1 x2 x3 : Bool} (e1 : decide (0 ≤ a) = x1) (e2 : decide (a < b) = x2) (e3 : decide (b ≤ 345686400000) = x3) : wndF a b = bif (x1 && (x2 && x3)) then 0 else 1 := by
 subst e1; subst e2; subst e3
 unfold wndF
 by_cases h1 : 0 ≤ a <;> by_cases h2 : a < b <;> by_cases h3 : b ≤ 345686400000 <;> simp [h1, h2, h3]
def rightF (r : Rt) : Int := if keyB r.1 = false then 5 else if riseF r.2.1 none = 0 then wndF r.2.2.1 r.2.2.2.1 else riseF r.2.1 none
def rightsF : List Rt → Int
 | [] => 0
 | r :: l => if rightF r = 0 then rightsF l else rightF r
theorem g_isWindow (a b : Int) (h : Hp) : ACalls Tryz.prog 68 [.agg [.v (.int .i64 a), .v (.int .i64 b)]] h (fun r h' => r = .v (.bool (decide (wndF a b = 0))) ∧ h' = h) := by
 obtain ⟨x1, e1⟩ : ∃ x, decide (0 ≤ a) = x := ⟨_, rfl⟩
 obtain ⟨x2, e2⟩ : ∃ x, decide (a < b) = x := ⟨_, rfl⟩
 obtain ⟨x3, e3⟩ : ∃ x, decide (b ≤ 345686400000) = x := ⟨_, rfl⟩
 have hw := wndF_of e1 e2 e3
 refine gE Tryz.func68 rfl (by kernel_rfl) 17 rfl fun c => ?_
 cases x1 <;> cases x2 <;> cases x3
 all_goals
  (repeat (first | refine gO rfl ?_ | (refine gR fun K1 hK1 => ?_; simp only [go_sem, ↓reduceIte, reduceCtorEq, nA, nB, nC, nD, nE, nF, e1, e2, e3] <;> and_intros <;> first | (apply hK1; clear hK1 K1) | (intros; first | omega | decide) | skip)))
  simp only [Tryz.results68, go_sem, ↓reduceIte, reduceCtorEq, nA, nB, nC, nD, nE, nF]
  exact ⟨_, _, Weak.refl _, Hp.le.refl _, by rw [hw]; rfl, rfl⟩
theorem g_checkRights (rs : List Rt) (kk : Option Nat) (hl : rs.length ≤ 500) (hok : ∀ r ∈ rs, RtOk r) (h : Hp) :
  ACalls Tryz.prog 14 [.row 5 (rs.map encRt) kk] h (fun r h' => r = .v (.int .i64 (rightsF rs)) ∧ h' = h) := by
 have hml : (rs.map encRt).length = rs.length := List.length_map _
 refine gE Tryz.func14 rfl (by kernel_rfl) 29 rfl fun c => ?_
 (repeat (first | refine gO rfl ?_ | (refine gM zM20 fun K1 hK1 => ?_; simp only [go_sem, ↓reduceIte, reduceCtorEq, nA, nB, nC, nD, nE, nF, hml] <;> and_intros <;> first | (apply hK1; clear hK1 K1) | (intros; first | omega | decide) | skip)))
 refine awp_cond (t := _) rfl (fun h5 => absurd (of_decide_eq_true h5) (by omega)) (fun _ => ?_)
 (repeat (first | refine gO rfl ?_ | (refine gM zM20 fun K1 hK1 => ?_; simp only [go_sem, ↓reduceIte, reduceCtorEq, nA, nB, nC, nD, nE, nF, hml] <;> and_intros <;> first | (apply hK1; clear hK1 K1) | (intros; first | omega | decide) | skip)))
 refine awp_loopC (rl false [9, 3, 18]) 0 (fun g s => ∃ (j : Nat), g + j = rs.length ∧ rightsF (rs.drop j) = rightsF rs ∧
  s = ⟨((jnk 9 ((.row 5 (rs.map encRt) kk) :: (.v (.int .i64 rs.length)) :: (.v (.int .i64 j)) :: (jnk 18 [])))), [], h⟩) rs.length ⟨0, by omega, rfl, rfl⟩ ?_
 rintro g _ ⟨j, hj, hinv, rfl⟩
 (repeat (first | refine gO rfl ?_ | (refine gM zM20 fun K1 hK1 => ?_; simp only [go_sem, ↓reduceIte, reduceCtorEq, nA, nB, nC, nD, nE, nF] <;> and_intros <;> first | (apply hK1; clear hK1 K1) | (intros; first | omega | decide) | skip)))
 refine awp_cond (t := _) rfl (fun h5 => ?_) (fun h5 => ?_)
 ·simp only [decide_eq_true_eq] at h5
  have hjl : j < rs.length := by omega
  have gx : (rs.map encRt).getD j [] = encRt rs[j] := by rw [List.getD_eq_getElem?_getD, List.getElem?_map, List.getElem?_eq_getElem hjl]; rfl
  have hro := hok _ (List.getElem_mem hjl)
  rw [List.drop_eq_getElem_cons hjl, rightsF] at hinv
  generalize rs[j] = r at *
  obtain ⟨it, tg, fr, t2, bb⟩ := r
  rw [show encRt (it, tg, fr, t2, bb) = [.v (.string it), .row 1 (tg.map encS) none, .v (.int .i64 fr), .v (.int .i64 t2), .v (.bool bb)] from rfl] at gx
  obtain ⟨hs1, ⟨hs2, hs3⟩, hs4, hs5⟩ := hro
  simp only at hs1 hs2 hs3 hs4 hs5
  have hK := a_isKey it (by omega) h
  have hT := g_tagsF tg none (by omega) (fun s hs => by have := hs3 s hs; omega) h
  have hrf : rightF (it, tg, fr, t2, bb) = if keyB it = false then 5 else if riseF tg none = 0 then wndF fr t2 else riseF tg none := rfl
  (repeat (first | refine gO rfl ?_ | (refine gM zM20 fun K1 hK1 => ?_; simp only [go_sem, ↓reduceIte, reduceCtorEq, nA, nB, nC, nD, nE, nF, hml, Int.toNat_natCast, gx] <;> and_intros <;> first | (apply hK1; clear hK1 K1) | (intros; first | omega | decide) | skip)))
  refine hK.mono ?_; rintro _ hz ⟨rfl, hh⟩; apply hK1; clear hK1 K1; rw [hh]; clear hh hz
  cases hk : keyB it with
  | false =>
   rw [hk, if_pos rfl] at hrf
   (repeat (first | refine gO rfl ?_ | (refine gM zM20 fun K1 hK1 => ?_; simp only [go_sem, ↓reduceIte, reduceCtorEq, nA, nB, nC, nD, nE, nF, hk, Bool.not_false] <;> and_intros <;> first | (apply hK1; clear hK1 K1) | (intros; first | omega | decide) | skip)))
   refine awp_cond (t := _) rfl (fun _ => ?_) (fun h6 => by cases h6)
   (repeat (first | refine gO rfl ?_ | (refine gM zM20 fun K1 hK1 => ?_; simp only [go_sem, ↓reduceIte, reduceCtorEq, nA, nB, nC, nD, nE, nF] <;> and_intros <;> first | (apply hK1; clear hK1 K1) | (intros; first | omega | decide) | skip)))
   simp only [Tryz.results14, go_sem, ↓reduceIte, reduceCtorEq, nA, nB, nC, nD, nE, nF]
   refine ⟨_, _, Weak.refl _, Hp.le.refl _, ?_, rfl⟩
   rw [hrf, if_neg (by decide)] at hinv
   rw [← hinv]
  | true =>
   rw [hk, if_neg (by decide)] at hrf
   (repeat (first | refine gO rfl ?_ | (refine gM zM20 fun K1 hK1 => ?_; simp only [go_sem, ↓reduceIte, reduceCtorEq, nA, nB, nC, nD, nE, nF, hk, Bool.not_true] <;> and_intros <;> first | (apply hK1; clear hK1 K1) | (intros; first | omega | decide) | skip)))
   refine awp_cond (t := _) rfl (fun h6 => by cases h6) (fun _ => ?_)
   (repeat (first | refine gO rfl ?_ | (refine gM zM20 fun K1 hK1 => ?_; simp only [go_sem, ↓reduceIte, reduceCtorEq, nA, nB, nC, nD, nE, nF] <;> and_intros <;> first | (apply hK1; clear hK1 K1) | (intros; first | omega | decide) | skip)))
   refine hT.mono ?_; rintro _ hz ⟨rfl, hh⟩; apply hK1; clear hK1 K1; rw [hh]; clear hh hz
   (repeat (first | refine gO rfl ?_ | (refine gM zM20 fun K1 hK1 => ?_; simp only [go_sem, ↓reduceIte, reduceCtorEq, nA, nB, nC, nD, nE, nF] <;> and_intros <;> first | (apply hK1; clear hK1 K1) | (intros; first | omega | decide) | skip)))
   by_cases hz : riseF tg none = 0
   ·rw [if_pos hz] at hrf
    refine awp_cond (t := _) rfl (fun h6 => by rw [hz] at h6; cases h6) (fun _ => ?_)
    obtain ⟨x1, e1⟩ : ∃ x, decide (0 ≤ fr) = x := ⟨_, rfl⟩
    obtain ⟨x2, e2⟩ : ∃ x, decide (fr < t2) = x := ⟨_, rfl⟩
    obtain ⟨x3, e3⟩ : ∃ x, decide (t2 ≤ 345686400000) = x := ⟨_, rfl⟩
    have n1 : decide (fr < 0) = !x1 := by rw [← e1, ← decide_not]; exact decide_eq_decide.2 (by omega)
    have n2 : decide (t2 ≤ fr) = !x2 := by rw [← e2, ← decide_not]; exact decide_eq_decide.2 (by omega)
    have n3 : decide (345686400000 < t2) = !x3 := by rw [← e3, ← decide_not]; exact decide_eq_decide.2 (by omega)
    have hw := wndF_of e1 e2 e3
    clear e1 e2 e3
    cases x1 <;> cases x2 <;> cases x3
    all_goals
     simp only [Bool.and_true, Bool.and_false, Bool.false_and, Bool.and_self, cond_true, cond_false] at hw
     (repeat (first | refine gO rfl ?_ | (refine gM zM20 fun K1 hK1 => ?_; simp only [go_sem, ↓reduceIte, reduceCtorEq, nA, nB, nC, nD, nE, nF, n1, n2, n3, Bool.not_true, Bool.not_false] <;> and_intros <;> first | (apply hK1; clear hK1 K1) | (intros; first | omega | decide) | skip)))
     refine (g_isWindow fr t2 h).mono ?_; rintro _ hz ⟨rfl, hh⟩; apply hK1; clear hK1 K1; rw [hh]; clear hh hz; rw [hw]; (repeat (first | refine gO rfl ?_ | (refine gM zM20 fun K1 hK1 => ?_; simp only [go_sem, ↓reduceIte, reduceCtorEq, nA, nB, nC, nD, nE, nF] <;> and_intros <;> first | (apply hK1; clear hK1 K1) | (intros; first | omega | decide) | skip)))
     refine awp_cond (t := _) rfl (fun h6 => ?_) (fun h6 => ?_)
     all_goals try (exfalso; cases h6; done)
    rotate_right
    ·(repeat (first | refine gO rfl ?_ | (refine gM zM20 fun K1 hK1 => ?_; simp only [go_sem, ↓reduceIte, reduceCtorEq, nA, nB, nC, nD, nE, nF] <;> and_intros <;> first | (apply hK1; clear hK1 K1) | (intros; first | omega | decide) | skip)))
     rw [hrf, if_pos hw] at hinv
     exact ⟨g - 1, by omega, j + 1, by omega, hinv, rfl⟩
    all_goals
     (repeat (first | refine gO rfl ?_ | (refine gM zM20 fun K1 hK1 => ?_; simp only [go_sem, ↓reduceIte, reduceCtorEq, nA, nB, nC, nD, nE, nF] <;> and_intros <;> first | (apply hK1; clear hK1 K1) | (intros; first | omega | decide) | skip)))
     simp only [Tryz.results14, go_sem, ↓reduceIte, reduceCtorEq, nA, nB, nC, nD, nE, nF]
     refine ⟨_, _, Weak.refl _, Hp.le.refl _, ?_, rfl⟩
     rw [hrf, if_neg (by rw [hw]; decide), hw] at hinv
     rw [← hinv]
   ·rw [if_neg hz] at hrf
    refine awp_cond (t := _) rfl (fun _ => ?_) (fun h6 => absurd h6 (by simpa using hz))
    (repeat (first | refine gO rfl ?_ | (refine gM zM20 fun K1 hK1 => ?_; simp only [go_sem, ↓reduceIte, reduceCtorEq, nA, nB, nC, nD, nE, nF] <;> and_intros <;> first | (apply hK1; clear hK1 K1) | (intros; first | omega | decide) | skip)))
    simp only [Tryz.results14, go_sem, ↓reduceIte, reduceCtorEq, nA, nB, nC, nD, nE, nF]
    refine ⟨_, _, Weak.refl _, Hp.le.refl _, ?_, rfl⟩
    rw [hrf, if_neg hz] at hinv
    rw [← hinv]
 ·simp only [decide_eq_false_iff_not] at h5
  have hjl : j = rs.length := by omega
  subst hjl
  rw [List.drop_length, rightsF] at hinv
  (repeat (first | refine gO rfl ?_ | (refine gM zM20 fun K1 hK1 => ?_; simp only [go_sem, ↓reduceIte, reduceCtorEq, nA, nB, nC, nD, nE, nF] <;> and_intros <;> first | (apply hK1; clear hK1 K1) | (intros; first | omega | decide) | skip)))
  simp only [Tryz.results14, go_sem, ↓reduceIte, reduceCtorEq, nA, nB, nC, nD, nE, nF]
  exact ⟨_, _, Weak.refl _, Hp.le.refl _, by rw [← hinv], rfl⟩
theorem g_rightsFault (rs : List Rt) (kk : Option Nat) (hl : rs.length ≤ 500) (hok : ∀ r ∈ rs, RtOk r) (h : Hp) :
  ACalls Tryz.prog 13 [.row 5 (rs.map encRt) kk] h (fun r h' => r = .v (.int .i64 (rightsF rs)) ∧ h' = h) := by
 have hml : (rs.map encRt).length = rs.length := List.length_map _
 refine gE Tryz.func13 rfl (by kernel_rfl) 44 rfl fun c => ?_
 (repeat (first | refine gO rfl ?_ | (refine gM zM20 fun K1 hK1 => ?_; simp only [go_sem, ↓reduceIte, reduceCtorEq, nA, nB, nC, nD, nE, nF, hml] <;> and_intros <;> first | (apply hK1; clear hK1 K1) | (intros; first | omega | decide) | skip)))
 refine awp_cond (t := _) rfl (fun h5 => absurd (of_decide_eq_true h5) (by omega)) (fun _ => ?_)
 (repeat (first | refine gO rfl ?_ | (refine gM zM20 fun K1 hK1 => ?_; simp only [go_sem, ↓reduceIte, reduceCtorEq, nA, nB, nC, nD, nE, nF, hml] <;> and_intros <;> first | (apply hK1; clear hK1 K1) | (intros; first | omega | decide) | skip)))
 refine awp_loopC (rl false [9, 3, 33]) 0 (fun g s => ∃ (j : Nat), g + j = rs.length ∧ rightsF (rs.drop j) = rightsF rs ∧
  s = ⟨((jnk 9 ((.row 5 (rs.map encRt) kk) :: (.v (.int .i64 rs.length)) :: (.v (.int .i64 j)) :: (jnk 33 [])))), [], h⟩) rs.length ⟨0, by omega, rfl, rfl⟩ ?_
 rintro g _ ⟨j, hj, hinv, rfl⟩
 (repeat (first | refine gO rfl ?_ | (refine gM zM20 fun K1 hK1 => ?_; simp only [go_sem, ↓reduceIte, reduceCtorEq, nA, nB, nC, nD, nE, nF] <;> and_intros <;> first | (apply hK1; clear hK1 K1) | (intros; first | omega | decide) | skip)))
 refine awp_cond (t := _) rfl (fun h5 => ?_) (fun h5 => ?_)
 ·simp only [decide_eq_true_eq] at h5
  have hjl : j < rs.length := by omega
  have gx : (rs.map encRt).getD j [] = encRt rs[j] := by rw [List.getD_eq_getElem?_getD, List.getElem?_map, List.getElem?_eq_getElem hjl]; rfl
  have hro := hok _ (List.getElem_mem hjl)
  rw [List.drop_eq_getElem_cons hjl, rightsF] at hinv
  generalize rs[j] = r at *
  obtain ⟨it, tg, fr, t2, bb⟩ := r
  rw [show encRt (it, tg, fr, t2, bb) = [.v (.string it), .row 1 (tg.map encS) none, .v (.int .i64 fr), .v (.int .i64 t2), .v (.bool bb)] from rfl] at gx
  obtain ⟨hs1, ⟨hs2, hs3⟩, hs4, hs5⟩ := hro
  simp only at hs1 hs2 hs3 hs4 hs5
  have hK := a_key it (by omega) h
  have hT := g_keysF tg none 20 (by omega) (fun s hs => by have := hs3 s hs; omega) h
  have hrf : rightF (it, tg, fr, t2, bb) = if keyB it = false then 5 else if riseF tg none = 0 then wndF fr t2 else riseF tg none := rfl
  (repeat (first | refine gO rfl ?_ | (refine gM zM20 fun K1 hK1 => ?_; simp only [go_sem, ↓reduceIte, reduceCtorEq, nA, nB, nC, nD, nE, nF, hml, Int.toNat_natCast, gx] <;> and_intros <;> first | (apply hK1; clear hK1 K1) | (intros; first | omega | decide) | skip)))
  refine hK.mono ?_; rintro _ hz ⟨rfl, hh⟩; apply hK1; clear hK1 K1; rw [hh]; clear hh hz
  cases hk : keyB it with
  | false =>
   rw [hk, if_pos rfl] at hrf
   (repeat (first | refine gO rfl ?_ | (refine gM zM20 fun K1 hK1 => ?_; simp only [go_sem, ↓reduceIte, reduceCtorEq, nA, nB, nC, nD, nE, nF, hk, Bool.not_false] <;> and_intros <;> first | (apply hK1; clear hK1 K1) | (intros; first | omega | decide) | skip)))
   refine awp_cond (t := _) rfl (fun _ => ?_) (fun h6 => by cases h6)
   (repeat (first | refine gO rfl ?_ | (refine gM zM20 fun K1 hK1 => ?_; simp only [go_sem, ↓reduceIte, reduceCtorEq, nA, nB, nC, nD, nE, nF] <;> and_intros <;> first | (apply hK1; clear hK1 K1) | (intros; first | omega | decide) | skip)))
   simp only [Tryz.results13, go_sem, ↓reduceIte, reduceCtorEq, nA, nB, nC, nD, nE, nF]
   refine ⟨_, _, Weak.refl _, Hp.le.refl _, ?_, rfl⟩
   rw [hrf, if_neg (by decide)] at hinv
   rw [← hinv]
  | true =>
   rw [hk, if_neg (by decide)] at hrf
   (repeat (first | refine gO rfl ?_ | (refine gM zM20 fun K1 hK1 => ?_; simp only [go_sem, ↓reduceIte, reduceCtorEq, nA, nB, nC, nD, nE, nF, hk, Bool.not_true] <;> and_intros <;> first | (apply hK1; clear hK1 K1) | (intros; first | omega | decide) | skip)))
   refine awp_cond (t := _) rfl (fun h6 => by cases h6) (fun _ => ?_)
   (repeat (first | refine gO rfl ?_ | (refine gM zM20 fun K1 hK1 => ?_; simp only [go_sem, ↓reduceIte, reduceCtorEq, nA, nB, nC, nD, nE, nF] <;> and_intros <;> first | (apply hK1; clear hK1 K1) | (intros; first | omega | decide) | skip)))
   refine hT.mono ?_; rintro _ hz ⟨rfl, hh⟩; apply hK1; clear hK1 K1; rw [hh]; clear hh hz
   (repeat (first | refine gO rfl ?_ | (refine gM zM20 fun K1 hK1 => ?_; simp only [go_sem, ↓reduceIte, reduceCtorEq, nA, nB, nC, nD, nE, nF] <;> and_intros <;> first | (apply hK1; clear hK1 K1) | (intros; first | omega | decide) | skip)))
   by_cases hz : riseF tg none = 0
   ·rw [if_pos hz] at hrf
    refine awp_cond (t := _) rfl (fun h6 => by rw [hz] at h6; cases h6) (fun _ => ?_)
    obtain ⟨x1, e1⟩ : ∃ x, decide (0 ≤ fr) = x := ⟨_, rfl⟩
    obtain ⟨x2, e2⟩ : ∃ x, decide (fr < t2) = x := ⟨_, rfl⟩
    obtain ⟨x3, e3⟩ : ∃ x, decide (t2 ≤ 345686400000) = x := ⟨_, rfl⟩
    have n1 : decide (fr < 0) = !x1 := by rw [← e1, ← decide_not]; exact decide_eq_decide.2 (by omega)
    have n2 : decide (t2 ≤ fr) = !x2 := by rw [← e2, ← decide_not]; exact decide_eq_decide.2 (by omega)
    have n3 : decide (345686400000 < t2) = !x3 := by rw [← e3, ← decide_not]; exact decide_eq_decide.2 (by omega)
    have hw := wndF_of e1 e2 e3
    clear e1 e2 e3
    cases x1 <;> cases x2 <;> cases x3
    all_goals
     simp only [Bool.and_true, Bool.and_false, Bool.false_and, Bool.and_self, cond_true, cond_false] at hw
     (repeat (first | refine gO rfl ?_ | (refine gM zM20 fun K1 hK1 => ?_; simp only [go_sem, ↓reduceIte, reduceCtorEq, nA, nB, nC, nD, nE, nF, n1, n2, n3, Bool.not_true, Bool.not_false] <;> and_intros <;> first | (apply hK1; clear hK1 K1) | (intros; first | omega | decide) | skip)))
     skip
     refine awp_cond (t := _) rfl (fun h6 => ?_) (fun h6 => ?_)
     all_goals try (exfalso; cases h6; done)
    rotate_right
    ·(repeat (first | refine gO rfl ?_ | (refine gM zM20 fun K1 hK1 => ?_; simp only [go_sem, ↓reduceIte, reduceCtorEq, nA, nB, nC, nD, nE, nF] <;> and_intros <;> first | (apply hK1; clear hK1 K1) | (intros; first | omega | decide) | skip)))
     rw [hrf, if_pos hw] at hinv
     exact ⟨g - 1, by omega, j + 1, by omega, hinv, rfl⟩
    all_goals
     (repeat (first | refine gO rfl ?_ | (refine gM zM20 fun K1 hK1 => ?_; simp only [go_sem, ↓reduceIte, reduceCtorEq, nA, nB, nC, nD, nE, nF] <;> and_intros <;> first | (apply hK1; clear hK1 K1) | (intros; first | omega | decide) | skip)))
     simp only [Tryz.results13, go_sem, ↓reduceIte, reduceCtorEq, nA, nB, nC, nD, nE, nF]
     refine ⟨_, _, Weak.refl _, Hp.le.refl _, ?_, rfl⟩
     rw [hrf, if_neg (by rw [hw]; decide), hw] at hinv
     rw [← hinv]
   ·rw [if_neg hz] at hrf
    refine awp_cond (t := _) rfl (fun _ => ?_) (fun h6 => absurd h6 (by simpa using hz))
    (repeat (first | refine gO rfl ?_ | (refine gM zM20 fun K1 hK1 => ?_; simp only [go_sem, ↓reduceIte, reduceCtorEq, nA, nB, nC, nD, nE, nF] <;> and_intros <;> first | (apply hK1; clear hK1 K1) | (intros; first | omega | decide) | skip)))
    simp only [Tryz.results13, go_sem, ↓reduceIte, reduceCtorEq, nA, nB, nC, nD, nE, nF]
    refine ⟨_, _, Weak.refl _, Hp.le.refl _, ?_, rfl⟩
    rw [hrf, if_neg hz] at hinv
    rw [← hinv]
 ·simp only [decide_eq_false_iff_not] at h5
  have hjl : j = rs.length := by omega
  subst hjl
  rw [List.drop_length, rightsF] at hinv
  (repeat (first | refine gO rfl ?_ | (refine gM zM20 fun K1 hK1 => ?_; simp only [go_sem, ↓reduceIte, reduceCtorEq, nA, nB, nC, nD, nE, nF] <;> and_intros <;> first | (apply hK1; clear hK1 K1) | (intros; first | omega | decide) | skip)))
  simp only [Tryz.results13, go_sem, ↓reduceIte, reduceCtorEq, nA, nB, nC, nD, nE, nF]
  exact ⟨_, _, Weak.refl _, Hp.le.refl _, by rw [← hinv], rfl⟩
theorem g_in (x lo hi : Int) (h : Hp) : ACalls Tryz.prog 74 [.v (.int .i64 x), .v (.int .i64 lo), .v (.int .i64 hi)] h (fun r h' => r = .v (.bool (decide (lo ≤ x) && decide (x ≤ hi))) ∧ h' = h) := by
 obtain ⟨x1, e1⟩ : ∃ b, decide (lo ≤ x) = b := ⟨_, rfl⟩
 obtain ⟨x2, e2⟩ : ∃ b, decide (x ≤ hi) = b := ⟨_, rfl⟩
 rw [e1, e2]
 refine gE Tryz.func74 rfl (by kernel_rfl) 12 rfl fun c => ?_
 cases x1 <;> cases x2
 all_goals
  (repeat (first | refine gO rfl ?_ | (refine gR fun K1 hK1 => ?_; simp only [go_sem, ↓reduceIte, reduceCtorEq, nA, nB, nC, nD, nE, nF, e1, e2] <;> and_intros <;> first | (apply hK1; clear hK1 K1) | (intros; first | omega | decide) | skip)))
  simp only [Tryz.results74, go_sem, ↓reduceIte, reduceCtorEq, nA, nB, nC, nD, nE, nF]
  exact ⟨_, _, Weak.refl _, Hp.le.refl _, rfl, rfl⟩
structure Gu where
 key : ByteArray
 scr : ByteArray
 zone : Int
 tags : List ByteArray
def encGu (p : Gu) : List AV := [.v (.string p.key), .v (.string p.scr), .v (.int .i64 p.zone), encGr p.tags]
structure GuOk (p : Gu) : Prop where
 key : p.key.size ≤ 4
 scr : keyB p.scr = true
 scs : p.scr.size ≤ 4
 tg : TgOk p.tags
def keyF (s : ByteArray) : Int := if keyB s = false then 5 else 0
def momF (a : Int) : Int := if 0 ≤ a ∧ a ≤ 345686399999 then 0 else 1
def winF (a b : Int) : Int := if 0 ≤ a ∧ a ≤ b ∧ b ≤ 345686400000 then 0 else 1
def guF (p : Gu) : Int := if keyB p.key = false then 5 else if -1440 ≤ p.zone ∧ p.zone ≤ 1440 then riseF p.tags none else 1
theorem momF_of {a : Int} {x1 x2 : Bool} (e1 : decide (0 ≤ a) = x1) (e2 : decide (a ≤ 345686399999) = x2) : momF a = bif (x1 && x2) then 0 else 1 := by
 subst e1; subst e2
 unfold momF
 by_cases h1 : 0 ≤ a <;> by_cases h2 : a ≤ 345686399999 <;> simp [h1, h2]
theorem winF_of {a b : Int} {x1 x2 x3 : Bool} (e1 : decide (0 ≤ a) = x1) (e2 : decide (a ≤ b) = x2) (e3 : decide (b ≤ 345686400000) = x3) : winF a b = bif (x1 && (x2 && x3)) then 0 else 1 := by
 subst e1; subst e2; subst e3
 unfold winF
 by_cases h1 : 0 ≤ a <;> by_cases h2 : a ≤ b <;> by_cases h3 : b ≤ 345686400000 <;> simp [h1, h2, h3]
theorem g_isMoment (a : Int) (h : Hp) : ACalls Tryz.prog 87 [.v (.int .i64 a)] h (fun r h' => r = .v (.bool (decide (momF a = 0))) ∧ h' = h) := by
 obtain ⟨x1, e1⟩ : ∃ b, decide (0 ≤ a) = b := ⟨_, rfl⟩
 obtain ⟨x2, e2⟩ : ∃ b, decide (a < 345686400000) = b := ⟨_, rfl⟩
 have hm := momF_of (a := a) (x2 := x2) e1 (by rw [← e2]; exact decide_eq_decide.2 (by omega))
 refine gE Tryz.func87 rfl (by kernel_rfl) 8 rfl fun c => ?_
 cases x1 <;> cases x2
 all_goals
  (repeat (first | refine gO rfl ?_ | (refine gR fun K1 hK1 => ?_; simp only [go_sem, ↓reduceIte, reduceCtorEq, nA, nB, nC, nD, nE, nF, e1, e2] <;> and_intros <;> first | (apply hK1; clear hK1 K1) | (intros; first | omega | decide) | skip)))
  simp only [Tryz.results87, go_sem, ↓reduceIte, reduceCtorEq, nA, nB, nC, nD, nE, nF]
  exact ⟨_, _, Weak.refl _, Hp.le.refl _, by rw [hm]; rfl, rfl⟩
theorem g_momentFault (a : Int) (h : Hp) : ACalls Tryz.prog 70 [.v (.int .i64 a)] h (fun r h' => r = .v (.int .i64 (momF a)) ∧ h' = h) := by
 have hm : momF a = if momF a = 0 then 0 else 1 := by unfold momF; split <;> rfl
 refine gE Tryz.func70 rfl (by kernel_rfl) 5 rfl fun c => ?_
 (repeat (first | refine gO rfl ?_ | (refine gR fun K1 hK1 => ?_; simp only [go_sem, ↓reduceIte, reduceCtorEq, nA, nB, nC, nD, nE, nF] <;> and_intros <;> first | (apply hK1; clear hK1 K1) | (intros; first | omega | decide) | skip)))
 refine (g_isMoment a h).mono ?_; rintro _ hz ⟨rfl, hh⟩; apply hK1; clear hK1 K1; rw [hh]; clear hh hz
 (repeat (first | refine gO rfl ?_ | (refine gR fun K1 hK1 => ?_; simp only [go_sem, ↓reduceIte, reduceCtorEq, nA, nB, nC, nD, nE, nF] <;> and_intros <;> first | (apply hK1; clear hK1 K1) | (intros; first | omega | decide) | skip)))
 by_cases hz : momF a = 0
 ·refine awp_cond (t := _) rfl (fun h6 => by simp [hz] at h6) (fun _ => ?_)
  (repeat (first | refine gO rfl ?_ | (refine gR fun K1 hK1 => ?_; simp only [go_sem, ↓reduceIte, reduceCtorEq, nA, nB, nC, nD, nE, nF] <;> and_intros <;> first | (apply hK1; clear hK1 K1) | (intros; first | omega | decide) | skip)))
  simp only [Tryz.results70, go_sem, ↓reduceIte, reduceCtorEq, nA, nB, nC, nD, nE, nF]
  exact ⟨_, _, Weak.refl _, Hp.le.refl _, by rw [hz], rfl⟩
 ·rw [if_neg hz] at hm
  refine awp_cond (t := _) rfl (fun _ => ?_) (fun h6 => by simp [hz] at h6)
  (repeat (first | refine gO rfl ?_ | (refine gR fun K1 hK1 => ?_; simp only [go_sem, ↓reduceIte, reduceCtorEq, nA, nB, nC, nD, nE, nF] <;> and_intros <;> first | (apply hK1; clear hK1 K1) | (intros; first | omega | decide) | skip)))
  simp only [Tryz.results70, go_sem, ↓reduceIte, reduceCtorEq, nA, nB, nC, nD, nE, nF]
  exact ⟨_, _, Weak.refl _, Hp.le.refl _, by rw [hm], rfl⟩
theorem g_playerR (p : Gu) (hp : GuOk p) (h : Hp) : ACalls Tryz.prog 18 [.agg (encGu p)] h (fun r h' => r = .v (.int .i64 (guF p)) ∧ h' = h) := by
 obtain ⟨key, scr, zone, tags⟩ := p
 obtain ⟨h1, h2, h3, ⟨h4, h5⟩⟩ := hp
 simp only at h1 h2 h3 h4 h5
 have hk1 := a_key key (by omega) h
 have hk2 := a_key scr (by omega) h
 rw [h2] at hk2
 have hT := g_keysF tags none 20 (by omega) (fun s hs => by have := h5 s hs; omega) h
 have hI := g_in zone (-1440) 1440 h
 unfold encGu encGr guF
 simp only
 refine gE Tryz.func18 rfl (by kernel_rfl) 21 rfl fun c => ?_
 (repeat (first | refine gO rfl ?_ | (refine gR fun K1 hK1 => ?_; simp only [go_sem, ↓reduceIte, reduceCtorEq, nA, nB, nC, nD, nE, nF] <;> and_intros <;> first | (apply hK1; clear hK1 K1) | (intros; first | omega | decide) | skip)))
 refine hk1.mono ?_; rintro _ hz ⟨rfl, hh⟩; apply hK1; clear hK1 K1; rw [hh]; clear hh hz
 cases hk : keyB key with
 | false =>
  (repeat (first | refine gO rfl ?_ | (refine gR fun K1 hK1 => ?_; simp only [go_sem, ↓reduceIte, reduceCtorEq, nA, nB, nC, nD, nE, nF, hk, Bool.not_false] <;> and_intros <;> first | (apply hK1; clear hK1 K1) | (intros; first | omega | decide) | skip)))
  refine awp_cond (t := _) rfl (fun _ => ?_) (fun h6 => by cases h6)
  (repeat (first | refine gO rfl ?_ | (refine gR fun K1 hK1 => ?_; simp only [go_sem, ↓reduceIte, reduceCtorEq, nA, nB, nC, nD, nE, nF] <;> and_intros <;> first | (apply hK1; clear hK1 K1) | (intros; first | omega | decide) | skip)))
  simp only [Tryz.results18, go_sem, ↓reduceIte, reduceCtorEq, nA, nB, nC, nD, nE, nF]
  exact ⟨_, _, Weak.refl _, Hp.le.refl _, rfl, rfl⟩
 | true =>
  (repeat (first | refine gO rfl ?_ | (refine gR fun K1 hK1 => ?_; simp only [go_sem, ↓reduceIte, reduceCtorEq, nA, nB, nC, nD, nE, nF, hk, Bool.not_true] <;> and_intros <;> first | (apply hK1; clear hK1 K1) | (intros; first | omega | decide) | skip)))
  rotate_left
  ·exact fun h => h.elim
  refine hk2.mono ?_
  rintro _ hz ⟨rfl, hh⟩; refine ⟨rfl, ?_⟩; apply hK1; clear hK1 K1; rw [hh]; clear hh hz
  (repeat (first | refine gO rfl ?_ | (refine gR fun K1 hK1 => ?_; simp only [go_sem, ↓reduceIte, reduceCtorEq, nA, nB, nC, nD, nE, nF, Bool.not_true] <;> and_intros <;> first | (apply hK1; clear hK1 K1) | (intros; first | omega | decide) | skip)))
  refine awp_cond (t := _) rfl (fun h6 => by cases h6) (fun _ => ?_)
  (repeat (first | refine gO rfl ?_ | (refine gR fun K1 hK1 => ?_; simp only [go_sem, ↓reduceIte, reduceCtorEq, nA, nB, nC, nD, nE, nF] <;> and_intros <;> first | (apply hK1; clear hK1 K1) | (intros; first | omega | decide) | skip)))
  refine hI.mono ?_; rintro _ hz ⟨rfl, hh⟩; apply hK1; clear hK1 K1; rw [hh]; clear hh hz
  (repeat (first | refine gO rfl ?_ | (refine gR fun K1 hK1 => ?_; simp only [go_sem, ↓reduceIte, reduceCtorEq, nA, nB, nC, nD, nE, nF] <;> and_intros <;> first | (apply hK1; clear hK1 K1) | (intros; first | omega | decide) | skip)))
  by_cases hz : -1440 ≤ zone ∧ zone ≤ 1440
  ·refine awp_cond (t := _) rfl (fun h6 => by simp [hz.1, hz.2] at h6) (fun _ => ?_)
   (repeat (first | refine gO rfl ?_ | (refine gR fun K1 hK1 => ?_; simp only [go_sem, ↓reduceIte, reduceCtorEq, nA, nB, nC, nD, nE, nF] <;> and_intros <;> first | (apply hK1; clear hK1 K1) | (intros; first | omega | decide) | skip)))
   refine hT.mono ?_; rintro _ hz ⟨rfl, hh⟩; apply hK1; clear hK1 K1; rw [hh]; clear hh hz
   (repeat (first | refine gO rfl ?_ | (refine gR fun K1 hK1 => ?_; simp only [go_sem, ↓reduceIte, reduceCtorEq, nA, nB, nC, nD, nE, nF] <;> and_intros <;> first | (apply hK1; clear hK1 K1) | (intros; first | omega | decide) | skip)))
   simp only [Tryz.results18, go_sem, ↓reduceIte, reduceCtorEq, nA, nB, nC, nD, nE, nF]
   exact ⟨_, _, Weak.refl _, Hp.le.refl _, by simp [hz], rfl⟩
  ·refine awp_cond (t := _) rfl (fun _ => ?_) (fun h6 => ?_)
   ·(repeat (first | refine gO rfl ?_ | (refine gR fun K1 hK1 => ?_; simp only [go_sem, ↓reduceIte, reduceCtorEq, nA, nB, nC, nD, nE, nF] <;> and_intros <;> first | (apply hK1; clear hK1 K1) | (intros; first | omega | decide) | skip)))
    simp only [Tryz.results18, go_sem, ↓reduceIte, reduceCtorEq, nA, nB, nC, nD, nE, nF]
    exact ⟨_, _, Weak.refl _, Hp.le.refl _, by simp [hz], rfl⟩
   ·exfalso
    simp only [Bool.not_eq_false', Bool.and_eq_true, decide_eq_true_eq] at h6
    exact hz h6
theorem g_playerF (p : Gu) (hp : GuOk p) (h : Hp) : ACalls Tryz.prog 112 [.agg (encGu p)] h (fun r h' => r = .v (.int .i64 (guF p)) ∧ h' = h) := by
 obtain ⟨key, scr, zone, tags⟩ := p
 obtain ⟨h1, h2, h3, ⟨h4, h5⟩⟩ := hp
 simp only at h1 h2 h3 h4 h5
 have hk1 := a_isKey key (by omega) h
 have hk2 := a_isKey scr (by omega) h
 rw [h2] at hk2
 have hT := g_tagsF tags none (by omega) (fun s hs => by have := h5 s hs; omega) h
 have hI := a_outside zone (-1440) 1440 h
 unfold encGu encGr guF
 simp only
 refine gE Tryz.func112 rfl (by kernel_rfl) 18 rfl fun c => ?_
 (repeat (first | refine gO rfl ?_ | (refine gR fun K1 hK1 => ?_; simp only [go_sem, ↓reduceIte, reduceCtorEq, nA, nB, nC, nD, nE, nF] <;> and_intros <;> first | (apply hK1; clear hK1 K1) | (intros; first | omega | decide) | skip)))
 refine hk1.mono ?_; rintro _ hz ⟨rfl, hh⟩; apply hK1; clear hK1 K1; rw [hh]; clear hh hz
 cases hk : keyB key with
 | false =>
  (repeat (first | refine gO rfl ?_ | (refine gR fun K1 hK1 => ?_; simp only [go_sem, ↓reduceIte, reduceCtorEq, nA, nB, nC, nD, nE, nF, hk, Bool.not_false] <;> and_intros <;> first | (apply hK1; clear hK1 K1) | (intros; first | omega | decide) | skip)))
  refine awp_cond (t := _) rfl (fun _ => ?_) (fun h6 => by cases h6)
  (repeat (first | refine gO rfl ?_ | (refine gR fun K1 hK1 => ?_; simp only [go_sem, ↓reduceIte, reduceCtorEq, nA, nB, nC, nD, nE, nF] <;> and_intros <;> first | (apply hK1; clear hK1 K1) | (intros; first | omega | decide) | skip)))
  simp only [Tryz.results112, go_sem, ↓reduceIte, reduceCtorEq, nA, nB, nC, nD, nE, nF]
  exact ⟨_, _, Weak.refl _, Hp.le.refl _, rfl, rfl⟩
 | true =>
  (repeat (first | refine gO rfl ?_ | (refine gR fun K1 hK1 => ?_; simp only [go_sem, ↓reduceIte, reduceCtorEq, nA, nB, nC, nD, nE, nF, hk, Bool.not_true] <;> and_intros <;> first | (apply hK1; clear hK1 K1) | (intros; first | omega | decide) | skip)))
  rotate_left
  ·exact fun h => h.elim
  refine hk2.mono ?_
  rintro _ hz ⟨rfl, hh⟩; refine ⟨rfl, ?_⟩; apply hK1; clear hK1 K1; rw [hh]; clear hh hz
  (repeat (first | refine gO rfl ?_ | (refine gR fun K1 hK1 => ?_; simp only [go_sem, ↓reduceIte, reduceCtorEq, nA, nB, nC, nD, nE, nF, Bool.not_true] <;> and_intros <;> first | (apply hK1; clear hK1 K1) | (intros; first | omega | decide) | skip)))
  refine awp_cond (t := _) rfl (fun h6 => by cases h6) (fun _ => ?_)
  (repeat (first | refine gO rfl ?_ | (refine gR fun K1 hK1 => ?_; simp only [go_sem, ↓reduceIte, reduceCtorEq, nA, nB, nC, nD, nE, nF] <;> and_intros <;> first | (apply hK1; clear hK1 K1) | (intros; first | omega | decide) | skip)))
  refine hI.mono ?_; rintro _ hz ⟨rfl, hh⟩; apply hK1; clear hK1 K1; rw [hh]; clear hh hz
  (repeat (first | refine gO rfl ?_ | (refine gR fun K1 hK1 => ?_; simp only [go_sem, ↓reduceIte, reduceCtorEq, nA, nB, nC, nD, nE, nF] <;> and_intros <;> first | (apply hK1; clear hK1 K1) | (intros; first | omega | decide) | skip)))
  by_cases hz : -1440 ≤ zone ∧ zone ≤ 1440
  ·refine awp_cond (t := _) rfl (fun h6 => ?_) (fun _ => ?_)
   ·exfalso
    simp only [Bool.or_eq_true, decide_eq_true_eq] at h6
    omega
   (repeat (first | refine gO rfl ?_ | (refine gR fun K1 hK1 => ?_; simp only [go_sem, ↓reduceIte, reduceCtorEq, nA, nB, nC, nD, nE, nF] <;> and_intros <;> first | (apply hK1; clear hK1 K1) | (intros; first | omega | decide) | skip)))
   refine hT.mono ?_; rintro _ hz ⟨rfl, hh⟩; apply hK1; clear hK1 K1; rw [hh]; clear hh hz
   (repeat (first | refine gO rfl ?_ | (refine gR fun K1 hK1 => ?_; simp only [go_sem, ↓reduceIte, reduceCtorEq, nA, nB, nC, nD, nE, nF] <;> and_intros <;> first | (apply hK1; clear hK1 K1) | (intros; first | omega | decide) | skip)))
   simp only [Tryz.results112, go_sem, ↓reduceIte, reduceCtorEq, nA, nB, nC, nD, nE, nF]
   exact ⟨_, _, Weak.refl _, Hp.le.refl _, by simp [hz], rfl⟩
  ·refine awp_cond (t := _) rfl (fun _ => ?_) (fun h6 => ?_)
   ·(repeat (first | refine gO rfl ?_ | (refine gR fun K1 hK1 => ?_; simp only [go_sem, ↓reduceIte, reduceCtorEq, nA, nB, nC, nD, nE, nF] <;> and_intros <;> first | (apply hK1; clear hK1 K1) | (intros; first | omega | decide) | skip)))
    simp only [Tryz.results112, go_sem, ↓reduceIte, reduceCtorEq, nA, nB, nC, nD, nE, nF]
    exact ⟨_, _, Weak.refl _, Hp.le.refl _, by simp [hz], rfl⟩
   ·exfalso
    simp only [Bool.or_eq_false_iff, decide_eq_false_iff_not] at h6
    omega
def quF (rs : List Rt) (p : Gu) (item : ByteArray) : Int := if rightsF rs = 0 then (if guF p = 0 then keyF item else guF p) else rightsF rs
theorem g_question (rs : List Rt) (p : Gu) (item : ByteArray) (kk : Option Nat) (hl : rs.length ≤ 500) (hok : ∀ r ∈ rs, RtOk r) (hp : GuOk p) (hi : item.size ≤ 4) (h : Hp) :
  ACalls Tryz.prog 69 [.row 5 (rs.map encRt) kk, .agg (encGu p), .v (.string item)] h (fun r h' => r = .v (.int .i64 (quF rs p item)) ∧ h' = h) := by
 have hR := g_checkRights rs kk hl hok h
 have hP := g_playerF p hp h
 have hK := a_isKey item (by omega) h
 obtain ⟨w1, hw1⟩ : ∃ x, x = rs.map encRt := ⟨_, rfl⟩
 obtain ⟨w2, hw2⟩ : ∃ x, x = encGu p := ⟨_, rfl⟩
 have hw3 : encGu p = [.v (.string p.key), .v (.string p.scr), .v (.int .i64 p.zone), encGr p.tags] := rfl
 rw [hw3] at hP ⊢
 unfold encGr at hP ⊢
 unfold quF keyF
 refine gE Tryz.func69 rfl (by kernel_rfl) 19 rfl fun c => ?_
 (repeat (first | refine gO rfl ?_ | (refine gR fun K1 hK1 => ?_; simp only [go_sem, ↓reduceIte, reduceCtorEq, nA, nB, nC, nD, nE, nF] <;> and_intros <;> first | (apply hK1; clear hK1 K1) | (intros; first | omega | decide) | skip)))
 refine hR.mono ?_; rintro _ hz ⟨rfl, hh⟩; apply hK1; clear hK1 K1; rw [hh]; clear hh hz
 (repeat (first | refine gO rfl ?_ | (refine gR fun K1 hK1 => ?_; simp only [go_sem, ↓reduceIte, reduceCtorEq, nA, nB, nC, nD, nE, nF] <;> and_intros <;> first | (apply hK1; clear hK1 K1) | (intros; first | omega | decide) | skip)))
 by_cases h1 : rightsF rs = 0
 ·refine awp_cond (t := _) rfl (fun h6 => by rw [h1] at h6; cases h6) (fun _ => ?_)
  (repeat (first | refine gO rfl ?_ | (refine gR fun K1 hK1 => ?_; simp only [go_sem, ↓reduceIte, reduceCtorEq, nA, nB, nC, nD, nE, nF] <;> and_intros <;> first | (apply hK1; clear hK1 K1) | (intros; first | omega | decide) | skip)))
  refine hP.mono ?_; rintro _ hz ⟨rfl, hh⟩; apply hK1; clear hK1 K1; rw [hh]; clear hh hz
  (repeat (first | refine gO rfl ?_ | (refine gR fun K1 hK1 => ?_; simp only [go_sem, ↓reduceIte, reduceCtorEq, nA, nB, nC, nD, nE, nF] <;> and_intros <;> first | (apply hK1; clear hK1 K1) | (intros; first | omega | decide) | skip)))
  by_cases h2 : guF p = 0
  ·refine awp_cond (t := _) rfl (fun h6 => by rw [h2] at h6; cases h6) (fun _ => ?_)
   (repeat (first | refine gO rfl ?_ | (refine gR fun K1 hK1 => ?_; simp only [go_sem, ↓reduceIte, reduceCtorEq, nA, nB, nC, nD, nE, nF] <;> and_intros <;> first | (apply hK1; clear hK1 K1) | (intros; first | omega | decide) | skip)))
   refine hK.mono ?_; rintro _ hz ⟨rfl, hh⟩; apply hK1; clear hK1 K1; rw [hh]; clear hh hz
   (repeat (first | refine gO rfl ?_ | (refine gR fun K1 hK1 => ?_; simp only [go_sem, ↓reduceIte, reduceCtorEq, nA, nB, nC, nD, nE, nF] <;> and_intros <;> first | (apply hK1; clear hK1 K1) | (intros; first | omega | decide) | skip)))
   cases hk : keyB item with
   | false =>
    refine awp_cond (t := _) rfl (fun _ => ?_) (fun h6 => by cases h6)
    (repeat (first | refine gO rfl ?_ | (refine gR fun K1 hK1 => ?_; simp only [go_sem, ↓reduceIte, reduceCtorEq, nA, nB, nC, nD, nE, nF] <;> and_intros <;> first | (apply hK1; clear hK1 K1) | (intros; first | omega | decide) | skip)))
    simp only [Tryz.results69, go_sem, ↓reduceIte, reduceCtorEq, nA, nB, nC, nD, nE, nF]
    exact ⟨_, _, Weak.refl _, Hp.le.refl _, by simp [h1, h2], rfl⟩
   | true =>
    refine awp_cond (t := _) rfl (fun h6 => by cases h6) (fun _ => ?_)
    (repeat (first | refine gO rfl ?_ | (refine gR fun K1 hK1 => ?_; simp only [go_sem, ↓reduceIte, reduceCtorEq, nA, nB, nC, nD, nE, nF] <;> and_intros <;> first | (apply hK1; clear hK1 K1) | (intros; first | omega | decide) | skip)))
    simp only [Tryz.results69, go_sem, ↓reduceIte, reduceCtorEq, nA, nB, nC, nD, nE, nF]
    exact ⟨_, _, Weak.refl _, Hp.le.refl _, by simp [h1, h2], rfl⟩
  ·refine awp_cond (t := _) rfl (fun _ => ?_) (fun h6 => absurd h6 (by simpa using h2))
   (repeat (first | refine gO rfl ?_ | (refine gR fun K1 hK1 => ?_; simp only [go_sem, ↓reduceIte, reduceCtorEq, nA, nB, nC, nD, nE, nF] <;> and_intros <;> first | (apply hK1; clear hK1 K1) | (intros; first | omega | decide) | skip)))
   simp only [Tryz.results69, go_sem, ↓reduceIte, reduceCtorEq, nA, nB, nC, nD, nE, nF]
   exact ⟨_, _, Weak.refl _, Hp.le.refl _, by rw [if_pos h1, if_neg h2], rfl⟩
 ·refine awp_cond (t := _) rfl (fun _ => ?_) (fun h6 => absurd h6 (by simpa using h1))
  (repeat (first | refine gO rfl ?_ | (refine gR fun K1 hK1 => ?_; simp only [go_sem, ↓reduceIte, reduceCtorEq, nA, nB, nC, nD, nE, nF] <;> and_intros <;> first | (apply hK1; clear hK1 K1) | (intros; first | omega | decide) | skip)))
  simp only [Tryz.results69, go_sem, ↓reduceIte, reduceCtorEq, nA, nB, nC, nD, nE, nF]
  exact ⟨_, _, Weak.refl _, Hp.le.refl _, by rw [if_neg h1], rfl⟩
theorem g_nanS (s : ByteArray) (h : Hp) : ACalls Tryz.prog 185 [.v (.string s)] h (fun r h' => r = .v (.bool false) ∧ h' = h) := by
 refine gE Tryz.func185 rfl (by kernel_rfl) 5 rfl fun c => ?_
 (repeat (first | refine gO rfl ?_ | (refine gR fun K1 hK1 => ?_; simp only [go_sem, ↓reduceIte, reduceCtorEq, nA, nB, nC, nD, nE, nF] <;> and_intros <;> first | (apply hK1; clear hK1 K1) | (intros; first | omega | decide) | skip)))
 simp only [Tryz.results185, go_sem, ↓reduceIte, reduceCtorEq, nA, nB, nC, nD, nE, nF]
 have e : (s == s) = true := by rw [ba_beq]; simp
 have e2 : AV.v (.bool (!(s == s))) = AV.v (.bool false) := by rw [e]; rfl
 exact ⟨_, _, Weak.refl _, Hp.le.refl _, e2, rfl⟩
theorem g_nanC (s : ByteArray) (h : Hp) : ACalls Tryz.prog 222 [.v (.string s)] h (fun r h' => r = .v (.bool false) ∧ h' = h) := by
 refine gE Tryz.func222 rfl (by kernel_rfl) 5 rfl fun c => ?_
 (repeat (first | refine gO rfl ?_ | (refine gR fun K1 hK1 => ?_; simp only [go_sem, ↓reduceIte, reduceCtorEq, nA, nB, nC, nD, nE, nF] <;> and_intros <;> first | (apply hK1; clear hK1 K1) | (intros; first | omega | decide) | skip)))
 simp only [Tryz.results222, go_sem, ↓reduceIte, reduceCtorEq, nA, nB, nC, nD, nE, nF]
 have e : (s == s) = true := by rw [ba_beq]; simp
 have e2 : AV.v (.bool (!(s == s))) = AV.v (.bool false) := by rw [e]; rfl
 exact ⟨_, _, Weak.refl _, Hp.le.refl _, e2, rfl⟩
theorem g_lessS (a b : ByteArray) (h : Hp) : ACalls Tryz.prog 184 [.v (.string a), .v (.string b)] h (fun r h' => r = .v (.bool (ltB a b)) ∧ h' = h) := by
 refine gE Tryz.func184 rfl (by kernel_rfl) 15 rfl fun c => ?_
 (repeat (first | refine gO rfl ?_ | (refine gR fun K1 hK1 => ?_; simp only [go_sem, ↓reduceIte, reduceCtorEq, nA, nB, nC, nD, nE, nF] <;> and_intros <;> first | (apply hK1; clear hK1 K1) | (intros; first | omega | decide) | skip)))
 refine (g_nanC a h).mono ?_; rintro _ hz ⟨rfl, hh⟩; apply hK1; clear hK1 K1; rw [hh]; clear hh hz
 (repeat (first | refine gO rfl ?_ | (refine gR fun K1 hK1 => ?_; simp only [go_sem, ↓reduceIte, reduceCtorEq, nA, nB, nC, nD, nE, nF] <;> and_intros <;> first | (apply hK1; clear hK1 K1) | (intros; first | omega | decide) | skip)))
 simp only [Tryz.results184, go_sem, ↓reduceIte, reduceCtorEq, nA, nB, nC, nD, nE, nF]
 exact ⟨_, _, Weak.refl _, Hp.le.refl _, rfl, rfl⟩
def sAt (l : List ByteArray) (i : Nat) : ByteArray := l.getD i ⟨#[]⟩
theorem sAt_lt {l : List ByteArray} (hs : l.Pairwise fun a b => ltB a b = true) {i j : Nat} (hij : i < j) (hj : j < l.length) : ltB (sAt l i) (sAt l j) = true := by
 have h := List.pairwise_iff_getElem.1 hs i j (by omega) hj hij
 unfold sAt
 rw [List.getD_eq_getElem?_getD, List.getD_eq_getElem?_getD, List.getElem?_eq_getElem hj, List.getElem?_eq_getElem (show i < l.length by omega)]
 exact h
theorem sAt_mem {l : List ByteArray} {i : Nat} (h : i < l.length) : sAt l i ∈ l := by
 unfold sAt
 rw [List.getD_eq_getElem?_getD, List.getElem?_eq_getElem h]; exact List.getElem_mem h
theorem mem_sAt {l : List ByteArray} {x : ByteArray} (h : x ∈ l) : ∃ i, i < l.length ∧ sAt l i = x := by
 obtain ⟨i, hi, e⟩ := List.mem_iff_getElem.1 h
 refine ⟨i, hi, ?_⟩
 unfold sAt
 rw [List.getD_eq_getElem?_getD, List.getElem?_eq_getElem hi]; exact e
def memB (tags : List ByteArray) (t : ByteArray) : Bool := tags.any fun s => decide (s = t)
theorem memB_iff {l : List ByteArray} {x : ByteArray} : memB l x = true ↔ x ∈ l := by
 unfold memB
 simp
theorem g_bs (l : List ByteArray) (x : ByteArray) (kk : Option Nat) (h : Hp) (hl : l.length ≤ 1000) (hs : l.Pairwise fun a b => ltB a b = true) :
  ACalls Tryz.prog 150 [.row 1 (l.map encS) kk, .v (.string x)] h
   (fun r h' => (∃ i : Int, r = .tup [.v (.int .i64 i), .v (.bool (memB l x))]) ∧ h' = h) := by
 have hml : (l.map encS).length = l.length := List.length_map _
 have hw1 : ∀ a b : Nat, a + b ≤ 10000 → IntKind.u64.wrap ((a : Int) + (b : Int)) = (a : Int) + (b : Int) := fun a b h => by
  show ((a : Int) + (b : Int)) % (2 ^ 64) = _
  omega
 have hw2 : ∀ x : Int, x / 2 ^ min (Int.toNat 1) 64 = x / 2 := fun x => rfl
 refine gE Tryz.func150 rfl (by kernel_rfl) 52 rfl fun c => ?_
 (repeat (first | refine gO rfl ?_ | (refine gR fun K1 hK1 => ?_; simp only [go_sem, ↓reduceIte, reduceCtorEq, nA, nB, nC, nD, nE, nF, hml] <;> and_intros <;> first | (apply hK1; clear hK1 K1) | (intros; first | omega | decide | (simp_all <;> omega)) | skip)))
 refine awp_loopC (rl false [0, 2, 4, 3, 45]) 0 (fun g s => ∃ i j : Nat, g + i = j ∧ j ≤ l.length ∧ (∀ k, k < i → ltB (sAt l k) x = true) ∧ (∀ k, j ≤ k → k < l.length → ltB (sAt l k) x = false) ∧
  s = ⟨((.row 1 (l.map encS) kk) :: (.v (.string x)) :: (jnk 4 ((.v (.int .i64 l.length)) :: (.v (.int .i64 i)) :: (.v (.int .i64 j)) :: (jnk 45 [])))), [], h⟩) l.length ⟨0, l.length, by omega, Nat.le_refl _, fun k hk => by omega, fun k h1 h2 => by omega, rfl⟩ ?_
 rintro g _ ⟨i, j, hg, hj, hi1, hj1, rfl⟩
 (repeat (first | refine gO rfl ?_ | (refine gR fun K1 hK1 => ?_; simp only [go_sem, ↓reduceIte, reduceCtorEq, nA, nB, nC, nD, nE, nF] <;> and_intros <;> first | (apply hK1; clear hK1 K1) | (intros; first | omega | decide) | skip)))
 refine awp_cond (t := _) rfl (fun h1 => ?_) (fun h1 => ?_)
 ·simp only [decide_eq_true_eq] at h1
  have hij : i < j := by omega
  obtain ⟨m, hm⟩ : ∃ m : Nat, m = (i + j) / 2 := ⟨_, rfl⟩
  have hm3 : ((i : Int) + (j : Int)) / 2 = (m : Int) := by omega
  have hmj : m < j := by omega
  have him : i ≤ m := by omega
  have hw := hw1 i j (by omega)
  have gx : (l.map encS).getD m [] = [.v (.string (sAt l m))] := row_strD l m (by omega)
  have hc := g_lessS (sAt l m) x
  clear hm
  (repeat (first | refine gO rfl ?_ | (refine gR fun K1 hK1 => ?_; simp only [go_sem, ↓reduceIte, reduceCtorEq, nA, nB, nC, nD, nE, nF, hw, hw2, hm3, hml, Int.toNat_natCast, gx] <;> and_intros <;> first | (apply hK1; clear hK1 K1) | (intros; first | omega | decide) | skip)))
  refine hc h |>.mono ?_
  rintro _ hz ⟨rfl, hh⟩; apply hK1; clear hK1 K1; rw [hh]; clear hh hz
  (repeat (first | refine gO rfl ?_ | (refine gR fun K1 hK1 => ?_; simp only [go_sem, ↓reduceIte, reduceCtorEq, nA, nB, nC, nD, nE, nF] <;> and_intros <;> first | (apply hK1; clear hK1 K1) | (intros; first | omega | decide) | skip)))
  refine awp_cond (t := _) rfl (fun h2 => ?_) (fun h2 => ?_)
  ·(repeat (first | refine gO rfl ?_ | (refine gR fun K1 hK1 => ?_; simp only [go_sem, ↓reduceIte, reduceCtorEq, nA, nB, nC, nD, nE, nF] <;> and_intros <;> first | (apply hK1; clear hK1 K1) | (intros; first | omega | decide) | skip)))
   refine ⟨g - (m + 1 - i), by omega, m + 1, j, by omega, hj, fun k hk => ?_, hj1, rfl⟩
   by_cases hkm : k = m
   ·rw [hkm]; exact h2
   ·exact ltB_trans (sAt_lt hs (show k < m by omega) (by omega)) h2
  ·(repeat (first | refine gO rfl ?_ | (refine gR fun K1 hK1 => ?_; simp only [go_sem, ↓reduceIte, reduceCtorEq, nA, nB, nC, nD, nE, nF] <;> and_intros <;> first | (apply hK1; clear hK1 K1) | (intros; first | omega | decide) | skip)))
   refine ⟨g - (j - m), by omega, i, m, by omega, by omega, hi1, fun k hk1 hk2 => ?_, rfl⟩
   by_cases hkm : k = m
   ·rw [hkm]; exact h2
   ·cases h4 : ltB (sAt l k) x with
    | false => rfl
    | true => rw [ltB_trans (sAt_lt hs (show m < k by omega) hk2) h4] at h2; cases h2
 ·simp only [decide_eq_false_iff_not] at h1
  have hij : i = j := by omega
  subst hij
  by_cases h2 : i < l.length
  ·have h2d : ((i : Int) < (l.length : Int)) := by omega
   have gx : (l.map encS).getD i [] = [.v (.string (sAt l i))] := row_strD l i h2
   by_cases h3 : sAt l i = x
   ·have h3b : (sAt l i == x) = true := by rw [ba_beq, h3]; simp
    (repeat (first | refine gO rfl ?_ | (refine gR fun K1 hK1 => ?_; simp only [go_sem, ↓reduceIte, reduceCtorEq, nA, nB, nC, nD, nE, nF, hml, Int.toNat_natCast, gx, h2d, decide_true, h3b] <;> and_intros <;> first | (apply hK1; clear hK1 K1) | (intros; first | omega | decide) | skip)))
    simp only [Tryz.results150, go_sem, ↓reduceIte, reduceCtorEq, nA, nB, nC, nD, nE, nF]
    have hmb : memB l x = true := memB_iff.2 (by rw [← h3]; exact sAt_mem h2)
    exact ⟨_, _, Weak.refl _, Hp.le.refl _, ⟨i, by rw [hmb]⟩, rfl⟩
   ·have h3b : (sAt l i == x) = false := by rw [ba_beq]; exact decide_eq_false h3
    have hmb : memB l x = false := by
     cases hm : memB l x with
     | false => rfl
     | true =>
      exfalso
      obtain ⟨k, hk, e⟩ := mem_sAt (memB_iff.1 hm)
      rcases Nat.lt_trichotomy k i with h5 | h5 | h5
      ·have := hi1 k h5; rw [e, ltB_irr] at this; cases this
      ·subst h5; exact h3 e
      ·have h6 := sAt_lt hs h5 hk
       rw [e, hj1 i (Nat.le_refl _) h2] at h6; cases h6
    (repeat (first | refine gO rfl ?_ | (refine gR fun K1 hK1 => ?_; simp only [go_sem, ↓reduceIte, reduceCtorEq, nA, nB, nC, nD, nE, nF, hml, Int.toNat_natCast, gx, h2d, decide_true, h3b] <;> and_intros <;> first | (apply hK1; clear hK1 K1) | (intros; first | omega | decide) | skip)))
    rotate_left
    ·exact fun h => h.elim
    refine (g_nanS (sAt l i) h).mono ?_
    rintro _ hz ⟨rfl, hh⟩; refine ⟨rfl, ?_⟩; apply hK1; clear hK1 K1; rw [hh]; clear hh hz
    (repeat (first | refine gO rfl ?_ | (refine gR fun K1 hK1 => ?_; simp only [go_sem, ↓reduceIte, reduceCtorEq, nA, nB, nC, nD, nE, nF] <;> and_intros <;> first | (apply hK1; clear hK1 K1) | (intros; first | omega | decide) | skip)))
    simp only [Tryz.results150, go_sem, ↓reduceIte, reduceCtorEq, nA, nB, nC, nD, nE, nF]
    exact ⟨_, _, Weak.refl _, Hp.le.refl _, ⟨i, by rw [hmb]⟩, rfl⟩
  ·have h2d : ((i : Int) < (l.length : Int)) = False := eq_false (by omega)
   have hmb : memB l x = false := by
    cases hm : memB l x with
    | false => rfl
    | true =>
     exfalso
     obtain ⟨k, hk, e⟩ := mem_sAt (memB_iff.1 hm)
     have := hi1 k (by omega); rw [e, ltB_irr] at this; cases this
   have gx : (l.map encS).getD i [] = [] := by rw [List.getD_eq_getElem?_getD, List.getElem?_eq_none (by omega)]; rfl
   (repeat (first | refine gO rfl ?_ | (refine gR fun K1 hK1 => ?_; simp only [go_sem, ↓reduceIte, reduceCtorEq, nA, nB, nC, nD, nE, nF, h2d, decide_false, Int.toNat_natCast, gx, List.getD_nil] <;> and_intros <;> first | (apply hK1; clear hK1 K1) | (intros; first | omega | decide) | skip)))
   refine ⟨.v (.bool false), rfl, rfl, ?_⟩
   ((simp only [go_sem, ↓reduceIte, reduceCtorEq, nA, nB, nC, nD, nE, nF, h2d]; (try and_intros); all_goals first | (refine hK1 _ ?_; clear hK1 K1) | (intros; first | omega | decide | (simp_all <;> omega)) | skip))
   (repeat (first | refine gO rfl ?_ | (refine gR fun K1 hK1 => ?_; simp only [go_sem, ↓reduceIte, reduceCtorEq, nA, nB, nC, nD, nE, nF] <;> and_intros <;> first | (apply hK1; clear hK1 K1) | (intros; first | omega | decide) | skip)))
   simp only [Tryz.results150, go_sem, ↓reduceIte, reduceCtorEq, nA, nB, nC, nD, nE, nF]
   exact ⟨_, _, Weak.refl _, Hp.le.refl _, ⟨i, by rw [hmb]⟩, rfl⟩
theorem inTags_step (tags l : List ByteArray) (j : Nat) (hj : j < l.length) : inTags tags (l.drop j) = (memB tags l[j] && inTags tags (l.drop (j + 1))) := by
 rw [List.drop_eq_getElem_cons hj]; rfl
theorem g_within (l tags : List ByteArray) (kk kt : Option Nat) (h : Hp) (hl : l.length ≤ 1000) (ht : tags.length ≤ 1000) (hs : tags.Pairwise fun a b => ltB a b = true) :
  ACalls Tryz.prog 113 [.row 1 (l.map encS) kk, .row 1 (tags.map encS) kt] h (fun r h' => r = .v (.bool (inTags tags l)) ∧ h' = h) := by
 have hml : (l.map encS).length = l.length := List.length_map _
 refine gE Tryz.func113 rfl (by kernel_rfl) 22 rfl fun c => ?_
 (repeat (first | refine gO rfl ?_ | (refine gR fun K1 hK1 => ?_; simp only [go_sem, ↓reduceIte, reduceCtorEq, nA, nB, nC, nD, nE, nF, hml] <;> and_intros <;> first | (apply hK1; clear hK1 K1) | (intros; first | omega | decide) | skip)))
 refine awp_loopC (rl false [1, 1, 7, 3, 12]) 0 (fun g s => ∃ (j : Nat), g + j = l.length ∧ inTags tags (l.drop j) = inTags tags l ∧
  s = ⟨(AV.junk :: ((.row 1 (tags.map encS) kt) :: (jnk 7 ((.row 1 (l.map encS) kk) :: (.v (.int .i64 l.length)) :: (.v (.int .i64 j)) :: (jnk 12 []))))), [], h⟩) l.length ⟨0, by omega, rfl, rfl⟩ ?_
 rintro g _ ⟨j, hj, hinv, rfl⟩
 (repeat (first | refine gO rfl ?_ | (refine gR fun K1 hK1 => ?_; simp only [go_sem, ↓reduceIte, reduceCtorEq, nA, nB, nC, nD, nE, nF] <;> and_intros <;> first | (apply hK1; clear hK1 K1) | (intros; first | omega | decide) | skip)))
 refine awp_cond (t := _) rfl (fun h5 => ?_) (fun h5 => ?_)
 ·simp only [decide_eq_true_eq] at h5
  have hjl : j < l.length := by omega
  have gx := row_str l j hjl
  rw [inTags_step tags l j hjl] at hinv
  have hb := g_bs tags l[j] kt h ht hs
  generalize l[j] = x at *
  (repeat (first | refine gO rfl ?_ | (refine gR fun K1 hK1 => ?_; simp only [go_sem, ↓reduceIte, reduceCtorEq, nA, nB, nC, nD, nE, nF, hml, Int.toNat_natCast, gx] <;> and_intros <;> first | (apply hK1; clear hK1 K1) | (intros; first | omega | decide) | skip)))
  refine hb.mono ?_
  rintro _ _ ⟨⟨i, rfl⟩, rfl⟩; apply hK1; clear hK1 K1
  (repeat (first | refine gO rfl ?_ | (refine gR fun K1 hK1 => ?_; simp only [go_sem, ↓reduceIte, reduceCtorEq, nA, nB, nC, nD, nE, nF] <;> and_intros <;> first | (apply hK1; clear hK1 K1) | (intros; first | omega | decide) | skip)))
  cases hm : memB tags x with
  | false =>
   refine awp_cond (t := _) rfl (fun _ => ?_) (fun h6 => by simp [hm] at h6)
   (repeat (first | refine gO rfl ?_ | (refine gR fun K1 hK1 => ?_; simp only [go_sem, ↓reduceIte, reduceCtorEq, nA, nB, nC, nD, nE, nF] <;> and_intros <;> first | (apply hK1; clear hK1 K1) | (intros; first | omega | decide) | skip)))
   simp only [Tryz.results113, go_sem, ↓reduceIte, reduceCtorEq, nA, nB, nC, nD, nE, nF]
   rw [hm, Bool.false_and] at hinv
   exact ⟨_, _, Weak.refl _, Hp.le.refl _, by rw [← hinv], rfl⟩
  | true =>
   refine awp_cond (t := _) rfl (fun h6 => by simp [hm] at h6) (fun _ => ?_)
   (repeat (first | refine gO rfl ?_ | (refine gR fun K1 hK1 => ?_; simp only [go_sem, ↓reduceIte, reduceCtorEq, nA, nB, nC, nD, nE, nF] <;> and_intros <;> first | (apply hK1; clear hK1 K1) | (intros; first | omega | decide) | skip)))
   rw [hm, Bool.true_and] at hinv
   exact ⟨g - 1, by omega, j + 1, by omega, hinv, rfl⟩
 ·simp only [decide_eq_false_iff_not] at h5
  have hjl : j = l.length := by omega
  subst hjl
  rw [List.drop_length] at hinv
  (repeat (first | refine gO rfl ?_ | (refine gR fun K1 hK1 => ?_; simp only [go_sem, ↓reduceIte, reduceCtorEq, nA, nB, nC, nD, nE, nF] <;> and_intros <;> first | (apply hK1; clear hK1 K1) | (intros; first | omega | decide) | skip)))
  simp only [Tryz.results113, go_sem, ↓reduceIte, reduceCtorEq, nA, nB, nC, nD, nE, nF]
  exact ⟨_, _, Weak.refl _, Hp.le.refl _, by rw [← hinv]; rfl, rfl⟩
theorem mayL_step (tags : List ByteArray) (item : ByteArray) (x : Int) (rs : List Rt) (o : Bool) (j : Nat) (hj : j < rs.length) : mayL tags item x (rs.drop j) o = if hitR tags item x rs[j] = true then (if rs[j].2.2.2.2 = true then false else mayL tags item x (rs.drop (j + 1)) true) else mayL tags item x (rs.drop (j + 1)) o := by
 rw [List.drop_eq_getElem_cons hj, mayL]
theorem g_may (rs : List Rt) (p : Gu) (item : ByteArray) (x : Int) (kk : Option Nat) (hl : rs.length ≤ 500) (hok : ∀ r ∈ rs, RtOk r) (hp : GuOk p) (hs : p.tags.Pairwise fun a b => ltB a b = true) (h : Hp) :
  ACalls Tryz.prog 71 [.row 5 (rs.map encRt) kk, .agg (encGu p), .v (.string item), .v (.int .i64 x)] h (fun r h' => r = .v (.bool (mayL p.tags item x rs false)) ∧ h' = h) := by
 obtain ⟨key, scr, zone, tags⟩ := p
 obtain ⟨_, _, _, ⟨h4, _⟩⟩ := hp
 simp only at h4 hs
 unfold encGu encGr
 simp only
 have hml : (rs.map encRt).length = rs.length := List.length_map _
 refine gE Tryz.func71 rfl (by kernel_rfl) 43 rfl fun c => ?_
 (repeat (first | refine gO rfl ?_ | (refine gM zM21 fun K1 hK1 => ?_; simp only [go_sem, ↓reduceIte, reduceCtorEq, nA, nB, nC, nD, nE, nF, hml] <;> and_intros <;> first | (apply hK1; clear hK1 K1) | (intros; first | omega | decide) | skip)))
 refine awp_loopC (rl false [2, 2, 1, 1, 3, 1, 2, 3, 32]) 0 (fun g s => ∃ (j : Nat) (o : Bool), g + j = rs.length ∧ mayL tags item x (rs.drop j) o = mayL tags item x rs false ∧
  s = ⟨(AV.junk :: AV.junk :: ((.v (.string item)) :: (.v (.int .i64 x)) :: AV.junk :: ((.ref [.v (.string key), .v (.string scr), .v (.int .i64 zone), .row 1 (tags.map encS) none] 0) :: (jnk 3 ((.v (.bool o)) :: AV.junk :: AV.junk :: ((.row 5 (rs.map encRt) kk) :: (.v (.int .i64 rs.length)) :: (.v (.int .i64 j)) :: (jnk 32 []))))))), [], h⟩) rs.length ⟨0, false, by omega, rfl, rfl⟩ ?_
 rintro g _ ⟨j, o, hj, hinv, rfl⟩
 (repeat (first | refine gO rfl ?_ | (refine gM zM21 fun K1 hK1 => ?_; simp only [go_sem, ↓reduceIte, reduceCtorEq, nA, nB, nC, nD, nE, nF] <;> and_intros <;> first | (apply hK1; clear hK1 K1) | (intros; first | omega | decide) | skip)))
 refine awp_cond (t := _) rfl (fun h5 => ?_) (fun h5 => ?_)
 ·simp only [decide_eq_true_eq] at h5
  have hjl : j < rs.length := by omega
  have gx : (rs.map encRt).getD j [] = encRt rs[j] := by rw [List.getD_eq_getElem?_getD, List.getElem?_map, List.getElem?_eq_getElem hjl]; rfl
  have hro := hok _ (List.getElem_mem hjl)
  rw [mayL_step tags item x rs o j hjl] at hinv
  generalize rs[j] = r at *
  obtain ⟨it, tg, fr, t2, bb⟩ := r
  rw [show encRt (it, tg, fr, t2, bb) = [.v (.string it), .row 1 (tg.map encS) none, .v (.int .i64 fr), .v (.int .i64 t2), .v (.bool bb)] from rfl] at gx
  obtain ⟨hs1, ⟨hs2, hs3⟩, hs4, hs5⟩ := hro
  simp only at hs1 hs2 hs3 hs4 hs5
  obtain ⟨x1, e1⟩ : ∃ c, (it == item) = c := ⟨_, rfl⟩
  obtain ⟨x2, e2⟩ : ∃ c, decide (fr ≤ x) = c := ⟨_, rfl⟩
  obtain ⟨x3, e3⟩ : ∃ c, decide (x < t2) = c := ⟨_, rfl⟩
  have hit : hitR tags item x (it, tg, fr, t2, bb) = (x1 && (x2 && x3) && inTags tags tg) := by
   unfold hitR hasR
   rw [← ba_beq]
   simp only [e1, e2, e3]
  rw [hit] at hinv
  have hW := g_within tg tags none none h (by omega) (by omega) hs
  cases x1 with
  | false =>
   (repeat (first | refine gO rfl ?_ | (refine gM zM21 fun K1 hK1 => ?_; simp only [go_sem, ↓reduceIte, reduceCtorEq, nA, nB, nC, nD, nE, nF, hml, Int.toNat_natCast, gx, e1, e2, e3] <;> and_intros <;> first | (apply hK1; clear hK1 K1) | (intros; first | omega | decide) | skip)))
   refine awp_cond (t := _) rfl (fun h6 => by cases h6) (fun _ => ?_)
   (repeat (first | refine gO rfl ?_ | (refine gM zM21 fun K1 hK1 => ?_; simp only [go_sem, ↓reduceIte, reduceCtorEq, nA, nB, nC, nD, nE, nF] <;> and_intros <;> first | (apply hK1; clear hK1 K1) | (intros; first | omega | decide) | skip)))
   exact ⟨g - 1, by omega, j + 1, o, by omega, hinv, rfl⟩
  | true =>
   cases x2 with
   | false =>
    (repeat (first | refine gO rfl ?_ | (refine gM zM21 fun K1 hK1 => ?_; simp only [go_sem, ↓reduceIte, reduceCtorEq, nA, nB, nC, nD, nE, nF, hml, Int.toNat_natCast, gx, e1, e2, e3] <;> and_intros <;> first | (apply hK1; clear hK1 K1) | (intros; first | omega | decide) | skip)))
    refine awp_cond (t := _) rfl (fun h6 => by cases h6) (fun _ => ?_)
    (repeat (first | refine gO rfl ?_ | (refine gM zM21 fun K1 hK1 => ?_; simp only [go_sem, ↓reduceIte, reduceCtorEq, nA, nB, nC, nD, nE, nF] <;> and_intros <;> first | (apply hK1; clear hK1 K1) | (intros; first | omega | decide) | skip)))
    exact ⟨g - 1, by omega, j + 1, o, by omega, hinv, rfl⟩
   | true =>
    cases x3 with
    | false =>
     (repeat (first | refine gO rfl ?_ | (refine gM zM21 fun K1 hK1 => ?_; simp only [go_sem, ↓reduceIte, reduceCtorEq, nA, nB, nC, nD, nE, nF, hml, Int.toNat_natCast, gx, e1, e2, e3] <;> and_intros <;> first | (apply hK1; clear hK1 K1) | (intros; first | omega | decide) | skip)))
     refine awp_cond (t := _) rfl (fun h6 => by cases h6) (fun _ => ?_)
     (repeat (first | refine gO rfl ?_ | (refine gM zM21 fun K1 hK1 => ?_; simp only [go_sem, ↓reduceIte, reduceCtorEq, nA, nB, nC, nD, nE, nF] <;> and_intros <;> first | (apply hK1; clear hK1 K1) | (intros; first | omega | decide) | skip)))
     exact ⟨g - 1, by omega, j + 1, o, by omega, hinv, rfl⟩
    | true =>
     (repeat (first | refine gO rfl ?_ | (refine gM zM21 fun K1 hK1 => ?_; simp only [go_sem, ↓reduceIte, reduceCtorEq, nA, nB, nC, nD, nE, nF, hml, Int.toNat_natCast, gx, e1, e2, e3] <;> and_intros <;> first | (apply hK1; clear hK1 K1) | (intros; first | omega | decide) | skip)))
     rotate_left
     ·exact fun h => h.elim
     refine hW.mono ?_
     rintro _ hz ⟨rfl, hh⟩; refine ⟨rfl, ?_⟩; apply hK1; clear hK1 K1; rw [hh]; clear hh hz
     (repeat (first | refine gO rfl ?_ | (refine gM zM21 fun K1 hK1 => ?_; simp only [go_sem, ↓reduceIte, reduceCtorEq, nA, nB, nC, nD, nE, nF, hml] <;> and_intros <;> first | (apply hK1; clear hK1 K1) | (intros; first | omega | decide) | skip)))
     simp only [Bool.true_and] at hinv
     cases hb : inTags tags tg with
     | false =>
      rw [hb] at hinv
      refine awp_cond (t := _) rfl (fun h6 => by cases h6) (fun _ => ?_)
      (repeat (first | refine gO rfl ?_ | (refine gM zM21 fun K1 hK1 => ?_; simp only [go_sem, ↓reduceIte, reduceCtorEq, nA, nB, nC, nD, nE, nF] <;> and_intros <;> first | (apply hK1; clear hK1 K1) | (intros; first | omega | decide) | skip)))
      exact ⟨g - 1, by omega, j + 1, o, by omega, hinv, rfl⟩
     | true =>
      rw [hb, if_pos rfl] at hinv
      refine awp_cond (t := _) rfl (fun _ => ?_) (fun h6 => by cases h6)
      (repeat (first | refine gO rfl ?_ | (refine gM zM21 fun K1 hK1 => ?_; simp only [go_sem, ↓reduceIte, reduceCtorEq, nA, nB, nC, nD, nE, nF] <;> and_intros <;> first | (apply hK1; clear hK1 K1) | (intros; first | omega | decide) | skip)))
      cases bb with
      | true =>
       refine awp_cond (t := _) rfl (fun _ => ?_) (fun h6 => by cases h6)
       (repeat (first | refine gO rfl ?_ | (refine gM zM21 fun K1 hK1 => ?_; simp only [go_sem, ↓reduceIte, reduceCtorEq, nA, nB, nC, nD, nE, nF] <;> and_intros <;> first | (apply hK1; clear hK1 K1) | (intros; first | omega | decide) | skip)))
       simp only [Tryz.results71, go_sem, ↓reduceIte, reduceCtorEq, nA, nB, nC, nD, nE, nF]
       exact ⟨_, _, Weak.refl _, Hp.le.refl _, by rw [← hinv]; rfl, rfl⟩
      | false =>
       refine awp_cond (t := _) rfl (fun h6 => by cases h6) (fun _ => ?_)
       (repeat (first | refine gO rfl ?_ | (refine gM zM21 fun K1 hK1 => ?_; simp only [go_sem, ↓reduceIte, reduceCtorEq, nA, nB, nC, nD, nE, nF] <;> and_intros <;> first | (apply hK1; clear hK1 K1) | (intros; first | omega | decide) | skip)))
       exact ⟨g - 1, by omega, j + 1, true, by omega, hinv, rfl⟩
 ·skip
  simp only [decide_eq_false_iff_not] at h5
  have hjl : j = rs.length := by omega
  subst hjl
  rw [List.drop_length, mayL] at hinv
  (repeat (first | refine gO rfl ?_ | (refine gM zM21 fun K1 hK1 => ?_; simp only [go_sem, ↓reduceIte, reduceCtorEq, nA, nB, nC, nD, nE, nF] <;> and_intros <;> first | (apply hK1; clear hK1 K1) | (intros; first | omega | decide) | skip)))
  simp only [Tryz.results71, go_sem, ↓reduceIte, reduceCtorEq, nA, nB, nC, nD, nE, nF]
  exact ⟨_, _, Weak.refl _, Hp.le.refl _, by rw [← hinv], rfl⟩
theorem guF_tags {p : Gu} (h : guF p = 0) : p.tags.Pairwise fun a b => ltB a b = true := by
 unfold guF at h
 split at h
 ·cases h
 ·split at h
  ·exact (rise_sorted _ _ h).1
  ·cases h
theorem quF_gu {rs : List Rt} {p : Gu} {item : ByteArray} (h : quF rs p item = 0) : rightsF rs = 0 ∧ guF p = 0 ∧ keyF item = 0 := by
 unfold quF at h
 split at h
 ·rename_i h1
  split at h
  ·rename_i h2; exact ⟨h1, h2, h⟩
  ·rename_i h2; exact absurd h h2
 ·rename_i h1; exact absurd h h1
theorem g_May (rs : List Rt) (p : Gu) (item : ByteArray) (x : Int) (kk : Option Nat) (hl : rs.length ≤ 500) (hok : ∀ r ∈ rs, RtOk r) (hp : GuOk p) (hi : item.size ≤ 4) (h : Hp) :
  ACalls Tryz.prog 15 [.row 5 (rs.map encRt) kk, .agg (encGu p), .v (.string item), .v (.int .i64 x)] h
   (fun r h' => r = (if quF rs p item = 0 then (if momF x = 0 then .tup [.v (.bool (mayL p.tags item x rs false)), .v (.int .i64 0)] else .tup [.v (.bool false), .v (.int .i64 (momF x))]) else .tup [.v (.bool false), .v (.int .i64 (quF rs p item))]) ∧ h' = h) := by
 have hQ := g_question rs p item kk hl hok hp hi h
 have hM := g_momentFault x h
 have hG := fun hs => g_may rs p item x kk hl hok hp hs h
 have hw3 : encGu p = [.v (.string p.key), .v (.string p.scr), .v (.int .i64 p.zone), encGr p.tags] := rfl
 rw [hw3] at hQ hG ⊢
 unfold encGr at hQ hG ⊢
 refine gE Tryz.func15 rfl (by kernel_rfl) 25 rfl fun c => ?_
 (repeat (first | refine gO rfl ?_ | (refine gR fun K1 hK1 => ?_; simp only [go_sem, ↓reduceIte, reduceCtorEq, nA, nB, nC, nD, nE, nF] <;> and_intros <;> first | (apply hK1; clear hK1 K1) | (intros; first | omega | decide) | skip)))
 refine hQ.mono ?_; rintro _ hz ⟨rfl, hh⟩; apply hK1; clear hK1 K1; rw [hh]; clear hh hz
 (repeat (first | refine gO rfl ?_ | (refine gR fun K1 hK1 => ?_; simp only [go_sem, ↓reduceIte, reduceCtorEq, nA, nB, nC, nD, nE, nF] <;> and_intros <;> first | (apply hK1; clear hK1 K1) | (intros; first | omega | decide) | skip)))
 by_cases h1 : quF rs p item = 0
 ·refine awp_cond (t := _) rfl (fun h6 => by rw [h1] at h6; cases h6) (fun _ => ?_)
  (repeat (first | refine gO rfl ?_ | (refine gR fun K1 hK1 => ?_; simp only [go_sem, ↓reduceIte, reduceCtorEq, nA, nB, nC, nD, nE, nF] <;> and_intros <;> first | (apply hK1; clear hK1 K1) | (intros; first | omega | decide) | skip)))
  refine hM.mono ?_; rintro _ hz ⟨rfl, hh⟩; apply hK1; clear hK1 K1; rw [hh]; clear hh hz
  (repeat (first | refine gO rfl ?_ | (refine gR fun K1 hK1 => ?_; simp only [go_sem, ↓reduceIte, reduceCtorEq, nA, nB, nC, nD, nE, nF] <;> and_intros <;> first | (apply hK1; clear hK1 K1) | (intros; first | omega | decide) | skip)))
  by_cases h2 : momF x = 0
  ·refine awp_cond (t := _) rfl (fun h6 => by rw [h2] at h6; cases h6) (fun _ => ?_)
   (repeat (first | refine gO rfl ?_ | (refine gR fun K1 hK1 => ?_; simp only [go_sem, ↓reduceIte, reduceCtorEq, nA, nB, nC, nD, nE, nF] <;> and_intros <;> first | (apply hK1; clear hK1 K1) | (intros; first | omega | decide) | skip)))
   refine (hG (guF_tags (quF_gu h1).2.1)).mono ?_; rintro _ hz ⟨rfl, hh⟩; apply hK1; clear hK1 K1; rw [hh]; clear hh hz
   (repeat (first | refine gO rfl ?_ | (refine gR fun K1 hK1 => ?_; simp only [go_sem, ↓reduceIte, reduceCtorEq, nA, nB, nC, nD, nE, nF] <;> and_intros <;> first | (apply hK1; clear hK1 K1) | (intros; first | omega | decide) | skip)))
   simp only [Tryz.results15, go_sem, ↓reduceIte, reduceCtorEq, nA, nB, nC, nD, nE, nF]
   exact ⟨_, _, Weak.refl _, Hp.le.refl _, by rw [if_pos h1, if_pos h2], rfl⟩
  ·refine awp_cond (t := _) rfl (fun _ => ?_) (fun h6 => absurd h6 (by simpa using h2))
   (repeat (first | refine gO rfl ?_ | (refine gR fun K1 hK1 => ?_; simp only [go_sem, ↓reduceIte, reduceCtorEq, nA, nB, nC, nD, nE, nF] <;> and_intros <;> first | (apply hK1; clear hK1 K1) | (intros; first | omega | decide) | skip)))
   simp only [Tryz.results15, go_sem, ↓reduceIte, reduceCtorEq, nA, nB, nC, nD, nE, nF]
   exact ⟨_, _, Weak.refl _, Hp.le.refl _, by rw [if_pos h1, if_neg h2], rfl⟩
 ·refine awp_cond (t := _) rfl (fun _ => ?_) (fun h6 => absurd h6 (by simpa using h1))
  (repeat (first | refine gO rfl ?_ | (refine gR fun K1 hK1 => ?_; simp only [go_sem, ↓reduceIte, reduceCtorEq, nA, nB, nC, nD, nE, nF] <;> and_intros <;> first | (apply hK1; clear hK1 K1) | (intros; first | omega | decide) | skip)))
  simp only [Tryz.results15, go_sem, ↓reduceIte, reduceCtorEq, nA, nB, nC, nD, nE, nF]
  exact ⟨_, _, Weak.refl _, Hp.le.refl _, by rw [if_neg h1], rfl⟩
open Go Go.Lib
def onceI (l : List Int) : List Int := compact (l.mergeSort fun x y => decide (x ≤ y))
theorem comp_upI (d : Array Int) (hs : ∀ i j, i ≤ j → j < d.size → d[i]! ≤ d[j]!) : ∀ m, m ≤ d.size →
    (compactUpTo d m).Pairwise (fun x y => x ≤ y ∧ x ≠ y) ∧ ∀ x, x ∈ compactUpTo d m ↔ ∃ j, j < m ∧ d[j]! = x
  | 0, _ => ⟨by simp [compactUpTo], by simp [compactUpTo]⟩
  | m + 1, hm => by
    obtain ⟨h1, h2⟩ := comp_upI d hs m (by omega)
    rw [compactUpTo_succ]
    cases hk : keeps d m with
    | true =>
      simp only [if_true]
      refine ⟨List.pairwise_append.2 ⟨h1, by simp, fun x hx y hy => ?_⟩, fun x => ?_⟩
      · simp only [List.mem_singleton] at hy
        subst hy
        obtain ⟨j, hj, rfl⟩ := (h2 x).1 hx
        refine ⟨hs j m (by omega) (by omega), fun e => ?_⟩
        simp only [keeps, decide_eq_true_eq] at hk
        rcases hk with hk | hk
        · omega
        · have a1 := hs j (m - 1) (by omega) (by omega)
          have a2 := hs (m - 1) m (by omega) (by omega)
          rw [e] at a1
          exact hk (Int.le_antisymm a1 a2)
      · rw [List.mem_append, h2 x, List.mem_singleton]
        constructor
        · rintro (⟨j, hj, e⟩ | rfl)
          · exact ⟨j, by omega, e⟩
          · exact ⟨m, by omega, rfl⟩
        · rintro ⟨j, hj, e⟩
          by_cases hjm : j = m
          · subst hjm; exact .inr e.symm
          · exact .inl ⟨j, by omega, e⟩
    | false =>
      simp only [Bool.false_eq_true, if_false, List.append_nil]
      refine ⟨h1, fun x => ?_⟩
      rw [h2 x]
      simp only [keeps, decide_eq_false_iff_not, not_or, ne_eq, Decidable.not_not] at hk
      constructor
      · rintro ⟨j, hj, e⟩; exact ⟨j, by omega, e⟩
      · rintro ⟨j, hj, e⟩
        by_cases hjm : j = m
        · subst hjm; exact ⟨j - 1, by omega, by rw [← e, hk.2]⟩
        · exact ⟨j, by omega, e⟩
theorem onceI_ok (l : List Int) : SU (onceI l) l := by
  have hp := List.pairwise_mergeSort (le := fun x y : Int => decide (x ≤ y)) (fun a b c h1 h2 => by simp only [decide_eq_true_eq] at *; omega) (fun a b => by simp only [Bool.or_eq_true, decide_eq_true_eq]; omega) l
  have hm := List.mergeSort_perm l fun x y => decide (x ≤ y)
  unfold onceI
  generalize (l.mergeSort fun x y => decide (x ≤ y)) = zs at hp hm ⊢
  have hs : ∀ i j, i ≤ j → j < zs.toArray.size → zs.toArray[i]! ≤ zs.toArray[j]! := fun i j hij hj => by
    have hj' : j < zs.length := by simpa using hj
    have e1 : zs.toArray[i]! = zs[i] := by simp [getElem!_pos, show i < zs.length by omega]
    have e2 : zs.toArray[j]! = zs[j] := by simp [getElem!_pos, hj']
    rw [e1, e2]
    by_cases e : i = j
    · subst e; exact Int.le_refl _
    · have := List.pairwise_iff_getElem.1 hp i j (by omega) hj' (by omega)
      simpa using this
  obtain ⟨h1, h2⟩ := comp_upI zs.toArray hs zs.length (by simp)
  refine ⟨h1.imp (fun h => by omega), fun x => ?_⟩
  show x ∈ compactUpTo zs.toArray zs.length ↔ _
  rw [h2 x, ← hm.mem_iff]
  constructor
  · rintro ⟨j, hj, rfl⟩
    have e2 : zs.toArray[j]! = zs[j] := by simp [getElem!_pos, hj]
    rw [e2]; exact List.getElem_mem hj
  · intro hx
    obtain ⟨j, hj, e⟩ := List.getElem_of_mem hx
    exact ⟨j, hj, by rw [← e]; simp [getElem!_pos, hj]⟩
theorem onceI_len (l : List Int) : (onceI l).length ≤ l.length := by
  unfold onceI
  have h : ∀ zs : List Int, (compact zs).length ≤ zs.length := fun zs => by
    unfold compact compactUpTo
    rw [List.length_map]
    exact Nat.le_trans (List.length_filter_le _ _) (by simp)
  exact Nat.le_trans (h _) (by simp)
def edgA (item : ByteArray) (fr t2 : Int) (r : Rt) : List Int := [r.2.2.1, r.2.2.2.1].filter fun n => decide (r.1 = item) && (decide (fr < n) && decide (n < t2))
def cuts0 (item : ByteArray) (fr t2 : Int) (l : List Rt) : List Int := [fr, t2] ++ l.flatMap (edgA item fr t2)
theorem cuts0_mem (item : ByteArray) (fr t2 : Int) (l : List Rt) (x : Int) : x ∈ cuts0 item fr t2 l ↔ x ∈ cutsP item fr t2 l := by
  unfold cuts0 cutsP edgA
  simp only [List.mem_append, List.mem_flatMap, List.mem_filter, Bool.and_eq_true, decide_eq_true_eq]
  refine or_congr Iff.rfl ⟨?_, ?_⟩
  · rintro ⟨r, h1, h2, h3, h4⟩; exact ⟨⟨r, ⟨h1, h3⟩, h2⟩, h4⟩
  · rintro ⟨⟨r, ⟨h1, h3⟩, h2⟩, h4⟩; exact ⟨r, h1, h2, h3, h4⟩
theorem cuts0_len (item : ByteArray) (fr t2 : Int) (l : List Rt) : (cuts0 item fr t2 l).length ≤ 2 + 2 * l.length := by
  unfold cuts0
  rw [List.length_append]
  have h : ∀ l : List Rt, (l.flatMap (edgA item fr t2)).length ≤ 2 * l.length := fun l => by
    induction l with
    | nil => simp
    | cons r l ih =>
      rw [List.flatMap_cons, List.length_append, List.length_cons]
      have : (edgA item fr t2 r).length ≤ 2 := List.length_filter_le _ _
      omega
  have := h l
  simp only [List.length_cons, List.length_nil]
  omega
def timesP (tags : List ByteArray) (item : ByteArray) (fr t2 : Int) (l : List Rt) : List Wnd := runsW (fun x => mayL tags item x l false) (onceI (cuts0 item fr t2 l)) []
open Go Go.RowKit Go.Sort Go.Lib Go.Proofs
set_option maxHeartbeats 4000000
theorem repL_vals {α : Type} {G : Gh} (f : α → List Value) {us : List Value} (l : List α) (h : RepL G (l.map fun x => (f x).map AV.v).flatten us) : us = l.flatMap f := by
 have e : (l.map fun x => (f x).map AV.v).flatten = (l.flatMap f).map AV.v := by
  clear h
  induction l with
  | nil => rfl
  | cons x q ih => simp [ih]
 rw [e] at h
 obtain ⟨h1, h2⟩ := h
 apply List.ext_getElem (by simpa using h1)
 intro j a b
 have h3 := (h2 j (by simpa using b) a).1
 simp only [List.getElem_map] at h3 ⊢
 generalize us[j] = y at h3
 cases h3; rfl
theorem repL_vals_mk {α : Type} (G : Gh) (f : α → List Value) (h1 : ∀ x, ∀ v ∈ f x, v.oneCell' = true) (l : List α) : RepL G (l.map fun x => (f x).map AV.v).flatten (l.flatMap f) := by
 have e : (l.map fun x => (f x).map AV.v).flatten = (l.flatMap f).map AV.v := by
  induction l with
  | nil => rfl
  | cons x q ih => simp [ih]
 rw [e]
 refine ⟨by simp, fun j a b => ?_⟩
 have hv : ((l.flatMap f)[j]'(by simpa using a)).oneCell' = true := by
  obtain ⟨x, _, hx⟩ := List.mem_flatMap.1 (List.getElem_mem (show j < (l.flatMap f).length by simpa using a))
  exact h1 x _ hx
 simp only [List.getElem_map]
 exact ⟨.v _ hv, hv⟩
theorem vs_one {vs : Array Value} (h : vs.size = 1) : vs = #[vs.getD 0 undef] := by
 apply Array.ext (by simpa using h)
 intro j hj hj'
 simp only [List.size_toArray, List.length_cons, List.length_nil] at hj'
 have hc : j = 0 := by omega
 subst hc; simp [Array.getD, h]
def ivV (x : Int) : List Value := [.int .i64 x]
theorem iV_map (l : List Int) : l.map encI = l.map fun x => (ivV x).map AV.v := rfl
theorem iV_flat (l : List Int) : l.flatMap ivV = l.map (Value.int .i64) := by
 induction l with
 | nil => rfl
 | cons x q ih => rw [List.flatMap_cons, ih]; rfl
theorem iV_one (x : Int) : ∀ v ∈ ivV x, v.oneCell' = true := by
 intro v hv
 simp [ivV] at hv
 subst hv; rfl
theorem put_block {α : Type} [Inhabited α] (enc : α → Value) (w : World) (g q : Nat) (d : Array α) (os : Array Obj) (b : Nat) (hb : b < w.heap.size) (hne : b ≠ g) : (grow (putRow enc (Sort.ahead w q) g 0 d) os).heap[b]? = w.heap[b]? := by
 show ((w.heap.modify g (onCells _)) ++ os)[b]? = _
 rw [Array.getElem?_append_left (by simpa using hb), Array.getElem?_modify, if_neg (Ne.symm hne)]
theorem put_size {α : Type} [Inhabited α] (enc : α → Value) (w : World) (g q : Nat) (d : Array α) (os : Array Obj) : w.heap.size ≤ (grow (putRow enc (Sort.ahead w q) g 0 d) os).heap.size := by
 simp [grow, putRow, mapBlock, Sort.ahead]
theorem bel_grow (w : World) (os : Array Obj) : Below w.heap.size w (grow w os) :=
 ⟨rfl, rfl, rfl, by simp [grow], fun k hk => by show (w.heap ++ os)[k]? = _; rw [Array.getElem?_append_left hk]⟩
theorem own_bel {w w' : World} {b size n : Nat} {e : TypeId} {v : Value} {xs : List Value} (h : w.ownsRow b e size v n xs) (hb : Below w.heap.size w w') : w'.ownsRow b e size v n xs := by
 obtain ⟨h1, h2⟩ := h
 refine ⟨h1, ?_⟩
 rcases h2 with h2 | ⟨g, c, cur, e1, e2, e3, e4⟩
 ·exact .inl h2
 ·exact .inr ⟨g, c, cur, e1, e2, (hb.block g (Array.getElem?_eq_some_iff.1 e3).1).trans e3, e4⟩
theorem g_sortI (k : Nat) (l : List Int) (h : Hp) (hT : h.T k = some (.cont 1 (l.map encI))) (h0 : 0 < l.length) (hb : l.length ≤ 100000) :
  ACalls Tryz.prog 78 [.arr 1 k l.length] h (fun r h' => r = .tup [] ∧ h' = { h with T := upd h.T k (some (.cont 1 ((l.mergeSort fun x y => decide (x ≤ y)).map encI))) }) := by
 refine acalls_mk (by kernel_rfl) fun G w vs hs hv ha => ?_
 have r0 := ha 0 (by simp)
 rw [vs_one hv]
 generalize vs.getD 0 undef = v at r0
 simp only [List.getElem_cons_zero] at r0
 rw [iV_map] at hT
 have hml : (l.map fun x => (ivV x).map AV.v).length = l.length := by simp
 cases r0 with
 | arr _ _ _ q m c ho =>
 obtain ⟨hknx, ⟨q', c', e2, _, _⟩, hm⟩ := ho
 rcases hs.tok k _ hT with ⟨_, e1⟩ | ⟨tt, cur, E, htl, htm, htp, hth, hts, htc, htcm, htf, htz, hzx, htr⟩
 ·rw [e1] at hml; simp at hml; omega
 rw [htl] at hm
 obtain ⟨hxe, _⟩ := hm.2 (by rw [htm, hml])
 simp only [Value.slice.injEq] at hxe e2
 obtain ⟨rfl, rfl, rfl⟩ := hxe
 have hfl : (l.map fun x => (ivV x).map AV.v).flatten.length = l.length * 1 := by rw [flatten_len hzx, hml]
 rw [hfl] at htr
 have hcs := repL_vals ivV l htr
 rw [htz] at hts
 have hle : l.length ≤ tt.c := by rw [← hml, ← htm]; exact htc
 have hown : w.ownsRow 0 E 1 (.slice (some ⟨tt.g, 0, none⟩) l.length tt.c) l.length (l.map (Value.int .i64)) := by
  refine ⟨by simp, .inr ⟨tt.g, tt.c, cur, rfl, Nat.zero_le _, hth, hle, htcm, hts, ?_⟩⟩
  rw [← iV_flat]
  exact hcs
 have hblk : tt.g < w.heap.size := (Array.getElem?_eq_some_iff.1 hth).1
 obtain ⟨g4, c4, hv4, _, _, hnc4, _, _, hH⟩ := holds_of_ownsRow hown (by simp)
 simp only [Value.slice.injEq, Option.some.injEq, Addr.mk.injEq, and_true, true_and] at hv4
 obtain ⟨rfl, rfl⟩ := hv4
 have sm : Sim G [] ⟨[], [], h⟩ ⟨#[], []⟩ w := ⟨hs, Nat.le_refl _, fun t ht => by simp at ht, rfl, ⟨rfl, fun j b cs e => by simp at e, fun b hb => by simp at hb, List.nodup_nil⟩⟩
 refine (Tryz.slices_Sort_int tt.g 0 tt.c l w hH hblk (by omega)).mono ?_
 rintro e w' ⟨rfl, n, os, rfl⟩
 obtain ⟨ts, hts2⟩ : ∃ ts, ts = l.mergeSort fun x y => decide (x ≤ y) := ⟨_, rfl⟩
 rw [← hts2]
 have htl2 : ts.length = l.length := by rw [hts2, List.length_mergeSort]
 have own2 := own_bel (ownsRow_putRow (q := n) (k := l.length) hown htl2 (Nat.le_refl _)) (bel_grow (putRow (Value.int .i64) (Sort.ahead w n) tt.g 0 ts.toArray) os)
 rw [List.take_of_length_le (by omega)] at own2
 rcases own2.2 with ⟨h9, _⟩ | ⟨g9, c9, cur9, hv9, _, hh9, _, _, hsz9, hx9⟩
 ·cases h9
 simp only [Value.slice.injEq, Option.some.injEq, Addr.mk.injEq] at hv9
 obtain ⟨⟨rfl, _, _⟩, _, rfl⟩ := hv9
 have hzd : ∀ x ∈ ts.map fun x => (ivV x).map AV.v, x.length = 1 := fun x hx => by obtain ⟨y, _, rfl⟩ := List.mem_map.1 hx; rfl
 have hfd : (ts.map fun x => (ivV x).map AV.v).flatten.length = l.length := by rw [flatten_len hzd, List.length_map, htl2, Nat.mul_one]
 obtain ⟨G', rfl, s2, g2, f2⟩ := sm.setCont (k := k) (z := 1) (xs := ts.map fun x => (ivV x).map AV.v) (B := tt.g) (c := tt.c) (arr := cur9) (E := E) hT (fun b hb' hne => put_block _ w tt.g n _ os b hb' hne) hh9 hsz9
  htf hzd (by rw [hfd, show List.take l.length cur9.toList = List.take (l.length * 1) cur9.toList by rw [Nat.mul_one], hx9, ← iV_flat]; exact repL_vals_mk G ivV iV_one _) (by rw [List.length_map, htl2]; exact hle) htcm (by rw [List.length_map, htl2]; exact h0) (.inr ⟨by rw [hml, List.length_map, htl2], rfl, tt, htl, rfl, rfl⟩) (.inr ⟨tt, htl, rfl⟩) rfl rfl rfl (put_size _ w tt.g n _ os)
 rw [← iV_map] at s2 f2 g2
 exact ⟨_, rfl, .tup [], _, _, ⟨rfl, rfl⟩, g2, f2, s2.hs, .tup [] #[] (fun _ => undef) rfl (fun j hj => by simp at hj) (fun j hj => by simp at hj)⟩
theorem Rep.cutRow {G : Gh} {xs ys : List (List AV)} {z : Nat} {a : Option Addr} {n c : Nat} (h : Rep G (.row z (xs ++ ys) none) (.slice a n c)) (hn : n = (xs ++ ys).length) : Rep G (.row z xs none) (.slice a xs.length c) := by
 rcases Rep.row_inv h with ⟨a', e1, e⟩ | ⟨g, o, c', us, e1, hc, hz, hru, hu⟩
 ·have e3 : xs = [] := (List.append_eq_nil_iff.1 e).1
  subst e3
  simp only [Value.slice.injEq] at e1
  obtain ⟨rfl, _, rfl⟩ := e1
  exact Rep.nilA _ _
 ·simp only [Value.slice.injEq] at e1
  obtain ⟨rfl, _, rfl⟩ := e1
  have h1 := hru.take xs.flatten.length
  rw [List.flatten_append, List.take_left] at h1
  refine Rep.row_mk (us := us.take xs.flatten.length) (by simp at hc; omega) (fun y hy => hz y (by simp [hy])) h1 fun j y hy => ?_
  rw [List.getElem?_take] at hy
  split at hy
  ·exact hu j y hy
  ·cases hy
theorem g_compI (k : Nat) (l : List Int) (h : Hp) (hT : h.T k = some (.cont 1 (l.map encI))) (h0 : 0 < l.length) (hb : l.length ≤ 100000) :
  ACalls Tryz.prog 79 [.arr 1 k l.length] h (fun r h' => r = .row 1 ((Lib.compact l).map encI) none ∧ h' = { h with T := upd h.T k none }) := by
 refine acalls_mk (by kernel_rfl) fun G w vs hs hv ha => ?_
 have r0 := ha 0 (by simp)
 rw [vs_one hv]
 generalize vs.getD 0 undef = v at r0
 simp only [List.getElem_cons_zero] at r0
 rw [iV_map] at hT
 have hml : (l.map fun x => (ivV x).map AV.v).length = l.length := by simp
 cases r0 with
 | arr _ _ _ q m c ho =>
 obtain ⟨hknx, ⟨q', c', e2, _, _⟩, hm⟩ := ho
 rcases hs.tok k _ hT with ⟨_, e1⟩ | ⟨tt, cur, E, htl, htm, htp, hth, hts, htc, htcm, htf, htz, hzx, htr⟩
 ·rw [e1] at hml; simp at hml; omega
 rw [htl] at hm
 obtain ⟨hxe, _⟩ := hm.2 (by rw [htm, hml])
 simp only [Value.slice.injEq] at hxe e2
 obtain ⟨rfl, rfl, rfl⟩ := hxe
 have hfl : (l.map fun x => (ivV x).map AV.v).flatten.length = l.length * 1 := by rw [flatten_len hzx, hml]
 rw [hfl] at htr
 have hcs := repL_vals ivV l htr
 rw [htz] at hts
 have hle : l.length ≤ tt.c := by rw [← hml, ← htm]; exact htc
 have hown : w.ownsRow 0 E 1 (.slice (some ⟨tt.g, 0, none⟩) l.length tt.c) l.length (l.map (Value.int .i64)) := by
  refine ⟨by simp, .inr ⟨tt.g, tt.c, cur, rfl, Nat.zero_le _, hth, hle, htcm, hts, ?_⟩⟩
  rw [← iV_flat]
  exact hcs
 have hblk : tt.g < w.heap.size := (Array.getElem?_eq_some_iff.1 hth).1
 obtain ⟨g4, c4, hv4, _, _, hnc4, _, _, hH⟩ := holds_of_ownsRow hown (by simp)
 simp only [Value.slice.injEq, Option.some.injEq, Addr.mk.injEq, and_true, true_and] at hv4
 obtain ⟨rfl, rfl⟩ := hv4
 have sm : Sim G [] ⟨[], [], h⟩ ⟨#[], []⟩ w := ⟨hs, Nat.le_refl _, fun t ht => by simp at ht, rfl, ⟨rfl, fun j b cs e => by simp at e, fun b hb => by simp at hb, List.nodup_nil⟩⟩
 refine (Tryz.slices_Compact_int tt.g 0 tt.c l w hH (by omega) hle).mono ?_
 rintro e w' ⟨rfl, n, rfl⟩
 have hcl := Lib.compact_length_le l
 obtain ⟨cs, hcs2⟩ : ∃ cs, cs = Lib.compact l := ⟨_, rfl⟩
 rw [← hcs2] at hcl ⊢
 obtain ⟨ts, hts2⟩ : ∃ ts, ts = cs ++ List.replicate (l.length - cs.length) (0 : Int) := ⟨_, rfl⟩
 rw [← hts2]
 have htl2 : ts.length = l.length := by rw [hts2]; simp; omega
 have own2 := own_bel (ownsRow_putRow (q := n) (k := l.length) hown htl2 (Nat.le_refl _)) (bel_grow (putRow (Value.int .i64) (Sort.ahead w n) tt.g 0 ts.toArray) #[])
 rw [List.take_of_length_le (by omega)] at own2
 have hg0 : grow (putRow (Value.int .i64) (Sort.ahead w n) tt.g 0 ts.toArray) #[] = putRow (Value.int .i64) (Sort.ahead w n) tt.g 0 ts.toArray := by
  unfold grow; rw [Array.append_empty]
 rw [← hg0]
 rcases own2.2 with ⟨h9, _⟩ | ⟨g9, c9, cur9, hv9, _, hh9, _, _, hsz9, hx9⟩
 ·cases h9
 simp only [Value.slice.injEq, Option.some.injEq, Addr.mk.injEq] at hv9
 obtain ⟨⟨rfl, _, _⟩, _, rfl⟩ := hv9
 have hzd : ∀ x ∈ ts.map fun x => (ivV x).map AV.v, x.length = 1 := fun x hx => by obtain ⟨y, _, rfl⟩ := List.mem_map.1 hx; rfl
 have hfd : (ts.map fun x => (ivV x).map AV.v).flatten.length = l.length := by rw [flatten_len hzd, List.length_map, htl2, Nat.mul_one]
 obtain ⟨G', hG', s2, g2, f2⟩ := sm.setCont (k := k) (z := 1) (xs := ts.map fun x => (ivV x).map AV.v) (B := tt.g) (c := tt.c) (arr := cur9) (E := E) hT (fun b hb' hne => put_block _ w tt.g n _ #[] b hb' hne) hh9 hsz9
  htf hzd (by rw [hfd, show List.take l.length cur9.toList = List.take (l.length * 1) cur9.toList by rw [Nat.mul_one], hx9, ← iV_flat]; exact repL_vals_mk G ivV iV_one _) (by rw [List.length_map, htl2]; exact hle) htcm (by rw [List.length_map, htl2]; exact h0) (.inr ⟨by rw [hml, List.length_map, htl2], rfl, tt, htl, rfl, rfl⟩) (.inr ⟨tt, htl, rfl⟩) rfl rfl rfl (put_size _ w tt.g n _ #[])
 obtain ⟨G2, hle2, hfr2, hs2, hfz⟩ := s2.hs.freeze (h2 := { h with T := upd h.T k none }) (fun j => j = k) rfl (fun j hj => by subst hj; exact upd_same _ _ _) (fun j hj => by show upd _ _ _ j = upd _ _ _ j; rw [upd_other _ _ hj, upd_other _ _ hj])
 have harr : Rep G' (.arr 1 k l.length) (.slice (some ⟨tt.g, 0, none⟩) l.length tt.c) := by
  refine .arr _ _ _ _ _ _ ⟨by rw [hG']; exact hknx, ⟨some ⟨tt.g, 0, none⟩, tt.c, rfl, hle, .inr ⟨tt.g, rfl⟩⟩, ?_⟩
  rw [hG']
  simp only [upd_same]
  exact ⟨by simp [htl2], fun _ => by simp⟩
 have hrow := hfz k 1 (ts.map fun x => (ivV x).map AV.v) _ rfl (upd_same _ _ _) (by rw [List.length_map, htl2]; exact harr) _ rfl hzd fun us hus => hus.mono hle2
 rw [hts2, List.map_append] at hrow
 have hrow2 := Rep.cutRow hrow (by rw [← List.map_append, ← hts2, List.length_map, htl2])
 rw [List.length_map] at hrow2
 exact ⟨_, rfl, _, _, G2, ⟨rfl, rfl⟩, g2.trans hle2, f2.trans hfr2, hs2, hrow2⟩
abbrev zPBE : List Nat := [0, 1, 2, 3, 4, 5, 6, 7, 8]
abbrev zPBP : List (Nat × List Nat × List Nat) := []
attribute [go_sem] zPBE zPBP
set_option maxHeartbeats 8000000
def encW2 (w : Wnd) : List AV := [.v (.int .i64 w.1), .v (.int .i64 w.2)]
structure RunOk (f : Int → Bool) (lo c : Int) (acc : List Wnd) : Prop where
  cov : ∀ x, lo ≤ x → x < c → ((∃ w ∈ acc, w.1 ≤ x ∧ x < w.2) ↔ f x = true)
  bd : ∀ w ∈ acc, lo ≤ w.1 ∧ w.1 < w.2 ∧ w.2 ≤ c
  up : acc.Pairwise fun v w => v.2 < w.2
  stop : ∀ w ∈ acc, w.2 < c → f w.2 = false
theorem RunOk.no {f : Int → Bool} {lo c d : Int} {acc : List Wnd} (h : RunOk f lo c acc) (hcd : c < d) (hf : ∀ x, c ≤ x → x < d → f x = f c) (hc : f c = false) : RunOk f lo d acc where
  cov x h1 h2 := by
    by_cases h3 : x < c
    · exact h.cov x h1 h3
    · rw [hf x (by omega) h2, hc]
      constructor
      · rintro ⟨w, hw, _, h5⟩
        have := h.bd w hw; omega
      · intro h4; cases h4
  bd w hw := by have := h.bd w hw; omega
  up := h.up
  stop w hw h1 := by
    have h2 := h.bd w hw
    by_cases h3 : w.2 < c
    · exact h.stop w hw h3
    · rw [show w.2 = c by omega]; exact hc
theorem RunOk.yes {f : Int → Bool} {lo c d : Int} {acc : List Wnd} (h : RunOk f lo c acc) (hlo : lo ≤ c) (hcd : c < d) (hf : ∀ x, c ≤ x → x < d → f x = f c) (hc : f c = true) : RunOk f lo d (pushW acc c d) := by
  rcases List.eq_nil_or_concat acc with e | ⟨acc', w, e⟩
  · subst e
    have e2 : pushW [] c d = [(c, d)] := rfl
    rw [e2]
    refine ⟨fun x h1 h2 => ?_, fun w hw => ?_, by simp, fun w hw h1 => ?_⟩
    · by_cases h3 : x < c
      · have h4 := h.cov x h1 h3
        rw [← h4]
        constructor
        · rintro ⟨w, hw, h5, _⟩
          rw [List.mem_singleton.1 hw] at h5
          simp only at h5; omega
        · rintro ⟨w, hw, _⟩; cases hw
      · rw [hf x (by omega) h2, hc]
        exact ⟨fun _ => rfl, fun _ => ⟨(c, d), by simp, by simp only; omega, by simp only; omega⟩⟩
    · rw [List.mem_singleton.1 hw]
      simp only; omega
    · rw [List.mem_singleton.1 hw] at h1
      simp only at h1; omega
  · rw [List.concat_eq_append] at e
    subst e
    have hup := List.pairwise_append.1 h.up
    have hw := h.bd w (by simp)
    have hpw : pushW (acc' ++ [w]) c d = if w.2 = c then acc' ++ [(w.1, d)] else acc' ++ [w] ++ [(c, d)] := by
      unfold pushW
      rw [List.getLast?_append]
      simp
    rw [hpw]
    by_cases hwc : w.2 = c
    · rw [if_pos hwc]
      refine ⟨fun x h1 h2 => ?_, fun v hv => ?_, ?_, fun v hv h1 => ?_⟩
      · by_cases h3 : x < c
        · rw [← h.cov x h1 h3]
          constructor
          · rintro ⟨v, hv, h4, h5⟩
            rcases List.mem_append.1 hv with hv | hv
            · exact ⟨v, by simp [hv], h4, h5⟩
            · rw [List.mem_singleton.1 hv] at h4
              exact ⟨w, by simp, h4, by omega⟩
          · rintro ⟨v, hv, h4, h5⟩
            rcases List.mem_append.1 hv with hv | hv
            · exact ⟨v, by simp [hv], h4, h5⟩
            · rw [List.mem_singleton.1 hv] at h4 h5
              exact ⟨(w.1, d), by simp, h4, by simp only; omega⟩
        · rw [hf x (by omega) h2, hc]
          exact ⟨fun _ => rfl, fun _ => ⟨(w.1, d), by simp, by simp only; omega, by simp only; omega⟩⟩
      · rcases List.mem_append.1 hv with hv | hv
        · have := h.bd v (by simp [hv]); omega
        · rw [List.mem_singleton.1 hv]; simp only; omega
      · refine List.pairwise_append.2 ⟨hup.1, by simp, fun v hv u hu => ?_⟩
        have := hup.2.2 v hv w (by simp)
        rw [List.mem_singleton.1 hu]; simp only; omega
      · rcases List.mem_append.1 hv with hv | hv
        · have := hup.2.2 v hv w (by simp)
          exact h.stop v (by simp [hv]) (by omega)
        · rw [List.mem_singleton.1 hv] at h1
          simp only at h1; omega
    · rw [if_neg hwc]
      have hall : ∀ v ∈ acc' ++ [w], v.2 < c := fun v hv => by
        have h1 := h.bd v hv
        rcases List.mem_append.1 hv with hv | hv
        · have := hup.2.2 v hv w (by simp); omega
        · rw [List.mem_singleton.1 hv] at h1 ⊢; omega
      refine ⟨fun x h1 h2 => ?_, fun v hv => ?_, ?_, fun v hv h1 => ?_⟩
      · by_cases h3 : x < c
        · rw [← h.cov x h1 h3]
          constructor
          · rintro ⟨v, hv, h4, h5⟩
            rcases List.mem_append.1 hv with hv | hv
            · exact ⟨v, hv, h4, h5⟩
            · rw [List.mem_singleton.1 hv] at h4
              simp only at h4; omega
          · rintro ⟨v, hv, h4, h5⟩
            exact ⟨v, List.mem_append.2 (.inl hv), h4, h5⟩
        · rw [hf x (by omega) h2, hc]
          exact ⟨fun _ => rfl, fun _ => ⟨(c, d), by simp, by simp only; omega, by simp only; omega⟩⟩
      · rcases List.mem_append.1 hv with hv | hv
        · have := h.bd v hv; omega
        · rw [List.mem_singleton.1 hv]; simp only; omega
      · refine List.pairwise_append.2 ⟨h.up, by simp, fun v hv u hu => ?_⟩
        have := hall v hv
        rw [List.mem_singleton.1 hu]; simp only; omega
      · rcases List.mem_append.1 hv with hv | hv
        · exact h.stop v hv (hall v hv)
        · rw [List.mem_singleton.1 hv] at h1
          simp only at h1; omega
theorem runs_ok (f : Int → Bool) (lo : Int) : ∀ (P : List Int) (c : Int) (acc : List Wnd), P.Pairwise (· < ·) → P.head? = some c → lo ≤ c → RunOk f lo c acc →
    (∀ i (h : i + 1 < P.length) x, P[i] ≤ x → x < P[i + 1] → f x = f P[i]) → ∃ e, P.getLast? = some e ∧ RunOk f lo e (runsW f P acc)
  | [], c, acc, _, h, _, _, _ => by cases h
  | [a], c, acc, _, h, _, hr, _ => by
    simp only [List.head?_cons, Option.some.injEq] at h
    subst h
    exact ⟨a, rfl, hr⟩
  | a :: b :: P, c, acc, hp, h, hlo, hr, hf => by
    simp only [List.head?_cons, Option.some.injEq] at h
    subst h
    have hp1 := List.pairwise_cons.1 hp
    have hab := hp1.1 b (by simp)
    have hf0 : ∀ x, a ≤ x → x < b → f x = f a := fun x h1 h2 => hf 0 (by simp) x h1 h2
    have hr2 : RunOk f lo b (if f a then pushW acc a b else acc) := by
      cases hfa : f a with
      | true => rw [if_pos rfl]; exact hr.yes hlo hab hf0 hfa
      | false => rw [if_neg (by decide)]; exact hr.no hab hf0 hfa
    obtain ⟨e, h1, h2⟩ := runs_ok f lo (b :: P) b _ hp1.2 rfl (by omega) hr2 fun i hi x h1 h2 => hf (i + 1) (by simp at hi ⊢; omega) x h1 h2
    exact ⟨e, by rw [← h1]; simp, h2⟩
theorem timesP_ok (tags : List ByteArray) (item : ByteArray) (fr t2 : Int) (l : List Rt) (h : fr ≤ t2) : RunOk (fun x => mayL tags item x l false) fr t2 (timesP tags item fr t2 l) := by
  have hok := onceI_ok (cuts0 item fr t2 l)
  have hm : ∀ x, x ∈ onceI (cuts0 item fr t2 l) ↔ x ∈ cutsP item fr t2 l := fun x => (hok.2 x).trans (cuts0_mem item fr t2 l x)
  have mP : ∀ x, x ∈ cutsP item fr t2 l ↔ x = fr ∨ x = t2 ∨ ((∃ r ∈ l, r.1 = item ∧ (x = r.2.2.1 ∨ x = r.2.2.2.1)) ∧ fr < x ∧ x < t2) := fun x => by
    unfold cutsP
    simp only [List.mem_append, List.mem_cons, List.not_mem_nil, or_false, List.mem_filter, List.mem_flatMap, Bool.and_eq_true, decide_eq_true_eq, or_assoc]
    constructor
    · rintro (h | h | ⟨⟨r, ⟨h1, h2⟩, h3⟩, h4⟩)
      · exact .inl h
      · exact .inr (.inl h)
      · exact .inr (.inr ⟨⟨r, h1, h2, h3⟩, h4⟩)
    · rintro (h | h | ⟨⟨r, h1, h2, h3⟩, h4⟩)
      · exact .inl h
      · exact .inr (.inl h)
      · exact .inr (.inr ⟨⟨r, ⟨h1, h2⟩, h3⟩, h4⟩)
  have bP : ∀ x ∈ onceI (cuts0 item fr t2 l), fr ≤ x ∧ x ≤ t2 := fun x hx => by
    rcases (mP x).1 ((hm x).1 hx) with e | e | ⟨_, e⟩ <;> omega
  have hhd : (onceI (cuts0 item fr t2 l)).head? = some fr := SU.head (S := onceI (cuts0 item fr t2 l)) ⟨hok.1, fun _ => Iff.rfl⟩ ((hm fr).2 ((mP fr).2 (.inl rfl))) fun x hx => (bP x hx).1
  have hls : (onceI (cuts0 item fr t2 l)).getLast? = some t2 := SU.last (S := onceI (cuts0 item fr t2 l)) ⟨hok.1, fun _ => Iff.rfl⟩ ((hm t2).2 ((mP t2).2 (.inr (.inl rfl)))) fun x hx => (bP x hx).2
  unfold timesP
  generalize hP : onceI (cuts0 item fr t2 l) = P at hok hm bP hhd hls
  have hf : ∀ i (hi : i + 1 < P.length) x, P[i] ≤ x → x < P[i + 1] → mayL tags item x l false = mayL tags item P[i] l false := by
    intro i hi x h1 h2
    refine (may_same tags item P[i] x l false fun r hr he => ?_).symm
    have hi2 : i < P.length := by omega
    have b1 := bP P[i] (List.getElem_mem _)
    have b2 := bP P[i + 1] (List.getElem_mem _)
    have key : ∀ n, n = r.2.2.1 ∨ n = r.2.2.2.1 → ¬ (P[i] < n ∧ n ≤ x) := fun n hn hc => by
      have hmem : n ∈ P := (hm n).2 ((mP n).2 (.inr (.inr ⟨⟨r, hr, he, hn⟩, by omega, by omega⟩)))
      obtain ⟨k, hk, e⟩ := List.mem_iff_getElem.1 hmem
      have hpw := List.pairwise_iff_getElem.1 hok.1
      rcases Nat.lt_trichotomy k i with h5 | h5 | h5
      · have := hpw k i hk hi2 h5; omega
      · subst h5; omega
      · by_cases h6 : k = i + 1
        · subst h6; omega
        · have := hpw (i + 1) k hi hk (by omega); omega
    have k1 := key r.2.2.1 (.inl rfl)
    have k2 := key r.2.2.2.1 (.inr rfl)
    unfold hasR
    rw [decide_eq_decide.2 (show r.2.2.1 ≤ P[i] ↔ r.2.2.1 ≤ x by omega), decide_eq_decide.2 (show P[i] < r.2.2.2.1 ↔ x < r.2.2.2.1 by omega)]
  obtain ⟨e, h1, h2⟩ := runs_ok (fun x => mayL tags item x l false) fr P fr [] hok.1 hhd (Int.le_refl _) ⟨fun x h1 h2 => by omega, by simp, by simp, by simp⟩ hf
  rw [h1] at hls
  simp only [Option.some.injEq] at hls
  subst hls
  exact h2
def covB (a b : Int) : List Wnd → Bool
  | [] => decide (b ≤ a)
  | w :: l => if a < w.1 then decide (b ≤ a) else covB (max a w.2) b l
theorem covB_iff (b : Int) : ∀ (S : List Wnd) (a : Int), S.Pairwise (fun v w => v.1 ≤ w.1) → (covB a b S = true ↔ ∀ x, a ≤ x → x < b → ∃ w ∈ S, w.1 ≤ x ∧ x < w.2)
  | [], a, _ => by
    unfold covB
    rw [decide_eq_true_eq]
    constructor
    · intro h x h1 h2; omega
    · intro h
      by_cases hab : b ≤ a
      · exact hab
      · obtain ⟨w, hw, _⟩ := h a (Int.le_refl _) (by omega); cases hw
  | w :: l, a, hp => by
    have hp1 := List.pairwise_cons.1 hp
    unfold covB
    by_cases h1 : a < w.1
    · rw [if_pos h1, decide_eq_true_eq]
      constructor
      · intro h x h2 h3; omega
      · intro h
        by_cases hab : b ≤ a
        · exact hab
        · obtain ⟨v, hv, h2, _⟩ := h a (Int.le_refl _) (by omega)
          rcases List.mem_cons.1 hv with rfl | hv
          · omega
          · have := hp1.1 v hv; omega
    · rw [if_neg h1, covB_iff b l _ hp1.2]
      constructor
      · intro h x h2 h3
        by_cases h4 : x < max a w.2
        · exact ⟨w, by simp, by omega, by omega⟩
        · obtain ⟨v, hv, h5⟩ := h x (by omega) h3
          exact ⟨v, by simp [hv], h5⟩
      · intro h x h2 h3
        obtain ⟨v, hv, h5, h6⟩ := h x (by omega) h3
        rcases List.mem_cons.1 hv with rfl | hv
        · omega
        · exact ⟨v, hv, h5, h6⟩
def appl (tags : List ByteArray) (item : ByteArray) (a b : Int) (r : Rt) : Bool := decide (r.1 = item) && (decide (r.2.2.1 < b) && (decide (a < r.2.2.2.1) && inTags tags r.2.1))
def byL (tags : List ByteArray) (item : ByteArray) (a b : Int) : List Rt → List Wnd → Option (List Wnd)
  | [], o => some o
  | r :: l, o => if appl tags item a b r = true then (if r.2.2.2.2 = true then none else byL tags item a b l (o ++ [(r.2.2.1, r.2.2.2.1)])) else byL tags item a b l o
theorem mayL_iff (tags : List ByteArray) (item : ByteArray) (x : Int) : ∀ (l : List Rt) (o : Bool), mayL tags item x l o = true ↔ (∀ r ∈ l, hitR tags item x r = true → r.2.2.2.2 = false) ∧ (o = true ∨ ∃ r ∈ l, hitR tags item x r = true)
  | [], o => by simp [mayL]
  | r :: l, o => by
    rw [mayL]
    by_cases h1 : hitR tags item x r = true
    · rw [if_pos h1]
      cases h2 : r.2.2.2.2 with
      | true =>
        rw [if_pos rfl]
        constructor
        · intro h; cases h
        · rintro ⟨h3, _⟩
          have := h3 r (by simp) h1
          rw [h2] at this; cases this
      | false =>
        rw [if_neg (by decide), mayL_iff tags item x l true]
        constructor
        · rintro ⟨h3, _⟩
          exact ⟨fun s hs hh => by
            rcases List.mem_cons.1 hs with rfl | hs
            · exact h2
            · exact h3 s hs hh, .inr ⟨r, by simp, h1⟩⟩
        · rintro ⟨h3, _⟩
          exact ⟨fun s hs hh => h3 s (by simp [hs]) hh, .inl rfl⟩
    · rw [if_neg h1, mayL_iff tags item x l o]
      constructor
      · rintro ⟨h3, h4⟩
        refine ⟨fun s hs hh => ?_, h4.imp id fun ⟨s, hs, hh⟩ => ⟨s, by simp [hs], hh⟩⟩
        rcases List.mem_cons.1 hs with rfl | hs
        · exact absurd hh h1
        · exact h3 s hs hh
      · rintro ⟨h3, h4⟩
        refine ⟨fun s hs hh => h3 s (by simp [hs]) hh, h4.imp id ?_⟩
        rintro ⟨s, hs, hh⟩
        rcases List.mem_cons.1 hs with rfl | hs
        · exact absurd hh h1
        · exact ⟨s, hs, hh⟩
theorem byL_none (tags : List ByteArray) (item : ByteArray) (a b : Int) : ∀ (l : List Rt) (o : List Wnd), byL tags item a b l o = none → ∃ r ∈ l, appl tags item a b r = true ∧ r.2.2.2.2 = true
  | [], o, h => by cases h
  | r :: l, o, h => by
    rw [byL] at h
    by_cases h1 : appl tags item a b r = true
    · rw [if_pos h1] at h
      cases h2 : r.2.2.2.2 with
      | true => exact ⟨r, by simp, h1, h2⟩
      | false =>
        rw [h2, if_neg (by decide)] at h
        obtain ⟨s, hs, h3⟩ := byL_none tags item a b l _ h
        exact ⟨s, by simp [hs], h3⟩
    · rw [if_neg h1] at h
      obtain ⟨s, hs, h3⟩ := byL_none tags item a b l _ h
      exact ⟨s, by simp [hs], h3⟩
theorem byL_some (tags : List ByteArray) (item : ByteArray) (a b : Int) : ∀ (l : List Rt) (o S : List Wnd), byL tags item a b l o = some S → (∀ r ∈ l, appl tags item a b r = true → r.2.2.2.2 = false) ∧ ∀ w, w ∈ S ↔ w ∈ o ∨ ∃ r ∈ l, appl tags item a b r = true ∧ w = (r.2.2.1, r.2.2.2.1)
  | [], o, S, h => by
    have h1 : o = S := by simpa [byL] using h
    subst h1
    exact ⟨by simp, by simp⟩
  | r :: l, o, S, h => by
    rw [byL] at h
    by_cases h1 : appl tags item a b r = true
    · rw [if_pos h1] at h
      cases h2 : r.2.2.2.2 with
      | true => rw [h2, if_pos rfl] at h; cases h
      | false =>
        rw [h2, if_neg (by decide)] at h
        obtain ⟨h3, h4⟩ := byL_some tags item a b l _ S h
        refine ⟨fun s hs hh => ?_, fun w => ?_⟩
        · rcases List.mem_cons.1 hs with rfl | hs
          · exact h2
          · exact h3 s hs hh
        · rw [h4 w]
          constructor
          · rintro (h5 | ⟨s, hs, h5⟩)
            · rcases List.mem_append.1 h5 with h5 | h5
              · exact .inl h5
              · exact .inr ⟨r, by simp, h1, List.mem_singleton.1 h5⟩
            · exact .inr ⟨s, by simp [hs], h5⟩
          · rintro (h5 | ⟨s, hs, h5⟩)
            · exact .inl (by simp [h5])
            · rcases List.mem_cons.1 hs with rfl | hs
              · exact .inl (by simp [h5.2])
              · exact .inr ⟨s, hs, h5⟩
    · rw [if_neg h1] at h
      obtain ⟨h3, h4⟩ := byL_some tags item a b l _ S h
      refine ⟨fun s hs hh => ?_, fun w => ?_⟩
      · rcases List.mem_cons.1 hs with rfl | hs
        · exact absurd hh h1
        · exact h3 s hs hh
      · rw [h4 w]
        refine or_congr Iff.rfl ⟨?_, ?_⟩
        · rintro ⟨s, hs, h5⟩; exact ⟨s, by simp [hs], h5⟩
        · rintro ⟨s, hs, h5⟩
          rcases List.mem_cons.1 hs with rfl | hs
          · exact absurd h5.1 h1
          · exact ⟨s, hs, h5⟩
theorem whole_iff (tags : List ByteArray) (item : ByteArray) (a b : Int) (l : List Rt) (hab : a < b) (hw : ∀ r ∈ l, r.2.2.1 < r.2.2.2.1) (B : Bool)
    (hB : (byL tags item a b l [] = none ∧ B = false) ∨ ∃ S S', byL tags item a b l [] = some S ∧ S'.Perm S ∧ S'.Pairwise (fun v w => v.1 ≤ w.1) ∧ B = covB a b S') :
    B = true ↔ ∀ x, a ≤ x → x < b → mayL tags item x l false = true := by
  have hh : ∀ r x, hitR tags item x r = true ↔ r.1 = item ∧ (r.2.2.1 ≤ x ∧ x < r.2.2.2.1) ∧ inTags tags r.2.1 = true := fun r x => by
    unfold hitR hasR
    simp only [Bool.and_eq_true, decide_eq_true_eq, and_assoc]
  have ha : ∀ r, appl tags item a b r = true ↔ r.1 = item ∧ r.2.2.1 < b ∧ a < r.2.2.2.1 ∧ inTags tags r.2.1 = true := fun r => by
    unfold appl
    simp only [Bool.and_eq_true, decide_eq_true_eq]
  rcases hB with ⟨h1, rfl⟩ | ⟨S, S', h1, hp, hs, rfl⟩
  · obtain ⟨r, hr, h2, h3⟩ := byL_none tags item a b l [] h1
    have h4 := (ha r).1 h2
    have h5 := hw r hr
    constructor
    · intro h; cases h
    · intro h
      have h6 := (mayL_iff tags item (max a r.2.2.1) l false).1 (h (max a r.2.2.1) (by omega) (by omega))
      have h7 := h6.1 r hr ((hh r _).2 ⟨h4.1, by omega, h4.2.2.2⟩)
      rw [h3] at h7; cases h7
  · obtain ⟨h2, h3⟩ := byL_some tags item a b l [] S h1
    rw [covB_iff b S' a hs]
    constructor
    · intro h x h4 h5
      rw [mayL_iff]
      refine ⟨fun r hr h6 => ?_, .inr ?_⟩
      · have h7 := (hh r x).1 h6
        exact h2 r hr ((ha r).2 ⟨h7.1, by omega, by omega, h7.2.2⟩)
      · obtain ⟨w, hw1, h6, h7⟩ := h x h4 h5
        rcases (h3 w).1 (hp.mem_iff.1 hw1) with h8 | ⟨r, hr, h8, rfl⟩
        · cases h8
        · have h9 := (ha r).1 h8
          exact ⟨r, hr, (hh r x).2 ⟨h9.1, ⟨h6, h7⟩, h9.2.2.2⟩⟩
    · intro h x h4 h5
      obtain ⟨_, h6⟩ := (mayL_iff tags item x l false).1 (h x h4 h5)
      rcases h6 with h6 | ⟨r, hr, h6⟩
      · cases h6
      · have h7 := (hh r x).1 h6
        exact ⟨(r.2.2.1, r.2.2.2.1), hp.mem_iff.2 ((h3 _).2 (.inr ⟨r, hr, (ha r).2 ⟨h7.1, by omega, by omega, h7.2.2⟩, rfl⟩)), h7.2.1.1, h7.2.1.2⟩
abbrev zPCE : List Nat := [0, 1, 2, 3, 4, 5, 6, 7, 8, 9, 10, 11, 12, 13]
abbrev zPCP : List (Nat × List Nat × List Nat) := [(14, [], [15, 16])]
abbrev zPDE : List Nat := [0, 1, 2, 3, 4, 5, 6, 7, 8, 9, 10, 11, 12, 13, 14]
abbrev zPDP : List (Nat × List Nat × List Nat) := [(15, [], [16]), (17, [], [])]
abbrev zPEE : List Nat := [0, 1, 2, 3, 4, 5, 6, 7, 8, 9, 10, 11, 12]
abbrev zPEP : List (Nat × List Nat × List Nat) := [(13, [], [14, 15, 16])]
attribute [go_sem] zPCE zPCP zPDE zPDP zPEE zPEP
theorem drop_at {α : Type} (l : List α) (j : Nat) (d : α) (h : j < l.length) : l.drop j = l.getD j d :: l.drop (j + 1) := drop_at' l j d h
theorem take_snoc {α : Type} (l : List α) (j : Nat) (d : α) (h : j < l.length) : l.take (j + 1) = l.take j ++ [l.getD j d] := by
 rw [List.take_succ_eq_append_getElem h, List.getD_eq_getElem?_getD, List.getElem?_eq_getElem h]; rfl
def encVW (x : Wnd) : AV := .agg (encW2 x)
theorem g_insW {f : Nat} {caps : List AV} (cf : Wnd → Wnd → Int) (k : Nat) (xs : List Wnd) (h : Hp) (hT : h.T k = some (.cont 2 (xs.map encW2))) (hl : xs.length ≤ 1000)
  (hc : ∀ x ∈ xs, ∀ y ∈ xs, ∀ T', ACalls Tryz.prog f ([encVW x, encVW y] ++ caps) ⟨h.H, T'⟩ (fun r h' => r = .v (.int .i64 (cf x y)) ∧ h' = ⟨h.H, T'⟩)) :
  ACalls Tryz.prog 228 [.arr 2 k xs.length, .v (.int .i64 0), .v (.int .i64 xs.length), .fn f caps] h (fun r h' => r = .tup [] ∧ h' = ⟨h.H, upd h.T k (some (.cont 2 ((sortI cf xs).map encW2)))⟩) := by
 refine gE Tryz.func228 rfl (by kernel_rfl) 49 rfl fun c => ?_
 (repeat (first | refine gO rfl ?_ | ((first | refine gR ?_ | (with_reducible refine wM ?_ ?_) | ((with_reducible refine xS ?_); refine uD 4 zM22 zPCE zPCP 53 rfl (by kernel_rfl) ?_) | ((with_reducible refine xR ?_); refine uE 6 zM22 zPDE zPDP 53 rfl (by kernel_rfl) ?_)) <;> ((try with_reducible intro K1 hK1); simp only [go_sem, ↓reduceIte, reduceCtorEq, nA, nB, nC, nD, nE, nF] <;> and_intros <;> first | (apply hK1; clear hK1 K1) | (intros; first | omega | decide | (simp_all <;> omega)) | skip))))
 refine awp_loopC (rl false [0, 4, 4, 1, 44]) 0 (fun g s => ∃ i : Nat, 1 ≤ i ∧ g + i = xs.length + 1 ∧
  s = ⟨((.arr 2 k xs.length) :: (.v (.int .i64 0)) :: (.v (.int .i64 xs.length)) :: (.fn f caps) :: (jnk 4 ((.v (.int .i64 i)) :: (jnk 44 [])))), [], ⟨h.H, upd h.T k (some (.cont 2 (((insS cf (xs.take i)).reverse ++ xs.drop i).map encW2)))⟩⟩) xs.length
  ⟨1, by omega, by omega, ?_⟩ ?_
 ·have e1 : (insS cf (xs.take 1)).reverse ++ xs.drop 1 = xs := by cases xs <;> simp [insS, insR]
  have e2 : upd h.T k (some (TO.cont 2 (xs.map encW2))) = h.T := by
   funext q
   by_cases e : q = k
   ·rw [e, upd_same, hT]
   ·rw [upd_other _ _ e]
  rw [e1, e2]; rfl
 rintro g _ ⟨i, hi1, hi, rfl⟩
 (repeat (first | refine gO rfl ?_ | ((first | refine gR ?_ | (with_reducible refine wM ?_ ?_) | ((with_reducible refine xS ?_); refine uD 4 zM22 zPCE zPCP 53 rfl (by kernel_rfl) ?_) | ((with_reducible refine xR ?_); refine uE 6 zM22 zPDE zPDP 53 rfl (by kernel_rfl) ?_)) <;> ((try with_reducible intro K1 hK1); simp only [go_sem, ↓reduceIte, reduceCtorEq, nA, nB, nC, nD, nE, nF] <;> and_intros <;> first | (apply hK1; clear hK1 K1) | (intros; first | omega | decide | (simp_all <;> omega)) | skip))))
 refine awp_cond (t := _) rfl (fun h1 => ?_) (fun h1 => ?_)
 ·simp only [decide_eq_true_eq] at h1
  have hil : i < xs.length := by omega
  have hdr : xs.drop i = xs.getD i default :: xs.drop (i + 1) := drop_at xs i default hil
  have htk : xs.take (i + 1) = xs.take i ++ [xs.getD i default] := take_snoc xs i default hil
  have hxm : xs.getD i default ∈ xs := by
   rw [List.getD_eq_getElem?_getD, List.getElem?_eq_getElem hil]; exact List.getElem_mem _
  have hpl : (insS cf (xs.take i)).length = i := by rw [insS_len, List.length_take]; omega
  have hpm : ∀ z ∈ (insS cf (xs.take i)).reverse, z ∈ xs := fun z hz => List.mem_of_mem_take ((insS_perm cf (xs.take i)).mem_iff.1 (List.mem_reverse.1 hz))
  have hin : insS cf (xs.take (i + 1)) = insR cf (insS cf (xs.take i)) (xs.getD i default) := by rw [htk, insS_snoc]
  rw [hdr]
  generalize xs.getD i default = x at hxm hin ⊢
  generalize insS cf (xs.take i) = R at hpl hpm hin ⊢
  generalize hrs : xs.drop (i + 1) = rest
  clear hdr htk
  (repeat (first | refine gO rfl ?_ | ((first | refine gR ?_ | (with_reducible refine wM ?_ ?_) | ((with_reducible refine xS ?_); refine uD 4 zM22 zPCE zPCP 53 rfl (by kernel_rfl) ?_) | ((with_reducible refine xR ?_); refine uE 6 zM22 zPDE zPDP 53 rfl (by kernel_rfl) ?_)) <;> ((try with_reducible intro K1 hK1); simp only [go_sem, ↓reduceIte, reduceCtorEq, nA, nB, nC, nD, nE, nF] <;> and_intros <;> first | (apply hK1; clear hK1 K1) | (intros; first | omega | decide | (simp_all <;> omega)) | skip))))
  refine awp_loopC (rl false [0, 4, 4, 2, 43]) 0 (fun g2 s => ∃ (A B : List Wnd), g2 = A.length ∧ insR cf R x = B.reverse ++ insR cf A.reverse x ∧ A.length + B.length = i ∧ (∀ z ∈ A, z ∈ xs) ∧
   s = ⟨((.arr 2 k xs.length) :: (.v (.int .i64 0)) :: (.v (.int .i64 xs.length)) :: (.fn f caps) :: (jnk 4 ((.v (.int .i64 i)) :: (.v (.int .i64 A.length)) :: (jnk 43 [])))), [], ⟨h.H, upd h.T k (some (.cont 2 ((A ++ x :: (B ++ rest)).map encW2)))⟩⟩) i
   ⟨R.reverse, [], by rw [List.length_reverse, hpl], by rw [List.reverse_reverse]; rfl, by rw [List.length_reverse, hpl]; rfl, hpm, by rw [List.length_reverse, hpl]; rfl⟩ ?_
  rintro g2 _ ⟨A, B, rfl, hR, hAB, hA, rfl⟩
  have hTq : ∀ X, upd h.T k (some (TO.cont 2 X)) k = some (.cont 2 X) := fun X => upd_same _ _ _
  have hcl : ((A ++ x :: (B ++ rest)).map encW2).length = xs.length := by
   have h9 := congrArg List.length hrs
   rw [List.length_drop] at h9
   simp; omega
  by_cases h0 : A.length = 0
  ·have hd0 : decide (0 < (A.length : Int)) = false := by simp [h0]
   have hA0 : A = [] := List.eq_nil_of_length_eq_zero h0
   clear hc
   (repeat (first | refine gO rfl ?_ | ((first | refine gR ?_ | (with_reducible refine wM ?_ ?_) | ((with_reducible refine xS ?_); refine uD 4 zM22 zPCE zPCP 53 rfl (by kernel_rfl) ?_) | ((with_reducible refine xR ?_); refine uE 6 zM22 zPDE zPDP 53 rfl (by kernel_rfl) ?_)) <;> ((try with_reducible intro K1 hK1); simp only [go_sem, ↓reduceIte, reduceCtorEq, nA, nB, nC, nD, nE, nF, hd0] <;> and_intros <;> first | (apply hK1; clear hK1 K1) | (intros; first | omega | decide | (simp_all <;> omega)) | skip))))
   refine ⟨.v (.bool false), rfl, hK1 _ ?_⟩; clear hK1 K1
   (repeat (first | refine gO rfl ?_ | ((first | refine gR ?_ | (with_reducible refine wM ?_ ?_) | ((with_reducible refine xS ?_); refine uD 4 zM22 zPCE zPCP 53 rfl (by kernel_rfl) ?_) | ((with_reducible refine xR ?_); refine uE 6 zM22 zPDE zPDP 53 rfl (by kernel_rfl) ?_)) <;> ((try with_reducible intro K1 hK1); simp only [go_sem, ↓reduceIte, reduceCtorEq, nA, nB, nC, nD, nE, nF, hd0] <;> and_intros <;> first | (apply hK1; clear hK1 K1) | (intros; first | omega | decide | (simp_all <;> omega)) | skip))))
   refine awp_cond (t := _) rfl (fun h9 => by cases h9) (fun _ => ?_)
   (repeat (first | refine gO rfl ?_ | ((first | refine gR ?_ | (with_reducible refine wM ?_ ?_) | ((with_reducible refine xS ?_); refine uD 4 zM22 zPCE zPCP 53 rfl (by kernel_rfl) ?_) | ((with_reducible refine xR ?_); refine uE 6 zM22 zPDE zPDP 53 rfl (by kernel_rfl) ?_)) <;> ((try with_reducible intro K1 hK1); simp only [go_sem, ↓reduceIte, reduceCtorEq, nA, nB, nC, nD, nE, nF] <;> and_intros <;> first | (apply hK1; clear hK1 K1) | (intros; first | omega | decide | (simp_all <;> omega)) | skip))))
   refine ⟨g - 1, by omega, i + 1, by omega, by omega, ?_⟩
   subst hA0
   have e3 : (insS cf (xs.take (i + 1))).reverse ++ xs.drop (i + 1) = x :: (B ++ rest) := by rw [hin, hR, hrs]; simp [insR]
   rw [e3]; rfl
  ·obtain ⟨A', y, rfl⟩ : ∃ A' y, A = A' ++ [y] := by
    rcases List.eq_nil_or_concat A with rfl | ⟨A', y, e⟩
    ·exact absurd rfl h0
    ·exact ⟨A', y, by rw [e, List.concat_eq_append]⟩
   have hd0 : decide (0 < ((A' ++ [y]).length : Int)) = true := by simp
   have hti : (((A' ++ [y]).length : Int) - 1).toNat = A'.length := by simp
   have hy : y ∈ xs := hA y (by simp)
   have gx : (((A' ++ [y]) ++ x :: (B ++ rest)).map encW2).getD (A' ++ [y]).length [] = encW2 x := by
    rw [List.map_append, List.map_cons]
    have := getD_mid ((A' ++ [y]).map encW2) (encW2 x) ((B ++ rest).map encW2) []
    rwa [List.length_map] at this
   have gy : (((A' ++ [y]) ++ x :: (B ++ rest)).map encW2).getD A'.length [] = encW2 y := by
    rw [List.append_assoc, List.map_append, List.singleton_append, List.map_cons]
    have := getD_mid (A'.map encW2) (encW2 y) ((x :: (B ++ rest)).map encW2) []
    rwa [List.length_map] at this
   have hcc := fun T' => hc x hxm y hy T'
   have hlt : (A' ++ [y]).length < xs.length := by omega
   have hlt2 : A'.length < xs.length := by simp at hlt; omega
   generalize hct : ((A' ++ [y]) ++ x :: (B ++ rest)).map encW2 = ct at *
   (repeat (first | refine gO rfl ?_ | ((first | refine gR ?_ | (with_reducible refine wM ?_ ?_) | ((with_reducible refine xS ?_); refine uD 4 zM22 zPCE zPCP 53 rfl (by kernel_rfl) ?_) | ((with_reducible refine xR ?_); refine uE 6 zM22 zPDE zPDP 53 rfl (by kernel_rfl) ?_)) <;> ((try with_reducible intro K1 hK1); simp only [go_sem, ↓reduceIte, reduceCtorEq, nA, nB, nC, nD, nE, nF, hd0, hTq, hcl, Int.toNat_natCast, hti, gx, gy, encW2] <;> and_intros <;> first | (apply hK1; clear hK1 K1) | (intros; first | omega | decide) | skip))))
   rotate_left 1
   ·rintro ⟨⟩
   refine (hcc _).mono ?_; rintro _ hz ⟨rfl, hh⟩; refine ⟨rfl, hK1 _ ?_⟩; clear hK1 K1; rw [hh]; clear hh hz
   (repeat (first | refine gO rfl ?_ | ((first | refine gR ?_ | (with_reducible refine wM ?_ ?_) | ((with_reducible refine xS ?_); refine uD 4 zM22 zPCE zPCP 53 rfl (by kernel_rfl) ?_) | ((with_reducible refine xR ?_); refine uE 6 zM22 zPDE zPDP 53 rfl (by kernel_rfl) ?_)) <;> ((try with_reducible intro K1 hK1); simp only [go_sem, ↓reduceIte, reduceCtorEq, nA, nB, nC, nD, nE, nF, hd0] <;> and_intros <;> first | (apply hK1; clear hK1 K1) | (intros; first | omega | decide) | skip))))
   refine awp_cond (t := _) rfl (fun h9 => ?_) (fun h9 => ?_)
   ·have h8 : cf x y < 0 := by simpa using h9
    have hs9 : ((A' ++ [y]).length : Int) - 1 = A'.length := by simp
    have e4 : (ct.set (A' ++ [y]).length (encW2 y)).set A'.length (encW2 x) = (A' ++ x :: (y :: B ++ rest)).map encW2 := by
     have h5 := set_mid ((A' ++ [y]).map encW2) (encW2 x) (encW2 y) ((B ++ rest).map encW2)
     have h6 := set_mid (A'.map encW2) (encW2 y) (encW2 x) ((encW2 y) :: (B ++ rest).map encW2)
     rw [List.length_map] at h5 h6
     rw [← hct, List.map_append, List.map_cons, h5, List.map_append, List.append_assoc]
     rw [show [y].map encW2 ++ encW2 y :: (B ++ rest).map encW2 = encW2 y :: (encW2 y :: (B ++ rest).map encW2) from rfl, h6]
     simp
    have g3 : (ct.set (A' ++ [y]).length (encW2 y)).getD A'.length [] = encW2 y := by
     have h5 := set_mid ((A' ++ [y]).map encW2) (encW2 x) (encW2 y) ((B ++ rest).map encW2)
     have h6 := getD_mid (A'.map encW2) (encW2 y) ((encW2 y) :: (B ++ rest).map encW2) []
     rw [List.length_map] at h5 h6
     rw [← hct, List.map_append, List.map_cons, h5, List.map_append, List.append_assoc]
     exact h6
    have hcl2 : (ct.set (A' ++ [y]).length (encW2 y)).length = xs.length := by rw [List.length_set, hcl]
    simp only [encW2] at e4 g3 hcl2
    (repeat (first | refine gO rfl ?_ | ((first | refine gR ?_ | (with_reducible refine wM ?_ ?_) | ((with_reducible refine xS ?_); refine uD 4 zM22 zPCE zPCP 53 rfl (by kernel_rfl) ?_) | ((with_reducible refine xR ?_); refine uE 6 zM22 zPDE zPDP 53 rfl (by kernel_rfl) ?_)) <;> ((try with_reducible intro K1 hK1); simp only [go_sem, ↓reduceIte, reduceCtorEq, nA, nB, nC, nD, nE, nF, hTq, hcl, hcl2, Int.toNat_natCast, hti, gx, gy, encW2, upd_upd] <;> and_intros <;> first | (apply hK1; clear hK1 K1) | (intros; first | omega | decide) | skip))))
    refine ⟨A'.length, by simp, A', y :: B, rfl, ?_, ?_, fun z hz => hA z (List.mem_append_left _ hz), ?_⟩
    ·rw [hR, List.reverse_append, List.reverse_singleton, List.singleton_append, insR, if_pos h8]; simp
    ·simp at hAB ⊢; omega
    ·simp only [g3, List.drop_succ_cons, List.drop_zero, e4, hs9]
     rfl
   ·have h8 : ¬ cf x y < 0 := by simpa using h9
    (repeat (first | refine gO rfl ?_ | ((first | refine gR ?_ | (with_reducible refine wM ?_ ?_) | ((with_reducible refine xS ?_); refine uD 4 zM22 zPCE zPCP 53 rfl (by kernel_rfl) ?_) | ((with_reducible refine xR ?_); refine uE 6 zM22 zPDE zPDP 53 rfl (by kernel_rfl) ?_)) <;> ((try with_reducible intro K1 hK1); simp only [go_sem, ↓reduceIte, reduceCtorEq, nA, nB, nC, nD, nE, nF] <;> and_intros <;> first | (apply hK1; clear hK1 K1) | (intros; first | omega | decide) | skip))))
    refine ⟨g - 1, by omega, i + 1, by omega, by omega, ?_⟩
    have e3 : (insS cf (xs.take (i + 1))).reverse ++ xs.drop (i + 1) = (A' ++ [y]) ++ x :: (B ++ rest) := by rw [hin, hR, hrs]; simp [insR, h8]
    rw [e3, hct]; rfl
 ·simp only [decide_eq_false_iff_not] at h1
  have e1 : (insS cf (xs.take i)).reverse ++ xs.drop i = sortI cf xs := by
   rw [List.drop_eq_nil_of_le (by omega), List.take_of_length_le (by omega), List.append_nil]; rfl
  rw [e1]
  (repeat (first | refine gO rfl ?_ | ((first | refine gR ?_ | (with_reducible refine wM ?_ ?_) | ((with_reducible refine xS ?_); refine uD 4 zM22 zPCE zPCP 53 rfl (by kernel_rfl) ?_) | ((with_reducible refine xR ?_); refine uE 6 zM22 zPDE zPDP 53 rfl (by kernel_rfl) ?_)) <;> ((try with_reducible intro K1 hK1); simp only [go_sem, ↓reduceIte, reduceCtorEq, nA, nB, nC, nD, nE, nF] <;> and_intros <;> first | (apply hK1; clear hK1 K1) | (intros; first | omega | decide | (simp_all <;> omega)) | skip))))
  simp only [Tryz.results228, go_sem, ↓reduceIte, reduceCtorEq, nA, nB, nC, nD, nE, nF]
  exact ⟨_, _, Weak.refl _, Hp.le.refl _, rfl, rfl⟩
theorem g_pdqW {f : Nat} {caps : List AV} (cf : Wnd → Wnd → Int) (k : Nat) (xs : List Wnd) (lim : Int) (h : Hp) (hT : h.T k = some (.cont 2 (xs.map encW2))) (hl : xs.length ≤ 12)
  (hc : ∀ x ∈ xs, ∀ y ∈ xs, ∀ T', ACalls Tryz.prog f ([encVW x, encVW y] ++ caps) ⟨h.H, T'⟩ (fun r h' => r = .v (.int .i64 (cf x y)) ∧ h' = ⟨h.H, T'⟩)) :
  ACalls Tryz.prog 193 [.arr 2 k xs.length, .v (.int .i64 0), .v (.int .i64 xs.length), .v (.int .i64 lim), .fn f caps] h (fun r h' => r = .tup [] ∧ h' = ⟨h.H, upd h.T k (some (.cont 2 ((sortI cf xs).map encW2)))⟩) := by
 have hd0 : decide (((xs.length : Int) - 0) ≤ 12) = true := by simp; omega
 have hi := g_insW cf k xs h hT (by omega) hc
 clear hc
 refine gE Tryz.func193 rfl (by kernel_rfl) 143 rfl fun c => ?_
 (repeat (first | refine gO rfl ?_ | ((first | refine gR ?_ | (with_reducible refine wM ?_ ?_) | ((with_reducible refine xS ?_); refine uD 17 zM22 zPEE zPEP 148 rfl (by kernel_rfl) ?_)) <;> ((try with_reducible intro K1 hK1); simp only [go_sem, ↓reduceIte, reduceCtorEq, nA, nB, nC, nD, nE, nF] <;> and_intros <;> first | (apply hK1; clear hK1 K1) | (intros; first | omega | decide | (simp_all <;> omega)) | skip))))
 refine awp_loopC (rl false [0, 5, 5, 2, 136]) 0 (fun g s => s = ⟨((.arr 2 k xs.length) :: (.v (.int .i64 0)) :: (.v (.int .i64 xs.length)) :: (.v (.int .i64 lim)) :: (.fn f caps) :: (jnk 5 ((.v (.bool true)) :: (.v (.bool true)) :: (jnk 136 [])))), [], h⟩) 1 rfl ?_
 rintro g _ rfl
 (repeat (first | refine gO rfl ?_ | ((first | refine gR ?_ | (with_reducible refine wM ?_ ?_) | ((with_reducible refine xS ?_); refine uD 17 zM22 zPEE zPEP 148 rfl (by kernel_rfl) ?_)) <;> ((try with_reducible intro K1 hK1); simp only [go_sem, ↓reduceIte, reduceCtorEq, nA, nB, nC, nD, nE, nF] <;> and_intros <;> first | (apply hK1; clear hK1 K1) | (intros; first | omega | decide) | skip))))
 refine awp_cond (t := _) rfl (fun _ => ?_) (fun h9 => by rw [hd0] at h9; cases h9)
 (repeat (first | refine gO rfl ?_ | ((first | refine gR ?_ | (with_reducible refine wM ?_ ?_) | ((with_reducible refine xS ?_); refine uD 17 zM22 zPEE zPEP 148 rfl (by kernel_rfl) ?_)) <;> ((try with_reducible intro K1 hK1); simp only [go_sem, ↓reduceIte, reduceCtorEq, nA, nB, nC, nD, nE, nF] <;> and_intros <;> first | (apply hK1; clear hK1 K1) | (intros; first | omega | decide) | skip))))
 refine hi.mono ?_
 rintro _ h2 ⟨rfl, rfl⟩
 refine hK1 _ ?_; clear hK1 K1
 (repeat (first | refine gO rfl ?_ | ((first | refine gR ?_ | (with_reducible refine wM ?_ ?_) | ((with_reducible refine xS ?_); refine uD 17 zM22 zPEE zPEP 148 rfl (by kernel_rfl) ?_)) <;> ((try with_reducible intro K1 hK1); simp only [go_sem, ↓reduceIte, reduceCtorEq, nA, nB, nC, nD, nE, nF] <;> and_intros <;> first | (apply hK1; clear hK1 K1) | (intros; first | omega | decide) | skip))))
 simp only [Tryz.results193, go_sem, ↓reduceIte, reduceCtorEq, nA, nB, nC, nD, nE, nF]
 exact ⟨_, _, Weak.refl _, Hp.le.refl _, rfl, rfl⟩
theorem g_srtW {f : Nat} {caps : List AV} (cf : Wnd → Wnd → Int) (k : Nat) (xs : List Wnd) (h : Hp) (hT : h.T k = some (.cont 2 (xs.map encW2))) (hl : xs.length ≤ 12)
  (hc : ∀ x ∈ xs, ∀ y ∈ xs, ∀ T', ACalls Tryz.prog f ([encVW x, encVW y] ++ caps) ⟨h.H, T'⟩ (fun r h' => r = .v (.int .i64 (cf x y)) ∧ h' = ⟨h.H, T'⟩)) :
  ACalls Tryz.prog 170 [.arr 2 k xs.length, .fn f caps] h (fun r h' => r = .tup [] ∧ h' = ⟨h.H, upd h.T k (some (.cont 2 ((sortI cf xs).map encW2)))⟩) := by
 have hwr : IntKind.u64.wrap (xs.length : Int) = xs.length := by simp [IntKind.wrap, IntKind.bits, IntKind.signed]; omega
 have hp := fun lim => g_pdqW cf k xs lim h hT hl hc
 have hbl := g_bitsLen xs.length h (by omega)
 clear hc
 refine gE Tryz.func170 rfl (by kernel_rfl) 12 rfl fun c => ?_
 (repeat (first | refine gO rfl ?_ | (refine gR fun K1 hK1 => ?_; simp only [go_sem, ↓reduceIte, reduceCtorEq, nA, nB, nC, nD, nE, nF, hwr] <;> and_intros <;> first | (apply hK1; clear hK1 K1) | (intros; first | omega | decide) | skip)))
 refine hbl.mono ?_
 rintro _ h2 ⟨n, rfl, rfl⟩
 refine hK1 _ ?_; clear hK1 K1
 (repeat (first | refine gO rfl ?_ | (refine gR fun K1 hK1 => ?_; simp only [go_sem, ↓reduceIte, reduceCtorEq, nA, nB, nC, nD, nE, nF] <;> and_intros <;> first | (apply hK1; clear hK1 K1) | (intros; first | omega | decide) | skip)))
 refine (hp _).mono ?_
 rintro _ h3 ⟨rfl, rfl⟩
 refine hK1 _ ?_; clear hK1 K1
 (repeat (first | refine gO rfl ?_ | (refine gR fun K1 hK1 => ?_; simp only [go_sem, ↓reduceIte, reduceCtorEq, nA, nB, nC, nD, nE, nF] <;> and_intros <;> first | (apply hK1; clear hK1 K1) | (intros; first | omega | decide) | skip)))
 simp only [Tryz.results170, go_sem, ↓reduceIte, reduceCtorEq, nA, nB, nC, nD, nE, nF]
 exact ⟨_, _, Weak.refl _, Hp.le.refl _, rfl, rfl⟩
def cmpWnd (x y : Wnd) : Int := x.1 - y.1
theorem insR_down (x : Wnd) : ∀ r : List Wnd, r.Pairwise (fun a b => b.1 ≤ a.1) → (insR cmpWnd r x).Pairwise (fun a b => b.1 ≤ a.1)
 | [], _ => by simp [insR]
 | y :: r, h => by
  have h1 := List.pairwise_cons.1 h
  rw [insR]
  split
  ·rename_i hc
   unfold cmpWnd at hc
   refine List.pairwise_cons.2 ⟨fun z hz => ?_, insR_down x r h1.2⟩
   rcases List.mem_cons.1 ((insR_perm cmpWnd r x).mem_iff.1 hz) with rfl | hz
   ·omega
   ·exact h1.1 z hz
  ·rename_i hc
   unfold cmpWnd at hc
   refine List.pairwise_cons.2 ⟨fun z hz => ?_, h⟩
   rcases List.mem_cons.1 hz with rfl | hz
   ·omega
   ·have := h1.1 z hz; omega
theorem foldI_down : ∀ (xs r : List Wnd), r.Pairwise (fun a b => b.1 ≤ a.1) → (xs.foldl (insR cmpWnd) r).Pairwise (fun a b => b.1 ≤ a.1)
 | [], r, h => h
 | x :: xs, r, h => foldI_down xs _ (insR_down x r h)
theorem sortI_up (xs : List Wnd) : (sortI cmpWnd xs).Pairwise (fun a b => a.1 ≤ b.1) := by
 unfold sortI insS
 rw [List.pairwise_reverse]
 exact foldI_down xs [] .nil
theorem g_cmpWnd (x y : Wnd) (hx : -1000000000000 ≤ x.1 ∧ x.1 ≤ 1000000000000) (hy : -1000000000000 ≤ y.1 ∧ y.1 ≤ 1000000000000) (h : Hp) : ACalls Tryz.prog 171 [encVW x, encVW y] h (fun r h' => r = .v (.int .i64 (cmpWnd x y)) ∧ h' = h) := by
 obtain ⟨a, b⟩ := x
 obtain ⟨a2, b2⟩ := y
 simp only at hx hy
 unfold encVW encW2 cmpWnd
 simp only
 refine gE Tryz.func171 rfl (by kernel_rfl) 8 rfl fun c => ?_
 (repeat (first | refine gO rfl ?_ | (refine gR fun K1 hK1 => ?_; simp only [go_sem, ↓reduceIte, reduceCtorEq, nA, nB, nC, nD, nE, nF] <;> and_intros <;> first | (apply hK1; clear hK1 K1) | (intros; first | omega | decide) | skip)))
 simp only [Tryz.results171, go_sem, ↓reduceIte, reduceCtorEq, nA, nB, nC, nD, nE, nF]
 exact ⟨_, _, Weak.refl _, Hp.le.refl _, rfl, rfl⟩
theorem g_covered (a b : Int) (k : Nat) (xs : List Wnd) (h : Hp) (hT : h.T k = some (.cont 2 (xs.map encW2))) (hl : xs.length ≤ 12) (hb : ∀ w ∈ xs, -1000000000000 ≤ w.1 ∧ w.1 ≤ 1000000000000) :
  ACalls Tryz.prog 124 [.agg [.v (.int .i64 a), .v (.int .i64 b)], .arr 2 k xs.length] h
   (fun r h' => r = .v (.bool (covB a b (sortI cmpWnd xs))) ∧ h' = ⟨h.H, upd h.T k (some (.cont 2 ((sortI cmpWnd xs).map encW2)))⟩) := by
 have hso := g_srtW (f := 171) (caps := []) cmpWnd k xs h hT hl fun x hx y hy T' => g_cmpWnd x y (hb x hx) (hb y hy) _
 have hlen := sortI_len cmpWnd xs
 refine gE Tryz.func124 rfl (by kernel_rfl) 30 rfl fun c => ?_
 (repeat (first | refine gO rfl ?_ | (refine gM zM23 fun K1 hK1 => ?_; simp only [go_sem, ↓reduceIte, reduceCtorEq, nA, nB, nC, nD, nE, nF] <;> and_intros <;> first | (apply hK1; clear hK1 K1) | (intros; first | omega | decide) | skip)))
 refine hso.mono ?_
 rintro _ _ ⟨rfl, rfl⟩; apply hK1; clear hK1 K1 hso
 generalize sortI cmpWnd xs = S at *
 rw [← hlen] at hl ⊢
 clear hlen hb hT
 (repeat (first | refine gO rfl ?_ | (refine gM zM23 fun K1 hK1 => ?_; simp only [go_sem, ↓reduceIte, reduceCtorEq, nA, nB, nC, nD, nE, nF] <;> and_intros <;> first | (apply hK1; clear hK1 K1) | (intros; first | omega | decide) | skip)))
 refine awp_loopC (rl false [2, 1, 6, 3, 20]) 1 (fun g s => ∃ (j : Nat) (a2 : Int), g + j = S.length ∧ covB a2 b (S.drop j) = covB a b S ∧
  s = ⟨(AV.junk :: AV.junk :: ((.loc 0 0) :: (jnk 6 ((.arr 2 k S.length) :: (.v (.int .i64 S.length)) :: (.v (.int .i64 j)) :: (jnk 20 []))))), [[.v (.int .i64 a2), .v (.int .i64 b)]], ⟨h.H, upd h.T k (some (.cont 2 (S.map encW2)))⟩⟩) S.length ⟨0, a, by omega, rfl, rfl⟩ ?_
 rintro g _ ⟨j, a2, hj, hinv, rfl⟩
 have hTq : upd h.T k (some (TO.cont 2 (S.map encW2))) k = some (TO.cont 2 (S.map encW2)) := upd_same _ _ _
 have hml : (S.map encW2).length = S.length := List.length_map _
 (repeat (first | refine gO rfl ?_ | (refine gM zM23 fun K1 hK1 => ?_; simp only [go_sem, ↓reduceIte, reduceCtorEq, nA, nB, nC, nD, nE, nF] <;> and_intros <;> first | (apply hK1; clear hK1 K1) | (intros; first | omega | decide) | skip)))
 refine awp_cond (t := _) rfl (fun h5 => ?_) (fun h5 => ?_)
 ·simp only [decide_eq_true_eq] at h5
  have hjl : j < S.length := by omega
  have gx : (S.map encW2).getD j [] = [.v (.int .i64 S[j].1), .v (.int .i64 S[j].2)] := by rw [List.getD_eq_getElem?_getD, List.getElem?_map, List.getElem?_eq_getElem hjl]; rfl
  rw [List.drop_eq_getElem_cons hjl, covB] at hinv
  generalize S[j] = w at *
  obtain ⟨w1, w2⟩ := w
  simp only at gx hinv
  (repeat (first | refine gO rfl ?_ | (refine gM zM23 fun K1 hK1 => ?_; simp only [go_sem, ↓reduceIte, reduceCtorEq, nA, nB, nC, nD, nE, nF, hTq, hml, Int.toNat_natCast, gx] <;> and_intros <;> first | (apply hK1; clear hK1 K1) | (intros; first | omega | decide) | skip)))
  by_cases hw : a2 < w1
  ·rw [if_pos hw] at hinv
   refine awp_cond (t := _) rfl (fun _ => ?_) (fun h6 => by simp [hw] at h6)
   (repeat (first | refine gO rfl ?_ | (refine gM zM23 fun K1 hK1 => ?_; simp only [go_sem, ↓reduceIte, reduceCtorEq, nA, nB, nC, nD, nE, nF] <;> and_intros <;> first | (apply hK1; clear hK1 K1) | (intros; first | omega | decide) | skip)))
   simp only [Tryz.results124, go_sem, ↓reduceIte, reduceCtorEq, nA, nB, nC, nD, nE, nF]
   exact ⟨_, _, Weak.refl _, Hp.le.refl _, by rw [← hinv], rfl⟩
  ·rw [if_neg hw] at hinv
   refine awp_cond (t := _) rfl (fun h6 => by simp [hw] at h6) (fun _ => ?_)
   (repeat (first | refine gO rfl ?_ | (refine gM zM23 fun K1 hK1 => ?_; simp only [go_sem, ↓reduceIte, reduceCtorEq, nA, nB, nC, nD, nE, nF] <;> and_intros <;> first | (apply hK1; clear hK1 K1) | (intros; first | omega | decide) | skip)))
   exact ⟨g - 1, by omega, j + 1, max a2 w2, by omega, hinv, rfl⟩
 ·simp only [decide_eq_false_iff_not] at h5
  have hjl : j = S.length := by omega
  subst hjl
  rw [List.drop_length, covB] at hinv
  (repeat (first | refine gO rfl ?_ | (refine gM zM23 fun K1 hK1 => ?_; simp only [go_sem, ↓reduceIte, reduceCtorEq, nA, nB, nC, nD, nE, nF] <;> and_intros <;> first | (apply hK1; clear hK1 K1) | (intros; first | omega | decide) | skip)))
  simp only [Tryz.results124, go_sem, ↓reduceIte, reduceCtorEq, nA, nB, nC, nD, nE, nF]
  exact ⟨_, _, Weak.refl _, Hp.le.refl _, by rw [← hinv], rfl⟩
def wholeV (tags : List ByteArray) (item : ByteArray) (a b : Int) (rs : List Rt) : Bool := match byL tags item a b rs [] with
 | none => false
 | some S => covB a b (sortI cmpWnd S)
theorem wholeV_iff (tags : List ByteArray) (item : ByteArray) (a b : Int) (l : List Rt) (hab : a < b) (hw : ∀ r ∈ l, r.2.2.1 < r.2.2.2.1) : wholeV tags item a b l = true ↔ ∀ x, a ≤ x → x < b → mayL tags item x l false = true := by
 refine whole_iff tags item a b l hab hw _ ?_
 unfold wholeV
 cases h : byL tags item a b l [] with
 | none => exact .inl ⟨rfl, rfl⟩
 | some S => exact .inr ⟨S, sortI cmpWnd S, rfl, sortI_perm _ _, sortI_up S, rfl⟩
theorem byL_step (tags : List ByteArray) (item : ByteArray) (a b : Int) (rs : List Rt) (o : List Wnd) (j : Nat) (hj : j < rs.length) : byL tags item a b (rs.drop j) o = if appl tags item a b rs[j] = true then (if rs[j].2.2.2.2 = true then none else byL tags item a b (rs.drop (j + 1)) (o ++ [(rs[j].2.2.1, rs[j].2.2.2.1)])) else byL tags item a b (rs.drop (j + 1)) o := by
 rw [List.drop_eq_getElem_cons hj, byL]
theorem g_whole (rs : List Rt) (p : Gu) (item : ByteArray) (a b : Int) (kk : Option Nat) (hl : rs.length ≤ 12) (hok : ∀ r ∈ rs, RtOk r) (hp : GuOk p) (hs : p.tags.Pairwise fun a b => ltB a b = true) (h : Hp) :
  ACalls Tryz.prog 88 [.row 5 (rs.map encRt) kk, .agg (encGu p), .v (.string item), .agg [.v (.int .i64 a), .v (.int .i64 b)]] h (fun r h' => r = .v (.bool (wholeV p.tags item a b rs)) ∧ h' = h) := by
 obtain ⟨key, scr, zone, tags⟩ := p
 obtain ⟨_, _, _, ⟨h4, _⟩⟩ := hp
 simp only at h4 hs
 unfold encGu encGr
 simp only
 have hml : (rs.map encRt).length = rs.length := List.length_map _
 refine gE Tryz.func88 rfl (by kernel_rfl) 53 rfl fun c => ?_
 (repeat (first | refine gQ rfl ?_ | (refine gM zM21 fun K1 hK1 => ?_; simp only [go_sem, ↓reduceIte, reduceCtorEq, nA, nB, nC, nD, nE, nF] <;> and_intros <;> first | (apply hK1; clear hK1 K1) | (intros; first | omega | decide | (simp_all <;> omega)) | skip)))
 refine awp_seq ?_
 refine awp_ownA 9 2 rfl ⟨rfl, rfl⟩ (fun k hk => ?_)
 replace hk : h.T k = none := hk
 (repeat (first | refine gO rfl ?_ | (refine gM zM21 fun K1 hK1 => ?_; simp only [go_sem, ↓reduceIte, reduceCtorEq, nA, nB, nC, nD, nE, nF, hml] <;> and_intros <;> first | (apply hK1; clear hK1 K1) | (intros; first | omega | decide) | skip)))
 refine awp_loopC (rl false [2, 1, 2, 1, 1, 1, 1, 1, 2, 3, 42]) 0 (fun g s => ∃ (j n : Nat) (ys : List Wnd), g + j = rs.length ∧ ys.length = n ∧ n ≤ j ∧ (∀ w ∈ ys, -1000000000000 ≤ w.1 ∧ w.1 ≤ 1000000000000) ∧ byL tags item a b (rs.drop j) ys = byL tags item a b rs [] ∧
  s = ⟨(AV.junk :: AV.junk :: ((.v (.string item)) :: AV.junk :: AV.junk :: ((.ref [.v (.string key), .v (.string scr), .v (.int .i64 zone), .row 1 (tags.map encS) none] 0) :: AV.junk :: ((.ref [.v (.int .i64 a), .v (.int .i64 b)] 0) :: AV.junk :: ((.arr 2 k n) :: AV.junk :: AV.junk :: ((.row 5 (rs.map encRt) kk) :: (.v (.int .i64 rs.length)) :: (.v (.int .i64 j)) :: (jnk 42 []))))))), [], ⟨h.H, upd h.T k (some (.cont 2 (ys.map encW2)))⟩⟩) rs.length ⟨0, 0, [], by omega, rfl, by omega, by simp, rfl, rfl⟩ ?_
 rintro g _ ⟨j, n, ys, hj, hn, hnj, hys, hinv, rfl⟩
 have hTq : upd h.T k (some (TO.cont 2 (ys.map encW2))) k = some (TO.cont 2 (ys.map encW2)) := upd_same _ _ _
 have hyl : (ys.map encW2).length = n := by rw [List.length_map, hn]
 (repeat (first | refine gO rfl ?_ | (refine gM zM21 fun K1 hK1 => ?_; simp only [go_sem, ↓reduceIte, reduceCtorEq, nA, nB, nC, nD, nE, nF] <;> and_intros <;> first | (apply hK1; clear hK1 K1) | (intros; first | omega | decide) | skip)))
 refine awp_cond (t := _) rfl (fun h5 => ?_) (fun h5 => ?_)
 ·simp only [decide_eq_true_eq] at h5
  have hjl : j < rs.length := by omega
  have gx : (rs.map encRt).getD j [] = encRt rs[j] := by rw [List.getD_eq_getElem?_getD, List.getElem?_map, List.getElem?_eq_getElem hjl]; rfl
  have hro := hok _ (List.getElem_mem hjl)
  rw [byL_step tags item a b rs ys j hjl] at hinv
  generalize rs[j] = r at *
  obtain ⟨it, tg, fr, t2, bb⟩ := r
  rw [show encRt (it, tg, fr, t2, bb) = [.v (.string it), .row 1 (tg.map encS) none, .v (.int .i64 fr), .v (.int .i64 t2), .v (.bool bb)] from rfl] at gx
  obtain ⟨hs1, ⟨hs2, hs3⟩, hs4, hs5⟩ := hro
  simp only at hs1 hs2 hs3 hs4 hs5
  have hW := g_within tg tags none none ⟨h.H, upd h.T k (some (.cont 2 (ys.map encW2)))⟩ (by omega) (by omega) hs
  obtain ⟨x1, e1⟩ : ∃ c, (it == item) = c := ⟨_, rfl⟩
  obtain ⟨x2, e2⟩ : ∃ c, decide (b ≤ fr) = c := ⟨_, rfl⟩
  obtain ⟨x3, e3⟩ : ∃ c, decide (t2 ≤ a) = c := ⟨_, rfl⟩
  have hap : appl tags item a b (it, tg, fr, t2, bb) = (x1 && (!x2 && (!x3 && inTags tags tg))) := by
   have q1 : decide (it = item) = x1 := by rw [← ba_beq, ← e1]
   have q2 : decide (fr < b) = !x2 := by rw [← e2, ← decide_not]; exact decide_eq_decide.2 (by omega)
   have q3 : decide (a < t2) = !x3 := by rw [← e3, ← decide_not]; exact decide_eq_decide.2 (by omega)
   unfold appl
   simp only [q1, q2, q3]
  rw [hap] at hinv
  clear hap
  cases x1 with
  | false =>
   (repeat (first | refine gO rfl ?_ | (refine gM zM21 fun K1 hK1 => ?_; simp only [go_sem, ↓reduceIte, reduceCtorEq, nA, nB, nC, nD, nE, nF, hml, Int.toNat_natCast, gx, e1, e2, e3, Bool.not_true, Bool.not_false] <;> and_intros <;> first | (apply hK1; clear hK1 K1) | (intros; first | omega | decide) | skip)))
   refine awp_cond (t := _) rfl (fun _ => ?_) (fun h6 => by cases h6)
   (repeat (first | refine gO rfl ?_ | (refine gM zM21 fun K1 hK1 => ?_; simp only [go_sem, ↓reduceIte, reduceCtorEq, nA, nB, nC, nD, nE, nF] <;> and_intros <;> first | (apply hK1; clear hK1 K1) | (intros; first | omega | decide) | skip)))
   exact ⟨g - 1, by omega, j + 1, n, ys, by omega, hn, by omega, hys, hinv, rfl⟩
  | true =>
   cases x2 with
   | true =>
    (repeat (first | refine gO rfl ?_ | (refine gM zM21 fun K1 hK1 => ?_; simp only [go_sem, ↓reduceIte, reduceCtorEq, nA, nB, nC, nD, nE, nF, hml, Int.toNat_natCast, gx, e1, e2, e3, Bool.not_true, Bool.not_false] <;> and_intros <;> first | (apply hK1; clear hK1 K1) | (intros; first | omega | decide) | skip)))
    refine awp_cond (t := _) rfl (fun _ => ?_) (fun h6 => by cases h6)
    (repeat (first | refine gO rfl ?_ | (refine gM zM21 fun K1 hK1 => ?_; simp only [go_sem, ↓reduceIte, reduceCtorEq, nA, nB, nC, nD, nE, nF] <;> and_intros <;> first | (apply hK1; clear hK1 K1) | (intros; first | omega | decide) | skip)))
    exact ⟨g - 1, by omega, j + 1, n, ys, by omega, hn, by omega, hys, hinv, rfl⟩
   | false =>
    cases x3 with
    | true =>
     (repeat (first | refine gO rfl ?_ | (refine gM zM21 fun K1 hK1 => ?_; simp only [go_sem, ↓reduceIte, reduceCtorEq, nA, nB, nC, nD, nE, nF, hml, Int.toNat_natCast, gx, e1, e2, e3, Bool.not_true, Bool.not_false] <;> and_intros <;> first | (apply hK1; clear hK1 K1) | (intros; first | omega | decide) | skip)))
     refine awp_cond (t := _) rfl (fun _ => ?_) (fun h6 => by cases h6)
     (repeat (first | refine gO rfl ?_ | (refine gM zM21 fun K1 hK1 => ?_; simp only [go_sem, ↓reduceIte, reduceCtorEq, nA, nB, nC, nD, nE, nF] <;> and_intros <;> first | (apply hK1; clear hK1 K1) | (intros; first | omega | decide) | skip)))
     exact ⟨g - 1, by omega, j + 1, n, ys, by omega, hn, by omega, hys, hinv, rfl⟩
    | false =>
     (repeat (first | refine gO rfl ?_ | (refine gM zM21 fun K1 hK1 => ?_; simp only [go_sem, ↓reduceIte, reduceCtorEq, nA, nB, nC, nD, nE, nF, hml, Int.toNat_natCast, gx, e1, e2, e3, Bool.not_true, Bool.not_false] <;> and_intros <;> first | (apply hK1; clear hK1 K1) | (intros; first | omega | decide) | skip)))
     rotate_left
     ·exact fun h => h.elim
     refine hW.mono ?_
     rintro _ hz ⟨rfl, hh⟩; refine ⟨rfl, ?_⟩; apply hK1; clear hK1 K1; rw [hh]; clear hh hz
     simp only [Bool.not_false, Bool.true_and] at hinv
     cases hb : inTags tags tg with
     | false =>
      rw [hb] at hinv
      (repeat (first | refine gO rfl ?_ | (refine gM zM21 fun K1 hK1 => ?_; simp only [go_sem, ↓reduceIte, reduceCtorEq, nA, nB, nC, nD, nE, nF, Bool.not_false] <;> and_intros <;> first | (apply hK1; clear hK1 K1) | (intros; first | omega | decide) | skip)))
      refine awp_cond (t := _) rfl (fun _ => ?_) (fun h6 => by cases h6)
      (repeat (first | refine gO rfl ?_ | (refine gM zM21 fun K1 hK1 => ?_; simp only [go_sem, ↓reduceIte, reduceCtorEq, nA, nB, nC, nD, nE, nF] <;> and_intros <;> first | (apply hK1; clear hK1 K1) | (intros; first | omega | decide) | skip)))
      exact ⟨g - 1, by omega, j + 1, n, ys, by omega, hn, by omega, hys, hinv, rfl⟩
     | true =>
      rw [hb, if_pos rfl] at hinv
      (repeat (first | refine gO rfl ?_ | (refine gM zM21 fun K1 hK1 => ?_; simp only [go_sem, ↓reduceIte, reduceCtorEq, nA, nB, nC, nD, nE, nF, Bool.not_true] <;> and_intros <;> first | (apply hK1; clear hK1 K1) | (intros; first | omega | decide) | skip)))
      refine awp_cond (t := _) rfl (fun h6 => by cases h6) (fun _ => ?_)
      (repeat (first | refine gO rfl ?_ | (refine gM zM21 fun K1 hK1 => ?_; simp only [go_sem, ↓reduceIte, reduceCtorEq, nA, nB, nC, nD, nE, nF] <;> and_intros <;> first | (apply hK1; clear hK1 K1) | (intros; first | omega | decide) | skip)))
      cases bb with
      | true =>
       rw [if_pos rfl] at hinv
       refine awp_cond (t := _) rfl (fun _ => ?_) (fun h6 => by cases h6)
       (repeat (first | refine gO rfl ?_ | (refine gM zM21 fun K1 hK1 => ?_; simp only [go_sem, ↓reduceIte, reduceCtorEq, nA, nB, nC, nD, nE, nF] <;> and_intros <;> first | (apply hK1; clear hK1 K1) | (intros; first | omega | decide) | skip)))
       simp only [Tryz.results88, go_sem, ↓reduceIte, reduceCtorEq, nA, nB, nC, nD, nE, nF]
       refine ⟨_, h, Weak.refl _, ⟨fun _ => .inr rfl, fun t => ?_⟩, by unfold wholeV; rw [← hinv], rfl⟩
       by_cases e : t = k
       ·subst e; exact .inl hk
       ·exact .inr (by show h.T t = upd h.T k _ t; rw [upd_other _ _ e])
      | false =>
       rw [if_neg (by decide)] at hinv
       refine awp_cond (t := _) rfl (fun h6 => by cases h6) (fun _ => ?_)
       (repeat (first | refine gO rfl ?_ | (refine gM zM21 fun K1 hK1 => ?_; simp only [go_sem, ↓reduceIte, reduceCtorEq, nA, nB, nC, nD, nE, nF, hTq, hyl] <;> and_intros <;> first | (apply hK1; clear hK1 K1) | (intros; first | omega | decide) | skip)))
       refine ⟨g - 1, by omega, j + 1, n + 1, ys ++ [(fr, t2)], by omega, by simp [hn], by omega, fun w hw => ?_, hinv, ?_⟩
       ·rcases List.mem_append.1 hw with hw | hw
        ·exact hys w hw
        ·rw [List.mem_singleton.1 hw]; simp only; omega
       ·rw [List.map_append]
        (try simp only [upd_upd])
        rfl
 ·simp only [decide_eq_false_iff_not] at h5
  have hjl : j = rs.length := by omega
  subst hjl
  rw [List.drop_length, byL] at hinv
  subst hn
  (repeat (first | refine gO rfl ?_ | (refine gM zM21 fun K1 hK1 => ?_; simp only [go_sem, ↓reduceIte, reduceCtorEq, nA, nB, nC, nD, nE, nF] <;> and_intros <;> first | (apply hK1; clear hK1 K1) | (intros; first | omega | decide) | skip)))
  refine (g_covered a b k ys ⟨h.H, upd h.T k (some (.cont 2 (ys.map encW2)))⟩ hTq (by omega) hys).mono ?_; rintro _ hz ⟨rfl, hh⟩; apply hK1; clear hK1 K1; rw [hh]; clear hh hz
  (repeat (first | refine gO rfl ?_ | (refine gM zM21 fun K1 hK1 => ?_; simp only [go_sem, ↓reduceIte, reduceCtorEq, nA, nB, nC, nD, nE, nF] <;> and_intros <;> first | (apply hK1; clear hK1 K1) | (intros; first | omega | decide) | skip)))
  simp only [Tryz.results88, go_sem, ↓reduceIte, reduceCtorEq, nA, nB, nC, nD, nE, nF]
  refine ⟨_, h, Weak.refl _, ⟨fun _ => .inr rfl, fun t => ?_⟩, by unfold wholeV; rw [← hinv], rfl⟩
  by_cases e : t = k
  ·subst e; exact .inl hk
  ·refine .inr ?_
   show h.T t = _
   simp only [upd_upd]
   rw [upd_other _ _ e]
abbrev zPFE : List Nat := [0, 1, 2, 3, 4, 5, 6]
abbrev zPFP : List (Nat × List Nat × List Nat) := [(7, [], [8])]
abbrev zPGE : List Nat := [0, 1, 2, 3, 4, 5, 6, 7, 8, 9, 10, 11, 12, 13]
abbrev zPGP : List (Nat × List Nat × List Nat) := []
abbrev zPHE : List Nat := [0, 1, 2, 3, 4, 5, 6, 7, 8, 9, 10, 11]
abbrev zPHP : List (Nat × List Nat × List Nat) := [(12, [], []), (13, [], [])]
attribute [go_sem] zPFE zPFP zPGE zPGP zPHE zPHP
theorem cuts0_take (item : ByteArray) (fr t2 : Int) (rs : List Rt) (j : Nat) (hj : j < rs.length) : cuts0 item fr t2 (rs.take (j + 1)) = cuts0 item fr t2 (rs.take j) ++ edgA item fr t2 rs[j] := by
 unfold cuts0
 rw [List.take_succ_eq_append_getElem hj, List.flatMap_append, List.append_assoc]
 simp
theorem runs_at (f : Int → Bool) (P : List Int) (acc : List Wnd) (i : Nat) (hi : i + 1 < P.length) : runsW f (P.drop i) acc = runsW f (P.drop (i + 1)) (if f P[i] then pushW acc P[i] P[i + 1] else acc) := by
 rw [List.drop_eq_getElem_cons (show i < P.length by omega), List.drop_eq_getElem_cons hi, runsW]
theorem runs_end (f : Int → Bool) (P : List Int) (acc : List Wnd) (i : Nat) (hi : i + 1 = P.length) : runsW f (P.drop i) acc = acc := by
 rw [List.drop_eq_getElem_cons (show i < P.length by omega), List.drop_of_length_le (by omega)]; rfl
theorem upd_back {T : Nat → Option TO} {k : Nat} (hk : T k = none) : upd T k none = T := by
 funext t
 by_cases e : t = k
 ·subst e; rw [upd_same, hk]
 ·rw [upd_other _ _ e]
theorem g_times (rs : List Rt) (p : Gu) (item : ByteArray) (fr t2 : Int) (kk : Option Nat) (hl : rs.length ≤ 500) (hok : ∀ r ∈ rs, RtOk r) (hp : GuOk p) (hs : p.tags.Pairwise fun a b => ltB a b = true) (h : Hp) :
  ACalls Tryz.prog 73 [.row 5 (rs.map encRt) kk, .agg (encGu p), .v (.string item), .agg [.v (.int .i64 fr), .v (.int .i64 t2)]] h (fun r h' => r = .row 2 ((timesP p.tags item fr t2 rs).map encW2) none ∧ h' = h) := by
 have hMay := fun x h => g_may rs p item x kk hl hok hp hs h
 obtain ⟨key, scr, zone, tags⟩ := p
 unfold encGu encGr at hMay ⊢
 simp only at hMay ⊢
 have hml : (rs.map encRt).length = rs.length := List.length_map _
 refine gE Tryz.func73 rfl (by kernel_rfl) 116 rfl fun c => ?_
 (repeat (first | refine gO rfl ?_ | ((first | refine gM zM24 ?_ | (with_reducible refine wM ?_ ?_) | ((with_reducible refine xS ?_); refine uD 18 zM24 zPFE zPFP 120 rfl (by kernel_rfl) ?_) | ((with_reducible refine xS ?_); refine uD 20 zM24 zPGE zPGP 120 rfl (by kernel_rfl) ?_) | ((with_reducible refine xR ?_); refine uE 22 zM24 zPHE zPHP 120 rfl (by kernel_rfl) ?_)) <;> ((try with_reducible intro K1 hK1); simp only [go_sem, ↓reduceIte, reduceCtorEq, nA, nB, nC, nD, nE, nF, hml] <;> and_intros <;> first | (apply hK1; clear hK1 K1) | (intros; first | omega | decide) | skip))))
 intro k hk
 replace hk : h.T k = none := hk
 refine hK1 _ ?_; clear hK1 K1
 (repeat (first | refine gO rfl ?_ | ((first | refine gM zM24 ?_ | (with_reducible refine wM ?_ ?_) | ((with_reducible refine xS ?_); refine uD 18 zM24 zPFE zPFP 120 rfl (by kernel_rfl) ?_) | ((with_reducible refine xS ?_); refine uD 20 zM24 zPGE zPGP 120 rfl (by kernel_rfl) ?_) | ((with_reducible refine xR ?_); refine uE 22 zM24 zPHE zPHP 120 rfl (by kernel_rfl) ?_)) <;> ((try with_reducible intro K1 hK1); simp only [go_sem, ↓reduceIte, reduceCtorEq, nA, nB, nC, nD, nE, nF, hml] <;> and_intros <;> first | (apply hK1; clear hK1 K1) | (intros; first | omega | decide) | skip))))
 refine awp_loopC (rl false [0, 1, 1, 1, 2, 1, 1, 1, 1, 1, 12, 3, 95]) 0 (fun g s => ∃ (j n : Nat) (xs : List Int), g + j = rs.length ∧ xs.length = n ∧ xs = cuts0 item fr t2 (rs.take j) ∧
  s = ⟨((.row 5 (rs.map encRt) kk) :: AV.junk :: ((.v (.string item)) :: AV.junk :: AV.junk :: ((.ref [.v (.string key), .v (.string scr), .v (.int .i64 zone), .row 1 (tags.map encS) none] 0) :: AV.junk :: ((.ref [.v (.int .i64 fr), .v (.int .i64 t2)] 0) :: AV.junk :: ((.arr 1 k n) :: (jnk 12 ((.row 5 (rs.map encRt) kk) :: (.v (.int .i64 rs.length)) :: (.v (.int .i64 j)) :: (jnk 95 [])))))))), [], ⟨h.H, upd h.T k (some (.cont 1 (xs.map encI)))⟩⟩) rs.length ⟨0, 2, [fr, t2], by omega, rfl, rfl, rfl⟩ ?_
 rintro g _ ⟨j, n, xs, hj, hn, hxs, rfl⟩
 (repeat (first | refine gO rfl ?_ | ((first | refine gM zM24 ?_ | (with_reducible refine wM ?_ ?_) | ((with_reducible refine xS ?_); refine uD 18 zM24 zPFE zPFP 120 rfl (by kernel_rfl) ?_) | ((with_reducible refine xS ?_); refine uD 20 zM24 zPGE zPGP 120 rfl (by kernel_rfl) ?_) | ((with_reducible refine xR ?_); refine uE 22 zM24 zPHE zPHP 120 rfl (by kernel_rfl) ?_)) <;> ((try with_reducible intro K1 hK1); simp only [go_sem, ↓reduceIte, reduceCtorEq, nA, nB, nC, nD, nE, nF] <;> and_intros <;> first | (apply hK1; clear hK1 K1) | (intros; first | omega | decide) | skip))))
 refine awp_cond (t := _) rfl (fun h5 => ?_) (fun h5 => ?_)
 ·simp only [decide_eq_true_eq] at h5
  have hjl : j < rs.length := by omega
  have gx : (rs.map encRt).getD j [] = encRt rs[j] := by rw [List.getD_eq_getElem?_getD, List.getElem?_map, List.getElem?_eq_getElem hjl]; rfl
  have het := cuts0_take item fr t2 rs j hjl
  rw [← hxs] at het
  generalize rs[j] = r at *
  obtain ⟨it, tg, a, b, bb⟩ := r
  rw [show encRt (it, tg, a, b, bb) = [.v (.string it), .row 1 (tg.map encS) none, .v (.int .i64 a), .v (.int .i64 b), .v (.bool bb)] from rfl] at gx
  have hea : edgA item fr t2 (it, tg, a, b, bb) = [a, b].filter fun n => decide (it = item) && (decide (fr < n) && decide (n < t2)) := rfl
  rw [hea] at het
  (repeat (first | refine gO rfl ?_ | ((first | refine gM zM24 ?_ | (with_reducible refine wM ?_ ?_) | ((with_reducible refine xS ?_); refine uD 18 zM24 zPFE zPFP 120 rfl (by kernel_rfl) ?_) | ((with_reducible refine xS ?_); refine uD 20 zM24 zPGE zPGP 120 rfl (by kernel_rfl) ?_) | ((with_reducible refine xR ?_); refine uE 22 zM24 zPHE zPHP 120 rfl (by kernel_rfl) ?_)) <;> ((try with_reducible intro K1 hK1); simp only [go_sem, ↓reduceIte, reduceCtorEq, nA, nB, nC, nD, nE, nF, hml, Int.toNat_natCast, gx] <;> and_intros <;> first | (apply hK1; clear hK1 K1) | (intros; first | omega | decide) | skip))))
  have hCl : xs.length ≤ 1002 := by rw [hxs]; have := cuts0_len item fr t2 (rs.take j); rw [List.length_take] at this; omega
  obtain ⟨C, hC⟩ : ∃ C, xs = C := ⟨_, rfl⟩
  rw [hC] at het hn hCl ⊢
  clear hxs hea hC xs
  refine awp_loopC (rl false [0, 1, 1, 1, 2, 1, 1, 1, 1, 1, 1, 1, 10, 3, 9, 2, 84]) 1 (fun g2 s => ∃ (iz : Int) (n : Nat) (xs : List Int), xs.length = n ∧ (iz = 0 ∧ g2 = 2 ∧ xs = C ∨ iz = 1 ∧ g2 = 1 ∧ xs = C ++ ([a].filter fun n => decide (it = item) && (decide (fr < n) && decide (n < t2))) ∨ iz = 2 ∧ g2 = 0 ∧ xs = C ++ ([a, b].filter fun n => decide (it = item) && (decide (fr < n) && decide (n < t2)))) ∧
   s = ⟨((.row 5 (rs.map encRt) kk) :: AV.junk :: ((.v (.string item)) :: AV.junk :: AV.junk :: ((.ref [.v (.string key), .v (.string scr), .v (.int .i64 zone), .row 1 (tags.map encS) none] 0) :: AV.junk :: ((.ref [.v (.int .i64 fr), .v (.int .i64 t2)] 0) :: AV.junk :: ((.arr 1 k n) :: AV.junk :: ((.loc 0 0) :: (jnk 10 ((.row 5 (rs.map encRt) kk) :: (.v (.int .i64 rs.length)) :: (.v (.int .i64 j)) :: (jnk 9 ((.agg [.v (.int .i64 a), .v (.int .i64 b)]) :: (.v (.int .i64 iz)) :: (jnk 84 []))))))))))), [[.v (.string it), .row 1 (tg.map encS) none, .v (.int .i64 a), .v (.int .i64 b), .v (.bool bb)]], ⟨h.H, upd h.T k (some (.cont 1 (xs.map encI)))⟩⟩) 2 ⟨0, n, C, hn, .inl ⟨rfl, rfl, rfl⟩, rfl⟩ ?_
  clear hn n
  rintro g2 _ ⟨iz, n, xs, hn, hc, rfl⟩
  have hTq : upd h.T k (some (TO.cont 1 (xs.map encI))) k = some (TO.cont 1 (xs.map encI)) := upd_same _ _ _
  have hle : (xs.map encI).length = n := by rw [List.length_map, hn]
  obtain ⟨x1, e1⟩ : ∃ c, (it == item) = c := ⟨_, rfl⟩
  have hnb : n ≤ 1100 := by
   have f1 : ∀ l : List Int, (l.filter fun n => decide (it = item) && (decide (fr < n) && decide (n < t2))).length ≤ l.length := fun l => List.length_filter_le _ _
   have f2 := f1 [a]
   have f3 := f1 [a, b]
   simp only [List.length_cons, List.length_nil] at f2 f3
   rw [← hn]
   rcases hc with ⟨_, _, e⟩ | ⟨_, _, e⟩ | ⟨_, _, e⟩ <;> rw [e] <;> (try simp only [List.length_append]) <;> omega
  have g0 : ∀ d, [AV.v (.int .i64 a), AV.v (.int .i64 b)].getD (Int.toNat 0 * 1) d = .v (.int .i64 a) := fun _ => rfl
  have g1 : ∀ d, [AV.v (.int .i64 a), AV.v (.int .i64 b)].getD (Int.toNat 1 * 1) d = .v (.int .i64 b) := fun _ => rfl
  rcases hc with ⟨rfl, rfl, hx⟩ | ⟨rfl, rfl, hx⟩ | ⟨rfl, rfl, hx⟩
  ·(repeat (first | refine gO rfl ?_ | ((first | refine gM zM24 ?_ | (with_reducible refine wM ?_ ?_) | ((with_reducible refine xS ?_); refine uD 18 zM24 zPFE zPFP 120 rfl (by kernel_rfl) ?_) | ((with_reducible refine xS ?_); refine uD 20 zM24 zPGE zPGP 120 rfl (by kernel_rfl) ?_) | ((with_reducible refine xR ?_); refine uE 22 zM24 zPHE zPHP 120 rfl (by kernel_rfl) ?_)) <;> ((try with_reducible intro K1 hK1); simp only [go_sem, ↓reduceIte, reduceCtorEq, nA, nB, nC, nD, nE, nF] <;> and_intros <;> first | (apply hK1; clear hK1 K1) | (intros; first | omega | decide) | skip))))
   refine awp_cond (t := _) rfl (fun _ => ?_) (fun h6 => by cases h6)
   subst hx
   obtain ⟨x2, e2⟩ : ∃ c, decide (fr < a) = c := ⟨_, rfl⟩
   obtain ⟨x3, e3⟩ : ∃ c, decide (a < t2) = c := ⟨_, rfl⟩
   have hq : (decide (it = item) && (decide (fr < a) && decide (a < t2))) = (x1 && (x2 && x3)) := by rw [← ba_beq, e1, e2, e3]
   cases hxx : (x1 && (x2 && x3)) with
   | false =>
    have hc4 : x1 = false ∨ (x1 = true ∧ x2 = false) ∨ (x1 = true ∧ x2 = true ∧ x3 = false) := by
     cases x1 <;> cases x2 <;> cases x3 <;> simp at hxx <;> simp
    rcases hc4 with rfl | ⟨rfl, rfl⟩ | ⟨rfl, rfl, rfl⟩
    all_goals
     (repeat (first | refine gO rfl ?_ | ((first | refine gM zM24 ?_ | (with_reducible refine wM ?_ ?_) | ((with_reducible refine xS ?_); refine uD 18 zM24 zPFE zPFP 120 rfl (by kernel_rfl) ?_) | ((with_reducible refine xS ?_); refine uD 20 zM24 zPGE zPGP 120 rfl (by kernel_rfl) ?_) | ((with_reducible refine xR ?_); refine uE 22 zM24 zPHE zPHP 120 rfl (by kernel_rfl) ?_)) <;> ((try with_reducible intro K1 hK1); simp only [go_sem, ↓reduceIte, reduceCtorEq, nA, nB, nC, nD, nE, nF, g0, e1, e2, e3] <;> and_intros <;> first | (apply hK1; clear hK1 K1) | (intros; first | omega | decide) | skip))))
     refine awp_cond (t := _) rfl (fun h6 => by cases h6) (fun _ => ?_)
     (repeat (first | refine gO rfl ?_ | ((first | refine gM zM24 ?_ | (with_reducible refine wM ?_ ?_) | ((with_reducible refine xS ?_); refine uD 18 zM24 zPFE zPFP 120 rfl (by kernel_rfl) ?_) | ((with_reducible refine xS ?_); refine uD 20 zM24 zPGE zPGP 120 rfl (by kernel_rfl) ?_) | ((with_reducible refine xR ?_); refine uE 22 zM24 zPHE zPHP 120 rfl (by kernel_rfl) ?_)) <;> ((try with_reducible intro K1 hK1); simp only [go_sem, ↓reduceIte, reduceCtorEq, nA, nB, nC, nD, nE, nF] <;> and_intros <;> first | (apply hK1; clear hK1 K1) | (intros; first | omega | decide) | skip))))
     exact ⟨_, by decide, _, _, xs, hn, .inr (.inl ⟨rfl, rfl, by simp [hq]⟩), rfl⟩
   | true =>
    simp only [Bool.and_eq_true] at hxx
    obtain ⟨rfl, rfl, rfl⟩ := hxx
    (repeat (first | refine gO rfl ?_ | ((first | refine gM zM24 ?_ | (with_reducible refine wM ?_ ?_) | ((with_reducible refine xS ?_); refine uD 18 zM24 zPFE zPFP 120 rfl (by kernel_rfl) ?_) | ((with_reducible refine xS ?_); refine uD 20 zM24 zPGE zPGP 120 rfl (by kernel_rfl) ?_) | ((with_reducible refine xR ?_); refine uE 22 zM24 zPHE zPHP 120 rfl (by kernel_rfl) ?_)) <;> ((try with_reducible intro K1 hK1); simp only [go_sem, ↓reduceIte, reduceCtorEq, nA, nB, nC, nD, nE, nF, g0, e1, e2, e3] <;> and_intros <;> first | (apply hK1; clear hK1 K1) | (intros; first | omega | decide) | skip))))
    refine awp_cond (t := _) rfl (fun _ => ?_) (fun h6 => by cases h6)
    (repeat (first | refine gO rfl ?_ | ((first | refine gM zM24 ?_ | (with_reducible refine wM ?_ ?_) | ((with_reducible refine xS ?_); refine uD 18 zM24 zPFE zPFP 120 rfl (by kernel_rfl) ?_) | ((with_reducible refine xS ?_); refine uD 20 zM24 zPGE zPGP 120 rfl (by kernel_rfl) ?_) | ((with_reducible refine xR ?_); refine uE 22 zM24 zPHE zPHP 120 rfl (by kernel_rfl) ?_)) <;> ((try with_reducible intro K1 hK1); simp only [go_sem, ↓reduceIte, reduceCtorEq, nA, nB, nC, nD, nE, nF, hTq, hle] <;> and_intros <;> first | (apply hK1; clear hK1 K1) | (intros; first | omega | decide) | skip))))
    refine ⟨_, by decide, _, n + 1, xs ++ [a], by simp [hn], .inr (.inl ⟨rfl, rfl, by simp [hq]⟩), ?_⟩
    rw [List.map_append]
    (try simp only [upd_upd])
    rfl
  ·(repeat (first | refine gO rfl ?_ | ((first | refine gM zM24 ?_ | (with_reducible refine wM ?_ ?_) | ((with_reducible refine xS ?_); refine uD 18 zM24 zPFE zPFP 120 rfl (by kernel_rfl) ?_) | ((with_reducible refine xS ?_); refine uD 20 zM24 zPGE zPGP 120 rfl (by kernel_rfl) ?_) | ((with_reducible refine xR ?_); refine uE 22 zM24 zPHE zPHP 120 rfl (by kernel_rfl) ?_)) <;> ((try with_reducible intro K1 hK1); simp only [go_sem, ↓reduceIte, reduceCtorEq, nA, nB, nC, nD, nE, nF] <;> and_intros <;> first | (apply hK1; clear hK1 K1) | (intros; first | omega | decide) | skip))))
   refine awp_cond (t := _) rfl (fun _ => ?_) (fun h6 => by cases h6)
   obtain ⟨x2, e2⟩ : ∃ c, decide (fr < b) = c := ⟨_, rfl⟩
   obtain ⟨x3, e3⟩ : ∃ c, decide (b < t2) = c := ⟨_, rfl⟩
   have hq : (decide (it = item) && (decide (fr < b) && decide (b < t2))) = (x1 && (x2 && x3)) := by rw [← ba_beq, e1, e2, e3]
   cases hxx : (x1 && (x2 && x3)) with
   | false =>
    have hc4 : x1 = false ∨ (x1 = true ∧ x2 = false) ∨ (x1 = true ∧ x2 = true ∧ x3 = false) := by
     cases x1 <;> cases x2 <;> cases x3 <;> simp at hxx <;> simp
    rcases hc4 with rfl | ⟨rfl, rfl⟩ | ⟨rfl, rfl, rfl⟩
    all_goals
     (repeat (first | refine gO rfl ?_ | ((first | refine gM zM24 ?_ | (with_reducible refine wM ?_ ?_) | ((with_reducible refine xS ?_); refine uD 18 zM24 zPFE zPFP 120 rfl (by kernel_rfl) ?_) | ((with_reducible refine xS ?_); refine uD 20 zM24 zPGE zPGP 120 rfl (by kernel_rfl) ?_) | ((with_reducible refine xR ?_); refine uE 22 zM24 zPHE zPHP 120 rfl (by kernel_rfl) ?_)) <;> ((try with_reducible intro K1 hK1); simp only [go_sem, ↓reduceIte, reduceCtorEq, nA, nB, nC, nD, nE, nF, g1, e1, e2, e3] <;> and_intros <;> first | (apply hK1; clear hK1 K1) | (intros; first | omega | decide) | skip))))
     refine awp_cond (t := _) rfl (fun h6 => by cases h6) (fun _ => ?_)
     (repeat (first | refine gO rfl ?_ | ((first | refine gM zM24 ?_ | (with_reducible refine wM ?_ ?_) | ((with_reducible refine xS ?_); refine uD 18 zM24 zPFE zPFP 120 rfl (by kernel_rfl) ?_) | ((with_reducible refine xS ?_); refine uD 20 zM24 zPGE zPGP 120 rfl (by kernel_rfl) ?_) | ((with_reducible refine xR ?_); refine uE 22 zM24 zPHE zPHP 120 rfl (by kernel_rfl) ?_)) <;> ((try with_reducible intro K1 hK1); simp only [go_sem, ↓reduceIte, reduceCtorEq, nA, nB, nC, nD, nE, nF] <;> and_intros <;> first | (apply hK1; clear hK1 K1) | (intros; first | omega | decide) | skip))))
     exact ⟨_, by decide, _, _, xs, hn, .inr (.inr ⟨rfl, rfl, by rw [hx]; simp [List.filter_cons, hq]; try (split <;> rfl)⟩), rfl⟩
   | true =>
    simp only [Bool.and_eq_true] at hxx
    obtain ⟨rfl, rfl, rfl⟩ := hxx
    (repeat (first | refine gO rfl ?_ | ((first | refine gM zM24 ?_ | (with_reducible refine wM ?_ ?_) | ((with_reducible refine xS ?_); refine uD 18 zM24 zPFE zPFP 120 rfl (by kernel_rfl) ?_) | ((with_reducible refine xS ?_); refine uD 20 zM24 zPGE zPGP 120 rfl (by kernel_rfl) ?_) | ((with_reducible refine xR ?_); refine uE 22 zM24 zPHE zPHP 120 rfl (by kernel_rfl) ?_)) <;> ((try with_reducible intro K1 hK1); simp only [go_sem, ↓reduceIte, reduceCtorEq, nA, nB, nC, nD, nE, nF, g1, e1, e2, e3] <;> and_intros <;> first | (apply hK1; clear hK1 K1) | (intros; first | omega | decide) | skip))))
    refine awp_cond (t := _) rfl (fun _ => ?_) (fun h6 => by cases h6)
    (repeat (first | refine gO rfl ?_ | ((first | refine gM zM24 ?_ | (with_reducible refine wM ?_ ?_) | ((with_reducible refine xS ?_); refine uD 18 zM24 zPFE zPFP 120 rfl (by kernel_rfl) ?_) | ((with_reducible refine xS ?_); refine uD 20 zM24 zPGE zPGP 120 rfl (by kernel_rfl) ?_) | ((with_reducible refine xR ?_); refine uE 22 zM24 zPHE zPHP 120 rfl (by kernel_rfl) ?_)) <;> ((try with_reducible intro K1 hK1); simp only [go_sem, ↓reduceIte, reduceCtorEq, nA, nB, nC, nD, nE, nF, hTq, hle] <;> and_intros <;> first | (apply hK1; clear hK1 K1) | (intros; first | omega | decide) | skip))))
    refine ⟨_, by decide, _, n + 1, xs ++ [b], by simp [hn], .inr (.inr ⟨rfl, rfl, by rw [hx]; simp [List.filter_cons, hq]; try (split <;> rfl)⟩), ?_⟩
    rw [List.map_append]
    (try simp only [upd_upd])
    rfl
  ·(repeat (first | refine gO rfl ?_ | ((first | refine gM zM24 ?_ | (with_reducible refine wM ?_ ?_) | ((with_reducible refine xS ?_); refine uD 18 zM24 zPFE zPFP 120 rfl (by kernel_rfl) ?_) | ((with_reducible refine xS ?_); refine uD 20 zM24 zPGE zPGP 120 rfl (by kernel_rfl) ?_) | ((with_reducible refine xR ?_); refine uE 22 zM24 zPHE zPHP 120 rfl (by kernel_rfl) ?_)) <;> ((try with_reducible intro K1 hK1); simp only [go_sem, ↓reduceIte, reduceCtorEq, nA, nB, nC, nD, nE, nF] <;> and_intros <;> first | (apply hK1; clear hK1 K1) | (intros; first | omega | decide) | skip))))
   refine awp_cond (t := _) rfl (fun h6 => by cases h6) (fun _ => ?_)
   (repeat (first | refine gO rfl ?_ | ((first | refine gM zM24 ?_ | (with_reducible refine wM ?_ ?_) | ((with_reducible refine xS ?_); refine uD 18 zM24 zPFE zPFP 120 rfl (by kernel_rfl) ?_) | ((with_reducible refine xS ?_); refine uD 20 zM24 zPGE zPGP 120 rfl (by kernel_rfl) ?_) | ((with_reducible refine xR ?_); refine uE 22 zM24 zPHE zPHP 120 rfl (by kernel_rfl) ?_)) <;> ((try with_reducible intro K1 hK1); simp only [go_sem, ↓reduceIte, reduceCtorEq, nA, nB, nC, nD, nE, nF] <;> and_intros <;> first | (apply hK1; clear hK1 K1) | (intros; first | omega | decide) | skip))))
   refine ⟨g - 1, by omega, j + 1, n, xs, by omega, hn, by rw [het, hx], rfl⟩
 ·simp only [decide_eq_false_iff_not] at h5
  have hjl : j = rs.length := by omega
  subst hjl
  rw [List.take_length] at hxs
  have hEl := cuts0_len item fr t2 rs
  have hE2 : 2 ≤ (cuts0 item fr t2 rs).length := by unfold cuts0; simp
  have hok1 := onceI_ok (cuts0 item fr t2 rs)
  have hol := onceI_len (cuts0 item fr t2 rs)
  have hfm : fr ∈ cuts0 item fr t2 rs := by unfold cuts0; simp
  have htm : timesP tags item fr t2 rs = runsW (fun x => mayL tags item x rs false) (onceI (cuts0 item fr t2 rs)) [] := rfl
  rw [htm]
  rw [← hxs] at hEl hE2 hok1 hol hfm ⊢
  subst hn
  clear hxs htm
  (repeat (first | refine gO rfl ?_ | ((first | refine gM zM24 ?_ | (with_reducible refine wM ?_ ?_) | ((with_reducible refine xS ?_); refine uD 18 zM24 zPFE zPFP 120 rfl (by kernel_rfl) ?_) | ((with_reducible refine xS ?_); refine uD 20 zM24 zPGE zPGP 120 rfl (by kernel_rfl) ?_) | ((with_reducible refine xR ?_); refine uE 22 zM24 zPHE zPHP 120 rfl (by kernel_rfl) ?_)) <;> ((try with_reducible intro K1 hK1); simp only [go_sem, ↓reduceIte, reduceCtorEq, nA, nB, nC, nD, nE, nF] <;> and_intros <;> first | (apply hK1; clear hK1 K1) | (intros; first | omega | decide) | skip))))
  refine (g_sortI k xs ⟨h.H, upd h.T k (some (.cont 1 (xs.map encI)))⟩ (upd_same _ _ _) (by omega) (by omega)).mono ?_; rintro _ hz ⟨rfl, hh⟩; apply hK1; clear hK1 K1; rw [hh]; clear hh hz
  (repeat (first | refine gO rfl ?_ | ((first | refine gM zM24 ?_ | (with_reducible refine wM ?_ ?_) | ((with_reducible refine xS ?_); refine uD 18 zM24 zPFE zPFP 120 rfl (by kernel_rfl) ?_) | ((with_reducible refine xS ?_); refine uD 20 zM24 zPGE zPGP 120 rfl (by kernel_rfl) ?_) | ((with_reducible refine xR ?_); refine uE 22 zM24 zPHE zPHP 120 rfl (by kernel_rfl) ?_)) <;> ((try with_reducible intro K1 hK1); simp only [go_sem, ↓reduceIte, reduceCtorEq, nA, nB, nC, nD, nE, nF] <;> and_intros <;> first | (apply hK1; clear hK1 K1) | (intros; first | omega | decide) | skip))))
  obtain ⟨S, hS⟩ : ∃ S, xs.mergeSort (fun x y => decide (x ≤ y)) = S := ⟨_, rfl⟩
  have hSl : S.length = xs.length := by rw [← hS, List.length_mergeSort]
  have hSP : onceI xs = Lib.compact S := by rw [← hS]; rfl
  rw [hS, ← hSl]
  refine (g_compI k S ⟨h.H, upd h.T k (some (.cont 1 (S.map encI)))⟩ (upd_same _ _ _) (by omega) (by omega)).mono ?_; rintro _ hz ⟨rfl, hh⟩; apply hK1; clear hK1 K1; rw [hh]; clear hh hz
  rw [← hSP]
  simp only [upd_upd]
  rw [upd_back hk]
  obtain ⟨P, hP⟩ : ∃ P, onceI xs = P := ⟨_, rfl⟩
  rw [hP] at hok1 hol ⊢
  have hP1 : 1 ≤ P.length := List.length_pos_of_mem ((hok1.2 fr).2 hfm)
  have hPl : P.length ≤ 1100 := by omega
  clear hSP hS hP hfm hok1 hol hE2 hEl
  have hmp : (P.map encI).length = P.length := List.length_map _
  (repeat (first | refine gQ rfl ?_ | ((first | refine gM zM24 ?_ | (with_reducible refine wM ?_ ?_) | ((with_reducible refine xS ?_); refine uD 18 zM24 zPFE zPFP 120 rfl (by kernel_rfl) ?_) | ((with_reducible refine xS ?_); refine uD 20 zM24 zPGE zPGP 120 rfl (by kernel_rfl) ?_) | ((with_reducible refine xR ?_); refine uE 22 zM24 zPHE zPHP 120 rfl (by kernel_rfl) ?_)) <;> ((try with_reducible intro K1 hK1); simp only [go_sem, ↓reduceIte, reduceCtorEq, nA, nB, nC, nD, nE, nF] <;> and_intros <;> first | (apply hK1; clear hK1 K1) | (intros; first | omega | decide | (simp_all <;> omega)) | skip))))
  refine awp_seq ?_
  refine awp_ownA 14 2 rfl ⟨rfl, rfl⟩ (fun k2 hk2 => ?_)
  replace hk2 : h.T k2 = none := hk2
  (repeat (first | refine gO rfl ?_ | ((first | refine gM zM24 ?_ | (with_reducible refine wM ?_ ?_) | ((with_reducible refine xS ?_); refine uD 18 zM24 zPFE zPFP 120 rfl (by kernel_rfl) ?_) | ((with_reducible refine xS ?_); refine uD 20 zM24 zPGE zPGP 120 rfl (by kernel_rfl) ?_) | ((with_reducible refine xR ?_); refine uE 22 zM24 zPHE zPHP 120 rfl (by kernel_rfl) ?_)) <;> ((try with_reducible intro K1 hK1); simp only [go_sem, ↓reduceIte, reduceCtorEq, nA, nB, nC, nD, nE, nF, hmp] <;> and_intros <;> first | (apply hK1; clear hK1 K1) | (intros; first | omega | decide) | skip))))
  refine awp_loopC (rl false [0, 1, 1, 1, 2, 1, 3, 1, 4, 2, 104]) 0 (fun g s => ∃ (i n : Nat) (acc : List Wnd), g + (i + 1) = P.length ∧ acc.length = n ∧ n ≤ i ∧ runsW (fun x => mayL tags item x rs false) (P.drop i) acc = runsW (fun x => mayL tags item x rs false) P [] ∧
   s = ⟨((.row 5 (rs.map encRt) kk) :: AV.junk :: ((.v (.string item)) :: AV.junk :: AV.junk :: ((.ref [.v (.string key), .v (.string scr), .v (.int .i64 zone), .row 1 (tags.map encS) none] 0) :: (jnk 3 ((.row 1 (P.map encI) none) :: (jnk 4 ((.arr 2 k2 n) :: (.v (.int .i64 i)) :: (jnk 104 [])))))))), [], ⟨h.H, upd h.T k2 (some (.cont 2 (acc.map encW2)))⟩⟩) (P.length - 1) ⟨0, 0, [], by omega, rfl, Nat.le_refl _, rfl, rfl⟩ ?_
  rintro g _ ⟨i, n, acc, hg, hn, hni, hinv, rfl⟩
  have hTq : upd h.T k2 (some (TO.cont 2 (acc.map encW2))) k2 = some (TO.cont 2 (acc.map encW2)) := upd_same _ _ _
  have hla : (acc.map encW2).length = n := by rw [List.length_map, hn]
  (repeat (first | refine gO rfl ?_ | ((first | refine gM zM24 ?_ | (with_reducible refine wM ?_ ?_) | ((with_reducible refine xS ?_); refine uD 18 zM24 zPFE zPFP 120 rfl (by kernel_rfl) ?_) | ((with_reducible refine xS ?_); refine uD 20 zM24 zPGE zPGP 120 rfl (by kernel_rfl) ?_) | ((with_reducible refine xR ?_); refine uE 22 zM24 zPHE zPHP 120 rfl (by kernel_rfl) ?_)) <;> ((try with_reducible intro K1 hK1); simp only [go_sem, ↓reduceIte, reduceCtorEq, nA, nB, nC, nD, nE, nF, hmp] <;> and_intros <;> first | (apply hK1; clear hK1 K1) | (intros; first | omega | decide) | skip))))
  refine awp_cond (t := _) rfl (fun h5 => ?_) (fun h5 => ?_)
  ·simp only [decide_eq_true_eq] at h5
   have hi : i + 1 < P.length := by omega
   have gP : (P.map encI).getD i [] = [.v (.int .i64 P[i])] := by rw [List.getD_eq_getElem?_getD, List.getElem?_map, List.getElem?_eq_getElem (show i < P.length by omega)]; rfl
   have gP1 : (P.map encI).getD (i + 1) [] = [.v (.int .i64 P[i + 1])] := by rw [List.getD_eq_getElem?_getD, List.getElem?_map, List.getElem?_eq_getElem hi]; rfl
   have ht1 : ((i : Int) + 1).toNat = i + 1 := by omega
   rw [runs_at _ P acc i hi] at hinv
   generalize P[i] = a at *
   generalize P[i + 1] = b at *
   (repeat (first | refine gO rfl ?_ | ((first | refine gM zM24 ?_ | (with_reducible refine wM ?_ ?_) | ((with_reducible refine xS ?_); refine uD 18 zM24 zPFE zPFP 120 rfl (by kernel_rfl) ?_) | ((with_reducible refine xS ?_); refine uD 20 zM24 zPGE zPGP 120 rfl (by kernel_rfl) ?_) | ((with_reducible refine xR ?_); refine uE 22 zM24 zPHE zPHP 120 rfl (by kernel_rfl) ?_)) <;> ((try with_reducible intro K1 hK1); simp only [go_sem, ↓reduceIte, reduceCtorEq, nA, nB, nC, nD, nE, nF, hmp, Int.toNat_natCast, gP] <;> and_intros <;> first | (apply hK1; clear hK1 K1) | (intros; first | omega | decide) | skip))))
   refine (hMay a _).mono ?_; rintro _ hz ⟨rfl, hh⟩; apply hK1; clear hK1 K1; rw [hh]; clear hh hz
   (repeat (first | refine gO rfl ?_ | ((first | refine gM zM24 ?_ | (with_reducible refine wM ?_ ?_) | ((with_reducible refine xS ?_); refine uD 18 zM24 zPFE zPFP 120 rfl (by kernel_rfl) ?_) | ((with_reducible refine xS ?_); refine uD 20 zM24 zPGE zPGP 120 rfl (by kernel_rfl) ?_) | ((with_reducible refine xR ?_); refine uE 22 zM24 zPHE zPHP 120 rfl (by kernel_rfl) ?_)) <;> ((try with_reducible intro K1 hK1); simp only [go_sem, ↓reduceIte, reduceCtorEq, nA, nB, nC, nD, nE, nF] <;> and_intros <;> first | (apply hK1; clear hK1 K1) | (intros; first | omega | decide) | skip))))
   all_goals try with_reducible rfl
   (repeat (first | refine gO rfl ?_ | ((first | refine gM zM24 ?_ | (with_reducible refine wM ?_ ?_) | ((with_reducible refine xS ?_); refine uD 18 zM24 zPFE zPFP 120 rfl (by kernel_rfl) ?_) | ((with_reducible refine xS ?_); refine uD 20 zM24 zPGE zPGP 120 rfl (by kernel_rfl) ?_) | ((with_reducible refine xR ?_); refine uE 22 zM24 zPHE zPHP 120 rfl (by kernel_rfl) ?_)) <;> ((try with_reducible intro K1 hK1); simp only [go_sem, ↓reduceIte, reduceCtorEq, nA, nB, nC, nD, nE, nF] <;> and_intros <;> first | (apply hK1; clear hK1 K1) | (intros; first | omega | decide) | skip))))
   cases hm : mayL tags item a rs false with
   | false =>
    rw [hm, if_neg (by decide)] at hinv
    refine awp_cond (t := _) rfl (fun _ => ?_) (fun h6 => by cases h6)
    (repeat (first | refine gO rfl ?_ | ((first | refine gM zM24 ?_ | (with_reducible refine wM ?_ ?_) | ((with_reducible refine xS ?_); refine uD 18 zM24 zPFE zPFP 120 rfl (by kernel_rfl) ?_) | ((with_reducible refine xS ?_); refine uD 20 zM24 zPGE zPGP 120 rfl (by kernel_rfl) ?_) | ((with_reducible refine xR ?_); refine uE 22 zM24 zPHE zPHP 120 rfl (by kernel_rfl) ?_)) <;> ((try with_reducible intro K1 hK1); simp only [go_sem, ↓reduceIte, reduceCtorEq, nA, nB, nC, nD, nE, nF] <;> and_intros <;> first | (apply hK1; clear hK1 K1) | (intros; first | omega | decide) | skip))))
    exact ⟨g - 1, by omega, i + 1, n, acc, by omega, hn, by omega, hinv, rfl⟩
   | true =>
    rw [hm, if_pos rfl] at hinv
    refine awp_cond (t := _) rfl (fun h6 => by cases h6) (fun _ => ?_)
    rcases List.eq_nil_or_concat acc with e0 | ⟨acc', w, e0⟩
    ·subst e0
     have hn0 : n = 0 := by rw [← hn]; rfl
     have hd0 : decide ((0 : Int) ≤ (n : Int) - 1) = false := by simp only [decide_eq_false_iff_not]; omega
     have hgn : ([] : List (List AV)).getD ((n : Int) - 1).toNat [] = [] := rfl
     rw [List.map_nil] at hTq hla
     (repeat (first | refine gO rfl ?_ | ((first | refine gM zM24 ?_ | (with_reducible refine wM ?_ ?_) | ((with_reducible refine xS ?_); refine uD 18 zM24 zPFE zPFP 120 rfl (by kernel_rfl) ?_) | ((with_reducible refine xS ?_); refine uD 20 zM24 zPGE zPGP 120 rfl (by kernel_rfl) ?_) | ((with_reducible refine xR ?_); refine uE 22 zM24 zPHE zPHP 120 rfl (by kernel_rfl) ?_)) <;> ((try with_reducible intro K1 hK1); simp only [go_sem, ↓reduceIte, reduceCtorEq, nA, nB, nC, nD, nE, nF, hTq, hla, hd0, hmp, Int.toNat_natCast, gP, hgn, List.getD_nil] <;> and_intros <;> first | (apply hK1; clear hK1 K1) | (intros; first | omega | decide) | skip))))
     refine ⟨.v (.bool false), rfl, ?_⟩
     apply hK1; clear hK1 K1
     (repeat (first | refine gO rfl ?_ | ((first | refine gM zM24 ?_ | (with_reducible refine wM ?_ ?_) | ((with_reducible refine xS ?_); refine uD 18 zM24 zPFE zPFP 120 rfl (by kernel_rfl) ?_) | ((with_reducible refine xS ?_); refine uD 20 zM24 zPGE zPGP 120 rfl (by kernel_rfl) ?_) | ((with_reducible refine xR ?_); refine uE 22 zM24 zPHE zPHP 120 rfl (by kernel_rfl) ?_)) <;> ((try with_reducible intro K1 hK1); simp only [go_sem, ↓reduceIte, reduceCtorEq, nA, nB, nC, nD, nE, nF] <;> and_intros <;> first | (apply hK1; clear hK1 K1) | (intros; first | omega | decide) | skip))))
     refine awp_cond (t := _) rfl (fun h6 => by cases h6) (fun _ => ?_)
     clear hd0 hgn hla hn
     subst hn0
     (repeat (first | refine gO rfl ?_ | ((first | refine gM zM24 ?_ | (with_reducible refine wM ?_ ?_) | ((with_reducible refine xS ?_); refine uD 18 zM24 zPFE zPFP 120 rfl (by kernel_rfl) ?_) | ((with_reducible refine xS ?_); refine uD 20 zM24 zPGE zPGP 120 rfl (by kernel_rfl) ?_) | ((with_reducible refine xR ?_); refine uE 22 zM24 zPHE zPHP 120 rfl (by kernel_rfl) ?_)) <;> ((try with_reducible intro K1 hK1); simp only [go_sem, ↓reduceIte, reduceCtorEq, nA, nB, nC, nD, nE, nF, hTq, hmp, Int.toNat_natCast, gP, gP1, ht1] <;> and_intros <;> first | (apply hK1; clear hK1 K1) | (intros; first | omega | decide) | skip))))
     exact ⟨g - 1, by omega, i + 1, 1, [(a, b)], by omega, rfl, by omega, hinv, rfl⟩
    ·rw [List.concat_eq_append] at e0
     subst e0
     obtain ⟨m, hm0⟩ : ∃ m, acc'.length = m := ⟨_, rfl⟩
     have hnm : n = m + 1 := by rw [← hn, ← hm0]; simp
     obtain ⟨w1, w2⟩ := w
     have hd0 : decide ((0 : Int) ≤ (n : Int) - 1) = true := by simp only [decide_eq_true_eq]; omega
     have ht2 : ((n : Int) - 1).toNat = m := by omega
     have gA : ((acc' ++ [(w1, w2)]).map encW2).getD m [] = [.v (.int .i64 w1), .v (.int .i64 w2)] := by
      rw [List.map_append, List.getD_eq_getElem?_getD, List.getElem?_append_right (by simp [hm0])]
      simp [hm0, encW2]
     have hst : ∀ X, ((acc' ++ [(w1, w2)]).map encW2).set m X = acc'.map encW2 ++ [X] := fun X => by
      rw [List.map_append, List.set_append_right _ _ (by simp [hm0])]
      simp [hm0]
     have hpw : pushW (acc' ++ [(w1, w2)]) a b = if w2 = a then acc' ++ [(w1, b)] else acc' ++ [(w1, w2)] ++ [(a, b)] := by
      unfold pushW
      rw [List.getLast?_append]
      simp
     rw [hpw] at hinv
     clear hpw
     by_cases hwa : w2 = a
     ·rw [if_pos hwa] at hinv
      have hqe : (w2 == a) = true := by simpa using hwa
      (repeat (first | refine gO rfl ?_ | ((first | refine gM zM24 ?_ | (with_reducible refine wM ?_ ?_) | ((with_reducible refine xS ?_); refine uD 18 zM24 zPFE zPFP 120 rfl (by kernel_rfl) ?_) | ((with_reducible refine xS ?_); refine uD 20 zM24 zPGE zPGP 120 rfl (by kernel_rfl) ?_) | ((with_reducible refine xR ?_); refine uE 22 zM24 zPHE zPHP 120 rfl (by kernel_rfl) ?_)) <;> ((try with_reducible intro K1 hK1); simp only [go_sem, ↓reduceIte, reduceCtorEq, nA, nB, nC, nD, nE, nF, hTq, hla, hd0, hmp, Int.toNat_natCast, gP, ht2, gA, hqe] <;> and_intros <;> first | (apply hK1; clear hK1 K1) | (intros; first | omega | decide) | skip))))
      refine awp_cond (t := _) rfl (fun _ => ?_) (fun h6 => by cases h6)
      (repeat (first | refine gO rfl ?_ | ((first | refine gM zM24 ?_ | (with_reducible refine wM ?_ ?_) | ((with_reducible refine xS ?_); refine uD 18 zM24 zPFE zPFP 120 rfl (by kernel_rfl) ?_) | ((with_reducible refine xS ?_); refine uD 20 zM24 zPGE zPGP 120 rfl (by kernel_rfl) ?_) | ((with_reducible refine xR ?_); refine uE 22 zM24 zPHE zPHP 120 rfl (by kernel_rfl) ?_)) <;> ((try with_reducible intro K1 hK1); simp only [go_sem, ↓reduceIte, reduceCtorEq, nA, nB, nC, nD, nE, nF, hTq, hla, hmp, Int.toNat_natCast, gP1, ht1, ht2, gA, hst] <;> and_intros <;> first | (apply hK1; clear hK1 K1) | (intros; first | omega | decide) | skip))))
      exact ⟨g - 1, by omega, i + 1, n, acc' ++ [(w1, b)], by omega, by simp [hm0, hnm], by omega, hinv, by rw [List.map_append]; rfl⟩
     ·rw [if_neg hwa] at hinv
      have hqe : (w2 == a) = false := by simpa using hwa
      (repeat (first | refine gO rfl ?_ | ((first | refine gM zM24 ?_ | (with_reducible refine wM ?_ ?_) | ((with_reducible refine xS ?_); refine uD 18 zM24 zPFE zPFP 120 rfl (by kernel_rfl) ?_) | ((with_reducible refine xS ?_); refine uD 20 zM24 zPGE zPGP 120 rfl (by kernel_rfl) ?_) | ((with_reducible refine xR ?_); refine uE 22 zM24 zPHE zPHP 120 rfl (by kernel_rfl) ?_)) <;> ((try with_reducible intro K1 hK1); simp only [go_sem, ↓reduceIte, reduceCtorEq, nA, nB, nC, nD, nE, nF, hTq, hla, hd0, hmp, Int.toNat_natCast, gP, ht2, gA, hqe] <;> and_intros <;> first | (apply hK1; clear hK1 K1) | (intros; first | omega | decide) | skip))))
      refine awp_cond (t := _) rfl (fun h6 => by cases h6) (fun _ => ?_)
      (repeat (first | refine gO rfl ?_ | ((first | refine gM zM24 ?_ | (with_reducible refine wM ?_ ?_) | ((with_reducible refine xS ?_); refine uD 18 zM24 zPFE zPFP 120 rfl (by kernel_rfl) ?_) | ((with_reducible refine xS ?_); refine uD 20 zM24 zPGE zPGP 120 rfl (by kernel_rfl) ?_) | ((with_reducible refine xR ?_); refine uE 22 zM24 zPHE zPHP 120 rfl (by kernel_rfl) ?_)) <;> ((try with_reducible intro K1 hK1); simp only [go_sem, ↓reduceIte, reduceCtorEq, nA, nB, nC, nD, nE, nF, hTq, hla, hmp, Int.toNat_natCast, gP, gP1, ht1] <;> and_intros <;> first | (apply hK1; clear hK1 K1) | (intros; first | omega | decide) | skip))))
      exact ⟨g - 1, by omega, i + 1, n + 1, acc' ++ [(w1, w2)] ++ [(a, b)], by omega, by simp [hm0, hnm], by omega, hinv, by
       rw [show (acc' ++ [(w1, w2)] ++ [(a, b)]).map encW2 = (acc' ++ [(w1, w2)]).map encW2 ++ [encW2 (a, b)] from by rw [List.map_append]; rfl]
       rfl⟩
  ·simp only [decide_eq_false_iff_not] at h5
   have hi : i + 1 = P.length := by omega
   rw [runs_end _ P acc i hi] at hinv
   rw [← hinv]
   refine awp_frz 14 k2 2 (xs := acc.map encW2) (by rw [hla]; rfl) hTq (fun y hy => by obtain ⟨x, _, rfl⟩ := List.mem_map.1 hy; rfl) ?_
   (repeat (first | refine gO rfl ?_ | ((first | refine gM zM24 ?_ | (with_reducible refine wM ?_ ?_) | ((with_reducible refine xS ?_); refine uD 18 zM24 zPFE zPFP 120 rfl (by kernel_rfl) ?_) | ((with_reducible refine xS ?_); refine uD 20 zM24 zPGE zPGP 120 rfl (by kernel_rfl) ?_) | ((with_reducible refine xR ?_); refine uE 22 zM24 zPHE zPHP 120 rfl (by kernel_rfl) ?_)) <;> ((try with_reducible intro K1 hK1); simp only [go_sem, ↓reduceIte, reduceCtorEq, nA, nB, nC, nD, nE, nF] <;> and_intros <;> first | (apply hK1; clear hK1 K1) | (intros; first | omega | decide) | skip))))
   simp only [Tryz.results73, go_sem, ↓reduceIte, reduceCtorEq, nA, nB, nC, nD, nE, nF]
   refine ⟨_, h, Weak.refl _, ⟨fun _ => .inr rfl, fun t => ?_⟩, rfl, rfl⟩
   refine .inr ?_
   show h.T t = _
   simp only [upd_upd]
   rw [upd_back hk2]
abbrev zPIE : List Nat := [0, 1, 2, 3, 4, 5, 6]
abbrev zPIP : List (Nat × List Nat × List Nat) := [(7, [], [8])]
abbrev zPJE : List Nat := [0, 1, 2, 3, 4, 5, 6, 7, 8, 9, 10, 11, 12, 13, 14]
abbrev zPJP : List (Nat × List Nat × List Nat) := []
abbrev zPKE : List Nat := [0, 1, 2, 3, 4, 5, 6, 7, 8, 9, 10, 11]
abbrev zPKP : List (Nat × List Nat × List Nat) := [(12, [], []), (13, [], [])]
attribute [go_sem] zPIE zPIP zPJE zPJP zPKE zPKP
theorem g_Times (rs : List Rt) (p : Gu) (item : ByteArray) (fr t2 : Int) (kk : Option Nat) (hl : rs.length ≤ 500) (hok : ∀ r ∈ rs, RtOk r) (hp : GuOk p) (hi : item.size ≤ 4) (h : Hp) :
  ACalls Tryz.prog 16 [.row 5 (rs.map encRt) kk, .agg (encGu p), .v (.string item), .agg [.v (.int .i64 fr), .v (.int .i64 t2)]] h
   (fun r h' => r = (if quF rs p item = 0 then (if winF fr t2 = 0 then .tup [.row 2 ((timesP p.tags item fr t2 rs).map encW2) none, .v (.int .i64 0)] else .tup [.v (.slice none 0 0), .v (.int .i64 (winF fr t2))]) else .tup [.v (.slice none 0 0), .v (.int .i64 (quF rs p item))]) ∧ h' = h) := by
 have hQ := g_question rs p item kk hl hok hp hi h
 have hG := fun hs => g_times rs p item fr t2 kk hl hok hp hs h
 have hO := a_outside fr 0 t2 h
 have hw3 : encGu p = [.v (.string p.key), .v (.string p.scr), .v (.int .i64 p.zone), encGr p.tags] := rfl
 rw [hw3] at hQ hG ⊢
 unfold encGr at hQ hG ⊢
 obtain ⟨x3, e3⟩ : ∃ x, decide (t2 ≤ 345686400000) = x := ⟨_, rfl⟩
 have n3 : decide (345686400000 < t2) = !x3 := by rw [← e3, ← decide_not]; exact decide_eq_decide.2 (by omega)
 have hm := winF_of (a := fr) (b := t2) rfl rfl e3
 clear e3
 obtain ⟨c0, hc0⟩ : ∃ c, (decide (fr < 0) || decide (t2 < fr)) = c := ⟨_, rfl⟩
 have hc1 : (decide (0 ≤ fr) && decide (fr ≤ t2)) = !c0 := by
  rw [← hc0, Bool.not_or, ← decide_not, ← decide_not]
  congr 1
  ·exact decide_eq_decide.2 (by omega)
  ·exact decide_eq_decide.2 (by omega)
 rw [← Bool.and_assoc, hc1] at hm
 rw [hc0] at hO
 clear hc0 hc1
 refine gE Tryz.func16 rfl (by kernel_rfl) 29 rfl fun c => ?_
 (repeat (first | refine gO rfl ?_ | (refine gR fun K1 hK1 => ?_; simp only [go_sem, ↓reduceIte, reduceCtorEq, nA, nB, nC, nD, nE, nF] <;> and_intros <;> first | (apply hK1; clear hK1 K1) | (intros; first | omega | decide) | skip)))
 refine hQ.mono ?_; rintro _ hz ⟨rfl, hh⟩; apply hK1; clear hK1 K1; rw [hh]; clear hh hz
 (repeat (first | refine gO rfl ?_ | (refine gR fun K1 hK1 => ?_; simp only [go_sem, ↓reduceIte, reduceCtorEq, nA, nB, nC, nD, nE, nF] <;> and_intros <;> first | (apply hK1; clear hK1 K1) | (intros; first | omega | decide) | skip)))
 by_cases h1 : quF rs p item = 0
 ·refine awp_cond (t := _) rfl (fun h6 => by rw [h1] at h6; cases h6) (fun _ => ?_)
  rw [if_pos h1]
  (repeat (first | refine gO rfl ?_ | (refine gR fun K1 hK1 => ?_; simp only [go_sem, ↓reduceIte, reduceCtorEq, nA, nB, nC, nD, nE, nF] <;> and_intros <;> first | (apply hK1; clear hK1 K1) | (intros; first | omega | decide) | skip)))
  refine hO.mono ?_; rintro _ hz ⟨rfl, hh⟩; apply hK1; clear hK1 K1; rw [hh]; clear hh hz
  cases c0 <;> cases x3
  all_goals
   (repeat (first | refine gO rfl ?_ | (refine gR fun K1 hK1 => ?_; simp only [go_sem, ↓reduceIte, reduceCtorEq, nA, nB, nC, nD, nE, nF, n3, Bool.not_true, Bool.not_false] <;> and_intros <;> first | (apply hK1; clear hK1 K1) | (intros; first | omega | decide) | skip)))
   refine awp_cond (t := _) rfl (fun h6 => ?_) (fun h6 => ?_)
   all_goals try (exfalso; cases h6; done)
   simp only [Bool.not_true, Bool.not_false, Bool.and_true, Bool.and_false, Bool.false_and, Bool.and_self, cond_true, cond_false] at hm
   rw [hm]
  ·(repeat (first | refine gO rfl ?_ | (refine gR fun K1 hK1 => ?_; simp only [go_sem, ↓reduceIte, reduceCtorEq, nA, nB, nC, nD, nE, nF] <;> and_intros <;> first | (apply hK1; clear hK1 K1) | (intros; first | omega | decide) | skip)))
   simp only [Tryz.results16, go_sem, ↓reduceIte, reduceCtorEq, nA, nB, nC, nD, nE, nF]
   exact ⟨_, _, Weak.refl _, Hp.le.refl _, rfl, rfl⟩
  ·(repeat (first | refine gO rfl ?_ | (refine gR fun K1 hK1 => ?_; simp only [go_sem, ↓reduceIte, reduceCtorEq, nA, nB, nC, nD, nE, nF] <;> and_intros <;> first | (apply hK1; clear hK1 K1) | (intros; first | omega | decide) | skip)))
   refine (hG (guF_tags (quF_gu h1).2.1)).mono ?_; rintro _ hz ⟨rfl, hh⟩; apply hK1; clear hK1 K1; rw [hh]; clear hh hz
   (repeat (first | refine gO rfl ?_ | (refine gR fun K1 hK1 => ?_; simp only [go_sem, ↓reduceIte, reduceCtorEq, nA, nB, nC, nD, nE, nF] <;> and_intros <;> first | (apply hK1; clear hK1 K1) | (intros; first | omega | decide) | skip)))
   simp only [Tryz.results16, go_sem, ↓reduceIte, reduceCtorEq, nA, nB, nC, nD, nE, nF]
   exact ⟨_, _, Weak.refl _, Hp.le.refl _, rfl, rfl⟩
  ·(repeat (first | refine gO rfl ?_ | (refine gR fun K1 hK1 => ?_; simp only [go_sem, ↓reduceIte, reduceCtorEq, nA, nB, nC, nD, nE, nF] <;> and_intros <;> first | (apply hK1; clear hK1 K1) | (intros; first | omega | decide) | skip)))
   simp only [Tryz.results16, go_sem, ↓reduceIte, reduceCtorEq, nA, nB, nC, nD, nE, nF]
   exact ⟨_, _, Weak.refl _, Hp.le.refl _, rfl, rfl⟩
  ·(repeat (first | refine gO rfl ?_ | (refine gR fun K1 hK1 => ?_; simp only [go_sem, ↓reduceIte, reduceCtorEq, nA, nB, nC, nD, nE, nF] <;> and_intros <;> first | (apply hK1; clear hK1 K1) | (intros; first | omega | decide) | skip)))
   simp only [Tryz.results16, go_sem, ↓reduceIte, reduceCtorEq, nA, nB, nC, nD, nE, nF]
   exact ⟨_, _, Weak.refl _, Hp.le.refl _, rfl, rfl⟩
 ·refine awp_cond (t := _) rfl (fun _ => ?_) (fun h6 => absurd h6 (by simpa using h1))
  (repeat (first | refine gO rfl ?_ | (refine gR fun K1 hK1 => ?_; simp only [go_sem, ↓reduceIte, reduceCtorEq, nA, nB, nC, nD, nE, nF] <;> and_intros <;> first | (apply hK1; clear hK1 K1) | (intros; first | omega | decide) | skip)))
  simp only [Tryz.results16, go_sem, ↓reduceIte, reduceCtorEq, nA, nB, nC, nD, nE, nF]
  exact ⟨_, _, Weak.refl _, Hp.le.refl _, by rw [if_neg h1], rfl⟩
abbrev zPLE : List Nat := [0, 1, 2, 3, 4, 5, 6, 7, 8, 9, 10, 11, 12]
abbrev zPLP : List (Nat × List Nat × List Nat) := []
abbrev zPME : List Nat := [0, 1, 2, 3, 4, 5, 6, 7, 8, 9, 10, 11, 12, 13, 14, 15, 16, 17]
abbrev zPMP : List (Nat × List Nat × List Nat) := [(18, [], [19])]
attribute [go_sem] zPLE zPLP zPME zPMP
theorem g_playersF1 (p : Gu) (hp : GuOk p) (hz : guF p = 0) (h : Hp) : ACalls Tryz.prog 86 [.row 4 [encGu p] none] h (fun r h' => r = .v (.int .i64 0) ∧ h' = h) := by
 have hP := g_playerF p hp h
 rw [hz] at hP
 have hw3 : encGu p = [.v (.string p.key), .v (.string p.scr), .v (.int .i64 p.zone), .row 1 (p.tags.map encS) none] := rfl
 rw [hw3] at hP
 obtain ⟨R, hR⟩ : ∃ R, R = [encGu p] := ⟨_, rfl⟩
 rw [← hR]
 have g0 : R.getD (Int.toNat 0) [] = [.v (.string p.key), .v (.string p.scr), .v (.int .i64 p.zone), .row 1 (p.tags.map encS) none] := by rw [hR]; rfl
 have g1 : R.getD ((0 : Int) - 1).toNat [] = [.v (.string p.key), .v (.string p.scr), .v (.int .i64 p.zone), .row 1 (p.tags.map encS) none] := by rw [hR]; rfl
 have hln : R.length = 1 := by rw [hR]; rfl
 clear hR hw3
 refine gE Tryz.func86 rfl (by kernel_rfl) 34 rfl fun c => ?_
 (repeat (first | refine gO rfl ?_ | ((first | refine gM zM20 ?_ | (with_reducible refine wM ?_ ?_) | ((with_reducible refine xS ?_); refine uD 9 zM20 zPLE zPLP 35 rfl (by kernel_rfl) ?_)) <;> ((try with_reducible intro K1 hK1); simp only [go_sem, ↓reduceIte, reduceCtorEq, nA, nB, nC, nD, nE, nF, hln] <;> and_intros <;> first | (apply hK1; clear hK1 K1) | (intros; first | omega | decide) | skip))))
 refine awp_cond (t := _) rfl (fun h6 => by cases h6) (fun _ => ?_)
 (repeat (first | refine gO rfl ?_ | ((first | refine gM zM20 ?_ | (with_reducible refine wM ?_ ?_) | ((with_reducible refine xS ?_); refine uD 9 zM20 zPLE zPLP 35 rfl (by kernel_rfl) ?_)) <;> ((try with_reducible intro K1 hK1); simp only [go_sem, ↓reduceIte, reduceCtorEq, nA, nB, nC, nD, nE, nF, hln] <;> and_intros <;> first | (apply hK1; clear hK1 K1) | (intros; first | omega | decide) | skip))))
 refine awp_loopC (rl false [0, 1, 8, 3, 23]) 0 (fun g s => ∃ iz : Int, (iz = 0 ∧ g = 1 ∨ iz = 1 ∧ g = 0) ∧
  s = ⟨((.row 4 R none) :: (jnk 8 ((.row 4 R none) :: (.v (.int .i64 1)) :: (.v (.int .i64 iz)) :: (jnk 23 [])))), [], h⟩) 1 ⟨0, .inl ⟨rfl, rfl⟩, rfl⟩ ?_
 rintro g _ ⟨iz, hc, rfl⟩
 rcases hc with ⟨rfl, rfl⟩ | ⟨rfl, rfl⟩
 ·(repeat (first | refine gO rfl ?_ | ((first | refine gM zM20 ?_ | (with_reducible refine wM ?_ ?_) | ((with_reducible refine xS ?_); refine uD 9 zM20 zPLE zPLP 35 rfl (by kernel_rfl) ?_)) <;> ((try with_reducible intro K1 hK1); simp only [go_sem, ↓reduceIte, reduceCtorEq, nA, nB, nC, nD, nE, nF] <;> and_intros <;> first | (apply hK1; clear hK1 K1) | (intros; first | omega | decide) | skip))))
  refine awp_cond (t := _) rfl (fun _ => ?_) (fun h6 => by cases h6)
  (repeat (first | refine gO rfl ?_ | ((first | refine gM zM20 ?_ | (with_reducible refine wM ?_ ?_) | ((with_reducible refine xS ?_); refine uD 9 zM20 zPLE zPLP 35 rfl (by kernel_rfl) ?_)) <;> ((try with_reducible intro K1 hK1); simp only [go_sem, ↓reduceIte, reduceCtorEq, nA, nB, nC, nD, nE, nF, g0, hln] <;> and_intros <;> first | (apply hK1; clear hK1 K1) | (intros; first | omega | decide) | skip))))
  refine hP.mono ?_; rintro _ hz ⟨rfl, hh⟩; apply hK1; clear hK1 K1; rw [hh]; clear hh hz
  (repeat (first | refine gO rfl ?_ | ((first | refine gM zM20 ?_ | (with_reducible refine wM ?_ ?_) | ((with_reducible refine xS ?_); refine uD 9 zM20 zPLE zPLP 35 rfl (by kernel_rfl) ?_)) <;> ((try with_reducible intro K1 hK1); simp only [go_sem, ↓reduceIte, reduceCtorEq, nA, nB, nC, nD, nE, nF] <;> and_intros <;> first | (apply hK1; clear hK1 K1) | (intros; first | omega | decide) | skip))))
  refine awp_cond (t := _) rfl (fun h6 => by cases h6) (fun _ => ?_)
  have hd : decide ((0 : Int) < 0) = false := rfl
  (repeat (first | refine gO rfl ?_ | ((first | refine gM zM20 ?_ | (with_reducible refine wM ?_ ?_) | ((with_reducible refine xS ?_); refine uD 9 zM20 zPLE zPLP 35 rfl (by kernel_rfl) ?_)) <;> ((try with_reducible intro K1 hK1); simp only [go_sem, ↓reduceIte, reduceCtorEq, nA, nB, nC, nD, nE, nF, g1, hln, hd] <;> and_intros <;> first | (apply hK1; clear hK1 K1) | (intros; first | omega | decide) | skip))))
  refine awp_cond (t := _) rfl (fun h6 => by cases h6) (fun _ => ?_)
  (repeat (first | refine gO rfl ?_ | ((first | refine gM zM20 ?_ | (with_reducible refine wM ?_ ?_) | ((with_reducible refine xS ?_); refine uD 9 zM20 zPLE zPLP 35 rfl (by kernel_rfl) ?_)) <;> ((try with_reducible intro K1 hK1); simp only [go_sem, ↓reduceIte, reduceCtorEq, nA, nB, nC, nD, nE, nF] <;> and_intros <;> first | (apply hK1; clear hK1 K1) | (intros; first | omega | decide) | skip))))
  exact ⟨0, by omega, 1, .inr ⟨rfl, rfl⟩, rfl⟩
 ·(repeat (first | refine gO rfl ?_ | ((first | refine gM zM20 ?_ | (with_reducible refine wM ?_ ?_) | ((with_reducible refine xS ?_); refine uD 9 zM20 zPLE zPLP 35 rfl (by kernel_rfl) ?_)) <;> ((try with_reducible intro K1 hK1); simp only [go_sem, ↓reduceIte, reduceCtorEq, nA, nB, nC, nD, nE, nF] <;> and_intros <;> first | (apply hK1; clear hK1 K1) | (intros; first | omega | decide) | skip))))
  refine awp_cond (t := _) rfl (fun h6 => by cases h6) (fun _ => ?_)
  (repeat (first | refine gO rfl ?_ | ((first | refine gM zM20 ?_ | (with_reducible refine wM ?_ ?_) | ((with_reducible refine xS ?_); refine uD 9 zM20 zPLE zPLP 35 rfl (by kernel_rfl) ?_)) <;> ((try with_reducible intro K1 hK1); simp only [go_sem, ↓reduceIte, reduceCtorEq, nA, nB, nC, nD, nE, nF] <;> and_intros <;> first | (apply hK1; clear hK1 K1) | (intros; first | omega | decide) | skip))))
  simp only [Tryz.results86, go_sem, ↓reduceIte, reduceCtorEq, nA, nB, nC, nD, nE, nF]
  exact ⟨_, _, Weak.refl _, Hp.le.refl _, rfl, rfl⟩
theorem g_ixInt (z : Int) (l : List Int) (h : Hp) (hl : l.length ≤ 100000) : ACalls Tryz.prog 108 [.row 1 (l.map encI) none, .v (.int .i64 z)] h (fun r h' => (∃ i : Int, r = .v (.int .i64 i) ∧ decide (0 ≤ i) = decide (z ∈ l)) ∧ h' = h) := by
 have hml : (l.map encI).length = l.length := List.length_map _
 refine gE Tryz.func108 rfl (by kernel_rfl) 17 rfl fun c => ?_
 (repeat (first | refine gO rfl ?_ | (refine gR fun K1 hK1 => ?_; simp only [go_sem, ↓reduceIte, reduceCtorEq, nA, nB, nC, nD, nE, nF, hml] <;> and_intros <;> first | (apply hK1; clear hK1 K1) | (intros; first | omega | decide) | skip)))
 refine awp_loopC (rl false [0, 2, 5, 2, 10]) 0 (fun g s' => ∃ j : Nat, g + j = l.length ∧ z ∉ l.take j ∧
  s' = ⟨((.row 1 (l.map encI) none) :: (.v (.int .i64 z)) :: (jnk 5 ((.v (.int .i64 l.length)) :: (.v (.int .i64 j)) :: (jnk 10 [])))), [], h⟩) l.length ⟨0, by omega, by simp, rfl⟩ ?_
 rintro g _ ⟨j, hj, hno, rfl⟩
 (repeat (first | refine gO rfl ?_ | (refine gR fun K1 hK1 => ?_; simp only [go_sem, ↓reduceIte, reduceCtorEq, nA, nB, nC, nD, nE, nF] <;> and_intros <;> first | (apply hK1; clear hK1 K1) | (intros; first | omega | decide) | skip)))
 refine awp_cond (t := _) rfl (fun h1 => ?_) (fun h1 => ?_)
 ·simp only [decide_eq_true_eq] at h1
  have hjl : j < l.length := by omega
  have gx : (l.map encI).getD j [] = [.v (.int .i64 l[j])] := by rw [List.getD_eq_getElem?_getD, List.getElem?_map, List.getElem?_eq_getElem hjl]; rfl
  have htk : l.take (j + 1) = l.take j ++ [l[j]] := List.take_succ_eq_append_getElem hjl
  have hmem : l[j] ∈ l := List.getElem_mem _
  generalize l[j] = y at *
  (repeat (first | refine gO rfl ?_ | (refine gR fun K1 hK1 => ?_; simp only [go_sem, ↓reduceIte, reduceCtorEq, nA, nB, nC, nD, nE, nF, hml, Int.toNat_natCast, gx] <;> and_intros <;> first | (apply hK1; clear hK1 K1) | (intros; first | omega | decide) | skip)))
  refine awp_cond (t := _) rfl (fun h9 => ?_) (fun h9 => ?_)
  ·have e : z = y := by simpa using h9
   subst e
   (repeat (first | refine gO rfl ?_ | (refine gR fun K1 hK1 => ?_; simp only [go_sem, ↓reduceIte, reduceCtorEq, nA, nB, nC, nD, nE, nF] <;> and_intros <;> first | (apply hK1; clear hK1 K1) | (intros; first | omega | decide) | skip)))
   simp only [Tryz.results108, go_sem, ↓reduceIte, reduceCtorEq, nA, nB, nC, nD, nE, nF]
   exact ⟨_, _, Weak.refl _, Hp.le.refl _, ⟨_, rfl, by simp [hmem]⟩, rfl⟩
  ·have e : z ≠ y := by simpa using h9
   (repeat (first | refine gO rfl ?_ | (refine gR fun K1 hK1 => ?_; simp only [go_sem, ↓reduceIte, reduceCtorEq, nA, nB, nC, nD, nE, nF] <;> and_intros <;> first | (apply hK1; clear hK1 K1) | (intros; first | omega | decide) | skip)))
   exact ⟨g - 1, by omega, j + 1, by omega, by rw [htk]; simp [hno, e], rfl⟩
 ·simp only [decide_eq_false_iff_not] at h1
  have hjl : j = l.length := by omega
  subst hjl
  rw [List.take_length] at hno
  (repeat (first | refine gO rfl ?_ | (refine gR fun K1 hK1 => ?_; simp only [go_sem, ↓reduceIte, reduceCtorEq, nA, nB, nC, nD, nE, nF] <;> and_intros <;> first | (apply hK1; clear hK1 K1) | (intros; first | omega | decide) | skip)))
  simp only [Tryz.results108, go_sem, ↓reduceIte, reduceCtorEq, nA, nB, nC, nD, nE, nF]
  exact ⟨_, _, Weak.refl _, Hp.le.refl _, ⟨_, rfl, by simp [hno]⟩, rfl⟩
theorem g_hasInt (z : Int) (l : List Int) (h : Hp) (hl : l.length ≤ 100000) : ACalls Tryz.prog 58 [.row 1 (l.map encI) none, .v (.int .i64 z)] h (fun r h' => r = .v (.bool (decide (z ∈ l))) ∧ h' = h) := by
 refine gE Tryz.func58 rfl (by kernel_rfl) 7 rfl fun c => ?_
 (repeat (first | refine gO rfl ?_ | (refine gR fun K1 hK1 => ?_; simp only [go_sem, ↓reduceIte, reduceCtorEq, nA, nB, nC, nD, nE, nF] <;> and_intros <;> first | (apply hK1; clear hK1 K1) | (intros; first | omega | decide) | skip)))
 refine (g_ixInt z l h hl).mono ?_
 rintro _ _ ⟨⟨i, rfl, hi⟩, rfl⟩; apply hK1; clear hK1 K1
 (repeat (first | refine gO rfl ?_ | (refine gR fun K1 hK1 => ?_; simp only [go_sem, ↓reduceIte, reduceCtorEq, nA, nB, nC, nD, nE, nF, hi] <;> and_intros <;> first | (apply hK1; clear hK1 K1) | (intros; first | omega | decide) | skip)))
 simp only [Tryz.results58, go_sem, ↓reduceIte, reduceCtorEq, nA, nB, nC, nD, nE, nF]
 exact ⟨_, _, Weak.refl _, Hp.le.refl _, rfl, rfl⟩
theorem g_idxWnd (fid : Nat) (caps : List AV) (W : List Wnd) (p : Wnd → Bool) (hl : W.length ≤ 100000) (h : Hp) (step : ∀ w ∈ W, ACalls Tryz.prog fid (.agg (encW2 w) :: caps) h (fun r h'' => r = .v (.bool (p w)) ∧ h'' = h)) :
  ACalls Tryz.prog 107 [.row 2 (W.map encW2) none, .fn fid caps] h (fun r h' => ∃ i : Int, r = .v (.int .i64 i) ∧ decide (0 ≤ i) = W.any p ∧ h' = h) := by
 have hll : (W.map encW2).length = W.length := List.length_map _
 refine gE Tryz.func107 rfl (by kernel_rfl) 17 rfl fun c => ?_
 (repeat (first | refine gO rfl ?_ | (refine gR fun K1 hK1 => ?_; simp only [go_sem, ↓reduceIte, reduceCtorEq, nA, nB, nC, nD, nE, nF, hll] <;> and_intros <;> first | (apply hK1; clear hK1 K1) | (intros; first | omega | decide | (simp_all <;> omega)) | skip)))
 refine awp_loopC (rl false [0, 2, 5, 2, 10]) 0 (fun g s => ∃ (j : Nat), g + j = W.length ∧ (W.take j).any p = false ∧ s = ⟨((.row 2 (W.map encW2) none) :: (.fn fid caps) :: (jnk 5 ((.v (.int .i64 W.length)) :: (.v (.int .i64 j)) :: (jnk 10 [])))), [], h⟩) W.length ⟨0, by omega, rfl, rfl⟩ ?_
 rintro g _ ⟨j, hj, hno, rfl⟩
 (repeat (first | refine gO rfl ?_ | (refine gR fun K1 hK1 => ?_; simp only [go_sem, ↓reduceIte, reduceCtorEq, nA, nB, nC, nD, nE, nF] <;> and_intros <;> first | (apply hK1; clear hK1 K1) | (intros; first | omega | decide | (simp_all <;> omega)) | skip)))
 refine awp_cond (t := _) rfl (fun h5 => ?_) (fun h5 => ?_)
 ·simp only [decide_eq_true_eq] at h5
  have hjk : j < W.length := by omega
  have hg : (W.map encW2).getD j [] = [.v (.int .i64 W[j].1), .v (.int .i64 W[j].2)] := by rw [List.getD_eq_getElem?_getD, List.getElem?_map, List.getElem?_eq_getElem hjk]; rfl
  have st := step W[j] (List.getElem_mem _)
  have hta : (W.take (j + 1)).any p = ((W.take j).any p || p W[j]) := by rw [List.take_succ_eq_append_getElem hjk, List.any_append]; simp
  generalize W[j] = w at *
  obtain ⟨w1, w2⟩ := w
  simp only at hg
  unfold encW2 at st
  (repeat (first | refine gO rfl ?_ | (refine gR fun K1 hK1 => ?_; simp only [go_sem, ↓reduceIte, reduceCtorEq, nA, nB, nC, nD, nE, nF, Int.toNat_natCast, hg, hll] <;> and_intros <;> first | (apply hK1; clear hK1 K1) | (intros; first | omega | decide | (simp_all <;> omega)) | skip)))
  refine st.mono ?_; rintro _ hz ⟨rfl, hh⟩; apply hK1; clear hK1 K1; rw [hh]; clear hh hz
  (repeat (first | refine gO rfl ?_ | (refine gR fun K1 hK1 => ?_; simp only [go_sem, ↓reduceIte, reduceCtorEq, nA, nB, nC, nD, nE, nF] <;> and_intros <;> first | (apply hK1; clear hK1 K1) | (intros; first | omega | decide) | skip)))
  refine awp_cond (t := _) rfl (fun h6 => ?_) (fun h6 => ?_)
  ·(repeat (first | refine gO rfl ?_ | (refine gR fun K1 hK1 => ?_; simp only [go_sem, ↓reduceIte, reduceCtorEq, nA, nB, nC, nD, nE, nF] <;> and_intros <;> first | (apply hK1; clear hK1 K1) | (intros; first | omega | decide) | skip)))
   simp only [Tryz.results107, go_sem, ↓reduceIte, reduceCtorEq, nA, nB, nC, nD, nE, nF]
   refine ⟨_, _, Weak.refl _, Hp.le.refl _, (j : Int), rfl, ?_, rfl⟩
   rw [h6, Bool.or_true] at hta
   have e : W.any p = ((W.take (j + 1)).any p || (W.drop (j + 1)).any p) := by rw [← List.any_append, List.take_append_drop]
   rw [e, hta, Bool.true_or]
   exact decide_eq_true (by omega)
  ·(repeat (first | refine gO rfl ?_ | (refine gR fun K1 hK1 => ?_; simp only [go_sem, ↓reduceIte, reduceCtorEq, nA, nB, nC, nD, nE, nF] <;> and_intros <;> first | (apply hK1; clear hK1 K1) | (intros; first | omega | decide | (simp_all <;> omega)) | skip)))
   exact ⟨g - 1, by omega, j + 1, by omega, by rw [hta, hno, h6]; rfl, rfl⟩
 ·simp only [decide_eq_false_iff_not] at h5
  have hjk : j = W.length := by omega
  subst hjk
  rw [List.take_length] at hno
  (repeat (first | refine gO rfl ?_ | (refine gR fun K1 hK1 => ?_; simp only [go_sem, ↓reduceIte, reduceCtorEq, nA, nB, nC, nD, nE, nF] <;> and_intros <;> first | (apply hK1; clear hK1 K1) | (intros; first | omega | decide | (simp_all <;> omega)) | skip)))
  simp only [Tryz.results107, go_sem, ↓reduceIte, reduceCtorEq, nA, nB, nC, nD, nE, nF]
  exact ⟨_, _, Weak.refl _, Hp.le.refl _, -1, rfl, by rw [hno]; rfl, rfl⟩
theorem g_anyWnd (fid : Nat) (caps : List AV) (W : List Wnd) (p : Wnd → Bool) (hl : W.length ≤ 100000) (h : Hp) (step : ∀ w ∈ W, ACalls Tryz.prog fid (.agg (encW2 w) :: caps) h (fun r h'' => r = .v (.bool (p w)) ∧ h'' = h)) :
  ACalls Tryz.prog 56 [.row 2 (W.map encW2) none, .fn fid caps] h (fun r h' => r = .v (.bool (W.any p)) ∧ h' = h) := by
 refine gE Tryz.func56 rfl (by kernel_rfl) 7 rfl fun c => ?_
 (repeat (first | refine gO rfl ?_ | (refine gR fun K1 hK1 => ?_; simp only [go_sem, ↓reduceIte, reduceCtorEq, nA, nB, nC, nD, nE, nF] <;> and_intros <;> first | (apply hK1; clear hK1 K1) | (intros; first | omega | decide | (simp_all <;> omega)) | skip)))
 refine (g_idxWnd fid caps W p hl h step).mono ?_
 rintro _ h2 ⟨i, rfl, hi, hg2⟩; apply hK1; clear hK1 K1
 (repeat (first | refine gO rfl ?_ | (refine gR fun K1 hK1 => ?_; simp only [go_sem, ↓reduceIte, reduceCtorEq, nA, nB, nC, nD, nE, nF, hi] <;> and_intros <;> first | (apply hK1; clear hK1 K1) | (intros; first | omega | decide) | skip)))
 simp only [Tryz.results56, go_sem, ↓reduceIte, reduceCtorEq, nA, nB, nC, nD, nE, nF]
 exact ⟨_, _, Weak.refl _, Hp.le.refl _, by simp [hi], hg2⟩
def paB : ByteArray := ⟨#[112, 97]⟩
def iaB : ByteArray := ⟨#[105, 97]⟩
theorem ia_key : keyB iaB = true := by decide
theorem ia_sz : iaB.size ≤ 4 := by decide
def encPy (x : Wnd) : List AV := [.v (.string paB), .v (.string iaB), .v (.int .i64 x.1), .v (.int .i64 x.2)]
def outL (f : Wnd → Bool) : List Wnd → Nat → List Int
 | [], _ => []
 | x :: l, i => if f x = true then outL f l (i + 1) else (i : Int) :: outL f l (i + 1)
def playOk (rs : List Rt) (tags : List ByteArray) (x : Wnd) : Bool := wholeV tags iaB x.1 (x.1 + x.2) rs
theorem g_breaches (rs : List Rt) (p : Gu) (pl : List Wnd) (hl : rs.length ≤ 12) (hok : ∀ r ∈ rs, RtOk r) (hrz : rightsF rs = 0) (hp : GuOk p) (hpz : guF p = 0) (hkey : p.key = paB) (hpl : pl.length ≤ 100)
  (hpb : ∀ x ∈ pl, 0 ≤ x.1 ∧ x.1 ≤ 1000 ∧ 1 ≤ x.2 ∧ x.2 ≤ 1000) (h : Hp) :
  ACalls Tryz.prog 33 [.row 5 (rs.map encRt) none, .row 4 [encGu p] none, .row 4 (pl.map encPy) none] h (fun r h' => r = .tup [.row 1 ((outL (playOk rs p.tags) pl 0).map encI) none, .v (.int .i64 0)] ∧ h' = h) := by
 have hR := g_checkRights rs none (by omega) hok h
 rw [hrz] at hR
 have hPF := g_playersF1 p hp hpz h
 have hWh := fun a b h => g_whole rs p iaB a b none hl hok hp (guF_tags hpz) h
 have hw3 : encGu p = [.v (.string p.key), .v (.string p.scr), .v (.int .i64 p.zone), .row 1 (p.tags.map encS) none] := rfl
 rw [hkey] at hw3
 obtain ⟨R, hRe⟩ : ∃ R, R = [encGu p] := ⟨_, rfl⟩
 rw [← hRe] at hPF ⊢
 have g0 : R.getD (Int.toNat 0) [] = [.v (.string paB), .v (.string p.scr), .v (.int .i64 p.zone), .row 1 (p.tags.map encS) none] := by rw [hRe]; exact hw3
 have hln : R.length = 1 := by rw [hRe]; rfl
 rw [hw3] at hWh
 clear hRe hw3 hkey
 have hml : (pl.map encPy).length = pl.length := List.length_map _
 refine gE Tryz.func33 rfl (by kernel_rfl) 108 rfl fun c => ?_
 (repeat (first | refine gO rfl ?_ | ((first | refine gM zM25 ?_ | (with_reducible refine wM ?_ ?_) | ((with_reducible refine xS ?_); refine uD 30 zM25 zPME zPMP 111 rfl (by kernel_rfl) ?_)) <;> ((try with_reducible intro K1 hK1); simp only [go_sem, ↓reduceIte, reduceCtorEq, nA, nB, nC, nD, nE, nF] <;> and_intros <;> first | (apply hK1; clear hK1 K1) | (intros; first | omega | decide) | skip))))
 refine hR.mono ?_; rintro _ hz ⟨rfl, hh⟩; apply hK1; clear hK1 K1; rw [hh]; clear hh hz
 (repeat (first | refine gO rfl ?_ | ((first | refine gM zM25 ?_ | (with_reducible refine wM ?_ ?_) | ((with_reducible refine xS ?_); refine uD 30 zM25 zPME zPMP 111 rfl (by kernel_rfl) ?_)) <;> ((try with_reducible intro K1 hK1); simp only [go_sem, ↓reduceIte, reduceCtorEq, nA, nB, nC, nD, nE, nF] <;> and_intros <;> first | (apply hK1; clear hK1 K1) | (intros; first | omega | decide) | skip))))
 refine awp_cond (t := _) rfl (fun h6 => by cases h6) (fun _ => ?_)
 (repeat (first | refine gO rfl ?_ | ((first | refine gM zM25 ?_ | (with_reducible refine wM ?_ ?_) | ((with_reducible refine xS ?_); refine uD 30 zM25 zPME zPMP 111 rfl (by kernel_rfl) ?_)) <;> ((try with_reducible intro K1 hK1); simp only [go_sem, ↓reduceIte, reduceCtorEq, nA, nB, nC, nD, nE, nF] <;> and_intros <;> first | (apply hK1; clear hK1 K1) | (intros; first | omega | decide) | skip))))
 refine hPF.mono ?_; rintro _ hz ⟨rfl, hh⟩; apply hK1; clear hK1 K1; rw [hh]; clear hh hz
 (repeat (first | refine gO rfl ?_ | ((first | refine gM zM25 ?_ | (with_reducible refine wM ?_ ?_) | ((with_reducible refine xS ?_); refine uD 30 zM25 zPME zPMP 111 rfl (by kernel_rfl) ?_)) <;> ((try with_reducible intro K1 hK1); simp only [go_sem, ↓reduceIte, reduceCtorEq, nA, nB, nC, nD, nE, nF] <;> and_intros <;> first | (apply hK1; clear hK1 K1) | (intros; first | omega | decide) | skip))))
 refine awp_cond (t := _) rfl (fun h6 => by cases h6) (fun _ => ?_)
 (repeat (first | refine gO rfl ?_ | ((first | refine gM zM25 ?_ | (with_reducible refine wM ?_ ?_) | ((with_reducible refine xS ?_); refine uD 30 zM25 zPME zPMP 111 rfl (by kernel_rfl) ?_)) <;> ((try with_reducible intro K1 hK1); simp only [go_sem, ↓reduceIte, reduceCtorEq, nA, nB, nC, nD, nE, nF, hml] <;> and_intros <;> first | (apply hK1; clear hK1 K1) | (intros; first | omega | decide) | skip))))
 refine awp_cond (t := _) rfl (fun h5 => absurd (of_decide_eq_true h5) (by omega)) (fun _ => ?_)
 (repeat (first | refine gO rfl ?_ | ((first | refine gM zM25 ?_ | (with_reducible refine wM ?_ ?_) | ((with_reducible refine xS ?_); refine uD 30 zM25 zPME zPMP 111 rfl (by kernel_rfl) ?_)) <;> ((try with_reducible intro K1 hK1); simp only [go_sem, ↓reduceIte, reduceCtorEq, nA, nB, nC, nD, nE, nF] <;> and_intros <;> first | (apply hK1; clear hK1 K1) | (intros; first | omega | decide) | skip))))
 intro m hm
 refine hK1 _ ?_; clear hK1 K1
 (repeat (first | refine gO rfl ?_ | ((first | refine gM zM25 ?_ | (with_reducible refine wM ?_ ?_) | ((with_reducible refine xS ?_); refine uD 30 zM25 zPME zPMP 111 rfl (by kernel_rfl) ?_)) <;> ((try with_reducible intro K1 hK1); simp only [go_sem, ↓reduceIte, reduceCtorEq, nA, nB, nC, nD, nE, nF, hln] <;> and_intros <;> first | (apply hK1; clear hK1 K1) | (intros; first | omega | decide) | skip))))
 refine awp_loopC (rl false [0, 3, 7, 1, 23, 3, 74]) 0 (fun g s => ∃ (iz : Int) (es : List (ByteArray × AV)), (iz = 0 ∧ g = 1 ∧ es = [] ∨ iz = 1 ∧ g = 0 ∧ es = [(paB, .v (.int .i64 0))]) ∧
  s = ⟨((.row 5 (rs.map encRt) none) :: (.row 4 R none) :: (.row 4 (pl.map encPy) none) :: (jnk 7 ((.map m) :: (jnk 23 ((.row 4 R none) :: (.v (.int .i64 1)) :: (.v (.int .i64 iz)) :: (jnk 74 [])))))), [], ⟨upd h.H m (some (.map es)), h.T⟩⟩) 1 ⟨0, [], .inl ⟨rfl, rfl, rfl⟩, rfl⟩ ?_
 rintro g _ ⟨iz, es, hc, rfl⟩
 have hmq : upd h.H m (some (AO.map es)) m = some (AO.map es) := upd_same _ _ _
 rcases hc with ⟨rfl, rfl, rfl⟩ | ⟨rfl, rfl, rfl⟩
 ·have hms : mset paB (.v (.int .i64 0)) [] = [(paB, .v (.int .i64 0))] := rfl
  (repeat (first | refine gO rfl ?_ | ((first | refine gM zM25 ?_ | (with_reducible refine wM ?_ ?_) | ((with_reducible refine xS ?_); refine uD 30 zM25 zPME zPMP 111 rfl (by kernel_rfl) ?_)) <;> ((try with_reducible intro K1 hK1); simp only [go_sem, ↓reduceIte, reduceCtorEq, nA, nB, nC, nD, nE, nF] <;> and_intros <;> first | (apply hK1; clear hK1 K1) | (intros; first | omega | decide) | skip))))
  refine awp_cond (t := _) rfl (fun _ => ?_) (fun h6 => by cases h6)
  (repeat (first | refine gO rfl ?_ | ((first | refine gM zM25 ?_ | (with_reducible refine wM ?_ ?_) | ((with_reducible refine xS ?_); refine uD 30 zM25 zPME zPMP 111 rfl (by kernel_rfl) ?_)) <;> ((try with_reducible intro K1 hK1); simp only [go_sem, ↓reduceIte, reduceCtorEq, nA, nB, nC, nD, nE, nF, g0, hln, hmq, hms, upd_upd] <;> and_intros <;> first | (apply hK1; clear hK1 K1) | (intros; first | omega | decide) | skip))))
  exact ⟨0, by omega, 1, _, .inr ⟨rfl, rfl, rfl⟩, rfl⟩
 ·have hmg : mget paB [(paB, AV.v (.int .i64 0))] = some (.v (.int .i64 0)) := by simp [mget]
  (repeat (first | refine gO rfl ?_ | ((first | refine gM zM25 ?_ | (with_reducible refine wM ?_ ?_) | ((with_reducible refine xS ?_); refine uD 30 zM25 zPME zPMP 111 rfl (by kernel_rfl) ?_)) <;> ((try with_reducible intro K1 hK1); simp only [go_sem, ↓reduceIte, reduceCtorEq, nA, nB, nC, nD, nE, nF] <;> and_intros <;> first | (apply hK1; clear hK1 K1) | (intros; first | omega | decide) | skip))))
  refine awp_cond (t := _) rfl (fun h6 => by cases h6) (fun _ => ?_)
  (repeat (first | refine gO rfl ?_ | ((first | refine gM zM25 ?_ | (with_reducible refine wM ?_ ?_) | ((with_reducible refine xS ?_); refine uD 30 zM25 zPME zPMP 111 rfl (by kernel_rfl) ?_)) <;> ((try with_reducible intro K1 hK1); simp only [go_sem, ↓reduceIte, reduceCtorEq, nA, nB, nC, nD, nE, nF, hml] <;> and_intros <;> first | (apply hK1; clear hK1 K1) | (intros; first | omega | decide) | skip))))
  have hHm : ∀ i, h.H i = none ∨ h.H i = upd h.H m (some (AO.map [(paB, AV.v (.int .i64 0))])) i := fun i => by
   by_cases e : i = m
   ·subst e; exact .inl hm
   ·exact .inr (by rw [upd_other _ _ e])
  obtain ⟨h1, hh1⟩ : ∃ h1 : Hp, h1 = ⟨upd h.H m (some (AO.map [(paB, AV.v (.int .i64 0))])), h.T⟩ := ⟨_, rfl⟩
  have hmq1 : h1.H m = some (AO.map [(paB, AV.v (.int .i64 0))]) := by rw [hh1]; exact hmq
  have hH1 : ∀ i, h.H i = none ∨ h.H i = h1.H i := fun i => by rw [hh1]; exact hHm i
  have hT1 : h1.T = h.T := by rw [hh1]
  rw [← hh1]
  clear hh1 hHm hmq hm
  refine awp_loopC (rl false [0, 3, 7, 1, 35, 3, 62]) 0 (fun g s => ∃ (j : Nat), g + j = pl.length ∧
   s = ⟨((.row 5 (rs.map encRt) none) :: (.row 4 R none) :: (.row 4 (pl.map encPy) none) :: (jnk 7 ((.map m) :: (jnk 35 ((.row 4 (pl.map encPy) none) :: (.v (.int .i64 pl.length)) :: (.v (.int .i64 j)) :: (jnk 62 [])))))), [], h1⟩) pl.length ⟨0, by omega, rfl⟩ ?_
  rintro g _ ⟨j, hj, rfl⟩
  (repeat (first | refine gO rfl ?_ | ((first | refine gM zM25 ?_ | (with_reducible refine wM ?_ ?_) | ((with_reducible refine xS ?_); refine uD 30 zM25 zPME zPMP 111 rfl (by kernel_rfl) ?_)) <;> ((try with_reducible intro K1 hK1); simp only [go_sem, ↓reduceIte, reduceCtorEq, nA, nB, nC, nD, nE, nF] <;> and_intros <;> first | (apply hK1; clear hK1 K1) | (intros; first | omega | decide) | skip))))
  refine awp_cond (t := _) rfl (fun h5 => ?_) (fun h5 => ?_)
  ·simp only [decide_eq_true_eq] at h5
   have hjl : j < pl.length := by omega
   have gx : (pl.map encPy).getD j [] = [.v (.string paB), .v (.string iaB), .v (.int .i64 pl[j].1), .v (.int .i64 pl[j].2)] := by rw [List.getD_eq_getElem?_getD, List.getElem?_map, List.getElem?_eq_getElem hjl]; rfl
   have hxb := hpb _ (List.getElem_mem hjl)
   generalize pl[j] = x at *
   obtain ⟨x1, x2⟩ := x
   simp only at gx hxb
   have hIK := a_isKey iaB (by have := ia_sz; omega) h1
   rw [ia_key] at hIK
   have hIM := g_isMoment x1 h1
   rw [show decide (momF x1 = 0) = true from decide_eq_true (if_pos (by omega))] at hIM
   have hOU := a_outside x2 1 (345686400000 - x1) h1
   rw [show (decide (x2 < 1) || decide (345686400000 - x1 < x2)) = false by simp only [Bool.or_eq_false_iff, decide_eq_false_iff_not]; omega] at hOU
   (repeat (first | refine gO rfl ?_ | ((first | refine gM zM25 ?_ | (with_reducible refine wM ?_ ?_) | ((with_reducible refine xS ?_); refine uD 30 zM25 zPME zPMP 111 rfl (by kernel_rfl) ?_)) <;> ((try with_reducible intro K1 hK1); simp only [go_sem, ↓reduceIte, reduceCtorEq, nA, nB, nC, nD, nE, nF, hml, Int.toNat_natCast, gx, hmq1, hmg] <;> and_intros <;> first | (apply hK1; clear hK1 K1) | (intros; first | omega | decide) | skip))))
   refine awp_cond (t := _) rfl (fun h6 => by cases h6) (fun _ => ?_)
   (repeat (first | refine gO rfl ?_ | ((first | refine gM zM25 ?_ | (with_reducible refine wM ?_ ?_) | ((with_reducible refine xS ?_); refine uD 30 zM25 zPME zPMP 111 rfl (by kernel_rfl) ?_)) <;> ((try with_reducible intro K1 hK1); simp only [go_sem, ↓reduceIte, reduceCtorEq, nA, nB, nC, nD, nE, nF] <;> and_intros <;> first | (apply hK1; clear hK1 K1) | (intros; first | omega | decide) | skip))))
   refine hIK.mono ?_; rintro _ hz ⟨rfl, hh⟩; apply hK1; clear hK1 K1; rw [hh]; clear hh hz
   (repeat (first | refine gO rfl ?_ | ((first | refine gM zM25 ?_ | (with_reducible refine wM ?_ ?_) | ((with_reducible refine xS ?_); refine uD 30 zM25 zPME zPMP 111 rfl (by kernel_rfl) ?_)) <;> ((try with_reducible intro K1 hK1); simp only [go_sem, ↓reduceIte, reduceCtorEq, nA, nB, nC, nD, nE, nF, Bool.not_true] <;> and_intros <;> first | (apply hK1; clear hK1 K1) | (intros; first | omega | decide) | skip))))
   refine awp_cond (t := _) rfl (fun h6 => by cases h6) (fun _ => ?_)
   (repeat (first | refine gO rfl ?_ | ((first | refine gM zM25 ?_ | (with_reducible refine wM ?_ ?_) | ((with_reducible refine xS ?_); refine uD 30 zM25 zPME zPMP 111 rfl (by kernel_rfl) ?_)) <;> ((try with_reducible intro K1 hK1); simp only [go_sem, ↓reduceIte, reduceCtorEq, nA, nB, nC, nD, nE, nF] <;> and_intros <;> first | (apply hK1; clear hK1 K1) | (intros; first | omega | decide) | skip))))
   refine hIM.mono ?_; rintro _ hz ⟨rfl, hh⟩; apply hK1; clear hK1 K1; rw [hh]; clear hh hz
   (repeat (first | refine gO rfl ?_ | ((first | refine gM zM25 ?_ | (with_reducible refine wM ?_ ?_) | ((with_reducible refine xS ?_); refine uD 30 zM25 zPME zPMP 111 rfl (by kernel_rfl) ?_)) <;> ((try with_reducible intro K1 hK1); simp only [go_sem, ↓reduceIte, reduceCtorEq, nA, nB, nC, nD, nE, nF, Bool.not_true] <;> and_intros <;> first | (apply hK1; clear hK1 K1) | (intros; first | omega | decide) | skip))))
   rotate_left
   ·exact fun h => h.elim
   refine hOU.mono ?_
   rintro _ hz ⟨rfl, hh⟩; refine ⟨rfl, ?_⟩; apply hK1; clear hK1 K1; rw [hh]; clear hh hz
   (repeat (first | refine gO rfl ?_ | ((first | refine gM zM25 ?_ | (with_reducible refine wM ?_ ?_) | ((with_reducible refine xS ?_); refine uD 30 zM25 zPME zPMP 111 rfl (by kernel_rfl) ?_)) <;> ((try with_reducible intro K1 hK1); simp only [go_sem, ↓reduceIte, reduceCtorEq, nA, nB, nC, nD, nE, nF] <;> and_intros <;> first | (apply hK1; clear hK1 K1) | (intros; first | omega | decide) | skip))))
   refine awp_cond (t := _) rfl (fun h6 => by cases h6) (fun _ => ?_)
   (repeat (first | refine gO rfl ?_ | ((first | refine gM zM25 ?_ | (with_reducible refine wM ?_ ?_) | ((with_reducible refine xS ?_); refine uD 30 zM25 zPME zPMP 111 rfl (by kernel_rfl) ?_)) <;> ((try with_reducible intro K1 hK1); simp only [go_sem, ↓reduceIte, reduceCtorEq, nA, nB, nC, nD, nE, nF] <;> and_intros <;> first | (apply hK1; clear hK1 K1) | (intros; first | omega | decide) | skip))))
   exact ⟨g - 1, by omega, j + 1, by omega, rfl⟩
  simp only [decide_eq_false_iff_not] at h5
  have hjl : j = pl.length := by omega
  subst hjl
  clear h5 hj
  (repeat (first | refine gQ rfl ?_ | ((first | refine gM zM25 ?_ | (with_reducible refine wM ?_ ?_) | ((with_reducible refine xS ?_); refine uD 30 zM25 zPME zPMP 111 rfl (by kernel_rfl) ?_)) <;> ((try with_reducible intro K1 hK1); simp only [go_sem, ↓reduceIte, reduceCtorEq, nA, nB, nC, nD, nE, nF] <;> and_intros <;> first | (apply hK1; clear hK1 K1) | (intros; first | omega | decide | (simp_all <;> omega)) | skip))))
  refine awp_seq ?_
  refine awp_ownA 17 1 rfl ⟨rfl, rfl⟩ (fun k hk => ?_)
  replace hk : h1.T k = none := hk
  (repeat (first | refine gO rfl ?_ | ((first | refine gM zM25 ?_ | (with_reducible refine wM ?_ ?_) | ((with_reducible refine xS ?_); refine uD 30 zM25 zPME zPMP 111 rfl (by kernel_rfl) ?_)) <;> ((try with_reducible intro K1 hK1); simp only [go_sem, ↓reduceIte, reduceCtorEq, nA, nB, nC, nD, nE, nF, hml] <;> and_intros <;> first | (apply hK1; clear hK1 K1) | (intros; first | omega | decide) | skip))))
  refine awp_loopC (rl false [0, 2, 8, 1, 6, 1, 60, 3, 30]) 0 (fun g s => ∃ (j n : Nat) (xs : List Int), g + j = pl.length ∧ xs.length = n ∧ n ≤ j ∧ xs ++ outL (playOk rs p.tags) (pl.drop j) j = outL (playOk rs p.tags) pl 0 ∧
   s = ⟨((.row 5 (rs.map encRt) none) :: (.row 4 R none) :: (jnk 8 ((.map m) :: (jnk 6 ((.arr 1 k n) :: (jnk 60 ((.row 4 (pl.map encPy) none) :: (.v (.int .i64 pl.length)) :: (.v (.int .i64 j)) :: (jnk 30 [])))))))), [], ⟨h1.H, upd h1.T k (some (.cont 1 (xs.map encI)))⟩⟩) pl.length ⟨0, 0, [], by omega, rfl, by omega, rfl, rfl⟩ ?_
  rintro g _ ⟨j, n, xs, hj, hn, hnj, hinv, rfl⟩
  have hTq : upd h1.T k (some (TO.cont 1 (xs.map encI))) k = some (TO.cont 1 (xs.map encI)) := upd_same _ _ _
  have hxl : (xs.map encI).length = n := by rw [List.length_map, hn]
  (repeat (first | refine gO rfl ?_ | ((first | refine gM zM25 ?_ | (with_reducible refine wM ?_ ?_) | ((with_reducible refine xS ?_); refine uD 30 zM25 zPME zPMP 111 rfl (by kernel_rfl) ?_)) <;> ((try with_reducible intro K1 hK1); simp only [go_sem, ↓reduceIte, reduceCtorEq, nA, nB, nC, nD, nE, nF] <;> and_intros <;> first | (apply hK1; clear hK1 K1) | (intros; first | omega | decide) | skip))))
  refine awp_cond (t := _) rfl (fun h5 => ?_) (fun h5 => ?_)
  ·simp only [decide_eq_true_eq] at h5
   have hjl : j < pl.length := by omega
   have gx : (pl.map encPy).getD j [] = [.v (.string paB), .v (.string iaB), .v (.int .i64 pl[j].1), .v (.int .i64 pl[j].2)] := by rw [List.getD_eq_getElem?_getD, List.getElem?_map, List.getElem?_eq_getElem hjl]; rfl
   have hxb := hpb _ (List.getElem_mem hjl)
   rw [List.drop_eq_getElem_cons hjl, outL] at hinv
   have hpo : playOk rs p.tags pl[j] = wholeV p.tags iaB pl[j].1 (pl[j].1 + pl[j].2) rs := rfl
   rw [hpo] at hinv
   clear hpo
   generalize pl[j] = x at *
   obtain ⟨x1, x2⟩ := x
   simp only at gx hxb hinv
   (repeat (first | refine gO rfl ?_ | ((first | refine gM zM25 ?_ | (with_reducible refine wM ?_ ?_) | ((with_reducible refine xS ?_); refine uD 30 zM25 zPME zPMP 111 rfl (by kernel_rfl) ?_)) <;> ((try with_reducible intro K1 hK1); simp only [go_sem, ↓reduceIte, reduceCtorEq, nA, nB, nC, nD, nE, nF, hml, Int.toNat_natCast, gx, hmq1, hmg, g0, hln] <;> and_intros <;> first | (apply hK1; clear hK1 K1) | (intros; first | omega | decide) | skip))))
   refine (hWh x1 (x1 + x2) _).mono ?_; rintro _ hz ⟨rfl, hh⟩; apply hK1; clear hK1 K1; rw [hh]; clear hh hz
   (repeat (first | refine gO rfl ?_ | ((first | refine gM zM25 ?_ | (with_reducible refine wM ?_ ?_) | ((with_reducible refine xS ?_); refine uD 30 zM25 zPME zPMP 111 rfl (by kernel_rfl) ?_)) <;> ((try with_reducible intro K1 hK1); simp only [go_sem, ↓reduceIte, reduceCtorEq, nA, nB, nC, nD, nE, nF] <;> and_intros <;> first | (apply hK1; clear hK1 K1) | (intros; first | omega | decide) | skip))))
   all_goals try with_reducible rfl
   (repeat (first | refine gO rfl ?_ | ((first | refine gM zM25 ?_ | (with_reducible refine wM ?_ ?_) | ((with_reducible refine xS ?_); refine uD 30 zM25 zPME zPMP 111 rfl (by kernel_rfl) ?_)) <;> ((try with_reducible intro K1 hK1); simp only [go_sem, ↓reduceIte, reduceCtorEq, nA, nB, nC, nD, nE, nF] <;> and_intros <;> first | (apply hK1; clear hK1 K1) | (intros; first | omega | decide) | skip))))
   cases hb : wholeV p.tags iaB x1 (x1 + x2) rs with
   | true =>
    rw [hb, if_pos rfl] at hinv
    refine awp_cond (t := _) rfl (fun h6 => by cases h6) (fun _ => ?_)
    (repeat (first | refine gO rfl ?_ | ((first | refine gM zM25 ?_ | (with_reducible refine wM ?_ ?_) | ((with_reducible refine xS ?_); refine uD 30 zM25 zPME zPMP 111 rfl (by kernel_rfl) ?_)) <;> ((try with_reducible intro K1 hK1); simp only [go_sem, ↓reduceIte, reduceCtorEq, nA, nB, nC, nD, nE, nF] <;> and_intros <;> first | (apply hK1; clear hK1 K1) | (intros; first | omega | decide) | skip))))
    exact ⟨g - 1, by omega, j + 1, n, xs, by omega, hn, by omega, hinv, rfl⟩
   | false =>
    rw [hb, if_neg (by decide)] at hinv
    refine awp_cond (t := _) rfl (fun _ => ?_) (fun h6 => by cases h6)
    (repeat (first | refine gO rfl ?_ | ((first | refine gM zM25 ?_ | (with_reducible refine wM ?_ ?_) | ((with_reducible refine xS ?_); refine uD 30 zM25 zPME zPMP 111 rfl (by kernel_rfl) ?_)) <;> ((try with_reducible intro K1 hK1); simp only [go_sem, ↓reduceIte, reduceCtorEq, nA, nB, nC, nD, nE, nF, hTq, hxl] <;> and_intros <;> first | (apply hK1; clear hK1 K1) | (intros; first | omega | decide) | skip))))
    refine ⟨g - 1, by omega, j + 1, n + 1, xs ++ [(j : Int)], by omega, by simp [hn], by omega, by rw [← hinv]; simp, ?_⟩
    rw [List.map_append]
    (try simp only [upd_upd])
    rfl
  ·simp only [decide_eq_false_iff_not] at h5
   have hjl : j = pl.length := by omega
   subst hjl
   rw [List.drop_length, outL, List.append_nil] at hinv
   refine awp_frz 17 k 1 (xs := xs.map encI) (by rw [hxl]; rfl) hTq (fun y hy => by obtain ⟨x, _, rfl⟩ := List.mem_map.1 hy; rfl) ?_
   (repeat (first | refine gO rfl ?_ | ((first | refine gM zM25 ?_ | (with_reducible refine wM ?_ ?_) | ((with_reducible refine xS ?_); refine uD 30 zM25 zPME zPMP 111 rfl (by kernel_rfl) ?_)) <;> ((try with_reducible intro K1 hK1); simp only [go_sem, ↓reduceIte, reduceCtorEq, nA, nB, nC, nD, nE, nF] <;> and_intros <;> first | (apply hK1; clear hK1 K1) | (intros; first | omega | decide) | skip))))
   simp only [Tryz.results33, go_sem, ↓reduceIte, reduceCtorEq, nA, nB, nC, nD, nE, nF]
   refine ⟨_, h, Weak.refl _, ⟨hH1, fun t => ?_⟩, by rw [hinv], rfl⟩
   refine .inr ?_
   show h.T t = _
   simp only [upd_upd]
   rw [upd_back hk, hT1]
end Go.Proofs.YtmghfolmgmhabaaGreatDoor
