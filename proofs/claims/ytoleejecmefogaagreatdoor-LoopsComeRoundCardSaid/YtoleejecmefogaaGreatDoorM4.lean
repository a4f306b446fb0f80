/- LoopsComeRound returns true for every list of numbers. -/
import Derived.Test.YtoleejecmefogaaGreatDoorM3
import Derived.Test.YtoleejecmefogaaGreatDoorCards
import Derived.Test.YtoleejecmefogaaGreatDoorTie
import Derived.ProofKit
import Derived.OpenShut
import Derived.LaidMore
import Derived.Lay
import Derived.Stop.Joined
namespace Go.Proofs.YtoleejecmefogaaGreatDoor
open Go
set_option linter.unusedVariables false
set_option linter.unusedSimpArgs false
open Nat renaming reduceAdd → nA, reduceSub → nB, reduceMul → nC, reduceLT → nD, reduceLeDiff → nE, reduceEqDiff → nF
abbrev pSLawC_4_17E : List Nat := [0, 2, 3, 6, 8, 10, 11]
abbrev pSLawC_4_17P : List (Nat × List Nat × List Nat) := [(1, [6], [4]), (5, [6], []), (7, [], []), (9, [], [12]), (13, [], [14, 15])]
attribute [go_sem] pSLawC_4_17E pSLawC_4_17P
set_option maxRecDepth 100000
set_option maxHeartbeats 8000000
theorem rd_pos {d : Nat} {t : LT} (hb : KC d t) : Pos (rdS d t) ∧ (rdS d t).length ≤ 5000 := by
  by_cases h : rdE d t = 0
  · exact ⟨(rd_good hb h).pos, (rd_good hb h).len⟩
  · rw [rd_bad2 h]; exact ⟨fun x hx => by simp at hx, by simp⟩
theorem g_keyFault (s : ByteArray) (hs : s.size ≤ 1000) (h : Hp) : ACalls Tryz.prog 29 [.v (.string s)] h (fun r h' => r = .v (.int .i64 (if keyB s = true then 0 else 5)) ∧ h' = h) := by
  have hk := fun h => a_key s (by omega) h
  refine gE Tryz.func29 rfl (by kernel_rfl) 5 rfl fun c => ?_
  (repeat (first | refine gO (by decide) ?_ | (refine gR fun K1 hK1 => ?_; simp only [go_sem, ↓reduceIte, reduceCtorEq, nA, nB, nC, nD, nE, nF] <;> and_intros <;> first | (apply hK1; clear hK1 K1) | (intros; first | omega | decide | (simp_all <;> omega)) | skip)))
  refine (hk _).mono ?_; rintro _ hz ⟨rfl, hh⟩; apply hK1; clear hK1 K1; rw [hh]; clear hh hz
  cases keyB s with
  | false =>
    (repeat (first | refine gO (by decide) ?_ | (refine gR fun K1 hK1 => ?_; simp only [go_sem, ↓reduceIte, reduceCtorEq, nA, nB, nC, nD, nE, nF] <;> and_intros <;> first | (apply hK1; clear hK1 K1) | (intros; first | omega | decide | (simp_all <;> omega)) | skip)))
    refine awp_cond (t := _) rfl (fun _ => ?_) (fun h9 => by cases h9)
    (repeat (first | refine gO (by decide) ?_ | (refine gR fun K1 hK1 => ?_; simp only [go_sem, ↓reduceIte, reduceCtorEq, nA, nB, nC, nD, nE, nF] <;> and_intros <;> first | (apply hK1; clear hK1 K1) | (intros; first | omega | decide | (simp_all <;> omega)) | skip)))
    simp only [Tryz.results29, go_sem, ↓reduceIte, reduceCtorEq, nA, nB, nC, nD, nE, nF]
    exact ⟨_, _, Weak.refl _, Hp.le.refl _, rfl, rfl⟩
  | true =>
    (repeat (first | refine gO (by decide) ?_ | (refine gR fun K1 hK1 => ?_; simp only [go_sem, ↓reduceIte, reduceCtorEq, nA, nB, nC, nD, nE, nF] <;> and_intros <;> first | (apply hK1; clear hK1 K1) | (intros; first | omega | decide | (simp_all <;> omega)) | skip)))
    refine awp_cond (t := _) rfl (fun h9 => by cases h9) (fun _ => ?_)
    (repeat (first | refine gO (by decide) ?_ | (refine gR fun K1 hK1 => ?_; simp only [go_sem, ↓reduceIte, reduceCtorEq, nA, nB, nC, nD, nE, nF] <;> and_intros <;> first | (apply hK1; clear hK1 K1) | (intros; first | omega | decide | (simp_all <;> omega)) | skip)))
    simp only [Tryz.results29, go_sem, ↓reduceIte, reduceCtorEq, nA, nB, nC, nD, nE, nF]
    exact ⟨_, _, Weak.refl _, Hp.le.refl _, rfl, rfl⟩
theorem times_or (a b : Int) : orI [if momB a = true then 0 else 1, if momB b = true then 0 else 1, if decide (b < a) = true then 7 else 0] = timeE a b := by
  unfold timeE
  cases momB a <;> cases momB b <;> cases decide (b < a) <;> simp [orI]
theorem one_zero {a b c : Int} (h : orI [a, b, c] = 0) : a = 0 ∧ b = 0 ∧ c = 0 := by
  by_cases h1 : a = 0
  · by_cases h2 : b = 0
    · by_cases h3 : c = 0
      · exact ⟨h1, h2, h3⟩
      · simp [orI, h1, h2, h3] at h
    · simp [orI, h1, h2] at h
  · simp [orI, h1] at h
theorem two_zero {a k b c : Int} (h : orI [a, k, b, c] = 0) : a = 0 ∧ k = 0 ∧ b = 0 ∧ c = 0 := by
  by_cases h0 : a = 0
  · by_cases h1 : k = 0
    · simp only [orI, h0, h1, if_true] at h
      have := one_zero (a := 0) (b := b) (c := c) (by simpa [orI] using h)
      exact ⟨h0, h1, this.2⟩
    · simp [orI, h0, h1] at h
  · simp [orI, h0] at h
def UntilOk (w ut uf : Int) (ui : Bool) : Prop := (345686400000 ≤ w → ut = 0 ∧ ui = false ∧ uf = 2) ∧ (w < 0 → ut = 0 ∧ ui = false ∧ uf = 0) ∧ (0 ≤ w → w < 345686400000 → ut = w ∧ ui = true ∧ uf = 0)
theorem until_spec {xs : List (ByteArray × Int)} (hg : GoodS xs) {bs : Int} (hb : 0 ≤ bs) (x : Int) (item : ByteArray) : ∃ (ut : Int) (ui : Bool) (uf : Int), untilV xs bs x item = [.v (.int .i64 ut), .v (.bool ui), .v (.int .i64 uf)] ∧ UntilOk (nextW xs bs x item) ut uf ui := by
  unfold untilV nextW
  cases hitF xs bs x item with
  | none => exact ⟨0, false, 0, rfl, fun h => by simp at h, fun _ => ⟨rfl, rfl, rfl⟩, fun h => by simp at h⟩
  | some j =>
    have h1 := (begT_bd hg.pos hg.ne bs j).1
    by_cases h2 : 345686400000 ≤ begT xs bs j
    · exact ⟨0, false, 2, by simp only [if_pos h2], fun _ => ⟨rfl, rfl, rfl⟩, fun h => by simp only at h; omega, fun _ h => by simp only at h; omega⟩
    · exact ⟨begT xs bs j, true, 0, by simp only [if_neg h2], fun h => absurd h h2, fun h => by simp only at h; omega, fun _ _ => ⟨rfl, rfl, rfl⟩⟩
theorem g_lawCome (l : List Int) (h : Hp) (hl : SOk l) : ACalls Tryz.prog 4 [.row 1 (l.map encI) none] h (fun r _ => r = .v (.bool true)) := by
  refine gE Tryz.func4 rfl (by kernel_rfl) 234 rfl fun c => ?_
  (repeat (first | refine gQ (by decide) ?_ | ((first | refine gM (mdL [(4, 1), (19, 1), (20, 1), (27, 1), (32, 2)]) ?_ | (with_reducible refine wM ?_ ?_) | ((with_reducible refine xS ?_); refine uD 17 (mdL [(4, 1), (19, 1), (20, 1), (27, 1), (32, 2)]) pSLawC_4_17E pSLawC_4_17P 235 rfl (by kernel_rfl) ?_)) <;> ((try with_reducible intro K1 hK1); simp only [go_sem, ↓reduceIte, reduceCtorEq, nA, nB, nC, nD, nE, nF] <;> and_intros <;> first | (apply hK1; clear hK1 K1) | (intros; first | omega | decide | (simp_all <;> omega)) | skip))))
  intro i hi
  refine hK1 _ ?_; clear hK1 K1
  have e0 : ({ H := upd h.H i (some (.cells [.row 1 (l.map encI) none, .v (.int .i64 0)])), T := h.T } : Hp) = h.st i l 0 := rfl
  rw [e0]
  have hc3 : costR 3 = 1190 := by simp [costR]
  (repeat (first | refine gQ (by decide) ?_ | ((first | refine gM (mdL [(4, 1), (19, 1), (20, 1), (27, 1), (32, 2)]) ?_ | (with_reducible refine wM ?_ ?_) | ((with_reducible refine xS ?_); refine uD 17 (mdL [(4, 1), (19, 1), (20, 1), (27, 1), (32, 2)]) pSLawC_4_17E pSLawC_4_17P 235 rfl (by kernel_rfl) ?_)) <;> ((try with_reducible intro K1 hK1); simp only [go_sem, ↓reduceIte, reduceCtorEq, nA, nB, nC, nD, nE, nF] <;> and_intros <;> first | (apply hK1; clear hK1 K1) | (intros; first | omega | decide | (simp_all <;> omega)) | skip))))
  refine (g_Loop 3 3 (by omega) i l 0 h hl (by omega)).mono ?_; rintro _ _ ⟨t, a1, ht, ha1, rfl, rfl⟩; apply hK1; clear hK1 K1
  have hlen := encL_len t
  have htk : List.take 6 (encL t) = encL t := List.take_of_length_le (Nat.le_of_eq hlen)
  have hdr : List.drop 6 (encL t) = [] := List.drop_of_length_le (Nat.le_of_eq hlen)
  (repeat (first | refine gQ (by decide) ?_ | ((first | refine gM (mdL [(4, 1), (19, 1), (20, 1), (27, 1), (32, 2)]) ?_ | (with_reducible refine wM ?_ ?_) | ((with_reducible refine xS ?_); refine uD 17 (mdL [(4, 1), (19, 1), (20, 1), (27, 1), (32, 2)]) pSLawC_4_17E pSLawC_4_17P 235 rfl (by kernel_rfl) ?_)) <;> ((try with_reducible intro K1 hK1); simp only [go_sem, ↓reduceIte, reduceCtorEq, nA, nB, nC, nD, nE, nF, hlen, htk, hdr] <;> and_intros <;> first | (apply hK1; clear hK1 K1) | (intros; first | omega | decide | (simp_all <;> omega)) | skip))))
  refine (g_pick i l a1 [0, 500, 1000, -1] none h hl (by omega) (by simp)).mono ?_; rintro _ _ ⟨a, hma, rfl, rfl⟩; apply hK1; clear hK1 K1
  (repeat (first | refine gQ (by decide) ?_ | ((first | refine gM (mdL [(4, 1), (19, 1), (20, 1), (27, 1), (32, 2)]) ?_ | (with_reducible refine wM ?_ ?_) | ((with_reducible refine xS ?_); refine uD 17 (mdL [(4, 1), (19, 1), (20, 1), (27, 1), (32, 2)]) pSLawC_4_17E pSLawC_4_17P 235 rfl (by kernel_rfl) ?_)) <;> ((try with_reducible intro K1 hK1); simp only [go_sem, ↓reduceIte, reduceCtorEq, nA, nB, nC, nD, nE, nF, hlen, htk, hdr] <;> and_intros <;> first | (apply hK1; clear hK1 K1) | (intros; first | omega | decide | (simp_all <;> omega)) | skip))))
  refine (g_pick i l (a1 + 1) [1000, 7500, 100000, 0, 345686399999, 345686400000] none h hl (by omega) (by simp)).mono ?_; rintro _ _ ⟨b, hmb, rfl, rfl⟩; apply hK1; clear hK1 K1
  (repeat (first | refine gQ (by decide) ?_ | ((first | refine gM (mdL [(4, 1), (19, 1), (20, 1), (27, 1), (32, 2)]) ?_ | (with_reducible refine wM ?_ ?_) | ((with_reducible refine xS ?_); refine uD 17 (mdL [(4, 1), (19, 1), (20, 1), (27, 1), (32, 2)]) pSLawC_4_17E pSLawC_4_17P 235 rfl (by kernel_rfl) ?_)) <;> ((try with_reducible intro K1 hK1); simp only [go_sem, ↓reduceIte, reduceCtorEq, nA, nB, nC, nD, nE, nF, hlen, htk, hdr] <;> and_intros <;> first | (apply hK1; clear hK1 K1) | (intros; first | omega | decide | (simp_all <;> omega)) | skip))))
  refine (g_some i l (a1 + 1 + 1) [⟨#[105, 97]⟩, ⟨#[105, 98]⟩, ⟨#[122, 122]⟩, ⟨#[65]⟩] none h hl (by omega) (by simp)).mono ?_; rintro _ _ ⟨item, hmi, rfl, rfl⟩; apply hK1; clear hK1 K1
  have hit : item.size ≤ 1000 := by
    simp only [List.mem_cons, List.not_mem_nil, or_false] at hmi
    rcases hmi with rfl | rfl | rfl | rfl <;> decide
  have hkt : KC 23 t := ht.kc
  have hmt := size_small23 ht
  clear hma hmb hmi
  have hfa := fun h => g_fault6 23 t h hkt hmt
  have hgood := fun he => rd_good (d := 23) (t := t) hkt he
  have hpl := rd_pos hkt
  have hRo := fun h => g_RoundG 23 t h hkt hmt
  have hPa := fun h => g_Parts 23 t h hkt hmt
  have hRd := fun h => g_rounded 23 t h hkt hmt
  have hOn := fun h => g_OnAt 23 t a b h hkt hmt
  have hUn := fun h => g_Until 23 t a b item h hkt hmt hit
  have hrz : rdE 23 t = 0 → faultF t = 0 := fun he => by
    unfold rdE at he
    by_cases hf : faultF t = 0
    · exact hf
    · rw [if_neg hf] at he; exact absurd he hf
  have hsl : ((rdS 23 t).map (·.2)).sum = sumL (rdS 23 t) := rfl
  rw [hsl] at hRo
  generalize rdS 23 t = xs at *
  generalize rdN 23 t = n at *
  generalize rdE 23 t = e at *
  generalize h.st i l (a1 + 1 + 1 + 1) = h1
  (repeat (first | refine gQ (by decide) ?_ | ((first | refine gM (mdL [(4, 1), (19, 1), (20, 1), (27, 1), (32, 2)]) ?_ | (with_reducible refine wM ?_ ?_) | ((with_reducible refine xS ?_); refine uD 17 (mdL [(4, 1), (19, 1), (20, 1), (27, 1), (32, 2)]) pSLawC_4_17E pSLawC_4_17P 235 rfl (by kernel_rfl) ?_)) <;> ((try with_reducible intro K1 hK1); simp only [go_sem, ↓reduceIte, reduceCtorEq, nA, nB, nC, nD, nE, nF, hlen, htk, hdr] <;> and_intros <;> first | (apply hK1; clear hK1 K1) | (intros; first | omega | decide | (simp_all <;> omega)) | skip))))
  refine (hRo _).mono ?_
  rintro _ h2 rfl
  refine hK1 _ ?_; clear hK1 K1
  (repeat (first | refine gQ (by decide) ?_ | ((first | refine gM (mdL [(4, 1), (19, 1), (20, 1), (27, 1), (32, 2)]) ?_ | (with_reducible refine wM ?_ ?_) | ((with_reducible refine xS ?_); refine uD 17 (mdL [(4, 1), (19, 1), (20, 1), (27, 1), (32, 2)]) pSLawC_4_17E pSLawC_4_17P 235 rfl (by kernel_rfl) ?_)) <;> ((try with_reducible intro K1 hK1); simp only [go_sem, ↓reduceIte, reduceCtorEq, nA, nB, nC, nD, nE, nF, hlen, htk, hdr] <;> and_intros <;> first | (apply hK1; clear hK1 K1) | (intros; first | omega | decide | (simp_all <;> omega)) | skip))))
  refine (hPa _).mono ?_
  rintro _ h3 rfl
  refine hK1 _ ?_; clear hK1 K1
  (repeat (first | refine gQ (by decide) ?_ | ((first | refine gM (mdL [(4, 1), (19, 1), (20, 1), (27, 1), (32, 2)]) ?_ | (with_reducible refine wM ?_ ?_) | ((with_reducible refine xS ?_); refine uD 17 (mdL [(4, 1), (19, 1), (20, 1), (27, 1), (32, 2)]) pSLawC_4_17E pSLawC_4_17P 235 rfl (by kernel_rfl) ?_)) <;> ((try with_reducible intro K1 hK1); simp only [go_sem, ↓reduceIte, reduceCtorEq, nA, nB, nC, nD, nE, nF, hlen, htk, hdr] <;> and_intros <;> first | (apply hK1; clear hK1 K1) | (intros; first | omega | decide | (simp_all <;> omega)) | skip))))
  refine (hRd _).mono ?_
  rintro _ h4 rfl
  refine hK1 _ ?_; clear hK1 K1
  (repeat (first | refine gQ (by decide) ?_ | ((first | refine gM (mdL [(4, 1), (19, 1), (20, 1), (27, 1), (32, 2)]) ?_ | (with_reducible refine wM ?_ ?_) | ((with_reducible refine xS ?_); refine uD 17 (mdL [(4, 1), (19, 1), (20, 1), (27, 1), (32, 2)]) pSLawC_4_17E pSLawC_4_17P 235 rfl (by kernel_rfl) ?_)) <;> ((try with_reducible intro K1 hK1); simp only [go_sem, ↓reduceIte, reduceCtorEq, nA, nB, nC, nD, nE, nF, hlen, htk, hdr] <;> and_intros <;> first | (apply hK1; clear hK1 K1) | (intros; first | omega | decide | (simp_all <;> omega)) | skip))))
  refine awp_seq ?_
  (repeat (first | refine gO (by decide) ?_ | ((first | refine gM (mdL [(4, 1), (19, 1), (20, 1), (27, 1), (32, 2)]) ?_ | (with_reducible refine wM ?_ ?_) | ((with_reducible refine xS ?_); refine uD 17 (mdL [(4, 1), (19, 1), (20, 1), (27, 1), (32, 2)]) pSLawC_4_17E pSLawC_4_17P 235 rfl (by kernel_rfl) ?_)) <;> ((try with_reducible intro K1 hK1); simp only [go_sem, ↓reduceIte, reduceCtorEq, nA, nB, nC, nD, nE, nF] <;> and_intros <;> first | (apply hK1; clear hK1 K1) | (intros; first | omega | decide | (simp_all <;> omega)) | skip))))
  refine awp_loopC (rl false [4, 14, 44, 3, 170]) 1 (fun g s => ∃ j : Nat, g + j = xs.length ∧
    s = ⟨((jnk 4 ((.loc 0 0) :: (.v (.int .i64 a)) :: (.v (.int .i64 b)) :: (.v (.string item)) :: (.v (.int .i64 n)) :: (.v (.int .i64 xs.length)) :: (.v (.int .i64 (sumL xs))) :: (.v (.int .i64 e)) :: (.row 5 (partsR xs) none) :: (.v (.int .i64 e)) :: (.v (.int .i64 n)) :: (.row 2 (xs.map encStep) none) :: (.v (.int .i64 e)) :: (.v (.int .i64 (preL xs j))) :: (jnk 44 ((.row 2 (xs.map encStep) none) :: (.v (.int .i64 xs.length)) :: (.v (.int .i64 j)) :: (jnk 170 [])))))), [encL t], h4⟩) xs.length ⟨0, by omega, rfl⟩ ?_
  rintro g _ ⟨j, hj, rfl⟩
  have hpb := preL_bd hpl.1 j (by omega)
  have hxl := hpl.2
  (repeat (first | refine gO (by decide) ?_ | ((first | refine gM (mdL [(4, 1), (19, 1), (20, 1), (27, 1), (32, 2)]) ?_ | (with_reducible refine wM ?_ ?_) | ((with_reducible refine xS ?_); refine uD 17 (mdL [(4, 1), (19, 1), (20, 1), (27, 1), (32, 2)]) pSLawC_4_17E pSLawC_4_17P 235 rfl (by kernel_rfl) ?_)) <;> ((try with_reducible intro K1 hK1); simp only [go_sem, ↓reduceIte, reduceCtorEq, nA, nB, nC, nD, nE, nF] <;> and_intros <;> first | (apply hK1; clear hK1 K1) | (intros; first | omega | decide | (simp_all <;> omega)) | skip))))
  refine awp_cond (t := _) rfl (fun h9 => ?_) (fun h9 => ?_)
  · simp only [decide_eq_true_eq] at h9
    have hjl : j < xs.length := by omega
    have gx : (xs.map encStep).getD j [] = encStep (xs.getD j default) := getD_enc encStep xs j default hjl
    have hpa := pos_at hpl.1 hjl
    have hps := preL_succ xs j hjl
    generalize xs.getD j default = y at gx hpa hps
    (repeat (first | refine gO (by decide) ?_ | ((first | refine gM (mdL [(4, 1), (19, 1), (20, 1), (27, 1), (32, 2)]) ?_ | (with_reducible refine wM ?_ ?_) | ((with_reducible refine xS ?_); refine uD 17 (mdL [(4, 1), (19, 1), (20, 1), (27, 1), (32, 2)]) pSLawC_4_17E pSLawC_4_17P 235 rfl (by kernel_rfl) ?_)) <;> ((try with_reducible intro K1 hK1); simp only [go_sem, ↓reduceIte, reduceCtorEq, nA, nB, nC, nD, nE, nF, Int.toNat_natCast, gx, encStep] <;> and_intros <;> first | (apply hK1; clear hK1 K1) | (intros; first | omega | decide | (simp_all <;> omega)) | skip))))
    exact ⟨g - 1, by omega, j + 1, by omega, by rw [hps]; rfl⟩
  simp only [decide_eq_false_iff_not] at h9
  have hjl : j = xs.length := by omega
  subst hjl
  rw [preL_all]
  clear hj h9 hpb
  have hbn : ∀ x : Int, (x != x) = false := fun x => by simp
  (repeat (first | refine gQ (by decide) ?_ | ((first | refine gM (mdL [(4, 1), (19, 1), (20, 1), (27, 1), (32, 2)]) ?_ | (with_reducible refine wM ?_ ?_) | ((with_reducible refine xS ?_); refine uD 17 (mdL [(4, 1), (19, 1), (20, 1), (27, 1), (32, 2)]) pSLawC_4_17E pSLawC_4_17P 235 rfl (by kernel_rfl) ?_)) <;> ((try with_reducible intro K1 hK1); simp only [go_sem, ↓reduceIte, reduceCtorEq, nA, nB, nC, nD, nE, nF] <;> and_intros <;> first | (apply hK1; clear hK1 K1) | (intros; first | omega | decide | (simp_all <;> omega)) | skip))))
  refine awp_seqJ (rl false [4, 4, 7, 2, 218]) 1 (fun s => ∃ (h5 : Hp), s = ⟨((jnk 4 ((.loc 0 0) :: (.v (.int .i64 a)) :: (.v (.int .i64 b)) :: (.v (.string item)) :: (jnk 7 ((.row 2 (xs.map encStep) none) :: (.v (.int .i64 e)) :: (jnk 218 [])))))), [encL t], h5⟩) ?_ ?_
  · by_cases he : e = 0
    · have hg := hgood he
      have hpo := fun h => g_portionsOf xs h hg
      have hoe : onceS (xs.map (·.1)) ≠ [] := fun e9 => by
        obtain ⟨y, hy⟩ := List.exists_mem_of_ne_nil xs hg.ne
        have := (onceS_mem (xs.map (·.1)) y.1).2 (List.mem_map.2 ⟨y, hy, rfl⟩)
        rw [e9] at this; simp at this
      have hol := onceS_len (xs.map (·.1))
      rw [List.length_map] at hol
      have hqe := fun h => g_equalPn xs (onceS (xs.map (·.1))) h (List.length_pos_iff.2 hoe) (by omega)
      have hpr : (onceS (xs.map (·.1))).map (encPn xs) = partsR xs := rfl
      rw [hpr] at hqe
      generalize partsR xs = pn at *
      subst he
      have h00 : ((0 : Int) == 0) = true := rfl
      (repeat (first | refine gO (by decide) ?_ | ((first | refine gM (mdL [(4, 1), (19, 1), (20, 1), (27, 1), (32, 2)]) ?_ | (with_reducible refine wM ?_ ?_) | ((with_reducible refine xS ?_); refine uD 17 (mdL [(4, 1), (19, 1), (20, 1), (27, 1), (32, 2)]) pSLawC_4_17E pSLawC_4_17P 235 rfl (by kernel_rfl) ?_)) <;> ((try with_reducible intro K1 hK1); simp only [go_sem, ↓reduceIte, reduceCtorEq, nA, nB, nC, nD, nE, nF, hbn, h00] <;> and_intros <;> first | (apply hK1; clear hK1 K1) | (intros; first | omega | decide | (simp_all <;> omega)) | skip))))
      refine (hpo _).mono ?_
      rintro _ h6 rfl
      refine ⟨rfl, hK1 _ ?_⟩; clear hK1 K1
      (repeat (first | refine gO (by decide) ?_ | ((first | refine gM (mdL [(4, 1), (19, 1), (20, 1), (27, 1), (32, 2)]) ?_ | (with_reducible refine wM ?_ ?_) | ((with_reducible refine xS ?_); refine uD 17 (mdL [(4, 1), (19, 1), (20, 1), (27, 1), (32, 2)]) pSLawC_4_17E pSLawC_4_17P 235 rfl (by kernel_rfl) ?_)) <;> ((try with_reducible intro K1 hK1); simp only [go_sem, ↓reduceIte, reduceCtorEq, nA, nB, nC, nD, nE, nF, hbn, h00] <;> and_intros <;> first | (apply hK1; clear hK1 K1) | (intros; first | omega | decide | (simp_all <;> omega)) | skip))))
      refine (hqe _).mono ?_; rintro _ hz ⟨rfl, hh⟩; refine ⟨rfl, hK1 _ ?_⟩; clear hK1 K1; rw [hh]; clear hh hz
      (repeat (first | refine gO (by decide) ?_ | ((first | refine gM (mdL [(4, 1), (19, 1), (20, 1), (27, 1), (32, 2)]) ?_ | (with_reducible refine wM ?_ ?_) | ((with_reducible refine xS ?_); refine uD 17 (mdL [(4, 1), (19, 1), (20, 1), (27, 1), (32, 2)]) pSLawC_4_17E pSLawC_4_17P 235 rfl (by kernel_rfl) ?_)) <;> ((try with_reducible intro K1 hK1); simp only [go_sem, ↓reduceIte, reduceCtorEq, nA, nB, nC, nD, nE, nF, hbn, h00] <;> and_intros <;> first | (apply hK1; clear hK1 K1) | (intros; first | omega | decide | (simp_all <;> omega)) | skip))))
      refine awp_cond (t := _) rfl (fun h9 => by cases h9) (fun _ => ?_)
      (repeat (first | refine gO (by decide) ?_ | ((first | refine gM (mdL [(4, 1), (19, 1), (20, 1), (27, 1), (32, 2)]) ?_ | (with_reducible refine wM ?_ ?_) | ((with_reducible refine xS ?_); refine uD 17 (mdL [(4, 1), (19, 1), (20, 1), (27, 1), (32, 2)]) pSLawC_4_17E pSLawC_4_17P 235 rfl (by kernel_rfl) ?_)) <;> ((try with_reducible intro K1 hK1); simp only [go_sem, ↓reduceIte, reduceCtorEq, nA, nB, nC, nD, nE, nF] <;> and_intros <;> first | (apply hK1; clear hK1 K1) | (intros; first | omega | decide | (simp_all <;> omega)) | skip))))
      exact ⟨_, rfl⟩
    · have hbe : (e == 0) = false := by simpa using he
      generalize partsR xs = pn at *
      (repeat (first | refine gO (by decide) ?_ | ((first | refine gM (mdL [(4, 1), (19, 1), (20, 1), (27, 1), (32, 2)]) ?_ | (with_reducible refine wM ?_ ?_) | ((with_reducible refine xS ?_); refine uD 17 (mdL [(4, 1), (19, 1), (20, 1), (27, 1), (32, 2)]) pSLawC_4_17E pSLawC_4_17P 235 rfl (by kernel_rfl) ?_)) <;> ((try with_reducible intro K1 hK1); simp only [go_sem, ↓reduceIte, reduceCtorEq, nA, nB, nC, nD, nE, nF, hbn, hbe] <;> and_intros <;> first | (apply hK1; clear hK1 K1) | (intros; first | omega | decide | (simp_all <;> omega)) | skip))))
      refine ⟨.v (.bool false), rfl, rfl, hK1 _ ?_⟩; clear hK1 K1
      (repeat (first | refine gO (by decide) ?_ | ((first | refine gM (mdL [(4, 1), (19, 1), (20, 1), (27, 1), (32, 2)]) ?_ | (with_reducible refine wM ?_ ?_) | ((with_reducible refine xS ?_); refine uD 17 (mdL [(4, 1), (19, 1), (20, 1), (27, 1), (32, 2)]) pSLawC_4_17E pSLawC_4_17P 235 rfl (by kernel_rfl) ?_)) <;> ((try with_reducible intro K1 hK1); simp only [go_sem, ↓reduceIte, reduceCtorEq, nA, nB, nC, nD, nE, nF, hbn, hbe] <;> and_intros <;> first | (apply hK1; clear hK1 K1) | (intros; first | omega | decide | (simp_all <;> omega)) | skip))))
      refine awp_cond (t := _) rfl (fun h9 => by cases h9) (fun _ => ?_)
      (repeat (first | refine gO (by decide) ?_ | ((first | refine gM (mdL [(4, 1), (19, 1), (20, 1), (27, 1), (32, 2)]) ?_ | (with_reducible refine wM ?_ ?_) | ((with_reducible refine xS ?_); refine uD 17 (mdL [(4, 1), (19, 1), (20, 1), (27, 1), (32, 2)]) pSLawC_4_17E pSLawC_4_17P 235 rfl (by kernel_rfl) ?_)) <;> ((try with_reducible intro K1 hK1); simp only [go_sem, ↓reduceIte, reduceCtorEq, nA, nB, nC, nD, nE, nF] <;> and_intros <;> first | (apply hK1; clear hK1 K1) | (intros; first | omega | decide | (simp_all <;> omega)) | skip))))
      exact ⟨_, rfl⟩
  · rintro _ ⟨h5, rfl⟩
    clear hRo hPa hRd hpl hsl
    have hm1 := fun h => g_momR a h
    have hm2 := fun h => g_momR b h
    have hwh := fun h => a_when (decide (b < a)) 7 h
    have hto := fun h => g_orG [if momB a = true then 0 else 1, if momB b = true then 0 else 1, if decide (b < a) = true then 7 else 0] h (by simp)
    simp only [times_or] at hto
    have hkf := fun h => g_keyFault item hit h
    have ho1 := fun h => g_orG [faultF t, timeE a b, e] h (by simp)
    have ho2 := fun h => g_orG [faultF t, if keyB item = true then 0 else 5, timeE a b, e] h (by simp)
    have hz1 : orI [faultF t, timeE a b, e] = 0 → (0 ≤ a ∧ a ≤ b ∧ b < 345686400000) ∧ e = 0 := fun h9 => by
      obtain ⟨_, q2, q3⟩ := one_zero h9
      exact ⟨timeE_zero q2, q3⟩
    have hz2 : orI [faultF t, if keyB item = true then 0 else 5, timeE a b, e] = 0 → orI [faultF t, timeE a b, e] = 0 := fun h9 => by
      obtain ⟨q1, _, q2, q3⟩ := two_zero h9
      rw [q1, q2, q3]; simp [orI]
    generalize orI [faultF t, timeE a b, e] = one at *
    generalize orI [faultF t, if keyB item = true then 0 else 5, timeE a b, e] = two at *
    (repeat (first | refine gQ (by decide) ?_ | ((first | refine gM (mdL [(4, 1), (19, 1), (20, 1), (27, 1), (32, 2)]) ?_ | (with_reducible refine wM ?_ ?_) | ((with_reducible refine xS ?_); refine uD 17 (mdL [(4, 1), (19, 1), (20, 1), (27, 1), (32, 2)]) pSLawC_4_17E pSLawC_4_17P 235 rfl (by kernel_rfl) ?_)) <;> ((try with_reducible intro K1 hK1); simp only [go_sem, ↓reduceIte, reduceCtorEq, nA, nB, nC, nD, nE, nF, hlen, htk, hdr] <;> and_intros <;> first | (apply hK1; clear hK1 K1) | (intros; first | omega | decide | (simp_all <;> omega)) | skip))))
    refine (hOn _).mono ?_
    rintro _ h6 ⟨sc, cc, rfl, hsc⟩
    refine hK1 _ ?_; clear hK1 K1
    (repeat (first | refine gQ (by decide) ?_ | ((first | refine gM (mdL [(4, 1), (19, 1), (20, 1), (27, 1), (32, 2)]) ?_ | (with_reducible refine wM ?_ ?_) | ((with_reducible refine xS ?_); refine uD 17 (mdL [(4, 1), (19, 1), (20, 1), (27, 1), (32, 2)]) pSLawC_4_17E pSLawC_4_17P 235 rfl (by kernel_rfl) ?_)) <;> ((try with_reducible intro K1 hK1); simp only [go_sem, ↓reduceIte, reduceCtorEq, nA, nB, nC, nD, nE, nF, hlen, htk, hdr, encStep] <;> and_intros <;> first | (apply hK1; clear hK1 K1) | (intros; first | omega | decide | (simp_all <;> omega)) | skip))))
    refine (hUn _).mono ?_
    rintro r h7 ⟨hu1, hu2⟩
    obtain ⟨ut, ui, uf, rfl, hus1, hus2⟩ : ∃ (ut : Int) (ui : Bool) (uf : Int), r = .tup [.v (.int .i64 ut), .v (.bool ui), .v (.int .i64 uf)] ∧ (two ≠ 0 → ut = 0 ∧ ui = false ∧ uf = two) ∧ (two = 0 → UntilOk (nextW xs (baseT xs a b) b item) ut uf ui) := by
      by_cases h2 : two = 0
      · obtain ⟨⟨q1, q2, q3⟩, q4⟩ := hz1 (hz2 h2)
        have hg := hgood q4
        obtain ⟨ut, ui, uf, e1, e2⟩ := until_spec hg (bs := baseT xs a b) (by have := base_le hg.pos hg.ne q2; omega) b item
        exact ⟨ut, ui, uf, by rw [hu2 h2, e1], fun h9 => absurd h2 h9, fun _ => e2⟩
      · exact ⟨0, false, two, hu1 h2, fun _ => ⟨rfl, rfl, rfl⟩, fun h9 => absurd h9 h2⟩
    clear hu1 hu2
    refine hK1 _ ?_; clear hK1 K1
    (repeat (first | refine gQ (by decide) ?_ | ((first | refine gM (mdL [(4, 1), (19, 1), (20, 1), (27, 1), (32, 2)]) ?_ | (with_reducible refine wM ?_ ?_) | ((with_reducible refine xS ?_); refine uD 17 (mdL [(4, 1), (19, 1), (20, 1), (27, 1), (32, 2)]) pSLawC_4_17E pSLawC_4_17P 235 rfl (by kernel_rfl) ?_)) <;> ((try with_reducible intro K1 hK1); simp only [go_sem, ↓reduceIte, reduceCtorEq, nA, nB, nC, nD, nE, nF, hlen, htk, hdr] <;> and_intros <;> first | (apply hK1; clear hK1 K1) | (intros; first | omega | decide | (simp_all <;> omega)) | skip))))
    refine (hm1 _).mono ?_; rintro _ hz ⟨rfl, hh⟩; apply hK1; clear hK1 K1; rw [hh]; clear hh hz
    (repeat (first | refine gQ (by decide) ?_ | ((first | refine gM (mdL [(4, 1), (19, 1), (20, 1), (27, 1), (32, 2)]) ?_ | (with_reducible refine wM ?_ ?_) | ((with_reducible refine xS ?_); refine uD 17 (mdL [(4, 1), (19, 1), (20, 1), (27, 1), (32, 2)]) pSLawC_4_17E pSLawC_4_17P 235 rfl (by kernel_rfl) ?_)) <;> ((try with_reducible intro K1 hK1); simp only [go_sem, ↓reduceIte, reduceCtorEq, nA, nB, nC, nD, nE, nF, hlen, htk, hdr] <;> and_intros <;> first | (apply hK1; clear hK1 K1) | (intros; first | omega | decide | (simp_all <;> omega)) | skip))))
    refine (hm2 _).mono ?_; rintro _ hz ⟨rfl, hh⟩; apply hK1; clear hK1 K1; rw [hh]; clear hh hz
    (repeat (first | refine gQ (by decide) ?_ | ((first | refine gM (mdL [(4, 1), (19, 1), (20, 1), (27, 1), (32, 2)]) ?_ | (with_reducible refine wM ?_ ?_) | ((with_reducible refine xS ?_); refine uD 17 (mdL [(4, 1), (19, 1), (20, 1), (27, 1), (32, 2)]) pSLawC_4_17E pSLawC_4_17P 235 rfl (by kernel_rfl) ?_)) <;> ((try with_reducible intro K1 hK1); simp only [go_sem, ↓reduceIte, reduceCtorEq, nA, nB, nC, nD, nE, nF, hlen, htk, hdr] <;> and_intros <;> first | (apply hK1; clear hK1 K1) | (intros; first | omega | decide | (simp_all <;> omega)) | skip))))
    refine (hwh _).mono ?_; rintro _ hz ⟨rfl, hh⟩; apply hK1; clear hK1 K1; rw [hh]; clear hh hz
    (repeat (first | refine gQ (by decide) ?_ | ((first | refine gM (mdL [(4, 1), (19, 1), (20, 1), (27, 1), (32, 2)]) ?_ | (with_reducible refine wM ?_ ?_) | ((with_reducible refine xS ?_); refine uD 17 (mdL [(4, 1), (19, 1), (20, 1), (27, 1), (32, 2)]) pSLawC_4_17E pSLawC_4_17P 235 rfl (by kernel_rfl) ?_)) <;> ((try with_reducible intro K1 hK1); simp only [go_sem, ↓reduceIte, reduceCtorEq, nA, nB, nC, nD, nE, nF, hlen, htk, hdr] <;> and_intros <;> first | (apply hK1; clear hK1 K1) | (intros; first | omega | decide | (simp_all <;> omega)) | skip))))
    refine (hto _).mono ?_; rintro _ hz ⟨rfl, hh⟩; apply hK1; clear hK1 K1; rw [hh]; clear hh hz
    (repeat (first | refine gQ (by decide) ?_ | ((first | refine gM (mdL [(4, 1), (19, 1), (20, 1), (27, 1), (32, 2)]) ?_ | (with_reducible refine wM ?_ ?_) | ((with_reducible refine xS ?_); refine uD 17 (mdL [(4, 1), (19, 1), (20, 1), (27, 1), (32, 2)]) pSLawC_4_17E pSLawC_4_17P 235 rfl (by kernel_rfl) ?_)) <;> ((try with_reducible intro K1 hK1); simp only [go_sem, ↓reduceIte, reduceCtorEq, nA, nB, nC, nD, nE, nF, hlen, htk, hdr] <;> and_intros <;> first | (apply hK1; clear hK1 K1) | (intros; first | omega | decide | (simp_all <;> omega)) | skip))))
    refine (hfa _).mono ?_; rintro _ hz ⟨rfl, hh⟩; apply hK1; clear hK1 K1; rw [hh]; clear hh hz
    (repeat (first | refine gQ (by decide) ?_ | ((first | refine gM (mdL [(4, 1), (19, 1), (20, 1), (27, 1), (32, 2)]) ?_ | (with_reducible refine wM ?_ ?_) | ((with_reducible refine xS ?_); refine uD 17 (mdL [(4, 1), (19, 1), (20, 1), (27, 1), (32, 2)]) pSLawC_4_17E pSLawC_4_17P 235 rfl (by kernel_rfl) ?_)) <;> ((try with_reducible intro K1 hK1); simp only [go_sem, ↓reduceIte, reduceCtorEq, nA, nB, nC, nD, nE, nF, hlen, htk, hdr] <;> and_intros <;> first | (apply hK1; clear hK1 K1) | (intros; first | omega | decide | (simp_all <;> omega)) | skip))))
    refine (ho1 _).mono ?_; rintro _ hz ⟨rfl, hh⟩; apply hK1; clear hK1 K1; rw [hh]; clear hh hz
    (repeat (first | refine gQ (by decide) ?_ | ((first | refine gM (mdL [(4, 1), (19, 1), (20, 1), (27, 1), (32, 2)]) ?_ | (with_reducible refine wM ?_ ?_) | ((with_reducible refine xS ?_); refine uD 17 (mdL [(4, 1), (19, 1), (20, 1), (27, 1), (32, 2)]) pSLawC_4_17E pSLawC_4_17P 235 rfl (by kernel_rfl) ?_)) <;> ((try with_reducible intro K1 hK1); simp only [go_sem, ↓reduceIte, reduceCtorEq, nA, nB, nC, nD, nE, nF, hlen, htk, hdr] <;> and_intros <;> first | (apply hK1; clear hK1 K1) | (intros; first | omega | decide | (simp_all <;> omega)) | skip))))
    refine (hfa _).mono ?_; rintro _ hz ⟨rfl, hh⟩; apply hK1; clear hK1 K1; rw [hh]; clear hh hz
    (repeat (first | refine gQ (by decide) ?_ | ((first | refine gM (mdL [(4, 1), (19, 1), (20, 1), (27, 1), (32, 2)]) ?_ | (with_reducible refine wM ?_ ?_) | ((with_reducible refine xS ?_); refine uD 17 (mdL [(4, 1), (19, 1), (20, 1), (27, 1), (32, 2)]) pSLawC_4_17E pSLawC_4_17P 235 rfl (by kernel_rfl) ?_)) <;> ((try with_reducible intro K1 hK1); simp only [go_sem, ↓reduceIte, reduceCtorEq, nA, nB, nC, nD, nE, nF, hlen, htk, hdr] <;> and_intros <;> first | (apply hK1; clear hK1 K1) | (intros; first | omega | decide | (simp_all <;> omega)) | skip))))
    refine (hkf _).mono ?_; rintro _ hz ⟨rfl, hh⟩; apply hK1; clear hK1 K1; rw [hh]; clear hh hz
    (repeat (first | refine gQ (by decide) ?_ | ((first | refine gM (mdL [(4, 1), (19, 1), (20, 1), (27, 1), (32, 2)]) ?_ | (with_reducible refine wM ?_ ?_) | ((with_reducible refine xS ?_); refine uD 17 (mdL [(4, 1), (19, 1), (20, 1), (27, 1), (32, 2)]) pSLawC_4_17E pSLawC_4_17P 235 rfl (by kernel_rfl) ?_)) <;> ((try with_reducible intro K1 hK1); simp only [go_sem, ↓reduceIte, reduceCtorEq, nA, nB, nC, nD, nE, nF, hlen, htk, hdr] <;> and_intros <;> first | (apply hK1; clear hK1 K1) | (intros; first | omega | decide | (simp_all <;> omega)) | skip))))
    refine (ho2 _).mono ?_; rintro _ hz ⟨rfl, hh⟩; apply hK1; clear hK1 K1; rw [hh]; clear hh hz
    (repeat (first | refine gQ (by decide) ?_ | ((first | refine gM (mdL [(4, 1), (19, 1), (20, 1), (27, 1), (32, 2)]) ?_ | (with_reducible refine wM ?_ ?_) | ((with_reducible refine xS ?_); refine uD 17 (mdL [(4, 1), (19, 1), (20, 1), (27, 1), (32, 2)]) pSLawC_4_17E pSLawC_4_17P 235 rfl (by kernel_rfl) ?_)) <;> ((try with_reducible intro K1 hK1); simp only [go_sem, ↓reduceIte, reduceCtorEq, nA, nB, nC, nD, nE, nF, hlen, htk, hdr] <;> and_intros <;> first | (apply hK1; clear hK1 K1) | (intros; first | omega | decide | (simp_all <;> omega)) | skip))))
    clear hOn hUn hm1 hm2 hwh hto hkf ho1 ho2 hfa
    refine awp_seq ?_
    (repeat (first | refine gO (by decide) ?_ | ((first | refine gM (mdL [(4, 1), (19, 1), (20, 1), (27, 1), (32, 2)]) ?_ | (with_reducible refine wM ?_ ?_) | ((with_reducible refine xS ?_); refine uD 17 (mdL [(4, 1), (19, 1), (20, 1), (27, 1), (32, 2)]) pSLawC_4_17E pSLawC_4_17P 235 rfl (by kernel_rfl) ?_)) <;> ((try with_reducible intro K1 hK1); simp only [go_sem, ↓reduceIte, reduceCtorEq, nA, nB, nC, nD, nE, nF] <;> and_intros <;> first | (apply hK1; clear hK1 K1) | (intros; first | omega | decide | (simp_all <;> omega)) | skip))))
    refine awp_cond (t := _) rfl (fun h9 => by rw [hbn] at h9; cases h9) (fun _ => ?_)
    (repeat (first | refine gQ (by decide) ?_ | ((first | refine gM (mdL [(4, 1), (19, 1), (20, 1), (27, 1), (32, 2)]) ?_ | (with_reducible refine wM ?_ ?_) | ((with_reducible refine xS ?_); refine uD 17 (mdL [(4, 1), (19, 1), (20, 1), (27, 1), (32, 2)]) pSLawC_4_17E pSLawC_4_17P 235 rfl (by kernel_rfl) ?_)) <;> ((try with_reducible intro K1 hK1); simp only [go_sem, ↓reduceIte, reduceCtorEq, nA, nB, nC, nD, nE, nF] <;> and_intros <;> first | (apply hK1; clear hK1 K1) | (intros; first | omega | decide | (simp_all <;> omega)) | skip))))
    refine awp_seqJ (rl false [5, 3, 5, 1, 1, 1, 6, 2, 2, 1, 208]) 0 (fun s => ∃ (h8 : Hp), s = ⟨((jnk 5 ((.v (.int .i64 a)) :: (.v (.int .i64 b)) :: (.v (.string item)) :: (jnk 5 ((.v (.int .i64 uf)) :: AV.junk :: ((.row 2 (xs.map encStep) none) :: (jnk 6 ((.v (.int .i64 ut)) :: (.v (.bool ui)) :: AV.junk :: AV.junk :: ((.v (.int .i64 two)) :: (jnk 208 [])))))))))), [], h8⟩) ?_ ?_
    · (repeat (first | refine gO (by decide) ?_ | ((first | refine gM (mdL [(4, 1), (19, 1), (20, 1), (27, 1), (32, 2)]) ?_ | (with_reducible refine wM ?_ ?_) | ((with_reducible refine xS ?_); refine uD 17 (mdL [(4, 1), (19, 1), (20, 1), (27, 1), (32, 2)]) pSLawC_4_17E pSLawC_4_17P 235 rfl (by kernel_rfl) ?_)) <;> ((try with_reducible intro K1 hK1); simp only [go_sem, ↓reduceIte, reduceCtorEq, nA, nB, nC, nD, nE, nF] <;> and_intros <;> first | (apply hK1; clear hK1 K1) | (intros; first | omega | decide | (simp_all <;> omega)) | skip))))
      by_cases h1 : one = 0
      · obtain ⟨⟨q1, q2, q3⟩, q4⟩ := hz1 h1
        have hg := hgood q4
        obtain ⟨rfl, rfl⟩ := hsc h1
        have hsa := fun h => g_stepAt xs a b h hg ⟨q1, q2⟩ (by omega)
        clear hsc
        generalize xs.getD (posF xs ((b - a).tmod (sumL xs))) default = sc at *
        generalize b - (b - a).tmod (sumL xs) + preL xs (posF xs ((b - a).tmod (sumL xs))) = cc at *
        have hbs : ∀ x : ByteArray, (x == x) = true := fun x => by rw [ba_beq]; simp
        have hbi : ∀ x : Int, (x == x) = true := fun x => by simp
        refine awp_cond (t := _) rfl (fun _ => ?_) (fun h9 => by rw [h1] at h9; cases h9)
        (repeat (first | refine gO (by decide) ?_ | ((first | refine gM (mdL [(4, 1), (19, 1), (20, 1), (27, 1), (32, 2)]) ?_ | (with_reducible refine wM ?_ ?_) | ((with_reducible refine xS ?_); refine uD 17 (mdL [(4, 1), (19, 1), (20, 1), (27, 1), (32, 2)]) pSLawC_4_17E pSLawC_4_17P 235 rfl (by kernel_rfl) ?_)) <;> ((try with_reducible intro K1 hK1); simp only [go_sem, ↓reduceIte, reduceCtorEq, nA, nB, nC, nD, nE, nF] <;> and_intros <;> first | (apply hK1; clear hK1 K1) | (intros; first | omega | decide | (simp_all <;> omega)) | skip))))
        refine (hsa _).mono ?_; rintro _ hz ⟨rfl, hh⟩; apply hK1; clear hK1 K1; rw [hh]; clear hh hz
        (repeat (first | refine gO (by decide) ?_ | ((first | refine gM (mdL [(4, 1), (19, 1), (20, 1), (27, 1), (32, 2)]) ?_ | (with_reducible refine wM ?_ ?_) | ((with_reducible refine xS ?_); refine uD 17 (mdL [(4, 1), (19, 1), (20, 1), (27, 1), (32, 2)]) pSLawC_4_17E pSLawC_4_17P 235 rfl (by kernel_rfl) ?_)) <;> ((try with_reducible intro K1 hK1); simp only [go_sem, ↓reduceIte, reduceCtorEq, nA, nB, nC, nD, nE, nF, encStep, hbs, hbi, hbn] <;> and_intros <;> first | (apply hK1; clear hK1 K1) | (intros; first | omega | decide | (simp_all <;> omega)) | skip))))
        refine awp_cond (t := _) rfl (fun h9 => by simp at h9) (fun _ => ?_)
        (repeat (first | refine gO (by decide) ?_ | ((first | refine gM (mdL [(4, 1), (19, 1), (20, 1), (27, 1), (32, 2)]) ?_ | (with_reducible refine wM ?_ ?_) | ((with_reducible refine xS ?_); refine uD 17 (mdL [(4, 1), (19, 1), (20, 1), (27, 1), (32, 2)]) pSLawC_4_17E pSLawC_4_17P 235 rfl (by kernel_rfl) ?_)) <;> ((try with_reducible intro K1 hK1); simp only [go_sem, ↓reduceIte, reduceCtorEq, nA, nB, nC, nD, nE, nF] <;> and_intros <;> first | (apply hK1; clear hK1 K1) | (intros; first | omega | decide | (simp_all <;> omega)) | skip))))
        exact ⟨_, rfl⟩
      · refine awp_cond (t := _) rfl (fun h9 => by simp [h1] at h9) (fun _ => ?_)
        (repeat (first | refine gO (by decide) ?_ | ((first | refine gM (mdL [(4, 1), (19, 1), (20, 1), (27, 1), (32, 2)]) ?_ | (with_reducible refine wM ?_ ?_) | ((with_reducible refine xS ?_); refine uD 17 (mdL [(4, 1), (19, 1), (20, 1), (27, 1), (32, 2)]) pSLawC_4_17E pSLawC_4_17P 235 rfl (by kernel_rfl) ?_)) <;> ((try with_reducible intro K1 hK1); simp only [go_sem, ↓reduceIte, reduceCtorEq, nA, nB, nC, nD, nE, nF] <;> and_intros <;> first | (apply hK1; clear hK1 K1) | (intros; first | omega | decide | (simp_all <;> omega)) | skip))))
        exact ⟨_, rfl⟩
    · rintro _ ⟨h8, rfl⟩
      have hbi : ∀ x : Int, (x == x) = true := fun x => by simp
      clear hsc hbn
      (repeat (first | refine gQ (by decide) ?_ | ((first | refine gM (mdL [(4, 1), (19, 1), (20, 1), (27, 1), (32, 2)]) ?_ | (with_reducible refine wM ?_ ?_) | ((with_reducible refine xS ?_); refine uD 17 (mdL [(4, 1), (19, 1), (20, 1), (27, 1), (32, 2)]) pSLawC_4_17E pSLawC_4_17P 235 rfl (by kernel_rfl) ?_)) <;> ((try with_reducible intro K1 hK1); simp only [go_sem, ↓reduceIte, reduceCtorEq, nA, nB, nC, nD, nE, nF] <;> and_intros <;> first | (apply hK1; clear hK1 K1) | (intros; first | omega | decide | (simp_all <;> omega)) | skip))))
      refine awp_seq ?_
      (repeat (first | refine gO (by decide) ?_ | ((first | refine gM (mdL [(4, 1), (19, 1), (20, 1), (27, 1), (32, 2)]) ?_ | (with_reducible refine wM ?_ ?_) | ((with_reducible refine xS ?_); refine uD 17 (mdL [(4, 1), (19, 1), (20, 1), (27, 1), (32, 2)]) pSLawC_4_17E pSLawC_4_17P 235 rfl (by kernel_rfl) ?_)) <;> ((try with_reducible intro K1 hK1); simp only [go_sem, ↓reduceIte, reduceCtorEq, nA, nB, nC, nD, nE, nF] <;> and_intros <;> first | (apply hK1; clear hK1 K1) | (intros; first | omega | decide | (simp_all <;> omega)) | skip))))
      by_cases h2 : two = 0
      · obtain ⟨⟨q1, q2, q3⟩, q4⟩ := hz1 (hz2 h2)
        have hg := hgood q4
        obtain ⟨u1, u2, u3⟩ := hus2 h2
        have hne := fun h => g_nextOf xs a b item h hg ⟨q1, q2⟩ q3
        subst h2
        clear hus1 hus2 hz1 hz2 hgood hrz
        generalize nextW xs (baseT xs a b) b item = w at *
        refine awp_cond (t := _) rfl (fun h9 => by cases h9) (fun _ => ?_)
        (repeat (first | refine gO (by decide) ?_ | ((first | refine gM (mdL [(4, 1), (19, 1), (20, 1), (27, 1), (32, 2)]) ?_ | (with_reducible refine wM ?_ ?_) | ((with_reducible refine xS ?_); refine uD 17 (mdL [(4, 1), (19, 1), (20, 1), (27, 1), (32, 2)]) pSLawC_4_17E pSLawC_4_17P 235 rfl (by kernel_rfl) ?_)) <;> ((try with_reducible intro K1 hK1); simp only [go_sem, ↓reduceIte, reduceCtorEq, nA, nB, nC, nD, nE, nF] <;> and_intros <;> first | (apply hK1; clear hK1 K1) | (intros; first | omega | decide | (simp_all <;> omega)) | skip))))
        refine (hne _).mono ?_
        rintro _ h9 rfl
        refine hK1 _ ?_; clear hK1 K1 hne
        (repeat (first | refine gO (by decide) ?_ | ((first | refine gM (mdL [(4, 1), (19, 1), (20, 1), (27, 1), (32, 2)]) ?_ | (with_reducible refine wM ?_ ?_) | ((with_reducible refine xS ?_); refine uD 17 (mdL [(4, 1), (19, 1), (20, 1), (27, 1), (32, 2)]) pSLawC_4_17E pSLawC_4_17P 235 rfl (by kernel_rfl) ?_)) <;> ((try with_reducible intro K1 hK1); simp only [go_sem, ↓reduceIte, reduceCtorEq, nA, nB, nC, nD, nE, nF] <;> and_intros <;> first | (apply hK1; clear hK1 K1) | (intros; first | omega | decide | (simp_all <;> omega)) | skip))))
        refine awp_cond (t := _) rfl (fun h3 => ?_) (fun h3 => ?_)
        · simp only [decide_eq_true_eq] at h3
          obtain ⟨rfl, rfl, rfl⟩ := u1 h3
          (repeat (first | refine gO (by decide) ?_ | ((first | refine gM (mdL [(4, 1), (19, 1), (20, 1), (27, 1), (32, 2)]) ?_ | (with_reducible refine wM ?_ ?_) | ((with_reducible refine xS ?_); refine uD 17 (mdL [(4, 1), (19, 1), (20, 1), (27, 1), (32, 2)]) pSLawC_4_17E pSLawC_4_17P 235 rfl (by kernel_rfl) ?_)) <;> ((try with_reducible intro K1 hK1); simp only [go_sem, ↓reduceIte, reduceCtorEq, nA, nB, nC, nD, nE, nF, hbi] <;> and_intros <;> first | (apply hK1; clear hK1 K1) | (intros; first | omega | decide | (simp_all <;> omega)) | skip))))
          refine (g_loopedG _).mono ?_
          rintro _ h9 rfl
          refine ⟨rfl, hK1 _ ?_⟩; clear hK1 K1
          (repeat (first | refine gO (by decide) ?_ | ((first | refine gM (mdL [(4, 1), (19, 1), (20, 1), (27, 1), (32, 2)]) ?_ | (with_reducible refine wM ?_ ?_) | ((with_reducible refine xS ?_); refine uD 17 (mdL [(4, 1), (19, 1), (20, 1), (27, 1), (32, 2)]) pSLawC_4_17E pSLawC_4_17P 235 rfl (by kernel_rfl) ?_)) <;> ((try with_reducible intro K1 hK1); simp only [go_sem, ↓reduceIte, reduceCtorEq, nA, nB, nC, nD, nE, nF, hbi] <;> and_intros <;> first | (apply hK1; clear hK1 K1) | (intros; first | omega | decide | (simp_all <;> omega)) | skip))))
          simp only [Tryz.results4, go_sem, ↓reduceIte, reduceCtorEq, nA, nB, nC, nD, nE, nF]
          exact ⟨_, _, Weak.refl _, Hp.le.refl _, rfl⟩
        · simp only [decide_eq_false_iff_not] at h3
          (repeat (first | refine gO (by decide) ?_ | ((first | refine gM (mdL [(4, 1), (19, 1), (20, 1), (27, 1), (32, 2)]) ?_ | (with_reducible refine wM ?_ ?_) | ((with_reducible refine xS ?_); refine uD 17 (mdL [(4, 1), (19, 1), (20, 1), (27, 1), (32, 2)]) pSLawC_4_17E pSLawC_4_17P 235 rfl (by kernel_rfl) ?_)) <;> ((try with_reducible intro K1 hK1); simp only [go_sem, ↓reduceIte, reduceCtorEq, nA, nB, nC, nD, nE, nF] <;> and_intros <;> first | (apply hK1; clear hK1 K1) | (intros; first | omega | decide | (simp_all <;> omega)) | skip))))
          refine awp_cond (t := _) rfl (fun h4 => ?_) (fun h4 => ?_)
          · simp only [decide_eq_true_eq] at h4
            obtain ⟨rfl, rfl, rfl⟩ := u2 h4
            (repeat (first | refine gO (by decide) ?_ | ((first | refine gM (mdL [(4, 1), (19, 1), (20, 1), (27, 1), (32, 2)]) ?_ | (with_reducible refine wM ?_ ?_) | ((with_reducible refine xS ?_); refine uD 17 (mdL [(4, 1), (19, 1), (20, 1), (27, 1), (32, 2)]) pSLawC_4_17E pSLawC_4_17P 235 rfl (by kernel_rfl) ?_)) <;> ((try with_reducible intro K1 hK1); simp only [go_sem, ↓reduceIte, reduceCtorEq, nA, nB, nC, nD, nE, nF, hbi] <;> and_intros <;> first | (apply hK1; clear hK1 K1) | (intros; first | omega | decide | (simp_all <;> omega)) | skip))))
            refine (g_loopedG _).mono ?_
            rintro _ h9 rfl
            refine ⟨rfl, hK1 _ ?_⟩; clear hK1 K1
            (repeat (first | refine gO (by decide) ?_ | ((first | refine gM (mdL [(4, 1), (19, 1), (20, 1), (27, 1), (32, 2)]) ?_ | (with_reducible refine wM ?_ ?_) | ((with_reducible refine xS ?_); refine uD 17 (mdL [(4, 1), (19, 1), (20, 1), (27, 1), (32, 2)]) pSLawC_4_17E pSLawC_4_17P 235 rfl (by kernel_rfl) ?_)) <;> ((try with_reducible intro K1 hK1); simp only [go_sem, ↓reduceIte, reduceCtorEq, nA, nB, nC, nD, nE, nF, hbi] <;> and_intros <;> first | (apply hK1; clear hK1 K1) | (intros; first | omega | decide | (simp_all <;> omega)) | skip))))
            simp only [Tryz.results4, go_sem, ↓reduceIte, reduceCtorEq, nA, nB, nC, nD, nE, nF]
            exact ⟨_, _, Weak.refl _, Hp.le.refl _, rfl⟩
          · simp only [decide_eq_false_iff_not] at h4
            obtain ⟨rfl, rfl, rfl⟩ := u3 (by omega) (by omega)
            (repeat (first | refine gO (by decide) ?_ | ((first | refine gM (mdL [(4, 1), (19, 1), (20, 1), (27, 1), (32, 2)]) ?_ | (with_reducible refine wM ?_ ?_) | ((with_reducible refine xS ?_); refine uD 17 (mdL [(4, 1), (19, 1), (20, 1), (27, 1), (32, 2)]) pSLawC_4_17E pSLawC_4_17P 235 rfl (by kernel_rfl) ?_)) <;> ((try with_reducible intro K1 hK1); simp only [go_sem, ↓reduceIte, reduceCtorEq, nA, nB, nC, nD, nE, nF, hbi] <;> and_intros <;> first | (apply hK1; clear hK1 K1) | (intros; first | omega | decide | (simp_all <;> omega)) | skip))))
            refine (g_loopedG _).mono ?_
            rintro _ h9 rfl
            refine ⟨rfl, hK1 _ ?_⟩; clear hK1 K1
            (repeat (first | refine gO (by decide) ?_ | ((first | refine gM (mdL [(4, 1), (19, 1), (20, 1), (27, 1), (32, 2)]) ?_ | (with_reducible refine wM ?_ ?_) | ((with_reducible refine xS ?_); refine uD 17 (mdL [(4, 1), (19, 1), (20, 1), (27, 1), (32, 2)]) pSLawC_4_17E pSLawC_4_17P 235 rfl (by kernel_rfl) ?_)) <;> ((try with_reducible intro K1 hK1); simp only [go_sem, ↓reduceIte, reduceCtorEq, nA, nB, nC, nD, nE, nF, hbi] <;> and_intros <;> first | (apply hK1; clear hK1 K1) | (intros; first | omega | decide | (simp_all <;> omega)) | skip))))
            simp only [Tryz.results4, go_sem, ↓reduceIte, reduceCtorEq, nA, nB, nC, nD, nE, nF]
            exact ⟨_, _, Weak.refl _, Hp.le.refl _, rfl⟩
      · obtain ⟨rfl, rfl, rfl⟩ := hus1 h2
        have h22 : (uf != 0) = true := by simpa using h2
        refine awp_cond (t := _) rfl (fun _ => ?_) (fun h9 => by rw [h22] at h9; cases h9)
        (repeat (first | refine gO (by decide) ?_ | ((first | refine gM (mdL [(4, 1), (19, 1), (20, 1), (27, 1), (32, 2)]) ?_ | (with_reducible refine wM ?_ ?_) | ((with_reducible refine xS ?_); refine uD 17 (mdL [(4, 1), (19, 1), (20, 1), (27, 1), (32, 2)]) pSLawC_4_17E pSLawC_4_17P 235 rfl (by kernel_rfl) ?_)) <;> ((try with_reducible intro K1 hK1); simp only [go_sem, ↓reduceIte, reduceCtorEq, nA, nB, nC, nD, nE, nF, hbi] <;> and_intros <;> first | (apply hK1; clear hK1 K1) | (intros; first | omega | decide | (simp_all <;> omega)) | skip))))
        refine (g_loopedG _).mono ?_
        rintro _ h9 rfl
        refine ⟨rfl, hK1 _ ?_⟩; clear hK1 K1
        (repeat (first | refine gO (by decide) ?_ | ((first | refine gM (mdL [(4, 1), (19, 1), (20, 1), (27, 1), (32, 2)]) ?_ | (with_reducible refine wM ?_ ?_) | ((with_reducible refine xS ?_); refine uD 17 (mdL [(4, 1), (19, 1), (20, 1), (27, 1), (32, 2)]) pSLawC_4_17E pSLawC_4_17P 235 rfl (by kernel_rfl) ?_)) <;> ((try with_reducible intro K1 hK1); simp only [go_sem, ↓reduceIte, reduceCtorEq, nA, nB, nC, nD, nE, nF, hbi] <;> and_intros <;> first | (apply hK1; clear hK1 K1) | (intros; first | omega | decide | (simp_all <;> omega)) | skip))))
        simp only [Tryz.results4, go_sem, ↓reduceIte, reduceCtorEq, nA, nB, nC, nD, nE, nF]
        exact ⟨_, _, Weak.refl _, Hp.le.refl _, rfl⟩
end Go.Proofs.YtoleejecmefogaaGreatDoor
namespace Go.Proofs.YtoleejecmefogaaGreatDoor.loopsComeRoundDone
open Go.ChangeShapes Go.WideShapes Go.ChangeAt Go.RowKit
set_option linter.unusedVariables false
set_option linter.unusedSimpArgs false
theorem own : ownKnob Tryz.prog.godebug = none := by kernel_rfl
theorem laidOut : laidOutB Tryz.prog = true := by kernel_rfl
set_option maxRecDepth 100000 in
theorem lifted (os : Os) (started : os.Started) (H : Type) (enc : TypeId × Value → H) :
    ReturnsInHanded {} Tryz.checked os 4 .any (fun w args => (Rows.loopsComeRoundSpec.pre enc Tryz.prog Tryz.f4 [] false w args ∧ laidMetH Tryz.prog Rows.loopsComeRoundRow.laid w) ∧ sizedMet enc Tryz.prog Tryz.f4 (OpenSpec.ofChange Rows.loopsComeRoundSpec) false w args)
      (Rows.loopsComeRoundSpec.post enc Tryz.prog Tryz.f4 false true false false) := by
  refine returnsInHanded_of_change_and (C := Tryz.checked) (X := fun w _ => laidMetH Tryz.prog Rows.loopsComeRoundRow.laid w) (fun _ _ _ hh h => h.of_heap hh) own started (by kernel_rfl) Tryz.func4
    (ChangeSpec.witness_shaped (enc := enc) (C := Tryz.checked) (os := os) (X := fun w _ => laidMetH Tryz.prog Rows.loopsComeRoundRow.laid w) false (World.laidAll Tryz.prog os Rows.loopsComeRoundRow.laid) #[.slice none 0 0] 8 (World.laidAll_os _ _ _)
      (World.shaped_of_ZipB (by kernel_rfl) (by kernel_rfl)) (by kernel_rfl) (by kernel_rfl) (by kernel_rfl)
      (by rw [MakeChecks.laidMetH_plain _ _ _ (by kernel_rfl)]; exact laidMet_laidAll _ (by kernel_rfl) (by kernel_rfl))) ?_
  intro W base args ds gs before hval0 hW _ _ hL _
  have hval : ∀ (j : Nat) t v, Tryz.f4.params[j]? = some t → args[j]? = some v → Value.okWide Tryz.prog W .any base t v := hval0
  have hW' := hW
  obtain ⟨p, q, hA0, hV, rfl, hfz, hnd⟩ := hW
  have hA : DataW.TrodAll enc Tryz.prog W 0 (fun _ => true) true Tryz.f4.params.toList args.toList ds p := hA0
  rw [Tryz.params4] at hA hval
  obtain ⟨v0, vs0, d0, ds0, p0, q0, hargs, rfl, rfl, h0, r0⟩ := trodAll_cons hA
  obtain ⟨rfl, rfl, rfl⟩ := trodAll_nil r0
  obtain rfl : args = #[v0] := by cases args; simp_all
  obtain ⟨rfl, rfl⟩ := trodVars_none hV
  obtain ⟨a0, len0, cap0, rfl⟩ := okWide_slice Tryz.underlying22 (hval 0 22 v0 rfl rfl)
  have k0 := h0
  have lt0 : ∀ x ∈ p0, x.block < W.heap.size := by obtain ⟨m, hm⟩ := k0; exact DataW.trod_lt m _ _ _ hm
  obtain ⟨z0, w0⟩ : ∃ zs, ARow W a0 len0 cap0 zs := by
    obtain ⟨fuel, hf⟩ := h0
    rcases open_ints Tryz.underlying22 Tryz.underlying3 (by kernel_rfl) hf with ⟨hcs, _⟩ | ⟨x, l, c, zs, hcs, _, hl, hm, hz, hpe, hcell, hwz⟩
    · simp [Value.cells] at hcs
      obtain ⟨rfl, rfl, rfl⟩ := hcs
      exact ⟨[], .inl ⟨rfl, rfl, rfl, rfl⟩⟩
    · simp [Value.cells] at hcs
      obtain ⟨rfl, rfl, rfl⟩ := hcs
      have hp0 : p0 = MemPlace.row x zs.length := (Prod.mk.inj hpe).2
      refine ⟨zs, .inr ⟨_, rfl, hl, hm, by simpa using hz, fun i hi => ⟨hcell i hi, ?_⟩, hwz⟩⟩
      have h1 := hcell 0 (by omega)
      obtain ⟨b, o, sp⟩ := x
      rw [show (⟨b, o, sp⟩ : Addr).add 0 = ⟨b, o, sp⟩ from rfl] at h1
      cases sp with
      | none => rw [Addr.add_lit]; exact hfz b (o + i) (by rw [hp0]; simp only [MemPlace.row, List.append_nil]; exact List.mem_map.2 ⟨i, List.mem_range.2 hi, rfl⟩)
      | some s =>
        simp only [World.cell?] at h1
        split at h1 <;> simp at h1
  clear hA0 hval0
  refine (law_calls g_lawCome a0 len0 cap0 z0 W w0).mono fun e W' ⟨he, bel⟩ => ?_
  subst he
  exact ⟨_, rfl, _, _, _, [], _, [], hW', trodAll_mk1 (shut_bool Tryz.underlying4 _), (trodAll_cons_mk (Below.trod laidOut (by kernel_rfl) (of_decide_eq_true (by kernel_rfl)) k0 bel lt0) trodAll_mk0), rfl, bel.frame _, fun h => by cases h⟩
theorem said : Rows.LoopsComeRoundSaid :=
  OpenClaim.holds_of_wide 4 Tryz.f4 rfl rfl rfl rfl rfl rfl rfl ⟨rfl, rfl, rfl, rfl, rfl⟩ rfl rfl rfl rfl rfl (by kernel_rfl) Tryz.func4 (by kernel_rfl)
    (of_decide_eq_true (by kernel_rfl)) (by unfold Func.isWrapper; first | (rw [if_pos (by decide +kernel)]; kernel_rfl) | (rw [if_neg (by decide +kernel)]; exact ⟨rfl, rfl⟩))
    (fun os started H enc _ => lifted os started H enc)
theorem plain (f : FuncId) (fn : Func) (hf : Tryz.pinned.checked.prog.funcNamed "signboard/signlaw1.LoopsComeRound" = some f) (hfn : Tryz.pinned.checked.prog.funcs[f]? = some fn) :
    true = Tryz.pinned.checked.prog.looks [] ∧ ∀ (j : Nat) t, fn.params[j]? = some t → Tryz.pinned.checked.prog.wantsStandIn t = false := by
  obtain rfl : f = 4 := Option.some.inj ((show Tryz.prog.funcNamed "signboard/signlaw1.LoopsComeRound" = some 4 by kernel_rfl).symm.trans hf) |>.symm
  obtain rfl : fn = Tryz.f4 := (Option.some.inj (Tryz.func4.symm.trans hfn)).symm
  refine ⟨by kernel_rfl, fun j t ht => ?_⟩
  rw [Tryz.params4] at ht
  obtain rfl : t = 22 := by simpa using Array.mem_of_getElem? ht
  exact (show Tryz.prog.wantsStandIn 22 = false by kernel_rfl)
theorem card : Rows.LoopsComeRoundCardSaid :=
  Claim7.holds_tied_plain_at .later [] _ _ _ _ said (fun _ h => by cases h) (by kernel_rfl) (fun _ h => by cases h) loopsComeRound_row_tie rfl ⟨rfl, rfl⟩ (by kernel_rfl) rfl plain (by kernel_rfl)
end Go.Proofs.YtoleejecmefogaaGreatDoor.loopsComeRoundDone
