/- asset.Times and the reference's TimesOf, in trees. -/
import Derived.Test.YtmghfolmgmhabaaGreatDoorM2
import Derived.Test.YtmghfolmgmhabaaGreatDoorAvMap
import Derived.Below
namespace Go.Proofs.YtmghfolmgmhabaaGreatDoor
open Go
set_option linter.unusedVariables false
set_option linter.unusedSimpArgs false
open Nat renaming reduceAdd → nA, reduceSub → nB, reduceMul → nC, reduceLT → nD, reduceLeDiff → nE, reduceEqDiff → nF, reduceMod → nG, reduceDiv → nH, reducePow → nI
abbrev zM30 : Option Tmp → Nat := mdL [(19, 1)]
abbrev zM31 : Option Tmp → Nat := mdL [(4, 1)]
abbrev zM32 : Option Tmp → Nat := mdL [(3, 2)]
abbrev zM33 : Option Tmp → Nat := mdL [(4, 1), (5, 1)]
abbrev zM34 : Option Tmp → Nat := mdL []
abbrev zM35 : Option Tmp → Nat := mdL [(8, 1)]
abbrev zM36 : Option Tmp → Nat := mdL [(6, 1)]
abbrev zM37 : Option Tmp → Nat := mdL [(8, 2), (77, 2)]
abbrev zM38 : Option Tmp → Nat := mdL [(32, 2)]
abbrev zM39 : Option Tmp → Nat := mdL [(9, 1), (10, 1)]
attribute [go_sem] zM30 zM31 zM32 zM33 zM34 zM35 zM36 zM37 zM38 zM39
abbrev zPIE : List Nat := [0, 1, 2, 3, 4, 5, 6]
abbrev zPIP : List (Nat × List Nat × List Nat) := [(7, [], [8])]
abbrev zPJE : List Nat := [0, 1, 2, 3, 4, 5, 6, 7, 8, 9, 10, 11, 12, 13, 14]
abbrev zPJP : List (Nat × List Nat × List Nat) := []
abbrev zPKE : List Nat := [0, 1, 2, 3, 4, 5, 6, 7, 8, 9, 10, 11]
abbrev zPKP : List (Nat × List Nat × List Nat) := [(12, [], []), (13, [], [])]
attribute [go_sem] zPIE zPIP zPJE zPJP zPKE zPKP
set_option maxRecDepth 100000
set_option maxHeartbeats 8000000
theorem g_timesOf (rs : List Rt) (p : Gu) (item : ByteArray) (fr t2 : Int) (kk : Option Nat) (hl : rs.length ≤ 500) (hok : ∀ r ∈ rs, RtOk r) (hp : GuOk p) (h : Hp) :
  ACalls Tryz.prog 24 [.row 5 (rs.map encRt) kk, .agg (encGu p), .v (.string item), .agg [.v (.int .i64 fr), .v (.int .i64 t2)]] h (fun r h' => r = .row 2 ((timesR p.tags item fr t2 rs).map encW2) none ∧ h' = h) := by
 have hMay := fun x h => g_mayR rs p item x kk hl hok hp h
 have hEdg := fun h => g_edges rs kk hl h
 have hHas := fun x h => g_hasW fr t2 x h
 obtain ⟨key, scr, zone, tags⟩ := p
 unfold encGu encGr at hMay ⊢
 simp only at hMay ⊢
 have htm : timesR tags item fr t2 rs = runsW (fun x => mayL tags item x rs false) (onceI (cutsR fr t2 (onceI (edgesL rs)))) [] := rfl
 rw [htm]
 obtain ⟨E, hE⟩ : ∃ E, onceI (edgesL rs) = E := ⟨_, rfl⟩
 have hEl : E.length ≤ 1000 := by rw [← hE]; have := onceI_len (edgesL rs); rw [edgesL_len] at this; omega
 rw [hE] at hEdg ⊢
 clear htm hE
 have hml : (E.map encI).length = E.length := List.length_map _
 refine gE Tryz.func24 rfl (by kernel_rfl) 92 rfl fun c => ?_
 (repeat (first | refine gO rfl ?_ | ((first | refine gM zM30 ?_ | (with_reducible refine wM ?_ ?_) | ((with_reducible refine xS ?_); refine uD 14 zM30 zPIE zPIP 96 rfl (by kernel_rfl) ?_) | ((with_reducible refine xS ?_); refine uD 16 zM30 zPJE zPJP 96 rfl (by kernel_rfl) ?_) | ((with_reducible refine xR ?_); refine uE 18 zM30 zPKE zPKP 96 rfl (by kernel_rfl) ?_)) <;> ((try with_reducible intro K1 hK1); simp only [go_sem, ↓reduceIte, reduceCtorEq, nA, nB, nC, nD, nE, nF] <;> and_intros <;> first | (apply hK1; clear hK1 K1) | (intros; first | omega | decide) | skip))))
 intro k hk
 replace hk : h.T k = none := hk
 refine hK1 _ ?_; clear hK1 K1
 (repeat (first | refine gO rfl ?_ | ((first | refine gM zM30 ?_ | (with_reducible refine wM ?_ ?_) | ((with_reducible refine xS ?_); refine uD 14 zM30 zPIE zPIP 96 rfl (by kernel_rfl) ?_) | ((with_reducible refine xS ?_); refine uD 16 zM30 zPJE zPJP 96 rfl (by kernel_rfl) ?_) | ((with_reducible refine xR ?_); refine uE 18 zM30 zPKE zPKP 96 rfl (by kernel_rfl) ?_)) <;> ((try with_reducible intro K1 hK1); simp only [go_sem, ↓reduceIte, reduceCtorEq, nA, nB, nC, nD, nE, nF] <;> and_intros <;> first | (apply hK1; clear hK1 K1) | (intros; first | omega | decide) | skip))))
 refine (hEdg _).mono ?_; rintro _ hz ⟨rfl, hh⟩; apply hK1; clear hK1 K1; rw [hh]; clear hh hz
 (repeat (first | refine gO rfl ?_ | ((first | refine gM zM30 ?_ | (with_reducible refine wM ?_ ?_) | ((with_reducible refine xS ?_); refine uD 14 zM30 zPIE zPIP 96 rfl (by kernel_rfl) ?_) | ((with_reducible refine xS ?_); refine uD 16 zM30 zPJE zPJP 96 rfl (by kernel_rfl) ?_) | ((with_reducible refine xR ?_); refine uE 18 zM30 zPKE zPKP 96 rfl (by kernel_rfl) ?_)) <;> ((try with_reducible intro K1 hK1); simp only [go_sem, ↓reduceIte, reduceCtorEq, nA, nB, nC, nD, nE, nF, hml] <;> and_intros <;> first | (apply hK1; clear hK1 K1) | (intros; first | omega | decide) | skip))))
 have hcr : ∀ l, cutsR fr t2 l = [fr, t2] ++ l.filter fun n => decide (fr ≤ n) && decide (n < t2) := fun _ => rfl
 refine awp_loopC (rl false [0, 1, 1, 1, 2, 1, 1, 1, 1, 1, 11, 3, 72]) 0 (fun g s => ∃ (j n : Nat) (xs : List Int), g + j = E.length ∧ xs.length = n ∧ n ≤ 2 + j ∧ xs = cutsR fr t2 (E.take j) ∧
  s = ⟨((.row 5 (rs.map encRt) kk) :: AV.junk :: ((.v (.string item)) :: AV.junk :: AV.junk :: ((.ref [.v (.string key), .v (.string scr), .v (.int .i64 zone), .row 1 (tags.map encS) none] 0) :: AV.junk :: ((.ref [.v (.int .i64 fr), .v (.int .i64 t2)] 0) :: AV.junk :: ((.arr 1 k n) :: (jnk 11 ((.row 1 (E.map encI) none) :: (.v (.int .i64 E.length)) :: (.v (.int .i64 j)) :: (jnk 72 [])))))))), [], ⟨h.H, upd h.T k (some (.cont 1 (xs.map encI)))⟩⟩) E.length ⟨0, 2, [fr, t2], by omega, rfl, by omega, rfl, rfl⟩ ?_
 rintro g _ ⟨j, n, xs, hj, hn, hnj, hxs, rfl⟩
 have hTq : upd h.T k (some (TO.cont 1 (xs.map encI))) k = some (TO.cont 1 (xs.map encI)) := upd_same _ _ _
 have hle : (xs.map encI).length = n := by rw [List.length_map, hn]
 (repeat (first | refine gO rfl ?_ | ((first | refine gM zM30 ?_ | (with_reducible refine wM ?_ ?_) | ((with_reducible refine xS ?_); refine uD 14 zM30 zPIE zPIP 96 rfl (by kernel_rfl) ?_) | ((with_reducible refine xS ?_); refine uD 16 zM30 zPJE zPJP 96 rfl (by kernel_rfl) ?_) | ((with_reducible refine xR ?_); refine uE 18 zM30 zPKE zPKP 96 rfl (by kernel_rfl) ?_)) <;> ((try with_reducible intro K1 hK1); simp only [go_sem, ↓reduceIte, reduceCtorEq, nA, nB, nC, nD, nE, nF] <;> and_intros <;> first | (apply hK1; clear hK1 K1) | (intros; first | omega | decide) | skip))))
 refine awp_cond (t := _) rfl (fun h5 => ?_) (fun h5 => ?_)
 ·simp only [decide_eq_true_eq] at h5
  have hjl : j < E.length := by omega
  have gx : (E.map encI).getD j [] = [.v (.int .i64 E[j])] := by rw [List.getD_eq_getElem?_getD, List.getElem?_map, List.getElem?_eq_getElem hjl]; rfl
  have het : cutsR fr t2 (E.take (j + 1)) = xs ++ ([E[j]].filter fun n => decide (fr ≤ n) && decide (n < t2)) := by
   rw [hxs, hcr, hcr, List.take_succ_eq_append_getElem hjl, List.filter_append, List.append_assoc]
  generalize E[j] = a at *
  (repeat (first | refine gO rfl ?_ | ((first | refine gM zM30 ?_ | (with_reducible refine wM ?_ ?_) | ((with_reducible refine xS ?_); refine uD 14 zM30 zPIE zPIP 96 rfl (by kernel_rfl) ?_) | ((with_reducible refine xS ?_); refine uD 16 zM30 zPJE zPJP 96 rfl (by kernel_rfl) ?_) | ((with_reducible refine xR ?_); refine uE 18 zM30 zPKE zPKP 96 rfl (by kernel_rfl) ?_)) <;> ((try with_reducible intro K1 hK1); simp only [go_sem, ↓reduceIte, reduceCtorEq, nA, nB, nC, nD, nE, nF, hml, Int.toNat_natCast, gx] <;> and_intros <;> first | (apply hK1; clear hK1 K1) | (intros; first | omega | decide) | skip))))
  refine (hHas a _).mono ?_; rintro _ hz ⟨rfl, hh⟩; apply hK1; clear hK1 K1; rw [hh]; clear hh hz
  (repeat (first | refine gO rfl ?_ | ((first | refine gM zM30 ?_ | (with_reducible refine wM ?_ ?_) | ((with_reducible refine xS ?_); refine uD 14 zM30 zPIE zPIP 96 rfl (by kernel_rfl) ?_) | ((with_reducible refine xS ?_); refine uD 16 zM30 zPJE zPJP 96 rfl (by kernel_rfl) ?_) | ((with_reducible refine xR ?_); refine uE 18 zM30 zPKE zPKP 96 rfl (by kernel_rfl) ?_)) <;> ((try with_reducible intro K1 hK1); simp only [go_sem, ↓reduceIte, reduceCtorEq, nA, nB, nC, nD, nE, nF] <;> and_intros <;> first | (apply hK1; clear hK1 K1) | (intros; first | omega | decide) | skip))))
  cases hq : (decide (fr ≤ a) && decide (a < t2)) with
  | false =>
   refine awp_cond (t := _) rfl (fun h6 => by cases h6) (fun _ => ?_)
   (repeat (first | refine gO rfl ?_ | ((first | refine gM zM30 ?_ | (with_reducible refine wM ?_ ?_) | ((with_reducible refine xS ?_); refine uD 14 zM30 zPIE zPIP 96 rfl (by kernel_rfl) ?_) | ((with_reducible refine xS ?_); refine uD 16 zM30 zPJE zPJP 96 rfl (by kernel_rfl) ?_) | ((with_reducible refine xR ?_); refine uE 18 zM30 zPKE zPKP 96 rfl (by kernel_rfl) ?_)) <;> ((try with_reducible intro K1 hK1); simp only [go_sem, ↓reduceIte, reduceCtorEq, nA, nB, nC, nD, nE, nF] <;> and_intros <;> first | (apply hK1; clear hK1 K1) | (intros; first | omega | decide) | skip))))
   exact ⟨g - 1, by omega, j + 1, n, xs, by omega, hn, by omega, by rw [het]; simp [List.filter_cons, hq], rfl⟩
  | true =>
   refine awp_cond (t := _) rfl (fun _ => ?_) (fun h6 => by cases h6)
   (repeat (first | refine gO rfl ?_ | ((first | refine gM zM30 ?_ | (with_reducible refine wM ?_ ?_) | ((with_reducible refine xS ?_); refine uD 14 zM30 zPIE zPIP 96 rfl (by kernel_rfl) ?_) | ((with_reducible refine xS ?_); refine uD 16 zM30 zPJE zPJP 96 rfl (by kernel_rfl) ?_) | ((with_reducible refine xR ?_); refine uE 18 zM30 zPKE zPKP 96 rfl (by kernel_rfl) ?_)) <;> ((try with_reducible intro K1 hK1); simp only [go_sem, ↓reduceIte, reduceCtorEq, nA, nB, nC, nD, nE, nF, hTq, hle] <;> and_intros <;> first | (apply hK1; clear hK1 K1) | (intros; first | omega | decide) | skip))))
   refine ⟨g - 1, by omega, j + 1, n + 1, xs ++ [a], by omega, by simp [hn], by omega, by rw [het]; simp [List.filter_cons, hq], ?_⟩
   rw [List.map_append]
   (try simp only [upd_upd])
   rfl
 ·simp only [decide_eq_false_iff_not] at h5
  have hjl : j = E.length := by omega
  subst hjl
  rw [List.take_length] at hxs
  have hE2 : 2 ≤ xs.length := by rw [hxs, hcr]; simp
  have hok1 := onceI_ok (cutsR fr t2 E)
  have hol := onceI_len (cutsR fr t2 E)
  have hfm : fr ∈ cutsR fr t2 E := by rw [hcr]; simp
  rw [← hxs] at hok1 hol hfm ⊢
  subst hn
  clear hxs
  (repeat (first | refine gO rfl ?_ | ((first | refine gM zM30 ?_ | (with_reducible refine wM ?_ ?_) | ((with_reducible refine xS ?_); refine uD 14 zM30 zPIE zPIP 96 rfl (by kernel_rfl) ?_) | ((with_reducible refine xS ?_); refine uD 16 zM30 zPJE zPJP 96 rfl (by kernel_rfl) ?_) | ((with_reducible refine xR ?_); refine uE 18 zM30 zPKE zPKP 96 rfl (by kernel_rfl) ?_)) <;> ((try with_reducible intro K1 hK1); simp only [go_sem, ↓reduceIte, reduceCtorEq, nA, nB, nC, nD, nE, nF] <;> and_intros <;> first | (apply hK1; clear hK1 K1) | (intros; first | omega | decide) | skip))))
  refine (g_sortI k xs ⟨h.H, upd h.T k (some (.cont 1 (xs.map encI)))⟩ (upd_same _ _ _) (by omega) (by omega)).mono ?_; rintro _ hz ⟨rfl, hh⟩; apply hK1; clear hK1 K1; rw [hh]; clear hh hz
  (repeat (first | refine gO rfl ?_ | ((first | refine gM zM30 ?_ | (with_reducible refine wM ?_ ?_) | ((with_reducible refine xS ?_); refine uD 14 zM30 zPIE zPIP 96 rfl (by kernel_rfl) ?_) | ((with_reducible refine xS ?_); refine uD 16 zM30 zPJE zPJP 96 rfl (by kernel_rfl) ?_) | ((with_reducible refine xR ?_); refine uE 18 zM30 zPKE zPKP 96 rfl (by kernel_rfl) ?_)) <;> ((try with_reducible intro K1 hK1); simp only [go_sem, ↓reduceIte, reduceCtorEq, nA, nB, nC, nD, nE, nF] <;> and_intros <;> first | (apply hK1; clear hK1 K1) | (intros; first | omega | decide) | skip))))
  obtain ⟨S, hS⟩ : ∃ S, xs.mergeSort (fun x y => decide (x ≤ y)) = S := ⟨_, rfl⟩
  have hSl : S.length = xs.length := by rw [← hS, List.length_mergeSort]
  have hSP : onceI xs = Lib.compact S := by rw [← hS]; rfl
  rw [hS, ← hSl]
  refine (g_compI k S ⟨h.H, upd h.T k (some (.cont 1 (S.map encI)))⟩ (upd_same _ _ _) (by omega) (by omega)).mono ?_; rintro _ hz ⟨rfl, hh⟩; apply hK1; clear hK1 K1; rw [hh]; clear hh hz
  rw [← hSP]
  simp only [upd_upd]
  rw [upd_back hk]
  obtain ⟨P, hP⟩ : ∃ P, onceI xs = P := ⟨_, rfl⟩
  rw [hP] at hok1 hol ⊢
  have hP1 : 1 ≤ P.length := List.length_pos_of_mem ((hok1.2 fr).2 hfm)
  have hPl : P.length ≤ 1100 := by omega
  clear hSP hS hP hfm hok1 hol hE2
  have hmp : (P.map encI).length = P.length := List.length_map _
  (repeat (first | refine gQ rfl ?_ | ((first | refine gM zM30 ?_ | (with_reducible refine wM ?_ ?_) | ((with_reducible refine xS ?_); refine uD 14 zM30 zPIE zPIP 96 rfl (by kernel_rfl) ?_) | ((with_reducible refine xS ?_); refine uD 16 zM30 zPJE zPJP 96 rfl (by kernel_rfl) ?_) | ((with_reducible refine xR ?_); refine uE 18 zM30 zPKE zPKP 96 rfl (by kernel_rfl) ?_)) <;> ((try with_reducible intro K1 hK1); simp only [go_sem, ↓reduceIte, reduceCtorEq, nA, nB, nC, nD, nE, nF] <;> and_intros <;> first | (apply hK1; clear hK1 K1) | (intros; first | omega | decide | (simp_all <;> omega)) | skip))))
  refine awp_seq ?_
  refine awp_ownA 12 2 rfl ⟨rfl, rfl⟩ (fun k2 hk2 => ?_)
  replace hk2 : h.T k2 = none := hk2
  (repeat (first | refine gO rfl ?_ | ((first | refine gM zM30 ?_ | (with_reducible refine wM ?_ ?_) | ((with_reducible refine xS ?_); refine uD 14 zM30 zPIE zPIP 96 rfl (by kernel_rfl) ?_) | ((with_reducible refine xS ?_); refine uD 16 zM30 zPJE zPJP 96 rfl (by kernel_rfl) ?_) | ((with_reducible refine xR ?_); refine uE 18 zM30 zPKE zPKP 96 rfl (by kernel_rfl) ?_)) <;> ((try with_reducible intro K1 hK1); simp only [go_sem, ↓reduceIte, reduceCtorEq, nA, nB, nC, nD, nE, nF, hmp] <;> and_intros <;> first | (apply hK1; clear hK1 K1) | (intros; first | omega | decide) | skip))))
  refine awp_loopC (rl false [0, 1, 1, 1, 2, 1, 3, 1, 2, 1, 28, 2, 53]) 0 (fun g s => ∃ (i n : Nat) (acc : List Wnd), g + (i + 1) = P.length ∧ acc.length = n ∧ n ≤ i ∧ runsW (fun x => mayL tags item x rs false) (P.drop i) acc = runsW (fun x => mayL tags item x rs false) P [] ∧
   s = ⟨((.row 5 (rs.map encRt) kk) :: AV.junk :: ((.v (.string item)) :: AV.junk :: AV.junk :: ((.ref [.v (.string key), .v (.string scr), .v (.int .i64 zone), .row 1 (tags.map encS) none] 0) :: (jnk 3 ((.row 1 (P.map encI) none) :: AV.junk :: AV.junk :: ((.arr 2 k2 n) :: (jnk 28 ((.v (.int .i64 ((P.length : Int) - 1))) :: (.v (.int .i64 i)) :: (jnk 53 []))))))))), [], ⟨h.H, upd h.T k2 (some (.cont 2 (acc.map encW2)))⟩⟩) (P.length - 1) ⟨0, 0, [], by omega, rfl, Nat.le_refl _, rfl, rfl⟩ ?_
  clear hTq hle
  rintro g _ ⟨i, n, acc, hg, hn, hni, hinv, rfl⟩
  have hTq : upd h.T k2 (some (TO.cont 2 (acc.map encW2))) k2 = some (TO.cont 2 (acc.map encW2)) := upd_same _ _ _
  have hla : (acc.map encW2).length = n := by rw [List.length_map, hn]
  (repeat (first | refine gO rfl ?_ | ((first | refine gM zM30 ?_ | (with_reducible refine wM ?_ ?_) | ((with_reducible refine xS ?_); refine uD 14 zM30 zPIE zPIP 96 rfl (by kernel_rfl) ?_) | ((with_reducible refine xS ?_); refine uD 16 zM30 zPJE zPJP 96 rfl (by kernel_rfl) ?_) | ((with_reducible refine xR ?_); refine uE 18 zM30 zPKE zPKP 96 rfl (by kernel_rfl) ?_)) <;> ((try with_reducible intro K1 hK1); simp only [go_sem, ↓reduceIte, reduceCtorEq, nA, nB, nC, nD, nE, nF, hmp] <;> and_intros <;> first | (apply hK1; clear hK1 K1) | (intros; first | omega | decide) | skip))))
  refine awp_cond (t := _) rfl (fun h5 => ?_) (fun h5 => ?_)
  ·simp only [decide_eq_true_eq] at h5
   have hi : i + 1 < P.length := by omega
   have gP : (P.map encI).getD i [] = [.v (.int .i64 P[i])] := by rw [List.getD_eq_getElem?_getD, List.getElem?_map, List.getElem?_eq_getElem (show i < P.length by omega)]; rfl
   have gP1 : (P.map encI).getD (i + 1) [] = [.v (.int .i64 P[i + 1])] := by rw [List.getD_eq_getElem?_getD, List.getElem?_map, List.getElem?_eq_getElem hi]; rfl
   have ht1 : ((i : Int) + 1).toNat = i + 1 := by omega
   rw [runs_at _ P acc i hi] at hinv
   generalize P[i] = a at *
   generalize P[i + 1] = b at *
   (repeat (first | refine gO rfl ?_ | ((first | refine gM zM30 ?_ | (with_reducible refine wM ?_ ?_) | ((with_reducible refine xS ?_); refine uD 14 zM30 zPIE zPIP 96 rfl (by kernel_rfl) ?_) | ((with_reducible refine xS ?_); refine uD 16 zM30 zPJE zPJP 96 rfl (by kernel_rfl) ?_) | ((with_reducible refine xR ?_); refine uE 18 zM30 zPKE zPKP 96 rfl (by kernel_rfl) ?_)) <;> ((try with_reducible intro K1 hK1); simp only [go_sem, ↓reduceIte, reduceCtorEq, nA, nB, nC, nD, nE, nF, hmp, Int.toNat_natCast, gP] <;> and_intros <;> first | (apply hK1; clear hK1 K1) | (intros; first | omega | decide) | skip))))
   refine (hMay a _).mono ?_; rintro _ hz ⟨rfl, hh⟩; apply hK1; clear hK1 K1; rw [hh]; clear hh hz
   (repeat (first | refine gO rfl ?_ | ((first | refine gM zM30 ?_ | (with_reducible refine wM ?_ ?_) | ((with_reducible refine xS ?_); refine uD 14 zM30 zPIE zPIP 96 rfl (by kernel_rfl) ?_) | ((with_reducible refine xS ?_); refine uD 16 zM30 zPJE zPJP 96 rfl (by kernel_rfl) ?_) | ((with_reducible refine xR ?_); refine uE 18 zM30 zPKE zPKP 96 rfl (by kernel_rfl) ?_)) <;> ((try with_reducible intro K1 hK1); simp only [go_sem, ↓reduceIte, reduceCtorEq, nA, nB, nC, nD, nE, nF] <;> and_intros <;> first | (apply hK1; clear hK1 K1) | (intros; first | omega | decide) | skip))))
   all_goals try with_reducible rfl
   (repeat (first | refine gO rfl ?_ | ((first | refine gM zM30 ?_ | (with_reducible refine wM ?_ ?_) | ((with_reducible refine xS ?_); refine uD 14 zM30 zPIE zPIP 96 rfl (by kernel_rfl) ?_) | ((with_reducible refine xS ?_); refine uD 16 zM30 zPJE zPJP 96 rfl (by kernel_rfl) ?_) | ((with_reducible refine xR ?_); refine uE 18 zM30 zPKE zPKP 96 rfl (by kernel_rfl) ?_)) <;> ((try with_reducible intro K1 hK1); simp only [go_sem, ↓reduceIte, reduceCtorEq, nA, nB, nC, nD, nE, nF] <;> and_intros <;> first | (apply hK1; clear hK1 K1) | (intros; first | omega | decide) | skip))))
   cases hm : mayL tags item a rs false with
   | false =>
    rw [hm, if_neg (by decide)] at hinv
    refine awp_cond (t := _) rfl (fun _ => ?_) (fun h6 => by cases h6)
    (repeat (first | refine gO rfl ?_ | ((first | refine gM zM30 ?_ | (with_reducible refine wM ?_ ?_) | ((with_reducible refine xS ?_); refine uD 14 zM30 zPIE zPIP 96 rfl (by kernel_rfl) ?_) | ((with_reducible refine xS ?_); refine uD 16 zM30 zPJE zPJP 96 rfl (by kernel_rfl) ?_) | ((with_reducible refine xR ?_); refine uE 18 zM30 zPKE zPKP 96 rfl (by kernel_rfl) ?_)) <;> ((try with_reducible intro K1 hK1); simp only [go_sem, ↓reduceIte, reduceCtorEq, nA, nB, nC, nD, nE, nF] <;> and_intros <;> first | (apply hK1; clear hK1 K1) | (intros; first | omega | decide) | skip))))
    exact ⟨g - 1, by omega, i + 1, n, acc, by omega, hn, by omega, hinv, rfl⟩
   | true =>
    rw [hm, if_pos rfl] at hinv
    refine awp_cond (t := _) rfl (fun h6 => by cases h6) (fun _ => ?_)
    rcases List.eq_nil_or_concat acc with e0 | ⟨acc', w, e0⟩
    ·subst e0
     have hn0 : n = 0 := by rw [← hn]; rfl
     have hd0 : decide ((0 : Int) < (n : Int)) = false := by simp only [decide_eq_false_iff_not]; omega
     have hgn : ([] : List (List AV)).getD ((n : Int) - 1).toNat [] = [] := rfl
     rw [List.map_nil] at hTq hla
     (repeat (first | refine gO rfl ?_ | ((first | refine gM zM30 ?_ | (with_reducible refine wM ?_ ?_) | ((with_reducible refine xS ?_); refine uD 14 zM30 zPIE zPIP 96 rfl (by kernel_rfl) ?_) | ((with_reducible refine xS ?_); refine uD 16 zM30 zPJE zPJP 96 rfl (by kernel_rfl) ?_) | ((with_reducible refine xR ?_); refine uE 18 zM30 zPKE zPKP 96 rfl (by kernel_rfl) ?_)) <;> ((try with_reducible intro K1 hK1); simp only [go_sem, ↓reduceIte, reduceCtorEq, nA, nB, nC, nD, nE, nF, hTq, hla, hd0, hmp, Int.toNat_natCast, gP, hgn, List.getD_nil] <;> and_intros <;> first | (apply hK1; clear hK1 K1) | (intros; first | omega | decide) | skip))))
     refine ⟨.v (.bool false), rfl, ?_⟩
     apply hK1; clear hK1 K1
     (repeat (first | refine gO rfl ?_ | ((first | refine gM zM30 ?_ | (with_reducible refine wM ?_ ?_) | ((with_reducible refine xS ?_); refine uD 14 zM30 zPIE zPIP 96 rfl (by kernel_rfl) ?_) | ((with_reducible refine xS ?_); refine uD 16 zM30 zPJE zPJP 96 rfl (by kernel_rfl) ?_) | ((with_reducible refine xR ?_); refine uE 18 zM30 zPKE zPKP 96 rfl (by kernel_rfl) ?_)) <;> ((try with_reducible intro K1 hK1); simp only [go_sem, ↓reduceIte, reduceCtorEq, nA, nB, nC, nD, nE, nF] <;> and_intros <;> first | (apply hK1; clear hK1 K1) | (intros; first | omega | decide) | skip))))
     refine awp_cond (t := _) rfl (fun h6 => by cases h6) (fun _ => ?_)
     clear hd0 hgn hla hn
     subst hn0
     (repeat (first | refine gO rfl ?_ | ((first | refine gM zM30 ?_ | (with_reducible refine wM ?_ ?_) | ((with_reducible refine xS ?_); refine uD 14 zM30 zPIE zPIP 96 rfl (by kernel_rfl) ?_) | ((with_reducible refine xS ?_); refine uD 16 zM30 zPJE zPJP 96 rfl (by kernel_rfl) ?_) | ((with_reducible refine xR ?_); refine uE 18 zM30 zPKE zPKP 96 rfl (by kernel_rfl) ?_)) <;> ((try with_reducible intro K1 hK1); simp only [go_sem, ↓reduceIte, reduceCtorEq, nA, nB, nC, nD, nE, nF, hTq, hmp, Int.toNat_natCast, gP, gP1, ht1] <;> and_intros <;> first | (apply hK1; clear hK1 K1) | (intros; first | omega | decide) | skip))))
     exact ⟨g - 1, by omega, i + 1, 1, [(a, b)], by omega, rfl, by omega, hinv, rfl⟩
    ·rw [List.concat_eq_append] at e0
     subst e0
     obtain ⟨m, hm0⟩ : ∃ m, acc'.length = m := ⟨_, rfl⟩
     have hnm : n = m + 1 := by rw [← hn, ← hm0]; simp
     obtain ⟨w1, w2⟩ := w
     have hd0 : decide ((0 : Int) < (n : Int)) = true := by simp only [decide_eq_true_eq]; omega
     have ht2 : ((n : Int) - 1).toNat = m := by omega
     have gA : ((acc' ++ [(w1, w2)]).map encW2).getD m [] = [.v (.int .i64 w1), .v (.int .i64 w2)] := by
      rw [List.map_append, List.getD_eq_getElem?_getD, List.getElem?_append_right (by simp [hm0])]
      simp [hm0, encW2]
     have hst : ∀ X, ((acc' ++ [(w1, w2)]).map encW2).set m X = acc'.map encW2 ++ [X] := fun X => by
      rw [List.map_append, List.set_append_right _ _ (by simp [hm0])]
      simp [hm0]
     have hpw : pushW (acc' ++ [(w1, w2)]) a b = if w2 = a then acc' ++ [(w1, b)] else acc' ++ [(w1, w2)] ++ [(a, b)] := by
      unfold pushW
      rw [List.getLast?_append]
      simp
     rw [hpw] at hinv
     clear hpw
     by_cases hwa : w2 = a
     ·rw [if_pos hwa] at hinv
      have hqe : (w2 == a) = true := by simpa using hwa
      (repeat (first | refine gO rfl ?_ | ((first | refine gM zM30 ?_ | (with_reducible refine wM ?_ ?_) | ((with_reducible refine xS ?_); refine uD 14 zM30 zPIE zPIP 96 rfl (by kernel_rfl) ?_) | ((with_reducible refine xS ?_); refine uD 16 zM30 zPJE zPJP 96 rfl (by kernel_rfl) ?_) | ((with_reducible refine xR ?_); refine uE 18 zM30 zPKE zPKP 96 rfl (by kernel_rfl) ?_)) <;> ((try with_reducible intro K1 hK1); simp only [go_sem, ↓reduceIte, reduceCtorEq, nA, nB, nC, nD, nE, nF, hTq, hla, hd0, hmp, Int.toNat_natCast, gP, ht2, gA, hqe] <;> and_intros <;> first | (apply hK1; clear hK1 K1) | (intros; first | omega | decide) | skip))))
      refine awp_cond (t := _) rfl (fun _ => ?_) (fun h6 => by cases h6)
      (repeat (first | refine gO rfl ?_ | ((first | refine gM zM30 ?_ | (with_reducible refine wM ?_ ?_) | ((with_reducible refine xS ?_); refine uD 14 zM30 zPIE zPIP 96 rfl (by kernel_rfl) ?_) | ((with_reducible refine xS ?_); refine uD 16 zM30 zPJE zPJP 96 rfl (by kernel_rfl) ?_) | ((with_reducible refine xR ?_); refine uE 18 zM30 zPKE zPKP 96 rfl (by kernel_rfl) ?_)) <;> ((try with_reducible intro K1 hK1); simp only [go_sem, ↓reduceIte, reduceCtorEq, nA, nB, nC, nD, nE, nF, hTq, hla, hmp, Int.toNat_natCast, gP1, ht1, ht2, gA, hst] <;> and_intros <;> first | (apply hK1; clear hK1 K1) | (intros; first | omega | decide) | skip))))
      exact ⟨g - 1, by omega, i + 1, n, acc' ++ [(w1, b)], by omega, by simp [hm0, hnm], by omega, hinv, by rw [List.map_append]; rfl⟩
     ·rw [if_neg hwa] at hinv
      have hqe : (w2 == a) = false := by simpa using hwa
      (repeat (first | refine gO rfl ?_ | ((first | refine gM zM30 ?_ | (with_reducible refine wM ?_ ?_) | ((with_reducible refine xS ?_); refine uD 14 zM30 zPIE zPIP 96 rfl (by kernel_rfl) ?_) | ((with_reducible refine xS ?_); refine uD 16 zM30 zPJE zPJP 96 rfl (by kernel_rfl) ?_) | ((with_reducible refine xR ?_); refine uE 18 zM30 zPKE zPKP 96 rfl (by kernel_rfl) ?_)) <;> ((try with_reducible intro K1 hK1); simp only [go_sem, ↓reduceIte, reduceCtorEq, nA, nB, nC, nD, nE, nF, hTq, hla, hd0, hmp, Int.toNat_natCast, gP, ht2, gA, hqe] <;> and_intros <;> first | (apply hK1; clear hK1 K1) | (intros; first | omega | decide) | skip))))
      refine awp_cond (t := _) rfl (fun h6 => by cases h6) (fun _ => ?_)
      (repeat (first | refine gO rfl ?_ | ((first | refine gM zM30 ?_ | (with_reducible refine wM ?_ ?_) | ((with_reducible refine xS ?_); refine uD 14 zM30 zPIE zPIP 96 rfl (by kernel_rfl) ?_) | ((with_reducible refine xS ?_); refine uD 16 zM30 zPJE zPJP 96 rfl (by kernel_rfl) ?_) | ((with_reducible refine xR ?_); refine uE 18 zM30 zPKE zPKP 96 rfl (by kernel_rfl) ?_)) <;> ((try with_reducible intro K1 hK1); simp only [go_sem, ↓reduceIte, reduceCtorEq, nA, nB, nC, nD, nE, nF, hTq, hla, hmp, Int.toNat_natCast, gP, gP1, ht1] <;> and_intros <;> first | (apply hK1; clear hK1 K1) | (intros; first | omega | decide) | skip))))
      exact ⟨g - 1, by omega, i + 1, n + 1, acc' ++ [(w1, w2)] ++ [(a, b)], by omega, by simp [hm0, hnm], by omega, hinv, by
       rw [show (acc' ++ [(w1, w2)] ++ [(a, b)]).map encW2 = (acc' ++ [(w1, w2)]).map encW2 ++ [encW2 (a, b)] from by rw [List.map_append]; rfl]
       rfl⟩
  ·simp only [decide_eq_false_iff_not] at h5
   have hi : i + 1 = P.length := by omega
   rw [runs_end _ P acc i hi] at hinv
   rw [← hinv]
   refine awp_frz 12 k2 2 (xs := acc.map encW2) (by rw [hla]; rfl) hTq (fun y hy => by obtain ⟨x, _, rfl⟩ := List.mem_map.1 hy; rfl) ?_
   (repeat (first | refine gO rfl ?_ | ((first | refine gM zM30 ?_ | (with_reducible refine wM ?_ ?_) | ((with_reducible refine xS ?_); refine uD 14 zM30 zPIE zPIP 96 rfl (by kernel_rfl) ?_) | ((with_reducible refine xS ?_); refine uD 16 zM30 zPJE zPJP 96 rfl (by kernel_rfl) ?_) | ((with_reducible refine xR ?_); refine uE 18 zM30 zPKE zPKP 96 rfl (by kernel_rfl) ?_)) <;> ((try with_reducible intro K1 hK1); simp only [go_sem, ↓reduceIte, reduceCtorEq, nA, nB, nC, nD, nE, nF] <;> and_intros <;> first | (apply hK1; clear hK1 K1) | (intros; first | omega | decide) | skip))))
   simp only [Tryz.results24, go_sem, ↓reduceIte, reduceCtorEq, nA, nB, nC, nD, nE, nF]
   refine ⟨_, h, Weak.refl _, ⟨fun _ => .inr rfl, fun t => ?_⟩, rfl, rfl⟩
   refine .inr ?_
   show h.T t = _
   simp only [upd_upd]
   rw [upd_back hk2]
abbrev zPLE : List Nat := [0, 1, 2, 3, 4, 5, 6, 7, 8, 9, 10, 11, 12]
abbrev zPLP : List (Nat × List Nat × List Nat) := []
abbrev zPME : List Nat := [0, 1, 2, 3, 4, 5, 6, 7, 8, 9, 10, 11, 12, 13, 14, 15, 16, 17]
abbrev zPMP : List (Nat × List Nat × List Nat) := [(18, [], [19])]
attribute [go_sem] zPLE zPLP zPME zPMP
abbrev zPNE : List Nat := [0, 1, 2, 3, 4, 5, 6, 7, 8, 9, 10, 11, 12]
abbrev zPNP : List (Nat × List Nat × List Nat) := []
abbrev zPOE : List Nat := [0, 1, 2, 3, 4, 5, 6, 7, 8, 9, 10, 11, 12]
abbrev zPOP : List (Nat × List Nat × List Nat) := []
attribute [go_sem] zPNE zPNP zPOE zPOP
def plF : List Gu → Option ByteArray → Int
 | [], _ => 0
 | p :: l, q => if guF p = 0 then (if notAft p.key q = true then 7 else plF l (some p.key)) else guF p
theorem g_playersFA (ps : List Gu) (hl : ps.length ≤ 400) (hok : ∀ p ∈ ps, GuOk p) (h : Hp) : ACalls Tryz.prog 86 [.row 4 (ps.map encGu) none] h (fun r h' => r = .v (.int .i64 (plF ps none)) ∧ h' = h) := by
 have hml : (ps.map encGu).length = ps.length := List.length_map _
 refine gE Tryz.func86 rfl (by kernel_rfl) 34 rfl fun c => ?_
 (repeat (first | refine gO rfl ?_ | ((first | refine gM zM31 ?_ | (with_reducible refine wM ?_ ?_) | ((with_reducible refine xS ?_); refine uD 9 zM31 zPNE zPNP 35 rfl (by kernel_rfl) ?_)) <;> ((try with_reducible intro K1 hK1); simp only [go_sem, ↓reduceIte, reduceCtorEq, nA, nB, nC, nD, nE, nF, hml] <;> and_intros <;> first | (apply hK1; clear hK1 K1) | (intros; first | omega | decide) | skip))))
 refine awp_cond (t := _) rfl (fun h5 => absurd (of_decide_eq_true h5) (by omega)) (fun _ => ?_)
 (repeat (first | refine gO rfl ?_ | ((first | refine gM zM31 ?_ | (with_reducible refine wM ?_ ?_) | ((with_reducible refine xS ?_); refine uD 9 zM31 zPNE zPNP 35 rfl (by kernel_rfl) ?_)) <;> ((try with_reducible intro K1 hK1); simp only [go_sem, ↓reduceIte, reduceCtorEq, nA, nB, nC, nD, nE, nF, hml] <;> and_intros <;> first | (apply hK1; clear hK1 K1) | (intros; first | omega | decide) | skip))))
 refine awp_loopC (rl false [0, 1, 8, 3, 23]) 0 (fun g s => ∃ (j : Nat) (q : Option ByteArray), g + j = ps.length ∧ (j = 0 ∧ q = none ∨ ∃ p', 0 < j ∧ ps[j - 1]? = some p' ∧ q = some p'.key) ∧ plF (ps.drop j) q = plF ps none ∧
  s = ⟨((.row 4 (ps.map encGu) none) :: (jnk 8 ((.row 4 (ps.map encGu) none) :: (.v (.int .i64 ps.length)) :: (.v (.int .i64 j)) :: (jnk 23 [])))), [], h⟩) ps.length ⟨0, none, by omega, .inl ⟨rfl, rfl⟩, rfl, rfl⟩ ?_
 rintro g _ ⟨j, q, hj, hq, hinv, rfl⟩
 (repeat (first | refine gO rfl ?_ | ((first | refine gM zM31 ?_ | (with_reducible refine wM ?_ ?_) | ((with_reducible refine xS ?_); refine uD 9 zM31 zPNE zPNP 35 rfl (by kernel_rfl) ?_)) <;> ((try with_reducible intro K1 hK1); simp only [go_sem, ↓reduceIte, reduceCtorEq, nA, nB, nC, nD, nE, nF] <;> and_intros <;> first | (apply hK1; clear hK1 K1) | (intros; first | omega | decide) | skip))))
 refine awp_cond (t := _) rfl (fun h5 => ?_) (fun h5 => ?_)
 ·simp only [decide_eq_true_eq] at h5
  have hjl : j < ps.length := by omega
  have hje : ps[j]? = some ps[j] := List.getElem?_eq_getElem hjl
  have gx : (ps.map encGu).getD j [] = encGu ps[j] := by rw [List.getD_eq_getElem?_getD, List.getElem?_map, hje]; rfl
  have hpo := hok _ (List.getElem_mem hjl)
  rw [List.drop_eq_getElem_cons hjl, plF] at hinv
  generalize ps[j] = p at *
  have hP := g_playerF p hpo h
  obtain ⟨key, scr, zone, tags⟩ := p
  rw [show encGu ⟨key, scr, zone, tags⟩ = [.v (.string key), .v (.string scr), .v (.int .i64 zone), .row 1 (tags.map encS) none] from rfl] at gx hP
  obtain ⟨hk1, _, _, ⟨h4, _⟩⟩ := hpo
  simp only at hk1 h4 hinv
  generalize guF ⟨key, scr, zone, tags⟩ = e at *
  (repeat (first | refine gO rfl ?_ | ((first | refine gM zM31 ?_ | (with_reducible refine wM ?_ ?_) | ((with_reducible refine xS ?_); refine uD 9 zM31 zPNE zPNP 35 rfl (by kernel_rfl) ?_)) <;> ((try with_reducible intro K1 hK1); simp only [go_sem, ↓reduceIte, reduceCtorEq, nA, nB, nC, nD, nE, nF, hml, Int.toNat_natCast, gx] <;> and_intros <;> first | (apply hK1; clear hK1 K1) | (intros; first | omega | decide) | skip))))
  refine hP.mono ?_; rintro _ hz ⟨rfl, hh⟩; apply hK1; clear hK1 K1; rw [hh]; clear hh hz
  (repeat (first | refine gO rfl ?_ | ((first | refine gM zM31 ?_ | (with_reducible refine wM ?_ ?_) | ((with_reducible refine xS ?_); refine uD 9 zM31 zPNE zPNP 35 rfl (by kernel_rfl) ?_)) <;> ((try with_reducible intro K1 hK1); simp only [go_sem, ↓reduceIte, reduceCtorEq, nA, nB, nC, nD, nE, nF] <;> and_intros <;> first | (apply hK1; clear hK1 K1) | (intros; first | omega | decide) | skip))))
  by_cases he : e = 0
  ·rw [if_pos he] at hinv
   have hb : (e != 0) = false := by simpa using he
   (repeat (first | refine gO rfl ?_ | ((first | refine gM zM31 ?_ | (with_reducible refine wM ?_ ?_) | ((with_reducible refine xS ?_); refine uD 9 zM31 zPNE zPNP 35 rfl (by kernel_rfl) ?_)) <;> ((try with_reducible intro K1 hK1); simp only [go_sem, ↓reduceIte, reduceCtorEq, nA, nB, nC, nD, nE, nF, hb] <;> and_intros <;> first | (apply hK1; clear hK1 K1) | (intros; first | omega | decide) | skip))))
   refine awp_cond (t := _) rfl (fun h6 => by cases h6.symm.trans hb) (fun _ => ?_)
   rcases hq with ⟨rfl, rfl⟩ | ⟨p', h0, hp', rfl⟩
   ·have d0 : decide ((0 : Int) < ((0 : Nat) : Int)) = false := rfl
    have d1 : (((0 : Nat) : Int) - 1).toNat = 0 := rfl
    (repeat (first | refine gO rfl ?_ | ((first | refine gM zM31 ?_ | (with_reducible refine wM ?_ ?_) | ((with_reducible refine xS ?_); refine uD 9 zM31 zPNE zPNP 35 rfl (by kernel_rfl) ?_)) <;> ((try with_reducible intro K1 hK1); simp only [go_sem, ↓reduceIte, reduceCtorEq, nA, nB, nC, nD, nE, nF, hml, d0, d1, gx] <;> and_intros <;> first | (apply hK1; clear hK1 K1) | (intros; first | omega | decide) | skip))))
    refine awp_cond (t := _) rfl (fun h6 => by cases h6) (fun _ => ?_)
    (repeat (first | refine gO rfl ?_ | ((first | refine gM zM31 ?_ | (with_reducible refine wM ?_ ?_) | ((with_reducible refine xS ?_); refine uD 9 zM31 zPNE zPNP 35 rfl (by kernel_rfl) ?_)) <;> ((try with_reducible intro K1 hK1); simp only [go_sem, ↓reduceIte, reduceCtorEq, nA, nB, nC, nD, nE, nF] <;> and_intros <;> first | (apply hK1; clear hK1 K1) | (intros; first | omega | decide) | skip))))
    exact ⟨g - 1, by omega, 1, some key, by omega, .inr ⟨_, by omega, hje, rfl⟩, hinv, rfl⟩
   ·have d0 : decide ((0 : Int) < (j : Int)) = true := decide_eq_true (by omega)
    obtain ⟨m, rfl⟩ : ∃ m, j = m + 1 := ⟨j - 1, by omega⟩
    have d1 : (((m + 1 : Nat) : Int) - 1).toNat = m := by omega
    rw [Nat.add_sub_cancel] at hp'
    have gp : (ps.map encGu).getD m [] = encGu p' := by rw [List.getD_eq_getElem?_getD, List.getElem?_map, hp']; rfl
    rw [show encGu p' = [.v (.string p'.key), .v (.string p'.scr), .v (.int .i64 p'.zone), .row 1 (p'.tags.map encS) none] from rfl] at gp
    (repeat (first | refine gO rfl ?_ | ((first | refine gM zM31 ?_ | (with_reducible refine wM ?_ ?_) | ((with_reducible refine xS ?_); refine uD 9 zM31 zPNE zPNP 35 rfl (by kernel_rfl) ?_)) <;> ((try with_reducible intro K1 hK1); simp only [go_sem, ↓reduceIte, reduceCtorEq, nA, nB, nC, nD, nE, nF, hml, d0, d1, gp] <;> and_intros <;> first | (apply hK1; clear hK1 K1) | (intros; first | omega | decide) | skip))))
    have hna : notAft key (some p'.key) = (Op.bytesLess key.toList p'.key.toList || key == p'.key) := rfl
    rw [hna] at hinv
    refine awp_cond (t := _) rfl (fun h6 => ?_) (fun h6 => ?_)
    ·rw [if_pos h6] at hinv
     (repeat (first | refine gO rfl ?_ | ((first | refine gM zM31 ?_ | (with_reducible refine wM ?_ ?_) | ((with_reducible refine xS ?_); refine uD 9 zM31 zPNE zPNP 35 rfl (by kernel_rfl) ?_)) <;> ((try with_reducible intro K1 hK1); simp only [go_sem, ↓reduceIte, reduceCtorEq, nA, nB, nC, nD, nE, nF] <;> and_intros <;> first | (apply hK1; clear hK1 K1) | (intros; first | omega | decide) | skip))))
     simp only [Tryz.results86, go_sem, ↓reduceIte, reduceCtorEq, nA, nB, nC, nD, nE, nF]
     exact ⟨_, _, Weak.refl _, Hp.le.refl _, by rw [← hinv], rfl⟩
    ·rw [if_neg (by rw [h6]; decide)] at hinv
     (repeat (first | refine gO rfl ?_ | ((first | refine gM zM31 ?_ | (with_reducible refine wM ?_ ?_) | ((with_reducible refine xS ?_); refine uD 9 zM31 zPNE zPNP 35 rfl (by kernel_rfl) ?_)) <;> ((try with_reducible intro K1 hK1); simp only [go_sem, ↓reduceIte, reduceCtorEq, nA, nB, nC, nD, nE, nF] <;> and_intros <;> first | (apply hK1; clear hK1 K1) | (intros; first | omega | decide) | skip))))
     exact ⟨g - 1, by omega, m + 1 + 1, some key, by omega, .inr ⟨_, by omega, hje, rfl⟩, hinv, rfl⟩
  ·rw [if_neg he] at hinv
   have hb : (e != 0) = true := by simpa using he
   (repeat (first | refine gO rfl ?_ | ((first | refine gM zM31 ?_ | (with_reducible refine wM ?_ ?_) | ((with_reducible refine xS ?_); refine uD 9 zM31 zPNE zPNP 35 rfl (by kernel_rfl) ?_)) <;> ((try with_reducible intro K1 hK1); simp only [go_sem, ↓reduceIte, reduceCtorEq, nA, nB, nC, nD, nE, nF, hb] <;> and_intros <;> first | (apply hK1; clear hK1 K1) | (intros; first | omega | decide) | skip))))
   refine awp_cond (t := _) rfl (fun _ => ?_) (fun h6 => by cases h6.symm.trans hb)
   (repeat (first | refine gO rfl ?_ | ((first | refine gM zM31 ?_ | (with_reducible refine wM ?_ ?_) | ((with_reducible refine xS ?_); refine uD 9 zM31 zPNE zPNP 35 rfl (by kernel_rfl) ?_)) <;> ((try with_reducible intro K1 hK1); simp only [go_sem, ↓reduceIte, reduceCtorEq, nA, nB, nC, nD, nE, nF] <;> and_intros <;> first | (apply hK1; clear hK1 K1) | (intros; first | omega | decide) | skip))))
   simp only [Tryz.results86, go_sem, ↓reduceIte, reduceCtorEq, nA, nB, nC, nD, nE, nF]
   exact ⟨_, _, Weak.refl _, Hp.le.refl _, by rw [← hinv], rfl⟩
 ·simp only [decide_eq_false_iff_not] at h5
  have hjl : j = ps.length := by omega
  subst hjl
  rw [List.drop_length, plF] at hinv
  (repeat (first | refine gO rfl ?_ | ((first | refine gM zM31 ?_ | (with_reducible refine wM ?_ ?_) | ((with_reducible refine xS ?_); refine uD 9 zM31 zPNE zPNP 35 rfl (by kernel_rfl) ?_)) <;> ((try with_reducible intro K1 hK1); simp only [go_sem, ↓reduceIte, reduceCtorEq, nA, nB, nC, nD, nE, nF] <;> and_intros <;> first | (apply hK1; clear hK1 K1) | (intros; first | omega | decide) | skip))))
  simp only [Tryz.results86, go_sem, ↓reduceIte, reduceCtorEq, nA, nB, nC, nD, nE, nF]
  exact ⟨_, _, Weak.refl _, Hp.le.refl _, by rw [← hinv], rfl⟩
theorem g_playersFR (ps : List Gu) (hl : ps.length ≤ 400) (hok : ∀ p ∈ ps, GuOk p) (h : Hp) : ACalls Tryz.prog 34 [.row 4 (ps.map encGu) none] h (fun r h' => r = .v (.int .i64 (plF ps none)) ∧ h' = h) := by
 have hml : (ps.map encGu).length = ps.length := List.length_map _
 refine gE Tryz.func34 rfl (by kernel_rfl) 34 rfl fun c => ?_
 (repeat (first | refine gO rfl ?_ | ((first | refine gM zM31 ?_ | (with_reducible refine wM ?_ ?_) | ((with_reducible refine xS ?_); refine uD 9 zM31 zPOE zPOP 35 rfl (by kernel_rfl) ?_)) <;> ((try with_reducible intro K1 hK1); simp only [go_sem, ↓reduceIte, reduceCtorEq, nA, nB, nC, nD, nE, nF, hml] <;> and_intros <;> first | (apply hK1; clear hK1 K1) | (intros; first | omega | decide) | skip))))
 refine awp_cond (t := _) rfl (fun h5 => absurd (of_decide_eq_true h5) (by omega)) (fun _ => ?_)
 (repeat (first | refine gO rfl ?_ | ((first | refine gM zM31 ?_ | (with_reducible refine wM ?_ ?_) | ((with_reducible refine xS ?_); refine uD 9 zM31 zPOE zPOP 35 rfl (by kernel_rfl) ?_)) <;> ((try with_reducible intro K1 hK1); simp only [go_sem, ↓reduceIte, reduceCtorEq, nA, nB, nC, nD, nE, nF, hml] <;> and_intros <;> first | (apply hK1; clear hK1 K1) | (intros; first | omega | decide) | skip))))
 refine awp_loopC (rl false [0, 1, 8, 3, 23]) 0 (fun g s => ∃ (j : Nat) (q : Option ByteArray), g + j = ps.length ∧ (j = 0 ∧ q = none ∨ ∃ p', 0 < j ∧ ps[j - 1]? = some p' ∧ q = some p'.key) ∧ plF (ps.drop j) q = plF ps none ∧
  s = ⟨((.row 4 (ps.map encGu) none) :: (jnk 8 ((.row 4 (ps.map encGu) none) :: (.v (.int .i64 ps.length)) :: (.v (.int .i64 j)) :: (jnk 23 [])))), [], h⟩) ps.length ⟨0, none, by omega, .inl ⟨rfl, rfl⟩, rfl, rfl⟩ ?_
 rintro g _ ⟨j, q, hj, hq, hinv, rfl⟩
 (repeat (first | refine gO rfl ?_ | ((first | refine gM zM31 ?_ | (with_reducible refine wM ?_ ?_) | ((with_reducible refine xS ?_); refine uD 9 zM31 zPOE zPOP 35 rfl (by kernel_rfl) ?_)) <;> ((try with_reducible intro K1 hK1); simp only [go_sem, ↓reduceIte, reduceCtorEq, nA, nB, nC, nD, nE, nF] <;> and_intros <;> first | (apply hK1; clear hK1 K1) | (intros; first | omega | decide) | skip))))
 refine awp_cond (t := _) rfl (fun h5 => ?_) (fun h5 => ?_)
 ·simp only [decide_eq_true_eq] at h5
  have hjl : j < ps.length := by omega
  have hje : ps[j]? = some ps[j] := List.getElem?_eq_getElem hjl
  have gx : (ps.map encGu).getD j [] = encGu ps[j] := by rw [List.getD_eq_getElem?_getD, List.getElem?_map, hje]; rfl
  have hpo := hok _ (List.getElem_mem hjl)
  rw [List.drop_eq_getElem_cons hjl, plF] at hinv
  generalize ps[j] = p at *
  have hP := g_playerR p hpo h
  obtain ⟨key, scr, zone, tags⟩ := p
  rw [show encGu ⟨key, scr, zone, tags⟩ = [.v (.string key), .v (.string scr), .v (.int .i64 zone), .row 1 (tags.map encS) none] from rfl] at gx hP
  obtain ⟨hk1, _, _, ⟨h4, _⟩⟩ := hpo
  simp only at hk1 h4 hinv
  generalize guF ⟨key, scr, zone, tags⟩ = e at *
  (repeat (first | refine gO rfl ?_ | ((first | refine gM zM31 ?_ | (with_reducible refine wM ?_ ?_) | ((with_reducible refine xS ?_); refine uD 9 zM31 zPOE zPOP 35 rfl (by kernel_rfl) ?_)) <;> ((try with_reducible intro K1 hK1); simp only [go_sem, ↓reduceIte, reduceCtorEq, nA, nB, nC, nD, nE, nF, hml, Int.toNat_natCast, gx] <;> and_intros <;> first | (apply hK1; clear hK1 K1) | (intros; first | omega | decide) | skip))))
  refine hP.mono ?_; rintro _ hz ⟨rfl, hh⟩; apply hK1; clear hK1 K1; rw [hh]; clear hh hz
  (repeat (first | refine gO rfl ?_ | ((first | refine gM zM31 ?_ | (with_reducible refine wM ?_ ?_) | ((with_reducible refine xS ?_); refine uD 9 zM31 zPOE zPOP 35 rfl (by kernel_rfl) ?_)) <;> ((try with_reducible intro K1 hK1); simp only [go_sem, ↓reduceIte, reduceCtorEq, nA, nB, nC, nD, nE, nF] <;> and_intros <;> first | (apply hK1; clear hK1 K1) | (intros; first | omega | decide) | skip))))
  by_cases he : e = 0
  ·rw [if_pos he] at hinv
   have hb : (e != 0) = false := by simpa using he
   (repeat (first | refine gO rfl ?_ | ((first | refine gM zM31 ?_ | (with_reducible refine wM ?_ ?_) | ((with_reducible refine xS ?_); refine uD 9 zM31 zPOE zPOP 35 rfl (by kernel_rfl) ?_)) <;> ((try with_reducible intro K1 hK1); simp only [go_sem, ↓reduceIte, reduceCtorEq, nA, nB, nC, nD, nE, nF, hb] <;> and_intros <;> first | (apply hK1; clear hK1 K1) | (intros; first | omega | decide) | skip))))
   refine awp_cond (t := _) rfl (fun h6 => by cases h6.symm.trans hb) (fun _ => ?_)
   rcases hq with ⟨rfl, rfl⟩ | ⟨p', h0, hp', rfl⟩
   ·have d0 : decide ((0 : Int) < ((0 : Nat) : Int)) = false := rfl
    have d1 : (((0 : Nat) : Int) - 1).toNat = 0 := rfl
    (repeat (first | refine gO rfl ?_ | ((first | refine gM zM31 ?_ | (with_reducible refine wM ?_ ?_) | ((with_reducible refine xS ?_); refine uD 9 zM31 zPOE zPOP 35 rfl (by kernel_rfl) ?_)) <;> ((try with_reducible intro K1 hK1); simp only [go_sem, ↓reduceIte, reduceCtorEq, nA, nB, nC, nD, nE, nF, hml, d0, d1, gx] <;> and_intros <;> first | (apply hK1; clear hK1 K1) | (intros; first | omega | decide) | skip))))
    refine awp_cond (t := _) rfl (fun h6 => by cases h6) (fun _ => ?_)
    (repeat (first | refine gO rfl ?_ | ((first | refine gM zM31 ?_ | (with_reducible refine wM ?_ ?_) | ((with_reducible refine xS ?_); refine uD 9 zM31 zPOE zPOP 35 rfl (by kernel_rfl) ?_)) <;> ((try with_reducible intro K1 hK1); simp only [go_sem, ↓reduceIte, reduceCtorEq, nA, nB, nC, nD, nE, nF] <;> and_intros <;> first | (apply hK1; clear hK1 K1) | (intros; first | omega | decide) | skip))))
    exact ⟨g - 1, by omega, 1, some key, by omega, .inr ⟨_, by omega, hje, rfl⟩, hinv, rfl⟩
   ·have d0 : decide ((0 : Int) < (j : Int)) = true := decide_eq_true (by omega)
    obtain ⟨m, rfl⟩ : ∃ m, j = m + 1 := ⟨j - 1, by omega⟩
    have d1 : (((m + 1 : Nat) : Int) - 1).toNat = m := by omega
    rw [Nat.add_sub_cancel] at hp'
    have gp : (ps.map encGu).getD m [] = encGu p' := by rw [List.getD_eq_getElem?_getD, List.getElem?_map, hp']; rfl
    rw [show encGu p' = [.v (.string p'.key), .v (.string p'.scr), .v (.int .i64 p'.zone), .row 1 (p'.tags.map encS) none] from rfl] at gp
    (repeat (first | refine gO rfl ?_ | ((first | refine gM zM31 ?_ | (with_reducible refine wM ?_ ?_) | ((with_reducible refine xS ?_); refine uD 9 zM31 zPOE zPOP 35 rfl (by kernel_rfl) ?_)) <;> ((try with_reducible intro K1 hK1); simp only [go_sem, ↓reduceIte, reduceCtorEq, nA, nB, nC, nD, nE, nF, hml, d0, d1, gp] <;> and_intros <;> first | (apply hK1; clear hK1 K1) | (intros; first | omega | decide) | skip))))
    have hna : notAft key (some p'.key) = (Op.bytesLess key.toList p'.key.toList || key == p'.key) := rfl
    rw [hna] at hinv
    refine awp_cond (t := _) rfl (fun h6 => ?_) (fun h6 => ?_)
    ·rw [if_pos h6] at hinv
     (repeat (first | refine gO rfl ?_ | ((first | refine gM zM31 ?_ | (with_reducible refine wM ?_ ?_) | ((with_reducible refine xS ?_); refine uD 9 zM31 zPOE zPOP 35 rfl (by kernel_rfl) ?_)) <;> ((try with_reducible intro K1 hK1); simp only [go_sem, ↓reduceIte, reduceCtorEq, nA, nB, nC, nD, nE, nF] <;> and_intros <;> first | (apply hK1; clear hK1 K1) | (intros; first | omega | decide) | skip))))
     simp only [Tryz.results34, go_sem, ↓reduceIte, reduceCtorEq, nA, nB, nC, nD, nE, nF]
     exact ⟨_, _, Weak.refl _, Hp.le.refl _, by rw [← hinv], rfl⟩
    ·rw [if_neg (by rw [h6]; decide)] at hinv
     (repeat (first | refine gO rfl ?_ | ((first | refine gM zM31 ?_ | (with_reducible refine wM ?_ ?_) | ((with_reducible refine xS ?_); refine uD 9 zM31 zPOE zPOP 35 rfl (by kernel_rfl) ?_)) <;> ((try with_reducible intro K1 hK1); simp only [go_sem, ↓reduceIte, reduceCtorEq, nA, nB, nC, nD, nE, nF] <;> and_intros <;> first | (apply hK1; clear hK1 K1) | (intros; first | omega | decide) | skip))))
     exact ⟨g - 1, by omega, m + 1 + 1, some key, by omega, .inr ⟨_, by omega, hje, rfl⟩, hinv, rfl⟩
  ·rw [if_neg he] at hinv
   have hb : (e != 0) = true := by simpa using he
   (repeat (first | refine gO rfl ?_ | ((first | refine gM zM31 ?_ | (with_reducible refine wM ?_ ?_) | ((with_reducible refine xS ?_); refine uD 9 zM31 zPOE zPOP 35 rfl (by kernel_rfl) ?_)) <;> ((try with_reducible intro K1 hK1); simp only [go_sem, ↓reduceIte, reduceCtorEq, nA, nB, nC, nD, nE, nF, hb] <;> and_intros <;> first | (apply hK1; clear hK1 K1) | (intros; first | omega | decide) | skip))))
   refine awp_cond (t := _) rfl (fun _ => ?_) (fun h6 => by cases h6.symm.trans hb)
   (repeat (first | refine gO rfl ?_ | ((first | refine gM zM31 ?_ | (with_reducible refine wM ?_ ?_) | ((with_reducible refine xS ?_); refine uD 9 zM31 zPOE zPOP 35 rfl (by kernel_rfl) ?_)) <;> ((try with_reducible intro K1 hK1); simp only [go_sem, ↓reduceIte, reduceCtorEq, nA, nB, nC, nD, nE, nF] <;> and_intros <;> first | (apply hK1; clear hK1 K1) | (intros; first | omega | decide) | skip))))
   simp only [Tryz.results34, go_sem, ↓reduceIte, reduceCtorEq, nA, nB, nC, nD, nE, nF]
   exact ⟨_, _, Weak.refl _, Hp.le.refl _, by rw [← hinv], rfl⟩
 ·simp only [decide_eq_false_iff_not] at h5
  have hjl : j = ps.length := by omega
  subst hjl
  rw [List.drop_length, plF] at hinv
  (repeat (first | refine gO rfl ?_ | ((first | refine gM zM31 ?_ | (with_reducible refine wM ?_ ?_) | ((with_reducible refine xS ?_); refine uD 9 zM31 zPOE zPOP 35 rfl (by kernel_rfl) ?_)) <;> ((try with_reducible intro K1 hK1); simp only [go_sem, ↓reduceIte, reduceCtorEq, nA, nB, nC, nD, nE, nF] <;> and_intros <;> first | (apply hK1; clear hK1 K1) | (intros; first | omega | decide) | skip))))
  simp only [Tryz.results34, go_sem, ↓reduceIte, reduceCtorEq, nA, nB, nC, nD, nE, nF]
  exact ⟨_, _, Weak.refl _, Hp.le.refl _, by rw [← hinv], rfl⟩
def whoI : List Gu → ByteArray → Nat → Int
 | [], _, _ => -1
 | p :: l, key, j => if p.key = key then (j : Int) else whoI l key (j + 1)
theorem g_plC (key : ByteArray) (p : Gu) (q : Nat) (h : Hp) (hq : h.H q = some (.cells [.v (.string key)])) : ACalls Tryz.prog 129 [.agg (encGu p), .ptr q 0] h (fun r h' => r = .v (.bool (decide (p.key = key))) ∧ h' = h) := by
 rw [show encGu p = [.v (.string p.key), .v (.string p.scr), .v (.int .i64 p.zone), .row 1 (p.tags.map encS) none] from rfl]
 refine gE Tryz.func129 rfl (by kernel_rfl) 6 rfl fun c => ?_
 (repeat (first | refine gO rfl ?_ | (refine gR fun K1 hK1 => ?_; simp only [go_sem, ↓reduceIte, reduceCtorEq, nA, nB, nC, nD, nE, nF, hq] <;> and_intros <;> first | (apply hK1; clear hK1 K1) | (intros; first | omega | decide) | skip)))
 simp only [Tryz.results129, go_sem, ↓reduceIte, reduceCtorEq, nA, nB, nC, nD, nE, nF]
 exact ⟨_, _, Weak.refl _, Hp.le.refl _, by rw [ba_beq], rfl⟩
theorem g_idxPl (key : ByteArray) (fid : Nat) (caps : List AV) (ps : List Gu) (hl : ps.length ≤ 1000) (h : Hp) (hC : ∀ p, ACalls Tryz.prog fid (.agg (encGu p) :: caps) h (fun r h' => r = .v (.bool (decide (p.key = key))) ∧ h' = h)) :
  ACalls Tryz.prog 128 [.row 4 (ps.map encGu) none, .fn fid caps] h (fun r h' => r = .v (.int .i64 (whoI ps key 0)) ∧ h' = h) := by
 have hml : (ps.map encGu).length = ps.length := List.length_map _
 refine gE Tryz.func128 rfl (by kernel_rfl) 17 rfl fun c => ?_
 (repeat (first | refine gO rfl ?_ | (refine gR fun K1 hK1 => ?_; simp only [go_sem, ↓reduceIte, reduceCtorEq, nA, nB, nC, nD, nE, nF, hml] <;> and_intros <;> first | (apply hK1; clear hK1 K1) | (intros; first | omega | decide) | skip)))
 refine awp_loopC (rl false [0, 2, 5, 2, 10]) 0 (fun g s => ∃ (j : Nat), g + j = ps.length ∧ whoI (ps.drop j) key j = whoI ps key 0 ∧
  s = ⟨((.row 4 (ps.map encGu) none) :: (.fn fid caps) :: (jnk 5 ((.v (.int .i64 ps.length)) :: (.v (.int .i64 j)) :: (jnk 10 [])))), [], h⟩) ps.length ⟨0, by omega, rfl, rfl⟩ ?_
 rintro g _ ⟨j, hj, hinv, rfl⟩
 (repeat (first | refine gO rfl ?_ | (refine gR fun K1 hK1 => ?_; simp only [go_sem, ↓reduceIte, reduceCtorEq, nA, nB, nC, nD, nE, nF] <;> and_intros <;> first | (apply hK1; clear hK1 K1) | (intros; first | omega | decide) | skip)))
 refine awp_cond (t := _) rfl (fun h5 => ?_) (fun h5 => ?_)
 ·simp only [decide_eq_true_eq] at h5
  have hjl : j < ps.length := by omega
  have gx : (ps.map encGu).getD j [] = encGu ps[j] := by rw [List.getD_eq_getElem?_getD, List.getElem?_map, List.getElem?_eq_getElem hjl]; rfl
  rw [List.drop_eq_getElem_cons hjl, whoI] at hinv
  generalize ps[j] = p at *
  have hCp := hC p
  rw [show encGu p = [.v (.string p.key), .v (.string p.scr), .v (.int .i64 p.zone), .row 1 (p.tags.map encS) none] from rfl] at gx hCp
  (repeat (first | refine gO rfl ?_ | (refine gR fun K1 hK1 => ?_; simp only [go_sem, ↓reduceIte, reduceCtorEq, nA, nB, nC, nD, nE, nF, hml, Int.toNat_natCast, gx] <;> and_intros <;> first | (apply hK1; clear hK1 K1) | (intros; first | omega | decide) | skip)))
  refine hCp.mono ?_; rintro _ hz ⟨rfl, hh⟩; apply hK1; clear hK1 K1; rw [hh]; clear hh hz
  (repeat (first | refine gO rfl ?_ | (refine gR fun K1 hK1 => ?_; simp only [go_sem, ↓reduceIte, reduceCtorEq, nA, nB, nC, nD, nE, nF] <;> and_intros <;> first | (apply hK1; clear hK1 K1) | (intros; first | omega | decide) | skip)))
  refine awp_cond (t := _) rfl (fun h6 => ?_) (fun h6 => ?_)
  ·rw [if_pos (of_decide_eq_true h6)] at hinv
   (repeat (first | refine gO rfl ?_ | (refine gR fun K1 hK1 => ?_; simp only [go_sem, ↓reduceIte, reduceCtorEq, nA, nB, nC, nD, nE, nF] <;> and_intros <;> first | (apply hK1; clear hK1 K1) | (intros; first | omega | decide) | skip)))
   simp only [Tryz.results128, go_sem, ↓reduceIte, reduceCtorEq, nA, nB, nC, nD, nE, nF]
   exact ⟨_, _, Weak.refl _, Hp.le.refl _, by rw [← hinv], rfl⟩
  ·rw [if_neg (of_decide_eq_false h6)] at hinv
   (repeat (first | refine gO rfl ?_ | (refine gR fun K1 hK1 => ?_; simp only [go_sem, ↓reduceIte, reduceCtorEq, nA, nB, nC, nD, nE, nF] <;> and_intros <;> first | (apply hK1; clear hK1 K1) | (intros; first | omega | decide) | skip)))
   exact ⟨g - 1, by omega, j + 1, by omega, hinv, rfl⟩
 ·simp only [decide_eq_false_iff_not] at h5
  have hjl : j = ps.length := by omega
  subst hjl
  rw [List.drop_length, whoI] at hinv
  (repeat (first | refine gO rfl ?_ | (refine gR fun K1 hK1 => ?_; simp only [go_sem, ↓reduceIte, reduceCtorEq, nA, nB, nC, nD, nE, nF] <;> and_intros <;> first | (apply hK1; clear hK1 K1) | (intros; first | omega | decide) | skip)))
  simp only [Tryz.results128, go_sem, ↓reduceIte, reduceCtorEq, nA, nB, nC, nD, nE, nF]
  exact ⟨_, _, Weak.refl _, Hp.le.refl _, by rw [← hinv], rfl⟩
theorem g_playerAt (ps : List Gu) (key : ByteArray) (hl : ps.length ≤ 1000) (h : Hp) :
  ACalls Tryz.prog 89 [.row 4 (ps.map encGu) none, .v (.string key)] h (fun r h' => r = .v (.int .i64 (whoI ps key 0)) ∧ h' = h) := by
 refine gE Tryz.func89 rfl (by kernel_rfl) 6 rfl fun c => ?_
 (repeat (first | refine gO rfl ?_ | (refine gM zM32 fun K1 hK1 => ?_; simp only [go_sem, ↓reduceIte, reduceCtorEq, nA, nB, nC, nD, nE, nF] <;> and_intros <;> first | (apply hK1; clear hK1 K1) | (intros; first | omega | decide) | skip)))
 intro q hq
 refine hK1 _ ?_; clear hK1 K1
 (repeat (first | refine gO rfl ?_ | (refine gM zM32 fun K1 hK1 => ?_; simp only [go_sem, ↓reduceIte, reduceCtorEq, nA, nB, nC, nD, nE, nF] <;> and_intros <;> first | (apply hK1; clear hK1 K1) | (intros; first | omega | decide) | skip)))
 refine (g_idxPl key _ _ ps hl _ fun p => g_plC key p q _ (upd_same _ _ _)).mono ?_; rintro _ hz ⟨rfl, hh⟩; apply hK1; clear hK1 K1; rw [hh]; clear hh hz
 (repeat (first | refine gO rfl ?_ | (refine gM zM32 fun K1 hK1 => ?_; simp only [go_sem, ↓reduceIte, reduceCtorEq, nA, nB, nC, nD, nE, nF] <;> and_intros <;> first | (apply hK1; clear hK1 K1) | (intros; first | omega | decide) | skip)))
 simp only [Tryz.results89, go_sem, ↓reduceIte, reduceCtorEq, nA, nB, nC, nD, nE, nF]
 refine ⟨_, h, Weak.refl _, ⟨fun t => ?_, fun _ => .inr rfl⟩, rfl, rfl⟩
 by_cases e : t = q
 ·subst e; exact .inl hq
 ·exact .inr (by show h.H t = upd h.H q _ t; rw [upd_other _ _ e])
def scrS : ByteArray := ⟨#[115, 97]⟩
theorem scr_key : keyB scrS = true := by decide
theorem scr_sz : scrS.size ≤ 4 := by decide
theorem g_guest (i : Nat) (l : List Int) (a : Int) (key : ByteArray) (h : Hp) (hl : SOk l) (ha : 0 ≤ a ∧ a ≤ 100000) (hkey : key.size ≤ 4) :
  ACalls Tryz.prog 10 [.ptr i 0, .v (.string key)] (h.st i l a) (fun r h' => ∃ (p : Gu) (a' : Int), GuOk p ∧ (a ≤ a' ∧ a' ≤ a + 20) ∧ r = .agg (encGu p) ∧ h' = h.st i l a') := by
 refine gE Tryz.func10 rfl (by kernel_rfl) 27 rfl fun c => ?_
 (repeat (first | refine gO rfl ?_ | (refine gM zM33 fun K1 hK1 => ?_; simp only [go_sem, ↓reduceIte, reduceCtorEq, nA, nB, nC, nD, nE, nF] <;> and_intros <;> first | (apply hK1; clear hK1 K1) | (intros; first | omega | decide) | skip)))
 refine (g_pick i l a [0, 0, 60, -90] none _ hl (by omega) (by simp)).mono ?_; rintro _ _ ⟨x, hx, rfl, rfl⟩; apply hK1; clear hK1 K1
 (repeat (first | refine gO rfl ?_ | (refine gM zM33 fun K1 hK1 => ?_; simp only [go_sem, ↓reduceIte, reduceCtorEq, nA, nB, nC, nD, nE, nF] <;> and_intros <;> first | (apply hK1; clear hK1 K1) | (intros; first | omega | decide) | skip)))
 refine (g_tags i l (a + 1) _ hl (by omega)).mono ?_; rintro _ _ ⟨tg, htg, rfl, rfl⟩; apply hK1; clear hK1 K1
 have htk := tg_ok htg
 clear htg hx
 cases tg with
 | nil =>
  unfold encG
  (repeat (first | refine gO rfl ?_ | (refine gM zM33 fun K1 hK1 => ?_; simp only [go_sem, ↓reduceIte, reduceCtorEq, nA, nB, nC, nD, nE, nF] <;> and_intros <;> first | (apply hK1; clear hK1 K1) | (intros; first | omega | decide) | skip)))
  refine (g_flip i l (a + 1 + 1) 20 _ hl (by omega) (by omega)).mono ?_; rintro _ _ ⟨bb, rfl, rfl⟩; apply hK1; clear hK1 K1
  (repeat (first | refine gO rfl ?_ | (refine gM zM33 fun K1 hK1 => ?_; simp only [go_sem, ↓reduceIte, reduceCtorEq, nA, nB, nC, nD, nE, nF] <;> and_intros <;> first | (apply hK1; clear hK1 K1) | (intros; first | omega | decide) | skip)))
  cases bb with
  | false =>
   refine awp_cond (t := _) rfl (fun h9 => by cases h9) (fun _ => ?_)
   (repeat (first | refine gO rfl ?_ | (refine gM zM33 fun K1 hK1 => ?_; simp only [go_sem, ↓reduceIte, reduceCtorEq, nA, nB, nC, nD, nE, nF] <;> and_intros <;> first | (apply hK1; clear hK1 K1) | (intros; first | omega | decide) | skip)))
   simp only [Tryz.results10, go_sem, ↓reduceIte, reduceCtorEq, nA, nB, nC, nD, nE, nF]
   refine ⟨_, _, Weak.agg (WL.cons (Weak.refl _) (WL.cons (Weak.refl _) (WL.cons (Weak.refl _) (WL.cons (weakG []) WL.nil)))), Hp.le.refl _, ⟨key, scrS, x, []⟩, a + 1 + 1 + 1, ⟨hkey, scr_key, scr_sz, htk.1⟩, by omega, rfl, rfl⟩
  | true =>
   refine awp_cond (t := _) rfl (fun _ => ?_) (fun h9 => by cases h9)
   (repeat (first | refine gO rfl ?_ | (refine gM zM33 fun K1 hK1 => ?_; simp only [go_sem, ↓reduceIte, reduceCtorEq, nA, nB, nC, nD, nE, nF] <;> and_intros <;> first | (apply hK1; clear hK1 K1) | (intros; first | omega | decide) | skip)))
   refine (g_some i l (a + 1 + 1 + 1) [key, ⟨#[]⟩] none _ hl (by omega) (by simp)).mono ?_; rintro _ _ ⟨y1, hy1, rfl, rfl⟩; apply hK1; clear hK1 K1
   (repeat (first | refine gO rfl ?_ | (refine gM zM33 fun K1 hK1 => ?_; simp only [go_sem, ↓reduceIte, reduceCtorEq, nA, nB, nC, nD, nE, nF] <;> and_intros <;> first | (apply hK1; clear hK1 K1) | (intros; first | omega | decide) | skip)))
   refine (g_odd i l (a + 1 + 1 + 1 + 1) (-1440) 1440 _ hl (by omega) (by omega) (by omega) (by omega)).mono ?_
   rintro _ _ ⟨z, a2, hz, ha2, rfl, rfl⟩
   refine hK1 _ ?_; clear hK1 K1
   (repeat (first | refine gO rfl ?_ | (refine gM zM33 fun K1 hK1 => ?_; simp only [go_sem, ↓reduceIte, reduceCtorEq, nA, nB, nC, nD, nE, nF] <;> and_intros <;> first | (apply hK1; clear hK1 K1) | (intros; first | omega | decide) | skip)))
   refine (g_some i l a2 [⟨#[97]⟩, ⟨#[99]⟩] none _ hl (by omega) (by simp)).mono ?_; rintro _ _ ⟨y2, hy2, rfl, rfl⟩; apply hK1; clear hK1 K1
   (repeat (first | refine gO rfl ?_ | (refine gM zM33 fun K1 hK1 => ?_; simp only [go_sem, ↓reduceIte, reduceCtorEq, nA, nB, nC, nD, nE, nF] <;> and_intros <;> first | (apply hK1; clear hK1 K1) | (intros; first | omega | decide) | skip)))
   simp only [Tryz.results10, go_sem, ↓reduceIte, reduceCtorEq, nA, nB, nC, nD, nE, nF]
   refine ⟨_, _, Weak.refl _, Hp.le.refl _, ⟨y1, scrS, z, [⟨#[98]⟩, y2]⟩, a2 + 1, ⟨?_, scr_key, scr_sz, ⟨by show 2 ≤ 3; omega, ?_⟩⟩, by omega, rfl, rfl⟩
   ·simp only [List.mem_cons, List.not_mem_nil, or_false] at hy1
    rcases hy1 with rfl | rfl
    ·exact hkey
    ·show (⟨#[]⟩ : ByteArray).size ≤ 4; decide
   ·intro s hs
    simp only [List.mem_cons, List.not_mem_nil, or_false] at hy2 hs
    rcases hs with rfl | rfl
    ·decide
    ·rcases hy2 with rfl | rfl <;> decide
 | cons t0 tg =>
  unfold encG
  (repeat (first | refine gO rfl ?_ | (refine gM zM33 fun K1 hK1 => ?_; simp only [go_sem, ↓reduceIte, reduceCtorEq, nA, nB, nC, nD, nE, nF] <;> and_intros <;> first | (apply hK1; clear hK1 K1) | (intros; first | omega | decide) | skip)))
  refine (g_flip i l (a + 1 + 1) 20 _ hl (by omega) (by omega)).mono ?_; rintro _ _ ⟨bb, rfl, rfl⟩; apply hK1; clear hK1 K1
  (repeat (first | refine gO rfl ?_ | (refine gM zM33 fun K1 hK1 => ?_; simp only [go_sem, ↓reduceIte, reduceCtorEq, nA, nB, nC, nD, nE, nF] <;> and_intros <;> first | (apply hK1; clear hK1 K1) | (intros; first | omega | decide) | skip)))
  cases bb with
  | false =>
   refine awp_cond (t := _) rfl (fun h9 => by cases h9) (fun _ => ?_)
   (repeat (first | refine gO rfl ?_ | (refine gM zM33 fun K1 hK1 => ?_; simp only [go_sem, ↓reduceIte, reduceCtorEq, nA, nB, nC, nD, nE, nF] <;> and_intros <;> first | (apply hK1; clear hK1 K1) | (intros; first | omega | decide) | skip)))
   simp only [Tryz.results10, go_sem, ↓reduceIte, reduceCtorEq, nA, nB, nC, nD, nE, nF]
   refine ⟨_, _, Weak.agg (WL.cons (Weak.refl _) (WL.cons (Weak.refl _) (WL.cons (Weak.refl _) (WL.cons (weakG (t0 :: tg)) WL.nil)))), Hp.le.refl _, ⟨key, scrS, x, (t0 :: tg)⟩, a + 1 + 1 + 1, ⟨hkey, scr_key, scr_sz, htk.1⟩, by omega, rfl, rfl⟩
  | true =>
   refine awp_cond (t := _) rfl (fun _ => ?_) (fun h9 => by cases h9)
   (repeat (first | refine gO rfl ?_ | (refine gM zM33 fun K1 hK1 => ?_; simp only [go_sem, ↓reduceIte, reduceCtorEq, nA, nB, nC, nD, nE, nF] <;> and_intros <;> first | (apply hK1; clear hK1 K1) | (intros; first | omega | decide) | skip)))
   refine (g_some i l (a + 1 + 1 + 1) [key, ⟨#[]⟩] none _ hl (by omega) (by simp)).mono ?_; rintro _ _ ⟨y1, hy1, rfl, rfl⟩; apply hK1; clear hK1 K1
   (repeat (first | refine gO rfl ?_ | (refine gM zM33 fun K1 hK1 => ?_; simp only [go_sem, ↓reduceIte, reduceCtorEq, nA, nB, nC, nD, nE, nF] <;> and_intros <;> first | (apply hK1; clear hK1 K1) | (intros; first | omega | decide) | skip)))
   refine (g_odd i l (a + 1 + 1 + 1 + 1) (-1440) 1440 _ hl (by omega) (by omega) (by omega) (by omega)).mono ?_
   rintro _ _ ⟨z, a2, hz, ha2, rfl, rfl⟩
   refine hK1 _ ?_; clear hK1 K1
   (repeat (first | refine gO rfl ?_ | (refine gM zM33 fun K1 hK1 => ?_; simp only [go_sem, ↓reduceIte, reduceCtorEq, nA, nB, nC, nD, nE, nF] <;> and_intros <;> first | (apply hK1; clear hK1 K1) | (intros; first | omega | decide) | skip)))
   refine (g_some i l a2 [⟨#[97]⟩, ⟨#[99]⟩] none _ hl (by omega) (by simp)).mono ?_; rintro _ _ ⟨y2, hy2, rfl, rfl⟩; apply hK1; clear hK1 K1
   (repeat (first | refine gO rfl ?_ | (refine gM zM33 fun K1 hK1 => ?_; simp only [go_sem, ↓reduceIte, reduceCtorEq, nA, nB, nC, nD, nE, nF] <;> and_intros <;> first | (apply hK1; clear hK1 K1) | (intros; first | omega | decide) | skip)))
   simp only [Tryz.results10, go_sem, ↓reduceIte, reduceCtorEq, nA, nB, nC, nD, nE, nF]
   refine ⟨_, _, Weak.refl _, Hp.le.refl _, ⟨y1, scrS, z, [⟨#[98]⟩, y2]⟩, a2 + 1, ⟨?_, scr_key, scr_sz, ⟨by show 2 ≤ 3; omega, ?_⟩⟩, by omega, rfl, rfl⟩
   ·simp only [List.mem_cons, List.not_mem_nil, or_false] at hy1
    rcases hy1 with rfl | rfl
    ·exact hkey
    ·show (⟨#[]⟩ : ByteArray).size ≤ 4; decide
   ·intro s hs
    simp only [List.mem_cons, List.not_mem_nil, or_false] at hy2 hs
    rcases hs with rfl | rfl
    ·decide
    ·rcases hy2 with rfl | rfl <;> decide
abbrev zPPE : List Nat := [0, 1, 2, 3, 4, 5, 6, 7, 8, 9, 10, 11, 12]
abbrev zPPP : List (Nat × List Nat × List Nat) := [(13, [], [14]), (15, [], [])]
attribute [go_sem] zPPE zPPP
theorem g_rev2 (p1 p2 : Gu) (k : Nat) (h : Hp) (hT : h.T k = some (.cont 4 [encGu p1, encGu p2])) : ACalls Tryz.prog 81 [.arr 4 k 2] h (fun r h' => r = .tup [] ∧ h' = ⟨h.H, upd h.T k (some (.cont 4 [encGu p2, encGu p1]))⟩) := by
 have e1 : encGu p1 = [.v (.string p1.key), .v (.string p1.scr), .v (.int .i64 p1.zone), .row 1 (p1.tags.map encS) none] := rfl
 have e2 : encGu p2 = [.v (.string p2.key), .v (.string p2.scr), .v (.int .i64 p2.zone), .row 1 (p2.tags.map encS) none] := rfl
 rw [e1, e2] at hT ⊢
 refine gE Tryz.func81 rfl (by kernel_rfl) 27 rfl fun c => ?_
 (repeat (first | refine gO rfl ?_ | ((first | refine gR ?_ | (with_reducible refine wM ?_ ?_) | ((with_reducible refine xR ?_); refine uE 3 zM34 zPPE zPPP 28 rfl (by kernel_rfl) ?_)) <;> ((try with_reducible intro K1 hK1); simp only [go_sem, ↓reduceIte, reduceCtorEq, nA, nB, nC, nD, nE, nF] <;> and_intros <;> first | (apply hK1; clear hK1 K1) | (intros; first | omega | decide) | skip))))
 generalize p1.key = a0 at *
 generalize p1.scr = a1 at *
 generalize p1.zone = a2 at *
 generalize p1.tags = a3 at *
 generalize p2.key = b0 at *
 generalize p2.scr = b1 at *
 generalize p2.zone = b2 at *
 generalize p2.tags = b3 at *
 clear e1 e2
 refine awp_loopC (rl false [0, 1, 1, 2, 24]) 0 (fun g s => ∃ (iz jz : Int) (X : List (List AV)), (iz = 0 ∧ jz = 1 ∧ g = 1 ∧ X = [[.v (.string a0), .v (.string a1), .v (.int .i64 a2), .row 1 (a3.map encS) none], [.v (.string b0), .v (.string b1), .v (.int .i64 b2), .row 1 (b3.map encS) none]] ∨
   iz = 1 ∧ jz = 0 ∧ g = 0 ∧ X = [[.v (.string b0), .v (.string b1), .v (.int .i64 b2), .row 1 (b3.map encS) none], [.v (.string a0), .v (.string a1), .v (.int .i64 a2), .row 1 (a3.map encS) none]]) ∧
  s = ⟨((.arr 4 k 2) :: AV.junk :: ((.v (.int .i64 iz)) :: (.v (.int .i64 jz)) :: (jnk 24 []))), [], ⟨h.H, upd h.T k (some (.cont 4 X))⟩⟩) 1 ⟨0, 1, _, .inl ⟨rfl, rfl, rfl, rfl⟩, ?_⟩ ?_
 ·rw [← hT]
  have : upd h.T k (h.T k) = h.T := by
   funext t
   by_cases e : t = k
   ·subst e; exact upd_same _ _ _
   ·exact upd_other _ _ e
  rw [this]; rfl
 rintro g _ ⟨iz, jz, X, hc, rfl⟩
 have hTq : upd h.T k (some (TO.cont 4 X)) k = some (TO.cont 4 X) := upd_same _ _ _
 rcases hc with ⟨rfl, rfl, rfl, rfl⟩ | ⟨rfl, rfl, rfl, rfl⟩
 ·(repeat (first | refine gO rfl ?_ | ((first | refine gR ?_ | (with_reducible refine wM ?_ ?_) | ((with_reducible refine xR ?_); refine uE 3 zM34 zPPE zPPP 28 rfl (by kernel_rfl) ?_)) <;> ((try with_reducible intro K1 hK1); simp only [go_sem, ↓reduceIte, reduceCtorEq, nA, nB, nC, nD, nE, nF] <;> and_intros <;> first | (apply hK1; clear hK1 K1) | (intros; first | omega | decide) | skip))))
  refine awp_cond (t := _) rfl (fun _ => ?_) (fun h6 => by cases h6)
  have g0 : [[AV.v (.string a0), .v (.string a1), .v (.int .i64 a2), .row 1 (a3.map encS) none], [.v (.string b0), .v (.string b1), .v (.int .i64 b2), .row 1 (b3.map encS) none]].getD (Int.toNat 0) [] = [.v (.string a0), .v (.string a1), .v (.int .i64 a2), .row 1 (a3.map encS) none] := rfl
  have g1 : [[AV.v (.string a0), .v (.string a1), .v (.int .i64 a2), .row 1 (a3.map encS) none], [.v (.string b0), .v (.string b1), .v (.int .i64 b2), .row 1 (b3.map encS) none]].getD (Int.toNat 1) [] = [.v (.string b0), .v (.string b1), .v (.int .i64 b2), .row 1 (b3.map encS) none] := rfl
  have hX2 : ([[AV.v (.string a0), .v (.string a1), .v (.int .i64 a2), .row 1 (a3.map encS) none], [.v (.string b0), .v (.string b1), .v (.int .i64 b2), .row 1 (b3.map encS) none]].set (Int.toNat 0) [.v (.string b0), .v (.string b1), .v (.int .i64 b2), .row 1 (b3.map encS) none]).set (Int.toNat 1) [.v (.string a0), .v (.string a1), .v (.int .i64 a2), .row 1 (a3.map encS) none] = [[AV.v (.string b0), .v (.string b1), .v (.int .i64 b2), .row 1 (b3.map encS) none], [.v (.string a0), .v (.string a1), .v (.int .i64 a2), .row 1 (a3.map encS) none]] := rfl
  have hXl : [[AV.v (.string a0), .v (.string a1), .v (.int .i64 a2), .row 1 (a3.map encS) none], [.v (.string b0), .v (.string b1), .v (.int .i64 b2), .row 1 (b3.map encS) none]].length = 2 := rfl
  generalize hXe : [[AV.v (.string a0), .v (.string a1), .v (.int .i64 a2), .row 1 (a3.map encS) none], [.v (.string b0), .v (.string b1), .v (.int .i64 b2), .row 1 (b3.map encS) none]] = X at g0 g1 hX2 hXl hTq ⊢
  (repeat (first | refine gO rfl ?_ | ((first | refine gR ?_ | (with_reducible refine wM ?_ ?_) | ((with_reducible refine xR ?_); refine uE 3 zM34 zPPE zPPP 28 rfl (by kernel_rfl) ?_)) <;> ((try with_reducible intro K1 hK1); simp only [go_sem, ↓reduceIte, reduceCtorEq, nA, nB, nC, nD, nE, nF, hTq, g0, g1, hXl, upd_same, upd_upd] <;> and_intros <;> first | (apply hK1; clear hK1 K1) | (intros; first | omega | decide) | skip))))
  subst hXe
  exact ⟨0, by omega, 1, 0, _, .inr ⟨rfl, rfl, rfl, rfl⟩, rfl⟩
 ·(repeat (first | refine gO rfl ?_ | ((first | refine gR ?_ | (with_reducible refine wM ?_ ?_) | ((with_reducible refine xR ?_); refine uE 3 zM34 zPPE zPPP 28 rfl (by kernel_rfl) ?_)) <;> ((try with_reducible intro K1 hK1); simp only [go_sem, ↓reduceIte, reduceCtorEq, nA, nB, nC, nD, nE, nF] <;> and_intros <;> first | (apply hK1; clear hK1 K1) | (intros; first | omega | decide) | skip))))
  refine awp_cond (t := _) rfl (fun h6 => by cases h6) (fun _ => ?_)
  (repeat (first | refine gO rfl ?_ | ((first | refine gR ?_ | (with_reducible refine wM ?_ ?_) | ((with_reducible refine xR ?_); refine uE 3 zM34 zPPE zPPP 28 rfl (by kernel_rfl) ?_)) <;> ((try with_reducible intro K1 hK1); simp only [go_sem, ↓reduceIte, reduceCtorEq, nA, nB, nC, nD, nE, nF] <;> and_intros <;> first | (apply hK1; clear hK1 K1) | (intros; first | omega | decide) | skip))))
  simp only [Tryz.results81, go_sem, ↓reduceIte, reduceCtorEq, nA, nB, nC, nD, nE, nF]
  exact ⟨_, _, Weak.refl _, Hp.le.refl _, rfl, rfl⟩
theorem g_guests (i : Nat) (l : List Int) (a : Int) (h : Hp) (hl : SOk l) (ha : 0 ≤ a ∧ a ≤ 50000) :
  ACalls Tryz.prog 28 [.ptr i 0] (h.st i l a) (fun r h' => ∃ (ps : List Gu) (a' : Int), ps.length = 2 ∧ (∀ p ∈ ps, GuOk p) ∧ (a ≤ a' ∧ a' ≤ a + 50) ∧ r = .row 4 (ps.map encGu) none ∧ h' = h.st i l a') := by
 refine gE Tryz.func28 rfl (by kernel_rfl) 13 rfl fun c => ?_
 (repeat (first | refine gO rfl ?_ | (refine gM zM35 fun K1 hK1 => ?_; simp only [go_sem, ↓reduceIte, reduceCtorEq, nA, nB, nC, nD, nE, nF] <;> and_intros <;> first | (apply hK1; clear hK1 K1) | (intros; first | omega | decide) | skip)))
 refine (g_guest i l a ⟨#[112, 97]⟩ h hl (by omega) (by decide)).mono ?_
 rintro _ _ ⟨p1, a1, hp1, ha1, rfl, rfl⟩
 refine hK1 _ ?_; clear hK1 K1
 have e1 : encGu p1 = [.v (.string p1.key), .v (.string p1.scr), .v (.int .i64 p1.zone), .row 1 (p1.tags.map encS) none] := rfl
 rw [e1]
 (repeat (first | refine gO rfl ?_ | (refine gM zM35 fun K1 hK1 => ?_; simp only [go_sem, ↓reduceIte, reduceCtorEq, nA, nB, nC, nD, nE, nF] <;> and_intros <;> first | (apply hK1; clear hK1 K1) | (intros; first | omega | decide) | skip)))
 refine (g_guest i l a1 ⟨#[112, 98]⟩ h hl (by omega) (by decide)).mono ?_
 rintro _ _ ⟨p2, a2, hp2, ha2, rfl, rfl⟩
 refine hK1 _ ?_; clear hK1 K1
 have e2 : encGu p2 = [.v (.string p2.key), .v (.string p2.scr), .v (.int .i64 p2.zone), .row 1 (p2.tags.map encS) none] := rfl
 rw [e2]
 (repeat (first | refine gO rfl ?_ | (refine gM zM35 fun K1 hK1 => ?_; simp only [go_sem, ↓reduceIte, reduceCtorEq, nA, nB, nC, nD, nE, nF] <;> and_intros <;> first | (apply hK1; clear hK1 K1) | (intros; first | omega | decide) | skip)))
 intro k hk
 refine hK1 _ ?_; clear hK1 K1
 replace hk : h.T k = none := hk
 rw [← e1, ← e2]
 (repeat (first | refine gO rfl ?_ | (refine gM zM35 fun K1 hK1 => ?_; simp only [go_sem, ↓reduceIte, reduceCtorEq, nA, nB, nC, nD, nE, nF] <;> and_intros <;> first | (apply hK1; clear hK1 K1) | (intros; first | omega | decide) | skip)))
 refine (g_flip i l a2 20 ⟨h.H, upd h.T k (some (.cont 4 [encGu p1, encGu p2]))⟩ hl (by omega) (by omega)).mono ?_; rintro _ _ ⟨b, rfl, rfl⟩; apply hK1; clear hK1 K1
 cases b with
 | false =>
  (repeat (first | refine gO rfl ?_ | (refine gM zM35 fun K1 hK1 => ?_; simp only [go_sem, ↓reduceIte, reduceCtorEq, nA, nB, nC, nD, nE, nF] <;> and_intros <;> first | (apply hK1; clear hK1 K1) | (intros; first | omega | decide) | skip)))
  refine awp_cond (t := _) rfl (fun h6 => by cases h6) (fun _ => ?_)
  refine awp_frz 3 k 4 (xs := [encGu p1, encGu p2]) rfl (upd_same _ _ _) (fun y hy => by simp at hy; rcases hy with rfl | rfl <;> rfl) ?_
  (repeat (first | refine gO rfl ?_ | (refine gM zM35 fun K1 hK1 => ?_; simp only [go_sem, ↓reduceIte, reduceCtorEq, nA, nB, nC, nD, nE, nF] <;> and_intros <;> first | (apply hK1; clear hK1 K1) | (intros; first | omega | decide) | skip)))
  simp only [Tryz.results28, go_sem, ↓reduceIte, reduceCtorEq, nA, nB, nC, nD, nE, nF]
  refine ⟨_, h.st i l (a2 + 1), Weak.refl _, ⟨fun _ => .inr rfl, fun t => ?_⟩, [p1, p2], _, rfl, fun p hp => by simp at hp; rcases hp with rfl | rfl <;> assumption, ?_, rfl, rfl⟩
  ·by_cases e : t = k
   ·subst e; exact .inl hk
   ·refine .inr ?_
    show h.T t = upd (upd h.T k _) k none t
    rw [upd_other _ _ e, upd_other _ _ e]
  ·omega
 | true =>
  (repeat (first | refine gO rfl ?_ | (refine gM zM35 fun K1 hK1 => ?_; simp only [go_sem, ↓reduceIte, reduceCtorEq, nA, nB, nC, nD, nE, nF] <;> and_intros <;> first | (apply hK1; clear hK1 K1) | (intros; first | omega | decide) | skip)))
  refine awp_cond (t := _) rfl (fun _ => ?_) (fun h6 => by cases h6)
  (repeat (first | refine gO rfl ?_ | (refine gM zM35 fun K1 hK1 => ?_; simp only [go_sem, ↓reduceIte, reduceCtorEq, nA, nB, nC, nD, nE, nF] <;> and_intros <;> first | (apply hK1; clear hK1 K1) | (intros; first | omega | decide) | skip)))
  refine (g_rev2 p1 p2 k ⟨(h.st i l (a2 + 1)).H, upd h.T k (some (.cont 4 [encGu p1, encGu p2]))⟩ (upd_same _ _ _)).mono ?_; rintro _ hz ⟨rfl, hh⟩; apply hK1; clear hK1 K1; rw [hh]; clear hh hz
  first | refine gO rfl ?_ | (refine gM zM35 fun K1 hK1 => ?_; simp only [go_sem, ↓reduceIte, reduceCtorEq, nA, nB, nC, nD, nE, nF] <;> and_intros <;> first | (apply hK1; clear hK1 K1) | (intros; first | omega | decide | (simp_all <;> omega)) | skip)
  refine awp_frz 3 k 4 (xs := [encGu p2, encGu p1]) rfl (upd_same _ _ _) (fun y hy => by simp at hy; rcases hy with rfl | rfl <;> rfl) ?_
  (repeat (first | refine gO rfl ?_ | (refine gM zM35 fun K1 hK1 => ?_; simp only [go_sem, ↓reduceIte, reduceCtorEq, nA, nB, nC, nD, nE, nF] <;> and_intros <;> first | (apply hK1; clear hK1 K1) | (intros; first | omega | decide) | skip)))
  simp only [Tryz.results28, go_sem, ↓reduceIte, reduceCtorEq, nA, nB, nC, nD, nE, nF]
  refine ⟨_, h.st i l (a2 + 1), Weak.refl _, ⟨fun _ => .inr rfl, fun t => ?_⟩, [p2, p1], _, rfl, fun p hp => by simp at hp; rcases hp with rfl | rfl <;> assumption, ?_, rfl, rfl⟩
  ·by_cases e : t = k
   ·subst e; exact .inl hk
   ·refine .inr ?_
    show h.T t = upd h.T k none t
    rw [upd_other _ _ e]
  ·omega
abbrev zPQE : List Nat := [0, 1, 2, 3, 4, 5, 6, 7, 8, 9, 11, 12, 13, 14, 15, 16, 18, 19, 21, 22]
abbrev zPQP : List (Nat × List Nat × List Nat) := [(10, [15], []), (17, [], []), (20, [], []), (23, [], [24, 25]), (26, [], [27, 28]), (29, [], [30, 31]), (32, [], [33, 34]), (35, [], [])]
attribute [go_sem] zPQE zPQP
abbrev Pq := ByteArray × ByteArray × Int × Int
def encPq (x : Pq) : List AV := [.v (.string x.1), .v (.string x.2.1), .v (.int .i64 x.2.2.1), .v (.int .i64 x.2.2.2)]
structure PqOk (x : Pq) : Prop where
 who : x.1.size ≤ 4
 it : x.2.1.size ≤ 4
 fr : -1 ≤ x.2.2.1 ∧ x.2.2.1 ≤ 345686399999
 lo : 0 ≤ x.2.2.2 ∧ x.2.2.2 ≤ 40
theorem encPq_z (l : List Pq) : ∀ y ∈ l.map encPq, y.length = 4 := fun y hy => by obtain ⟨x, _, rfl⟩ := List.mem_map.1 hy; rfl
theorem g_seen (i : Nat) (l : List Int) (a : Int) (N : Nat) (h : Hp) (hl : SOk l) (ha : 0 ≤ a ∧ a ≤ 100000000) (hN : N ≤ 6) :
  ACalls Tryz.prog 29 [.ptr i 0, .v (.int .i64 N)] (h.st i l a) (fun r h' => ∃ (ws : List Pq) (a' : Int), ws.length = N ∧ (∀ x ∈ ws, PqOk x) ∧ (a ≤ a' ∧ a' ≤ a + 100) ∧ r = .row 4 (ws.map encPq) none ∧ h' = h.st i l a') := by
 refine gE Tryz.func29 rfl (by kernel_rfl) 71 rfl fun c => ?_
 (repeat (first | refine gQ rfl ?_ | ((first | refine gR ?_ | (with_reducible refine wM ?_ ?_) | ((with_reducible refine xR ?_); refine uE 8 zM34 zPQE zPQP 73 rfl (by kernel_rfl) ?_)) <;> ((try with_reducible intro K1 hK1); simp only [go_sem, ↓reduceIte, reduceCtorEq, nA, nB, nC, nD, nE, nF] <;> and_intros <;> first | (apply hK1; clear hK1 K1) | (intros; first | omega | decide | (simp_all <;> omega)) | skip))))
 refine awp_seq ?_
 refine awp_ownA 5 4 rfl ⟨rfl, rfl⟩ (fun k hk => ?_)
 replace hk : h.T k = none := hk
 (repeat (first | refine gO rfl ?_ | ((first | refine gR ?_ | (with_reducible refine wM ?_ ?_) | ((with_reducible refine xR ?_); refine uE 8 zM34 zPQE zPQP 73 rfl (by kernel_rfl) ?_)) <;> ((try with_reducible intro K1 hK1); simp only [go_sem, ↓reduceIte, reduceCtorEq, nA, nB, nC, nD, nE, nF] <;> and_intros <;> first | (apply hK1; clear hK1 K1) | (intros; first | omega | decide | (simp_all <;> omega)) | skip))))
 refine awp_loopC (rl false [0, 1, 4, 1, 1, 2, 64]) 0 (fun g s => ∃ (j : Nat) (ws : List Pq) (a' : Int), g + j = N ∧ ws.length = j ∧ (∀ x ∈ ws, PqOk x) ∧ (a ≤ a' ∧ a' ≤ a + 4 * j) ∧
  s = ⟨((.ptr i 0) :: (jnk 4 ((.arr 4 k j) :: AV.junk :: ((.v (.int .i64 N)) :: (.v (.int .i64 j)) :: (jnk 64 []))))), [], (Hp.mk h.H (upd h.T k (some (.cont 4 (ws.map encPq))))).st i l a'⟩) N ⟨0, [], a, by omega, rfl, by simp, by omega, rfl⟩ ?_
 rintro g _ ⟨j, ws, a1, hj, hwl, hwo, ha1, rfl⟩
 have hTq : ∀ a2, ((Hp.mk h.H (upd h.T k (some (.cont 4 (ws.map encPq))))).st i l a2).T k = some (TO.cont 4 (ws.map encPq)) := fun a2 => upd_same _ _ _
 have hlw : (ws.map encPq).length = j := by simpa using hwl
 have htt : ∀ a2 X, (Hp.mk ((Hp.mk h.H (upd h.T k (some (.cont 4 (ws.map encPq))))).st i l a2).H (upd ((Hp.mk h.H (upd h.T k (some (.cont 4 (ws.map encPq))))).st i l a2).T k X)) = (Hp.mk h.H (upd h.T k X)).st i l a2 := fun a2 X => by simp only [Hp.st, upd_upd]
 (repeat (first | refine gO rfl ?_ | ((first | refine gR ?_ | (with_reducible refine wM ?_ ?_) | ((with_reducible refine xR ?_); refine uE 8 zM34 zPQE zPQP 73 rfl (by kernel_rfl) ?_)) <;> ((try with_reducible intro K1 hK1); simp only [go_sem, ↓reduceIte, reduceCtorEq, nA, nB, nC, nD, nE, nF] <;> and_intros <;> first | (apply hK1; clear hK1 K1) | (intros; first | omega | decide | (simp_all <;> omega)) | skip))))
 refine awp_cond (t := _) rfl (fun h1 => ?_) (fun h1 => ?_)
 ·simp only [decide_eq_true_eq] at h1
  have hjl : j < N := by omega
  (repeat (first | refine gO rfl ?_ | ((first | refine gR ?_ | (with_reducible refine wM ?_ ?_) | ((with_reducible refine xR ?_); refine uE 8 zM34 zPQE zPQP 73 rfl (by kernel_rfl) ?_)) <;> ((try with_reducible intro K1 hK1); simp only [go_sem, ↓reduceIte, reduceCtorEq, nA, nB, nC, nD, nE, nF, hTq, hlw] <;> and_intros <;> first | (apply hK1; clear hK1 K1) | (intros; first | omega | decide | (simp_all <;> omega)) | skip))))
  refine (g_some i l a1 [⟨#[112, 97]⟩, ⟨#[112, 98]⟩] none _ hl (by omega) (by simp)).mono ?_; rintro _ _ ⟨z1, hz1, rfl, rfl⟩; apply hK1; clear hK1 K1
  have s1 : z1.size ≤ 4 := by
   simp only [List.mem_cons, List.not_mem_nil, or_false] at hz1
   rcases hz1 with rfl | rfl <;> decide
  (repeat (first | refine gO rfl ?_ | ((first | refine gR ?_ | (with_reducible refine wM ?_ ?_) | ((with_reducible refine xR ?_); refine uE 8 zM34 zPQE zPQP 73 rfl (by kernel_rfl) ?_)) <;> ((try with_reducible intro K1 hK1); simp only [go_sem, ↓reduceIte, reduceCtorEq, nA, nB, nC, nD, nE, nF, hTq, hlw] <;> and_intros <;> first | (apply hK1; clear hK1 K1) | (intros; first | omega | decide | (simp_all <;> omega)) | skip))))
  refine (g_some i l (a1 + 1) [⟨#[105, 97]⟩, ⟨#[105, 98]⟩, ⟨#[105, 99]⟩] none _ hl (by omega) (by simp)).mono ?_; rintro _ _ ⟨z2, hz2, rfl, rfl⟩; apply hK1; clear hK1 K1
  have s2 : z2.size ≤ 4 := by
   simp only [List.mem_cons, List.not_mem_nil, or_false] at hz2
   rcases hz2 with rfl | rfl | rfl <;> decide
  (repeat (first | refine gO rfl ?_ | ((first | refine gR ?_ | (with_reducible refine wM ?_ ?_) | ((with_reducible refine xR ?_); refine uE 8 zM34 zPQE zPQP 73 rfl (by kernel_rfl) ?_)) <;> ((try with_reducible intro K1 hK1); simp only [go_sem, ↓reduceIte, reduceCtorEq, nA, nB, nC, nD, nE, nF, hTq, hlw] <;> and_intros <;> first | (apply hK1; clear hK1 K1) | (intros; first | omega | decide | (simp_all <;> omega)) | skip))))
  refine (g_pick i l (a1 + 1 + 1) [0, 5, 10, 25, 49] none _ hl (by omega) (by simp)).mono ?_; rintro _ _ ⟨z3, hz3, rfl, rfl⟩; apply hK1; clear hK1 K1
  simp only [List.mem_cons, List.not_mem_nil, or_false] at hz3
  (repeat (first | refine gO rfl ?_ | ((first | refine gR ?_ | (with_reducible refine wM ?_ ?_) | ((with_reducible refine xR ?_); refine uE 8 zM34 zPQE zPQP 73 rfl (by kernel_rfl) ?_)) <;> ((try with_reducible intro K1 hK1); simp only [go_sem, ↓reduceIte, reduceCtorEq, nA, nB, nC, nD, nE, nF, hTq, hlw] <;> and_intros <;> first | (apply hK1; clear hK1 K1) | (intros; first | omega | decide | (simp_all <;> omega)) | skip))))
  refine (g_pick i l (a1 + 1 + 1 + 1) [1, 5, 20, 40] none _ hl (by omega) (by simp)).mono ?_; rintro _ _ ⟨z4, hz4, rfl, rfl⟩; apply hK1; clear hK1 K1
  simp only [List.mem_cons, List.not_mem_nil, or_false] at hz4
  (repeat (first | refine gO rfl ?_ | ((first | refine gR ?_ | (with_reducible refine wM ?_ ?_) | ((with_reducible refine xR ?_); refine uE 8 zM34 zPQE zPQP 73 rfl (by kernel_rfl) ?_)) <;> ((try with_reducible intro K1 hK1); simp only [go_sem, ↓reduceIte, reduceCtorEq, nA, nB, nC, nD, nE, nF, hTq, hlw, htt] <;> and_intros <;> first | (apply hK1; clear hK1 K1) | (intros; first | omega | decide | (simp_all <;> omega)) | skip))))
  refine ⟨g - 1, by omega, j + 1, ws ++ [(z1, z2, z3, z4)], a1 + 1 + 1 + 1 + 1, by omega, by simp [hwl], fun z hz => ?_, by omega, ?_⟩
  ·rcases List.mem_append.1 hz with h9 | h9
   ·exact hwo z h9
   ·rw [List.mem_singleton.1 h9]
    exact ⟨s1, s2, ⟨by show _ ≤ z3; omega, by show z3 ≤ _; omega⟩, ⟨by show _ ≤ z4; omega, by show z4 ≤ _; omega⟩⟩
  ·rw [List.map_append]; rfl
 ·simp only [decide_eq_false_iff_not] at h1
  obtain rfl : j = N := by omega
  clear hj h1
  (repeat (first | refine gQ rfl ?_ | ((first | refine gR ?_ | (with_reducible refine wM ?_ ?_) | ((with_reducible refine xR ?_); refine uE 8 zM34 zPQE zPQP 73 rfl (by kernel_rfl) ?_)) <;> ((try with_reducible intro K1 hK1); simp only [go_sem, ↓reduceIte, reduceCtorEq, nA, nB, nC, nD, nE, nF] <;> and_intros <;> first | (apply hK1; clear hK1 K1) | (intros; first | omega | decide | (simp_all <;> omega)) | skip))))
  refine awp_seqJ (rl false [5, 1, 67]) 0 (fun s => ∃ (ws2 : List Pq) (a2 : Int), ws2.length = j ∧ (∀ x ∈ ws2, PqOk x) ∧ (a ≤ a2 ∧ a2 ≤ a + 50) ∧
   s = ⟨((jnk 5 ((.arr 4 k j) :: (jnk 67 [])))), [], (Hp.mk h.H (upd h.T k (some (.cont 4 (ws2.map encPq))))).st i l a2⟩) ?_ ?_
  ·by_cases hn0 : j = 0
   ·have hd0 : decide ((0 : Int) < (j : Int)) = false := by simp only [decide_eq_false_iff_not]; omega
    (repeat (first | refine gO rfl ?_ | ((first | refine gR ?_ | (with_reducible refine wM ?_ ?_) | ((with_reducible refine xR ?_); refine uE 8 zM34 zPQE zPQP 73 rfl (by kernel_rfl) ?_)) <;> ((try with_reducible intro K1 hK1); simp only [go_sem, ↓reduceIte, reduceCtorEq, nA, nB, nC, nD, nE, nF, hd0] <;> and_intros <;> first | (apply hK1; clear hK1 K1) | (intros; first | omega | decide | (simp_all <;> omega)) | skip))))
    refine awp_cond (t := _) rfl (fun h9 => by cases h9) (fun _ => ?_)
    (repeat (first | refine gO rfl ?_ | ((first | refine gR ?_ | (with_reducible refine wM ?_ ?_) | ((with_reducible refine xR ?_); refine uE 8 zM34 zPQE zPQP 73 rfl (by kernel_rfl) ?_)) <;> ((try with_reducible intro K1 hK1); simp only [go_sem, ↓reduceIte, reduceCtorEq, nA, nB, nC, nD, nE, nF] <;> and_intros <;> first | (apply hK1; clear hK1 K1) | (intros; first | omega | decide | (simp_all <;> omega)) | skip))))
    exact ⟨ws, a1, hwl, hwo, by omega, rfl⟩
   ·have hd0 : decide ((0 : Int) < (j : Int)) = true := by simp only [decide_eq_true_eq]; omega
    (repeat (first | refine gO rfl ?_ | ((first | refine gR ?_ | (with_reducible refine wM ?_ ?_) | ((with_reducible refine xR ?_); refine uE 8 zM34 zPQE zPQP 73 rfl (by kernel_rfl) ?_)) <;> ((try with_reducible intro K1 hK1); simp only [go_sem, ↓reduceIte, reduceCtorEq, nA, nB, nC, nD, nE, nF, hd0] <;> and_intros <;> first | (apply hK1; clear hK1 K1) | (intros; first | omega | decide | (simp_all <;> omega)) | skip))))
    refine (g_flip i l a1 15 _ hl (by omega) (by omega)).mono ?_
    rintro _ _ ⟨bb, rfl, rfl⟩
    refine ⟨rfl, hK1 _ ?_⟩; clear hK1 K1
    (repeat (first | refine gO rfl ?_ | ((first | refine gR ?_ | (with_reducible refine wM ?_ ?_) | ((with_reducible refine xR ?_); refine uE 8 zM34 zPQE zPQP 73 rfl (by kernel_rfl) ?_)) <;> ((try with_reducible intro K1 hK1); simp only [go_sem, ↓reduceIte, reduceCtorEq, nA, nB, nC, nD, nE, nF, hd0] <;> and_intros <;> first | (apply hK1; clear hK1 K1) | (intros; first | omega | decide | (simp_all <;> omega)) | skip))))
    cases bb with
    | false =>
     refine awp_cond (t := _) rfl (fun h9 => by cases h9) (fun _ => ?_)
     (repeat (first | refine gO rfl ?_ | ((first | refine gR ?_ | (with_reducible refine wM ?_ ?_) | ((with_reducible refine xR ?_); refine uE 8 zM34 zPQE zPQP 73 rfl (by kernel_rfl) ?_)) <;> ((try with_reducible intro K1 hK1); simp only [go_sem, ↓reduceIte, reduceCtorEq, nA, nB, nC, nD, nE, nF] <;> and_intros <;> first | (apply hK1; clear hK1 K1) | (intros; first | omega | decide | (simp_all <;> omega)) | skip))))
     exact ⟨ws, a1 + 1, hwl, hwo, by omega, rfl⟩
    | true =>
     refine awp_cond (t := _) rfl (fun _ => ?_) (fun h9 => by cases h9)
     (repeat (first | refine gO rfl ?_ | ((first | refine gR ?_ | (with_reducible refine wM ?_ ?_) | ((with_reducible refine xR ?_); refine uE 8 zM34 zPQE zPQP 73 rfl (by kernel_rfl) ?_)) <;> ((try with_reducible intro K1 hK1); simp only [go_sem, ↓reduceIte, reduceCtorEq, nA, nB, nC, nD, nE, nF, hTq, hlw] <;> and_intros <;> first | (apply hK1; clear hK1 K1) | (intros; first | omega | decide | (simp_all <;> omega)) | skip))))
     refine (g_next i l (a1 + 1) j _ hl (by omega) (by omega)).mono ?_; rintro _ _ ⟨x, hx, rfl, rfl⟩; apply hK1; clear hK1 K1
     obtain ⟨q, rfl⟩ : ∃ q : Nat, x = q := ⟨x.toNat, by omega⟩
     have hqn : q < ws.length := by omega
     have hqm : q < (ws.map encPq).length := by simpa using hqn
     have gq : (ws.map encPq).getD q [] = [.v (.string (ws.getD q default).1), .v (.string (ws.getD q default).2.1), .v (.int .i64 (ws.getD q default).2.2.1), .v (.int .i64 (ws.getD q default).2.2.2)] := getD_enc encPq ws q default hqn
     have hwq := hwo _ (show ws.getD q default ∈ ws by rw [List.getD_eq_getElem?_getD, List.getElem?_eq_getElem hqn]; exact List.getElem_mem hqn)
     have hgs : ∀ A, ((ws.map encPq).set q A).getD q [] = A := fun A => by rw [List.getD_eq_getElem?_getD, List.getElem?_set_self hqm]; rfl
     have hss : ∀ A B, ((ws.map encPq).set q A).set q B = (ws.map encPq).set q B := fun A B => List.set_set _
     have hsl : ∀ A, ((ws.map encPq).set q A).length = j := fun A => by rw [List.length_set, List.length_map, hwl]
     have hqq : q < j := by omega
     generalize ws.getD q default = z at gq hwq
     have hTs : ∀ A a2, ((Hp.mk h.H (upd h.T k (some (.cont 4 ((ws.map encPq).set q A))))).st i l a2).T k = some (TO.cont 4 ((ws.map encPq).set q A)) := fun A a2 => upd_same _ _ _
     have htt2 : ∀ A a2 X, (Hp.mk ((Hp.mk h.H (upd h.T k (some (.cont 4 ((ws.map encPq).set q A))))).st i l a2).H (upd ((Hp.mk h.H (upd h.T k (some (.cont 4 ((ws.map encPq).set q A))))).st i l a2).T k X)) = (Hp.mk h.H (upd h.T k X)).st i l a2 := fun A a2 X => by simp only [Hp.st, upd_upd]
     (repeat (first | refine gO rfl ?_ | ((first | refine gR ?_ | (with_reducible refine wM ?_ ?_) | ((with_reducible refine xR ?_); refine uE 8 zM34 zPQE zPQP 73 rfl (by kernel_rfl) ?_)) <;> ((try with_reducible intro K1 hK1); simp only [go_sem, ↓reduceIte, reduceCtorEq, nA, nB, nC, nD, nE, nF, Int.toNat_natCast, hTq, hlw, gq, hqq] <;> and_intros <;> first | (apply hK1; clear hK1 K1) | (intros; first | omega | decide | (simp_all <;> omega)) | skip))))
     refine (g_some i l (a1 + 1 + 1) [z.1, ⟨#[112, 122]⟩] none _ hl (by omega) (by simp)).mono ?_; rintro _ _ ⟨y1, hy1, rfl, rfl⟩; apply hK1; clear hK1 K1
     (repeat (first | refine gO rfl ?_ | ((first | refine gR ?_ | (with_reducible refine wM ?_ ?_) | ((with_reducible refine xR ?_); refine uE 8 zM34 zPQE zPQP 73 rfl (by kernel_rfl) ?_)) <;> ((try with_reducible intro K1 hK1); simp only [go_sem, ↓reduceIte, reduceCtorEq, nA, nB, nC, nD, nE, nF, Int.toNat_natCast, hTq, hlw, gq, hqq] <;> and_intros <;> first | (apply hK1; clear hK1 K1) | (intros; first | omega | decide | (simp_all <;> omega)) | skip))))
     refine (g_some i l (a1 + 1 + 1 + 1) [z.2.1, ⟨#[]⟩] none _ hl (by omega) (by simp)).mono ?_; rintro _ _ ⟨y2, hy2, rfl, rfl⟩; apply hK1; clear hK1 K1
     (repeat (first | refine gO rfl ?_ | ((first | refine gR ?_ | (with_reducible refine wM ?_ ?_) | ((with_reducible refine xR ?_); refine uE 8 zM34 zPQE zPQP 73 rfl (by kernel_rfl) ?_)) <;> ((try with_reducible intro K1 hK1); simp only [go_sem, ↓reduceIte, reduceCtorEq, nA, nB, nC, nD, nE, nF, Int.toNat_natCast, hTq, hlw, gq, hqq] <;> and_intros <;> first | (apply hK1; clear hK1 K1) | (intros; first | omega | decide | (simp_all <;> omega)) | skip))))
     refine (g_pick i l (a1 + 1 + 1 + 1 + 1) [0, -1, 345686399999] none _ hl (by omega) (by simp)).mono ?_; rintro _ _ ⟨y3, hy3, rfl, rfl⟩; apply hK1; clear hK1 K1
     (repeat (first | refine gO rfl ?_ | ((first | refine gR ?_ | (with_reducible refine wM ?_ ?_) | ((with_reducible refine xR ?_); refine uE 8 zM34 zPQE zPQP 73 rfl (by kernel_rfl) ?_)) <;> ((try with_reducible intro K1 hK1); simp only [go_sem, ↓reduceIte, reduceCtorEq, nA, nB, nC, nD, nE, nF, Int.toNat_natCast, hTq, hlw, gq, hqq] <;> and_intros <;> first | (apply hK1; clear hK1 K1) | (intros; first | omega | decide | (simp_all <;> omega)) | skip))))
     refine (g_pick i l (a1 + 1 + 1 + 1 + 1 + 1) [1, 0, 2] none _ hl (by omega) (by simp)).mono ?_; rintro _ _ ⟨y4, hy4, rfl, rfl⟩; apply hK1; clear hK1 K1
     (repeat (first | refine gO rfl ?_ | ((first | refine gR ?_ | (with_reducible refine wM ?_ ?_) | ((with_reducible refine xR ?_); refine uE 8 zM34 zPQE zPQP 73 rfl (by kernel_rfl) ?_)) <;> ((try with_reducible intro K1 hK1); simp only [go_sem, ↓reduceIte, reduceCtorEq, nA, nB, nC, nD, nE, nF, Int.toNat_natCast, hTq, hlw, gq, hqq, hgs, hss, hsl, hTs, htt, htt2] <;> and_intros <;> first | (apply hK1; clear hK1 K1) | (intros; first | omega | decide | (simp_all <;> omega)) | skip))))
     refine ⟨ws.set q (y1, y2, y3, y4), a1 + 1 + 1 + 1 + 1 + 1 + 1, by rw [List.length_set, hwl], fun u hu => ?_, by omega, ?_⟩
     ·rcases List.mem_or_eq_of_mem_set hu with h9 | rfl
      ·exact hwo u h9
      ·obtain ⟨w1, w2, w3, w4⟩ := hwq
       simp only [List.mem_cons, List.not_mem_nil, or_false] at hy1 hy2 hy3 hy4
       refine ⟨?_, ?_, by show _ ≤ y3 ∧ y3 ≤ _; omega, by show _ ≤ y4 ∧ y4 ≤ _; omega⟩
       ·rcases hy1 with rfl | rfl
        ·exact w1
        ·show (⟨#[112, 122]⟩ : ByteArray).size ≤ 4; decide
       ·rcases hy2 with rfl | rfl
        ·exact w2
        ·show (⟨#[]⟩ : ByteArray).size ≤ 4; decide
     ·rw [show (ws.set q (y1, y2, y3, y4)).map encPq = (ws.map encPq).set q (encPq (y1, y2, y3, y4)) from List.map_set]; rfl
  ·rintro _ ⟨ws2, a2, hwl2, hwo2, ha2, rfl⟩
   refine awp_frz 5 k 4 (xs := ws2.map encPq) (by simp [hwl2]; rfl) (upd_same _ _ _) (encPq_z ws2) ?_
   (repeat (first | refine gO rfl ?_ | ((first | refine gR ?_ | (with_reducible refine wM ?_ ?_) | ((with_reducible refine xR ?_); refine uE 8 zM34 zPQE zPQP 73 rfl (by kernel_rfl) ?_)) <;> ((try with_reducible intro K1 hK1); simp only [go_sem, ↓reduceIte, reduceCtorEq, nA, nB, nC, nD, nE, nF] <;> and_intros <;> first | (apply hK1; clear hK1 K1) | (intros; first | omega | decide | (simp_all <;> omega)) | skip))))
   simp only [Tryz.results29, go_sem, ↓reduceIte, reduceCtorEq, nA, nB, nC, nD, nE, nF]
   refine ⟨_, h.st i l a2, Weak.refl _, ⟨fun _ => .inr rfl, fun t => ?_⟩, ws2, a2, hwl2, hwo2, by omega, rfl, rfl⟩
   by_cases e : t = k
   ·subst e; exact .inl hk
   ·exact .inr (by simp only [Hp.st]; rw [upd_other _ _ e, upd_other _ _ e])
abbrev zPRE : List Nat := [0, 1, 2, 3, 4, 5, 6, 7, 8]
abbrev zPRP : List (Nat × List Nat × List Nat) := []
abbrev zPSE : List Nat := [0, 1, 2, 3, 4, 5, 6, 7, 8]
abbrev zPSP : List (Nat × List Nat × List Nat) := []
attribute [go_sem] zPRE zPRP zPSE zPSP
theorem nN_ne (a b : Nat) : ((a : Int) != (b : Int)) = !decide (a = b) := by
 by_cases h : a = b
 ·subst h; simp
 ·rw [decide_eq_false h, Bool.not_false, bne_iff_ne]; omega
theorem g_eqI (xs ys : List Int) (h : Hp) (hl : xs.length ≤ 1000000 ∧ ys.length ≤ 1000000) : ACalls Tryz.prog 31 [.row 1 (xs.map encI) none, .row 1 (ys.map encI) none] h (fun r h' => r = .v (.bool (decide (xs = ys))) ∧ h' = h) := by
 have hlm : (xs.map encI).length = xs.length := by simp
 have hly : (ys.map encI).length = ys.length := by simp
 have hn := nN_ne xs.length ys.length
 refine gE Tryz.func31 rfl (by kernel_rfl) 24 rfl fun c => ?_
 by_cases hc : xs.length = ys.length
 case neg =>
  rw [decide_eq_false hc] at hn
  (repeat (first | refine gO rfl ?_ | ((first | refine gR ?_ | (with_reducible refine wM ?_ ?_) | ((with_reducible refine xS ?_); refine uD 6 zM34 zPRE zPRP 26 rfl (by kernel_rfl) ?_)) <;> ((try with_reducible intro K1 hK1); simp only [go_sem, ↓reduceIte, reduceCtorEq, nA, nB, nC, nD, nE, nF, hlm, hly, hn, Bool.not_false] <;> and_intros <;> first | (apply hK1; clear hK1 K1) | (intros; first | omega | decide | (simp_all <;> omega)) | skip))))
  refine awp_cond (t := _) rfl (fun _ => ?_) (fun h9 => by cases h9)
  (repeat (first | refine gO rfl ?_ | ((first | refine gR ?_ | (with_reducible refine wM ?_ ?_) | ((with_reducible refine xS ?_); refine uD 6 zM34 zPRE zPRP 26 rfl (by kernel_rfl) ?_)) <;> ((try with_reducible intro K1 hK1); simp only [go_sem, ↓reduceIte, reduceCtorEq, nA, nB, nC, nD, nE, nF] <;> and_intros <;> first | (apply hK1; clear hK1 K1) | (intros; first | omega | decide | (simp_all <;> omega)) | skip))))
  simp only [Tryz.results31, go_sem, ↓reduceIte, reduceCtorEq, nA, nB, nC, nD, nE, nF]
  exact ⟨_, _, Weak.refl _, Hp.le.refl _, by rw [decide_eq_false (fun e => hc (congrArg List.length e))], rfl⟩
 case pos =>
  rw [decide_eq_true hc] at hn
  (repeat (first | refine gO rfl ?_ | ((first | refine gR ?_ | (with_reducible refine wM ?_ ?_) | ((with_reducible refine xS ?_); refine uD 6 zM34 zPRE zPRP 26 rfl (by kernel_rfl) ?_)) <;> ((try with_reducible intro K1 hK1); simp only [go_sem, ↓reduceIte, reduceCtorEq, nA, nB, nC, nD, nE, nF, hlm, hly, hn, Bool.not_true] <;> and_intros <;> first | (apply hK1; clear hK1 K1) | (intros; first | omega | decide | (simp_all <;> omega)) | skip))))
  refine awp_cond (t := _) rfl (fun h9 => by cases h9) (fun _ => ?_)
  (repeat (first | refine gO rfl ?_ | ((first | refine gR ?_ | (with_reducible refine wM ?_ ?_) | ((with_reducible refine xS ?_); refine uD 6 zM34 zPRE zPRP 26 rfl (by kernel_rfl) ?_)) <;> ((try with_reducible intro K1 hK1); simp only [go_sem, ↓reduceIte, reduceCtorEq, nA, nB, nC, nD, nE, nF, hlm] <;> and_intros <;> first | (apply hK1; clear hK1 K1) | (intros; first | omega | decide | (simp_all <;> omega)) | skip))))
  refine awp_loopC (rl false [0, 2, 9, 3, 12]) 0 (fun g s => ∃ j : Nat, g + j = xs.length ∧ xs.take j = ys.take j ∧
   s = ⟨((.row 1 (xs.map encI) none) :: (.row 1 (ys.map encI) none) :: (jnk 9 ((.row 1 (xs.map encI) none) :: (.v (.int .i64 xs.length)) :: (.v (.int .i64 j)) :: (jnk 12 [])))), [], h⟩) xs.length ⟨0, by omega, rfl, rfl⟩ ?_
  rintro g _ ⟨j, hj, hinv, rfl⟩
  (repeat (first | refine gO rfl ?_ | ((first | refine gR ?_ | (with_reducible refine wM ?_ ?_) | ((with_reducible refine xS ?_); refine uD 6 zM34 zPRE zPRP 26 rfl (by kernel_rfl) ?_)) <;> ((try with_reducible intro K1 hK1); simp only [go_sem, ↓reduceIte, reduceCtorEq, nA, nB, nC, nD, nE, nF] <;> and_intros <;> first | (apply hK1; clear hK1 K1) | (intros; first | omega | decide | (simp_all <;> omega)) | skip))))
  refine awp_cond (t := _) rfl (fun h1 => ?_) (fun h1 => ?_)
  ·simp only [decide_eq_true_eq] at h1
   have hjl : j < xs.length := by omega
   have hjy : j < ys.length := by omega
   have gx : (xs.map encI).getD j [] = [.v (.int .i64 xs[j])] := by rw [List.getD_eq_getElem?_getD, List.getElem?_map, List.getElem?_eq_getElem hjl]; rfl
   have gy : (ys.map encI).getD j [] = [.v (.int .i64 ys[j])] := by rw [List.getD_eq_getElem?_getD, List.getElem?_map, List.getElem?_eq_getElem hjy]; rfl
   have t1 : xs.take (j + 1) = xs.take j ++ [xs[j]] := List.take_succ_eq_append_getElem hjl
   have t2 : ys.take (j + 1) = ys.take j ++ [ys[j]] := List.take_succ_eq_append_getElem hjy
   have hne : xs[j] ≠ ys[j] → xs ≠ ys := fun hh e => hh (by subst e; rfl)
   generalize xs[j] = x at *
   generalize ys[j] = y at *
   (repeat (first | refine gO rfl ?_ | ((first | refine gR ?_ | (with_reducible refine wM ?_ ?_) | ((with_reducible refine xS ?_); refine uD 6 zM34 zPRE zPRP 26 rfl (by kernel_rfl) ?_)) <;> ((try with_reducible intro K1 hK1); simp only [go_sem, ↓reduceIte, reduceCtorEq, nA, nB, nC, nD, nE, nF, Int.toNat_natCast, gx, gy, hlm, hly, hjl, hjy] <;> and_intros <;> first | (apply hK1; clear hK1 K1) | (intros; first | omega | decide | (simp_all <;> omega)) | skip))))
   refine awp_cond (t := _) rfl (fun h9 => ?_) (fun h9 => ?_)
   ·(repeat (first | refine gO rfl ?_ | ((first | refine gR ?_ | (with_reducible refine wM ?_ ?_) | ((with_reducible refine xS ?_); refine uD 6 zM34 zPRE zPRP 26 rfl (by kernel_rfl) ?_)) <;> ((try with_reducible intro K1 hK1); simp only [go_sem, ↓reduceIte, reduceCtorEq, nA, nB, nC, nD, nE, nF] <;> and_intros <;> first | (apply hK1; clear hK1 K1) | (intros; first | omega | decide | (simp_all <;> omega)) | skip))))
    simp only [Tryz.results31, go_sem, ↓reduceIte, reduceCtorEq, nA, nB, nC, nD, nE, nF]
    exact ⟨_, _, Weak.refl _, Hp.le.refl _, by rw [decide_eq_false (hne (by simpa using h9))], rfl⟩
   ·(repeat (first | refine gO rfl ?_ | ((first | refine gR ?_ | (with_reducible refine wM ?_ ?_) | ((with_reducible refine xS ?_); refine uD 6 zM34 zPRE zPRP 26 rfl (by kernel_rfl) ?_)) <;> ((try with_reducible intro K1 hK1); simp only [go_sem, ↓reduceIte, reduceCtorEq, nA, nB, nC, nD, nE, nF] <;> and_intros <;> first | (apply hK1; clear hK1 K1) | (intros; first | omega | decide | (simp_all <;> omega)) | skip))))
    have e : x = y := by simpa using h9
    exact ⟨g - 1, by omega, j + 1, by omega, by rw [t1, t2, hinv, e], rfl⟩
  ·simp only [decide_eq_false_iff_not] at h1
   have hjl : j = xs.length := by omega
   subst hjl
   rw [List.take_length, hc, List.take_length] at hinv
   (repeat (first | refine gO rfl ?_ | ((first | refine gR ?_ | (with_reducible refine wM ?_ ?_) | ((with_reducible refine xS ?_); refine uD 6 zM34 zPRE zPRP 26 rfl (by kernel_rfl) ?_)) <;> ((try with_reducible intro K1 hK1); simp only [go_sem, ↓reduceIte, reduceCtorEq, nA, nB, nC, nD, nE, nF] <;> and_intros <;> first | (apply hK1; clear hK1 K1) | (intros; first | omega | decide | (simp_all <;> omega)) | skip))))
   simp only [Tryz.results31, go_sem, ↓reduceIte, reduceCtorEq, nA, nB, nC, nD, nE, nF]
   exact ⟨_, _, Weak.refl _, Hp.le.refl _, by rw [decide_eq_true hinv], rfl⟩
theorem g_eqW (xs ys : List Wnd) (h : Hp) (hl : xs.length ≤ 1000000 ∧ ys.length ≤ 1000000) : ACalls Tryz.prog 23 [.row 2 (xs.map encW2) none, .row 2 (ys.map encW2) none] h (fun r h' => r = .v (.bool (decide (xs = ys))) ∧ h' = h) := by
 have hlm : (xs.map encW2).length = xs.length := by simp
 have hly : (ys.map encW2).length = ys.length := by simp
 have hn := nN_ne xs.length ys.length
 refine gE Tryz.func23 rfl (by kernel_rfl) 24 rfl fun c => ?_
 by_cases hc : xs.length = ys.length
 case neg =>
  rw [decide_eq_false hc] at hn
  (repeat (first | refine gO rfl ?_ | ((first | refine gR ?_ | (with_reducible refine wM ?_ ?_) | ((with_reducible refine xS ?_); refine uD 6 zM34 zPSE zPSP 26 rfl (by kernel_rfl) ?_)) <;> ((try with_reducible intro K1 hK1); simp only [go_sem, ↓reduceIte, reduceCtorEq, nA, nB, nC, nD, nE, nF, hlm, hly, hn, Bool.not_false] <;> and_intros <;> first | (apply hK1; clear hK1 K1) | (intros; first | omega | decide | (simp_all <;> omega)) | skip))))
  refine awp_cond (t := _) rfl (fun _ => ?_) (fun h9 => by cases h9)
  (repeat (first | refine gO rfl ?_ | ((first | refine gR ?_ | (with_reducible refine wM ?_ ?_) | ((with_reducible refine xS ?_); refine uD 6 zM34 zPSE zPSP 26 rfl (by kernel_rfl) ?_)) <;> ((try with_reducible intro K1 hK1); simp only [go_sem, ↓reduceIte, reduceCtorEq, nA, nB, nC, nD, nE, nF] <;> and_intros <;> first | (apply hK1; clear hK1 K1) | (intros; first | omega | decide | (simp_all <;> omega)) | skip))))
  simp only [Tryz.results23, go_sem, ↓reduceIte, reduceCtorEq, nA, nB, nC, nD, nE, nF]
  exact ⟨_, _, Weak.refl _, Hp.le.refl _, by rw [decide_eq_false (fun e => hc (congrArg List.length e))], rfl⟩
 case pos =>
  rw [decide_eq_true hc] at hn
  (repeat (first | refine gO rfl ?_ | ((first | refine gR ?_ | (with_reducible refine wM ?_ ?_) | ((with_reducible refine xS ?_); refine uD 6 zM34 zPSE zPSP 26 rfl (by kernel_rfl) ?_)) <;> ((try with_reducible intro K1 hK1); simp only [go_sem, ↓reduceIte, reduceCtorEq, nA, nB, nC, nD, nE, nF, hlm, hly, hn, Bool.not_true] <;> and_intros <;> first | (apply hK1; clear hK1 K1) | (intros; first | omega | decide | (simp_all <;> omega)) | skip))))
  refine awp_cond (t := _) rfl (fun h9 => by cases h9) (fun _ => ?_)
  (repeat (first | refine gO rfl ?_ | ((first | refine gR ?_ | (with_reducible refine wM ?_ ?_) | ((with_reducible refine xS ?_); refine uD 6 zM34 zPSE zPSP 26 rfl (by kernel_rfl) ?_)) <;> ((try with_reducible intro K1 hK1); simp only [go_sem, ↓reduceIte, reduceCtorEq, nA, nB, nC, nD, nE, nF, hlm] <;> and_intros <;> first | (apply hK1; clear hK1 K1) | (intros; first | omega | decide | (simp_all <;> omega)) | skip))))
  refine awp_loopC (rl false [0, 2, 9, 3, 12]) 0 (fun g s => ∃ j : Nat, g + j = xs.length ∧ xs.take j = ys.take j ∧
   s = ⟨((.row 2 (xs.map encW2) none) :: (.row 2 (ys.map encW2) none) :: (jnk 9 ((.row 2 (xs.map encW2) none) :: (.v (.int .i64 xs.length)) :: (.v (.int .i64 j)) :: (jnk 12 [])))), [], h⟩) xs.length ⟨0, by omega, rfl, rfl⟩ ?_
  rintro g _ ⟨j, hj, hinv, rfl⟩
  (repeat (first | refine gO rfl ?_ | ((first | refine gR ?_ | (with_reducible refine wM ?_ ?_) | ((with_reducible refine xS ?_); refine uD 6 zM34 zPSE zPSP 26 rfl (by kernel_rfl) ?_)) <;> ((try with_reducible intro K1 hK1); simp only [go_sem, ↓reduceIte, reduceCtorEq, nA, nB, nC, nD, nE, nF] <;> and_intros <;> first | (apply hK1; clear hK1 K1) | (intros; first | omega | decide | (simp_all <;> omega)) | skip))))
  refine awp_cond (t := _) rfl (fun h1 => ?_) (fun h1 => ?_)
  ·simp only [decide_eq_true_eq] at h1
   have hjl : j < xs.length := by omega
   have hjy : j < ys.length := by omega
   have gx : (xs.map encW2).getD j [] = [.v (.int .i64 xs[j].1), .v (.int .i64 xs[j].2)] := by rw [List.getD_eq_getElem?_getD, List.getElem?_map, List.getElem?_eq_getElem hjl]; rfl
   have gy : (ys.map encW2).getD j [] = [.v (.int .i64 ys[j].1), .v (.int .i64 ys[j].2)] := by rw [List.getD_eq_getElem?_getD, List.getElem?_map, List.getElem?_eq_getElem hjy]; rfl
   have t1 : xs.take (j + 1) = xs.take j ++ [xs[j]] := List.take_succ_eq_append_getElem hjl
   have t2 : ys.take (j + 1) = ys.take j ++ [ys[j]] := List.take_succ_eq_append_getElem hjy
   have hne : xs[j] ≠ ys[j] → xs ≠ ys := fun hh e => hh (by subst e; rfl)
   generalize xs[j] = x at *
   generalize ys[j] = y at *
   obtain ⟨x1, x2⟩ := x
   obtain ⟨y1, y2⟩ := y
   simp only at gx gy
   (repeat (first | refine gO rfl ?_ | ((first | refine gR ?_ | (with_reducible refine wM ?_ ?_) | ((with_reducible refine xS ?_); refine uD 6 zM34 zPSE zPSP 26 rfl (by kernel_rfl) ?_)) <;> ((try with_reducible intro K1 hK1); simp only [go_sem, ↓reduceIte, reduceCtorEq, nA, nB, nC, nD, nE, nF, Int.toNat_natCast, gx, gy, hlm, hly, hjl, hjy] <;> and_intros <;> first | (apply hK1; clear hK1 K1) | (intros; first | omega | decide | (simp_all <;> omega)) | skip))))
   refine awp_cond (t := _) rfl (fun h9 => ?_) (fun h9 => ?_)
   ·(repeat (first | refine gO rfl ?_ | ((first | refine gR ?_ | (with_reducible refine wM ?_ ?_) | ((with_reducible refine xS ?_); refine uD 6 zM34 zPSE zPSP 26 rfl (by kernel_rfl) ?_)) <;> ((try with_reducible intro K1 hK1); simp only [go_sem, ↓reduceIte, reduceCtorEq, nA, nB, nC, nD, nE, nF] <;> and_intros <;> first | (apply hK1; clear hK1 K1) | (intros; first | omega | decide | (simp_all <;> omega)) | skip))))
    simp only [Tryz.results23, go_sem, ↓reduceIte, reduceCtorEq, nA, nB, nC, nD, nE, nF]
    exact ⟨_, _, Weak.refl _, Hp.le.refl _, by rw [decide_eq_false (hne fun e => by cases e; simp at h9)], rfl⟩
   ·(repeat (first | refine gO rfl ?_ | ((first | refine gR ?_ | (with_reducible refine wM ?_ ?_) | ((with_reducible refine xS ?_); refine uD 6 zM34 zPSE zPSP 26 rfl (by kernel_rfl) ?_)) <;> ((try with_reducible intro K1 hK1); simp only [go_sem, ↓reduceIte, reduceCtorEq, nA, nB, nC, nD, nE, nF] <;> and_intros <;> first | (apply hK1; clear hK1 K1) | (intros; first | omega | decide | (simp_all <;> omega)) | skip))))
    have e : x1 = y1 ∧ x2 = y2 := by simpa using h9
    exact ⟨g - 1, by omega, j + 1, by omega, by rw [t1, t2, hinv, e.1, e.2], rfl⟩
  ·simp only [decide_eq_false_iff_not] at h1
   have hjl : j = xs.length := by omega
   subst hjl
   rw [List.take_length, hc, List.take_length] at hinv
   (repeat (first | refine gO rfl ?_ | ((first | refine gR ?_ | (with_reducible refine wM ?_ ?_) | ((with_reducible refine xS ?_); refine uD 6 zM34 zPSE zPSP 26 rfl (by kernel_rfl) ?_)) <;> ((try with_reducible intro K1 hK1); simp only [go_sem, ↓reduceIte, reduceCtorEq, nA, nB, nC, nD, nE, nF] <;> and_intros <;> first | (apply hK1; clear hK1 K1) | (intros; first | omega | decide | (simp_all <;> omega)) | skip))))
   simp only [Tryz.results23, go_sem, ↓reduceIte, reduceCtorEq, nA, nB, nC, nD, nE, nF]
   exact ⟨_, _, Weak.refl _, Hp.le.refl _, by rw [decide_eq_true hinv], rfl⟩
def tagsOf : List Gu → ByteArray → List ByteArray
 | [], _ => []
 | p :: l, key => if p.key = key then p.tags else tagsOf l key
theorem whoI_at (key : ByteArray) : ∀ (l : List Gu) (j : Nat), whoI l key j = -1 ∨ ∃ m p, whoI l key j = ((j + m : Nat) : Int) ∧ l[m]? = some p ∧ p.key = key ∧ tagsOf l key = p.tags
 | [], _ => .inl rfl
 | p :: l, j => by
  by_cases h : p.key = key
  ·right
   refine ⟨0, p, ?_, rfl, h, ?_⟩
   ·rw [whoI, if_pos h]; rfl
   ·rw [tagsOf, if_pos h]
  ·rcases whoI_at key l (j + 1) with h1 | ⟨m, q, h1, h2, h3, h4⟩
   ·left; rw [whoI, if_neg h, h1]
   ·right
    refine ⟨m + 1, q, ?_, h2, h3, ?_⟩
    ·rw [whoI, if_neg h, h1]; congr 1; omega
    ·rw [tagsOf, if_neg h, h4]
def longB (a n : Int) : Bool := momF a != 0 || !(decide (1 ≤ n) && decide (n ≤ 345686400000 - a))
def pqF (ps : List Gu) (x : Pq) : Int := if whoI ps x.1 0 < 0 then 8 else if keyB x.2.1 = false then 5 else if longB x.2.2.1 x.2.2.2 = true then 1 else 0
def plsF (ps : List Gu) : List Pq → Int
 | [] => 0
 | x :: l => if pqF ps x = 0 then plsF ps l else pqF ps x
def outG (f : Pq → Bool) : List Pq → Nat → List Int
 | [], _ => []
 | x :: l, i => if f x = true then outG f l (i + 1) else (i : Int) :: outG f l (i + 1)
theorem outG_len (f : Pq → Bool) : ∀ (l : List Pq) (i : Nat), (outG f l i).length ≤ l.length
 | [], _ => Nat.le_refl _
 | x :: l, i => by
  have := outG_len f l (i + 1)
  rw [outG]
  split <;> simp only [List.length_cons] <;> omega
theorem outG_congr (f g : Pq → Bool) : ∀ (l : List Pq) (i : Nat), (∀ x ∈ l, f x = g x) → outG f l i = outG g l i
 | [], _, _ => rfl
 | x :: l, i, h => by
  rw [outG, outG, h x (by simp), outG_congr f g l (i + 1) fun y hy => h y (by simp [hy])]
theorem plsF_ok {ps : List Gu} : ∀ {l : List Pq}, plsF ps l = 0 → ∀ x ∈ l, pqF ps x = 0
 | [], _, _, h => by cases h
 | y :: l, h0, x, hx => by
  rw [plsF] at h0
  by_cases h1 : pqF ps y = 0
  ·rw [if_pos h1] at h0
   rcases List.mem_cons.1 hx with rfl | hx
   ·exact h1
   ·exact plsF_ok h0 x hx
  ·rw [if_neg h1] at h0; exact absurd h0 h1
theorem pqF_ok {ps : List Gu} {x : Pq} (h : pqF ps x = 0) : 0 ≤ whoI ps x.1 0 ∧ keyB x.2.1 = true ∧ 0 ≤ x.2.2.1 ∧ 1 ≤ x.2.2.2 ∧ x.2.2.1 + x.2.2.2 ≤ 345686400000 := by
 unfold pqF at h
 split at h
 ·cases h
 ·split at h
  ·cases h
  ·split at h
   ·cases h
   ·rename_i h1 h2 h3
    rw [Bool.not_eq_true] at h3
    unfold longB at h3
    simp only [Bool.or_eq_false_iff, bne_eq_false_iff_eq, Bool.not_eq_false', Bool.and_eq_true, decide_eq_true_eq] at h3
    obtain ⟨h3, h4, h5⟩ := h3
    have h6 : 0 ≤ x.2.2.1 := by
     unfold momF at h3
     split at h3
     ·omega
     ·cases h3
    exact ⟨by omega, by simpa using h2, h6, h4, by omega⟩
theorem g_playsR (ps : List Gu) (pl : List Pq) (hps : ps.length ≤ 400) (hl : pl.length ≤ 1000) (hok : ∀ x ∈ pl, PqOk x) (h : Hp) :
  ACalls Tryz.prog 35 [.row 4 (ps.map encGu) none, .row 4 (pl.map encPq) none] h (fun r h' => r = .v (.int .i64 (plsF ps pl)) ∧ h' = h) := by
 have hml : (pl.map encPq).length = pl.length := List.length_map _
 refine gE Tryz.func35 rfl (by kernel_rfl) 40 rfl fun c => ?_
 (repeat (first | refine gO rfl ?_ | (refine gM zM36 fun K1 hK1 => ?_; simp only [go_sem, ↓reduceIte, reduceCtorEq, nA, nB, nC, nD, nE, nF, hml] <;> and_intros <;> first | (apply hK1; clear hK1 K1) | (intros; first | omega | decide) | skip)))
 refine awp_cond (t := _) rfl (fun h5 => absurd (of_decide_eq_true h5) (by omega)) (fun _ => ?_)
 (repeat (first | refine gO rfl ?_ | (refine gM zM36 fun K1 hK1 => ?_; simp only [go_sem, ↓reduceIte, reduceCtorEq, nA, nB, nC, nD, nE, nF, hml] <;> and_intros <;> first | (apply hK1; clear hK1 K1) | (intros; first | omega | decide) | skip)))
 refine awp_loopC (rl false [0, 1, 9, 3, 29]) 0 (fun g s => ∃ (j : Nat), g + j = pl.length ∧ plsF ps (pl.drop j) = plsF ps pl ∧
  s = ⟨((.row 4 (ps.map encGu) none) :: (jnk 9 ((.row 4 (pl.map encPq) none) :: (.v (.int .i64 pl.length)) :: (.v (.int .i64 j)) :: (jnk 29 [])))), [], h⟩) pl.length ⟨0, by omega, rfl, rfl⟩ ?_
 rintro g _ ⟨j, hj, hinv, rfl⟩
 (repeat (first | refine gO rfl ?_ | (refine gM zM36 fun K1 hK1 => ?_; simp only [go_sem, ↓reduceIte, reduceCtorEq, nA, nB, nC, nD, nE, nF] <;> and_intros <;> first | (apply hK1; clear hK1 K1) | (intros; first | omega | decide) | skip)))
 refine awp_cond (t := _) rfl (fun h5 => ?_) (fun h5 => ?_)
 ·simp only [decide_eq_true_eq] at h5
  have hjl : j < pl.length := by omega
  have gx : (pl.map encPq).getD j [] = encPq pl[j] := by rw [List.getD_eq_getElem?_getD, List.getElem?_map, List.getElem?_eq_getElem hjl]; rfl
  have hxo := hok _ (List.getElem_mem hjl)
  rw [List.drop_eq_getElem_cons hjl, plsF] at hinv
  generalize pl[j] = x at *
  obtain ⟨who, it, fr, lo⟩ := x
  rw [show encPq (who, it, fr, lo) = [.v (.string who), .v (.string it), .v (.int .i64 fr), .v (.int .i64 lo)] from rfl] at gx
  obtain ⟨hw1, hw2, hw3, hw4⟩ := hxo
  simp only at hw1 hw2 hw3 hw4
  have hpf : pqF ps (who, it, fr, lo) = if whoI ps who 0 < 0 then 8 else if keyB it = false then 5 else if longB fr lo = true then 1 else 0 := rfl
  rw [hpf] at hinv
  clear hpf
  have hWho := g_playerAt ps who (by omega) h
  have hKey := a_key it (by omega) h
  have hMom := g_momFault fr h
  have hIn := g_in lo 1 (345686400000 - fr) h
  have hlb : longB fr lo = (momF fr != 0 || !(decide (1 ≤ lo) && decide (lo ≤ 345686400000 - fr))) := rfl
  rw [hlb] at hinv
  clear hlb
  have hrng : momF fr = 0 ∨ momF fr = 1 := by unfold momF; split <;> simp
  have hwb : -1 ≤ whoI ps who 0 := by
   rcases whoI_at who ps 0 with e | ⟨m, p, e, _⟩ <;> omega
  generalize whoI ps who 0 = w at *
  (repeat (first | refine gO rfl ?_ | (refine gM zM36 fun K1 hK1 => ?_; simp only [go_sem, ↓reduceIte, reduceCtorEq, nA, nB, nC, nD, nE, nF, hml, Int.toNat_natCast, gx] <;> and_intros <;> first | (apply hK1; clear hK1 K1) | (intros; first | omega | decide) | skip)))
  refine hWho.mono ?_; rintro _ hz ⟨rfl, hh⟩; apply hK1; clear hK1 K1; rw [hh]; clear hh hz
  (repeat (first | refine gO rfl ?_ | (refine gM zM36 fun K1 hK1 => ?_; simp only [go_sem, ↓reduceIte, reduceCtorEq, nA, nB, nC, nD, nE, nF] <;> and_intros <;> first | (apply hK1; clear hK1 K1) | (intros; first | omega | decide) | skip)))
  by_cases hw : w < 0
  ·rw [if_pos hw, if_neg (by decide)] at hinv
   refine awp_cond (t := _) rfl (fun _ => ?_) (fun h6 => absurd hw (of_decide_eq_false h6))
   (repeat (first | refine gO rfl ?_ | (refine gM zM36 fun K1 hK1 => ?_; simp only [go_sem, ↓reduceIte, reduceCtorEq, nA, nB, nC, nD, nE, nF] <;> and_intros <;> first | (apply hK1; clear hK1 K1) | (intros; first | omega | decide) | skip)))
   simp only [Tryz.results35, go_sem, ↓reduceIte, reduceCtorEq, nA, nB, nC, nD, nE, nF]
   exact ⟨_, _, Weak.refl _, Hp.le.refl _, by rw [← hinv], rfl⟩
  ·rw [if_neg hw] at hinv
   refine awp_cond (t := _) rfl (fun h6 => absurd (of_decide_eq_true h6) hw) (fun _ => ?_)
   (repeat (first | refine gO rfl ?_ | (refine gM zM36 fun K1 hK1 => ?_; simp only [go_sem, ↓reduceIte, reduceCtorEq, nA, nB, nC, nD, nE, nF] <;> and_intros <;> first | (apply hK1; clear hK1 K1) | (intros; first | omega | decide) | skip)))
   refine hKey.mono ?_; rintro _ hz ⟨rfl, hh⟩; apply hK1; clear hK1 K1; rw [hh]; clear hh hz
   cases hk : keyB it with
   | false =>
    rw [hk, if_pos rfl, if_neg (by decide)] at hinv
    (repeat (first | refine gO rfl ?_ | (refine gM zM36 fun K1 hK1 => ?_; simp only [go_sem, ↓reduceIte, reduceCtorEq, nA, nB, nC, nD, nE, nF, hk, Bool.not_false] <;> and_intros <;> first | (apply hK1; clear hK1 K1) | (intros; first | omega | decide) | skip)))
    refine awp_cond (t := _) rfl (fun _ => ?_) (fun h6 => by cases h6)
    (repeat (first | refine gO rfl ?_ | (refine gM zM36 fun K1 hK1 => ?_; simp only [go_sem, ↓reduceIte, reduceCtorEq, nA, nB, nC, nD, nE, nF] <;> and_intros <;> first | (apply hK1; clear hK1 K1) | (intros; first | omega | decide) | skip)))
    simp only [Tryz.results35, go_sem, ↓reduceIte, reduceCtorEq, nA, nB, nC, nD, nE, nF]
    exact ⟨_, _, Weak.refl _, Hp.le.refl _, by rw [← hinv], rfl⟩
   | true =>
    rw [hk, if_neg (show ¬ (true = false) by decide)] at hinv
    (repeat (first | refine gO rfl ?_ | (refine gM zM36 fun K1 hK1 => ?_; simp only [go_sem, ↓reduceIte, reduceCtorEq, nA, nB, nC, nD, nE, nF, hk, Bool.not_true] <;> and_intros <;> first | (apply hK1; clear hK1 K1) | (intros; first | omega | decide) | skip)))
    refine awp_cond (t := _) rfl (fun h6 => by cases h6) (fun _ => ?_)
    (repeat (first | refine gO rfl ?_ | (refine gM zM36 fun K1 hK1 => ?_; simp only [go_sem, ↓reduceIte, reduceCtorEq, nA, nB, nC, nD, nE, nF] <;> and_intros <;> first | (apply hK1; clear hK1 K1) | (intros; first | omega | decide) | skip)))
    refine hMom.mono ?_; rintro _ hz ⟨rfl, hh⟩; apply hK1; clear hK1 K1; rw [hh]; clear hh hz
    rcases hrng with hz | hz
    ·have hb : (momF fr != 0) = false := by rw [hz]; rfl
     rw [hb, Bool.false_or] at hinv
     (repeat (first | refine gO rfl ?_ | (refine gM zM36 fun K1 hK1 => ?_; simp only [go_sem, ↓reduceIte, reduceCtorEq, nA, nB, nC, nD, nE, nF, hb] <;> and_intros <;> first | (apply hK1; clear hK1 K1) | (intros; first | omega | decide) | skip)))
     rotate_left
     ·exact fun h => h.elim
     refine hIn.mono ?_
     rintro _ hz ⟨rfl, hh⟩; refine ⟨rfl, ?_⟩; apply hK1; clear hK1 K1; rw [hh]; clear hh hz
     cases hc : (decide (1 ≤ lo) && decide (lo ≤ 345686400000 - fr)) with
     | false =>
      rw [hc] at hinv
      (repeat (first | refine gO rfl ?_ | (refine gM zM36 fun K1 hK1 => ?_; simp only [go_sem, ↓reduceIte, reduceCtorEq, nA, nB, nC, nD, nE, nF, Bool.not_false] <;> and_intros <;> first | (apply hK1; clear hK1 K1) | (intros; first | omega | decide) | skip)))
      refine awp_cond (t := _) rfl (fun _ => ?_) (fun h6 => by cases h6)
      (repeat (first | refine gO rfl ?_ | (refine gM zM36 fun K1 hK1 => ?_; simp only [go_sem, ↓reduceIte, reduceCtorEq, nA, nB, nC, nD, nE, nF] <;> and_intros <;> first | (apply hK1; clear hK1 K1) | (intros; first | omega | decide) | skip)))
      simp only [Tryz.results35, go_sem, ↓reduceIte, reduceCtorEq, nA, nB, nC, nD, nE, nF]
      exact ⟨_, _, Weak.refl _, Hp.le.refl _, by rw [← hinv]; rfl, rfl⟩
     | true =>
      rw [hc] at hinv
      (repeat (first | refine gO rfl ?_ | (refine gM zM36 fun K1 hK1 => ?_; simp only [go_sem, ↓reduceIte, reduceCtorEq, nA, nB, nC, nD, nE, nF, Bool.not_true] <;> and_intros <;> first | (apply hK1; clear hK1 K1) | (intros; first | omega | decide) | skip)))
      refine awp_cond (t := _) rfl (fun h6 => by cases h6) (fun _ => ?_)
      (repeat (first | refine gO rfl ?_ | (refine gM zM36 fun K1 hK1 => ?_; simp only [go_sem, ↓reduceIte, reduceCtorEq, nA, nB, nC, nD, nE, nF] <;> and_intros <;> first | (apply hK1; clear hK1 K1) | (intros; first | omega | decide) | skip)))
      exact ⟨g - 1, by omega, j + 1, by omega, by simpa using hinv, rfl⟩
    ·have hb : (momF fr != 0) = true := by rw [hz]; rfl
     rw [hb, Bool.true_or] at hinv
     (repeat (first | refine gO rfl ?_ | (refine gM zM36 fun K1 hK1 => ?_; simp only [go_sem, ↓reduceIte, reduceCtorEq, nA, nB, nC, nD, nE, nF, hb] <;> and_intros <;> first | (apply hK1; clear hK1 K1) | (intros; first | omega | decide) | skip)))
     refine awp_cond (t := _) rfl (fun _ => ?_) (fun h6 => by cases h6)
     (repeat (first | refine gO rfl ?_ | (refine gM zM36 fun K1 hK1 => ?_; simp only [go_sem, ↓reduceIte, reduceCtorEq, nA, nB, nC, nD, nE, nF] <;> and_intros <;> first | (apply hK1; clear hK1 K1) | (intros; first | omega | decide) | skip)))
     simp only [Tryz.results35, go_sem, ↓reduceIte, reduceCtorEq, nA, nB, nC, nD, nE, nF]
     exact ⟨_, _, Weak.refl _, Hp.le.refl _, by rw [← hinv]; rfl, rfl⟩
 ·simp only [decide_eq_false_iff_not] at h5
  have hjl : j = pl.length := by omega
  subst hjl
  rw [List.drop_length, plsF] at hinv
  (repeat (first | refine gO rfl ?_ | (refine gM zM36 fun K1 hK1 => ?_; simp only [go_sem, ↓reduceIte, reduceCtorEq, nA, nB, nC, nD, nE, nF] <;> and_intros <;> first | (apply hK1; clear hK1 K1) | (intros; first | omega | decide) | skip)))
  simp only [Tryz.results35, go_sem, ↓reduceIte, reduceCtorEq, nA, nB, nC, nD, nE, nF]
  exact ⟨_, _, Weak.refl _, Hp.le.refl _, by rw [← hinv], rfl⟩
def orI : List Int → Int
 | [] => 0
 | x :: l => if x = 0 then orI l else x
theorem orI_at (l : List Int) (j : Nat) (h : j < l.length) (h0 : ∀ i, i < j → l.getD i 0 = 0) (hn : l.getD j 0 ≠ 0) : orI l = l.getD j 0 := by
 induction l generalizing j with
 | nil => simp at h
 | cons x l ih =>
  cases j with
  | zero => rw [orI, if_neg (by simpa using hn)]; rfl
  | succ j =>
   have hx := h0 0 (by omega)
   simp only [List.getD_cons_zero] at hx
   rw [orI, if_pos hx, List.getD_cons_succ]
   exact ih j (by simpa using h) (fun i hi => by simpa using h0 (i + 1) (by omega)) (by simpa using hn)
theorem orI_zero (l : List Int) (h : ∀ i, i < l.length → l.getD i 0 = 0) : orI l = 0 := by
 induction l with
 | nil => rfl
 | cons x l ih =>
  have hx := h 0 (by simp)
  simp only [List.getD_cons_zero] at hx
  rw [orI, if_pos hx]
  exact ih fun i hi => by simpa using h (i + 1) (by simpa using hi)
theorem g_orG (l : List Int) (h : Hp) (hl : l.length ≤ 1000) : ACalls Tryz.prog 17 [.row 1 (l.map encI) none] h (fun r h' => r = .v (.int .i64 (orI l)) ∧ h' = h) := by
 refine gE Tryz.func17 rfl (by kernel_rfl) 17 rfl fun c => ?_
 (repeat (first | refine gO rfl ?_ | (refine gR fun K1 hK1 => ?_; simp only [go_sem, ↓reduceIte, reduceCtorEq, nA, nB, nC, nD, nE, nF] <;> and_intros <;> first | (apply hK1; clear hK1 K1) | (intros; first | omega | decide | (simp_all <;> omega)) | skip)))
 refine awp_loopC (rl false [3, 1, 2, 3, 9]) 0 (fun g s => ∃ j : Nat, g + j = l.length ∧ (∀ i, i < j → l.getD i 0 = 0) ∧
  s = ⟨((jnk 3 ((.v (.int .i64 0)) :: AV.junk :: AV.junk :: ((.row 1 (l.map encI) none) :: (.v (.int .i64 l.length)) :: (.v (.int .i64 j)) :: (jnk 9 []))))), [], h⟩) l.length ⟨0, by omega, by omega, rfl⟩ ?_
 rintro g _ ⟨j, hj, h0, rfl⟩
 (repeat (first | refine gO rfl ?_ | (refine gR fun K1 hK1 => ?_; simp only [go_sem, ↓reduceIte, reduceCtorEq, nA, nB, nC, nD, nE, nF] <;> and_intros <;> first | (apply hK1; clear hK1 K1) | (intros; first | omega | decide | (simp_all <;> omega)) | skip)))
 refine awp_cond (t := _) rfl (fun h3 => ?_) (fun h3 => ?_)
 ·simp only [decide_eq_true_eq] at h3
  have hjl : j < l.length := by omega
  have hgx : (l.map encI).getD j [] = [.v (.int .i64 (l.getD j 0))] := getD_enc encI l j 0 hjl
  have hat := orI_at l j hjl h0
  obtain ⟨x, hx⟩ : ∃ x, x = l.getD j 0 := ⟨_, rfl⟩
  rw [← hx] at hgx hat
  (repeat (first | refine gO rfl ?_ | (refine gR fun K1 hK1 => ?_; simp only [go_sem, ↓reduceIte, reduceCtorEq, nA, nB, nC, nD, nE, nF, Int.toNat_natCast, hgx] <;> and_intros <;> first | (apply hK1; clear hK1 K1) | (intros; first | omega | decide | (simp_all <;> omega)) | skip)))
  refine awp_cond (t := _) rfl (fun h4 => ?_) (fun h4 => ?_)
  ·have h4' : x ≠ 0 := by simpa using h4
   (repeat (first | refine gO rfl ?_ | (refine gR fun K1 hK1 => ?_; simp only [go_sem, ↓reduceIte, reduceCtorEq, nA, nB, nC, nD, nE, nF] <;> and_intros <;> first | (apply hK1; clear hK1 K1) | (intros; first | omega | decide | (simp_all <;> omega)) | skip)))
   simp only [Tryz.results17, go_sem, ↓reduceIte, reduceCtorEq, nA, nB, nC, nD, nE, nF]
   exact ⟨_, _, Weak.refl _, Hp.le.refl _, by rw [hat h4'], rfl⟩
  ·have h4' : x = 0 := by simpa using h4
   (repeat (first | refine gO rfl ?_ | (refine gR fun K1 hK1 => ?_; simp only [go_sem, ↓reduceIte, reduceCtorEq, nA, nB, nC, nD, nE, nF] <;> and_intros <;> first | (apply hK1; clear hK1 K1) | (intros; first | omega | decide | (simp_all <;> omega)) | skip)))
   exact ⟨g - 1, by omega, j + 1, by omega, fun i hi => by
    by_cases e : i = j
    ·rw [e, ← hx]; exact h4'
    ·exact h0 i (by omega), rfl⟩
 ·simp only [decide_eq_false_iff_not] at h3
  have hjl : j = l.length := by omega
  subst hjl
  (repeat (first | refine gO rfl ?_ | (refine gR fun K1 hK1 => ?_; simp only [go_sem, ↓reduceIte, reduceCtorEq, nA, nB, nC, nD, nE, nF] <;> and_intros <;> first | (apply hK1; clear hK1 K1) | (intros; first | omega | decide | (simp_all <;> omega)) | skip)))
  simp only [Tryz.results17, go_sem, ↓reduceIte, reduceCtorEq, nA, nB, nC, nD, nE, nF]
  exact ⟨_, _, Weak.refl _, Hp.le.refl _, by rw [orI_zero l h0], rfl⟩
theorem g_order {K : Nat → Kp} {ci k : Nat} {room rule now : Int} {ps : List Nat} {h : Hp} (hC : h.H ci = some (.cells (encCa room rule now k ps.length))) (hT : h.T k = some (.cont 1 (ps.map encR))) (hl : ps.length ≤ 12) (hK : CacheH h K ps) :
  ACalls Tryz.prog 191 [.ptr ci 0] h (fun r h' => ∃ q, r = .arr 1 q (orderF rule K ps).length ∧ h'.H = h.H ∧ h'.T q = some (.cont 1 ((orderF rule K ps).map encR)) ∧ h.T q = none ∧ ∀ t, h.T t ≠ none → h'.T t = h.T t) := by
 have hcl := g_cloneK k ps h hT (by omega)
 refine gE Tryz.func191 rfl (by kernel_rfl) 14 rfl fun c => ?_
 (repeat (first | refine gO rfl ?_ | (refine gR fun K1 hK1 => ?_; simp only [go_sem, ↓reduceIte, reduceCtorEq, nA, nB, nC, nD, nE, nF, hC, encCa] <;> and_intros <;> first | (apply hK1; clear hK1 K1) | (intros; first | omega | decide | (simp_all <;> omega)) | skip)))
 refine hcl.mono ?_
 rintro _ _ ⟨q, rfl, hq, rfl⟩
 refine hK1 _ ?_; clear hK1 K1
 have hqk : k ≠ q := by rintro rfl; rw [hT] at hq; cases hq
 have hde := g_delK (caps := []) (fun p => (K p).2.2.1) q ps ⟨h.H, upd h.T q (some (.cont 1 (ps.map encR)))⟩ (upd_same _ _ _) (by omega) (fun p hp T' => g_order1 (h := ⟨h.H, T'⟩) (hK p hp))
 (repeat (first | refine gO rfl ?_ | (refine gR fun K1 hK1 => ?_; simp only [go_sem, ↓reduceIte, reduceCtorEq, nA, nB, nC, nD, nE, nF] <;> and_intros <;> first | (apply hK1; clear hK1 K1) | (intros; first | omega | decide) | skip)))
 refine hde.mono ?_
 rintro _ ⟨H2, T2⟩ ⟨q1, rfl, hH, hT1, hoth⟩
 simp only at hH hT1
 subst hH
 refine hK1 _ ?_; clear hK1 K1
 have hf1 : (ps.filter fun p => !(K p).2.2.1).length ≤ 12 := Nat.le_trans (List.length_filter_le _ _) hl
 have hsr := g_srtK (caps := [.ptr ci 0]) (fun p q => cmpK rule (K p) (K q)) q1 (ps.filter fun p => !(K p).2.2.1) ⟨h.H, T2⟩ hT1 hf1 (fun a ha b hb T' => g_compK (h := ⟨h.H, T'⟩) hC (hK a (List.mem_filter.1 ha).1) (hK b (List.mem_filter.1 hb).1))
 (repeat (first | refine gO rfl ?_ | (refine gR fun K1 hK1 => ?_; simp only [go_sem, ↓reduceIte, reduceCtorEq, nA, nB, nC, nD, nE, nF] <;> and_intros <;> first | (apply hK1; clear hK1 K1) | (intros; first | omega | decide) | skip)))
 refine hsr.mono ?_
 rintro _ _ ⟨rfl, rfl⟩
 refine hK1 _ ?_; clear hK1 K1
 (repeat (first | refine gO rfl ?_ | (refine gR fun K1 hK1 => ?_; simp only [go_sem, ↓reduceIte, reduceCtorEq, nA, nB, nC, nD, nE, nF] <;> and_intros <;> first | (apply hK1; clear hK1 K1) | (intros; first | omega | decide) | skip)))
 simp only [Tryz.results191, go_sem, ↓reduceIte, reduceCtorEq, nA, nB, nC, nD, nE, nF]
 refine ⟨_, _, Weak.refl _, Hp.le.refl _, q1, ?_, rfl, upd_same _ _ _, ?_, ?_⟩
 ·rw [orderF, sortI_len]
 ·by_cases e : q1 = q
  ·rw [e]; exact hq
  ·cases e9 : h.T q1 with
   | none => rfl
   | some o =>
    have := (hoth q1 e (by simp only [upd_other _ _ e, e9]; simp)).1
    exact absurd rfl this
 ·intro t ht
  have htq : t ≠ q := by rintro rfl; exact ht hq
  have h9 := hoth t htq (by simp only [upd_other _ _ htq]; exact ht)
  show upd T2 q1 _ t = _
  rw [upd_other _ _ h9.1]
  refine h9.2.trans ?_
  exact upd_other _ _ htq
theorem g_going {K : Nat → Kp} {ci k : Nat} {room rule now bytes : Int} {item : ByteArray} {ps : List Nat} {h : Hp} (hC : h.H ci = some (.cells (encCa room rule now k ps.length))) (hT : h.T k = some (.cont 1 (ps.map encR))) (hl : ps.length ≤ 12) (hK : CacheH h K ps)
  (hB : ∀ p ∈ ps, 0 ≤ (K p).2.1 ∧ (K p).2.1 ≤ 1000000000000) (hr : 0 ≤ room ∧ room ≤ 1000000000000) (hb : 0 ≤ bytes ∧ bytes ≤ 1000000000000) :
  ACalls Tryz.prog 165 [.ptr ci 0, .v (.string item), .v (.int .i64 bytes)] h (fun r h' => ∃ kt, r = .tup [.row 1 ((goingF item bytes room rule K ps).1.map encR) (some kt), .v (.bool (decide ((goingF item bytes room rule K ps).2 ≤ 0)))] ∧ h'.H = h.H ∧ ∀ t, h.T t ≠ none → h'.T t = h.T t) := by
 have hml : (ps.map encR).length = ps.length := List.length_map _
 refine gE Tryz.func165 rfl (by kernel_rfl) 68 rfl fun c => ?_
 (repeat (first | refine gO rfl ?_ | (refine gR fun K1 hK1 => ?_; simp only [go_sem, ↓reduceIte, reduceCtorEq, nA, nB, nC, nD, nE, nF, hC, encCa] <;> and_intros <;> first | (apply hK1; clear hK1 K1) | (intros; first | omega | decide | (simp_all <;> omega)) | skip)))
 refine awp_loopC (rl false [0, 3, 5, 1, 14, 3, 45]) 0 (fun g s => ∃ (j : Nat) (o : Int), g + j = ps.length ∧ overF item K (ps.drop j) o = overF item K ps (bytes - room) ∧ -1000000000000 ≤ o ∧ o ≤ 1000000000000 + j * 1000000000000 ∧
  s = ⟨((.ptr ci 0) :: (.v (.string item)) :: (.v (.int .i64 bytes)) :: (jnk 5 ((.v (.int .i64 o)) :: (jnk 14 ((.arr 1 k ps.length) :: (.v (.int .i64 ps.length)) :: (.v (.int .i64 j)) :: (jnk 45 [])))))), [], h⟩) ps.length ⟨0, bytes - room, by omega, by rw [List.drop_zero], by omega, by omega, rfl⟩ ?_
 rintro g _ ⟨j, o, hj, ho, ho1, ho2, rfl⟩
 (repeat (first | refine gO rfl ?_ | (refine gR fun K1 hK1 => ?_; simp only [go_sem, ↓reduceIte, reduceCtorEq, nA, nB, nC, nD, nE, nF] <;> and_intros <;> first | (apply hK1; clear hK1 K1) | (intros; first | omega | decide) | skip)))
 refine awp_cond (t := _) rfl (fun h1 => ?_) (fun h1 => ?_)
 ·simp only [decide_eq_true_eq] at h1
  have hjl : j < ps.length := by omega
  have gx : (ps.map encR).getD j [] = encR (ps.getD j default) := getD_enc encR ps j default hjl
  have hdj := drop_at' ps j default hjl
  have hpm : ps.getD j default ∈ ps := by rw [List.getD_eq_getElem?_getD, List.getElem?_eq_getElem hjl]; exact List.getElem_mem _
  obtain ⟨p, hp⟩ : ∃ p, ps.getD j default = p := ⟨_, rfl⟩
  rw [hp] at gx hdj hpm
  have hhp := hK p hpm
  have hbp := hB p hpm
  obtain ⟨o9, ho9⟩ : ∃ o9, overF item K ps (bytes - room) = o9 := ⟨_, rfl⟩
  rw [ho9] at ho ⊢
  rw [hdj, overF] at ho
  generalize K p = x at *
  obtain ⟨ke, by1, pi, ca, la, ma⟩ := x
  simp only at ho hbp
  (repeat (first | refine gO rfl ?_ | (refine gR fun K1 hK1 => ?_; simp only [go_sem, ↓reduceIte, reduceCtorEq, nA, nB, nC, nD, nE, nF, hT, hml, Int.toNat_natCast, gx, encR, hhp, encKp] <;> and_intros <;> first | (apply hK1; clear hK1 K1) | (intros; first | omega | decide) | skip)))
  by_cases e : ke = item
  ·refine awp_cond (t := _) rfl (fun h9 => absurd h9 (by rw [e]; simp [ba_beq])) (fun _ => ?_)
   rw [if_pos e] at ho
   (repeat (first | refine gO rfl ?_ | (refine gR fun K1 hK1 => ?_; simp only [go_sem, ↓reduceIte, reduceCtorEq, nA, nB, nC, nD, nE, nF] <;> and_intros <;> first | (apply hK1; clear hK1 K1) | (intros; first | omega | decide) | skip)))
   exact ⟨g - 1, by omega, j + 1, o, by omega, ho, ho1, by omega, rfl⟩
  ·refine awp_cond (t := _) rfl (fun _ => ?_) (fun h9 => absurd (by simpa [ba_beq] using h9) e)
   rw [if_neg e] at ho
   (repeat (first | refine gO rfl ?_ | (refine gR fun K1 hK1 => ?_; simp only [go_sem, ↓reduceIte, reduceCtorEq, nA, nB, nC, nD, nE, nF, hhp, encKp] <;> and_intros <;> first | (apply hK1; clear hK1 K1) | (intros; first | omega | decide) | skip)))
   exact ⟨g - 1, by omega, j + 1, o + by1, by omega, ho, by omega, by omega, rfl⟩
 ·simp only [decide_eq_false_iff_not] at h1
  have hjl : j = ps.length := by omega
  subst hjl
  rw [List.drop_length] at ho
  simp only [overF] at ho
  (repeat refine gO rfl ?_)
  refine awp_seq ?_
  refine awp_AL ?_
  refine AL.cons rfl (Quiet.aop (q_move (.inr rfl)) ?_)
  refine AL.nil ?_
  refine awp_own 11 1 rfl ⟨rfl, rfl⟩ (fun kt hkt => ?_)
  refine awp_cut (rl false [0, 3, 5, 1, 2, 1, 59]) 0 (?_ : Awp _ _ _ _ ⟨((.ptr ci 0) :: (.v (.string item)) :: (.v (.int .i64 bytes)) :: (jnk 5 ((.v (.int .i64 o)) :: AV.junk :: AV.junk :: ((.row 1 [] (some kt)) :: (jnk 59 []))))), [], ⟨h.H, upd h.T kt (some (.tail 0))⟩⟩)
  have hkt' : h.T kt = none := hkt
  have hkk : k ≠ kt := by rintro rfl; rw [hT] at hkt'; cases hkt'
  have hor := g_order (K := K) (rule := rule) (h := ⟨h.H, upd h.T kt (some (.tail 0))⟩) hC ((upd_other _ _ hkk).trans hT) hl hK
  (repeat (first | refine gO rfl ?_ | (refine gR fun K1 hK1 => ?_; simp only [go_sem, ↓reduceIte, reduceCtorEq, nA, nB, nC, nD, nE, nF] <;> and_intros <;> first | (apply hK1; clear hK1 K1) | (intros; first | omega | decide) | skip)))
  refine hor.mono ?_
  rintro _ ⟨H2, T2⟩ ⟨q, rfl, hH, hT2, hq, hoth⟩
  simp only at hH hT2
  subst hH
  refine hK1 _ ?_; clear hK1 K1 hor
  have hqkt : q ≠ kt := by
   intro e
   have hq' : upd h.T kt (some (.tail 0)) q = none := hq
   rw [e, upd_same] at hq'; cases hq'
  have hT2k : T2 kt = some (.tail 0) := by
   have := hoth kt (by show upd h.T kt _ kt ≠ none; rw [upd_same]; simp)
   exact this.trans (upd_same _ _ _)
  have hold : ∀ t, h.T t ≠ none → T2 t = h.T t ∧ t ≠ kt := fun t ht => by
   have htk : t ≠ kt := by rintro rfl; exact ht hkt'
   have := hoth t (by show upd h.T kt _ t ≠ none; rw [upd_other _ _ htk]; exact ht)
   exact ⟨this.trans (upd_other _ _ htk), htk⟩
  have hom : ∀ p ∈ orderF rule K ps, p ∈ ps := fun p hp => orderF_mem hp
  have hol := orderF_len rule K ps
  unfold goingF
  rw [← ho]
  generalize orderF rule K ps = ord at *
  generalize hG : goF item K ord o = G
  have hol2 : (ord.map encR).length = ord.length := List.length_map _
  clear hoth
  (repeat (first | refine gO rfl ?_ | (refine gR fun K1 hK1 => ?_; simp only [go_sem, ↓reduceIte, reduceCtorEq, nA, nB, nC, nD, nE, nF] <;> and_intros <;> first | (apply hK1; clear hK1 K1) | (intros; first | omega | decide) | skip)))
  refine awp_loopC (rl false [0, 3, 5, 1, 2, 1, 31, 3, 25]) 0 (fun g s => ∃ (j : Nat) (o : Int) (acc : List Nat), g + j = ord.length ∧ acc ++ (goF item K (ord.drop j) o).1 = G.1 ∧ (goF item K (ord.drop j) o).2 = G.2 ∧ acc.length ≤ j ∧ -1000000000000 ≤ o ∧ o ≤ 100000000000000 ∧
   s = ⟨((.ptr ci 0) :: (.v (.string item)) :: (.v (.int .i64 bytes)) :: (jnk 5 ((.v (.int .i64 o)) :: AV.junk :: AV.junk :: ((.row 1 (acc.map encR) (some kt)) :: (jnk 31 ((.arr 1 q ord.length) :: (.v (.int .i64 ord.length)) :: (.v (.int .i64 j)) :: (jnk 25 []))))))), [], ⟨h.H, upd T2 kt (some (.tail acc.length))⟩⟩) ord.length ⟨0, o, [], by omega, by rw [List.drop_zero, hG]; rfl, by rw [List.drop_zero, hG], Nat.le_refl _, ho1, by omega, ?_⟩ ?_
  ·have e2 : upd T2 kt (some (TO.tail ([] : List Nat).length)) = T2 := by
    funext t
    by_cases e : t = kt
    ·rw [e, upd_same, hT2k]; rfl
    ·rw [upd_other _ _ e]
   rw [e2]; rfl
  rintro g _ ⟨j, o2, acc, hj, hg1, hg2, hac, hb1, hb2, rfl⟩
  (repeat (first | refine gO rfl ?_ | (refine gR fun K1 hK1 => ?_; simp only [go_sem, ↓reduceIte, reduceCtorEq, nA, nB, nC, nD, nE, nF] <;> and_intros <;> first | (apply hK1; clear hK1 K1) | (intros; first | omega | decide) | skip)))
  refine awp_cond (t := _) rfl (fun h1 => ?_) (fun h1 => ?_)
  ·simp only [decide_eq_true_eq] at h1
   have hjl : j < ord.length := by omega
   have gx : (ord.map encR).getD j [] = encR (ord.getD j default) := getD_enc encR ord j default hjl
   have hdj := drop_at' ord j default hjl
   have hpm : ord.getD j default ∈ ord := by rw [List.getD_eq_getElem?_getD, List.getElem?_eq_getElem hjl]; exact List.getElem_mem _
   obtain ⟨p, hp⟩ : ∃ p, ord.getD j default = p := ⟨_, rfl⟩
   rw [hp] at gx hdj hpm
   have hhp := hK p (hom p hpm)
   have hbp := hB p (hom p hpm)
   have htq : upd T2 kt (some (TO.tail acc.length)) q = some (.cont 1 (ord.map encR)) := (upd_other _ _ hqkt).trans hT2
   have htk2 : upd T2 kt (some (TO.tail acc.length)) kt = some (.tail acc.length) := upd_same _ _ _
   rw [hdj, goF] at hg1 hg2
   generalize K p = x at *
   obtain ⟨ke, by1, pi, ca, la, ma⟩ := x
   simp only at hg1 hg2 hbp
   (repeat (first | refine gO rfl ?_ | (refine gR fun K1 hK1 => ?_; simp only [go_sem, ↓reduceIte, reduceCtorEq, nA, nB, nC, nD, nE, nF, htq, hol2, Int.toNat_natCast, gx, encR] <;> and_intros <;> first | (apply hK1; clear hK1 K1) | (intros; first | omega | decide) | skip)))
   refine awp_cond (t := _) rfl (fun h2 => ?_) (fun h2 => ?_)
   ·simp only [decide_eq_true_eq] at h2
    rw [if_pos h2] at hg1 hg2
    simp only at hg1 hg2
    (repeat (first | refine gO rfl ?_ | (refine gR fun K1 hK1 => ?_; simp only [go_sem, ↓reduceIte, reduceCtorEq, nA, nB, nC, nD, nE, nF] <;> and_intros <;> first | (apply hK1; clear hK1 K1) | (intros; first | omega | decide) | skip)))
    simp only [Tryz.results165, go_sem, ↓reduceIte, reduceCtorEq, nA, nB, nC, nD, nE, nF]
    refine ⟨_, _, Weak.refl _, Hp.le.refl _, kt, by rw [← hg1, ← hg2, List.append_nil], rfl, fun t ht => ?_⟩
    exact (upd_other _ _ (hold t ht).2).trans (hold t ht).1
   ·simp only [decide_eq_false_iff_not] at h2
    rw [if_neg h2] at hg1 hg2
    (repeat (first | refine gO rfl ?_ | (refine gR fun K1 hK1 => ?_; simp only [go_sem, ↓reduceIte, reduceCtorEq, nA, nB, nC, nD, nE, nF, hhp, encKp] <;> and_intros <;> first | (apply hK1; clear hK1 K1) | (intros; first | omega | decide) | skip)))
    by_cases e : ke = item
    ·refine awp_cond (t := _) rfl (fun h9 => absurd h9 (by rw [e]; simp [ba_beq])) (fun _ => ?_)
     rw [if_pos e] at hg1 hg2
     (repeat (first | refine gO rfl ?_ | (refine gR fun K1 hK1 => ?_; simp only [go_sem, ↓reduceIte, reduceCtorEq, nA, nB, nC, nD, nE, nF] <;> and_intros <;> first | (apply hK1; clear hK1 K1) | (intros; first | omega | decide) | skip)))
     exact ⟨g - 1, by omega, j + 1, o2, acc, by omega, hg1, hg2, by omega, hb1, hb2, rfl⟩
    ·refine awp_cond (t := _) rfl (fun _ => ?_) (fun h9 => absurd (by simpa [ba_beq] using h9) e)
     rw [if_neg e] at hg1 hg2
     (repeat (first | refine gO rfl ?_ | (refine gR fun K1 hK1 => ?_; simp only [go_sem, ↓reduceIte, reduceCtorEq, nA, nB, nC, nD, nE, nF, hhp, encKp, htk2, List.length_map] <;> and_intros <;> first | (apply hK1; clear hK1 K1) | (intros; first | omega | decide) | skip)))
     refine ⟨g - 1, by omega, j + 1, o2 - by1, acc ++ [p], by omega, by rw [List.append_assoc]; exact hg1, hg2, by rw [List.length_append, List.length_singleton]; omega, by omega, by omega, ?_⟩
     rw [List.map_append, List.length_append]
     rfl
  ·simp only [decide_eq_false_iff_not] at h1
   have hjl : j = ord.length := by omega
   subst hjl
   rw [List.drop_length, goF] at hg1 hg2
   simp only at hg1 hg2
   (repeat (first | refine gO rfl ?_ | (refine gR fun K1 hK1 => ?_; simp only [go_sem, ↓reduceIte, reduceCtorEq, nA, nB, nC, nD, nE, nF] <;> and_intros <;> first | (apply hK1; clear hK1 K1) | (intros; first | omega | decide) | skip)))
   simp only [Tryz.results165, go_sem, ↓reduceIte, reduceCtorEq, nA, nB, nC, nD, nE, nF]
   refine ⟨_, _, Weak.refl _, Hp.le.refl _, kt, by rw [← hg1, ← hg2, List.append_nil], rfl, fun t ht => ?_⟩
   exact (upd_other _ _ (hold t ht).2).trans (hold t ht).1
abbrev zPTE : List Nat := [0, 1, 2, 3, 4, 5, 6, 7, 8, 9, 10, 11, 12, 13]
abbrev zPTP : List (Nat × List Nat × List Nat) := []
attribute [go_sem] zPTE zPTP
def encNm (x : Kp) : List AV := [.v (.string x.1)]
def PutR (room rule now bytes : Int) (item : ByteArray) (K : Nat → Kp) (ps : List Nat) (ci k : Nat) (h : Hp) (r : AV) (h' : Hp) : Prop :=
 match putL room rule now (ps.map K) item bytes with
 | none => r = .tup [.v (.slice none 0 0), .v (.int .i64 12)] ∧ h'.H = h.H ∧ ∀ t, h.T t ≠ none → h'.T t = h.T t
 | some (L', g) => ∃ (K' : Nat → Kp) (ps' : List Nat) (k' kt : Nat), r = .tup [.row 1 (g.map encNm) (some kt), .v (.int .i64 0)] ∧ ps'.map K' = L' ∧ CacheH h' K' ps' ∧ h'.H ci = some (.cells (encCa room rule (now + 1) k' ps'.length)) ∧
   h'.T k' = some (.cont 1 (ps'.map encR)) ∧ ci ∉ ps' ∧ (∀ q, h.H q ≠ none → q ≠ ci → q ∉ ps → h'.H q = h.H q) ∧ ∀ t, h.T t ≠ none → t ≠ k → h'.T t = h.T t
theorem goingF_mem {item : ByteArray} {bytes room rule : Int} {K : Nat → Kp} {ps : List Nat} {p : Nat} (h : p ∈ (goingF item bytes room rule K ps).1) : p ∈ ps := orderF_mem (goF_mem h)
theorem goF_not {item : ByteArray} {K : Nat → Kp} : ∀ {ps : List Nat} {o : Int} {p : Nat}, p ∈ (goF item K ps o).1 → (K p).1 ≠ item
 | [], _, _, h => by simp [goF] at h
 | q :: ps, o, p, h => by
  unfold goF at h
  split at h
  ·simp at h
  ·split at h
   ·exact goF_not h
   ·rename_i e
    rcases List.mem_cons.1 h with rfl | h
    ·exact e
    ·exact goF_not h
theorem findF_cases (item : ByteArray) (K : Nat → Kp) (ps : List Nat) : (hasL item (ps.map K) = false ∧ findF item K ps = nilP) ∨ ∃ p ∈ ps, (K p).1 = item ∧ hasL item (ps.map K) = true ∧ findF item K ps = .ptr p 0 := by
 unfold findF
 cases e : ps.find? (fun p => (K p).1 == item) with
 | none =>
  refine .inl ⟨?_, rfl⟩
  cases hh : hasL item (ps.map K) with
  | false => rfl
  | true =>
   obtain ⟨x, hx, e2⟩ := hasL_iff.1 hh
   obtain ⟨p, hp, rfl⟩ := List.mem_map.1 hx
   have := List.find?_eq_none.1 e p hp
   rw [ba_beq] at this
   simp [e2] at this
 | some p =>
  have h1 := List.find?_some e
  have h2 := List.mem_of_find?_eq_some e
  rw [ba_beq] at h1
  have h3 : (K p).1 = item := by simpa using h1
  exact .inr ⟨p, h2, h3, hasL_iff.2 ⟨K p, List.mem_map_of_mem h2, h3⟩, rfl⟩
theorem g_put {K : Nat → Kp} {ci k : Nat} {room rule now bytes : Int} {item : ByteArray} {ps : List Nat} {h : Hp} (hC : h.H ci = some (.cells (encCa room rule now k ps.length))) (hT : h.T k = some (.cont 1 (ps.map encR))) (hl : ps.length ≤ 11) (hK : CacheH h K ps)
  (hci : ci ∉ ps) (hone : KeysOne (ps.map K)) (hKey : ∀ h, ACalls Tryz.prog 66 [.v (.string item)] h (fun r h' => r = .v (.bool true) ∧ h' = h))
  (hB : ∀ p ∈ ps, 0 ≤ (K p).2.1 ∧ (K p).2.1 ≤ 1000000000000) (hM : ∀ p ∈ ps, 0 ≤ (K p).2.2.2.2.2 ∧ (K p).2.2.2.2.2 ≤ 1000000000) (hr : 0 ≤ room ∧ room ≤ 1000000000000) (hb : 1 ≤ bytes ∧ bytes ≤ 1000000000000) (hnow : 0 ≤ now ∧ now ≤ 1000000000) :
  ACalls Tryz.prog 122 [.ptr ci 0, .v (.string item), .v (.int .i64 bytes)] h (PutR room rule now bytes item K ps ci k h) := by
 have hgo := g_going (item := item) (bytes := bytes) hC hT (by omega) hK hB hr (by omega)
 have hgm := goingF_map item bytes room rule K ps
 have hgmem : ∀ p ∈ (goingF item bytes room rule K ps).1, p ∈ ps := fun p hp => goingF_mem hp
 have hgnot : ∀ p ∈ (goingF item bytes room rule K ps).1, (K p).1 ≠ item := fun p hp => goF_not hp
 have hglen : (goingF item bytes room rule K ps).1.length ≤ ps.length := Nat.le_trans (goF_len item K _ _) (orderF_len rule K ps)
 have hP : putL room rule now (ps.map K) item bytes = putL room rule now (ps.map K) item bytes := rfl
 conv at hP => rhs; unfold putL; rw [← hgm]
 simp only at hP
 generalize goingF item bytes room rule K ps = go at *
 obtain ⟨gone, over⟩ := go
 simp only at hP hgmem hgnot hglen hgo
 clear hgm
 have hOut := a_outside bytes 1 1000000000000
 have hOutE : (decide (bytes < 1) || decide (1000000000000 < bytes)) = false := by simp; omega
 refine gE Tryz.func122 rfl (by kernel_rfl) 93 rfl fun c => ?_
 (repeat (first | refine gO rfl ?_ | ((first | refine gM zM37 ?_ | (with_reducible refine wM ?_ ?_) | ((with_reducible refine xS ?_); refine uD 9 zM37 zPTE zPTP 96 rfl (by kernel_rfl) ?_)) <;> ((try with_reducible intro K1 hK1); simp only [go_sem, ↓reduceIte, reduceCtorEq, nA, nB, nC, nD, nE, nF] <;> and_intros <;> first | (apply hK1; clear hK1 K1) | (intros; first | omega | decide | (simp_all <;> omega)) | skip))))
 refine (hKey _).mono ?_; rintro _ hz ⟨rfl, hh⟩; apply hK1; clear hK1 K1; rw [hh]; clear hh hz
 (repeat (first | refine gO rfl ?_ | ((first | refine gM zM37 ?_ | (with_reducible refine wM ?_ ?_) | ((with_reducible refine xS ?_); refine uD 9 zM37 zPTE zPTP 96 rfl (by kernel_rfl) ?_)) <;> ((try with_reducible intro K1 hK1); simp only [go_sem, ↓reduceIte, reduceCtorEq, nA, nB, nC, nD, nE, nF] <;> and_intros <;> first | (apply hK1; clear hK1 K1) | (intros; first | omega | decide) | skip))))
 refine awp_cond (t := _) rfl (fun h9 => by cases h9) (fun _ => ?_)
 (repeat (first | refine gO rfl ?_ | ((first | refine gM zM37 ?_ | (with_reducible refine wM ?_ ?_) | ((with_reducible refine xS ?_); refine uD 9 zM37 zPTE zPTP 96 rfl (by kernel_rfl) ?_)) <;> ((try with_reducible intro K1 hK1); simp only [go_sem, ↓reduceIte, reduceCtorEq, nA, nB, nC, nD, nE, nF] <;> and_intros <;> first | (apply hK1; clear hK1 K1) | (intros; first | omega | decide) | skip))))
 refine (hOut _).mono ?_; rintro _ hz ⟨rfl, hh⟩; apply hK1; clear hK1 K1; rw [hh]; clear hh hz
 rw [hOutE]
 clear hKey hOut hOutE
 (repeat (first | refine gO rfl ?_ | ((first | refine gM zM37 ?_ | (with_reducible refine wM ?_ ?_) | ((with_reducible refine xS ?_); refine uD 9 zM37 zPTE zPTP 96 rfl (by kernel_rfl) ?_)) <;> ((try with_reducible intro K1 hK1); simp only [go_sem, ↓reduceIte, reduceCtorEq, nA, nB, nC, nD, nE, nF] <;> and_intros <;> first | (apply hK1; clear hK1 K1) | (intros; first | omega | decide) | skip))))
 refine awp_cond (t := _) rfl (fun h9 => by cases h9) (fun _ => ?_)
 (repeat (first | refine gO rfl ?_ | ((first | refine gM zM37 ?_ | (with_reducible refine wM ?_ ?_) | ((with_reducible refine xS ?_); refine uD 9 zM37 zPTE zPTP 96 rfl (by kernel_rfl) ?_)) <;> ((try with_reducible intro K1 hK1); simp only [go_sem, ↓reduceIte, reduceCtorEq, nA, nB, nC, nD, nE, nF] <;> and_intros <;> first | (apply hK1; clear hK1 K1) | (intros; first | omega | decide) | skip))))
 refine hgo.mono ?_
 rintro _ ⟨H2, T2⟩ ⟨kg, rfl, hH, hold⟩
 simp only at hH hold
 subst hH
 refine hK1 _ ?_; clear hK1 K1 hgo
 (repeat (first | refine gO rfl ?_ | ((first | refine gM zM37 ?_ | (with_reducible refine wM ?_ ?_) | ((with_reducible refine xS ?_); refine uD 9 zM37 zPTE zPTP 96 rfl (by kernel_rfl) ?_)) <;> ((try with_reducible intro K1 hK1); simp only [go_sem, ↓reduceIte, reduceCtorEq, nA, nB, nC, nD, nE, nF] <;> and_intros <;> first | (apply hK1; clear hK1 K1) | (intros; first | omega | decide) | skip))))
 intro i hi
 replace hi : h.H i = none := hi
 refine hK1 _ ?_; clear hK1 K1
 (repeat (first | refine gO rfl ?_ | ((first | refine gM zM37 ?_ | (with_reducible refine wM ?_ ?_) | ((with_reducible refine xS ?_); refine uD 9 zM37 zPTE zPTP 96 rfl (by kernel_rfl) ?_)) <;> ((try with_reducible intro K1 hK1); simp only [go_sem, ↓reduceIte, reduceCtorEq, nA, nB, nC, nD, nE, nF, upd_same, upd_upd] <;> and_intros <;> first | (apply hK1; clear hK1 K1) | (intros; first | omega | decide) | skip))))
 by_cases ho : over ≤ 0
 case neg =>
  have hof : decide (over ≤ 0) = false := by simpa using ho
  rw [if_neg ho] at hP
  refine awp_cond (t := !decide (over ≤ 0)) rfl (fun _ => ?_) (fun h9 => by rw [hof] at h9; cases h9)
  (repeat (first | refine gO rfl ?_ | ((first | refine gM zM37 ?_ | (with_reducible refine wM ?_ ?_) | ((with_reducible refine xS ?_); refine uD 9 zM37 zPTE zPTP 96 rfl (by kernel_rfl) ?_)) <;> ((try with_reducible intro K1 hK1); simp only [go_sem, ↓reduceIte, reduceCtorEq, nA, nB, nC, nD, nE, nF] <;> and_intros <;> first | (apply hK1; clear hK1 K1) | (intros; first | omega | decide) | skip))))
  simp only [Tryz.results122, go_sem, ↓reduceIte, reduceCtorEq, nA, nB, nC, nD, nE, nF]
  refine ⟨_, ⟨h.H, T2⟩, Weak.refl _, ⟨fun q => ?_, fun _ => .inr rfl⟩, ?_⟩
  ·by_cases e : q = i
   ·rw [e]; exact .inl hi
   ·exact .inr (upd_other _ _ e).symm
  ·unfold PutR
   rw [hP]
   exact ⟨rfl, rfl, hold⟩
 have hot : decide (over ≤ 0) = true := by simpa using ho
 rw [if_pos ho] at hP
 refine awp_cond (t := !decide (over ≤ 0)) rfl (fun h9 => by rw [hot] at h9; cases h9) (fun _ => ?_)
 have hcii : ci ≠ i := by rintro rfl; rw [hC] at hi; cases hi
 have hpi : ∀ p ∈ ps, p ≠ i := fun p hp => by rintro rfl; have := hK p hp; rw [hi] at this; cases this
 have hne : h.T k ≠ none := by rw [hT]; simp
 have hT2 : T2 k = some (.cont 1 (ps.map encR)) := (hold k hne).trans hT
 have hC3 : upd h.H i (some (.cells [.row 1 (gone.map encR) (some kg)])) ci = some (.cells (encCa room rule now k ps.length)) := (upd_other _ _ hcii).trans hC
 have hI3 : upd h.H i (some (.cells [.row 1 (gone.map encR) (some kg)])) i = some (.cells [.row 1 (gone.map encR) (some kg)]) := upd_same _ _ _
 have hK3 : CacheH ⟨upd h.H i (some (.cells [.row 1 (gone.map encR) (some kg)])), T2⟩ K ps := fun p hp => (upd_other _ _ (hpi p hp)).trans (hK p hp)
 have hfi := g_find (item := item) K ci k room rule now ps ⟨upd h.H i (some (.cells [.row 1 (gone.map encR) (some kg)])), T2⟩ hC3 hT2 (by omega) hK3
 have hfc := findF_cases item K ps
 have hus : uside (findF item K ps) := by rcases hfc with ⟨_, e⟩ | ⟨_, _, _, _, e⟩ <;> rw [e] <;> trivial
 have hun : unw (findF item K ps) = findF item K ps := by rcases hfc with ⟨_, e⟩ | ⟨_, _, _, _, e⟩ <;> rw [e] <;> rfl
 have hcl : cutLoc 0 (findF item K ps) = findF item K ps := by rcases hfc with ⟨_, e⟩ | ⟨_, _, _, _, e⟩ <;> rw [e] <;> rfl
 generalize findF item K ps = fk at *
 unfold uside at hus
 unfold unw at hun
 (repeat (first | refine gO rfl ?_ | ((first | refine gM zM37 ?_ | (with_reducible refine wM ?_ ?_) | ((with_reducible refine xS ?_); refine uD 9 zM37 zPTE zPTP 96 rfl (by kernel_rfl) ?_)) <;> ((try with_reducible intro K1 hK1); simp only [go_sem, ↓reduceIte, reduceCtorEq, nA, nB, nC, nD, nE, nF] <;> and_intros <;> first | (apply hK1; clear hK1 K1) | (intros; first | omega | decide) | skip))))
 refine hfi.mono ?_
 rintro fk hz ⟨rfl, hh⟩; apply hK1; clear hK1 K1; rw [hh]; clear hh hz
 clear hfi
 (repeat (first | refine gQ rfl ?_ | ((first | refine gM zM37 ?_ | (with_reducible refine wM ?_ ?_) | ((with_reducible refine xS ?_); refine uD 9 zM37 zPTE zPTP 96 rfl (by kernel_rfl) ?_)) <;> ((try with_reducible intro K1 hK1); simp only [go_sem, ↓reduceIte, reduceCtorEq, nA, nB, nC, nD, nE, nF, hus, hun] <;> and_intros <;> first | (apply hK1; clear hK1 K1) | (intros; first | omega | decide | (simp_all <;> omega)) | skip))))
 refine awp_seq ?_
 have hlen2 : -1000000000 ≤ (ps.length : Int) - (gone.length : Int) + 1 ∧ (ps.length : Int) - (gone.length : Int) + 1 ≤ 500 := by omega
 have hbig : decide ((500 : Int) < (ps.length : Int) - (gone.length : Int) + 1) = false := by simp; omega
 have hml : (gone.map encR).length = gone.length := List.length_map _
 refine awp_join (rl false [0, 3, 5, 1, 1, 1, 85]) 0 (fun s => s = ⟨((.ptr ci 0) :: (.v (.string item)) :: (.v (.int .i64 bytes)) :: (jnk 5 ((.ptr i 0) :: AV.junk :: ((fk) :: (jnk 85 []))))), [], ⟨upd h.H i (some (.cells [.row 1 (gone.map encR) (some kg)])), T2⟩⟩) ?_ ?_
 ·rcases hfc with ⟨_, rfl⟩ | ⟨p, hp, hpk, hhas, rfl⟩
  ·unfold nilP
   (repeat (first | refine gO rfl ?_ | ((first | refine gM zM37 ?_ | (with_reducible refine wM ?_ ?_) | ((with_reducible refine xS ?_); refine uD 9 zM37 zPTE zPTP 96 rfl (by kernel_rfl) ?_)) <;> ((try with_reducible intro K1 hK1); simp only [go_sem, ↓reduceIte, reduceCtorEq, nA, nB, nC, nD, nE, nF, hC3, hI3, encCa, hml] <;> and_intros <;> first | (apply hK1; clear hK1 K1) | (intros; first | omega | decide) | skip))))
   refine awp_cond (t := _) rfl (fun h9 => by rw [hbig] at h9; cases h9) (fun _ => ?_)
   (repeat (first | refine gO rfl ?_ | ((first | refine gM zM37 ?_ | (with_reducible refine wM ?_ ?_) | ((with_reducible refine xS ?_); refine uD 9 zM37 zPTE zPTP 96 rfl (by kernel_rfl) ?_)) <;> ((try with_reducible intro K1 hK1); simp only [go_sem, ↓reduceIte, reduceCtorEq, nA, nB, nC, nD, nE, nF] <;> and_intros <;> first | (apply hK1; clear hK1 K1) | (intros; first | omega | decide) | skip))))
   rfl
  ·(repeat (first | refine gO rfl ?_ | ((first | refine gM zM37 ?_ | (with_reducible refine wM ?_ ?_) | ((with_reducible refine xS ?_); refine uD 9 zM37 zPTE zPTP 96 rfl (by kernel_rfl) ?_)) <;> ((try with_reducible intro K1 hK1); simp only [go_sem, ↓reduceIte, reduceCtorEq, nA, nB, nC, nD, nE, nF, hC3, hI3, encCa, hml] <;> and_intros <;> first | (apply hK1; clear hK1 K1) | (intros; first | omega | decide) | skip))))
   refine awp_cond (t := _) rfl (fun h9 => by cases h9) (fun _ => ?_)
   (repeat (first | refine gO rfl ?_ | ((first | refine gM zM37 ?_ | (with_reducible refine wM ?_ ?_) | ((with_reducible refine xS ?_); refine uD 9 zM37 zPTE zPTP 96 rfl (by kernel_rfl) ?_)) <;> ((try with_reducible intro K1 hK1); simp only [go_sem, ↓reduceIte, reduceCtorEq, nA, nB, nC, nD, nE, nF] <;> and_intros <;> first | (apply hK1; clear hK1 K1) | (intros; first | omega | decide) | skip))))
   rfl
 rintro _ rfl
 clear hbig hlen2
 (repeat (first | refine gQ rfl ?_ | ((first | refine gM zM37 ?_ | (with_reducible refine wM ?_ ?_) | ((with_reducible refine xS ?_); refine uD 9 zM37 zPTE zPTP 96 rfl (by kernel_rfl) ?_)) <;> ((try with_reducible intro K1 hK1); simp only [go_sem, ↓reduceIte, reduceCtorEq, nA, nB, nC, nD, nE, nF] <;> and_intros <;> first | (apply hK1; clear hK1 K1) | (intros; first | omega | decide | (simp_all <;> omega)) | skip))))
 refine awp_own 11 1 rfl ⟨rfl, rfl⟩ (fun kt hkt => ?_)
 replace hkt : T2 kt = none := hkt
 refine awp_cut (rl false [0, 3, 5, 1, 1, 2, 84]) 0 (?_ : Awp _ _ _ _ ⟨((.ptr ci 0) :: (.v (.string item)) :: (.v (.int .i64 bytes)) :: (jnk 5 ((.ptr i 0) :: AV.junk :: ((cutLoc 0 fk) :: (.row 1 [] (some kt)) :: (jnk 84 []))))), [], ⟨upd h.H i (some (.cells [.row 1 (gone.map encR) (some kg)])), upd T2 kt (some (.tail 0))⟩⟩)
 rw [hcl]
 have hkk : k ≠ kt := by rintro rfl; rw [hT2] at hkt; cases hkt
 have hl2 := hglen
 (repeat (first | refine gQ rfl ?_ | ((first | refine gM zM37 ?_ | (with_reducible refine wM ?_ ?_) | ((with_reducible refine xS ?_); refine uD 9 zM37 zPTE zPTP 96 rfl (by kernel_rfl) ?_)) <;> ((try with_reducible intro K1 hK1); simp only [go_sem, ↓reduceIte, reduceCtorEq, nA, nB, nC, nD, nE, nF, hI3, hml] <;> and_intros <;> first | (apply hK1; clear hK1 K1) | (intros; first | omega | decide | (simp_all <;> omega)) | skip))))
 refine awp_seq ?_
 (repeat (first | refine gQ rfl ?_ | ((first | refine gM zM37 ?_ | (with_reducible refine wM ?_ ?_) | ((with_reducible refine xS ?_); refine uD 9 zM37 zPTE zPTP 96 rfl (by kernel_rfl) ?_)) <;> ((try with_reducible intro K1 hK1); simp only [go_sem, ↓reduceIte, reduceCtorEq, nA, nB, nC, nD, nE, nF, hI3, hml] <;> and_intros <;> first | (apply hK1; clear hK1 K1) | (intros; first | omega | decide | (simp_all <;> omega)) | skip))))
 refine awp_loopC (rl false [0, 3, 5, 1, 1, 2, 33, 3, 48]) 0 (fun g s => ∃ j : Nat, g + j = gone.length ∧
  s = ⟨((.ptr ci 0) :: (.v (.string item)) :: (.v (.int .i64 bytes)) :: (jnk 5 ((.ptr i 0) :: AV.junk :: ((fk) :: (.row 1 ((gone.take j).map fun p => encNm (K p)) (some kt)) :: (jnk 33 ((.row 1 (gone.map encR) (some kg)) :: (.v (.int .i64 gone.length)) :: (.v (.int .i64 j)) :: (jnk 48 []))))))), [], ⟨upd h.H i (some (.cells [.row 1 (gone.map encR) (some kg)])), upd T2 kt (some (.tail j))⟩⟩) gone.length ⟨0, by omega, congrArg (fun z => (⟨((.ptr ci 0) :: (.v (.string item)) :: (.v (.int .i64 bytes)) :: (jnk 5 ((.ptr i 0) :: AV.junk :: ((z) :: (.row 1 ((gone.take 0).map fun p => encNm (K p)) (some kt)) :: (jnk 33 ((.row 1 (gone.map encR) (some kg)) :: (.v (.int .i64 gone.length)) :: (.v (.int .i64 ((0 : Nat) : Int))) :: (jnk 48 []))))))), [], ⟨upd h.H i (some (.cells [.row 1 (gone.map encR) (some kg)])), upd T2 kt (some (.tail 0))⟩⟩ : St)) hcl⟩ ?_
 rintro g _ ⟨j, hj, rfl⟩
 (repeat (first | refine gO rfl ?_ | ((first | refine gM zM37 ?_ | (with_reducible refine wM ?_ ?_) | ((with_reducible refine xS ?_); refine uD 9 zM37 zPTE zPTP 96 rfl (by kernel_rfl) ?_)) <;> ((try with_reducible intro K1 hK1); simp only [go_sem, ↓reduceIte, reduceCtorEq, nA, nB, nC, nD, nE, nF] <;> and_intros <;> first | (apply hK1; clear hK1 K1) | (intros; first | omega | decide) | skip))))
 refine awp_cond (t := _) rfl (fun h1 => ?_) (fun h1 => ?_)
 ·simp only [decide_eq_true_eq] at h1
  have hjl : j < gone.length := by omega
  have gx : (gone.map encR).getD j [] = encR (gone.getD j default) := getD_enc encR gone j default hjl
  have htj := take_at' gone j default hjl
  have hpm : gone.getD j default ∈ ps := hgmem _ (by rw [List.getD_eq_getElem?_getD, List.getElem?_eq_getElem hjl]; exact List.getElem_mem _)
  obtain ⟨p, hp⟩ : ∃ p, gone.getD j default = p := ⟨_, rfl⟩
  rw [hp] at gx htj hpm
  have hhp := hK3 p hpm
  have hen : encNm (K p) = [.v (.string (K p).1)] := rfl
  have htl : (gone.take j).length = j := by rw [List.length_take]; omega
  have htk : upd T2 kt (some (TO.tail j)) kt = some (.tail j) := upd_same _ _ _
  generalize hx : K p = x at *
  obtain ⟨ke, by1, pi, ca, la, ma⟩ := x
  (repeat (first | refine gO rfl ?_ | ((first | refine gM zM37 ?_ | (with_reducible refine wM ?_ ?_) | ((with_reducible refine xS ?_); refine uD 9 zM37 zPTE zPTP 96 rfl (by kernel_rfl) ?_)) <;> ((try with_reducible intro K1 hK1); simp only [go_sem, ↓reduceIte, reduceCtorEq, nA, nB, nC, nD, nE, nF, hml, Int.toNat_natCast, gx, encR, hhp, encKp, List.length_map, htl, htk] <;> and_intros <;> first | (apply hK1; clear hK1 K1) | (intros; first | omega | decide) | skip))))
  refine ⟨g - 1, by omega, j + 1, by omega, ?_⟩
  rw [htj, List.map_append, List.map_cons, hx, hen]
  exact congrArg (fun z => (⟨((.ptr ci 0) :: (.v (.string item)) :: (.v (.int .i64 bytes)) :: (jnk 5 ((.ptr i 0) :: AV.junk :: ((z) :: (.row 1 (((gone.take j).map fun p => encNm (K p)) ++ [[.v (.string ke)]]) (some kt)) :: (jnk 33 ((.row 1 (gone.map encR) (some kg)) :: (.v (.int .i64 gone.length)) :: (.v (.int .i64 ((j : Int) + 1))) :: (jnk 48 []))))))), [], ⟨upd h.H i (some (.cells [.row 1 (gone.map encR) (some kg)])), upd T2 kt (some (.tail (j + 1)))⟩⟩ : St)) hcl
 simp only [decide_eq_false_iff_not] at h1
 have hjl : j = gone.length := by omega
 subst hjl
 rw [List.take_length]
 have hT4 : upd T2 kt (some (TO.tail gone.length)) k = some (.cont 1 (ps.map encR)) := (upd_other _ _ hkk).trans hT2
 have hde := g_delK (caps := [.ptr i 0]) (fun p => gone.contains p) k ps ⟨upd h.H i (some (.cells [.row 1 (gone.map encR) (some kg)])), upd T2 kt (some (.tail gone.length))⟩ hT4 (by omega) (fun p hp T' => g_put1 (K := K) p kg i gone ⟨_, T'⟩ hI3 (hK3 p hp) (fun q hq => hK3 q (hgmem q hq)) (by omega))
 (repeat (first | refine gO rfl ?_ | ((first | refine gM zM37 ?_ | (with_reducible refine wM ?_ ?_) | ((with_reducible refine xS ?_); refine uD 9 zM37 zPTE zPTP 96 rfl (by kernel_rfl) ?_)) <;> ((try with_reducible intro K1 hK1); simp only [go_sem, ↓reduceIte, reduceCtorEq, nA, nB, nC, nD, nE, nF, hC3, encCa] <;> and_intros <;> first | (apply hK1; clear hK1 K1) | (intros; first | omega | decide) | skip))))
 refine hde.mono ?_
 rintro _ ⟨H5, T5⟩ ⟨q, rfl, hH5, hT5, hoth⟩
 simp only at hH5 hT5 hoth
 subst hH5
 refine hK1 _ ?_; clear hK1 K1 hde
 have hst : ps.filter (fun p => !gone.contains p) = stayF gone ps := rfl
 rw [hst] at hT5 ⊢
 have hsm : ∀ p ∈ stayF gone ps, p ∈ ps := fun p hp => (List.mem_filter.1 hp).1
 have hsl : (stayF gone ps).length ≤ ps.length := List.length_filter_le _ _
 have hsmap := stayF_map (K := K) hone hgmem
 have hone2 : KeysOne ((stayF gone ps).map K) := by rw [hsmap]; exact keysOne_filter hone _
 have hrow : gone.map (fun p => encNm (K p)) = (gone.map K).map encNm := by rw [List.map_map]; rfl
 have hTfr : ∀ t, h.T t ≠ none → t ≠ k → T5 t = h.T t ∧ t ≠ q := fun t ht htk => by
  have h1 := hold t ht
  have h2 : t ≠ kt := by rintro rfl; rw [h1] at hkt; exact ht hkt
  have h3 := hoth t htk (by rw [upd_other _ _ h2, h1]; exact ht)
  exact ⟨h3.2.trans ((upd_other _ _ h2).trans h1), h3.1⟩
 have hpci : ∀ p ∈ ps, p ≠ ci := fun p hp => by rintro rfl; exact hci hp
 generalize hSt : stayF gone ps = st at *
 rcases hfc with ⟨hhas, rfl⟩ | ⟨p, hp, hpk, hhas, rfl⟩
 ·unfold nilP
  (repeat (first | refine gO rfl ?_ | ((first | refine gM zM37 ?_ | (with_reducible refine wM ?_ ?_) | ((with_reducible refine xS ?_); refine uD 9 zM37 zPTE zPTP 96 rfl (by kernel_rfl) ?_)) <;> ((try with_reducible intro K1 hK1); simp only [go_sem, ↓reduceIte, reduceCtorEq, nA, nB, nC, nD, nE, nF, hC3, encCa] <;> and_intros <;> first | (apply hK1; clear hK1 K1) | (intros; first | omega | decide) | skip))))
  obtain ⟨H6, hH6⟩ : ∃ H6, H6 = upd (upd h.H i (some (AO.cells [AV.row 1 (List.map encR gone) (some kg)]))) ci (some (AO.cells [.v (.int .i64 room), .v (.int .i64 rule), .v (.int .i64 now), AV.arr 1 q st.length])) := ⟨_, rfl⟩
  rw [← hH6]
  have c6 : H6 ci = some (.cells (encCa room rule now q st.length)) := by rw [hH6]; exact upd_same _ _ _
  have k6 : ∀ r, r ≠ ci → r ≠ i → H6 r = h.H r := fun r h1 h2 => by rw [hH6, upd_other _ _ h1, upd_other _ _ h2]
  clear hH6
  refine awp_cond (t := _) rfl (fun _ => ?_) (fun h9 => by cases h9)
  (repeat (first | refine gO rfl ?_ | ((first | refine gM zM37 ?_ | (with_reducible refine wM ?_ ?_) | ((with_reducible refine xS ?_); refine uD 9 zM37 zPTE zPTP 96 rfl (by kernel_rfl) ?_)) <;> ((try with_reducible intro K1 hK1); simp only [go_sem, ↓reduceIte, reduceCtorEq, nA, nB, nC, nD, nE, nF, c6, encCa] <;> and_intros <;> first | (apply hK1; clear hK1 K1) | (intros; first | omega | decide) | skip))))
  intro pn hpn
  replace hpn : H6 pn = none := hpn
  refine hK1 _ ?_; clear hK1 K1
  have hcn : ci ≠ pn := by rintro rfl; rw [c6] at hpn; cases hpn
  have hnc : pn ≠ ci := fun e => hcn e.symm
  have hrn : ∀ r, h.H r ≠ none → r ≠ ci → r ≠ pn := fun r hr h1 => by
   rintro rfl
   rw [k6 r h1 (by rintro rfl; exact hr hi)] at hpn
   exact hr hpn
  have hstl : (st.map encR).length = st.length := List.length_map _
  have hTq : ∀ X, upd T5 q (some (TO.cont 1 X)) q = some (.cont 1 X) := fun X => upd_same _ _ _
  have hask := fun H T n (hc : H ci = some (.cells (encCa room rule now q n))) (hpp : H pn = some (.cells (encKp (item, bytes, false, now + 1, 0, 0)))) => g_ask (x := (item, bytes, false, now + 1, 0, 0)) (h := ⟨H, T⟩) hc hpp hcn (by omega) (by show (0 : Int) ≤ 0 ∧ (0 : Int) ≤ 1000000000; omega)
  (repeat (first | refine gO rfl ?_ | ((first | refine gM zM37 ?_ | (with_reducible refine wM ?_ ?_) | ((with_reducible refine xS ?_); refine uD 9 zM37 zPTE zPTP 96 rfl (by kernel_rfl) ?_)) <;> ((try with_reducible intro K1 hK1); simp only [go_sem, ↓reduceIte, reduceCtorEq, nA, nB, nC, nD, nE, nF, c6, encCa, upd_other _ _ hcn, upd_other _ _ hnc, upd_same, hT5, hstl] <;> and_intros <;> first | (apply hK1; clear hK1 K1) | (intros; first | omega | decide) | skip))))
  refine (hask _ _ (st.length + 1) ((upd_other _ _ hcn).trans (upd_same _ _ _)) (upd_same _ _ _)).mono ?_; rintro _ hz ⟨rfl, hh⟩; apply hK1; clear hK1 K1; rw [hh]; clear hh hz
  (repeat (first | refine gO rfl ?_ | ((first | refine gM zM37 ?_ | (with_reducible refine wM ?_ ?_) | ((with_reducible refine xS ?_); refine uD 9 zM37 zPTE zPTP 96 rfl (by kernel_rfl) ?_)) <;> ((try with_reducible intro K1 hK1); simp only [go_sem, ↓reduceIte, reduceCtorEq, nA, nB, nC, nD, nE, nF] <;> and_intros <;> first | (apply hK1; clear hK1 K1) | (intros; first | omega | decide) | skip))))
  simp only [Tryz.results122, go_sem, ↓reduceIte, reduceCtorEq, nA, nB, nC, nD, nE, nF]
  refine ⟨_, _, Weak.refl _, Hp.le.refl _, ?_⟩
  unfold PutR
  rw [hP, hhas, if_neg (by decide)]
  have hnst : pn ∉ st := fun hm => hrn pn (by rw [hK pn (hsm pn hm)]; simp) (hpci pn (hsm pn hm)) rfl
  have hKK : st.map (fun r => if r = pn then newK item bytes now else K r) = st.map K := List.map_congr_left fun r hr => if_neg (fun (e : r = pn) => hnst (e ▸ hr))
  refine ⟨fun r => if r = pn then newK item bytes now else K r, st ++ [pn], q, kt, by rw [hrow], ?_, fun r hr => ?_, ?_, ?_, fun hm => ?_, fun r hr h1 h2 => ?_, fun t ht htk => ?_⟩
  ·rw [List.map_append, hKK, hsmap, List.map_cons, List.map_nil, if_pos rfl]
  ·show upd (upd _ ci _) pn _ r = some (AO.cells (encKp (if r = pn then newK item bytes now else K r)))
   by_cases e : r = pn
   ·rw [e, upd_same, if_pos rfl]; rfl
   ·have hrs : r ∈ st := by
     rcases List.mem_append.1 hr with h1 | h1
     ·exact h1
     ·exact absurd (List.mem_singleton.1 h1) e
    rw [upd_other _ _ e, upd_other _ _ (hpci r (hsm r hrs)), upd_other _ _ e, upd_other _ _ (hpci r (hsm r hrs)), upd_other _ _ e, k6 r (hpci r (hsm r hrs)) (hpi r (hsm r hrs)), if_neg e]
    exact hK r (hsm r hrs)
  ·show upd (upd _ ci _) pn _ ci = _
   rw [upd_other _ _ hcn, upd_same, List.length_append, List.length_singleton]
  ·show upd T5 q _ q = _
   rw [upd_same, List.map_append]; rfl
  ·rcases List.mem_append.1 hm with h1 | h1
   ·exact hci (hsm ci h1)
   ·exact hcn (List.mem_singleton.1 h1)
  ·show upd (upd _ ci _) pn _ r = _
   have e : r ≠ pn := hrn r hr h1
   have ei : r ≠ i := by rintro rfl; exact hr hi
   rw [upd_other _ _ e, upd_other _ _ h1, upd_other _ _ e, upd_other _ _ h1, upd_other _ _ e, k6 r h1 ei]
  ·show upd T5 q _ t = _
   rw [upd_other _ _ (hTfr t ht htk).2]; exact (hTfr t ht htk).1
 ·(repeat (first | refine gO rfl ?_ | ((first | refine gM zM37 ?_ | (with_reducible refine wM ?_ ?_) | ((with_reducible refine xS ?_); refine uD 9 zM37 zPTE zPTP 96 rfl (by kernel_rfl) ?_)) <;> ((try with_reducible intro K1 hK1); simp only [go_sem, ↓reduceIte, reduceCtorEq, nA, nB, nC, nD, nE, nF, hC3, encCa] <;> and_intros <;> first | (apply hK1; clear hK1 K1) | (intros; first | omega | decide) | skip))))
  obtain ⟨H6, hH6⟩ : ∃ H6, H6 = upd (upd h.H i (some (AO.cells [AV.row 1 (List.map encR gone) (some kg)]))) ci (some (AO.cells [.v (.int .i64 room), .v (.int .i64 rule), .v (.int .i64 now), AV.arr 1 q st.length])) := ⟨_, rfl⟩
  rw [← hH6]
  have c6 : H6 ci = some (.cells (encCa room rule now q st.length)) := by rw [hH6]; exact upd_same _ _ _
  have k6 : ∀ r, r ≠ ci → r ≠ i → H6 r = h.H r := fun r h1 h2 => by rw [hH6, upd_other _ _ h1, upd_other _ _ h2]
  clear hH6
  refine awp_cond (t := _) rfl (fun h9 => by cases h9) (fun _ => ?_)
  have p6 : H6 p = some (.cells (encKp (K p))) := (k6 p (hpci p hp) (hpi p hp)).trans (hK p hp)
  have hMp := hM p hp
  have hask := fun H (hc : H ci = some (.cells (encCa room rule now q st.length))) (hpp : H p = some (.cells (encKp (setB bytes (K p))))) => g_ask (x := setB bytes (K p)) (h := ⟨H, T5⟩) hc hpp (hpci p hp).symm (by omega) hMp
  have hcp : ci ≠ p := (hpci p hp).symm
  have hKe : encKp (setB bytes (K p)) = [.v (.string (K p).1), .v (.int .i64 bytes), .v (.bool (K p).2.2.1), .v (.int .i64 (K p).2.2.2.1), .v (.int .i64 (K p).2.2.2.2.1), .v (.int .i64 (K p).2.2.2.2.2)] := rfl
  have hKe2 : encKp (K p) = [.v (.string (K p).1), .v (.int .i64 (K p).2.1), .v (.bool (K p).2.2.1), .v (.int .i64 (K p).2.2.2.1), .v (.int .i64 (K p).2.2.2.2.1), .v (.int .i64 (K p).2.2.2.2.2)] := rfl
  rw [hKe2] at p6
  (repeat (first | refine gO rfl ?_ | ((first | refine gM zM37 ?_ | (with_reducible refine wM ?_ ?_) | ((with_reducible refine xS ?_); refine uD 9 zM37 zPTE zPTP 96 rfl (by kernel_rfl) ?_)) <;> ((try with_reducible intro K1 hK1); simp only [go_sem, ↓reduceIte, reduceCtorEq, nA, nB, nC, nD, nE, nF, p6] <;> and_intros <;> first | (apply hK1; clear hK1 K1) | (intros; first | omega | decide) | skip))))
  refine (hask _ ((upd_other _ _ hcp).trans c6) (by rw [hKe]; exact upd_same _ _ _)).mono ?_; rintro _ hz ⟨rfl, hh⟩; apply hK1; clear hK1 K1; rw [hh]; clear hh hz
  (repeat (first | refine gO rfl ?_ | ((first | refine gM zM37 ?_ | (with_reducible refine wM ?_ ?_) | ((with_reducible refine xS ?_); refine uD 9 zM37 zPTE zPTP 96 rfl (by kernel_rfl) ?_)) <;> ((try with_reducible intro K1 hK1); simp only [go_sem, ↓reduceIte, reduceCtorEq, nA, nB, nC, nD, nE, nF] <;> and_intros <;> first | (apply hK1; clear hK1 K1) | (intros; first | omega | decide) | skip))))
  simp only [Tryz.results122, go_sem, ↓reduceIte, reduceCtorEq, nA, nB, nC, nD, nE, nF]
  refine ⟨_, _, Weak.refl _, Hp.le.refl _, ?_⟩
  unfold PutR
  rw [hP, hhas, if_pos rfl]
  have hps : p ∈ st := by
   rw [← hSt]
   refine List.mem_filter.2 ⟨hp, ?_⟩
   cases hc : gone.contains p with
   | false => rfl
   | true => exact absurd hpk (hgnot p (List.contains_iff_mem.1 hc))
  refine ⟨fun r => if r = p then askF (now + 1) (setB bytes (K p)) else K r, st, q, kt, by rw [hrow], ?_, fun r hr => ?_, ?_, hT5, fun hm => hci (hsm ci hm), fun r hr h1 h2 => ?_, fun t ht htk => (hTfr t ht htk).1⟩
  ·rw [← hsmap]
   exact atK_map (fun x => askF (now + 1) (setB bytes x)) hone2 hps hpk
  ·show upd (upd _ ci _) p _ r = some (AO.cells (encKp (if r = p then askF (now + 1) (setB bytes (K p)) else K r)))
   by_cases e : r = p
   ·subst e; rw [upd_same, if_pos rfl]
   ·rw [upd_other _ _ e, upd_other _ _ (hpci r (hsm r hr)), upd_other _ _ e, k6 r (hpci r (hsm r hr)) (hpi r (hsm r hr)), if_neg e]
    exact hK r (hsm r hr)
  ·show upd (upd _ ci _) p _ ci = _
   rw [upd_other _ _ hcp, upd_same]
  ·show upd (upd _ ci _) p _ r = _
   have e : r ≠ p := fun e => h2 (e ▸ hp)
   have ei : r ≠ i := by rintro rfl; exact hr hi
   rw [upd_other _ _ e, upd_other _ _ h1, upd_other _ _ e, k6 r h1 ei]
def missB (room rule : Int) : List ByteArray → Int → List Kp → Bool
  | [], _, _ => true
  | s :: l, now, L => decide (L.length ≤ 11) && (if hasL s L then missB room rule l (now + 1) (atK s (askF (now + 1)) L) else
    match putL room rule now L s 1 with
    | some (L', _) => missB room rule l (now + 1) L'
    | none => false)
def OkL (now : Int) (L : List Kp) : Prop := ∀ x ∈ L, x.2.1 = 1 ∧ 0 ≤ x.2.2.2.2.2 ∧ x.2.2.2.2.2 ≤ now
theorem OkL.ask {now : Int} {L : List Kp} (h : OkL now L) (s : ByteArray) : OkL (now + 1) (atK s (askF (now + 1)) L) := fun x hx => by
  obtain ⟨y, hy, rfl⟩ := List.mem_map.1 hx
  have := h y hy
  split
  · exact ⟨this.1, by show 0 ≤ y.2.2.2.2.2 + 1 ∧ y.2.2.2.2.2 + 1 ≤ now + 1; omega⟩
  · exact ⟨this.1, by omega⟩
theorem OkL.put {now : Int} {L L' g : List Kp} (h : OkL now L) (h0 : 0 ≤ now) {room rule : Int} {s : ByteArray} (hp : putL room rule now L s 1 = some (L', g)) : OkL (now + 1) L' := by
  unfold putL at hp
  split at hp
  · simp only [Option.some.injEq, Prod.mk.injEq] at hp
    obtain ⟨rfl, _⟩ := hp
    split
    · intro x hx
      obtain ⟨y, hy, rfl⟩ := List.mem_map.1 hx
      have := h y (leftL_sub hy)
      split
      · exact ⟨rfl, by show 0 ≤ y.2.2.2.2.2 + 1 ∧ y.2.2.2.2.2 + 1 ≤ now + 1; omega⟩
      · exact ⟨this.1, by omega⟩
    · intro x hx
      rcases List.mem_append.1 hx with hx | hx
      · have := h x (leftL_sub hx)
        exact ⟨this.1, by omega⟩
      · rw [List.mem_singleton] at hx
        subst hx
        exact ⟨rfl, by show (0 : Int) ≤ 1 ∧ (1 : Int) ≤ now + 1; omega⟩
  · cases hp
theorem missL_cons (room rule : Int) (s : ByteArray) (l : List ByteArray) (now : Int) (L : List Kp) (n : Int) : missL room rule (s :: l) now L n = if hasL s L then missL room rule l (now + 1) (atK s (askF (now + 1)) L) n else
    match putL room rule now L s 1 with
    | some (L', _) => missL room rule l (now + 1) L' (n + 1)
    | none => none := rfl
theorem missB_cons (room rule : Int) (s : ByteArray) (l : List ByteArray) (now : Int) (L : List Kp) : missB room rule (s :: l) now L = (decide (L.length ≤ 11) && (if hasL s L then missB room rule l (now + 1) (atK s (askF (now + 1)) L) else
    match putL room rule now L s 1 with
    | some (L', _) => missB room rule l (now + 1) L'
    | none => false)) := rfl
def encT (x : ByteArray) : List AV := [.v (.string x)]
theorem g_ruleFault (rule : Int) (h : Hp) (h1 : 1 ≤ rule ∧ rule ≤ 4) : ACalls Tryz.prog 118 [.v (.int .i64 rule)] h (fun r h' => r = .v (.int .i64 0) ∧ h' = h) := by
 have hO := a_outside rule 1 4
 have hE : (decide (rule < 1) || decide (4 < rule)) = false := by simp; omega
 refine gE Tryz.func118 rfl (by kernel_rfl) 4 rfl fun c => ?_
 (repeat (first | refine gO rfl ?_ | (refine gR fun K1 hK1 => ?_; simp only [go_sem, ↓reduceIte, reduceCtorEq, nA, nB, nC, nD, nE, nF] <;> and_intros <;> first | (apply hK1; clear hK1 K1) | (intros; first | omega | decide | (simp_all <;> omega)) | skip)))
 refine (hO _).mono ?_; rintro _ hz ⟨rfl, hh⟩; apply hK1; clear hK1 K1; rw [hh]; clear hh hz
 rw [hE]
 (repeat (first | refine gO rfl ?_ | (refine gR fun K1 hK1 => ?_; simp only [go_sem, ↓reduceIte, reduceCtorEq, nA, nB, nC, nD, nE, nF] <;> and_intros <;> first | (apply hK1; clear hK1 K1) | (intros; first | omega | decide) | skip)))
 refine awp_cond (t := _) rfl (fun h9 => by cases h9) (fun _ => ?_)
 (repeat (first | refine gO rfl ?_ | (refine gR fun K1 hK1 => ?_; simp only [go_sem, ↓reduceIte, reduceCtorEq, nA, nB, nC, nD, nE, nF] <;> and_intros <;> first | (apply hK1; clear hK1 K1) | (intros; first | omega | decide) | skip)))
 simp only [Tryz.results118, go_sem, ↓reduceIte, reduceCtorEq, nA, nB, nC, nD, nE, nF]
 exact ⟨_, _, Weak.refl _, Hp.le.refl _, rfl, rfl⟩
theorem g_usesFault (l : List ByteArray) (h : Hp) (hl : l.length ≤ 2000) (hk : ∀ s ∈ l, keyB s = true ∧ s.size ≤ 1000) : ACalls Tryz.prog 119 [.row 1 (l.map encT) none] h (fun r h' => r = .v (.int .i64 0) ∧ h' = h) := by
 have hml : (l.map encT).length = l.length := List.length_map _
 have hb : decide ((2000 : Int) < (l.length : Int)) = false := by simp; omega
 refine gE Tryz.func119 rfl (by kernel_rfl) 17 rfl fun c => ?_
 (repeat (first | refine gO rfl ?_ | (refine gR fun K1 hK1 => ?_; simp only [go_sem, ↓reduceIte, reduceCtorEq, nA, nB, nC, nD, nE, nF, hml] <;> and_intros <;> first | (apply hK1; clear hK1 K1) | (intros; first | omega | decide | (simp_all <;> omega)) | skip)))
 refine awp_cond (t := _) rfl (fun h9 => by rw [hb] at h9; cases h9) (fun _ => ?_)
 (repeat (first | refine gO rfl ?_ | (refine gR fun K1 hK1 => ?_; simp only [go_sem, ↓reduceIte, reduceCtorEq, nA, nB, nC, nD, nE, nF, hml] <;> and_intros <;> first | (apply hK1; clear hK1 K1) | (intros; first | omega | decide) | skip)))
 refine awp_loopC (rl false [8, 3, 7]) 0 (fun g s => ∃ j : Nat, g + j = l.length ∧
  s = ⟨((jnk 8 ((.row 1 (l.map encT) none) :: (.v (.int .i64 l.length)) :: (.v (.int .i64 j)) :: (jnk 7 [])))), [], h⟩) l.length ⟨0, by omega, rfl⟩ ?_
 rintro g _ ⟨j, hj, rfl⟩
 (repeat (first | refine gO rfl ?_ | (refine gR fun K1 hK1 => ?_; simp only [go_sem, ↓reduceIte, reduceCtorEq, nA, nB, nC, nD, nE, nF] <;> and_intros <;> first | (apply hK1; clear hK1 K1) | (intros; first | omega | decide) | skip)))
 refine awp_cond (t := _) rfl (fun h1 => ?_) (fun h1 => ?_)
 ·simp only [decide_eq_true_eq] at h1
  have hjl : j < l.length := by omega
  have gx : (l.map encT).getD j [] = encT (l.getD j default) := getD_enc encT l j default hjl
  obtain ⟨hk1, hk2⟩ := hk (l.getD j default) (by rw [List.getD_eq_getElem?_getD, List.getElem?_eq_getElem hjl]; exact List.getElem_mem _)
  generalize l.getD j default = s at *
  have hkk := a_isKey s (by omega) h
  rw [hk1] at hkk
  (repeat (first | refine gO rfl ?_ | (refine gR fun K1 hK1 => ?_; simp only [go_sem, ↓reduceIte, reduceCtorEq, nA, nB, nC, nD, nE, nF, hml, Int.toNat_natCast, gx, encT] <;> and_intros <;> first | (apply hK1; clear hK1 K1) | (intros; first | omega | decide) | skip)))
  refine hkk.mono ?_; rintro _ hz ⟨rfl, hh⟩; apply hK1; clear hK1 K1; rw [hh]; clear hh hz
  (repeat (first | refine gO rfl ?_ | (refine gR fun K1 hK1 => ?_; simp only [go_sem, ↓reduceIte, reduceCtorEq, nA, nB, nC, nD, nE, nF] <;> and_intros <;> first | (apply hK1; clear hK1 K1) | (intros; first | omega | decide) | skip)))
  refine awp_cond (t := _) rfl (fun h9 => by cases h9) (fun _ => ?_)
  (repeat (first | refine gO rfl ?_ | (refine gR fun K1 hK1 => ?_; simp only [go_sem, ↓reduceIte, reduceCtorEq, nA, nB, nC, nD, nE, nF] <;> and_intros <;> first | (apply hK1; clear hK1 K1) | (intros; first | omega | decide) | skip)))
  exact ⟨g - 1, by omega, j + 1, by omega, rfl⟩
 ·(repeat (first | refine gO rfl ?_ | (refine gR fun K1 hK1 => ?_; simp only [go_sem, ↓reduceIte, reduceCtorEq, nA, nB, nC, nD, nE, nF] <;> and_intros <;> first | (apply hK1; clear hK1 K1) | (intros; first | omega | decide) | skip)))
  simp only [Tryz.results119, go_sem, ↓reduceIte, reduceCtorEq, nA, nB, nC, nD, nE, nF]
  exact ⟨_, _, Weak.refl _, Hp.le.refl _, rfl, rfl⟩
theorem g_misses (room rule N : Int) (l : List ByteArray) (h : Hp) (hr : 1 ≤ room ∧ room ≤ 500) (hru : 1 ≤ rule ∧ rule ≤ 4) (hl : l.length ≤ 2000) (hk : ∀ s ∈ l, keyB s = true ∧ s.size ≤ 1000) (hm : missL room rule l 0 [] 0 = some N) (hmb : missB room rule l 0 [] = true) :
  ACalls Tryz.prog 80 [.v (.int .i64 room), .v (.int .i64 rule), .row 1 (l.map encT) none] h (fun r h' => r = .tup [.v (.int .i64 N), .v (.int .i64 0)]) := by
 have hml : (l.map encT).length = l.length := List.length_map _
 have hO := a_outside room 1 500
 have hE : (decide (room < 1) || decide (500 < room)) = false := by simp; omega
 refine gE Tryz.func80 rfl (by kernel_rfl) 57 rfl fun c => ?_
 (repeat (first | refine gO rfl ?_ | (refine gM zM38 fun K1 hK1 => ?_; simp only [go_sem, ↓reduceIte, reduceCtorEq, nA, nB, nC, nD, nE, nF] <;> and_intros <;> first | (apply hK1; clear hK1 K1) | (intros; first | omega | decide | (simp_all <;> omega)) | skip)))
 refine (hO _).mono ?_; rintro _ hz ⟨rfl, hh⟩; apply hK1; clear hK1 K1; rw [hh]; clear hh hz
 rw [hE]
 (repeat (first | refine gO rfl ?_ | (refine gM zM38 fun K1 hK1 => ?_; simp only [go_sem, ↓reduceIte, reduceCtorEq, nA, nB, nC, nD, nE, nF] <;> and_intros <;> first | (apply hK1; clear hK1 K1) | (intros; first | omega | decide) | skip)))
 refine awp_cond (t := _) rfl (fun h9 => by cases h9) (fun _ => ?_)
 (repeat (first | refine gO rfl ?_ | (refine gM zM38 fun K1 hK1 => ?_; simp only [go_sem, ↓reduceIte, reduceCtorEq, nA, nB, nC, nD, nE, nF] <;> and_intros <;> first | (apply hK1; clear hK1 K1) | (intros; first | omega | decide) | skip)))
 refine (g_ruleFault rule _ hru).mono ?_; rintro _ hz ⟨rfl, hh⟩; apply hK1; clear hK1 K1; rw [hh]; clear hh hz
 (repeat (first | refine gO rfl ?_ | (refine gM zM38 fun K1 hK1 => ?_; simp only [go_sem, ↓reduceIte, reduceCtorEq, nA, nB, nC, nD, nE, nF] <;> and_intros <;> first | (apply hK1; clear hK1 K1) | (intros; first | omega | decide) | skip)))
 refine awp_cond (t := _) rfl (fun h9 => by cases h9) (fun _ => ?_)
 (repeat (first | refine gO rfl ?_ | (refine gM zM38 fun K1 hK1 => ?_; simp only [go_sem, ↓reduceIte, reduceCtorEq, nA, nB, nC, nD, nE, nF] <;> and_intros <;> first | (apply hK1; clear hK1 K1) | (intros; first | omega | decide) | skip)))
 refine (g_usesFault l _ hl hk).mono ?_; rintro _ hz ⟨rfl, hh⟩; apply hK1; clear hK1 K1; rw [hh]; clear hh hz
 (repeat (first | refine gO rfl ?_ | (refine gM zM38 fun K1 hK1 => ?_; simp only [go_sem, ↓reduceIte, reduceCtorEq, nA, nB, nC, nD, nE, nF] <;> and_intros <;> first | (apply hK1; clear hK1 K1) | (intros; first | omega | decide) | skip)))
 refine awp_cond (t := _) rfl (fun h9 => by cases h9) (fun _ => ?_)
 (repeat (first | refine gO rfl ?_ | (refine gM zM38 fun K1 hK1 => ?_; simp only [go_sem, ↓reduceIte, reduceCtorEq, nA, nB, nC, nD, nE, nF] <;> and_intros <;> first | (apply hK1; clear hK1 K1) | (intros; first | omega | decide) | skip)))
 intro ci hci
 refine hK1 _ ?_; clear hK1 K1
 (repeat (first | refine gO rfl ?_ | (refine gM zM38 fun K1 hK1 => ?_; simp only [go_sem, ↓reduceIte, reduceCtorEq, nA, nB, nC, nD, nE, nF, hml] <;> and_intros <;> first | (apply hK1; clear hK1 K1) | (intros; first | omega | decide) | skip)))
 refine awp_ownObj ci 3 1 (cs := [.v (.int .i64 room), .v (.int .i64 rule), .v (.int .i64 0), .v (.slice none 0 0)]) (upd_same _ _ _) rfl (fun k0 hk0 => ?_)
 refine awp_loopC (rl false [10, 2, 21, 3, 24]) 0 (fun g s => ∃ (j : Nat) (n : Int) (K : Nat → Kp) (ps : List Nat) (k : Nat) (h' : Hp), g + j = l.length ∧ missL room rule (l.drop j) j (ps.map K) n = some N ∧ missB room rule (l.drop j) j (ps.map K) = true ∧ 0 ≤ n ∧ n ≤ j ∧
   h'.H ci = some (.cells (encCa room rule j k ps.length)) ∧ h'.T k = some (.cont 1 (ps.map encR)) ∧ CacheH h' K ps ∧ ci ∉ ps ∧ KeysOne (ps.map K) ∧ OkL j (ps.map K) ∧
  s = ⟨((jnk 10 ((.ptr ci 0) :: (.v (.int .i64 n)) :: (jnk 21 ((.row 1 (l.map encT) none) :: (.v (.int .i64 l.length)) :: (.v (.int .i64 j)) :: (jnk 24 [])))))), [], h'⟩) l.length
  ⟨0, 0, fun _ => default, [], k0, ⟨upd (upd h.H ci (some (.cells [.v (.int .i64 room), .v (.int .i64 rule), .v (.int .i64 0), .v (.slice none 0 0)]))) ci (some (.cells (encCa room rule ((0 : Nat) : Int) k0 0))), upd h.T k0 (some (.cont 1 []))⟩, by omega, by rw [List.drop_zero]; exact hm, by rw [List.drop_zero]; exact hmb, by omega, by omega, upd_same _ _ _, upd_same _ _ _, (fun p hp => by cases hp), (by simp), List.Pairwise.nil, (fun x hx => by cases hx), rfl⟩ ?_
 rintro g _ ⟨j, n, K, ps, k, h', hj, hmj, hbj, hn0, hnj, hC, hT, hK, hcp, hone, hok, rfl⟩
 (repeat (first | refine gO rfl ?_ | (refine gM zM38 fun K1 hK1 => ?_; simp only [go_sem, ↓reduceIte, reduceCtorEq, nA, nB, nC, nD, nE, nF] <;> and_intros <;> first | (apply hK1; clear hK1 K1) | (intros; first | omega | decide) | skip)))
 refine awp_cond (t := _) rfl (fun h1 => ?_) (fun h1 => ?_)
 ·simp only [decide_eq_true_eq] at h1
  have hjl : j < l.length := by omega
  have gx : (l.map encT).getD j [] = encT (l.getD j default) := getD_enc encT l j default hjl
  have hdj := drop_at' l j default hjl
  obtain ⟨hk1, hk2⟩ := hk (l.getD j default) (by rw [List.getD_eq_getElem?_getD, List.getElem?_eq_getElem hjl]; exact List.getElem_mem _)
  generalize l.getD j default = s at *
  rw [hdj, missL_cons] at hmj
  rw [hdj, missB_cons, Bool.and_eq_true, decide_eq_true_eq, List.length_map] at hbj
  obtain ⟨hp11, hbj⟩ := hbj
  have hkk := fun h => a_isKey s (by omega) h
  rw [hk1] at hkk
  have hokp : ∀ p ∈ ps, (K p).2.1 = 1 ∧ 0 ≤ (K p).2.2.2.2.2 ∧ (K p).2.2.2.2.2 ≤ j := fun p hp => hok (K p) (List.mem_map_of_mem hp)
  have hfi := g_find (item := s) K ci k room rule j ps h' hC hT (by omega) hK
  have hfc := findF_cases s K ps
  (repeat (first | refine gO rfl ?_ | (refine gM zM38 fun K1 hK1 => ?_; simp only [go_sem, ↓reduceIte, reduceCtorEq, nA, nB, nC, nD, nE, nF, hml, Int.toNat_natCast, gx, encT] <;> and_intros <;> first | (apply hK1; clear hK1 K1) | (intros; first | omega | decide) | skip)))
  refine hfi.mono ?_
  rintro fk hz ⟨rfl, hh⟩; apply hK1; clear hK1 K1; rw [hh]; clear hh hz hfi
  rcases hfc with ⟨hhas, e⟩ | ⟨p, hp, hpk, hhas, e⟩
  ·rw [e]
   unfold nilP
   rw [hhas, if_neg (by decide)] at hmj hbj
   have hpu := g_put (room := room) (rule := rule) (now := j) (bytes := 1) (item := s) hC hT hp11 hK hcp hone hkk (fun p hp => by have := hokp p hp; omega) (fun p hp => by have := hokp p hp; omega) (by omega) (by omega) (by omega)
   unfold PutR at hpu
   cases hput : putL room rule j (ps.map K) s 1 with
   | none => rw [hput] at hmj; cases hmj
   | some y =>
    obtain ⟨L', gn⟩ := y
    rw [hput] at hmj hbj hpu
    simp only at hmj hbj hpu
    (repeat (first | refine gO rfl ?_ | (refine gM zM38 fun K1 hK1 => ?_; simp only [go_sem, ↓reduceIte, reduceCtorEq, nA, nB, nC, nD, nE, nF] <;> and_intros <;> first | (apply hK1; clear hK1 K1) | (intros; first | omega | decide) | skip)))
    refine awp_cond (t := _) rfl (fun h9 => by cases h9) (fun _ => ?_)
    (repeat (first | refine gO rfl ?_ | (refine gM zM38 fun K1 hK1 => ?_; simp only [go_sem, ↓reduceIte, reduceCtorEq, nA, nB, nC, nD, nE, nF] <;> and_intros <;> first | (apply hK1; clear hK1 K1) | (intros; first | omega | decide) | skip)))
    refine hpu.mono ?_
    rintro _ h2 ⟨K2, ps2, k2, kt, rfl, hL, hK2, hC2, hT2, hcp2, _, _⟩
    refine hK1 _ ?_; clear hK1 K1 hpu
    (repeat (first | refine gO rfl ?_ | (refine gM zM38 fun K1 hK1 => ?_; simp only [go_sem, ↓reduceIte, reduceCtorEq, nA, nB, nC, nD, nE, nF] <;> and_intros <;> first | (apply hK1; clear hK1 K1) | (intros; first | omega | decide) | skip)))
    refine awp_cond (t := _) rfl (fun h9 => by cases h9) (fun _ => ?_)
    (repeat (first | refine gO rfl ?_ | (refine gM zM38 fun K1 hK1 => ?_; simp only [go_sem, ↓reduceIte, reduceCtorEq, nA, nB, nC, nD, nE, nF] <;> and_intros <;> first | (apply hK1; clear hK1 K1) | (intros; first | omega | decide) | skip)))
    have hone2 := putL_one hput hone
    have hok2 := hok.put (by omega) hput
    rw [← hL] at hmj hbj hone2 hok2
    refine ⟨g - 1, by omega, j + 1, n + 1, K2, ps2, k2, h2, by omega, hmj, hbj, by omega, by omega, hC2, hT2, hK2, hcp2, hone2, hok2, rfl⟩
  ·rw [e]
   rw [hhas, if_pos rfl] at hmj hbj
   have hokk := hokp p hp
   have hpc : ci ≠ p := by rintro rfl; exact hcp hp
   have has := g_ask (now := j) hC (hK p hp) hpc (by omega) (by omega)
   (repeat (first | refine gO rfl ?_ | (refine gM zM38 fun K1 hK1 => ?_; simp only [go_sem, ↓reduceIte, reduceCtorEq, nA, nB, nC, nD, nE, nF] <;> and_intros <;> first | (apply hK1; clear hK1 K1) | (intros; first | omega | decide) | skip)))
   refine awp_cond (t := _) rfl (fun _ => ?_) (fun h9 => by cases h9)
   (repeat (first | refine gO rfl ?_ | (refine gM zM38 fun K1 hK1 => ?_; simp only [go_sem, ↓reduceIte, reduceCtorEq, nA, nB, nC, nD, nE, nF] <;> and_intros <;> first | (apply hK1; clear hK1 K1) | (intros; first | omega | decide) | skip)))
   refine has.mono ?_; rintro _ hz ⟨rfl, hh⟩; apply hK1; clear hK1 K1; rw [hh]; clear hh hz
   (repeat (first | refine gO rfl ?_ | (refine gM zM38 fun K1 hK1 => ?_; simp only [go_sem, ↓reduceIte, reduceCtorEq, nA, nB, nC, nD, nE, nF] <;> and_intros <;> first | (apply hK1; clear hK1 K1) | (intros; first | omega | decide) | skip)))
   have hat := atK_map (item := s) (fun x => askF ((j : Int) + 1) x) hone hp hpk
   have hone2 := atK_one (item := s) (f := askF ((j : Int) + 1)) (fun _ => rfl) hone
   have hok2 := hok.ask s
   rw [← hat] at hmj hbj hone2 hok2
   refine ⟨g - 1, by omega, j + 1, n, fun q => if q = p then askF ((j : Int) + 1) (K p) else K q, ps, k, ⟨upd (upd h'.H ci (some (.cells (encCa room rule ((j : Int) + 1) k ps.length)))) p (some (.cells (encKp (askF ((j : Int) + 1) (K p))))), h'.T⟩, by omega, hmj, hbj, by omega, by omega, (upd_other _ _ hpc).trans (upd_same _ _ _), hT, fun q hq => ?_, hcp, hone2, hok2, rfl⟩
   show upd (upd _ ci _) p _ q = some (AO.cells (encKp (if q = p then askF ((j : Int) + 1) (K p) else K q)))
   by_cases e2 : q = p
   ·rw [e2, upd_same, if_pos rfl]
   ·rw [upd_other _ _ e2, upd_other _ _ (by rintro rfl; exact hcp hq), if_neg e2]
    exact hK q hq
 ·simp only [decide_eq_false_iff_not] at h1
  have hjl : j = l.length := by omega
  subst hjl
  rw [List.drop_length] at hmj
  obtain rfl : n = N := by simpa [missL] using hmj
  (repeat (first | refine gO rfl ?_ | (refine gM zM38 fun K1 hK1 => ?_; simp only [go_sem, ↓reduceIte, reduceCtorEq, nA, nB, nC, nD, nE, nF] <;> and_intros <;> first | (apply hK1; clear hK1 K1) | (intros; first | omega | decide) | skip)))
  simp only [Tryz.results80, go_sem, ↓reduceIte, reduceCtorEq, nA, nB, nC, nD, nE, nF]
  exact ⟨_, _, Weak.refl _, Hp.le.refl _, rfl⟩
theorem g_miss5 (h : Hp) : ACalls Tryz.prog 80 [.v (.int .i64 2), .v (.int .i64 1), .row 1 [[.v (.string ⟨#[97]⟩)], [.v (.string ⟨#[98]⟩)], [.v (.string ⟨#[97]⟩)], [.v (.string ⟨#[99]⟩)], [.v (.string ⟨#[98]⟩)]] none] h (fun r h' => r = .tup [.v (.int .i64 4), .v (.int .i64 0)]) :=
 g_misses 2 1 4 [⟨#[97]⟩, ⟨#[98]⟩, ⟨#[97]⟩, ⟨#[99]⟩, ⟨#[98]⟩] h (by omega) (by omega) (by decide) (by decide) (by decide) (by decide)
open Go Go.RowKit
def ARow (w : World) (a : Option Addr) (len cap : Nat) (zs : List Int) : Prop :=
 (a = none ∧ len = 0 ∧ cap = 0 ∧ zs = []) ∨ ∃ b : Addr, a = some b ∧ len ≤ cap ∧ cap ≤ maxLen ∧ zs.length = cap ∧ (∀ i, i < zs.length → w.cell? (b.add i) = some (.int .i64 (zs.getD i 0)) ∧ w.frozen? (b.add i) = false) ∧ (∀ n ∈ zs, (Lit.int .i64 n).wf = true)
def G0 (w : World) : Gh := ⟨fun g o => cellT w g o, fun _ => none, fun _ => none, 0⟩
def H0 : Hp := ⟨fun _ => none, fun _ => none⟩
theorem hsim_all (w : World) : HSim (G0 w) H0 w where
 val _ _ _ h := h
 obj _ _ h := by cases h
 inj _ _ _ h := absurd rfl h
 tok _ _ h := by cases h
 tinj _ _ _ _ h := absurd rfl h
 tobj _ _ _ h := absurd rfl h
 fat _ _ := rfl
 ftl _ _ := rfl
theorem below_of_fr {G G' : Gh} {h' : Hp} {w w' : World} (f : Fr G H0 w G' h' w') : Below w.heap.size w w' :=
 ⟨f.os, f.tape, f.output, f.size, fun b hb => (f.keep b hb (fun o => by rcases o with ⟨_, h, _⟩ | ⟨_, _, h, _⟩ <;> exact h rfl)).1⟩
theorem rep_v_inv0 {G : Gh} {x y : Value} (h : Rep G (.v x) y) : y = x := by cases h; rfl
theorem flat_encI (l : List Int) : (l.map encI).flatten = l.map fun x => AV.v (.int .i64 x) := by
 induction l with
 | nil => rfl
 | cons x q ih => simp [encI, ih]
theorem arow_rep {w : World} {a : Option Addr} {len cap : Nat} {zs : List Int} (h : ARow w a len cap zs) : ∃ l : List Int, SOk l ∧ Rep (G0 w) (.row 1 (l.map encI) none) (.slice a len cap) := by
 rcases h with ⟨rfl, rfl, rfl, _⟩ | ⟨⟨b, o, sp⟩, rfl, hl, hm, hz, hc, hwz⟩
 ·exact ⟨[], ⟨by simp, by simp⟩, .nil 1 none trivial⟩
 ·by_cases h0 : cap = 0
  ·subst h0
   obtain rfl : len = 0 := by omega
   exact ⟨[], ⟨by simp, by simp⟩, .nilA 1 _⟩
  ·have hsp : sp = none := by
    have h1 := (hc 0 (by omega)).1
    rw [show (⟨b, o, sp⟩ : Addr).add 0 = ⟨b, o, sp⟩ from rfl] at h1
    cases sp with
    | none => rfl
    | some s =>
     simp only [World.cell?] at h1
     split at h1 <;> simp at h1
   subst hsp
   refine ⟨zs.take len, ⟨by have hm2 : maxLen = 9223372036854775807 := rfl; rw [List.length_take]; omega, fun x hx => ?_⟩, ?_⟩
   ·have h1 := hwz x (List.mem_of_mem_take hx)
    simp only [Lit.wf, Bool.and_eq_true, decide_eq_true_eq] at h1
    exact ⟨h1.1, h1.2⟩
   ·have hlen : (zs.take len).length = len := by simp; omega
    have h2 := Rep.row_mk (G := G0 w) (z := 1) (xs := (zs.take len).map encI) (g := b) (o := o) (c := cap) (us := (zs.take len).map fun x => Value.int .i64 x) (by rw [List.length_map, hlen]; exact hl)
     (fun y hy => by obtain ⟨x, _, rfl⟩ := List.mem_map.1 hy; rfl) (by
      rw [flat_encI]
      refine ⟨by simp, fun j a b => ?_⟩
      simp only [List.getElem_map]
      exact ⟨.v _ rfl, rfl⟩) (fun j y hy => by
      rw [List.getElem?_map] at hy
      obtain ⟨x, hx, rfl⟩ := Option.map_eq_some_iff.1 hy
      rw [List.getElem?_take] at hx
      split at hx
      ·have hjl := (List.getElem?_eq_some_iff.1 hx).1
       have h3 := hc j hjl
       rw [List.getD_eq_getElem?_getD, hx, Addr.add_lit] at h3
       exact cellT_mk h3.1 (.inr h3.2)
      ·cases hx)
    rwa [List.length_map, hlen] at h2
theorem law_calls {f : Nat} (hlaw : ∀ (l : List Int) (h : Hp), SOk l → ACalls Tryz.prog f [.row 1 (l.map encI) none] h (fun r _ => r = .v (.bool true))) (a : Option Addr) (len cap : Nat) (zs : List Int) (w : World) (h : ARow w a len cap zs) :
  Calls Tryz.prog f #[.slice a len cap] w fun e w' => e = .returned (.bool true) ∧ Below w.heap.size w w' := by
 obtain ⟨l, hl, hrep⟩ := arow_rep h
 refine ((hlaw l H0 hl).calls _ w #[.slice a len cap] (hsim_all w) rfl (fun j hj => ?_)).mono ?_
 ·simp only [List.length_cons, List.length_nil, Nat.zero_add, Nat.lt_one_iff] at hj
  subst hj
  exact hrep
 ·rintro _ w' ⟨r, h', G', v, rfl, rfl, _, f, _, hv⟩
  exact ⟨by rw [rep_v_inv0 hv], below_of_fr f⟩
abbrev zPUE : List Nat := [0, 1, 5, 6]
abbrev zPUP : List (Nat × List Nat × List Nat) := [(2, [6], [3]), (4, [6], []), (7, [], [8]), (9, [], [10, 11])]
attribute [go_sem] zPUE zPUP
set_option maxHeartbeats 16000000
theorem orI2 (a b : Int) : orI [a, b] = if a = 0 then b else a := by
 rw [orI]
 split
 ·rw [orI]
  split
  ·rename_i e; rw [e]; rfl
  ·rfl
 ·rfl
theorem orI3 (a b c : Int) : orI [a, b, c] = if a = 0 then (if b = 0 then c else b) else a := by
 rw [orI, orI2]
theorem g_stocked (h : Hp) : ACalls Tryz.prog 26 [] h (fun r h' => r = .v (.bool true)) := by
 refine gE Tryz.func26 rfl (by kernel_rfl) 14 rfl fun c => ?_
 (repeat (first | refine gO rfl ?_ | (refine gR fun K1 hK1 => ?_; simp only [go_sem, ↓reduceIte, reduceCtorEq, nA, nB, nC, nD, nE, nF] <;> and_intros <;> first | (apply hK1; clear hK1 K1) | (intros; first | omega | decide) | skip)))
 refine (g_miss5 h).mono ?_
 rintro _ h2 rfl; apply hK1; clear hK1 K1
 (repeat (first | refine gO rfl ?_ | (refine gR fun K1 hK1 => ?_; simp only [go_sem, ↓reduceIte, reduceCtorEq, nA, nB, nC, nD, nE, nF] <;> and_intros <;> first | (apply hK1; clear hK1 K1) | (intros; first | omega | decide) | skip)))
 simp only [Tryz.results26, go_sem, ↓reduceIte, reduceCtorEq, nA, nB, nC, nD, nE, nF]
 exact ⟨_, _, Weak.refl _, Hp.le.refl _, rfl⟩
theorem runsW_len (f : Int → Bool) : ∀ (P : List Int) (acc : List Wnd), (runsW f P acc).length ≤ acc.length + P.length
 | [], acc => by simp [runsW]
 | [a], acc => by simp [runsW]
 | a :: b :: l, acc => by
  have h1 := runsW_len f (b :: l) (if f a then pushW acc a b else acc)
  have h2 : (if f a then pushW acc a b else acc).length ≤ acc.length + 1 := by
   split
   ·unfold pushW
    split
    ·split
     ·simp
     ·simp
    ·simp
   ·omega
  rw [runsW]
  simp only [List.length_cons] at h1 ⊢
  omega
abbrev zPVE : List Nat := [0, 1, 2, 3, 4, 8, 9, 10, 12, 13]
abbrev zPVP : List (Nat × List Nat × List Nat) := [(5, [9, 10, 12], [6, 7]), (11, [12], []), (14, [], [15])]
attribute [go_sem] zPVE zPVP
set_option maxHeartbeats 8000000
theorem runOne {f : Int → Bool} {a b : Int} {W : List Wnd} (h : RunOk f a b W) (hab : a < b) : W = [(a, b)] ↔ ∀ x, a ≤ x → x < b → f x = true := by
 constructor
 ·rintro rfl x h1 h2
  exact (h.cov x h1 h2).1 ⟨(a, b), by simp, h1, h2⟩
 ·intro hf
  have hend : ∀ w ∈ W, w.2 = b := fun w hw => by
   have h1 := h.bd w hw
   by_cases e : w.2 < b
   ·have h2 := h.stop w hw e
    rw [hf w.2 (by omega) e] at h2; cases h2
   ·omega
  obtain ⟨w, hw, h3, h4⟩ := (h.cov a (Int.le_refl _) hab).2 (hf a (Int.le_refl _) hab)
  have hup := h.up
  match W, hw, hend, hup with
  | [v], hw, hend, _ =>
   have e : w = v := List.mem_singleton.1 hw
   subst e
   have h5 := h.bd w (by simp)
   have h6 := hend w (by simp)
   obtain ⟨w1, w2⟩ := w
   simp only at *
   rw [show w1 = a by omega, h6]
  | u :: v :: l, _, hend, hup =>
   exfalso
   have h5 := (List.pairwise_cons.1 hup).1 v (by simp)
   have h6 := hend u (by simp)
   have h7 := hend v (by simp)
   omega
def tmOk (rs : List Rt) (ps : List Gu) (x : Pq) : Bool := decide (timesR (tagsOf ps x.1) x.2.1 x.2.2.1 (x.2.2.1 + x.2.2.2) rs = [(x.2.2.1, x.2.2.1 + x.2.2.2)])
def whOk (rs : List Rt) (ps : List Gu) (x : Pq) : Bool := wholeV (tagsOf ps x.1) x.2.1 x.2.2.1 (x.2.2.1 + x.2.2.2) rs
theorem tm_wh (rs : List Rt) (ps : List Gu) (x : Pq) (hw : ∀ r ∈ rs, r.2.2.1 < r.2.2.2.1) (hx : 1 ≤ x.2.2.2) : tmOk rs ps x = whOk rs ps x := by
 unfold tmOk whOk
 rw [timesRP _ _ _ _ _ (by omega), Bool.eq_iff_iff, decide_eq_true_eq, wholeV_iff _ _ _ _ _ (by omega) hw]
 exact runOne (timesP_ok _ _ _ _ _ (by omega)) (by omega)
theorem g_brOf (rs : List Rt) (ps : List Gu) (pl : List Pq) (hl : rs.length ≤ 12) (hok : ∀ r ∈ rs, RtOk r) (hps : ps.length ≤ 400) (hpo : ∀ p ∈ ps, GuOk p) (hpl : pl.length ≤ 100) (hxo : ∀ x ∈ pl, PqOk x) (hf : plsF ps pl = 0) (h : Hp) :
  ACalls Tryz.prog 36 [.row 5 (rs.map encRt) none, .row 4 (ps.map encGu) none, .row 4 (pl.map encPq) none] h (fun r h' => r = .row 1 ((outG (tmOk rs ps) pl 0).map encI) none ∧ h' = h) := by
 have hml : (pl.map encPq).length = pl.length := List.length_map _
 have hmp : (ps.map encGu).length = ps.length := List.length_map _
 refine gE Tryz.func36 rfl (by kernel_rfl) 45 rfl fun c => ?_
 (repeat (first | refine gQ rfl ?_ | ((first | refine gM zM39 ?_ | (with_reducible refine wM ?_ ?_) | ((with_reducible refine xS ?_); refine uD 6 zM39 zPVE zPVP 48 rfl (by kernel_rfl) ?_)) <;> ((try with_reducible intro K1 hK1); simp only [go_sem, ↓reduceIte, reduceCtorEq, nA, nB, nC, nD, nE, nF] <;> and_intros <;> first | (apply hK1; clear hK1 K1) | (intros; first | omega | decide | (simp_all <;> omega)) | skip))))
 refine awp_seq ?_
 refine awp_ownA 7 1 rfl ⟨rfl, rfl⟩ (fun k hk => ?_)
 replace hk : h.T k = none := hk
 (repeat (first | refine gO rfl ?_ | ((first | refine gM zM39 ?_ | (with_reducible refine wM ?_ ?_) | ((with_reducible refine xS ?_); refine uD 6 zM39 zPVE zPVP 48 rfl (by kernel_rfl) ?_)) <;> ((try with_reducible intro K1 hK1); simp only [go_sem, ↓reduceIte, reduceCtorEq, nA, nB, nC, nD, nE, nF, hml] <;> and_intros <;> first | (apply hK1; clear hK1 K1) | (intros; first | omega | decide) | skip))))
 refine awp_loopC (rl false [0, 2, 5, 1, 3, 3, 34]) 0 (fun g s => ∃ (j n : Nat) (ys : List Int), g + j = pl.length ∧ ys.length = n ∧ n ≤ j ∧ ys ++ outG (tmOk rs ps) (pl.drop j) j = outG (tmOk rs ps) pl 0 ∧
  s = ⟨((.row 5 (rs.map encRt) none) :: (.row 4 (ps.map encGu) none) :: (jnk 5 ((.arr 1 k n) :: (jnk 3 ((.row 4 (pl.map encPq) none) :: (.v (.int .i64 pl.length)) :: (.v (.int .i64 j)) :: (jnk 34 [])))))), [], ⟨h.H, upd h.T k (some (.cont 1 (ys.map encI)))⟩⟩) pl.length ⟨0, 0, [], by omega, rfl, by omega, rfl, rfl⟩ ?_
 rintro g _ ⟨j, n, ys, hj, hn, hnj, hinv, rfl⟩
 have hTq : upd h.T k (some (TO.cont 1 (ys.map encI))) k = some (TO.cont 1 (ys.map encI)) := upd_same _ _ _
 have hyl : (ys.map encI).length = n := by rw [List.length_map, hn]
 (repeat (first | refine gO rfl ?_ | ((first | refine gM zM39 ?_ | (with_reducible refine wM ?_ ?_) | ((with_reducible refine xS ?_); refine uD 6 zM39 zPVE zPVP 48 rfl (by kernel_rfl) ?_)) <;> ((try with_reducible intro K1 hK1); simp only [go_sem, ↓reduceIte, reduceCtorEq, nA, nB, nC, nD, nE, nF] <;> and_intros <;> first | (apply hK1; clear hK1 K1) | (intros; first | omega | decide) | skip))))
 refine awp_cond (t := _) rfl (fun h5 => ?_) (fun h5 => ?_)
 ·simp only [decide_eq_true_eq] at h5
  have hjl : j < pl.length := by omega
  have gx : (pl.map encPq).getD j [] = encPq pl[j] := by rw [List.getD_eq_getElem?_getD, List.getElem?_map, List.getElem?_eq_getElem hjl]; rfl
  have hxo1 := hxo _ (List.getElem_mem hjl)
  obtain ⟨q1, q2, q3, q4, q5⟩ := pqF_ok (plsF_ok hf _ (List.getElem_mem hjl))
  rw [List.drop_eq_getElem_cons hjl, outG] at hinv
  generalize pl[j] = x at *
  obtain ⟨who, it, fr, lo⟩ := x
  rw [show encPq (who, it, fr, lo) = [.v (.string who), .v (.string it), .v (.int .i64 fr), .v (.int .i64 lo)] from rfl] at gx
  obtain ⟨hw1, hw2, hw3, hw4⟩ := hxo1
  simp only at hw1 hw2 hw3 hw4 q1 q2 q3 q4 q5
  have hWho := fun h => g_playerAt ps who (by omega) h
  rcases whoI_at who ps 0 with e | ⟨m, p, e1, e2, e3, e4⟩
  ·omega
  rw [Nat.zero_add] at e1
  rw [e1] at hWho
  have htm : tmOk rs ps (who, it, fr, lo) = decide (timesR p.tags it fr (fr + lo) rs = [(fr, fr + lo)]) := by
   unfold tmOk; simp only [e4]
  rw [htm] at hinv
  clear htm
  have hpp := hpo p (List.mem_of_getElem? e2)
  have hmL : m < ps.length := (List.getElem?_eq_some_iff.1 e2).1
  have gp : (ps.map encGu).getD m [] = encGu p := by rw [List.getD_eq_getElem?_getD, List.getElem?_map, e2]; rfl
  have hTm := fun h => g_timesOf rs p it fr (fr + lo) none (by omega) hok hpp h
  rw [show encGu p = [.v (.string p.key), .v (.string p.scr), .v (.int .i64 p.zone), .row 1 (p.tags.map encS) none] from rfl] at gp hTm
  have hTl : (timesR p.tags it fr (fr + lo) rs).length ≤ 10000 := by
   rw [timesRP _ _ _ _ _ (by omega)]
   unfold timesP
   have e1 := runsW_len (fun x => mayL p.tags it x rs false) (onceI (cuts0 it fr (fr + lo) rs)) []
   have e2 := onceI_len (cuts0 it fr (fr + lo) rs)
   have e3 := cuts0_len it fr (fr + lo) rs
   simp only [List.length_nil] at e1
   omega
  generalize timesR p.tags it fr (fr + lo) rs = W at *
  have hEq := fun h => g_eqW W [(fr, fr + lo)] h ⟨by omega, by simp⟩
  rw [show [(fr, fr + lo)].map encW2 = [[.v (.int .i64 fr), .v (.int .i64 (fr + lo))]] from rfl] at hEq
  (repeat (first | refine gO rfl ?_ | ((first | refine gM zM39 ?_ | (with_reducible refine wM ?_ ?_) | ((with_reducible refine xS ?_); refine uD 6 zM39 zPVE zPVP 48 rfl (by kernel_rfl) ?_)) <;> ((try with_reducible intro K1 hK1); simp only [go_sem, ↓reduceIte, reduceCtorEq, nA, nB, nC, nD, nE, nF, hml, Int.toNat_natCast, gx] <;> and_intros <;> first | (apply hK1; clear hK1 K1) | (intros; first | omega | decide) | skip))))
  refine (hWho _).mono ?_; rintro _ hz ⟨rfl, hh⟩; apply hK1; clear hK1 K1; rw [hh]; clear hh hz
  (repeat (first | refine gO rfl ?_ | ((first | refine gM zM39 ?_ | (with_reducible refine wM ?_ ?_) | ((with_reducible refine xS ?_); refine uD 6 zM39 zPVE zPVP 48 rfl (by kernel_rfl) ?_)) <;> ((try with_reducible intro K1 hK1); simp only [go_sem, ↓reduceIte, reduceCtorEq, nA, nB, nC, nD, nE, nF, hmp, Int.toNat_natCast, gp] <;> and_intros <;> first | (apply hK1; clear hK1 K1) | (intros; first | omega | decide) | skip))))
  all_goals try with_reducible rfl
  (repeat (first | refine gO rfl ?_ | ((first | refine gM zM39 ?_ | (with_reducible refine wM ?_ ?_) | ((with_reducible refine xS ?_); refine uD 6 zM39 zPVE zPVP 48 rfl (by kernel_rfl) ?_)) <;> ((try with_reducible intro K1 hK1); simp only [go_sem, ↓reduceIte, reduceCtorEq, nA, nB, nC, nD, nE, nF, hmp, Int.toNat_natCast, gp] <;> and_intros <;> first | (apply hK1; clear hK1 K1) | (intros; first | omega | decide) | skip))))
  refine (hTm _).mono ?_; rintro _ hz ⟨rfl, hh⟩; apply hK1; clear hK1 K1; rw [hh]; clear hh hz
  (repeat (first | refine gO rfl ?_ | ((first | refine gM zM39 ?_ | (with_reducible refine wM ?_ ?_) | ((with_reducible refine xS ?_); refine uD 6 zM39 zPVE zPVP 48 rfl (by kernel_rfl) ?_)) <;> ((try with_reducible intro K1 hK1); simp only [go_sem, ↓reduceIte, reduceCtorEq, nA, nB, nC, nD, nE, nF] <;> and_intros <;> first | (apply hK1; clear hK1 K1) | (intros; first | omega | decide) | skip))))
  all_goals try with_reducible rfl
  (repeat (first | refine gO rfl ?_ | ((first | refine gM zM39 ?_ | (with_reducible refine wM ?_ ?_) | ((with_reducible refine xS ?_); refine uD 6 zM39 zPVE zPVP 48 rfl (by kernel_rfl) ?_)) <;> ((try with_reducible intro K1 hK1); simp only [go_sem, ↓reduceIte, reduceCtorEq, nA, nB, nC, nD, nE, nF] <;> and_intros <;> first | (apply hK1; clear hK1 K1) | (intros; first | omega | decide) | skip))))
  refine (hEq _).mono ?_; rintro _ hz ⟨rfl, hh⟩; apply hK1; clear hK1 K1; rw [hh]; clear hh hz
  (repeat (first | refine gO rfl ?_ | ((first | refine gM zM39 ?_ | (with_reducible refine wM ?_ ?_) | ((with_reducible refine xS ?_); refine uD 6 zM39 zPVE zPVP 48 rfl (by kernel_rfl) ?_)) <;> ((try with_reducible intro K1 hK1); simp only [go_sem, ↓reduceIte, reduceCtorEq, nA, nB, nC, nD, nE, nF] <;> and_intros <;> first | (apply hK1; clear hK1 K1) | (intros; first | omega | decide) | skip))))
  cases hb : decide (W = [(fr, fr + lo)]) with
  | true =>
   rw [hb, if_pos rfl] at hinv
   refine awp_cond (t := _) rfl (fun h6 => by cases h6) (fun _ => ?_)
   (repeat (first | refine gO rfl ?_ | ((first | refine gM zM39 ?_ | (with_reducible refine wM ?_ ?_) | ((with_reducible refine xS ?_); refine uD 6 zM39 zPVE zPVP 48 rfl (by kernel_rfl) ?_)) <;> ((try with_reducible intro K1 hK1); simp only [go_sem, ↓reduceIte, reduceCtorEq, nA, nB, nC, nD, nE, nF] <;> and_intros <;> first | (apply hK1; clear hK1 K1) | (intros; first | omega | decide) | skip))))
   exact ⟨g - 1, by omega, j + 1, n, ys, by omega, hn, by omega, hinv, rfl⟩
  | false =>
   rw [hb, if_neg (by decide)] at hinv
   refine awp_cond (t := _) rfl (fun _ => ?_) (fun h6 => by cases h6)
   (repeat (first | refine gO rfl ?_ | ((first | refine gM zM39 ?_ | (with_reducible refine wM ?_ ?_) | ((with_reducible refine xS ?_); refine uD 6 zM39 zPVE zPVP 48 rfl (by kernel_rfl) ?_)) <;> ((try with_reducible intro K1 hK1); simp only [go_sem, ↓reduceIte, reduceCtorEq, nA, nB, nC, nD, nE, nF, hTq, hyl] <;> and_intros <;> first | (apply hK1; clear hK1 K1) | (intros; first | omega | decide) | skip))))
   refine ⟨g - 1, by omega, j + 1, n + 1, ys ++ [(j : Int)], by omega, by simp [hn], by omega, by rw [← hinv, List.append_assoc]; rfl, ?_⟩
   have e3 : (ys ++ [(j : Int)]).map encI = ys.map encI ++ [[.v (.int .i64 j)]] := by rw [List.map_append]; rfl
   rw [e3]
   (try simp only [upd_upd])
   rfl
 ·simp only [decide_eq_false_iff_not] at h5
  have hjl : j = pl.length := by omega
  subst hjl
  rw [List.drop_length, outG, List.append_nil] at hinv
  subst hn
  refine awp_frz 7 k 1 (xs := ys.map encI) (by rw [List.length_map]; rfl) (upd_same _ _ _) (fun y hy => by obtain ⟨z, _, rfl⟩ := List.mem_map.1 hy; rfl) ?_
  (repeat (first | refine gO rfl ?_ | ((first | refine gM zM39 ?_ | (with_reducible refine wM ?_ ?_) | ((with_reducible refine xS ?_); refine uD 6 zM39 zPVE zPVP 48 rfl (by kernel_rfl) ?_)) <;> ((try with_reducible intro K1 hK1); simp only [go_sem, ↓reduceIte, reduceCtorEq, nA, nB, nC, nD, nE, nF] <;> and_intros <;> first | (apply hK1; clear hK1 K1) | (intros; first | omega | decide) | skip))))
  simp only [Tryz.results36, go_sem, ↓reduceIte, reduceCtorEq, nA, nB, nC, nD, nE, nF]
  refine ⟨_, h, Weak.refl _, ⟨fun _ => .inr rfl, fun t => ?_⟩, by rw [← hinv], rfl⟩
  by_cases e : t = k
  ·subst e; exact .inl hk
  ·exact .inr (by show h.T t = upd h.T k none t; rw [upd_other _ _ e])
end Go.Proofs.YtmghfolmgmhabaaGreatDoor
