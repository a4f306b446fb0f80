/- Tallies of steps; the parts of a round. -/
import Derived.Test.YtidkkmoiolffnaaGreatDoorM3
import Derived.Test.YtidkkmoiolffnaaGreatDoorAvRun
import Derived.Below
namespace Go.Proofs.YtidkkmoiolffnaaGreatDoor
open Go
set_option linter.unusedVariables false
set_option linter.unusedSimpArgs false
open Nat renaming reduceAdd → nA, reduceSub → nB, reduceMul → nC, reduceLT → nD, reduceLeDiff → nE, reduceEqDiff → nF, reduceMod → nG, reduceDiv → nH, reducePow → nI
abbrev zM40 : Option Tmp → Nat := mdL [(5, 1), (22, 2)]
abbrev zM41 : Option Tmp → Nat := mdL [(4, 1)]
abbrev zM42 : Option Tmp → Nat := mdL [(19, 2)]
abbrev zM43 : Option Tmp → Nat := mdL [(4, 1), (14, 1), (17, 1), (20, 2)]
attribute [go_sem] zM40 zM41 zM42 zM43
abbrev zP1JE : List Nat := [0, 1, 2, 3, 4, 5, 6, 7, 8, 9, 10, 11]
abbrev zP1JP : List (Nat × List Nat × List Nat) := [(12, [], [])]
attribute [go_sem] zP1JE zP1JP
set_option maxRecDepth 100000
set_option maxHeartbeats 8000000
theorem g_tallies (xs : List (ByteArray × Int)) (h : Hp) (hp : Pos xs) (hl : xs.length ≤ 5000) : ACalls Tryz.prog 81 [.row 2 (xs.map encStep) none] h (fun r h' => ∃ m ks f, r = .map m ∧ TalI h' m xs (xs.map (·.1)) ks f) := by
 refine gE Tryz.func81 rfl (by kernel_rfl) 46 rfl fun c => ?_
 (repeat (first | refine gQ rfl ?_ | ((first | refine gM zM40 ?_ | (with_reducible refine wM ?_ ?_) | ((with_reducible refine xR ?_); refine uE 8 zM40 zP1JE zP1JP 47 rfl (by kernel_rfl) ?_)) <;> ((try with_reducible intro K1 hK1); simp only [go_sem, ↓reduceIte, reduceCtorEq, nA, nB, nC, nD, nE, nF] <;> and_intros <;> first | (apply hK1; clear hK1 K1) | (intros; first | omega | decide | (simp_all <;> omega)) | skip))))
 intro m hm
 refine hK1 _ ?_; clear hK1 K1
 (repeat (first | refine gQ rfl ?_ | ((first | refine gM zM40 ?_ | (with_reducible refine wM ?_ ?_) | ((with_reducible refine xR ?_); refine uE 8 zM40 zP1JE zP1JP 47 rfl (by kernel_rfl) ?_)) <;> ((try with_reducible intro K1 hK1); simp only [go_sem, ↓reduceIte, reduceCtorEq, nA, nB, nC, nD, nE, nF] <;> and_intros <;> first | (apply hK1; clear hK1 K1) | (intros; first | omega | decide | (simp_all <;> omega)) | skip))))
 refine awp_seq ?_
 (repeat (first | refine gO rfl ?_ | ((first | refine gM zM40 ?_ | (with_reducible refine wM ?_ ?_) | ((with_reducible refine xR ?_); refine uE 8 zM40 zP1JE zP1JP 47 rfl (by kernel_rfl) ?_)) <;> ((try with_reducible intro K1 hK1); simp only [go_sem, ↓reduceIte, reduceCtorEq, nA, nB, nC, nD, nE, nF] <;> and_intros <;> first | (apply hK1; clear hK1 K1) | (intros; first | omega | decide | (simp_all <;> omega)) | skip))))
 refine awp_loopC (rl false [3, 1, 3, 3, 37]) 0 (fun g s => ∃ (j : Nat) (h2 : Hp) (ks : List ByteArray) (f : ByteArray → Nat), g + j = xs.length ∧ TalI h2 m (xs.take j) ((xs.take j).map (·.1)) ks f ∧
  s = ⟨((jnk 3 ((.map m) :: (jnk 3 ((.row 2 (xs.map encStep) none) :: (.v (.int .i64 xs.length)) :: (.v (.int .i64 j)) :: (jnk 37 [])))))), [], h2⟩) xs.length ⟨0, _, [], fun _ => 0, by omega, TalI.nil (upd_same _ _ _), rfl⟩ ?_
 rintro g _ ⟨j, h2, ks, f, hj, hT, rfl⟩
 (repeat (first | refine gO rfl ?_ | ((first | refine gM zM40 ?_ | (with_reducible refine wM ?_ ?_) | ((with_reducible refine xR ?_); refine uE 8 zM40 zP1JE zP1JP 47 rfl (by kernel_rfl) ?_)) <;> ((try with_reducible intro K1 hK1); simp only [go_sem, ↓reduceIte, reduceCtorEq, nA, nB, nC, nD, nE, nF] <;> and_intros <;> first | (apply hK1; clear hK1 K1) | (intros; first | omega | decide | (simp_all <;> omega)) | skip))))
 refine awp_cond (t := _) rfl (fun h1 => ?_) (fun h1 => ?_)
 ·simp only [decide_eq_true_eq] at h1
  have hjl : j < xs.length := by omega
  have gx : (xs.map encStep).getD j [] = encStep (xs.getD j default) := getD_enc encStep xs j default hjl
  have tx : (xs.take (j + 1)).map (·.1) = (xs.take j).map (·.1) ++ [(xs.getD j default).1] := by rw [take_at xs j hjl]; simp
  have hxb := pos_at hp hjl
  obtain ⟨q, hq⟩ : ∃ q, (xs.getD j default).1 = q := ⟨_, rfl⟩
  obtain ⟨y, hy⟩ : ∃ y, (xs.getD j default).2 = y := ⟨_, rfl⟩
  have gx2 : (xs.map encStep).getD j [] = [.v (.string q), .v (.int .i64 y)] := by rw [gx, encStep, hq, hy]
  rw [hy] at hxb
  rw [hq] at tx
  have hM := hT.map
  clear gx
  (repeat (first | refine gQ rfl ?_ | ((first | refine gM zM40 ?_ | (with_reducible refine wM ?_ ?_) | ((with_reducible refine xR ?_); refine uE 8 zM40 zP1JE zP1JP 47 rfl (by kernel_rfl) ?_)) <;> ((try with_reducible intro K1 hK1); simp only [go_sem, ↓reduceIte, reduceCtorEq, nA, nB, nC, nD, nE, nF, Int.toNat_natCast, gx2] <;> and_intros <;> first | (apply hK1; clear hK1 K1) | (intros; first | omega | decide | (simp_all <;> omega)) | skip))))
  refine awp_seq ?_
  refine awp_block ?_
  (repeat (first | refine gQ rfl ?_ | ((first | refine gM zM40 ?_ | (with_reducible refine wM ?_ ?_) | ((with_reducible refine xR ?_); refine uE 8 zM40 zP1JE zP1JP 47 rfl (by kernel_rfl) ?_)) <;> ((try with_reducible intro K1 hK1); simp only [go_sem, ↓reduceIte, reduceCtorEq, nA, nB, nC, nD, nE, nF, Int.toNat_natCast, gx2] <;> and_intros <;> first | (apply hK1; clear hK1 K1) | (intros; first | omega | decide | (simp_all <;> omega)) | skip))))
  refine awp_seq ?_
  refine awp_join (rl false [3, 1, 1, 1, 1, 3, 37]) 1 (fun s => ∃ (h3 : Hp) (ks3 : List ByteArray) (f3 : ByteArray → Nat), q ∈ ks3 ∧ TalI h3 m (xs.take j) ((xs.take (j + 1)).map (·.1)) ks3 f3 ∧
   s = ⟨((jnk 3 ((.map m) :: AV.junk :: ((.loc 0 0) :: AV.junk :: ((.row 2 (xs.map encStep) none) :: (.v (.int .i64 xs.length)) :: (.v (.int .i64 j)) :: (jnk 37 [])))))), [[.v (.string q), .v (.int .i64 y)]], h3⟩) ?_ ?_
  ·by_cases hk : q ∈ ks
   ·have hG := (mget_ptrs f ks q).1 hk
    (repeat (first | refine gO rfl ?_ | ((first | refine gM zM40 ?_ | (with_reducible refine wM ?_ ?_) | ((with_reducible refine xR ?_); refine uE 8 zM40 zP1JE zP1JP 47 rfl (by kernel_rfl) ?_)) <;> ((try with_reducible intro K1 hK1); simp only [go_sem, ↓reduceIte, reduceCtorEq, nA, nB, nC, nD, nE, nF, hM, hG] <;> and_intros <;> first | (apply hK1; clear hK1 K1) | (intros; first | omega | decide | (simp_all <;> omega)) | skip))))
    refine awp_cond (t := _) rfl (fun h9 => by cases h9) (fun _ => ?_)
    (repeat (first | refine gO rfl ?_ | ((first | refine gM zM40 ?_ | (with_reducible refine wM ?_ ?_) | ((with_reducible refine xR ?_); refine uE 8 zM40 zP1JE zP1JP 47 rfl (by kernel_rfl) ?_)) <;> ((try with_reducible intro K1 hK1); simp only [go_sem, ↓reduceIte, reduceCtorEq, nA, nB, nC, nD, nE, nF] <;> and_intros <;> first | (apply hK1; clear hK1 K1) | (intros; first | omega | decide | (simp_all <;> omega)) | skip))))
    exact ⟨_, ks, f, hk, by rw [tx]; exact hT.same hk, rfl⟩
   ·have hG := (mget_ptrs f ks q).2 hk
    (repeat (first | refine gO rfl ?_ | ((first | refine gM zM40 ?_ | (with_reducible refine wM ?_ ?_) | ((with_reducible refine xR ?_); refine uE 8 zM40 zP1JE zP1JP 47 rfl (by kernel_rfl) ?_)) <;> ((try with_reducible intro K1 hK1); simp only [go_sem, ↓reduceIte, reduceCtorEq, nA, nB, nC, nD, nE, nF, hM, hG] <;> and_intros <;> first | (apply hK1; clear hK1 K1) | (intros; first | omega | decide | (simp_all <;> omega)) | skip))))
    refine awp_cond (t := _) rfl (fun _ => ?_) (fun h9 => by cases h9)
    (repeat (first | refine gO rfl ?_ | ((first | refine gM zM40 ?_ | (with_reducible refine wM ?_ ?_) | ((with_reducible refine xR ?_); refine uE 8 zM40 zP1JE zP1JP 47 rfl (by kernel_rfl) ?_)) <;> ((try with_reducible intro K1 hK1); simp only [go_sem, ↓reduceIte, reduceCtorEq, nA, nB, nC, nD, nE, nF, hM, hG] <;> and_intros <;> first | (apply hK1; clear hK1 K1) | (intros; first | omega | decide | (simp_all <;> omega)) | skip))))
    intro i hi
    have him : m ≠ i := fun e => by rw [← e, hM] at hi; cases hi
    have hMi : ∀ X, upd h2.H i X m = some (AO.map (ptrsL f ks)) := fun X => by rw [upd_other _ _ him]; exact hM
    simp only [hMi]
    refine hK1 _ ?_; clear hK1 K1
    (repeat (first | refine gO rfl ?_ | ((first | refine gM zM40 ?_ | (with_reducible refine wM ?_ ?_) | ((with_reducible refine xR ?_); refine uE 8 zM40 zP1JE zP1JP 47 rfl (by kernel_rfl) ?_)) <;> ((try with_reducible intro K1 hK1); simp only [go_sem, ↓reduceIte, reduceCtorEq, nA, nB, nC, nD, nE, nF] <;> and_intros <;> first | (apply hK1; clear hK1 K1) | (intros; first | omega | decide | (simp_all <;> omega)) | skip))))
    have hz := longF_zero (xs := xs.take j) (k := q) (fun e => hk ((hT.mem q).2 e))
    refine ⟨_, ks ++ [q], fun k => if k = q then i else f k, by simp, ?_, rfl⟩
    rw [tx]
    refine hT.born hk hi ?_ ?_ fun n h5 h6 => ?_
    ·show upd _ m _ m = _
     rw [upd_same, mset_ptrs hk]
    ·show upd _ m _ i = _
     rw [upd_other _ _ (Ne.symm him), upd_same, tCell, hz.1, hz.2]; rfl
    ·show upd _ m _ n = _
     rw [upd_other _ _ h6, upd_other _ _ h5]
  ·rintro _ ⟨h3, ks3, f3, hk3, hT3, rfl⟩
   have hM3 := hT3.map
   have hG3 := (mget_ptrs f3 ks3 q).1 hk3
   have hC3 := hT3.cell q hk3
   have hne := hT3.ne q hk3
   rw [tCell] at hC3
   have hM4 : ∀ X, upd h3.H (f3 q) X m = some (AO.map (ptrsL f3 ks3)) := fun X => by rw [upd_other _ _ (Ne.symm hne)]; exact hM3
   have hcl := cntF_le (xs.take j) q
   have hlj : (xs.take j).length ≤ 5000 := by rw [List.length_take]; omega
   have hlb := longF_bd (xs := xs.take j) (fun x hx => hp x (List.mem_of_mem_take hx)) q
   obtain ⟨cn, hcn⟩ : ∃ cn, cntF (xs.take j) q = cn := ⟨_, rfl⟩
   obtain ⟨lg, hlg⟩ : ∃ lg, longF (xs.take j) q = lg := ⟨_, rfl⟩
   rw [hcn, hlg] at hC3
   rw [hcn] at hcl
   rw [hlg] at hlb
   (repeat (first | refine gO rfl ?_ | ((first | refine gM zM40 ?_ | (with_reducible refine wM ?_ ?_) | ((with_reducible refine xR ?_); refine uE 8 zM40 zP1JE zP1JP 47 rfl (by kernel_rfl) ?_)) <;> ((try with_reducible intro K1 hK1); simp only [go_sem, ↓reduceIte, reduceCtorEq, nA, nB, nC, nD, nE, nF, hM3, hG3, hC3, hM4, upd_same] <;> and_intros <;> first | (apply hK1; clear hK1 K1) | (intros; first | omega | decide | (simp_all <;> omega)) | skip))))
   refine ⟨g - 1, by omega, j + 1, _, ks3, f3, by omega, hT3.more hjl hq hk3 ?_ (fun i hi => upd_other _ _ hi), rfl⟩
   show upd _ (f3 q) _ (f3 q) = _
   rw [upd_same, tCell, cntF_yes hjl hq, longF_yes hjl hq, hcn, hlg, hy]; rfl
 ·simp only [decide_eq_false_iff_not] at h1
  have hjl : j = xs.length := by omega
  subst hjl
  rw [List.take_length] at *
  (repeat (first | refine gO rfl ?_ | ((first | refine gM zM40 ?_ | (with_reducible refine wM ?_ ?_) | ((with_reducible refine xR ?_); refine uE 8 zM40 zP1JE zP1JP 47 rfl (by kernel_rfl) ?_)) <;> ((try with_reducible intro K1 hK1); simp only [go_sem, ↓reduceIte, reduceCtorEq, nA, nB, nC, nD, nE, nF] <;> and_intros <;> first | (apply hK1; clear hK1 K1) | (intros; first | omega | decide | (simp_all <;> omega)) | skip))))
  simp only [Tryz.results81, go_sem, ↓reduceIte, reduceCtorEq, nA, nB, nC, nD, nE, nF]
  exact ⟨_, _, Weak.refl _, Hp.le.refl _, m, ks, f, rfl, hT⟩
abbrev zP1KE : List Nat := [0, 1, 2, 3, 4, 5, 6, 7, 8, 9, 10, 12, 13, 14, 15, 16, 17, 18, 19]
abbrev zP1KP : List (Nat × List Nat × List Nat) := [(11, [14, 17, 19], []), (20, [], [21, 22]), (23, [], []), (24, [], [])]
attribute [go_sem] zP1KE zP1KP
theorem ptrs_keys (f : ByteArray → Nat) (ks : List ByteArray) : (ptrsL f ks).map (·.1) = ks := by
 rw [ptrsL, List.map_map]
 exact List.map_id' ks
theorem part_bd {xs : List (ByteArray × Int)} (hg : GoodS xs) (k : ByteArray) : cntF xs k ≤ 5000 ∧ longF xs k = ((longF xs k).toNat : Int) ∧ (longF xs k).toNat ≤ 18000000000 ∧ sumL xs = ((sumL xs).toNat : Int) ∧ 1 ≤ (sumL xs).toNat ∧ (sumL xs).toNat ≤ 18000000000 ∧ 1 ≤ xs.length ∧ xs.length ≤ 5000 := by
 have h1 := cntF_le xs k
 have h2 := longF_bd hg.pos k
 have h3 := sumL_bd hg.pos
 have h4 := sumL_pos hg.pos hg.ne
 have h5 := hg.len
 have h6 := List.length_pos_iff.2 hg.ne
 omega
theorem g_Parts (d : Nat) (t : LT) (h : Hp) (hb : KC d t) (hd : manyF t ≤ 1000000000000000 ∧ d ≤ 1000) : ACalls Tryz.prog 22 [.agg (encL t)] h (fun r _ => r = .tup [.row 5 (partsR (rdS d t)) none, .v (.int .i64 (rdE d t))]) := by
 have hlen := encL_len t
 have htk : List.take 6 (encL t) = encL t := List.take_of_length_le (Nat.le_of_eq hlen)
 have hdk : List.drop 6 (encL t) = [] := List.drop_of_length_le (Nat.le_of_eq hlen)
 have hck := g_checked d t h hb hd
 unfold rdC at hck
 have hgood := fun he => rd_good (d := d) (t := t) hb he
 have hbad := fun he => rd_bad2 (d := d) (t := t) he
 generalize rdS d t = xs at *
 generalize rdN d t = n at *
 generalize rdE d t = e at *
 have hsl : (xs.map (·.2)).sum = sumL xs := rfl
 rw [hsl] at hck
 refine gE Tryz.func22 rfl (by kernel_rfl) 54 rfl fun c => ?_
 (repeat (first | refine gO rfl ?_ | ((first | refine gM zM41 ?_ | (with_reducible refine wM ?_ ?_) | ((with_reducible refine xR ?_); refine uE 9 zM41 zP1KE zP1KP 55 rfl (by kernel_rfl) ?_)) <;> ((try with_reducible intro K1 hK1); simp only [go_sem, ↓reduceIte, reduceCtorEq, nA, nB, nC, nD, nE, nF, hlen, htk, hdk] <;> and_intros <;> first | (apply hK1; clear hK1 K1) | (intros; first | omega | decide | (simp_all <;> omega)) | skip))))
 refine hck.mono ?_
 rintro _ h2 rfl
 refine hK1 _ ?_; clear hK1 K1
 (repeat (first | refine gO rfl ?_ | ((first | refine gM zM41 ?_ | (with_reducible refine wM ?_ ?_) | ((with_reducible refine xR ?_); refine uE 9 zM41 zP1KE zP1KP 55 rfl (by kernel_rfl) ?_)) <;> ((try with_reducible intro K1 hK1); simp only [go_sem, ↓reduceIte, reduceCtorEq, nA, nB, nC, nD, nE, nF] <;> and_intros <;> first | (apply hK1; clear hK1 K1) | (intros; first | omega | decide | (simp_all <;> omega)) | skip))))
 by_cases he : e = 0
 ·subst he
  have hg := hgood rfl
  clear hgood hbad hck
  refine awp_cond (t := _) rfl (fun h9 => by simp at h9) (fun _ => ?_)
  (repeat (first | refine gO rfl ?_ | ((first | refine gM zM41 ?_ | (with_reducible refine wM ?_ ?_) | ((with_reducible refine xR ?_); refine uE 9 zM41 zP1KE zP1KP 55 rfl (by kernel_rfl) ?_)) <;> ((try with_reducible intro K1 hK1); simp only [go_sem, ↓reduceIte, reduceCtorEq, nA, nB, nC, nD, nE, nF] <;> and_intros <;> first | (apply hK1; clear hK1 K1) | (intros; first | omega | decide | (simp_all <;> omega)) | skip))))
  refine (g_tallies xs h2 hg.pos hg.len).mono ?_
  rintro _ h3 ⟨m, ks, f, rfl, hT⟩
  refine hK1 _ ?_; clear hK1 K1
  (repeat (first | refine gQ rfl ?_ | ((first | refine gM zM41 ?_ | (with_reducible refine wM ?_ ?_) | ((with_reducible refine xR ?_); refine uE 9 zM41 zP1KE zP1KP 55 rfl (by kernel_rfl) ?_)) <;> ((try with_reducible intro K1 hK1); simp only [go_sem, ↓reduceIte, reduceCtorEq, nA, nB, nC, nD, nE, nF] <;> and_intros <;> first | (apply hK1; clear hK1 K1) | (intros; first | omega | decide | (simp_all <;> omega)) | skip))))
  refine awp_seq ?_
  refine awp_own 7 5 rfl ⟨rfl, rfl⟩ (fun kk hkk => ?_)
  replace hkk : h3.T kk = none := hkk
  (repeat (first | refine gO rfl ?_ | ((first | refine gM zM41 ?_ | (with_reducible refine wM ?_ ?_) | ((with_reducible refine xR ?_); refine uE 9 zM41 zP1KE zP1KP 55 rfl (by kernel_rfl) ?_)) <;> ((try with_reducible intro K1 hK1); simp only [go_sem, ↓reduceIte, reduceCtorEq, nA, nB, nC, nD, nE, nF] <;> and_intros <;> first | (apply hK1; clear hK1 K1) | (intros; first | omega | decide | (simp_all <;> omega)) | skip))))
  refine (g_keysT m _).mono ?_
  rintro _ _ ⟨i, hi, rfl, rfl⟩
  replace hi : h3.H i = none := hi
  have hmi : m ≠ i := fun e => by rw [← e, hT.map] at hi; cases hi
  refine hK1 _ ?_; clear hK1 K1
  (repeat (first | refine gO rfl ?_ | ((first | refine gM zM41 ?_ | (with_reducible refine wM ?_ ?_) | ((with_reducible refine xR ?_); refine uE 9 zM41 zP1KE zP1KP 55 rfl (by kernel_rfl) ?_)) <;> ((try with_reducible intro K1 hK1); simp only [go_sem, ↓reduceIte, reduceCtorEq, nA, nB, nC, nD, nE, nF] <;> and_intros <;> first | (apply hK1; clear hK1 K1) | (intros; first | omega | decide | (simp_all <;> omega)) | skip))))
  refine (g_sortedT i m (ptrsL f ks) (xs.map (·.1)) _ (upd_same _ _ _) ?_ ?_ ?_ ?_).mono ?_
  ·show upd h3.H i _ m = _
   rw [upd_other _ _ hmi]; exact hT.map
  ·rw [ptrs_keys]; exact hT.mem
  ·rw [ptrs_keys]
   intro k hk
   obtain ⟨x, hx, rfl⟩ := List.mem_map.1 ((hT.mem k).1 hk)
   have := hg.item x hx; omega
  ·have h9 := nodup_len ks (xs.map (·.1)) hT.nd fun k hk => (hT.mem k).1 hk
   have := hg.len
   simp only [List.length_map] at h9
   simp only [ptrsL, List.length_map]; omega
  rintro _ hz ⟨rfl, hh⟩; apply hK1; clear hK1 K1; rw [hh]; clear hh hz
  have hol := onceS_len (xs.map (·.1))
  have hom := fun k => onceS_mem (xs.map (·.1)) k
  rw [List.length_map] at hol
  have hpr : partsR xs = (onceS (xs.map (·.1))).map (encPn xs) := rfl
  rw [hpr]
  generalize onceS (xs.map (·.1)) = N at *
  have hgl := hg.len
  (repeat (first | refine gO rfl ?_ | ((first | refine gM zM41 ?_ | (with_reducible refine wM ?_ ?_) | ((with_reducible refine xR ?_); refine uE 9 zM41 zP1KE zP1KP 55 rfl (by kernel_rfl) ?_)) <;> ((try with_reducible intro K1 hK1); simp only [go_sem, ↓reduceIte, reduceCtorEq, nA, nB, nC, nD, nE, nF] <;> and_intros <;> first | (apply hK1; clear hK1 K1) | (intros; first | omega | decide | (simp_all <;> omega)) | skip))))
  refine awp_loopC (rl false [4, 1, 1, 2, 15, 3, 29]) 1 (fun g s => ∃ j : Nat, g + j = N.length ∧
   s = ⟨((jnk 4 ((.loc 0 0) :: AV.junk :: ((.map m) :: (.row 5 ((N.map (encPn xs)).take j) (some kk)) :: (jnk 15 ((.row 1 (N.map encS) none) :: (.v (.int .i64 N.length)) :: (.v (.int .i64 j)) :: (jnk 29 []))))))),
    [[.v (.int .i64 n), .row 2 (xs.map encStep) none, .v (.int .i64 (sumL xs))]], ⟨upd h3.H i (some (.cells [.map m])), upd h3.T kk (some (.tail j))⟩⟩) N.length ⟨0, by omega, rfl⟩ ?_
  rintro g _ ⟨j, hj, rfl⟩
  have hTq : upd h3.T kk (some (TO.tail j)) kk = some (.tail j) := upd_same _ _ _
  have hlj : ((N.map (encPn xs)).take j).length = j := by simp; omega
  (repeat (first | refine gO rfl ?_ | ((first | refine gM zM41 ?_ | (with_reducible refine wM ?_ ?_) | ((with_reducible refine xR ?_); refine uE 9 zM41 zP1KE zP1KP 55 rfl (by kernel_rfl) ?_)) <;> ((try with_reducible intro K1 hK1); simp only [go_sem, ↓reduceIte, reduceCtorEq, nA, nB, nC, nD, nE, nF] <;> and_intros <;> first | (apply hK1; clear hK1 K1) | (intros; first | omega | decide | (simp_all <;> omega)) | skip))))
  refine awp_cond (t := _) rfl (fun h1 => ?_) (fun h1 => ?_)
  ·simp only [decide_eq_true_eq] at h1
   have hjl : j < N.length := by omega
   have gx : (N.map encS).getD j [] = encS (N.getD j default) := getD_enc encS N j default hjl
   have tx : (N.map (encPn xs)).take (j + 1) = (N.map (encPn xs)).take j ++ [encPn xs (N.getD j default)] := by
    rw [List.take_add_one, List.getElem?_map, List.getElem?_eq_getElem hjl, List.getD_eq_getElem?_getD, List.getElem?_eq_getElem hjl]; rfl
   have hk : N.getD j default ∈ ks := (hT.mem _).2 ((hom _).1 (getD_mem' N j default hjl))
   generalize N.getD j default = k at gx tx hk
   have hM : upd h3.H i (some (AO.cells [.map m])) m = some (.map (ptrsL f ks)) := by rw [upd_other _ _ hmi]; exact hT.map
   have hG := (mget_ptrs f ks k).1 hk
   have hfi : f k ≠ i := fun e => by have := hT.cell k hk; rw [e, hi] at this; cases this
   have hC : upd h3.H i (some (AO.cells [.map m])) (f k) = some (.cells (tCell xs k)) := by rw [upd_other _ _ hfi]; exact hT.cell k hk
   obtain ⟨b1, b2, b3, b4, b5, b6, b7, b8⟩ := part_bd hg k
   have hl1 := fun h => g_lowP (cntF xs k) xs.length h (by omega) (by omega)
   have hl2 := fun h => g_lowP (longF xs k).toNat (sumL xs).toNat h (by omega) (by omega)
   rw [← b2, ← b4] at hl2
   clear b2 b4
   rw [tCell] at hC
   have hle : encPn xs k = .v (.string k) :: (lowF (cntF xs k) xs.length ++ lowF (longF xs k).toNat (sumL xs).toNat) := rfl
   rw [hle] at tx
   obtain ⟨p1, q1, hf1⟩ : ∃ p q : Int, lowF (cntF xs k) xs.length = [.v (.int .i64 p), .v (.int .i64 q)] := ⟨_, _, rfl⟩
   obtain ⟨p2, q2, hf2⟩ : ∃ p q : Int, lowF (longF xs k).toNat (sumL xs).toNat = [.v (.int .i64 p), .v (.int .i64 q)] := ⟨_, _, rfl⟩
   rw [hf1] at tx hl1
   rw [hf2] at tx hl2
   clear hf1 hf2 hle
   generalize cntF xs k = cn at *
   generalize longF xs k = lg at *
   generalize sumL xs = S at *
   (repeat (first | refine gO rfl ?_ | ((first | refine gM zM41 ?_ | (with_reducible refine wM ?_ ?_) | ((with_reducible refine xR ?_); refine uE 9 zM41 zP1KE zP1KP 55 rfl (by kernel_rfl) ?_)) <;> ((try with_reducible intro K1 hK1); simp only [go_sem, ↓reduceIte, reduceCtorEq, nA, nB, nC, nD, nE, nF, Int.toNat_natCast, gx, encS, hM, hG, hC, hTq, hlj] <;> and_intros <;> first | (apply hK1; clear hK1 K1) | (intros; first | omega | decide | (simp_all <;> omega)) | skip))))
   refine (hl1 _).mono ?_; rintro _ hz ⟨rfl, hh⟩; apply hK1; clear hK1 K1; rw [hh]; clear hh hz
   (repeat (first | refine gO rfl ?_ | ((first | refine gM zM41 ?_ | (with_reducible refine wM ?_ ?_) | ((with_reducible refine xR ?_); refine uE 9 zM41 zP1KE zP1KP 55 rfl (by kernel_rfl) ?_)) <;> ((try with_reducible intro K1 hK1); simp only [go_sem, ↓reduceIte, reduceCtorEq, nA, nB, nC, nD, nE, nF, Int.toNat_natCast, gx, encS, hM, hG, hC, hTq, hlj] <;> and_intros <;> first | (apply hK1; clear hK1 K1) | (intros; first | omega | decide | (simp_all <;> omega)) | skip))))
   refine (hl2 _).mono ?_; rintro _ hz ⟨rfl, hh⟩; apply hK1; clear hK1 K1; rw [hh]; clear hh hz
   (repeat (first | refine gO rfl ?_ | ((first | refine gM zM41 ?_ | (with_reducible refine wM ?_ ?_) | ((with_reducible refine xR ?_); refine uE 9 zM41 zP1KE zP1KP 55 rfl (by kernel_rfl) ?_)) <;> ((try with_reducible intro K1 hK1); simp only [go_sem, ↓reduceIte, reduceCtorEq, nA, nB, nC, nD, nE, nF, Int.toNat_natCast, gx, encS, hM, hG, hC, hTq, hlj] <;> and_intros <;> first | (apply hK1; clear hK1 K1) | (intros; first | omega | decide | (simp_all <;> omega)) | skip))))
   exact ⟨g - 1, by omega, j + 1, by omega, by rw [tx]; rfl⟩
  ·simp only [decide_eq_false_iff_not] at h1
   have hjl : j = N.length := by omega
   subst hjl
   rw [show (N.map (encPn xs)).take N.length = N.map (encPn xs) from List.take_of_length_le (by simp)] at *
   (repeat (first | refine gO rfl ?_ | ((first | refine gM zM41 ?_ | (with_reducible refine wM ?_ ?_) | ((with_reducible refine xR ?_); refine uE 9 zM41 zP1KE zP1KP 55 rfl (by kernel_rfl) ?_)) <;> ((try with_reducible intro K1 hK1); simp only [go_sem, ↓reduceIte, reduceCtorEq, nA, nB, nC, nD, nE, nF] <;> and_intros <;> first | (apply hK1; clear hK1 K1) | (intros; first | omega | decide | (simp_all <;> omega)) | skip))))
   simp only [Tryz.results22, go_sem, ↓reduceIte, reduceCtorEq, nA, nB, nC, nD, nE, nF]
   exact ⟨_, _, Weak.tup1 (Weak.row _ _ _) (Weak.refl _), Hp.le.refl _, rfl⟩
 ·rw [hbad he] at *
  rw [partsR_nil]
  refine awp_cond (t := _) rfl (fun _ => ?_) (fun h9 => by simp [he] at h9)
  (repeat (first | refine gO rfl ?_ | ((first | refine gM zM41 ?_ | (with_reducible refine wM ?_ ?_) | ((with_reducible refine xR ?_); refine uE 9 zM41 zP1KE zP1KP 55 rfl (by kernel_rfl) ?_)) <;> ((try with_reducible intro K1 hK1); simp only [go_sem, ↓reduceIte, reduceCtorEq, nA, nB, nC, nD, nE, nF] <;> and_intros <;> first | (apply hK1; clear hK1 K1) | (intros; first | omega | decide | (simp_all <;> omega)) | skip))))
  simp only [Tryz.results22, go_sem, ↓reduceIte, reduceCtorEq, nA, nB, nC, nD, nE, nF]
  exact ⟨_, _, Weak.tup1 (Weak.nil 5 0 0 ⟨rfl, rfl⟩) (Weak.refl _), Hp.le.refl _, rfl⟩
def wantX (d : Nat) (t : LT) (n : Nat) : AV := if (passesU d t n).2.length ≤ 5000 then .row 2 ((passesU d t n).2.map encStep) none else .row 2 [] none
def wantE (d : Nat) (t : LT) (n : Nat) : Int := if (passesU d t n).2.length ≤ 5000 then 0 else 2
theorem FrP.le {a : AT} {o k : Nat} {h h1 h2 : Hp} (f : FrP a o k h1 h2) (ha : ∀ i ∈ idsT a, h.H i = none) (hc : ∀ c ∈ toksT a, h.T c = none) (ho : h.H o = none) (hk : h.T k = none) (k1 : ∀ i, h.H i ≠ none → h1.H i = h.H i) (k2 : ∀ c, h.T c ≠ none → h1.T c = h.T c) : Hp.le h h2 :=
 ⟨fun i => by
  by_cases e : h.H i = none
  ·exact .inl e
  ·exact .inr ((f.1 i (fun hi => e (ha i hi)) (fun hi => e (by rw [hi]; exact ho))).trans (k1 i e)).symm, fun c => by
  by_cases e : h.T c = none
  ·exact .inl e
  ·exact .inr ((f.2 c (fun hi => e (hc c hi)) (fun hi => e (by rw [hi]; exact hk))).trans (k2 c e)).symm⟩
theorem g_passes (d : Nat) (t : LT) (many : Int) (h : Hp) (hb : KC d t) (hd : manyF t ≤ 1000000000000000 ∧ d ≤ 1000) (hmb : NB many) :
  ACalls Tryz.prog 17 [.agg (encL t), .v (.int .i64 many)] h (fun r _ => r = .tup [if faultF t = 0 ∧ 0 ≤ many ∧ many ≤ 5000 then wantX d t many.toNat else .row 2 [] none, .v (.int .i64 (if faultF t = 0 then if 0 ≤ many ∧ many ≤ 5000 then wantE d t many.toNat else 1 else faultF t))]) := by
 have hlen := encL_len t
 have htk : List.take 6 (encL t) = encL t := List.take_of_length_le (Nat.le_of_eq hlen)
 refine gE Tryz.func17 rfl (by kernel_rfl) 31 rfl fun c => ?_
 (repeat (first | refine gO rfl ?_ | (refine gM zM42 fun K1 hK1 => ?_; simp only [go_sem, ↓reduceIte, reduceCtorEq, nA, nB, nC, nD, nE, nF, hlen, htk] <;> and_intros <;> first | (apply hK1; clear hK1 K1) | (intros; first | omega | decide | (simp_all <;> omega)) | skip)))
 refine (g_check7 d t h hb hd).mono ?_; rintro _ hz ⟨rfl, hh⟩; apply hK1; clear hK1 K1; rw [hh]; clear hh hz
 (repeat (first | refine gO rfl ?_ | (refine gM zM42 fun K1 hK1 => ?_; simp only [go_sem, ↓reduceIte, reduceCtorEq, nA, nB, nC, nD, nE, nF, hlen, htk] <;> and_intros <;> first | (apply hK1; clear hK1 K1) | (intros; first | omega | decide | (simp_all <;> omega)) | skip)))
 refine awp_cond (t := _) rfl (fun h3 => ?_) (fun h3 => ?_)
 ·(repeat (first | refine gO rfl ?_ | (refine gM zM42 fun K1 hK1 => ?_; simp only [go_sem, ↓reduceIte, reduceCtorEq, nA, nB, nC, nD, nE, nF] <;> and_intros <;> first | (apply hK1; clear hK1 K1) | (intros; first | omega | decide | (simp_all <;> omega)) | skip)))
  simp only [Tryz.results17, go_sem, ↓reduceIte, reduceCtorEq, nA, nB, nC, nD, nE, nF]
  have h3' : faultF t ≠ 0 := by simpa using h3
  refine ⟨_, _, Weak.tup1 (Weak.nil 2 0 0 ⟨rfl, rfl⟩) (Weak.refl _), Hp.le.refl _, ?_⟩
  rw [if_neg (fun h => h3' h.1), if_neg h3']
 have h3' : faultF t = 0 := by simpa using h3
 have hv : VL d t := vl_of d t hb (by unfold faultF at h3'; split at h3'; cases h3'; exact h3')
 (repeat (first | refine gO rfl ?_ | (refine gM zM42 fun K1 hK1 => ?_; simp only [go_sem, ↓reduceIte, reduceCtorEq, nA, nB, nC, nD, nE, nF] <;> and_intros <;> first | (apply hK1; clear hK1 K1) | (intros; first | omega | decide | (simp_all <;> omega)) | skip)))
 refine (a_outside many 0 5000 h).mono ?_; rintro _ hz ⟨rfl, hh⟩; apply hK1; clear hK1 K1; rw [hh]; clear hh hz
 (repeat (first | refine gO rfl ?_ | (refine gM zM42 fun K1 hK1 => ?_; simp only [go_sem, ↓reduceIte, reduceCtorEq, nA, nB, nC, nD, nE, nF] <;> and_intros <;> first | (apply hK1; clear hK1 K1) | (intros; first | omega | decide | (simp_all <;> omega)) | skip)))
 refine awp_cond (t := _) rfl (fun h4 => ?_) (fun h4 => ?_)
 ·(repeat (first | refine gO rfl ?_ | (refine gM zM42 fun K1 hK1 => ?_; simp only [go_sem, ↓reduceIte, reduceCtorEq, nA, nB, nC, nD, nE, nF] <;> and_intros <;> first | (apply hK1; clear hK1 K1) | (intros; first | omega | decide | (simp_all <;> omega)) | skip)))
  simp only [Tryz.results17, go_sem, ↓reduceIte, reduceCtorEq, nA, nB, nC, nD, nE, nF]
  have h4' : ¬ (0 ≤ many ∧ many ≤ 5000) := by simp at h4; omega
  refine ⟨_, _, Weak.tup1 (Weak.nil 2 0 0 ⟨rfl, rfl⟩) (Weak.refl _), Hp.le.refl _, ?_⟩
  rw [if_neg (fun h => h4' h.2), if_pos h3', if_neg h4']
 have h4' : 0 ≤ many ∧ many ≤ 5000 := by simp at h4; omega
 (repeat (first | refine gQ rfl ?_ | (refine gM zM42 fun K1 hK1 => ?_; simp only [go_sem, ↓reduceIte, reduceCtorEq, nA, nB, nC, nD, nE, nF, hlen, htk] <;> and_intros <;> first | (apply hK1; clear hK1 K1) | (intros; first | omega | decide | (simp_all <;> omega)) | skip)))
 refine (g_newPart d t h hb).mono ?_
 rintro _ h1 ⟨a, rfl, hR, hS, hn1, hn2, hk1, hk2⟩
 refine hK1 _ ?_; clear hK1 K1
 first | refine gO rfl ?_ | (refine gM zM42 fun K1 hK1 => ?_; simp only [go_sem, ↓reduceIte, reduceCtorEq, nA, nB, nC, nD, nE, nF] <;> and_intros <;> first | (apply hK1; clear hK1 K1) | (intros; first | omega | decide | (simp_all <;> omega)) | skip)
 intro o ho
 refine hK1 _ ?_; clear hK1 K1
 refine vRem_nil ?_
 refine awp_ownPtr (cs := [.v (.slice none 0 0), .v (.int .i64 5000)]) o 0 2 (upd_same _ _ _) rfl (fun k hk => ?_)
 simp only [List.set_cons_zero, upd_upd]
 replace hk : h1.T k = none := hk
 replace ho : h1.H o = none := ho
 have hoa : o ∉ idsT a := fun hx => hR.ne.1 o hx ho
 have hka : k ∉ toksT a := fun hx => hR.ne.2 k hx hk
 (repeat (first | refine gQ rfl ?_ | (refine gM zM42 fun K1 hK1 => ?_; simp only [go_sem, ↓reduceIte, reduceCtorEq, nA, nB, nC, nD, nE, nF] <;> and_intros <;> first | (apply hK1; clear hK1 K1) | (intros; first | omega | decide | (simp_all <;> omega)) | skip)))
 refine awp_seq ?_
 (repeat (first | refine gO rfl ?_ | (refine gM zM42 fun K1 hK1 => ?_; simp only [go_sem, ↓reduceIte, reduceCtorEq, nA, nB, nC, nD, nE, nF] <;> and_intros <;> first | (apply hK1; clear hK1 K1) | (intros; first | omega | decide | (simp_all <;> omega)) | skip)))
 refine awp_loopC (rl false [7, 2, 11, 2, 11]) 0 (fun g s => ∃ (j : Nat) (h2 : Hp) (s' : PS) (out : List (ByteArray × Int)), g + j = many.toNat ∧ RAt XP h2 d t a s' ∧ OutAt h2 o k oEx out ∧ PSB d t s' out.length ∧ out.length ≤ 5001 ∧ ((passesU d t j).2.length ≤ 5000 → s' = (passesU d t j).1 ∧ out = (passesU d t j).2) ∧ (5000 < (passesU d t j).2.length → out.length = 5001) ∧
  s = ⟨((jnk 7 ((.ptr a.id 0) :: (.ptr o 0) :: (jnk 11 ((.v (.int .i64 many)) :: (.v (.int .i64 j)) :: (jnk 11 [])))))), [], h2⟩) many.toNat ⟨0, _, ps0 t, [], by omega, hR.frame (fun x hx => upd_other _ _ (fun e => by subst e; exact hoa hx)) (fun x hx => upd_other _ _ (fun e => by subst e; exact hka hx)), ⟨upd_same _ _ _, upd_same _ _ _⟩, psb0 d t, by simp, fun _ => ⟨rfl, rfl⟩, fun h => by simp [passesU] at h, rfl⟩ ?_
 rintro g _ ⟨j, h2, s', out, hj, hR2, hO2, hB2, hl2, he, ho5, rfl⟩
 (repeat (first | refine gO rfl ?_ | (refine gM zM42 fun K1 hK1 => ?_; simp only [go_sem, ↓reduceIte, reduceCtorEq, nA, nB, nC, nD, nE, nF] <;> and_intros <;> first | (apply hK1; clear hK1 K1) | (intros; first | omega | decide | (simp_all <;> omega)) | skip)))
 refine awp_cond (t := _) rfl (fun h5 => ?_) (fun h5 => ?_)
 ·simp only [decide_eq_true_eq] at h5
  (repeat (first | refine gO rfl ?_ | (refine gM zM42 fun K1 hK1 => ?_; simp only [go_sem, ↓reduceIte, reduceCtorEq, nA, nB, nC, nD, nE, nF] <;> and_intros <;> first | (apply hK1; clear hK1 K1) | (intros; first | omega | decide | (simp_all <;> omega)) | skip)))
  refine (g_passP d t a s' h2 o k out hv hR2 hS hB2 hO2 hoa hl2).mono ?_
  rintro r h6 ⟨rfl, s2, out2, hR6, hO6, _, q1, q2, q3⟩
  have e5 : (passesU d t (j + 1)).2.length = (passesU d t j).2.length + (passU d t (passesU d t j).1).2.length := by simp only [passesU, List.length_append]
  refine hK1 _ ?_; clear hK1 K1
  (repeat (first | refine gO rfl ?_ | (refine gM zM42 fun K1 hK1 => ?_; simp only [go_sem, ↓reduceIte, reduceCtorEq, nA, nB, nC, nD, nE, nF] <;> and_intros <;> first | (apply hK1; clear hK1 K1) | (intros; first | omega | decide | (simp_all <;> omega)) | skip)))
  have hpo := passU_ok d t s' out.length hv hR2.fits (by omega) hB2
  by_cases hf : 5000 < out.length
  ·obtain ⟨rfl, rfl⟩ := q1 hf
   refine ⟨g - 1, by omega, j + 1, h6, _, _, by omega, hR6, hO6, hB2, hl2, fun h => ?_, fun h => by omega, rfl⟩
   have := he (by omega)
   rw [this.2] at hf
   omega
  ·have hex : (passesU d t j).2.length ≤ 5000 := by
    by_cases hx : (passesU d t j).2.length ≤ 5000
    ·exact hx
    ·have := ho5 (by omega); omega
   obtain ⟨rfl, rfl⟩ := he hex
   by_cases hle : (passesU d t j).2.length + (passU d t (passesU d t j).1).2.length ≤ 5000
   ·obtain ⟨rfl, rfl⟩ := q2 hex hle
    exact ⟨g - 1, by omega, j + 1, h6, _, _, by omega, hR6, hO6, by rw [List.length_append]; exact_mod_cast hpo.2.1, by rw [List.length_append]; omega, fun _ => ⟨rfl, rfl⟩, fun h => by omega, rfl⟩
   ·obtain ⟨p1, p2⟩ := q3 hex (by omega)
    exact ⟨g - 1, by omega, j + 1, h6, s2, out2, by omega, hR6, hO6, by rw [p1]; exact p2, by omega, fun h => by omega, fun _ => p1, rfl⟩
 ·simp only [decide_eq_false_iff_not] at h5
  have hjm : j = many.toNat := by omega
  subst hjm
  (repeat (first | refine gO rfl ?_ | (refine gM zM42 fun K1 hK1 => ?_; simp only [go_sem, ↓reduceIte, reduceCtorEq, nA, nB, nC, nD, nE, nF] <;> and_intros <;> first | (apply hK1; clear hK1 K1) | (intros; first | omega | decide | (simp_all <;> omega)) | skip)))
  refine (g_full28 o k h2 out hO2).mono ?_; rintro _ hz ⟨rfl, hh⟩; apply hK1; clear hK1 K1; rw [hh]; clear hh hz
  (repeat (first | refine gO rfl ?_ | (refine gM zM42 fun K1 hK1 => ?_; simp only [go_sem, ↓reduceIte, reduceCtorEq, nA, nB, nC, nD, nE, nF] <;> and_intros <;> first | (apply hK1; clear hK1 K1) | (intros; first | omega | decide | (simp_all <;> omega)) | skip)))
  refine awp_cond (t := _) rfl (fun h6 => ?_) (fun h6 => ?_)
  ·simp only [decide_eq_true_eq] at h6
   (repeat (first | refine gO rfl ?_ | (refine gM zM42 fun K1 hK1 => ?_; simp only [go_sem, ↓reduceIte, reduceCtorEq, nA, nB, nC, nD, nE, nF] <;> and_intros <;> first | (apply hK1; clear hK1 K1) | (intros; first | omega | decide | (simp_all <;> omega)) | skip)))
   simp only [Tryz.results17, go_sem, ↓reduceIte, reduceCtorEq, nA, nB, nC, nD, nE, nF]
   refine ⟨_, _, Weak.tup1 (Weak.nil 2 0 0 ⟨rfl, rfl⟩) (Weak.refl _), Hp.le.refl _, ?_⟩
   have hbig : ¬ (passesU d t many.toNat).2.length ≤ 5000 := fun hx => by have := (he hx).2; rw [this] at h6; omega
   rw [if_pos ⟨h3', h4'⟩, if_pos h3', if_pos h4', wantX, wantE, if_neg hbig, if_neg hbig]
  ·simp only [decide_eq_false_iff_not] at h6
   have hO20 : h2.H o = some (.cells [.row 2 (out.map encStep) (some k), .v (.int .i64 5000)]) := hO2.1
   (repeat (first | refine gO rfl ?_ | (refine gM zM42 fun K1 hK1 => ?_; simp only [go_sem, ↓reduceIte, reduceCtorEq, nA, nB, nC, nD, nE, nF, hO20] <;> and_intros <;> first | (apply hK1; clear hK1 K1) | (intros; first | omega | decide | (simp_all <;> omega)) | skip)))
   simp only [Tryz.results17, go_sem, ↓reduceIte, reduceCtorEq, nA, nB, nC, nD, nE, nF]
   refine ⟨_, _, Weak.tup1 (Weak.row _ _ _) (Weak.refl _), Hp.le.refl _, ?_⟩
   have hsm : (passesU d t many.toNat).2.length ≤ 5000 := by
    by_cases hx : (passesU d t many.toNat).2.length ≤ 5000
    ·exact hx
    ·have := ho5 (by omega); omega
   rw [if_pos ⟨h3', h4'⟩, if_pos h3', if_pos h4', wantX, wantE, if_pos hsm, if_pos hsm, (he hsm).2]
theorem weak1 {a a' : AV} (h : Weak a a') : ∀ j, (hj : j < ([a] : List AV).length) → (hk : j < ([a'] : List AV).length) → Weak ([a][j]) ([a'][j]) := fun j hj _ => by
 simp only [List.length_cons, List.length_nil, Nat.zero_add, Nat.lt_one_iff] at hj
 subst hj
 exact h
theorem weak2 {a a' b b' : AV} (h : Weak a a') (k : Weak b b') : ∀ j, (hj : j < ([a, b] : List AV).length) → (hk : j < ([a', b'] : List AV).length) → Weak ([a, b][j]) ([a', b'][j])
 | 0, _, _ => h
 | 1, _, _ => k
 | j + 2, hj, _ => absurd hj (by simp)
open Go Go.RowKit
def ARow (w : World) (a : Option Addr) (len cap : Nat) (zs : List Int) : Prop :=
 (a = none ∧ len = 0 ∧ cap = 0 ∧ zs = []) ∨ ∃ b : Addr, a = some b ∧ len ≤ cap ∧ cap ≤ maxLen ∧ zs.length = cap ∧ (∀ i, i < zs.length → w.cell? (b.add i) = some (.int .i64 (zs.getD i 0)) ∧ w.frozen? (b.add i) = false) ∧ (∀ n ∈ zs, (Lit.int .i64 n).wf = true)
def G0 (w : World) : Gh := ⟨fun g o => cellT w g o, fun _ => none, fun _ => none, 0⟩
def H0 : Hp := ⟨fun _ => none, fun _ => none⟩
theorem hsim_all (w : World) : HSim (G0 w) H0 w where
 val _ _ _ h := h
 obj _ _ h := by cases h
 inj _ _ _ h := absurd rfl h
 tok _ _ h := by cases h
 tinj _ _ _ _ h := absurd rfl h
 tobj _ _ _ h := absurd rfl h
 fat _ _ := rfl
 ftl _ _ := rfl
theorem below_of_fr {G G' : Gh} {h' : Hp} {w w' : World} (f : Fr G H0 w G' h' w') : Below w.heap.size w w' :=
 ⟨f.os, f.tape, f.output, f.size, fun b hb => (f.keep b hb (fun o => by rcases o with ⟨_, h, _⟩ | ⟨_, _, h, _⟩ <;> exact h rfl)).1⟩
theorem rep_v_inv0 {G : Gh} {x y : Value} (h : Rep G (.v x) y) : y = x := by cases h; rfl
theorem flat_encI (l : List Int) : (l.map encI).flatten = l.map fun x => AV.v (.int .i64 x) := by
 induction l with
 | nil => rfl
 | cons x q ih => simp [encI, ih]
theorem arow_rep {w : World} {a : Option Addr} {len cap : Nat} {zs : List Int} (h : ARow w a len cap zs) : ∃ l : List Int, SOk l ∧ Rep (G0 w) (.row 1 (l.map encI) none) (.slice a len cap) := by
 rcases h with ⟨rfl, rfl, rfl, _⟩ | ⟨⟨b, o, sp⟩, rfl, hl, hm, hz, hc, hwz⟩
 ·exact ⟨[], ⟨by simp, by simp⟩, .nil 1 none trivial⟩
 ·by_cases h0 : cap = 0
  ·subst h0
   obtain rfl : len = 0 := by omega
   exact ⟨[], ⟨by simp, by simp⟩, .nilA 1 _⟩
  ·have hsp : sp = none := by
    have h1 := (hc 0 (by omega)).1
    rw [show (⟨b, o, sp⟩ : Addr).add 0 = ⟨b, o, sp⟩ from rfl] at h1
    cases sp with
    | none => rfl
    | some s =>
     simp only [World.cell?] at h1
     split at h1 <;> simp at h1
   subst hsp
   refine ⟨zs.take len, ⟨by have hm2 : maxLen = 9223372036854775807 := rfl; rw [List.length_take]; omega, fun x hx => ?_⟩, ?_⟩
   ·have h1 := hwz x (List.mem_of_mem_take hx)
    simp only [Lit.wf, Bool.and_eq_true, decide_eq_true_eq] at h1
    exact ⟨h1.1, h1.2⟩
   ·have hlen : (zs.take len).length = len := by simp; omega
    have h2 := Rep.row_mk (G := G0 w) (z := 1) (xs := (zs.take len).map encI) (g := b) (o := o) (c := cap) (us := (zs.take len).map fun x => Value.int .i64 x) (by rw [List.length_map, hlen]; exact hl)
     (fun y hy => by obtain ⟨x, _, rfl⟩ := List.mem_map.1 hy; rfl) (by
      rw [flat_encI]
      refine ⟨by simp, fun j a b => ?_⟩
      simp only [List.getElem_map]
      exact ⟨.v _ rfl, rfl⟩) (fun j y hy => by
      rw [List.getElem?_map] at hy
      obtain ⟨x, hx, rfl⟩ := Option.map_eq_some_iff.1 hy
      rw [List.getElem?_take] at hx
      split at hx
      ·have hjl := (List.getElem?_eq_some_iff.1 hx).1
       have h3 := hc j hjl
       rw [List.getD_eq_getElem?_getD, hx, Addr.add_lit] at h3
       show cellT w b (o + j) = _
       rw [cellT, h3.2]; exact h3.1
      ·cases hx)
    rwa [List.length_map, hlen] at h2
theorem law_calls {f : Nat} (hlaw : ∀ (l : List Int) (h : Hp), SOk l → ACalls Tryz.prog f [.row 1 (l.map encI) none] h (fun r _ => r = .v (.bool true))) (a : Option Addr) (len cap : Nat) (zs : List Int) (w : World) (h : ARow w a len cap zs) :
  Calls Tryz.prog f #[.slice a len cap] w fun e w' => e = .returned (.bool true) ∧ Below w.heap.size w w' := by
 obtain ⟨l, hl, hrep⟩ := arow_rep h
 refine ((hlaw l H0 hl).calls _ w #[.slice a len cap] (hsim_all w) rfl (fun j hj => ?_)).mono ?_
 ·simp only [List.length_cons, List.length_nil, Nat.zero_add, Nat.lt_one_iff] at hj
  subst hj
  exact hrep
 ·rintro _ w' ⟨r, h', G', v, rfl, rfl, _, f, _, hv⟩
  exact ⟨by rw [rep_v_inv0 hv], below_of_fr f⟩
abbrev zP1LE : List Nat := [0, 1, 2, 3, 4, 9, 10, 11, 12]
abbrev zP1LP : List (Nat × List Nat × List Nat) := [(5, [1, 10], [6, 7]), (8, [10], [14]), (13, [], []), (15, [], [16]), (17, [], [])]
abbrev zP1ME : List Nat := [0, 1, 2, 3, 4, 5, 6, 7, 8, 9, 10, 11, 12, 13, 14, 15, 16, 17, 18, 19, 20, 21, 22, 23, 24, 25]
abbrev zP1MP : List (Nat × List Nat × List Nat) := []
attribute [go_sem] zP1LE zP1LP zP1ME zP1MP
theorem encX_weakLK : ∀ (d : Nat) (t : LT), KC d t → ∀ (G : Gh) (us : List Value), RepL G (encX t) us → RepL G (encL t) us
 | 0, _, h => h.elim
 | d + 1, .mk kind item long many kids shares, hb => fun G us hu => by
  obtain ⟨b1, b2, b3, b4, b5, b6, b7, b8⟩ := hb
  rw [encX_eq] at hu
  rw [encL_eq]
  refine hu.of6 (fun _ h => h) (fun _ h => h) (fun _ h => h) (fun _ h => h) (fun x h => ?_) (fun x h => ?_)
  ·have hz : ∀ y ∈ kids.map encX, y.length = 6 := fun y hy => by obtain ⟨t, _, rfl⟩ := List.mem_map.1 hy; exact encX_len t
   have hz' : ∀ y ∈ kids.map encL, y.length = 6 := fun y hy => by obtain ⟨t, _, rfl⟩ := List.mem_map.1 hy; exact encL_len t
   have key : Rep G (.row 6 (kids.map encX) none) x := by
    cases kids with
    | nil => exact Weak.nil 6 0 0 ⟨rfl, rfl⟩ G x h
    | cons y ys => exact h
   refine key.rowFlat (GLe.refl G) (by simp) hz' (RepL.flat (by simp) hz fun i a b us2 h2 => ?_)
   simp only [List.length_map] at a
   simp only [List.getElem_map] at h2 ⊢
   exact encX_weakLK d _ (b8 _ (List.getElem_mem _)) G us2 h2
  ·cases shares with
   | nil => exact Weak.nil 1 0 0 ⟨rfl, rfl⟩ G x h
   | cons y ys => exact h
theorem encX_weakK (d : Nat) (t : LT) (hb : KC d t) : Weak (.agg (encX t)) (.agg (encL t)) := fun G v hr => by
 obtain ⟨vs, rfl, hvs⟩ := RepL.of_agg hr
 exact (encX_weakLK d t hb G vs hvs).agg
def nmS : List ByteArray := [⟨#[105, 97]⟩, ⟨#[105, 98]⟩, ⟨#[105, 99]⟩, ⟨#[105, 100]⟩]
structure ShOk (xs : List (ByteArray × Int)) (shares : List Int) (j : Nat) : Prop where
 len : xs.length = j
 lens : shares.length = j
 names : xs.map (·.1) = nmS.take j
 long : ∀ x ∈ xs, 1 ≤ x.2 ∧ x.2 ≤ 10
 share : ∀ s ∈ shares, 1 ≤ s ∧ s ≤ 8
theorem ShOk.nil : ShOk [] [] 0 := ⟨rfl, rfl, rfl, by simp, by simp⟩
theorem ShOk.push {xs : List (ByteArray × Int)} {shares : List Int} {j : Nat} (h : ShOk xs shares j) (hj : j < 4) {y s : Int} (hy : 1 ≤ y ∧ y ≤ 10) (hs : 1 ≤ s ∧ s ≤ 8) : ShOk (xs ++ [(nmS.getD j default, y)]) (shares ++ [s]) (j + 1) := by
 refine ⟨by simp [h.len], by simp [h.lens], ?_, fun x hx => ?_, fun x hx => ?_⟩
 ·rw [List.map_append, h.names]
  have e : nmS.take (j + 1) = nmS.take j ++ [nmS.getD j default] := by
   rw [List.take_succ_eq_append_getElem (show j < nmS.length from hj), List.getD_eq_getElem?_getD, List.getElem?_eq_getElem (show j < nmS.length from hj)]; rfl
  rw [e]; rfl
 ·rcases List.mem_append.1 hx with hx | hx
  ·exact h.long x hx
  ·simp only [List.mem_singleton] at hx; subst hx; exact hy
 ·rcases List.mem_append.1 hx with hx | hx
  ·exact h.share x hx
  ·simp only [List.mem_singleton] at hx; subst hx; exact hs
theorem nm_ok : ∀ k ∈ nmS, k.size = 2 ∧ keyB k = true := by decide
theorem nm_up : (nmS.map (·.data.toList)).Pairwise fun x y => x ≤ y ∧ x ≠ y := by decide
structure ShF (xs : List (ByteArray × Int)) (shares : List Int) (E g : Nat) : Prop where
 kc : KC 23 (shareT xs shares)
 many : manyF (shareT xs shares) ≤ 1000000000000000
 fault : faultF (shareT xs shares) = 0
 e : 1 ≤ E ∧ E ≤ 32
 g0 : 1 ≤ g
 sum : shares.sum = g * E
 rdE : rdE 23 (shareT xs shares) = 0
 rdS : rdS 23 (shareT xs shares) = seqX xs shares E
 pas : ∀ n, (passesU 23 (shareT xs shares) n).2 = seqX xs shares n
 cnt : ∀ i, i < xs.length → (cntF (seqX xs shares E) (xs.getD i default).1 : Int) * g = shares.getD i 0
 once : onceS ((seqX xs shares E).map (·.1)) = xs.map (·.1)
theorem sh_facts {xs : List (ByteArray × Int)} {shares : List Int} {j : Nat} (h : ShOk xs shares j) (h0 : 1 ≤ j ∧ j ≤ 4) : ∃ E g, ShF xs shares E g := by
 have hne : shares ≠ [] := fun e => by have := h.lens; rw [e] at this; simp at this; omega
 have hs1 : ∀ x ∈ shares, 1 ≤ x := fun x hx => (h.share x hx).1
 obtain ⟨g, E, g0, e0, e1, e2, e3⟩ := every4 hs1 hne
 have hn2 : ∀ x ∈ xs, x.1 ∈ nmS := fun x hx => by
  have : x.1 ∈ xs.map (·.1) := List.mem_map.2 ⟨x, hx, rfl⟩
  rw [h.names] at this
  exact List.mem_of_mem_take this
 have hnd : (xs.map (·.1)).Nodup := by
  rw [h.names]
  have : nmS.Nodup := by decide
  exact this.sublist (List.take_sublist _ _)
 have hkc1 : ∀ d, ∀ k ∈ xs.map itemT, KC (d + 1) k := fun d k hk => by
  obtain ⟨x, hx, rfl⟩ := List.mem_map.1 hk
  have := h.long x hx
  have := (nm_ok _ (hn2 x hx)).1
  exact ⟨by unfold NB; omega, by omega, by unfold NB; omega, by unfold NB; omega, by simp, by simp, by simp, by simp⟩
 have hl := h.len
 have hl2 := h.lens
 have hkc : KC 23 (shareT xs shares) := ⟨by unfold NB; omega, by decide, by unfold NB; omega, by unfold NB; omega, by simp; omega, by omega, fun x hx => by have := h.share x hx; unfold NB; omega, hkc1 21⟩
 have hpart : partF (shareT xs shares) = 0 := by
  rw [shareT, partF_eq]
  have c2 : formB 4 default 0 0 ((xs.map itemT).length : Int) (shares.length : Int) = false := by
   unfold formB
   have e6 : (((xs.map itemT).length : Int) == 0) = false := by simp; intro e; rw [e] at hl; simp at hl; omega
   have e7 : ((shares.length : Int) != ((xs.map itemT).length : Int)) = false := by simp; omega
   have e8 : ((default : ByteArray) != (⟨#[]⟩ : ByteArray)) = false := by decide
   rw [e6, e7, e8]
   rfl
  have c6 : shares.any (fun n => outB n 1 1000) = false := by
   rw [List.any_eq_false]
   intro x hx
   have := h.share x hx
   simp [outB]; omega
  rw [c2, c6]
  have c1 : outB 4 1 5 = false := by decide
  rw [c1]
  simp only [Bool.false_eq_true, if_false, show ((4 : Int) == 1) = false from rfl, show ((4 : Int) == 5) = false from rfl, Bool.false_and]
  exact firstNZ_none _ fun x hx => by
   obtain ⟨k, hk, rfl⟩ := List.mem_map.1 hx
   obtain ⟨y, hy, rfl⟩ := List.mem_map.1 hk
   have h1 := h.long y hy
   have h2 := (nm_ok _ (hn2 y hy)).2
   rw [itemT, partF_eq]
   simp [outB, formB, h2, firstNZ]
   omega
 have hmany : manyF (shareT xs shares) = xs.length + 1 := by
  rw [shareT, manyF_eq]
  have : ∀ l : List (ByteArray × Int), ((l.map itemT).map manyF).sum = l.length := fun l => by
   induction l with
   | nil => rfl
   | cons x l ih =>
    rw [List.map_cons, List.map_cons, List.sum_cons, ih, itemT, manyF_eq]
    simp; omega
  rw [this]
 have hdeep : deepF (shareT xs shares) ≤ 23 := (size_bd 23 _ hkc).2.2
 have hdeep2 : deepF (shareT xs shares) ≤ 2 := by
  rw [shareT, deepF_eq]
  have := max_bd deepF 1 (xs.map itemT) 0 (by omega) fun k hk => by
   obtain ⟨y, hy, rfl⟩ := List.mem_map.1 hk
   rw [itemT, deepF_eq]; simp
  omega
 have hf : faultF (shareT xs shares) = 0 := by
  unfold faultF
  rw [if_neg (by omega)]
  exact hpart
 have hSb : shares.sum ≤ 32 := by
  have : ∀ l : List Int, (∀ x ∈ l, x ≤ 8) → l.sum ≤ 8 * l.length := fun l => by
   induction l with
   | nil => intro _; simp
   | cons x l ih =>
    intro h
    have := h x (by simp); have := ih fun y hy => h y (by simp [hy])
    simp only [List.sum_cons, List.length_cons]; omega
  have := this shares fun x hx => (h.share x hx).2
  omega
 have hE : 1 ≤ E ∧ E ≤ 32 := by
  refine ⟨e0, ?_⟩
  have : (1 : Int) * E ≤ g * E := Int.mul_le_mul_of_nonneg_right (by omega) (by omega)
  omega
 have hri := share_round (d := 21) (xs := xs) (shares := shares) (by omega) (by omega) e1 (by omega)
 obtain ⟨r1, r2, r3⟩ := roundS_some hri
 have hpas : ∀ n, (passesU 23 (shareT xs shares) n).2 = seqX xs shares n := fun n => by
  obtain ⟨ks, _, e⟩ := passes_share 21 xs shares (by omega) (by omega) n
  have e2 : passesU 23 (shareT xs shares) n = _ := e
  rw [e2]
 have hcnt : ∀ i, i < xs.length → (cntF (seqX xs shares E) (xs.getD i default).1 : Int) * g = shares.getD i 0 := fun i hi => by
  rw [cnt_share (by omega) (by omega) hnd E hi]
  have h1 := cntS_round hs1 hne g0 e2 e3 0 i (by omega)
  rw [Nat.zero_add] at h1
  rw [h1]
  simp only [cntS, zero_getD]; omega
 refine ⟨E, g, hkc, by omega, hf, hE, g0, e2, by rw [rdE, if_pos hf, r2], by rw [rdS, if_pos hf, r1, hpas], hpas, hcnt, ?_⟩
 refine onceS_same (by rw [h.names, List.map_take]; exact nm_up.sublist (List.take_sublist _ _)) fun x => ?_
 constructor
 ·intro hx
  obtain ⟨y, hy, rfl⟩ := List.mem_map.1 hx
  obtain ⟨q, hq, rfl⟩ := List.mem_map.1 hy
  have hq2 : q < xs.length := by rw [h.len, ← h.lens]; exact seqS_lt (by omega) E q hq
  exact List.mem_map.2 ⟨_, getD_memS xs q hq2, rfl⟩
 ·intro hx
  obtain ⟨y, hy, rfl⟩ := List.mem_map.1 hx
  obtain ⟨i, hi, rfl⟩ := List.getElem_of_mem hy
  have h1 := hcnt i hi
  have h2 : xs.getD i default = xs[i] := by rw [List.getD_eq_getElem?_getD, List.getElem?_eq_getElem hi]; rfl
  rw [h2] at h1
  have h3 : 1 ≤ shares.getD i 0 := hs1 _ (by rw [List.getD_eq_getElem?_getD, List.getElem?_eq_getElem (by omega)]; exact List.getElem_mem _)
  by_cases hm : xs[i].1 ∈ (seqX xs shares E).map (·.1)
  ·exact hm
  ·rw [(longF_zero hm).2] at h1; omega
where
 getD_memS (l : List (ByteArray × Int)) (j : Nat) (h : j < l.length) : l.getD j default ∈ l := by
  rw [List.getD_eq_getElem?_getD, List.getElem?_eq_getElem h]; exact List.getElem_mem _
theorem seqX_at (xs : List (ByteArray × Int)) (shares : List Int) {n k : Nat} (h : k < n) : (seqX xs shares n).getD k default = xs.getD (nextF shares k (cntS shares k)) default := by
 rw [List.getD_eq_getElem?_getD, seqX, seqS, List.map_map, List.getElem?_map, List.getElem?_range h]
 rfl
theorem g_lawShares (l : List Int) (h : Hp) (hl : SOk l) : ACalls Tryz.prog 4 [.row 1 (l.map encI) none] h (fun r _ => r = .v (.bool true)) := by
 have hp1 := fun i a h ha => g_pick i l a [1, 2, 3, 5, 8] none h hl ha (by decide)
 have hp2 := fun i a h ha => g_pick i l a [1, 10] none h hl ha (by decide)
 simp only [List.map_cons, List.map_nil, encI] at hp1 hp2
 refine gE Tryz.func4 rfl (by kernel_rfl) 148 rfl fun c => ?_
 (repeat (first | refine gQ rfl ?_ | ((first | refine gM zM43 ?_ | (with_reducible refine wM ?_ ?_) | ((with_reducible refine xR ?_); refine uE 9 zM43 zP1LE zP1LP 149 rfl (by kernel_rfl) ?_) | ((with_reducible refine xS ?_); refine uD 18 zM43 zP1ME zP1MP 149 rfl (by kernel_rfl) ?_)) <;> ((try with_reducible intro K1 hK1); simp only [go_sem, ↓reduceIte, reduceCtorEq, nA, nB, nC, nD, nE, nF] <;> and_intros <;> first | (apply hK1; clear hK1 K1) | (intros; first | omega | decide | (simp_all <;> omega)) | skip))))
 intro i hi
 refine hK1 _ ?_; clear hK1 K1
 have e0 : ({ H := upd h.H i (some (.cells [.row 1 (l.map encI) none, .v (.int .i64 0)])), T := h.T } : Hp) = h.st i l 0 := rfl
 rw [e0]
 (repeat (first | refine gQ rfl ?_ | ((first | refine gM zM43 ?_ | (with_reducible refine wM ?_ ?_) | ((with_reducible refine xR ?_); refine uE 9 zM43 zP1LE zP1LP 149 rfl (by kernel_rfl) ?_) | ((with_reducible refine xS ?_); refine uD 18 zM43 zP1ME zP1MP 149 rfl (by kernel_rfl) ?_)) <;> ((try with_reducible intro K1 hK1); simp only [go_sem, ↓reduceIte, reduceCtorEq, nA, nB, nC, nD, nE, nF] <;> and_intros <;> first | (apply hK1; clear hK1 K1) | (intros; first | omega | decide | (simp_all <;> omega)) | skip))))
 refine awp_ownLoc 0 4 6 rfl rfl (fun k1 hk1 => ?_)
 simp only [List.set_cons_zero, List.set_cons_succ]
 refine awp_ownLoc 0 5 1 rfl rfl (fun k2 hk2 => ?_)
 simp only [List.set_cons_zero, List.set_cons_succ]
 have hk2a : h.T k2 = none ∧ k2 ≠ k1 := by
  have hne : k2 ≠ k1 := fun e => by subst e; simp [upd_same] at hk2
  simp only [upd_other _ _ hne] at hk2
  exact ⟨hk2, hne⟩
 have e1 : ({ H := (h.st i l 0).H, T := upd (upd (h.st i l 0).T k1 (some (TO.tail 0))) k2 (some (TO.tail 0)) } : Hp) = Hp.st ⟨h.H, upd (upd h.T k1 (some (TO.tail 0))) k2 (some (TO.tail 0))⟩ i l 0 := rfl
 rw [e1]
 have hT1 : upd (upd h.T k1 (some (TO.tail 0))) k2 (some (TO.tail 0)) k1 = some (.tail 0) := by rw [upd_other _ _ hk2a.2.symm, upd_same]
 have hT2 : upd (upd h.T k1 (some (TO.tail 0))) k2 (some (TO.tail 0)) k2 = some (.tail 0) := upd_same _ _ _
 generalize upd (upd h.T k1 (some (TO.tail 0))) k2 (some (TO.tail 0)) = T at *
 clear e1 hk1 hk2
 (repeat (first | refine gO rfl ?_ | ((first | refine gM zM43 ?_ | (with_reducible refine wM ?_ ?_) | ((with_reducible refine xR ?_); refine uE 9 zM43 zP1LE zP1LP 149 rfl (by kernel_rfl) ?_) | ((with_reducible refine xS ?_); refine uD 18 zM43 zP1ME zP1MP 149 rfl (by kernel_rfl) ?_)) <;> ((try with_reducible intro K1 hK1); simp only [go_sem, ↓reduceIte, reduceCtorEq, nA, nB, nC, nD, nE, nF] <;> and_intros <;> first | (apply hK1; clear hK1 K1) | (intros; first | omega | decide | (simp_all <;> omega)) | skip))))
 refine (g_range i l 0 1 4 ⟨h.H, T⟩ hl (by omega) (by omega) (by omega) (by omega)).mono ?_; rintro _ _ ⟨m0, hm0, rfl, rfl⟩; apply hK1; clear hK1 K1
 obtain ⟨m, rfl⟩ : ∃ m : Nat, m0 = m := ⟨m0.toNat, by omega⟩
 have z0 : Int.toNat 0 = 0 := rfl
 have hnm : List.take m [[AV.v (.string ⟨#[105, 97]⟩)], [AV.v (.string ⟨#[105, 98]⟩)], [AV.v (.string ⟨#[105, 99]⟩)], [AV.v (.string ⟨#[105, 100]⟩)]] = (nmS.take m).map encS := by
  rw [List.map_take]; rfl
 have hnl : ((nmS.take m).map encS).length = m := by
  have : nmS.length = 4 := rfl
  simp; omega
 (repeat (first | refine gO rfl ?_ | ((first | refine gM zM43 ?_ | (with_reducible refine wM ?_ ?_) | ((with_reducible refine xR ?_); refine uE 9 zM43 zP1LE zP1LP 149 rfl (by kernel_rfl) ?_) | ((with_reducible refine xS ?_); refine uD 18 zM43 zP1ME zP1MP 149 rfl (by kernel_rfl) ?_)) <;> ((try with_reducible intro K1 hK1); simp only [go_sem, ↓reduceIte, reduceCtorEq, nA, nB, nC, nD, nE, nF, Int.toNat_natCast, z0, Nat.sub_zero, List.drop_zero, hnm, hnl, Option.toList_none, Option.toList_some, List.append_eq, List.nil_append, List.cons_append, uside] <;> and_intros <;> first | (apply hK1; clear hK1 K1) | (intros; first | omega | decide | (simp_all <;> omega)) | skip))))
 refine awp_loopC (rl false [3, 3, 19, 3, 121]) 1 (fun g s => ∃ (xs : List (ByteArray × Int)) (shares : List Int) (T2 : Nat → Option TO) (a2 : Int), g + xs.length = m ∧ ShOk xs shares xs.length ∧ T2 k1 = some (.tail xs.length) ∧ T2 k2 = some (.tail xs.length) ∧ (1 ≤ a2 ∧ a2 ≤ 1 + 2 * (xs.length : Int)) ∧ 0 ≤ shares.sum ∧ shares.sum ≤ 8 * (xs.length : Int) ∧
  s = ⟨((jnk 3 ((.ptr i 0) :: (.loc 0 0) :: (.v (.int .i64 shares.sum)) :: (jnk 19 ((.row 1 ((nmS.take m).map encS) none) :: (.v (.int .i64 m)) :: (.v (.int .i64 xs.length)) :: (jnk 121 [])))))),
   [[.v (.int .i64 4), .v (.string { data := #[] }), .v (.int .i64 0), .v (.int .i64 0), .row 6 (xs.map fun x => encX (itemT x)) (some k1), .row 1 (shares.map encI) (some k2)]], Hp.st ⟨h.H, T2⟩ i l a2⟩) m ⟨[], [], T, 0 + 1, by simp, ShOk.nil, hT1, hT2, by simp, by simp, by simp, rfl⟩ ?_
 rintro g _ ⟨xs, shares, T2, a2, hg, hok, hT1, hT2, ha2, hs0, hs8, rfl⟩
 (repeat (first | refine gO rfl ?_ | ((first | refine gM zM43 ?_ | (with_reducible refine wM ?_ ?_) | ((with_reducible refine xR ?_); refine uE 9 zM43 zP1LE zP1LP 149 rfl (by kernel_rfl) ?_) | ((with_reducible refine xS ?_); refine uD 18 zM43 zP1ME zP1MP 149 rfl (by kernel_rfl) ?_)) <;> ((try with_reducible intro K1 hK1); simp only [go_sem, ↓reduceIte, reduceCtorEq, nA, nB, nC, nD, nE, nF] <;> and_intros <;> first | (apply hK1; clear hK1 K1) | (intros; first | omega | decide | (simp_all <;> omega)) | skip))))
 refine awp_cond (t := _) rfl (fun h5 => ?_) (fun h5 => ?_)
 ·simp only [decide_eq_true_eq] at h5
  have hjm : xs.length < m := by omega
  have gx : ((nmS.take m).map encS).getD xs.length [] = encS (nmS.getD xs.length default) := by
   rw [getD_enc encS (nmS.take m) xs.length default (by have : nmS.length = 4 := rfl; simp; omega), List.getD_eq_getElem?_getD, List.getElem?_take_of_lt hjm, ← List.getD_eq_getElem?_getD]
  (repeat (first | refine gO rfl ?_ | ((first | refine gM zM43 ?_ | (with_reducible refine wM ?_ ?_) | ((with_reducible refine xR ?_); refine uE 9 zM43 zP1LE zP1LP 149 rfl (by kernel_rfl) ?_) | ((with_reducible refine xS ?_); refine uD 18 zM43 zP1ME zP1MP 149 rfl (by kernel_rfl) ?_)) <;> ((try with_reducible intro K1 hK1); simp only [go_sem, ↓reduceIte, reduceCtorEq, nA, nB, nC, nD, nE, nF, Int.toNat_natCast, gx, hnl, encS] <;> and_intros <;> first | (apply hK1; clear hK1 K1) | (intros; first | omega | decide | (simp_all <;> omega)) | skip))))
  refine (hp1 i a2 ⟨h.H, T2⟩ (by omega)).mono ?_; rintro _ _ ⟨sv, hsv, rfl, rfl⟩; apply hK1; clear hK1 K1
  have hsv2 : 1 ≤ sv ∧ sv ≤ 8 := by simp at hsv; omega
  (repeat (first | refine gO rfl ?_ | ((first | refine gM zM43 ?_ | (with_reducible refine wM ?_ ?_) | ((with_reducible refine xR ?_); refine uE 9 zM43 zP1LE zP1LP 149 rfl (by kernel_rfl) ?_) | ((with_reducible refine xS ?_); refine uD 18 zM43 zP1ME zP1MP 149 rfl (by kernel_rfl) ?_)) <;> ((try with_reducible intro K1 hK1); simp only [go_sem, ↓reduceIte, reduceCtorEq, nA, nB, nC, nD, nE, nF] <;> and_intros <;> first | (apply hK1; clear hK1 K1) | (intros; first | omega | decide | (simp_all <;> omega)) | skip))))
  refine (hp2 i (a2 + 1) ⟨h.H, T2⟩ (by omega)).mono ?_; rintro _ _ ⟨lv, hlv, rfl, rfl⟩; apply hK1; clear hK1 K1
  have hlv2 : 1 ≤ lv ∧ lv ≤ 10 := by simp at hlv; omega
  have hxm : (xs.map fun x => encX (itemT x)).length = xs.length := List.length_map _
  have hsm : (shares.map encI).length = xs.length := by rw [List.length_map, hok.lens]
  have hT4 : upd T2 k1 (some (.tail (xs.length + 1))) k2 = some (.tail xs.length) := by rw [upd_other _ _ hk2a.2]; exact hT2
  (repeat (first | refine gO rfl ?_ | ((first | refine gM zM43 ?_ | (with_reducible refine wM ?_ ?_) | ((with_reducible refine xR ?_); refine uE 9 zM43 zP1LE zP1LP 149 rfl (by kernel_rfl) ?_) | ((with_reducible refine xS ?_); refine uD 18 zM43 zP1ME zP1MP 149 rfl (by kernel_rfl) ?_)) <;> ((try with_reducible intro K1 hK1); simp only [go_sem, ↓reduceIte, reduceCtorEq, nA, nB, nC, nD, nE, nF, hT1, hT4, st_T, hxm, hsm] <;> and_intros <;> first | (apply hK1; clear hK1 K1) | (intros; first | omega | decide | (simp_all <;> omega)) | skip))))
  have hpl : (xs ++ [(nmS.getD xs.length default, lv)]).length = xs.length + 1 := by simp
  have hps : (shares ++ [sv]).sum = shares.sum + sv := by simp
  refine ⟨g - 1, by omega, xs ++ [(nmS.getD xs.length default, lv)], shares ++ [sv], upd (upd T2 k1 (some (.tail (xs.length + 1)))) k2 (some (.tail (xs.length + 1))), a2 + 1 + 1, by omega, by rw [hpl]; exact hok.push (by omega) hlv2 hsv2, by rw [hpl, upd_other _ _ hk2a.2.symm, upd_same], by rw [hpl, upd_same], by omega, by omega, by omega, ?_⟩
  rw [hps, hpl, List.map_append, List.map_append]
  simp only [List.map_cons, List.map_nil, itemT, encX_eq, nilOr, encI]
  rfl
 ·simp only [decide_eq_false_iff_not] at h5
  have hxl : xs.length = m := by omega
  obtain ⟨E, gg, F⟩ := sh_facts hok (by omega)
  have hlens := hok.lens
  have hw : Weak (.agg [.v (.int .i64 4), .v (.string { data := #[] }), .v (.int .i64 0), .v (.int .i64 0), .row 6 (xs.map fun x => encX (itemT x)) (some k1), .row 1 (shares.map encI) (some k2)]) (.agg (encL (shareT xs shares))) := fun G v hr => by
   refine encX_weakK 23 _ F.kc G v ((?_ : Weak _ _) G v hr)
   rw [shareT, encX_eq]
   refine Weak.agg (.cons (Weak.refl _) (.cons (Weak.refl _) (.cons (Weak.refl _) (.cons (Weak.refl _) (.cons ?_ (.cons ?_ .nil))))))
   ·cases xs with
    | nil => simp at hxl; omega
    | cons x xs => rw [List.map_map]; exact Weak.row _ _ _
   ·cases shares with
    | nil => simp at hlens; omega
    | cons x xs => exact Weak.row _ _ _
  have hPa := fun h => (g_Parts 23 _ h F.kc ⟨F.many, by omega⟩).weakArgs (args' := [.agg [.v (.int .i64 4), .v (.string { data := #[] }), .v (.int .i64 0), .v (.int .i64 0), .row 6 (xs.map fun x => encX (itemT x)) (some k1), .row 1 (shares.map encI) (some k2)]]) rfl (weak1 hw)
  have hpr : partsR (seqX xs shares E) = xs.map fun x => encPn (seqX xs shares E) x.1 := by rw [partsR, F.once, List.map_map]; rfl
  rw [F.rdS, F.rdE, hpr] at hPa
  have hs32 : shares.sum ≤ 32 := by omega
  have hPs := fun h => (g_passes 23 _ shares.sum h F.kc ⟨F.many, by omega⟩ (by unfold NB; omega)).weakArgs (args' := [.agg [.v (.int .i64 4), .v (.string { data := #[] }), .v (.int .i64 0), .v (.int .i64 0), .row 6 (xs.map fun x => encX (itemT x)) (some k1), .row 1 (shares.map encI) (some k2)], .v (.int .i64 shares.sum)]) rfl (weak2 hw (Weak.refl _))
  have hsl : (seqX xs shares shares.sum.toNat).length = shares.sum.toNat := by rw [seqX, List.length_map, seqS_len]
  rw [if_pos ⟨F.fault, by omega, by omega⟩, if_pos F.fault, if_pos ⟨by omega, by omega⟩, wantX, wantE, F.pas, if_pos (by omega), if_pos (by omega)] at hPs
  have hrl : (xs.map fun x => encPn (seqX xs shares E) x.1).length = xs.length := List.length_map _
  have hkl : (xs.map fun x => encX (itemT x)).length = xs.length := List.length_map _
  have hml : ((seqX xs shares shares.sum.toNat).map encStep).length = shares.sum.toNat := by rw [List.length_map, hsl]
  have hsn : ((shares.sum.toNat : Nat) : Int) = shares.sum := by omega
  have hb1 : ((xs.length : Int) != (xs.length : Int)) = false := by simp
  have hb2 : (shares.sum != shares.sum) = false := by simp
  (repeat (first | refine gO rfl ?_ | ((first | refine gM zM43 ?_ | (with_reducible refine wM ?_ ?_) | ((with_reducible refine xR ?_); refine uE 9 zM43 zP1LE zP1LP 149 rfl (by kernel_rfl) ?_) | ((with_reducible refine xS ?_); refine uD 18 zM43 zP1ME zP1MP 149 rfl (by kernel_rfl) ?_)) <;> ((try with_reducible intro K1 hK1); simp only [go_sem, ↓reduceIte, reduceCtorEq, nA, nB, nC, nD, nE, nF] <;> and_intros <;> first | (apply hK1; clear hK1 K1) | (intros; first | omega | decide | (simp_all <;> omega)) | skip))))
  refine (hPa _).mono ?_
  rintro _ h2 rfl
  refine hK1 _ ?_; clear hK1 K1 hPa
  (repeat (first | refine gO rfl ?_ | ((first | refine gM zM43 ?_ | (with_reducible refine wM ?_ ?_) | ((with_reducible refine xR ?_); refine uE 9 zM43 zP1LE zP1LP 149 rfl (by kernel_rfl) ?_) | ((with_reducible refine xS ?_); refine uD 18 zM43 zP1ME zP1MP 149 rfl (by kernel_rfl) ?_)) <;> ((try with_reducible intro K1 hK1); simp only [go_sem, ↓reduceIte, reduceCtorEq, nA, nB, nC, nD, nE, nF] <;> and_intros <;> first | (apply hK1; clear hK1 K1) | (intros; first | omega | decide | (simp_all <;> omega)) | skip))))
  refine (hPs _).mono ?_
  rintro _ h3 rfl
  refine hK1 _ ?_; clear hK1 K1 hPs
  (repeat (first | refine gO rfl ?_ | ((first | refine gM zM43 ?_ | (with_reducible refine wM ?_ ?_) | ((with_reducible refine xR ?_); refine uE 9 zM43 zP1LE zP1LP 149 rfl (by kernel_rfl) ?_) | ((with_reducible refine xS ?_); refine uD 18 zM43 zP1ME zP1MP 149 rfl (by kernel_rfl) ?_)) <;> ((try with_reducible intro K1 hK1); simp only [go_sem, ↓reduceIte, reduceCtorEq, nA, nB, nC, nD, nE, nF, hrl, hkl, hml, hsn, hb1, hb2, Int.reduceBNe] <;> and_intros <;> first | (apply hK1; clear hK1 K1) | (intros; first | omega | decide | (simp_all <;> omega)) | skip))))
  refine awp_cond (t := _) rfl (fun h9 => by cases h9) (fun _ => ?_)
  have hsharesI : (shares.map encI).length = xs.length := by rw [List.length_map, hlens]
  have hne : shares ≠ [] := fun e => by rw [e] at hlens; simp at hlens; omega
  have hfair := fair (fun x hx => (hok.share x hx).1) hne
  have hnd : (xs.map (·.1)).Nodup := by
   rw [hok.names]
   have : nmS.Nodup := by decide
   exact this.sublist (List.take_sublist _ _)
  (repeat (first | refine gO rfl ?_ | ((first | refine gM zM43 ?_ | (with_reducible refine wM ?_ ?_) | ((with_reducible refine xR ?_); refine uE 9 zM43 zP1LE zP1LP 149 rfl (by kernel_rfl) ?_) | ((with_reducible refine xS ?_); refine uD 18 zM43 zP1ME zP1MP 149 rfl (by kernel_rfl) ?_)) <;> ((try with_reducible intro K1 hK1); simp only [go_sem, ↓reduceIte, reduceCtorEq, nA, nB, nC, nD, nE, nF, hrl] <;> and_intros <;> first | (apply hK1; clear hK1 K1) | (intros; first | omega | decide | (simp_all <;> omega)) | skip))))
  refine awp_loopC (rl false [4, 2, 5, 1, 73, 3, 61]) 1 (fun g s => ∃ j : Nat, g + j = xs.length ∧
   s = ⟨((jnk 4 ((.loc 0 0) :: (.v (.int .i64 shares.sum)) :: (jnk 5 ((.row 2 ((seqX xs shares shares.sum.toNat).map encStep) none) :: (jnk 73 ((.row 5 (xs.map fun x => encPn (seqX xs shares E) x.1) none) :: (.v (.int .i64 xs.length)) :: (.v (.int .i64 j)) :: (jnk 61 [])))))))),
    [[.v (.int .i64 4), .v (.string { data := #[] }), .v (.int .i64 0), .v (.int .i64 0), .row 6 (xs.map fun x => encX (itemT x)) (some k1), .row 1 (shares.map encI) (some k2)]], h3⟩) xs.length ⟨0, by omega, rfl⟩ ?_
  rintro g1 _ ⟨j, hj, rfl⟩
  (repeat (first | refine gO rfl ?_ | ((first | refine gM zM43 ?_ | (with_reducible refine wM ?_ ?_) | ((with_reducible refine xR ?_); refine uE 9 zM43 zP1LE zP1LP 149 rfl (by kernel_rfl) ?_) | ((with_reducible refine xS ?_); refine uD 18 zM43 zP1ME zP1MP 149 rfl (by kernel_rfl) ?_)) <;> ((try with_reducible intro K1 hK1); simp only [go_sem, ↓reduceIte, reduceCtorEq, nA, nB, nC, nD, nE, nF] <;> and_intros <;> first | (apply hK1; clear hK1 K1) | (intros; first | omega | decide | (simp_all <;> omega)) | skip))))
  refine awp_cond (t := _) rfl (fun h6 => ?_) (fun h6 => ?_)
  ·simp only [decide_eq_true_eq] at h6
   have hjl : j < xs.length := by omega
   have gp : (xs.map fun x => encPn (seqX xs shares E) x.1).getD j [] = encPn (seqX xs shares E) (xs.getD j default).1 := getD_enc (fun x : ByteArray × Int => encPn (seqX xs shares E) x.1) xs j default hjl
   have gk : (xs.map fun x => encX (itemT x)).getD j [] = encX (itemT (xs.getD j default)) := getD_enc (fun x : ByteArray × Int => encX (itemT x)) xs j default hjl
   have gs : (shares.map encI).getD j [] = encI (shares.getD j 0) := getD_enc encI shares j 0 (by omega)
   obtain ⟨num, den, hlow, hnum, hn1, hn2⟩ : ∃ num den : Nat, lowF (cntF (seqX xs shares E) (xs.getD j default).1) (seqX xs shares E).length = [.v (.int .i64 num), .v (.int .i64 den)] ∧ (num : Int) * shares.sum = shares.getD j 0 * den ∧ num ≤ 100 ∧ den ≤ 100 := by
    have hXl : (seqX xs shares E).length = E := by rw [seqX, List.length_map, seqS_len]
    have hcE := cntF_le (seqX xs shares E) (xs.getD j default).1
    have hc := F.cnt j hjl
    rw [hXl] at hcE ⊢
    refine ⟨_, _, rfl, ?_, ?_, ?_⟩
    ·refine share_parts (S := shares.sum) (c := (cntF (seqX xs shares E) (xs.getD j default).1 : Int)) (E := (E : Int)) (g := (gg : Int)) (G := Nat.gcd (cntF (seqX xs shares E) (xs.getD j default).1) E) F.sum hc ?_ ?_
     ·rw [← Int.natCast_mul, Nat.div_mul_cancel (Nat.gcd_dvd_left _ _)]
     ·rw [← Int.natCast_mul, Nat.div_mul_cancel (Nat.gcd_dvd_right _ _)]
    ·have := Nat.div_le_self (cntF (seqX xs shares E) (xs.getD j default).1) (Nat.gcd (cntF (seqX xs shares E) (xs.getD j default).1) E)
     have := F.e.2; omega
    ·have := Nat.div_le_self E (Nat.gcd (cntF (seqX xs shares E) (xs.getD j default).1) E)
     have := F.e.2; omega
   have hpn : encPn (seqX xs shares E) (xs.getD j default).1 = [.v (.string (xs.getD j default).1), .v (.int .i64 num), .v (.int .i64 den)] ++ lowF (longF (seqX xs shares E) (xs.getD j default).1).toNat (sumL (seqX xs shares E)).toNat := by
    rw [encPn, hlow]; rfl
   obtain ⟨u1, u2, hu⟩ : ∃ u1 u2, lowF (longF (seqX xs shares E) (xs.getD j default).1).toNat (sumL (seqX xs shares E)).toNat = [u1, u2] := ⟨_, _, rfl⟩
   rw [hu] at hpn
   rw [hpn] at gp
   have hsj := hok.share (shares.getD j 0) (by rw [List.getD_eq_getElem?_getD, List.getElem?_eq_getElem (show j < shares.length by omega)]; exact List.getElem_mem _)
   have hcj := fun k => seqS_cnt (shares := shares) (by omega) j k
   have hcl := fun k => List.length_filter_le (fun x => x == j) (seqS shares k)
   have hfj := fun k => (hfair k).ahead j (by omega)
   simp only [seqS_len] at hcl
   generalize hsjv : shares.getD j 0 = sj at *
   generalize hnm2 : (xs.getD j default).1 = nm at *
   have hm1 : (nm != nm) = false := by rw [bne, ba_beq]; simp
   have hm2 : ((num : Int) * shares.sum != sj * (den : Int)) = false := by rw [hnum]; simp
   have hb3 : 0 ≤ (num : Int) * shares.sum ∧ (num : Int) * shares.sum ≤ 100 * 32 := ⟨Int.mul_nonneg (by omega) (by omega), Int.mul_le_mul (by omega) hs32 (by omega) (by omega)⟩
   have hb4 : 0 ≤ sj * (den : Int) ∧ sj * (den : Int) ≤ 8 * 100 := ⟨Int.mul_nonneg (by omega) (by omega), Int.mul_le_mul (by omega) (by omega) (by omega) (by omega)⟩
   have hki : encX (itemT (xs.getD j default)) = [.v (.int .i64 1), .v (.string nm), .v (.int .i64 (xs.getD j default).2), .v (.int .i64 0), .v (.slice none 0 0), .v (.slice none 0 0)] := by
    rw [← hnm2]; simp [itemT, encX_eq, nilOr]
   rw [hki] at gk
   (repeat (first | refine gO rfl ?_ | ((first | refine gM zM43 ?_ | (with_reducible refine wM ?_ ?_) | ((with_reducible refine xR ?_); refine uE 9 zM43 zP1LE zP1LP 149 rfl (by kernel_rfl) ?_) | ((with_reducible refine xS ?_); refine uD 18 zM43 zP1ME zP1MP 149 rfl (by kernel_rfl) ?_)) <;> ((try with_reducible intro K1 hK1); simp only [go_sem, ↓reduceIte, reduceCtorEq, nA, nB, nC, nD, nE, nF, Int.toNat_natCast, gp, gk, gs, hrl, hkl, hsharesI, hm1, hm2, encI] <;> and_intros <;> first | (apply hK1; clear hK1 K1) | (intros; first | omega | decide | (simp_all <;> omega)) | skip))))
   refine awp_cond (t := _) rfl (fun h9 => absurd h9 (by rw [ba_beq]; simp)) (fun _ => ?_)
   (repeat (first | refine gO rfl ?_ | ((first | refine gM zM43 ?_ | (with_reducible refine wM ?_ ?_) | ((with_reducible refine xR ?_); refine uE 9 zM43 zP1LE zP1LP 149 rfl (by kernel_rfl) ?_) | ((with_reducible refine xS ?_); refine uD 18 zM43 zP1ME zP1MP 149 rfl (by kernel_rfl) ?_)) <;> ((try with_reducible intro K1 hK1); simp only [go_sem, ↓reduceIte, reduceCtorEq, nA, nB, nC, nD, nE, nF, hml, hsn] <;> and_intros <;> first | (apply hK1; clear hK1 K1) | (intros; first | omega | decide | (simp_all <;> omega)) | skip))))
   refine awp_loopC (rl false [4, 2, 5, 1, 1, 3, 69, 3, 30, 3, 28]) 2 (fun g s => ∃ k : Nat, g + k = shares.sum.toNat ∧
    s = ⟨((jnk 4 ((.loc 0 0) :: (.v (.int .i64 shares.sum)) :: (jnk 5 ((.row 2 ((seqX xs shares shares.sum.toNat).map encStep) none) :: AV.junk :: ((.v (.int .i64 j)) :: (.loc 1 0) :: (.v (.int .i64 ((seqS shares k).filter (fun x => x == j)).length)) :: (jnk 69 ((.row 5 (xs.map fun x => encPn (seqX xs shares E) x.1) none) :: (.v (.int .i64 xs.length)) :: (.v (.int .i64 j)) :: (jnk 30 ((.row 2 ((seqX xs shares shares.sum.toNat).map encStep) none) :: (.v (.int .i64 shares.sum)) :: (.v (.int .i64 k)) :: (jnk 28 []))))))))))),
     [[.v (.int .i64 4), .v (.string { data := #[] }), .v (.int .i64 0), .v (.int .i64 0), .row 6 (xs.map fun x => encX (itemT x)) (some k1), .row 1 (shares.map encI) (some k2)], [.v (.string nm), .v (.int .i64 num), .v (.int .i64 den), u1, u2]], h3⟩) shares.sum.toNat ⟨0, by omega, rfl⟩ ?_
   rintro g2 _ ⟨k, hk, rfl⟩
   (repeat (first | refine gO rfl ?_ | ((first | refine gM zM43 ?_ | (with_reducible refine wM ?_ ?_) | ((with_reducible refine xR ?_); refine uE 9 zM43 zP1LE zP1LP 149 rfl (by kernel_rfl) ?_) | ((with_reducible refine xS ?_); refine uD 18 zM43 zP1ME zP1MP 149 rfl (by kernel_rfl) ?_)) <;> ((try with_reducible intro K1 hK1); simp only [go_sem, ↓reduceIte, reduceCtorEq, nA, nB, nC, nD, nE, nF] <;> and_intros <;> first | (apply hK1; clear hK1 K1) | (intros; first | omega | decide | (simp_all <;> omega)) | skip))))
   refine awp_cond (t := _) rfl (fun h7 => ?_) (fun h7 => ?_)
   ·simp only [decide_eq_true_eq] at h7
    have hkl2 : k < shares.sum.toNat := by omega
    have gz : ((seqX xs shares shares.sum.toNat).map encStep).getD k [] = encStep ((seqX xs shares shares.sum.toNat).getD k default) := getD_enc encStep _ k default (by omega)
    rw [seqX_at xs shares hkl2] at gz
    have hxk : nextF shares k (cntS shares k) < xs.length := by rw [← hlens]; exact bestTo_lt _ _ (by omega)
    have hck := hcl k
    have hcs : (((seqS shares (k + 1)).filter (fun x => x == j)).length : Int) = (((seqS shares k).filter (fun x => x == j)).length : Int) + (if nextF shares k (cntS shares k) = j then 1 else 0) := by
     rw [seqS_succ, List.filter_append, List.length_append, Int.natCast_add]
     by_cases e : nextF shares k (cntS shares k) = j
     ·rw [if_pos e]; simp [e]
     ·rw [if_neg e]
      have : (nextF shares k (cntS shares k) == j) = false := by simpa using e
      simp [this]
    have hfk := hfj (k + 1)
    rw [← hcj (k + 1), hcs] at hfk
    have hnmk : ((xs.getD (nextF shares k (cntS shares k)) default).1 == nm) = decide (nextF shares k (cntS shares k) = j) := by
     rw [ba_beq, ← hnm2, decide_eq_decide]
     constructor
     ·intro e
      have e1 : xs.getD (nextF shares k (cntS shares k)) default = xs[nextF shares k (cntS shares k)] := by rw [List.getD_eq_getElem?_getD, List.getElem?_eq_getElem hxk]; rfl
      have e2 : xs.getD j default = xs[j] := by rw [List.getD_eq_getElem?_getD, List.getElem?_eq_getElem hjl]; rfl
      rw [e1, e2] at e
      have hq := List.pairwise_iff_getElem.1 hnd
      rcases Nat.lt_trichotomy (nextF shares k (cntS shares k)) j with h1 | h1 | h1
      ·exact absurd (by rw [List.getElem_map, List.getElem_map]; exact e) (hq _ _ (by simpa using hxk) (by simpa using hjl) h1)
      ·exact h1
      ·exact absurd (by rw [List.getElem_map, List.getElem_map]; exact e.symm) (hq _ _ (by simpa using hjl) (by simpa using hxk) h1)
     ·intro e; rw [e]
    generalize hnk : ((seqS shares k).filter (fun x => x == j)).length = nk at *
    generalize hxk2 : xs.getD (nextF shares k (cntS shares k)) default = z at *
    have hb5 : 0 ≤ (nk : Int) * shares.sum ∧ (nk : Int) * shares.sum ≤ 32 * 32 := ⟨Int.mul_nonneg (by omega) (by omega), Int.mul_le_mul (by omega) hs32 (by omega) (by omega)⟩
    have hb6 : 0 ≤ ((nk : Int) + 1) * shares.sum ∧ ((nk : Int) + 1) * shares.sum ≤ 33 * 32 := ⟨Int.mul_nonneg (by omega) (by omega), Int.mul_le_mul (by omega) hs32 (by omega) (by omega)⟩
    have hb7 : 0 ≤ sj * ((k : Int) + 1) ∧ sj * ((k : Int) + 1) ≤ 8 * 33 := ⟨Int.mul_nonneg (by omega) (by omega), Int.mul_le_mul (by omega) (by omega) (by omega) (by omega)⟩
    have hkc : ((k + 1 : Nat) : Int) = (k : Int) + 1 := by omega
    rw [hkc] at hfk
    (repeat (first | refine gO rfl ?_ | ((first | refine gM zM43 ?_ | (with_reducible refine wM ?_ ?_) | ((with_reducible refine xR ?_); refine uE 9 zM43 zP1LE zP1LP 149 rfl (by kernel_rfl) ?_) | ((with_reducible refine xS ?_); refine uD 18 zM43 zP1ME zP1MP 149 rfl (by kernel_rfl) ?_)) <;> ((try with_reducible intro K1 hK1); simp only [go_sem, ↓reduceIte, reduceCtorEq, nA, nB, nC, nD, nE, nF, Int.toNat_natCast, gz, hml, hsn, hnmk, encStep] <;> and_intros <;> first | (apply hK1; clear hK1 K1) | (intros; first | omega | decide | (simp_all <;> omega)) | skip))))
    refine awp_cond (t := _) rfl (fun h8 => ?_) (fun h8 => ?_)
    ·simp only [decide_eq_true_eq] at h8
     rw [if_pos h8] at hfk hcs
     have hd1 : decide (shares.sum ≤ ((nk : Int) + 1) * shares.sum - sj * ((k : Int) + 1)) = false := by simp only [decide_eq_false_iff_not]; omega
     (repeat (first | refine gO rfl ?_ | ((first | refine gM zM43 ?_ | (with_reducible refine wM ?_ ?_) | ((with_reducible refine xR ?_); refine uE 9 zM43 zP1LE zP1LP 149 rfl (by kernel_rfl) ?_) | ((with_reducible refine xS ?_); refine uD 18 zM43 zP1ME zP1MP 149 rfl (by kernel_rfl) ?_)) <;> ((try with_reducible intro K1 hK1); simp only [go_sem, ↓reduceIte, reduceCtorEq, nA, nB, nC, nD, nE, nF, gs, hsharesI, Int.toNat_natCast, encI, hd1] <;> and_intros <;> first | (apply hK1; clear hK1 K1) | (intros; first | omega | decide | (simp_all <;> omega)) | skip))))
     refine awp_cond (t := _) rfl (fun h9 => by cases h9) (fun _ => ?_)
     (repeat (first | refine gO rfl ?_ | ((first | refine gM zM43 ?_ | (with_reducible refine wM ?_ ?_) | ((with_reducible refine xR ?_); refine uE 9 zM43 zP1LE zP1LP 149 rfl (by kernel_rfl) ?_) | ((with_reducible refine xS ?_); refine uD 18 zM43 zP1ME zP1MP 149 rfl (by kernel_rfl) ?_)) <;> ((try with_reducible intro K1 hK1); simp only [go_sem, ↓reduceIte, reduceCtorEq, nA, nB, nC, nD, nE, nF] <;> and_intros <;> first | (apply hK1; clear hK1 K1) | (intros; first | omega | decide | (simp_all <;> omega)) | skip))))
     refine ⟨g2 - 1, by omega, k + 1, by omega, ?_⟩
     rw [hcs, hkc]
     rfl
    ·simp only [decide_eq_false_iff_not] at h8
     rw [if_neg h8, Int.add_zero] at hfk hcs
     have hd1 : decide (shares.sum ≤ (nk : Int) * shares.sum - sj * ((k : Int) + 1)) = false := by simp only [decide_eq_false_iff_not]; omega
     (repeat (first | refine gO rfl ?_ | ((first | refine gM zM43 ?_ | (with_reducible refine wM ?_ ?_) | ((with_reducible refine xR ?_); refine uE 9 zM43 zP1LE zP1LP 149 rfl (by kernel_rfl) ?_) | ((with_reducible refine xS ?_); refine uD 18 zM43 zP1ME zP1MP 149 rfl (by kernel_rfl) ?_)) <;> ((try with_reducible intro K1 hK1); simp only [go_sem, ↓reduceIte, reduceCtorEq, nA, nB, nC, nD, nE, nF, gs, hsharesI, Int.toNat_natCast, encI, hd1] <;> and_intros <;> first | (apply hK1; clear hK1 K1) | (intros; first | omega | decide | (simp_all <;> omega)) | skip))))
     refine awp_cond (t := _) rfl (fun h9 => by cases h9) (fun _ => ?_)
     (repeat (first | refine gO rfl ?_ | ((first | refine gM zM43 ?_ | (with_reducible refine wM ?_ ?_) | ((with_reducible refine xR ?_); refine uE 9 zM43 zP1LE zP1LP 149 rfl (by kernel_rfl) ?_) | ((with_reducible refine xS ?_); refine uD 18 zM43 zP1ME zP1MP 149 rfl (by kernel_rfl) ?_)) <;> ((try with_reducible intro K1 hK1); simp only [go_sem, ↓reduceIte, reduceCtorEq, nA, nB, nC, nD, nE, nF] <;> and_intros <;> first | (apply hK1; clear hK1 K1) | (intros; first | omega | decide | (simp_all <;> omega)) | skip))))
     refine ⟨g2 - 1, by omega, k + 1, by omega, ?_⟩
     rw [hcs, hkc]
     rfl
   ·(repeat (first | refine gO rfl ?_ | ((first | refine gM zM43 ?_ | (with_reducible refine wM ?_ ?_) | ((with_reducible refine xR ?_); refine uE 9 zM43 zP1LE zP1LP 149 rfl (by kernel_rfl) ?_) | ((with_reducible refine xS ?_); refine uD 18 zM43 zP1ME zP1MP 149 rfl (by kernel_rfl) ?_)) <;> ((try with_reducible intro K1 hK1); simp only [go_sem, ↓reduceIte, reduceCtorEq, nA, nB, nC, nD, nE, nF] <;> and_intros <;> first | (apply hK1; clear hK1 K1) | (intros; first | omega | decide | (simp_all <;> omega)) | skip))))
    refine ⟨g1 - 1, by omega, j + 1, by omega, ?_⟩
    rfl
  ·(repeat (first | refine gO rfl ?_ | ((first | refine gM zM43 ?_ | (with_reducible refine wM ?_ ?_) | ((with_reducible refine xR ?_); refine uE 9 zM43 zP1LE zP1LP 149 rfl (by kernel_rfl) ?_) | ((with_reducible refine xS ?_); refine uD 18 zM43 zP1ME zP1MP 149 rfl (by kernel_rfl) ?_)) <;> ((try with_reducible intro K1 hK1); simp only [go_sem, ↓reduceIte, reduceCtorEq, nA, nB, nC, nD, nE, nF] <;> and_intros <;> first | (apply hK1; clear hK1 K1) | (intros; first | omega | decide | (simp_all <;> omega)) | skip))))
   refine (g_ready _).mono ?_
   rintro _ h5 rfl
   apply hK1; clear hK1 K1
   (repeat (first | refine gO rfl ?_ | ((first | refine gM zM43 ?_ | (with_reducible refine wM ?_ ?_) | ((with_reducible refine xR ?_); refine uE 9 zM43 zP1LE zP1LP 149 rfl (by kernel_rfl) ?_) | ((with_reducible refine xS ?_); refine uD 18 zM43 zP1ME zP1MP 149 rfl (by kernel_rfl) ?_)) <;> ((try with_reducible intro K1 hK1); simp only [go_sem, ↓reduceIte, reduceCtorEq, nA, nB, nC, nD, nE, nF] <;> and_intros <;> first | (apply hK1; clear hK1 K1) | (intros; first | omega | decide | (simp_all <;> omega)) | skip))))
   simp only [Tryz.results4, go_sem, ↓reduceIte, reduceCtorEq, nA, nB, nC, nD, nE, nF]
   exact ⟨_, _, Weak.refl _, Hp.le.refl _, rfl⟩
end Go.Proofs.YtidkkmoiolffnaaGreatDoor
