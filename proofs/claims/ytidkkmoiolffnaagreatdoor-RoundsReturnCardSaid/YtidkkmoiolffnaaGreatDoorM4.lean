/- cmp.Or of errors; Round of a loop; looped. -/
import Derived.Test.YtidkkmoiolffnaaGreatDoorM3
import Derived.Test.YtidkkmoiolffnaaGreatDoorShelf
import Derived.Deep.DeepCutAuto
import Derived.Deep.LoopGhost
import Derived.Test.YtidkkmoiolffnaaGreatDoorAvRun
import Derived.Lib.SlicesCompact
import Derived.Sort.KeysCollected
import Derived.Below
namespace Go.Proofs.YtidkkmoiolffnaaGreatDoor
open Go
set_option linter.unusedVariables false
set_option linter.unusedSimpArgs false
open Nat renaming reduceAdd → nA, reduceSub → nB, reduceMul → nC, reduceLT → nD, reduceLeDiff → nE, reduceEqDiff → nF, reduceMod → nG, reduceDiv → nH, reducePow → nI
abbrev zM40 : Option Tmp → Nat := mdL [(2, 1)]
abbrev zM41 : Option Tmp → Nat := mdL [(6, 1)]
abbrev zM42 : Option Tmp → Nat := mdL [(19, 2)]
abbrev zM43 : Option Tmp → Nat := mdL [(8, 1)]
abbrev zM44 : Option Tmp → Nat := mdL [(6, 1), (11, 1)]
abbrev zM45 : Option Tmp → Nat := mdL [(4, 1), (12, 1), (17, 1), (20, 2)]
attribute [go_sem] zM40 zM41 zM42 zM43 zM44 zM45
abbrev zP1KE : List Nat := [0, 1, 2, 3, 4, 5, 6, 7, 8, 9, 10]
abbrev zP1KP : List (Nat × List Nat × List Nat) := []
attribute [go_sem] zP1KE zP1KP
set_option maxRecDepth 100000
set_option maxHeartbeats 8000000
def orI : List Int → Int
 | [] => 0
 | x :: l => if x = 0 then orI l else x
noncomputable def rdC (d : Nat) (t : LT) : List AV := [.v (.int .i64 (rdN d t : Nat)), .row 2 ((rdS d t).map encStep) none, .v (.int .i64 ((rdS d t).map (·.2)).sum)]
theorem g_checked (d : Nat) (t : LT) (h : Hp) (hb : KC d t) (hd : manyF t ≤ 1000000000000000 ∧ d ≤ 1000) : ACalls Tryz.prog 70 [.agg (encL t)] h (fun r _ => r = .tup [.agg (rdC d t), .v (.int .i64 (rdE d t))]) := by
 have hlen := encL_len t
 have htk : List.take 6 (encL t) = encL t := List.take_of_length_le (Nat.le_of_eq hlen)
 have hdk : List.drop 6 (encL t) = [] := List.drop_of_length_le (Nat.le_of_eq hlen)
 unfold rdC rdE rdN rdS
 refine gE Tryz.func70 rfl (by kernel_rfl) 14 rfl fun c => ?_
 (repeat (first | refine gO rfl ?_ | (refine gM zM40 fun K1 hK1 => ?_; simp only [go_sem, ↓reduceIte, reduceCtorEq, nA, nB, nC, nD, nE, nF, hlen, htk, hdk] <;> and_intros <;> first | (apply hK1; clear hK1 K1) | (intros; first | omega | decide | (simp_all <;> omega)) | skip)))
 refine (g_check7 d t h hb hd).mono ?_; rintro _ hz ⟨rfl, hh⟩; apply hK1; clear hK1 K1; rw [hh]; clear hh hz
 (repeat (first | refine gO rfl ?_ | (refine gM zM40 fun K1 hK1 => ?_; simp only [go_sem, ↓reduceIte, reduceCtorEq, nA, nB, nC, nD, nE, nF, hlen, htk, hdk] <;> and_intros <;> first | (apply hK1; clear hK1 K1) | (intros; first | omega | decide | (simp_all <;> omega)) | skip)))
 by_cases hf : faultF t = 0
 ·have hv := vl_of d t hb (part_of_fault hf)
  simp only [if_pos hf]
  refine awp_cond (t := _) rfl (fun h9 => by simp [hf] at h9) (fun _ => ?_)
  (repeat (first | refine gO rfl ?_ | (refine gM zM40 fun K1 hK1 => ?_; simp only [go_sem, ↓reduceIte, reduceCtorEq, nA, nB, nC, nD, nE, nF, hlen, htk, hdk] <;> and_intros <;> first | (apply hK1; clear hK1 K1) | (intros; first | omega | decide | (simp_all <;> omega)) | skip)))
  refine (g_roundP d t h hb hv (il_of d t (part_of_fault hf))).mono ?_
  rintro _ h2 rfl
  refine hK1 _ ?_; clear hK1 K1
  (repeat (first | refine gO rfl ?_ | (refine gM zM40 fun K1 hK1 => ?_; simp only [go_sem, ↓reduceIte, reduceCtorEq, nA, nB, nC, nD, nE, nF, roundC] <;> and_intros <;> first | (apply hK1; clear hK1 K1) | (intros; first | omega | decide | (simp_all <;> omega)) | skip)))
  simp only [Tryz.results70, go_sem, ↓reduceIte, reduceCtorEq, nA, nB, nC, nD, nE, nF]
  exact ⟨_, _, Weak.refl _, Hp.le.refl _, rfl⟩
 ·simp only [if_neg hf]
  refine awp_cond (t := _) rfl (fun _ => ?_) (fun h9 => by simp [hf] at h9)
  (repeat (first | refine gO rfl ?_ | (refine gM zM40 fun K1 hK1 => ?_; simp only [go_sem, ↓reduceIte, reduceCtorEq, nA, nB, nC, nD, nE, nF] <;> and_intros <;> first | (apply hK1; clear hK1 K1) | (intros; first | omega | decide | (simp_all <;> omega)) | skip)))
  simp only [Tryz.results70, go_sem, ↓reduceIte, reduceCtorEq, nA, nB, nC, nD, nE, nF]
  exact ⟨_, _, Weak.tup1 (Weak.agg (.cons (Weak.refl _) (.cons (Weak.nil 2 0 0 ⟨rfl, rfl⟩) (.cons (Weak.refl _) .nil)))) (Weak.refl _), Hp.le.refl _, rfl⟩
theorem rd_bad {d : Nat} {t : LT} (h : rdE d t ≠ 0) : rdS d t = [] ∧ rdN d t = 0 := by
 unfold rdE at h
 unfold rdS rdN
 by_cases hf : faultF t = 0
 ·rw [if_pos hf] at h
  rw [if_pos hf, if_pos hf]
  unfold roundE at h
  unfold roundS
  split at h
  ·rename_i e; rw [if_pos e, e]; exact ⟨rfl, rfl⟩
  ·exact absurd rfl h
 ·rw [if_neg hf, if_neg hf]; exact ⟨rfl, rfl⟩
theorem g_RoundG (d : Nat) (t : LT) (h : Hp) (hb : KC d t) (hd : manyF t ≤ 1000000000000000 ∧ d ≤ 1000) : ACalls Tryz.prog 15 [.agg (encL t)] h (fun r _ => r = .tup [.v (.int .i64 (rdN d t : Nat)), .v (.int .i64 (rdS d t).length), .v (.int .i64 ((rdS d t).map (·.2)).sum), .v (.int .i64 (rdE d t))]) := by
 have hlen := encL_len t
 have htk : List.take 6 (encL t) = encL t := List.take_of_length_le (Nat.le_of_eq hlen)
 have hdk : List.drop 6 (encL t) = [] := List.drop_of_length_le (Nat.le_of_eq hlen)
 have hbad := rd_bad (d := d) (t := t)
 have hck := g_checked d t h hb hd
 unfold rdC at hck
 generalize rdS d t = xs at *
 generalize rdN d t = n at *
 generalize rdE d t = e at *
 generalize hs : (xs.map (·.2)).sum = s at *
 refine gE Tryz.func15 rfl (by kernel_rfl) 21 rfl fun c => ?_
 (repeat (first | refine gO rfl ?_ | ((first | refine gM zM41 ?_ | (with_reducible refine wM ?_ ?_) | ((with_reducible refine xS ?_); refine uD 4 zM41 zP1KE zP1KP 22 rfl (by kernel_rfl) ?_)) <;> ((try with_reducible intro K1 hK1); simp only [go_sem, ↓reduceIte, reduceCtorEq, nA, nB, nC, nD, nE, nF, hlen, htk, hdk] <;> and_intros <;> first | (apply hK1; clear hK1 K1) | (intros; first | omega | decide | (simp_all <;> omega)) | skip))))
 refine hck.mono ?_
 rintro _ h2 rfl
 refine hK1 _ ?_; clear hK1 K1
 (repeat (first | refine gO rfl ?_ | ((first | refine gM zM41 ?_ | (with_reducible refine wM ?_ ?_) | ((with_reducible refine xS ?_); refine uD 4 zM41 zP1KE zP1KP 22 rfl (by kernel_rfl) ?_)) <;> ((try with_reducible intro K1 hK1); simp only [go_sem, ↓reduceIte, reduceCtorEq, nA, nB, nC, nD, nE, nF] <;> and_intros <;> first | (apply hK1; clear hK1 K1) | (intros; first | omega | decide | (simp_all <;> omega)) | skip))))
 by_cases he : e = 0
 ·subst he
  refine awp_cond (t := _) rfl (fun h9 => by simp at h9) (fun _ => ?_)
  (repeat (first | refine gO rfl ?_ | ((first | refine gM zM41 ?_ | (with_reducible refine wM ?_ ?_) | ((with_reducible refine xS ?_); refine uD 4 zM41 zP1KE zP1KP 22 rfl (by kernel_rfl) ?_)) <;> ((try with_reducible intro K1 hK1); simp only [go_sem, ↓reduceIte, reduceCtorEq, nA, nB, nC, nD, nE, nF] <;> and_intros <;> first | (apply hK1; clear hK1 K1) | (intros; first | omega | decide | (simp_all <;> omega)) | skip))))
  simp only [Tryz.results15, go_sem, ↓reduceIte, reduceCtorEq, nA, nB, nC, nD, nE, nF]
  exact ⟨_, _, Weak.refl _, Hp.le.refl _, rfl⟩
 ·obtain ⟨rfl, rfl⟩ := hbad he
  subst hs
  refine awp_cond (t := _) rfl (fun _ => ?_) (fun h9 => by simp [he] at h9)
  (repeat (first | refine gO rfl ?_ | ((first | refine gM zM41 ?_ | (with_reducible refine wM ?_ ?_) | ((with_reducible refine xS ?_); refine uD 4 zM41 zP1KE zP1KP 22 rfl (by kernel_rfl) ?_)) <;> ((try with_reducible intro K1 hK1); simp only [go_sem, ↓reduceIte, reduceCtorEq, nA, nB, nC, nD, nE, nF] <;> and_intros <;> first | (apply hK1; clear hK1 K1) | (intros; first | omega | decide | (simp_all <;> omega)) | skip))))
  simp only [Tryz.results15, go_sem, ↓reduceIte, reduceCtorEq, nA, nB, nC, nD, nE, nF]
  exact ⟨_, _, Weak.refl _, Hp.le.refl _, rfl⟩
theorem encX_weakL : ∀ (d : Nat) (t : LT), LC d t → ∀ (G : Gh) (us : List Value), RepL G (encX t) us → RepL G (encL t) us
 | 0, _, h => h.elim
 | d + 1, .mk kind item long many kids shares, hb => fun G us hu => by
  obtain ⟨b1, b2, b3, b4, b5, b6, b7, b8⟩ := hb
  rw [encX_eq] at hu
  rw [encL_eq]
  refine hu.of6 (fun _ h => h) (fun _ h => h) (fun _ h => h) (fun _ h => h) (fun x h => ?_) (fun x h => ?_)
  ·have hz : ∀ y ∈ kids.map encX, y.length = 6 := fun y hy => by obtain ⟨t, _, rfl⟩ := List.mem_map.1 hy; exact encX_len t
   have hz' : ∀ y ∈ kids.map encL, y.length = 6 := fun y hy => by obtain ⟨t, _, rfl⟩ := List.mem_map.1 hy; exact encL_len t
   have key : Rep G (.row 6 (kids.map encX) none) x := by
    cases kids with
    | nil => exact Weak.nil 6 0 0 ⟨rfl, rfl⟩ G x h
    | cons y ys => exact h
   refine key.rowFlat (GLe.refl G) (by simp) hz' (RepL.flat (by simp) hz fun i a b us2 h2 => ?_)
   simp only [List.length_map] at a
   simp only [List.getElem_map] at h2 ⊢
   exact encX_weakL d _ (b8 _ (List.getElem_mem _)) G us2 h2
  ·cases shares with
   | nil => exact Weak.nil 1 0 0 ⟨rfl, rfl⟩ G x h
   | cons y ys => exact h
theorem encX_weak (d : Nat) (t : LT) (hb : LC d t) : Weak (.agg (encX t)) (.agg (encL t)) := fun G v hr => by
 obtain ⟨vs, rfl, hvs⟩ := RepL.of_agg hr
 exact (encX_weakL d t hb G vs hvs).agg
def wantX (d : Nat) (t : LT) (n : Nat) : AV := if (passesU d t n).2.length ≤ 5000 then .row 2 ((passesU d t n).2.map encStep) none else .row 2 [] none
def wantE (d : Nat) (t : LT) (n : Nat) : Int := if (passesU d t n).2.length ≤ 5000 then 0 else 2
theorem FrP.le {a : AT} {o k : Nat} {h h1 h2 : Hp} (f : FrP a o k h1 h2) (ha : ∀ i ∈ idsT a, h.H i = none) (hc : ∀ c ∈ toksT a, h.T c = none) (ho : h.H o = none) (hk : h.T k = none) (k1 : ∀ i, h.H i ≠ none → h1.H i = h.H i) (k2 : ∀ c, h.T c ≠ none → h1.T c = h.T c) : Hp.le h h2 :=
 ⟨fun i => by
  by_cases e : h.H i = none
  ·exact .inl e
  ·exact .inr ((f.1 i (fun hi => e (ha i hi)) (fun hi => e (by rw [hi]; exact ho))).trans (k1 i e)).symm, fun c => by
  by_cases e : h.T c = none
  ·exact .inl e
  ·exact .inr ((f.2 c (fun hi => e (hc c hi)) (fun hi => e (by rw [hi]; exact hk))).trans (k2 c e)).symm⟩
theorem g_passes (d : Nat) (t : LT) (many : Int) (h : Hp) (hb : KC d t) (hd : manyF t ≤ 1000000000000000 ∧ d ≤ 1000) (hmb : NB many) :
  ACalls Tryz.prog 17 [.agg (encL t), .v (.int .i64 many)] h (fun r _ => r = .tup [if faultF t = 0 ∧ 0 ≤ many ∧ many ≤ 5000 then wantX d t many.toNat else .row 2 [] none, .v (.int .i64 (if faultF t = 0 then if 0 ≤ many ∧ many ≤ 5000 then wantE d t many.toNat else 1 else faultF t))]) := by
 have hlen := encL_len t
 have htk : List.take 6 (encL t) = encL t := List.take_of_length_le (Nat.le_of_eq hlen)
 refine gE Tryz.func17 rfl (by kernel_rfl) 31 rfl fun c => ?_
 (repeat (first | refine gO rfl ?_ | (refine gM zM42 fun K1 hK1 => ?_; simp only [go_sem, ↓reduceIte, reduceCtorEq, nA, nB, nC, nD, nE, nF, hlen, htk] <;> and_intros <;> first | (apply hK1; clear hK1 K1) | (intros; first | omega | decide | (simp_all <;> omega)) | skip)))
 refine (g_check7 d t h hb hd).mono ?_; rintro _ hz ⟨rfl, hh⟩; apply hK1; clear hK1 K1; rw [hh]; clear hh hz
 (repeat (first | refine gO rfl ?_ | (refine gM zM42 fun K1 hK1 => ?_; simp only [go_sem, ↓reduceIte, reduceCtorEq, nA, nB, nC, nD, nE, nF, hlen, htk] <;> and_intros <;> first | (apply hK1; clear hK1 K1) | (intros; first | omega | decide | (simp_all <;> omega)) | skip)))
 refine awp_cond (t := _) rfl (fun h3 => ?_) (fun h3 => ?_)
 ·(repeat (first | refine gO rfl ?_ | (refine gM zM42 fun K1 hK1 => ?_; simp only [go_sem, ↓reduceIte, reduceCtorEq, nA, nB, nC, nD, nE, nF] <;> and_intros <;> first | (apply hK1; clear hK1 K1) | (intros; first | omega | decide | (simp_all <;> omega)) | skip)))
  simp only [Tryz.results17, go_sem, ↓reduceIte, reduceCtorEq, nA, nB, nC, nD, nE, nF]
  have h3' : faultF t ≠ 0 := by simpa using h3
  refine ⟨_, _, Weak.tup1 (Weak.nil 2 0 0 ⟨rfl, rfl⟩) (Weak.refl _), Hp.le.refl _, ?_⟩
  rw [if_neg (fun h => h3' h.1), if_neg h3']
 have h3' : faultF t = 0 := by simpa using h3
 have hv : VL d t := vl_of d t hb (by unfold faultF at h3'; split at h3'; cases h3'; exact h3')
 (repeat (first | refine gO rfl ?_ | (refine gM zM42 fun K1 hK1 => ?_; simp only [go_sem, ↓reduceIte, reduceCtorEq, nA, nB, nC, nD, nE, nF] <;> and_intros <;> first | (apply hK1; clear hK1 K1) | (intros; first | omega | decide | (simp_all <;> omega)) | skip)))
 refine (a_outside many 0 5000 h).mono ?_; rintro _ hz ⟨rfl, hh⟩; apply hK1; clear hK1 K1; rw [hh]; clear hh hz
 (repeat (first | refine gO rfl ?_ | (refine gM zM42 fun K1 hK1 => ?_; simp only [go_sem, ↓reduceIte, reduceCtorEq, nA, nB, nC, nD, nE, nF] <;> and_intros <;> first | (apply hK1; clear hK1 K1) | (intros; first | omega | decide | (simp_all <;> omega)) | skip)))
 refine awp_cond (t := _) rfl (fun h4 => ?_) (fun h4 => ?_)
 ·(repeat (first | refine gO rfl ?_ | (refine gM zM42 fun K1 hK1 => ?_; simp only [go_sem, ↓reduceIte, reduceCtorEq, nA, nB, nC, nD, nE, nF] <;> and_intros <;> first | (apply hK1; clear hK1 K1) | (intros; first | omega | decide | (simp_all <;> omega)) | skip)))
  simp only [Tryz.results17, go_sem, ↓reduceIte, reduceCtorEq, nA, nB, nC, nD, nE, nF]
  have h4' : ¬ (0 ≤ many ∧ many ≤ 5000) := by simp at h4; omega
  refine ⟨_, _, Weak.tup1 (Weak.nil 2 0 0 ⟨rfl, rfl⟩) (Weak.refl _), Hp.le.refl _, ?_⟩
  rw [if_neg (fun h => h4' h.2), if_pos h3', if_neg h4']
 have h4' : 0 ≤ many ∧ many ≤ 5000 := by simp at h4; omega
 (repeat (first | refine gQ rfl ?_ | (refine gM zM42 fun K1 hK1 => ?_; simp only [go_sem, ↓reduceIte, reduceCtorEq, nA, nB, nC, nD, nE, nF, hlen, htk] <;> and_intros <;> first | (apply hK1; clear hK1 K1) | (intros; first | omega | decide | (simp_all <;> omega)) | skip)))
 refine (g_newPart d t h hb).mono ?_
 rintro _ h1 ⟨a, rfl, hR, hS, hn1, hn2, hk1, hk2⟩
 refine hK1 _ ?_; clear hK1 K1
 first | refine gO rfl ?_ | (refine gM zM42 fun K1 hK1 => ?_; simp only [go_sem, ↓reduceIte, reduceCtorEq, nA, nB, nC, nD, nE, nF] <;> and_intros <;> first | (apply hK1; clear hK1 K1) | (intros; first | omega | decide | (simp_all <;> omega)) | skip)
 intro o ho
 refine hK1 _ ?_; clear hK1 K1
 refine vRem_nil ?_
 refine awp_ownPtr (cs := [.v (.slice none 0 0), .v (.int .i64 5000)]) o 0 2 (upd_same _ _ _) rfl (fun k hk => ?_)
 simp only [List.set_cons_zero, upd_upd]
 replace hk : h1.T k = none := hk
 replace ho : h1.H o = none := ho
 have hoa : o ∉ idsT a := fun hx => hR.ne.1 o hx ho
 have hka : k ∉ toksT a := fun hx => hR.ne.2 k hx hk
 (repeat (first | refine gQ rfl ?_ | (refine gM zM42 fun K1 hK1 => ?_; simp only [go_sem, ↓reduceIte, reduceCtorEq, nA, nB, nC, nD, nE, nF] <;> and_intros <;> first | (apply hK1; clear hK1 K1) | (intros; first | omega | decide | (simp_all <;> omega)) | skip)))
 refine awp_seq ?_
 (repeat (first | refine gO rfl ?_ | (refine gM zM42 fun K1 hK1 => ?_; simp only [go_sem, ↓reduceIte, reduceCtorEq, nA, nB, nC, nD, nE, nF] <;> and_intros <;> first | (apply hK1; clear hK1 K1) | (intros; first | omega | decide | (simp_all <;> omega)) | skip)))
 refine awp_loopC (rl false [7, 2, 11, 2, 11]) 0 (fun g s => ∃ (j : Nat) (h2 : Hp) (s' : PS) (out : List (ByteArray × Int)), g + j = many.toNat ∧ RAt XP h2 d t a s' ∧ OutAt h2 o k oEx out ∧ PSB d t s' out.length ∧ out.length ≤ 5001 ∧ ((passesU d t j).2.length ≤ 5000 → s' = (passesU d t j).1 ∧ out = (passesU d t j).2) ∧ (5000 < (passesU d t j).2.length → out.length = 5001) ∧
  s = ⟨((jnk 7 ((.ptr a.id 0) :: (.ptr o 0) :: (jnk 11 ((.v (.int .i64 many)) :: (.v (.int .i64 j)) :: (jnk 11 [])))))), [], h2⟩) many.toNat ⟨0, _, ps0 t, [], by omega, hR.frame (fun x hx => upd_other _ _ (fun e => by subst e; exact hoa hx)) (fun x hx => upd_other _ _ (fun e => by subst e; exact hka hx)), ⟨upd_same _ _ _, upd_same _ _ _⟩, psb0 d t, by simp, fun _ => ⟨rfl, rfl⟩, fun h => by simp [passesU] at h, rfl⟩ ?_
 rintro g _ ⟨j, h2, s', out, hj, hR2, hO2, hB2, hl2, he, ho5, rfl⟩
 (repeat (first | refine gO rfl ?_ | (refine gM zM42 fun K1 hK1 => ?_; simp only [go_sem, ↓reduceIte, reduceCtorEq, nA, nB, nC, nD, nE, nF] <;> and_intros <;> first | (apply hK1; clear hK1 K1) | (intros; first | omega | decide | (simp_all <;> omega)) | skip)))
 refine awp_cond (t := _) rfl (fun h5 => ?_) (fun h5 => ?_)
 ·simp only [decide_eq_true_eq] at h5
  (repeat (first | refine gO rfl ?_ | (refine gM zM42 fun K1 hK1 => ?_; simp only [go_sem, ↓reduceIte, reduceCtorEq, nA, nB, nC, nD, nE, nF] <;> and_intros <;> first | (apply hK1; clear hK1 K1) | (intros; first | omega | decide | (simp_all <;> omega)) | skip)))
  refine (g_passP d t a s' h2 o k out hv hR2 hS hB2 hO2 hoa hl2).mono ?_
  rintro r h6 ⟨rfl, s2, out2, hR6, hO6, _, q1, q2, q3⟩
  have e5 : (passesU d t (j + 1)).2.length = (passesU d t j).2.length + (passU d t (passesU d t j).1).2.length := by simp only [passesU, List.length_append]
  refine hK1 _ ?_; clear hK1 K1
  (repeat (first | refine gO rfl ?_ | (refine gM zM42 fun K1 hK1 => ?_; simp only [go_sem, ↓reduceIte, reduceCtorEq, nA, nB, nC, nD, nE, nF] <;> and_intros <;> first | (apply hK1; clear hK1 K1) | (intros; first | omega | decide | (simp_all <;> omega)) | skip)))
  have hpo := passU_ok d t s' out.length hv hR2.fits (by omega) hB2
  by_cases hf : 5000 < out.length
  ·obtain ⟨rfl, rfl⟩ := q1 hf
   refine ⟨g - 1, by omega, j + 1, h6, _, _, by omega, hR6, hO6, hB2, hl2, fun h => ?_, fun h => by omega, rfl⟩
   have := he (by omega)
   rw [this.2] at hf
   omega
  ·have hex : (passesU d t j).2.length ≤ 5000 := by
    by_cases hx : (passesU d t j).2.length ≤ 5000
    ·exact hx
    ·have := ho5 (by omega); omega
   obtain ⟨rfl, rfl⟩ := he hex
   by_cases hle : (passesU d t j).2.length + (passU d t (passesU d t j).1).2.length ≤ 5000
   ·obtain ⟨rfl, rfl⟩ := q2 hex hle
    exact ⟨g - 1, by omega, j + 1, h6, _, _, by omega, hR6, hO6, by rw [List.length_append]; exact_mod_cast hpo.2.1, by rw [List.length_append]; omega, fun _ => ⟨rfl, rfl⟩, fun h => by omega, rfl⟩
   ·obtain ⟨p1, p2⟩ := q3 hex (by omega)
    exact ⟨g - 1, by omega, j + 1, h6, s2, out2, by omega, hR6, hO6, by rw [p1]; exact p2, by omega, fun h => by omega, fun _ => p1, rfl⟩
 ·simp only [decide_eq_false_iff_not] at h5
  have hjm : j = many.toNat := by omega
  subst hjm
  (repeat (first | refine gO rfl ?_ | (refine gM zM42 fun K1 hK1 => ?_; simp only [go_sem, ↓reduceIte, reduceCtorEq, nA, nB, nC, nD, nE, nF] <;> and_intros <;> first | (apply hK1; clear hK1 K1) | (intros; first | omega | decide | (simp_all <;> omega)) | skip)))
  refine (g_full28 o k h2 out hO2).mono ?_; rintro _ hz ⟨rfl, hh⟩; apply hK1; clear hK1 K1; rw [hh]; clear hh hz
  (repeat (first | refine gO rfl ?_ | (refine gM zM42 fun K1 hK1 => ?_; simp only [go_sem, ↓reduceIte, reduceCtorEq, nA, nB, nC, nD, nE, nF] <;> and_intros <;> first | (apply hK1; clear hK1 K1) | (intros; first | omega | decide | (simp_all <;> omega)) | skip)))
  refine awp_cond (t := _) rfl (fun h6 => ?_) (fun h6 => ?_)
  ·simp only [decide_eq_true_eq] at h6
   (repeat (first | refine gO rfl ?_ | (refine gM zM42 fun K1 hK1 => ?_; simp only [go_sem, ↓reduceIte, reduceCtorEq, nA, nB, nC, nD, nE, nF] <;> and_intros <;> first | (apply hK1; clear hK1 K1) | (intros; first | omega | decide | (simp_all <;> omega)) | skip)))
   simp only [Tryz.results17, go_sem, ↓reduceIte, reduceCtorEq, nA, nB, nC, nD, nE, nF]
   refine ⟨_, _, Weak.tup1 (Weak.nil 2 0 0 ⟨rfl, rfl⟩) (Weak.refl _), Hp.le.refl _, ?_⟩
   have hbig : ¬ (passesU d t many.toNat).2.length ≤ 5000 := fun hx => by have := (he hx).2; rw [this] at h6; omega
   rw [if_pos ⟨h3', h4'⟩, if_pos h3', if_pos h4', wantX, wantE, if_neg hbig, if_neg hbig]
  ·simp only [decide_eq_false_iff_not] at h6
   have hO20 : h2.H o = some (.cells [.row 2 (out.map encStep) (some k), .v (.int .i64 5000)]) := hO2.1
   (repeat (first | refine gO rfl ?_ | (refine gM zM42 fun K1 hK1 => ?_; simp only [go_sem, ↓reduceIte, reduceCtorEq, nA, nB, nC, nD, nE, nF, hO20] <;> and_intros <;> first | (apply hK1; clear hK1 K1) | (intros; first | omega | decide | (simp_all <;> omega)) | skip)))
   simp only [Tryz.results17, go_sem, ↓reduceIte, reduceCtorEq, nA, nB, nC, nD, nE, nF]
   refine ⟨_, _, Weak.tup1 (Weak.row _ _ _) (Weak.refl _), Hp.le.refl _, ?_⟩
   have hsm : (passesU d t many.toNat).2.length ≤ 5000 := by
    by_cases hx : (passesU d t many.toNat).2.length ≤ 5000
    ·exact hx
    ·have := ho5 (by omega); omega
   rw [if_pos ⟨h3', h4'⟩, if_pos h3', if_pos h4', wantX, wantE, if_pos hsm, if_pos hsm, (he hsm).2]
open Go.RowKit
def EqSRel (n : Nat) (w : World) (g : Nat) (i : Value) (wr : World) : Prop := ∃ k : Nat, k + g = n ∧ i = .int .i64 k ∧ ∃ q, wr = w.drewN q
set_option maxRecDepth 100000 in
set_option maxHeartbeats 1000000 in
theorem equalS_same (g o g' o' n c c' : Nat) (s : Nat → ByteArray) (v : Nat → Int) (w : World) (hn : n ≤ 1000000000)
    (h1 : ∀ k, k < n → w.cell? ⟨g, o + k * 2, none⟩ = some (.string (s k)) ∧ w.cell? ⟨g, o + k * 2 + 1, none⟩ = some (.int .i64 (v k))) (h2 : ∀ k, k < n → w.cell? ⟨g', o' + k * 2, none⟩ = some (.string (s k)) ∧ w.cell? ⟨g', o' + k * 2 + 1, none⟩ = some (.int .i64 (v k))) :
    Calls Tryz.prog 18 #[.slice (some ⟨g, o, none⟩) n c, .slice (some ⟨g', o', none⟩) n c'] w fun e w' => e = .returned (.bool true) ∧ ∃ q, w' = w.drewN q := by
  have H1 := Lib.hid h1
  have H2 := Lib.hid h2
  clear h1 h2
  go_enter Tryz.func18, Tryz.ntmps18
  go_wp2_with fail
  go_loopg [13, 5] n (fun gg i _ wr => EqSRel n w gg i wr)
  case atStart => exact ⟨0, by omega, rfl, 0, rfl⟩
  case round =>
    obtain ⟨k, hk, rfl, q, rfl⟩ := hrel
    by_cases hg : gk = 0
    · obtain rfl : k = n := by omega
      clear hk hg
      go_wp2_with fail
      go_ret
      exact ⟨rfl, _, rfl⟩
    · have hlt : k < n := by omega
      obtain ⟨c0, c1⟩ := H1.out k hlt
      obtain ⟨d0, d1⟩ := H2.out k hlt
      generalize s k = s1 at *
      generalize v k = v1 at *
      have HK := Lib.hid hk
      have hgk : gk ≠ 0 := hg
      clear hk hg
      have hlt' : (k : Int) < (n : Int) := by omega
      go_wp2_with fail
      go_quiet (fail)
      go_wp2_with fail
      go_roundg (gk - 1)
      case measure => omega
      case rel => exact ⟨k + 1, by have := HK.out; omega, by go_num, _, rfl⟩
set_option maxRecDepth 100000 in
theorem equalS_nil (a a' : Option Addr) (c c' : Nat) (w : World) :
    Calls Tryz.prog 18 #[.slice a 0 c, .slice a' 0 c'] w fun e w' => e = .returned (.bool true) ∧ ∃ q, w' = w.drewN q := by
  go_enter Tryz.func18, Tryz.ntmps18
  go_wp2_with fail
  go_loopg [13, 5] 0 (fun gg i _ wr => EqSRel 0 w gg i wr)
  case atStart => exact ⟨0, by omega, rfl, 0, rfl⟩
  case round =>
    obtain ⟨k, hk, rfl, q, rfl⟩ := hrel
    obtain rfl : k = 0 := by omega
    go_wp2_with fail
    go_ret
    exact ⟨rfl, _, rfl⟩
theorem rep_v_inv {G : Gh} {x y : Value} (h : Rep G (.v x) y) : y = x := by cases h; rfl
theorem rep_row2 {G : Gh} {xs : List (ByteArray × Int)} {v : Value} (h : Rep G (.row 2 (xs.map encStep) none) v) : (xs = [] ∧ ∃ a c, v = .slice a 0 c) ∨ ∃ g o c, v = .slice (some ⟨g, o, none⟩) xs.length c ∧
  ∀ k, k < xs.length → G.val g (o + k * 2) = some (.string (xs.getD k default).1) ∧ G.val g (o + k * 2 + 1) = some (.int .i64 (xs.getD k default).2) := by
 generalize hx : xs.map encStep = ys at h
 cases h with
 | nil => exact .inl ⟨by simpa using hx, none, 0, rfl⟩
 | nilA _ a => exact .inl ⟨by simpa using hx, a, 0, rfl⟩
 | row _ _ _ g o n c u hn hc hz hu hr h1 ht =>
  have hnx : n = xs.length := by rw [← hn, ← hx, List.length_map]
  subst hnx
  refine .inr ⟨g, o, c, rfl, fun k hk => ?_⟩
  have hfl := flatten_len hz
  have hzk : ys[k]? = some (encStep (xs.getD k default)) := by rw [← hx, List.getElem?_map, List.getD_eq_getElem?_getD, List.getElem?_eq_getElem hk]; rfl
  have hky : k < ys.length := by omega
  have hkey : ∀ j, j < 2 → ∀ a, (encStep (xs.getD k default))[j]? = some (.v a) → G.val g (o + (k * 2 + j)) = some a := fun j hj a ha => by
   have hlt : k * 2 + j < ys.flatten.length := by rw [hfl]; omega
   have e1 := flatten_at hz hky hj
   rw [show ys[k] = encStep (xs.getD k default) by rw [List.getElem?_eq_getElem hky] at hzk; simpa using hzk, ha, List.getElem?_eq_getElem hlt] at e1
   have e2 := hr (k * 2 + j) hlt
   rw [Option.some.inj e1] at e2
   rw [hu (k * 2 + j) (by omega), rep_v_inv e2]
  exact ⟨hkey 0 (by omega) _ rfl, by rw [Nat.add_assoc]; exact hkey 1 (by omega) _ rfl⟩
theorem g_equal12 (xs : List (ByteArray × Int)) (h : Hp) (hl : xs.length ≤ 1000000000) : ACalls Tryz.prog 18 [.row 2 (xs.map encStep) none, .row 2 (xs.map encStep) none] h (fun r h' => r = .v (.bool true) ∧ h' = h) := by
 refine ⟨by kernel_rfl, fun G w vs hs hv ha => ?_⟩
 have h0 := ha 0 (by simp)
 have h1 := ha 1 (by simp)
 have hvs : vs = #[vs.getD 0 undef, vs.getD 1 undef] := by
  have hv2 : vs.size = 2 := hv
  apply Array.ext (by simpa using hv2)
  intro j hj hj'
  simp only [List.size_toArray, List.length_cons, List.length_nil] at hj'
  match j, hj' with
  | 0, _ => simp [Array.getD, hv2]
  | 1, _ => simp [Array.getD, hv2]
  | j + 2, h => omega
 rw [hvs]
 generalize vs.getD 0 undef = v0 at *
 generalize vs.getD 1 undef = v1 at *
 have fin : ∀ e w', (e = .returned (.bool true) ∧ ∃ q, w' = w.drewN q) → ∃ r h' G' v, e = Ending.returned v ∧ (r = AV.v (.bool true) ∧ h' = h) ∧ GLe G G' ∧ Fr G h w G' h' w' ∧ HSim G' h' w' ∧ Rep G' r v := by
  rintro _ _ ⟨rfl, q, rfl⟩
  exact ⟨_, h, G, _, rfl, ⟨rfl, rfl⟩, GLe.refl _, Fr.below (Fr.refl _ _ _) (fun _ _ => rfl) rfl rfl rfl (Nat.le_refl _), hs.below (fun _ _ => rfl), .v _ rfl⟩
 rcases rep_row2 h0 with ⟨hx, a, c, rfl⟩ | ⟨g, o, c, rfl, hc⟩
 ·rcases rep_row2 h1 with ⟨_, a', c', rfl⟩ | ⟨g', o', c', rfl, hc'⟩
  ·exact (equalS_nil a a' c c' w).mono fin
  ·subst hx
   exact (equalS_nil a (some ⟨g', o', none⟩) c c' w).mono fin
 ·rcases rep_row2 h1 with ⟨hx, a', c', rfl⟩ | ⟨g', o', c', rfl, hc'⟩
  ·subst hx
   exact (equalS_nil (some ⟨g, o, none⟩) a' c c' w).mono fin
  ·exact (equalS_same g o g' o' xs.length c c' (fun k => (xs.getD k default).1) (fun k => (xs.getD k default).2) w hl (fun k hk => ⟨hs.cell _ _ _ (hc k hk).1, hs.cell _ _ _ (hc k hk).2⟩) (fun k hk => ⟨hs.cell _ _ _ (hc' k hk).1, hs.cell _ _ _ (hc' k hk).2⟩)).mono fin
def preL (xs : List (ByteArray × Int)) (i : Nat) : Int := ((xs.map (·.2)).take i).sum
def sumL (xs : List (ByteArray × Int)) : Int := (xs.map (·.2)).sum
def Pos (xs : List (ByteArray × Int)) : Prop := ∀ x ∈ xs, 1 ≤ x.2 ∧ x.2 ≤ 3600000
def posF : List (ByteArray × Int) → Int → Nat
 | [], _ => 0
 | x :: xs, r => if r < x.2 then 0 else posF xs (r - x.2) + 1
theorem preL_zero (xs : List (ByteArray × Int)) : preL xs 0 = 0 := rfl
theorem preL_cons (x : ByteArray × Int) (xs : List (ByteArray × Int)) (i : Nat) : preL (x :: xs) (i + 1) = x.2 + preL xs i := by simp [preL]
theorem preL_all (xs : List (ByteArray × Int)) : preL xs xs.length = sumL xs := by
 rw [preL, List.take_of_length_le (by simp)]; rfl
theorem preL_succ : ∀ (xs : List (ByteArray × Int)) (i : Nat), i < xs.length → preL xs (i + 1) = preL xs i + (xs.getD i default).2
 | [], _, h => by simp at h
 | x :: xs, 0, _ => by simp [preL]
 | x :: xs, i + 1, h => by rw [preL_cons, preL_cons, preL_succ xs i (by simpa using h)]; simp; omega
theorem pos_at {xs : List (ByteArray × Int)} (h : Pos xs) {i : Nat} (hi : i < xs.length) : 1 ≤ (xs.getD i default).2 ∧ (xs.getD i default).2 ≤ 3600000 := by
 have : xs.getD i default ∈ xs := by rw [List.getD_eq_getElem?_getD, List.getElem?_eq_getElem hi]; exact List.getElem_mem hi
 exact h _ this
theorem preL_nonneg {xs : List (ByteArray × Int)} (h : Pos xs) : ∀ i, 0 ≤ preL xs i := by
 induction xs with
 | nil => intro i; simp [preL]
 | cons x xs ih =>
  intro i
  cases i with
  | zero => simp [preL]
  | succ i =>
   rw [preL_cons]
   have := h x (by simp); have := ih (fun y hy => h y (by simp [hy])) i; omega
theorem preL_bd {xs : List (ByteArray × Int)} (h : Pos xs) (i : Nat) (hi : i ≤ xs.length) : 0 ≤ preL xs i ∧ preL xs i ≤ i * 3600000 := by
 induction i with
 | zero => simp [preL]
 | succ i ih =>
  have := ih (by omega)
  have := pos_at h (i := i) (by omega)
  rw [preL_succ xs i (by omega)]
  omega
theorem preL_mono {xs : List (ByteArray × Int)} (h : Pos xs) {i j : Nat} (hij : i ≤ j) (hj : j ≤ xs.length) : preL xs i ≤ preL xs j := by
 induction j with
 | zero =>
  obtain rfl : i = 0 := by omega
  exact Int.le_refl _
 | succ j ih =>
  by_cases e : i = j + 1
  ·rw [e]; exact Int.le_refl _
  ·have := ih (by omega) (by omega)
   have := pos_at h (i := j) (by omega)
   rw [preL_succ xs j (by omega)]; omega
theorem sumL_bd {xs : List (ByteArray × Int)} (h : Pos xs) : 0 ≤ sumL xs ∧ sumL xs ≤ xs.length * 3600000 := by
 rw [← preL_all]; exact preL_bd h _ (Nat.le_refl _)
theorem sumL_pos {xs : List (ByteArray × Int)} (h : Pos xs) (hn : xs ≠ []) : 1 ≤ sumL xs := by
 have hl := List.length_pos_iff.2 hn
 have h1 := preL_mono h (i := 1) (j := xs.length) (by omega) (Nat.le_refl _)
 rw [preL_all, preL_succ xs 0 hl, preL_zero] at h1
 have := pos_at h hl
 omega
theorem posF_of {xs : List (ByteArray × Int)} (h : Pos xs) : ∀ {i : Nat} {r : Int}, i < xs.length → preL xs i ≤ r → r < preL xs (i + 1) → posF xs r = i := by
 induction xs with
 | nil => intro i r hi; simp at hi
 | cons x xs ih =>
  intro i r hi h1 h2
  have hp : Pos xs := fun y hy => h y (by simp [hy])
  rw [preL_cons] at h2
  rw [posF]
  cases i with
  | zero => rw [preL_zero] at h2; rw [if_pos (by omega)]
  | succ i =>
   rw [preL_cons] at h1
   have := preL_nonneg hp i
   rw [if_neg (by omega), ih hp (i := i) (by simpa using hi) (by omega) (by omega)]
theorem posF_ex {xs : List (ByteArray × Int)} (h : Pos xs) : ∀ {r : Int}, 0 ≤ r → r < sumL xs → posF xs r < xs.length ∧ preL xs (posF xs r) ≤ r ∧ r < preL xs (posF xs r + 1) := by
 induction xs with
 | nil => intro r h0 h1; simp [sumL] at h1; omega
 | cons x xs ih =>
  intro r h0 h1
  have hp : Pos xs := fun y hy => h y (by simp [hy])
  rw [posF]
  split
  ·rename_i hlt
   refine ⟨by simp, by rw [preL_zero]; exact h0, by rw [preL_cons, preL_zero]; omega⟩
  ·rename_i hge
   obtain ⟨q1, q2, q3⟩ := ih hp (r := r - x.2) (by omega) (by simp only [sumL, List.map_cons, List.sum_cons] at h1 ⊢; omega)
   refine ⟨by simpa using q1, by rw [preL_cons]; omega, by rw [preL_cons]; omega⟩
open Go Go.Lib
def cntF (xs : List (ByteArray × Int)) (k : ByteArray) : Nat := (xs.filter fun x => x.1 == k).length
def longF (xs : List (ByteArray × Int)) (k : ByteArray) : Int := ((xs.filter fun x => x.1 == k).map (·.2)).sum
theorem take_at (xs : List (ByteArray × Int)) (j : Nat) (h : j < xs.length) : xs.take (j + 1) = xs.take j ++ [xs.getD j default] := by
 rw [List.take_add_one, List.getElem?_eq_getElem h, List.getD_eq_getElem?_getD, List.getElem?_eq_getElem h]; rfl
theorem cntF_no {xs : List (ByteArray × Int)} {j : Nat} (h : j < xs.length) {k : ByteArray} (e : (xs.getD j default).1 ≠ k) : cntF (xs.take (j + 1)) k = cntF (xs.take j) k := by
 have hb : ¬ ((xs.getD j default).1 == k) = true := by rw [ba_beq]; simp only [decide_eq_true_eq]; exact e
 rw [take_at xs j h, cntF, cntF, List.filter_append, List.length_append, List.filter_cons_of_neg (p := fun x : ByteArray × Int => x.1 == k) hb]; simp
theorem longF_no {xs : List (ByteArray × Int)} {j : Nat} (h : j < xs.length) {k : ByteArray} (e : (xs.getD j default).1 ≠ k) : longF (xs.take (j + 1)) k = longF (xs.take j) k := by
 have hb : ¬ ((xs.getD j default).1 == k) = true := by rw [ba_beq]; simp only [decide_eq_true_eq]; exact e
 rw [take_at xs j h, longF, longF, List.filter_append, List.map_append, List.sum_append, List.filter_cons_of_neg (p := fun x : ByteArray × Int => x.1 == k) hb]; simp
def ptrsL (f : ByteArray → Nat) (ks : List ByteArray) : List (ByteArray × AV) := ks.map fun k => (k, .ptr (f k) 0)
def tCell (xs : List (ByteArray × Int)) (k : ByteArray) : List AV := [.v (.int .i64 (cntF xs k)), .v (.int .i64 (longF xs k))]
structure TalI (h : Hp) (m : Nat) (ys : List (ByteArray × Int)) (S : List ByteArray) (ks : List ByteArray) (f : ByteArray → Nat) : Prop where
 nd : ks.Nodup
 mem : ∀ k, k ∈ ks ↔ k ∈ S
 map : h.H m = some (.map (ptrsL f ks))
 cell : ∀ k ∈ ks, h.H (f k) = some (.cells (tCell ys k))
 ne : ∀ k ∈ ks, f k ≠ m
 inj : ∀ k ∈ ks, ∀ q ∈ ks, f k = f q → k = q
theorem TalI.nil {h : Hp} {m : Nat} (hm : h.H m = some (.map [])) : TalI h m [] [] [] (fun _ => 0) :=
 ⟨by simp, by simp, hm, by simp, by simp, by simp⟩
theorem TalI.same {h : Hp} {m : Nat} {ys : List (ByteArray × Int)} {S ks : List ByteArray} {f : ByteArray → Nat} (t : TalI h m ys S ks f) {q : ByteArray} (hq : q ∈ ks) : TalI h m ys (S ++ [q]) ks f :=
 ⟨t.nd, fun k => by
  rw [List.mem_append, ← t.mem k, List.mem_singleton]
  exact ⟨.inl, fun h => h.elim id fun e => by rw [e]; exact hq⟩, t.map, t.cell, t.ne, t.inj⟩
theorem TalI.more {h h' : Hp} {m j : Nat} {xs : List (ByteArray × Int)} {S ks : List ByteArray} {f : ByteArray → Nat} (t : TalI h m (xs.take j) S ks f) (hj : j < xs.length) {q : ByteArray} (e : (xs.getD j default).1 = q) (hk : q ∈ ks)
  (e1 : h'.H (f q) = some (.cells (tCell (xs.take (j + 1)) q))) (e2 : ∀ i, i ≠ f q → h'.H i = h.H i) : TalI h' m (xs.take (j + 1)) S ks f where
 nd := t.nd
 mem := t.mem
 map := by rw [e2 m (Ne.symm (t.ne _ hk))]; exact t.map
 cell k hk' := by
  by_cases h : k = q
  ·rw [h]; exact e1
  ·rw [e2 _ (fun e' => h (t.inj _ hk' _ hk e')), t.cell k hk', tCell, tCell, cntF_no hj (by rw [e]; exact Ne.symm h), longF_no hj (by rw [e]; exact Ne.symm h)]
 ne := t.ne
 inj := t.inj
theorem TalI.born {h h' : Hp} {m i : Nat} {ys : List (ByteArray × Int)} {S ks : List ByteArray} {f : ByteArray → Nat} (t : TalI h m ys S ks f) {q : ByteArray} (hk : q ∉ ks) (hi : h.H i = none)
  (e0 : h'.H m = some (.map (ptrsL f ks ++ [(q, .ptr i 0)]))) (e1 : h'.H i = some (.cells (tCell ys q))) (e2 : ∀ n, n ≠ i → n ≠ m → h'.H n = h.H n) :
  TalI h' m ys (S ++ [q]) (ks ++ [q]) (fun k => if k = q then i else f k) := by
 have hfi : ∀ k ∈ ks, f k ≠ i := fun k hk' e => by have := t.cell k hk'; rw [e, hi] at this; cases this
 have him : i ≠ m := fun e => by rw [e, t.map] at hi; cases hi
 have hne : ∀ k ∈ ks, k ≠ q := fun k hk' e => hk (e ▸ hk')
 have hpl : ptrsL (fun k => if k = q then i else f k) ks = ptrsL f ks := List.map_congr_left fun k hk' => by simp only [if_neg (hne k hk')]
 refine ⟨?_, fun k => ?_, ?_, fun k hk' => ?_, fun k hk' => ?_, fun k hk' p hp e => ?_⟩
 ·rw [List.nodup_append]
  exact ⟨t.nd, by simp, fun a ha b hb e => by simp only [List.mem_singleton] at hb; exact hk (by rw [← hb, ← e]; exact ha)⟩
 ·rw [List.mem_append, List.mem_append, ← t.mem k]
 ·rw [e0]
  have : ptrsL (fun k => if k = q then i else f k) (ks ++ [q]) = ptrsL f ks ++ [(q, .ptr i 0)] := by
   rw [← hpl]; simp [ptrsL]
  rw [this]
 ·rcases List.mem_append.1 hk' with h1 | h1
  ·have hn := hne k h1
   simp only [if_neg hn]
   rw [e2 _ (hfi k h1) (t.ne k h1), t.cell k h1]
  ·simp only [List.mem_singleton] at h1
   subst h1; simp only [if_true]; exact e1
 ·rcases List.mem_append.1 hk' with h1 | h1
  ·simp only [if_neg (hne k h1)]; exact t.ne k h1
  ·simp only [List.mem_singleton] at h1; subst h1; simp only [if_true]; exact him
 ·rcases List.mem_append.1 hk' with h1 | h1 <;> rcases List.mem_append.1 hp with h2 | h2
  ·simp only [if_neg (hne k h1), if_neg (hne p h2)] at e; exact t.inj k h1 p h2 e
  ·simp only [List.mem_singleton] at h2
   simp only [if_neg (hne k h1), h2, if_true] at e; exact absurd e (hfi k h1)
  ·simp only [List.mem_singleton] at h1
   simp only [if_neg (hne p h2), h1, if_true] at e; exact absurd e.symm (hfi p h2)
  ·simp only [List.mem_singleton] at h1 h2; rw [h1, h2]
def momB (n : Int) : Bool := decide (0 ≤ n) && decide (n < 345686400000)
def timeE (a b : Int) : Int := if (!momB a || !momB b) = true then 1 else if decide (b < a) = true then 7 else 0
theorem timeE_zero {a b : Int} (h : timeE a b = 0) : 0 ≤ a ∧ a ≤ b ∧ b < 345686400000 := by
 unfold timeE at h
 split at h
 ·cases h
 ·rename_i h1
  split at h
  ·cases h
  ·rename_i h2
   simp only [momB, Bool.or_eq_true, Bool.not_eq_true', Bool.and_eq_false_iff, decide_eq_false_iff_not, not_or] at h1
   simp only [decide_eq_true_eq] at h2
   omega
theorem rest_bd {xs : List (ByteArray × Int)} (hp : Pos xs) (hn : xs ≠ []) {a b : Int} (h : a ≤ b) : 0 ≤ (b - a).tmod (sumL xs) ∧ (b - a).tmod (sumL xs) < sumL xs := by
 have hs := sumL_pos hp hn
 exact ⟨Int.tmod_nonneg _ (by omega), Int.tmod_lt_of_pos _ (by omega)⟩
def IZ : Nat → LT → Prop
 | 0, _ => True
 | d + 1, .mk _ item _ _ kids _ => item.size ≤ 2 ∧ ∀ k ∈ kids, IZ d k
theorem IZ.dflt : ∀ d : Nat, IZ d default
 | 0 => trivial
 | d + 1 => show IZ (d + 1) (.mk 0 default 0 0 [] []) from ⟨Nat.zero_le _, fun k hk => (by cases hk)⟩
theorem iz_of : ∀ (d : Nat) (t : LT), KC d t → IZ d t
 | 0, _, _ => trivial
 | d + 1, .mk kind item long many kids shares, h => ⟨h.2.1, fun k hk => iz_of d k (h.2.2.2.2.2.2.2 k hk)⟩
theorem pass_item : ∀ (d : Nat) (t : LT) (s : PS), IZ d t → ∀ x ∈ (passU d t s).2, x.1.size ≤ 2
 | 0, _, _, _ => by simp [passU]
 | d + 1, .mk kind item long many kids shares, .mk p cs ks, hi => by
  rw [passU_succ]
  have hk : ∀ i, IZ d (kids.getD i default) := fun i => by
   by_cases h : i < kids.length
   ·exact hi.2 _ (getD_mem' kids i default h)
   ·rw [List.getD_eq_getElem?_getD, List.getElem?_eq_none (by omega)]; exact IZ.dflt d
  have key : ∀ (L : List Nat) (a : (List Int × List PS) × List (ByteArray × Int)), (∀ x ∈ a.2, x.1.size ≤ 2) → ∀ x ∈ (L.foldl (stepU (passU d) kids) a).2, x.1.size ≤ 2 := fun L => by
   induction L with
   | nil => intro a h; exact h
   | cons i L ih =>
    intro a h
    refine ih _ (fun x hx => ?_)
    rcases List.mem_append.1 hx with h9 | h9
    ·exact h x h9
    ·exact pass_item d _ _ (hk i) x h9
  refine key _ _ ?_
  split
  ·intro x hx
   rw [List.mem_singleton.1 hx]
   exact hi.1
  ·simp
theorem passes_item {d : Nat} {t : LT} (h : IZ d t) : ∀ n, ∀ x ∈ (passesU d t n).2, x.1.size ≤ 2
 | 0 => by simp [passesU]
 | n + 1 => fun x hx => by
  rcases List.mem_append.1 hx with h9 | h9
  ·exact passes_item h n x h9
  ·exact pass_item d t _ h x h9
structure GoodS (xs : List (ByteArray × Int)) : Prop where
 ne : xs ≠ []
 len : xs.length ≤ 5000
 pos : Pos xs
 item : ∀ x ∈ xs, x.1.size ≤ 2
theorem rd_good {d : Nat} {t : LT} (hb : KC d t) (h : rdE d t = 0) : GoodS (rdS d t) := by
 unfold rdE at h
 unfold rdS
 by_cases hf : faultF t = 0
 ·rw [if_pos hf] at h ⊢
  have hp := part_of_fault hf
  have hv := vl_of d t hb hp
  refine ⟨fun e => ?_, roundS_len d t, roundS_long (il_of d t hp), fun x hx => ?_⟩
  ·have := roundS_pos hv h
   rw [e] at this; simp at this
  ·unfold roundS at hx
   split at hx
   ·cases hx
   ·exact passes_item (iz_of d t hb) _ x hx
 ·rw [if_neg hf] at h; exact absurd h hf
theorem g_isMoment (n : Int) (h : Hp) : ACalls Tryz.prog 102 [.v (.int .i64 n)] h (fun r h' => r = .v (.bool (momB n)) ∧ h' = h) := by
 unfold momB
 refine gE Tryz.func102 rfl (by kernel_rfl) 8 rfl fun c => ?_
 (repeat (first | refine gO rfl ?_ | (refine gR fun K1 hK1 => ?_; simp only [go_sem, ↓reduceIte, reduceCtorEq, nA, nB, nC, nD, nE, nF] <;> and_intros <;> first | (apply hK1; clear hK1 K1) | (intros; first | omega | decide | (simp_all <;> omega)) | skip)))
 simp only [Tryz.results102, go_sem, ↓reduceIte, reduceCtorEq, nA, nB, nC, nD, nE, nF]
 refine ⟨_, _, Weak.refl _, Hp.le.refl _, ?_, rfl⟩
 cases decide (0 ≤ n) <;> rfl
theorem g_timesFault (a b : Int) (h : Hp) : ACalls Tryz.prog 78 [.v (.int .i64 a), .v (.int .i64 b)] h (fun r h' => r = .v (.int .i64 (timeE a b)) ∧ h' = h) := by
 have h1 := fun h => g_isMoment a h
 have h2 := fun h => g_isMoment b h
 unfold timeE
 generalize momB a = p at *
 generalize momB b = q at *
 refine gE Tryz.func78 rfl (by kernel_rfl) 14 rfl fun c => ?_
 (repeat (first | refine gO rfl ?_ | (refine gR fun K1 hK1 => ?_; simp only [go_sem, ↓reduceIte, reduceCtorEq, nA, nB, nC, nD, nE, nF] <;> and_intros <;> first | (apply hK1; clear hK1 K1) | (intros; first | omega | decide | (simp_all <;> omega)) | skip)))
 refine (h1 _).mono ?_; rintro _ hz ⟨rfl, hh⟩; apply hK1; clear hK1 K1; rw [hh]; clear hh hz
 cases p with
 | false =>
  (repeat (first | refine gO rfl ?_ | (refine gR fun K1 hK1 => ?_; simp only [go_sem, ↓reduceIte, reduceCtorEq, nA, nB, nC, nD, nE, nF] <;> and_intros <;> first | (apply hK1; clear hK1 K1) | (intros; first | omega | decide | (simp_all <;> omega)) | skip)))
  refine ⟨.v (.bool true), rfl, hK1 _ ?_⟩; clear hK1 K1
  (repeat (first | refine gO rfl ?_ | (refine gR fun K1 hK1 => ?_; simp only [go_sem, ↓reduceIte, reduceCtorEq, nA, nB, nC, nD, nE, nF] <;> and_intros <;> first | (apply hK1; clear hK1 K1) | (intros; first | omega | decide | (simp_all <;> omega)) | skip)))
  refine awp_cond (t := _) rfl (fun _ => ?_) (fun h9 => by cases h9)
  (repeat (first | refine gO rfl ?_ | (refine gR fun K1 hK1 => ?_; simp only [go_sem, ↓reduceIte, reduceCtorEq, nA, nB, nC, nD, nE, nF] <;> and_intros <;> first | (apply hK1; clear hK1 K1) | (intros; first | omega | decide | (simp_all <;> omega)) | skip)))
  simp only [Tryz.results78, go_sem, ↓reduceIte, reduceCtorEq, nA, nB, nC, nD, nE, nF]
  exact ⟨_, _, Weak.refl _, Hp.le.refl _, rfl, rfl⟩
 | true =>
  (repeat (first | refine gO rfl ?_ | (refine gR fun K1 hK1 => ?_; simp only [go_sem, ↓reduceIte, reduceCtorEq, nA, nB, nC, nD, nE, nF] <;> and_intros <;> first | (apply hK1; clear hK1 K1) | (intros; first | omega | decide | (simp_all <;> omega)) | skip)))
  refine (h2 _).mono ?_; rintro _ hz ⟨rfl, hh⟩; refine ⟨rfl, hK1 _ ?_⟩; clear hK1 K1; rw [hh]; clear hh hz
  (repeat (first | refine gO rfl ?_ | (refine gR fun K1 hK1 => ?_; simp only [go_sem, ↓reduceIte, reduceCtorEq, nA, nB, nC, nD, nE, nF] <;> and_intros <;> first | (apply hK1; clear hK1 K1) | (intros; first | omega | decide | (simp_all <;> omega)) | skip)))
  cases q with
  | false =>
   refine awp_cond (t := _) rfl (fun _ => ?_) (fun h9 => by cases h9)
   (repeat (first | refine gO rfl ?_ | (refine gR fun K1 hK1 => ?_; simp only [go_sem, ↓reduceIte, reduceCtorEq, nA, nB, nC, nD, nE, nF] <;> and_intros <;> first | (apply hK1; clear hK1 K1) | (intros; first | omega | decide | (simp_all <;> omega)) | skip)))
   simp only [Tryz.results78, go_sem, ↓reduceIte, reduceCtorEq, nA, nB, nC, nD, nE, nF]
   exact ⟨_, _, Weak.refl _, Hp.le.refl _, rfl, rfl⟩
  | true =>
   refine awp_cond (t := _) rfl (fun h9 => by cases h9) (fun _ => ?_)
   (repeat (first | refine gO rfl ?_ | (refine gR fun K1 hK1 => ?_; simp only [go_sem, ↓reduceIte, reduceCtorEq, nA, nB, nC, nD, nE, nF] <;> and_intros <;> first | (apply hK1; clear hK1 K1) | (intros; first | omega | decide | (simp_all <;> omega)) | skip)))
   refine awp_cond (t := _) rfl (fun h9 => ?_) (fun h9 => ?_)
   ·(repeat (first | refine gO rfl ?_ | (refine gR fun K1 hK1 => ?_; simp only [go_sem, ↓reduceIte, reduceCtorEq, nA, nB, nC, nD, nE, nF] <;> and_intros <;> first | (apply hK1; clear hK1 K1) | (intros; first | omega | decide | (simp_all <;> omega)) | skip)))
    simp only [Tryz.results78, go_sem, ↓reduceIte, reduceCtorEq, nA, nB, nC, nD, nE, nF]
    exact ⟨_, _, Weak.refl _, Hp.le.refl _, by simp [h9], rfl⟩
   ·(repeat (first | refine gO rfl ?_ | (refine gR fun K1 hK1 => ?_; simp only [go_sem, ↓reduceIte, reduceCtorEq, nA, nB, nC, nD, nE, nF] <;> and_intros <;> first | (apply hK1; clear hK1 K1) | (intros; first | omega | decide | (simp_all <;> omega)) | skip)))
    simp only [Tryz.results78, go_sem, ↓reduceIte, reduceCtorEq, nA, nB, nC, nD, nE, nF]
    exact ⟨_, _, Weak.refl _, Hp.le.refl _, by simp [h9], rfl⟩
theorem g_at (n : Int) (xs : List (ByteArray × Int)) (x : Int) (h : Hp) (hg : GoodS xs) (h0 : 0 ≤ x) (h1 : x ≤ 1000000000000) : ACalls Tryz.prog 80 [.agg [.v (.int .i64 n), .row 2 (xs.map encStep) none, .v (.int .i64 (sumL xs))], .v (.int .i64 x)] h
  (fun r h' => r = .tup [.v (.int .i64 (posF xs (x.tmod (sumL xs)) : Nat)), .v (.int .i64 (x.tmod (sumL xs) - preL xs (posF xs (x.tmod (sumL xs)))))] ∧ h' = h) := by
 have hs := sumL_pos hg.pos hg.ne
 have hgl := hg.len
 have hr : 0 ≤ x.tmod (sumL xs) ∧ x.tmod (sumL xs) < sumL xs := ⟨Int.tmod_nonneg _ h0, Int.tmod_lt_of_pos _ (by omega)⟩
 have hsb := sumL_bd hg.pos
 have hal := preL_all xs
 have hne : (sumL xs = 0) = False := by simp; omega
 refine gE Tryz.func80 rfl (by kernel_rfl) 30 rfl fun c => ?_
 (repeat (first | refine gO rfl ?_ | (refine gM zM43 fun K1 hK1 => ?_; simp only [go_sem, ↓reduceIte, reduceCtorEq, nA, nB, nC, nD, nE, nF, hne] <;> and_intros <;> first | (apply hK1; clear hK1 K1) | (intros; first | omega | decide | (simp_all <;> omega)) | skip)))
 generalize x.tmod (sumL xs) = rr at *
 refine awp_loopC (rl false [2, 1, 3, 1, 7, 3, 15]) 0 (fun g s => ∃ j : Nat, g + j = xs.length ∧ preL xs j ≤ rr ∧
  s = ⟨(AV.junk :: AV.junk :: ((.ref [.v (.int .i64 n), .row 2 (xs.map encStep) none, .v (.int .i64 (sumL xs))] 0) :: (jnk 3 ((.v (.int .i64 (rr - preL xs j))) :: (jnk 7 ((.row 2 (xs.map encStep) none) :: (.v (.int .i64 xs.length)) :: (.v (.int .i64 j)) :: (jnk 15 []))))))), [], h⟩) xs.length ⟨0, by omega, by rw [preL_zero]; omega, by rw [preL_zero, Int.sub_zero]; rfl⟩ ?_
 rintro g _ ⟨j, hj, hle, rfl⟩
 (repeat (first | refine gO rfl ?_ | (refine gM zM43 fun K1 hK1 => ?_; simp only [go_sem, ↓reduceIte, reduceCtorEq, nA, nB, nC, nD, nE, nF] <;> and_intros <;> first | (apply hK1; clear hK1 K1) | (intros; first | omega | decide | (simp_all <;> omega)) | skip)))
 refine awp_cond (t := _) rfl (fun h2 => ?_) (fun h2 => ?_)
 ·simp only [decide_eq_true_eq] at h2
  have hjl : j < xs.length := by omega
  have gx : (xs.map encStep).getD j [] = encStep (xs.getD j default) := getD_enc encStep xs j default hjl
  have hpa := pos_at hg.pos hjl
  have hps := preL_succ xs j hjl
  have hpb := preL_bd hg.pos j (by omega)
  generalize xs.getD j default = y at gx hpa hps
  (repeat (first | refine gO rfl ?_ | (refine gM zM43 fun K1 hK1 => ?_; simp only [go_sem, ↓reduceIte, reduceCtorEq, nA, nB, nC, nD, nE, nF, Int.toNat_natCast, gx, encStep] <;> and_intros <;> first | (apply hK1; clear hK1 K1) | (intros; first | omega | decide | (simp_all <;> omega)) | skip)))
  refine awp_cond (t := _) rfl (fun h3 => ?_) (fun h3 => ?_)
  ·simp only [decide_eq_true_eq] at h3
   (repeat (first | refine gO rfl ?_ | (refine gM zM43 fun K1 hK1 => ?_; simp only [go_sem, ↓reduceIte, reduceCtorEq, nA, nB, nC, nD, nE, nF] <;> and_intros <;> first | (apply hK1; clear hK1 K1) | (intros; first | omega | decide | (simp_all <;> omega)) | skip)))
   simp only [Tryz.results80, go_sem, ↓reduceIte, reduceCtorEq, nA, nB, nC, nD, nE, nF]
   have hpf := posF_of hg.pos hjl hle (show rr < preL xs (j + 1) by omega)
   exact ⟨_, _, Weak.refl _, Hp.le.refl _, by rw [hpf], rfl⟩
  ·simp only [decide_eq_false_iff_not] at h3
   (repeat (first | refine gO rfl ?_ | (refine gM zM43 fun K1 hK1 => ?_; simp only [go_sem, ↓reduceIte, reduceCtorEq, nA, nB, nC, nD, nE, nF] <;> and_intros <;> first | (apply hK1; clear hK1 K1) | (intros; first | omega | decide | (simp_all <;> omega)) | skip)))
   refine ⟨g - 1, by omega, j + 1, by omega, by omega, ?_⟩
   rw [hps, ← Int.sub_sub]; rfl
 ·simp only [decide_eq_false_iff_not] at h2
  have hjl : j = xs.length := by omega
  rw [hjl, hal] at hle
  omega
theorem g_OnAt (d : Nat) (t : LT) (a x : Int) (h : Hp) (hb : KC d t) (hd : manyF t ≤ 1000000000000000 ∧ d ≤ 1000) : ACalls Tryz.prog 19 [.agg (encL t), .v (.int .i64 a), .v (.int .i64 x)] h
  (fun r _ => ∃ sc c, r = .tup [.agg (encStep sc), .v (.int .i64 c), .v (.int .i64 (orI [faultF t, timeE a x, rdE d t]))] ∧ (orI [faultF t, timeE a x, rdE d t] = 0 → sc = (rdS d t).getD (posF (rdS d t) ((x - a).tmod (sumL (rdS d t)))) default ∧ c = x - (x - a).tmod (sumL (rdS d t)) + preL (rdS d t) (posF (rdS d t) ((x - a).tmod (sumL (rdS d t)))))) := by
 have hlen := encL_len t
 have htk : List.take 6 (encL t) = encL t := List.take_of_length_le (Nat.le_of_eq hlen)
 have hdk : List.drop 6 (encL t) = [] := List.drop_of_length_le (Nat.le_of_eq hlen)
 have hck := fun h => g_check7 d t h hb hd
 have htf := fun h => g_timesFault a x h
 have hgood := fun he => rd_good (d := d) (t := t) hb he
 have hz : timeE a x = 0 → _ := timeE_zero
 have hdef : ([AV.v (.string ⟨#[]⟩), .v (.int .i64 0)] : List AV) = encStep default := rfl
 refine gE Tryz.func19 rfl (by kernel_rfl) 50 rfl fun c => ?_
 (repeat (first | refine gO rfl ?_ | (refine gM zM44 fun K1 hK1 => ?_; simp only [go_sem, ↓reduceIte, reduceCtorEq, nA, nB, nC, nD, nE, nF, hlen, htk, hdk] <;> and_intros <;> first | (apply hK1; clear hK1 K1) | (intros; first | omega | decide | (simp_all <;> omega)) | skip)))
 refine (hck _).mono ?_; rintro _ hz ⟨rfl, hh⟩; apply hK1; clear hK1 K1; rw [hh]; clear hh hz
 (repeat (first | refine gO rfl ?_ | (refine gM zM44 fun K1 hK1 => ?_; simp only [go_sem, ↓reduceIte, reduceCtorEq, nA, nB, nC, nD, nE, nF, hlen, htk, hdk] <;> and_intros <;> first | (apply hK1; clear hK1 K1) | (intros; first | omega | decide | (simp_all <;> omega)) | skip)))
 by_cases hf : faultF t = 0
 ·have hv := vl_of d t hb (part_of_fault hf)
  have hrp := fun h => g_roundP d t h hb hv (il_of d t (part_of_fault hf))
  unfold roundC at hrp
  unfold rdE rdS at *
  rw [if_pos hf, if_pos hf] at *
  rw [hf]
  refine awp_cond (t := _) rfl (fun h9 => by cases h9) (fun _ => ?_)
  (repeat (first | refine gO rfl ?_ | (refine gM zM44 fun K1 hK1 => ?_; simp only [go_sem, ↓reduceIte, reduceCtorEq, nA, nB, nC, nD, nE, nF, hlen, htk, hdk] <;> and_intros <;> first | (apply hK1; clear hK1 K1) | (intros; first | omega | decide | (simp_all <;> omega)) | skip)))
  refine (htf _).mono ?_; rintro _ hz ⟨rfl, hh⟩; apply hK1; clear hK1 K1; rw [hh]; clear hh hz
  (repeat (first | refine gO rfl ?_ | (refine gM zM44 fun K1 hK1 => ?_; simp only [go_sem, ↓reduceIte, reduceCtorEq, nA, nB, nC, nD, nE, nF, hlen, htk, hdk] <;> and_intros <;> first | (apply hK1; clear hK1 K1) | (intros; first | omega | decide | (simp_all <;> omega)) | skip)))
  by_cases ht : timeE a x = 0
  ·obtain ⟨z1, z2, z3⟩ := hz ht
   rw [ht]
   refine awp_cond (t := _) rfl (fun h9 => by cases h9) (fun _ => ?_)
   (repeat (first | refine gO rfl ?_ | (refine gM zM44 fun K1 hK1 => ?_; simp only [go_sem, ↓reduceIte, reduceCtorEq, nA, nB, nC, nD, nE, nF, hlen, htk, hdk] <;> and_intros <;> first | (apply hK1; clear hK1 K1) | (intros; first | omega | decide | (simp_all <;> omega)) | skip)))
   refine (hrp _).mono ?_
   rintro _ h2 rfl
   refine hK1 _ ?_; clear hK1 K1
   have hsl : ((roundS d t).map (·.2)).sum = sumL (roundS d t) := rfl
   rw [hsl]
   clear hrp hck htf
   generalize roundS d t = xs at *
   generalize roundN d t = n at *
   generalize roundE d t = e at *
   (repeat (first | refine gO rfl ?_ | (refine gM zM44 fun K1 hK1 => ?_; simp only [go_sem, ↓reduceIte, reduceCtorEq, nA, nB, nC, nD, nE, nF] <;> and_intros <;> first | (apply hK1; clear hK1 K1) | (intros; first | omega | decide | (simp_all <;> omega)) | skip)))
   by_cases he : e = 0
   ·subst he
    have hg := hgood rfl
    refine awp_cond (t := _) rfl (fun h9 => by cases h9) (fun _ => ?_)
    (repeat (first | refine gO rfl ?_ | (refine gM zM44 fun K1 hK1 => ?_; simp only [go_sem, ↓reduceIte, reduceCtorEq, nA, nB, nC, nD, nE, nF] <;> and_intros <;> first | (apply hK1; clear hK1 K1) | (intros; first | omega | decide | (simp_all <;> omega)) | skip)))
    have hat := fun h => g_at (n : Int) xs (x - a) h hg (by omega) (by omega)
    have hr := rest_bd hg.pos hg.ne z2
    obtain ⟨p1, p2, p3⟩ := posF_ex hg.pos hr.1 hr.2
    have hgl := hg.len
    have hsb := sumL_bd hg.pos
    have hpb := preL_nonneg hg.pos (posF xs ((x - a).tmod (sumL xs)))
    generalize (x - a).tmod (sumL xs) = rr at *
    generalize posF xs rr = i at *
    refine (hat _).mono ?_; rintro _ hz ⟨rfl, hh⟩; apply hK1; clear hK1 K1; rw [hh]; clear hh hz
    have gx : (xs.map encStep).getD i [] = encStep (xs.getD i default) := getD_enc encStep xs i default p1
    generalize xs.getD i default = y at *
    (repeat (first | refine gO rfl ?_ | (refine gM zM44 fun K1 hK1 => ?_; simp only [go_sem, ↓reduceIte, reduceCtorEq, nA, nB, nC, nD, nE, nF, Int.toNat_natCast, gx, encStep] <;> and_intros <;> first | (apply hK1; clear hK1 K1) | (intros; first | omega | decide | (simp_all <;> omega)) | skip)))
    simp only [Tryz.results19, go_sem, ↓reduceIte, reduceCtorEq, nA, nB, nC, nD, nE, nF]
    refine ⟨_, _, Weak.refl _, Hp.le.refl _, y, _, rfl, fun _ => ⟨rfl, by omega⟩⟩
   ·have hb9 : (e != 0) = true := by simpa using he
    refine awp_cond (t := _) rfl (fun _ => ?_) (fun h9 => by rw [hb9] at h9; cases h9)
    (repeat (first | refine gO rfl ?_ | (refine gM zM44 fun K1 hK1 => ?_; simp only [go_sem, ↓reduceIte, reduceCtorEq, nA, nB, nC, nD, nE, nF] <;> and_intros <;> first | (apply hK1; clear hK1 K1) | (intros; first | omega | decide | (simp_all <;> omega)) | skip)))
    simp only [Tryz.results19, go_sem, ↓reduceIte, reduceCtorEq, nA, nB, nC, nD, nE, nF]
    refine ⟨_, _, Weak.refl _, Hp.le.refl _, default, 0, ?_, fun h9 => ?_⟩
    ·simp [orI]; rfl
    ·simp [orI] at h9; exact absurd (h9 he) he
  ·have hb9 : (timeE a x != 0) = true := by simpa using ht
   generalize timeE a x = e at *
   refine awp_cond (t := _) rfl (fun _ => ?_) (fun h9 => by rw [hb9] at h9; cases h9)
   (repeat (first | refine gO rfl ?_ | (refine gM zM44 fun K1 hK1 => ?_; simp only [go_sem, ↓reduceIte, reduceCtorEq, nA, nB, nC, nD, nE, nF] <;> and_intros <;> first | (apply hK1; clear hK1 K1) | (intros; first | omega | decide | (simp_all <;> omega)) | skip)))
   simp only [Tryz.results19, go_sem, ↓reduceIte, reduceCtorEq, nA, nB, nC, nD, nE, nF]
   refine ⟨_, _, Weak.refl _, Hp.le.refl _, default, 0, ?_, fun h9 => ?_⟩
   ·simp [orI, ht]; rfl
   ·simp [orI, ht] at h9
 ·have hb9 : (faultF t != 0) = true := by simpa using hf
  refine awp_cond (t := _) rfl (fun _ => ?_) (fun h9 => by rw [hb9] at h9; cases h9)
  (repeat (first | refine gO rfl ?_ | (refine gM zM44 fun K1 hK1 => ?_; simp only [go_sem, ↓reduceIte, reduceCtorEq, nA, nB, nC, nD, nE, nF] <;> and_intros <;> first | (apply hK1; clear hK1 K1) | (intros; first | omega | decide | (simp_all <;> omega)) | skip)))
  simp only [Tryz.results19, go_sem, ↓reduceIte, reduceCtorEq, nA, nB, nC, nD, nE, nF]
  refine ⟨_, _, Weak.refl _, Hp.le.refl _, default, 0, ?_, fun h9 => ?_⟩
  ·simp [orI, hf]; rfl
  ·simp [orI, hf] at h9
theorem weak1 {a a' : AV} (h : Weak a a') : ∀ j, (hj : j < ([a] : List AV).length) → (hk : j < ([a'] : List AV).length) → Weak ([a][j]) ([a'][j]) := fun j hj _ => by
 simp only [List.length_cons, List.length_nil, Nat.zero_add, Nat.lt_one_iff] at hj
 subst hj
 exact h
theorem weak2 {a a' b b' : AV} (h : Weak a a') (k : Weak b b') : ∀ j, (hj : j < ([a, b] : List AV).length) → (hk : j < ([a', b'] : List AV).length) → Weak ([a, b][j]) ([a', b'][j])
 | 0, _, _ => h
 | 1, _, _ => k
 | j + 2, hj, _ => absurd hj (by simp)
theorem weak3 {a a' b b' c c' : AV} (h : Weak a a') (k : Weak b b') (m : Weak c c') : ∀ j, (hj : j < ([a, b, c] : List AV).length) → (hk : j < ([a', b', c'] : List AV).length) → Weak ([a, b, c][j]) ([a', b', c'][j])
 | 0, _, _ => h
 | 1, _, _ => k
 | 2, _, _ => m
 | j + 3, hj, _ => absurd hj (by simp)
open Go Go.RowKit
def ARow (w : World) (a : Option Addr) (len cap : Nat) (zs : List Int) : Prop :=
 (a = none ∧ len = 0 ∧ cap = 0 ∧ zs = []) ∨ ∃ b : Addr, a = some b ∧ len ≤ cap ∧ cap ≤ maxLen ∧ zs.length = cap ∧ (∀ i, i < zs.length → w.cell? (b.add i) = some (.int .i64 (zs.getD i 0)) ∧ w.frozen? (b.add i) = false) ∧ (∀ n ∈ zs, (Lit.int .i64 n).wf = true)
def G0 (w : World) : Gh := ⟨fun g o => cellT w g o, fun _ => none, fun _ => none, 0⟩
def H0 : Hp := ⟨fun _ => none, fun _ => none⟩
theorem hsim_all (w : World) : HSim (G0 w) H0 w where
 val _ _ _ h := h
 obj _ _ h := by cases h
 inj _ _ _ h := absurd rfl h
 tok _ _ h := by cases h
 tinj _ _ _ _ h := absurd rfl h
 tobj _ _ _ h := absurd rfl h
 fat _ _ := rfl
 ftl _ _ := rfl
theorem below_of_fr {G G' : Gh} {h' : Hp} {w w' : World} (f : Fr G H0 w G' h' w') : Below w.heap.size w w' :=
 ⟨f.os, f.tape, f.output, f.size, fun b hb => (f.keep b hb (fun o => by rcases o with ⟨_, h, _⟩ | ⟨_, _, h, _⟩ <;> exact h rfl)).1⟩
theorem rep_v_inv0 {G : Gh} {x y : Value} (h : Rep G (.v x) y) : y = x := by cases h; rfl
theorem flat_encI (l : List Int) : (l.map encI).flatten = l.map fun x => AV.v (.int .i64 x) := by
 induction l with
 | nil => rfl
 | cons x q ih => simp [encI, ih]
theorem arow_rep {w : World} {a : Option Addr} {len cap : Nat} {zs : List Int} (h : ARow w a len cap zs) : ∃ l : List Int, SOk l ∧ Rep (G0 w) (.row 1 (l.map encI) none) (.slice a len cap) := by
 rcases h with ⟨rfl, rfl, rfl, _⟩ | ⟨⟨b, o, sp⟩, rfl, hl, hm, hz, hc, hwz⟩
 ·exact ⟨[], ⟨by simp, by simp⟩, .nil 1 none trivial⟩
 ·by_cases h0 : cap = 0
  ·subst h0
   obtain rfl : len = 0 := by omega
   exact ⟨[], ⟨by simp, by simp⟩, .nilA 1 _⟩
  ·have hsp : sp = none := by
    have h1 := (hc 0 (by omega)).1
    rw [show (⟨b, o, sp⟩ : Addr).add 0 = ⟨b, o, sp⟩ from rfl] at h1
    cases sp with
    | none => rfl
    | some s =>
     simp only [World.cell?] at h1
     split at h1 <;> simp at h1
   subst hsp
   refine ⟨zs.take len, ⟨by have hm2 : maxLen = 9223372036854775807 := rfl; rw [List.length_take]; omega, fun x hx => ?_⟩, ?_⟩
   ·have h1 := hwz x (List.mem_of_mem_take hx)
    simp only [Lit.wf, Bool.and_eq_true, decide_eq_true_eq] at h1
    exact ⟨h1.1, h1.2⟩
   ·have hlen : (zs.take len).length = len := by simp; omega
    have h2 := Rep.row_mk (G := G0 w) (z := 1) (xs := (zs.take len).map encI) (g := b) (o := o) (c := cap) (us := (zs.take len).map fun x => Value.int .i64 x) (by rw [List.length_map, hlen]; exact hl)
     (fun y hy => by obtain ⟨x, _, rfl⟩ := List.mem_map.1 hy; rfl) (by
      rw [flat_encI]
      refine ⟨by simp, fun j a b => ?_⟩
      simp only [List.getElem_map]
      exact ⟨.v _ rfl, rfl⟩) (fun j y hy => by
      rw [List.getElem?_map] at hy
      obtain ⟨x, hx, rfl⟩ := Option.map_eq_some_iff.1 hy
      rw [List.getElem?_take] at hx
      split at hx
      ·have hjl := (List.getElem?_eq_some_iff.1 hx).1
       have h3 := hc j hjl
       rw [List.getD_eq_getElem?_getD, hx, Addr.add_lit] at h3
       show cellT w b (o + j) = _
       rw [cellT, h3.2]; exact h3.1
      ·cases hx)
    rwa [List.length_map, hlen] at h2
theorem law_calls {f : Nat} (hlaw : ∀ (l : List Int) (h : Hp), SOk l → ACalls Tryz.prog f [.row 1 (l.map encI) none] h (fun r _ => r = .v (.bool true))) (a : Option Addr) (len cap : Nat) (zs : List Int) (w : World) (h : ARow w a len cap zs) :
  Calls Tryz.prog f #[.slice a len cap] w fun e w' => e = .returned (.bool true) ∧ Below w.heap.size w w' := by
 obtain ⟨l, hl, hrep⟩ := arow_rep h
 refine ((hlaw l H0 hl).calls _ w #[.slice a len cap] (hsim_all w) rfl (fun j hj => ?_)).mono ?_
 ·simp only [List.length_cons, List.length_nil, Nat.zero_add, Nat.lt_one_iff] at hj
  subst hj
  exact hrep
 ·rintro _ w' ⟨r, h', G', v, rfl, rfl, _, f, _, hv⟩
  exact ⟨by rw [rep_v_inv0 hv], below_of_fr f⟩
abbrev zP1LE : List Nat := [0, 1, 2, 3, 4, 5, 6, 7, 8, 9, 10, 11, 12, 13, 14, 15]
abbrev zP1LP : List (Nat × List Nat × List Nat) := [(16, [], [17, 18])]
attribute [go_sem] zP1LE zP1LP
theorem rt_round {t : LT} (h : RT 4 t) : (rdE 23 t = 2 ∧ rdN 23 t = 0 ∧ rdS 23 t = []) ∨ (rdE 23 t = 0 ∧ RoundIs 23 t (rdN 23 t) ∧ rdS 23 t = (passesU 23 t (rdN 23 t)).2) := by
 have hf := h.fault
 by_cases e : roundN 23 t = 0
 ·obtain ⟨h1, h2⟩ := roundS_none e
  exact .inl ⟨by rw [rdE, if_pos hf, h2], by rw [rdN, if_pos hf, e], by rw [rdS, if_pos hf, h1]⟩
 ·have hr := roundN_is e
  obtain ⟨h1, h2, h3⟩ := roundS_some hr
  exact .inr ⟨by rw [rdE, if_pos hf, h2], by rw [rdN, if_pos hf]; exact hr, by rw [rdN, if_pos hf, rdS, if_pos hf, h1]⟩
theorem g_lawRounds (l : List Int) (h : Hp) (hl : SOk l) : ACalls Tryz.prog 3 [.row 1 (l.map encI) none] h (fun r _ => r = .v (.bool true)) := by
 have hc3 : costR 3 = 1190 := by simp [costR]
 refine gE Tryz.func3 rfl (by kernel_rfl) 123 rfl fun c => ?_
 (repeat (first | refine gQ rfl ?_ | ((first | refine gM zM45 ?_ | (with_reducible refine wM ?_ ?_) | ((with_reducible refine xS ?_); refine uD 7 zM45 zP1LE zP1LP 124 rfl (by kernel_rfl) ?_)) <;> ((try with_reducible intro K1 hK1); simp only [go_sem, ↓reduceIte, reduceCtorEq, nA, nB, nC, nD, nE, nF] <;> and_intros <;> first | (apply hK1; clear hK1 K1) | (intros; first | omega | decide | (simp_all <;> omega)) | skip))))
 intro i hi
 refine hK1 _ ?_; clear hK1 K1
 have e0 : ({ H := upd h.H i (some (.cells [.row 1 (l.map encI) none, .v (.int .i64 0)])), T := h.T } : Hp) = h.st i l 0 := rfl
 rw [e0]
 (repeat (first | refine gQ rfl ?_ | ((first | refine gM zM45 ?_ | (with_reducible refine wM ?_ ?_) | ((with_reducible refine xS ?_); refine uD 7 zM45 zP1LE zP1LP 124 rfl (by kernel_rfl) ?_)) <;> ((try with_reducible intro K1 hK1); simp only [go_sem, ↓reduceIte, reduceCtorEq, nA, nB, nC, nD, nE, nF] <;> and_intros <;> first | (apply hK1; clear hK1 K1) | (intros; first | omega | decide | (simp_all <;> omega)) | skip))))
 refine (g_rightK 3 3 (by omega) i l 0 h hl (by omega)).mono ?_; rintro _ _ ⟨t, a1, ht, ha1, rfl, rfl⟩; apply hK1; clear hK1 K1
 have hlen := encX_len t
 have htk : List.take 6 (encX t) = encX t := List.take_of_length_le (Nat.le_of_eq hlen)
 have hdr : List.drop 6 (encX t) = [] := List.drop_of_length_le (Nat.le_of_eq hlen)
 (repeat (first | refine gQ rfl ?_ | ((first | refine gM zM45 ?_ | (with_reducible refine wM ?_ ?_) | ((with_reducible refine xS ?_); refine uD 7 zM45 zP1LE zP1LP 124 rfl (by kernel_rfl) ?_)) <;> ((try with_reducible intro K1 hK1); simp only [go_sem, ↓reduceIte, reduceCtorEq, nA, nB, nC, nD, nE, nF, hlen, htk, hdr] <;> and_intros <;> first | (apply hK1; clear hK1 K1) | (intros; first | omega | decide | (simp_all <;> omega)) | skip))))
 refine (g_next i l a1 60000 h hl (by omega) (by omega)).mono ?_; rintro _ _ ⟨x, hx, rfl, rfl⟩; apply hK1; clear hK1 K1
 have hLC := (ht.mono (e := 23) (by omega)).lc
 have hkt : KC 23 t := hLC.kc
 have hmt := size_small23 hLC
 have hw := encX_weak 23 t hLC
 have hRo := fun h => (g_RoundG 23 t h hkt hmt).weakArgs (args' := [.agg (encX t)]) rfl (weak1 hw)
 have hsl : ((rdS 23 t).map (·.2)).sum = sumL (rdS 23 t) := rfl
 rw [hsl] at hRo
 have hgood := fun he => rd_good (d := 23) (t := t) hkt he
 have hv := ht.vl
 have hft := ht.fault
 have hPs := fun many hm h => (g_passes 23 t many h hkt hmt hm).weakArgs (args' := [.agg (encX t), .v (.int .i64 many)]) rfl (weak2 hw (Weak.refl _))
 have hOn := fun h => (g_OnAt 23 t 0 x h hkt hmt).weakArgs (args' := [.agg (encX t), .v (.int .i64 0), .v (.int .i64 x)]) rfl (weak3 hw (Weak.refl _) (Weak.refl _))
 generalize h.st i l _ = h1
 clear hsl
 (repeat (first | refine gQ rfl ?_ | ((first | refine gM zM45 ?_ | (with_reducible refine wM ?_ ?_) | ((with_reducible refine xS ?_); refine uD 7 zM45 zP1LE zP1LP 124 rfl (by kernel_rfl) ?_)) <;> ((try with_reducible intro K1 hK1); simp only [go_sem, ↓reduceIte, reduceCtorEq, nA, nB, nC, nD, nE, nF, hlen, htk, hdr] <;> and_intros <;> first | (apply hK1; clear hK1 K1) | (intros; first | omega | decide | (simp_all <;> omega)) | skip))))
 refine (hRo _).mono ?_
 rintro _ h2 rfl
 refine hK1 _ ?_; clear hK1 K1 hRo
 rcases rt_round ht with ⟨e1, e2, e3⟩ | ⟨e1, hr, e3⟩
 ·rw [e1, e2, e3]
  (repeat (first | refine gO rfl ?_ | ((first | refine gM zM45 ?_ | (with_reducible refine wM ?_ ?_) | ((with_reducible refine xS ?_); refine uD 7 zM45 zP1LE zP1LP 124 rfl (by kernel_rfl) ?_)) <;> ((try with_reducible intro K1 hK1); simp only [go_sem, ↓reduceIte, reduceCtorEq, nA, nB, nC, nD, nE, nF] <;> and_intros <;> first | (apply hK1; clear hK1 K1) | (intros; first | omega | decide | (simp_all <;> omega)) | skip))))
  refine awp_cond (t := _) rfl (fun _ => ?_) (fun h9 => by cases h9)
  (repeat (first | refine gO rfl ?_ | ((first | refine gM zM45 ?_ | (with_reducible refine wM ?_ ?_) | ((with_reducible refine xS ?_); refine uD 7 zM45 zP1LE zP1LP 124 rfl (by kernel_rfl) ?_)) <;> ((try with_reducible intro K1 hK1); simp only [go_sem, ↓reduceIte, reduceCtorEq, nA, nB, nC, nD, nE, nF, Int.reduceBEq, Bool.or_true, Bool.true_or, Bool.false_or] <;> and_intros <;> first | (apply hK1; clear hK1 K1) | (intros; first | omega | decide | (simp_all <;> omega)) | skip))))
  refine (g_ready _).mono ?_
  rintro _ h3 rfl
  refine ⟨rfl, hK1 _ ?_⟩; clear hK1 K1
  (repeat (first | refine gO rfl ?_ | ((first | refine gM zM45 ?_ | (with_reducible refine wM ?_ ?_) | ((with_reducible refine xS ?_); refine uD 7 zM45 zP1LE zP1LP 124 rfl (by kernel_rfl) ?_)) <;> ((try with_reducible intro K1 hK1); simp only [go_sem, ↓reduceIte, reduceCtorEq, nA, nB, nC, nD, nE, nF] <;> and_intros <;> first | (apply hK1; clear hK1 K1) | (intros; first | omega | decide | (simp_all <;> omega)) | skip))))
  simp only [Tryz.results3, go_sem, ↓reduceIte, reduceCtorEq, nA, nB, nC, nD, nE, nF]
  exact ⟨_, _, Weak.refl _, Hp.le.refl _, rfl⟩
 ·have hG := hgood e1
  have hXl := hG.len
  have hag := (passes_again hv hr.2.2.1 (rdN 23 t)).1
  rw [← e3] at hag
  have hz : orI [faultF t, timeE 0 x, rdE 23 t] = 0 := by
   have : timeE 0 x = 0 := by
    have m1 : momB 0 = true := by decide
    have m2 : momB x = true := by simp [momB]; omega
    have m3 : decide (x < 0) = false := by simp; omega
    rw [timeE, m1, m2, m3]; rfl
   rw [hft, this, e1]; rfl
  rw [e1] at hOn ⊢
  generalize rdN 23 t = N at *
  generalize rdS 23 t = X at *
  by_cases hN : 2 * (N : Int) ≤ 5000
  ·by_cases hP : 2 * (X.length : Int) ≤ 5000
   ·have d1 : decide ((5000 : Int) < 2 * (N : Int)) = false := by simp; omega
    have d2 : decide ((5000 : Int) < 2 * (X.length : Int)) = false := by simp; omega
    (repeat (first | refine gO rfl ?_ | ((first | refine gM zM45 ?_ | (with_reducible refine wM ?_ ?_) | ((with_reducible refine xS ?_); refine uD 7 zM45 zP1LE zP1LP 124 rfl (by kernel_rfl) ?_)) <;> ((try with_reducible intro K1 hK1); simp only [go_sem, ↓reduceIte, reduceCtorEq, nA, nB, nC, nD, nE, nF, d1, d2] <;> and_intros <;> first | (apply hK1; clear hK1 K1) | (intros; first | omega | decide | (simp_all <;> omega)) | skip))))
    refine awp_cond (t := _) rfl (fun h9 => by cases h9) (fun _ => ?_)
    have hNN : (2 * (N : Int)).toNat = N + N := by omega
    have hP2 := hPs (2 * (N : Int)) (by unfold NB; omega)
    rw [if_pos ⟨hft, by omega, hN⟩, if_pos hft, if_pos ⟨by omega, hN⟩, hNN, wantX, wantE, hag, if_pos (by rw [List.length_append]; omega), if_pos (by rw [List.length_append]; omega)] at hP2
    clear hPs
    (repeat (first | refine gO rfl ?_ | ((first | refine gM zM45 ?_ | (with_reducible refine wM ?_ ?_) | ((with_reducible refine xS ?_); refine uD 7 zM45 zP1LE zP1LP 124 rfl (by kernel_rfl) ?_)) <;> ((try with_reducible intro K1 hK1); simp only [go_sem, ↓reduceIte, reduceCtorEq, nA, nB, nC, nD, nE, nF, hlen, htk, hdr] <;> and_intros <;> first | (apply hK1; clear hK1 K1) | (intros; first | omega | decide | (simp_all <;> omega)) | skip))))
    refine (hP2 _).mono ?_
    rintro _ h3 rfl
    refine hK1 _ ?_; clear hK1 K1 hP2
    have hll : (((X ++ X).length : Nat) : Int) = 2 * (X.length : Int) := by rw [List.length_append]; omega
    have hlm : ((X ++ X).map encStep).length = (X ++ X).length := List.length_map _
    have hlt : List.take X.length ((X ++ X).map encStep) = X.map encStep := by
     rw [← List.map_take, List.take_left]
    have hld : List.drop X.length ((X ++ X).map encStep) = X.map encStep := by
     rw [← List.map_drop, List.drop_left]
    have hxm : (X.map encStep).length = X.length := List.length_map _
    have d3 : ((2 * (X.length : Int)) != (2 * (X.length : Int))) = false := by simp
    (repeat (first | refine gO rfl ?_ | ((first | refine gM zM45 ?_ | (with_reducible refine wM ?_ ?_) | ((with_reducible refine xS ?_); refine uD 7 zM45 zP1LE zP1LP 124 rfl (by kernel_rfl) ?_)) <;> ((try with_reducible intro K1 hK1); simp only [go_sem, ↓reduceIte, reduceCtorEq, nA, nB, nC, nD, nE, nF, hlm, hll, hlt, hld, hxm, d3, Int.toNat_natCast, Int.reduceBNe, Option.toList_none, Option.toList_some, List.append_eq, List.nil_append, List.cons_append, uside] <;> and_intros <;> first | (apply hK1; clear hK1 K1) | (intros; first | omega | decide | (simp_all <;> omega)) | skip))))
    refine ⟨.row 2 (X.map encStep) none, ?_, rfl, .row 2 (X.map encStep) none, ?_, rfl, ?_⟩
    ·simp only [qE, vEff, sliceE, bndE, go_sem, nA, nB, nC, nD, nE, nF]
     refine ⟨⟨by omega, by omega, by omega⟩, ?_⟩
     rw [show Int.toNat 0 = 0 from rfl, Int.toNat_natCast, Nat.sub_zero, List.drop_zero, hlt]
    ·simp only [qE, vEff, sliceE, bndE, go_sem, nA, nB, nC, nD, nE, nF]
     refine ⟨⟨by omega, by omega, by omega⟩, ?_⟩
     rw [Int.toNat_natCast, Int.toNat_natCast, hld, List.take_of_length_le (by rw [hxm, List.length_append]; omega)]
    refine hK1 _ ?_; clear hK1 K1
    (repeat (first | refine gO rfl ?_ | ((first | refine gM zM45 ?_ | (with_reducible refine wM ?_ ?_) | ((with_reducible refine xS ?_); refine uD 7 zM45 zP1LE zP1LP 124 rfl (by kernel_rfl) ?_)) <;> ((try with_reducible intro K1 hK1); simp only [go_sem, ↓reduceIte, reduceCtorEq, nA, nB, nC, nD, nE, nF] <;> and_intros <;> first | (apply hK1; clear hK1 K1) | (intros; first | omega | decide | (simp_all <;> omega)) | skip))))
    refine (g_equal12 X _ (by omega)).mono ?_
    rintro _ _ ⟨rfl, rfl⟩
    refine ⟨rfl, hK1 _ ?_⟩; clear hK1 K1
    (repeat (first | refine gO rfl ?_ | ((first | refine gM zM45 ?_ | (with_reducible refine wM ?_ ?_) | ((with_reducible refine xS ?_); refine uD 7 zM45 zP1LE zP1LP 124 rfl (by kernel_rfl) ?_)) <;> ((try with_reducible intro K1 hK1); simp only [go_sem, ↓reduceIte, reduceCtorEq, nA, nB, nC, nD, nE, nF] <;> and_intros <;> first | (apply hK1; clear hK1 K1) | (intros; first | omega | decide | (simp_all <;> omega)) | skip))))
    refine awp_cond (t := _) rfl (fun h9 => by cases h9) (fun _ => ?_)
    (repeat (first | refine gO rfl ?_ | ((first | refine gM zM45 ?_ | (with_reducible refine wM ?_ ?_) | ((with_reducible refine xS ?_); refine uD 7 zM45 zP1LE zP1LP 124 rfl (by kernel_rfl) ?_)) <;> ((try with_reducible intro K1 hK1); simp only [go_sem, ↓reduceIte, reduceCtorEq, nA, nB, nC, nD, nE, nF, hlen, htk, hdr] <;> and_intros <;> first | (apply hK1; clear hK1 K1) | (intros; first | omega | decide | (simp_all <;> omega)) | skip))))
    refine (hOn _).mono ?_
    rintro _ h4 ⟨sc, c0, rfl, hsc⟩
    rw [e1] at hz
    obtain ⟨rfl, rfl⟩ := hsc hz
    rw [hz]
    refine hK1 _ ?_; clear hK1 K1 hOn hsc hz
    have hS1 := sumL_pos hG.pos hG.ne
    have hx0 : x - 0 = x := by omega
    have hr0 : 0 ≤ x.tmod (sumL X) := Int.tmod_nonneg _ hx.1
    have hr1 : x.tmod (sumL X) < sumL X := Int.tmod_lt_of_pos _ (by omega)
    have hmax : max (sumL X) 1 = sumL X := by omega
    have htd : x.tdiv (sumL X) * sumL X = x - x.tmod (sumL X) := by
     have := Int.tdiv_mul_add_tmod x (sumL X)
     omega
    obtain ⟨hp1, hp2, hp3⟩ := posF_ex hG.pos hr0 hr1
    have hrl : x.tmod (sumL X) ≤ x := by
     have := Int.mul_nonneg (Int.tdiv_nonneg hx.1 (show 0 ≤ sumL X by omega)) (show 0 ≤ sumL X by omega)
     omega
    have hSb := sumL_bd hG.pos
    have hq0 : 0 ≤ x.tdiv (sumL X) := Int.tdiv_nonneg hx.1 (by omega)
    have hq1 : x.tdiv (sumL X) ≤ x := Int.tdiv_le_self _ hx.1
    rw [hx0]
    generalize hqe : x.tdiv (sumL X) = q at *
    generalize x.tmod (sumL X) = r at *
    generalize posF X r = p at *
    generalize hsL : sumL X = L at *
    generalize hst : X.getD p default = st0 at *
    have hne : L ≠ 0 := by omega
    have z0 : Int.toNat 0 = 0 := rfl
    (repeat (first | refine gO rfl ?_ | ((first | refine gM zM45 ?_ | (with_reducible refine wM ?_ ?_) | ((with_reducible refine xS ?_); refine uD 7 zM45 zP1LE zP1LP 124 rfl (by kernel_rfl) ?_)) <;> ((try with_reducible intro K1 hK1); simp only [go_sem, ↓reduceIte, reduceCtorEq, nA, nB, nC, nD, nE, nF, encStep] <;> and_intros <;> first | (apply hK1; clear hK1 K1) | (intros; first | omega | decide | (simp_all <;> omega)) | skip))))
    refine awp_cond (t := _) rfl (fun h9 => by cases h9) (fun _ => ?_)
    (repeat (first | refine gO rfl ?_ | ((first | refine gM zM45 ?_ | (with_reducible refine wM ?_ ?_) | ((with_reducible refine xS ?_); refine uD 7 zM45 zP1LE zP1LP 124 rfl (by kernel_rfl) ?_)) <;> ((try with_reducible intro K1 hK1); simp only [go_sem, ↓reduceIte, reduceCtorEq, nA, nB, nC, nD, nE, nF, hmax, hqe, htd, z0, Nat.sub_zero, List.drop_zero, hlm, hll, hlt, hxm, Int.toNat_natCast, Option.toList_none, Option.toList_some, List.append_eq, List.nil_append, List.cons_append, uside] <;> and_intros <;> first | (apply hK1; clear hK1 K1) | (intros; first | omega | decide | (simp_all <;> omega)) | skip))))
    have est : (st0.1 == st0.1) = true := by rw [ba_beq]; simp
    have hpb := preL_bd hG.pos p (by omega)
    refine awp_loopC (rl false [5, 1, 6, 2, 1, 1, 80, 3, 25]) 2 (fun g s => ∃ j : Nat, g + j = X.length ∧ j ≤ p ∧
     s = ⟨((jnk 5 ((.v (.int .i64 x)) :: (jnk 6 ((.loc 1 0) :: (.v (.int .i64 (x - r + preL X p))) :: AV.junk :: ((.v (.int .i64 (x - r + preL X j))) :: (jnk 80 ((.row 2 (X.map encStep) none) :: (.v (.int .i64 X.length)) :: (.v (.int .i64 j)) :: (jnk 25 []))))))))),
      [encX t, [.v (.string st0.1), .v (.int .i64 st0.2)]], h4⟩) X.length ⟨0, by omega, Nat.zero_le _, by rw [preL_zero, Int.add_zero]; rfl⟩ ?_
    rintro g _ ⟨j, hj, hjp, rfl⟩
    have hjl : j < X.length := by omega
    have hd9 : decide ((j : Int) < (X.length : Int)) = true := by simp; omega
    (repeat (first | refine gO rfl ?_ | ((first | refine gM zM45 ?_ | (with_reducible refine wM ?_ ?_) | ((with_reducible refine xS ?_); refine uD 7 zM45 zP1LE zP1LP 124 rfl (by kernel_rfl) ?_)) <;> ((try with_reducible intro K1 hK1); simp only [go_sem, ↓reduceIte, reduceCtorEq, nA, nB, nC, nD, nE, nF, hd9] <;> and_intros <;> first | (apply hK1; clear hK1 K1) | (intros; first | omega | decide | (simp_all <;> omega)) | skip))))
    refine awp_cond (t := _) rfl (fun _ => ?_) (fun h9 => by cases h9)
    have gx : (X.map encStep).getD j [] = encStep (X.getD j default) := getD_enc encStep X j default hjl
    have hjs := preL_succ X j hjl
    have hjb := preL_bd hG.pos j (by omega)
    have hjo := pos_at hG.pos hjl
    (repeat (first | refine gO rfl ?_ | ((first | refine gM zM45 ?_ | (with_reducible refine wM ?_ ?_) | ((with_reducible refine xS ?_); refine uD 7 zM45 zP1LE zP1LP 124 rfl (by kernel_rfl) ?_)) <;> ((try with_reducible intro K1 hK1); simp only [go_sem, ↓reduceIte, reduceCtorEq, nA, nB, nC, nD, nE, nF, Int.toNat_natCast, gx, hxm, encStep] <;> and_intros <;> first | (apply hK1; clear hK1 K1) | (intros; first | omega | decide | (simp_all <;> omega)) | skip))))
    refine awp_cond (t := _) rfl (fun h5 => ?_) (fun h5 => ?_)
    ·simp only [decide_eq_true_eq] at h5
     have hjj : j = p := by
      rcases Nat.lt_or_ge j p with h6 | h6
      ·have := preL_mono hG.pos (show j + 1 ≤ p by omega) (by omega)
       omega
      ·omega
     subst hjj
     rw [hst] at *
     (repeat (first | refine gO rfl ?_ | ((first | refine gM zM45 ?_ | (with_reducible refine wM ?_ ?_) | ((with_reducible refine xS ?_); refine uD 7 zM45 zP1LE zP1LP 124 rfl (by kernel_rfl) ?_)) <;> ((try with_reducible intro K1 hK1); simp only [go_sem, ↓reduceIte, reduceCtorEq, nA, nB, nC, nD, nE, nF, est, beq_self_eq_true, Bool.and_self] <;> and_intros <;> first | (apply hK1; clear hK1 K1) | (intros; first | omega | decide | (simp_all <;> omega)) | skip))))
     refine (g_ready _).mono ?_
     rintro _ h5 rfl
     refine ⟨rfl, hK1 _ ?_⟩; clear hK1 K1
     (repeat (first | refine gO rfl ?_ | ((first | refine gM zM45 ?_ | (with_reducible refine wM ?_ ?_) | ((with_reducible refine xS ?_); refine uD 7 zM45 zP1LE zP1LP 124 rfl (by kernel_rfl) ?_)) <;> ((try with_reducible intro K1 hK1); simp only [go_sem, ↓reduceIte, reduceCtorEq, nA, nB, nC, nD, nE, nF] <;> and_intros <;> first | (apply hK1; clear hK1 K1) | (intros; first | omega | decide | (simp_all <;> omega)) | skip))))
     simp only [Tryz.results3, go_sem, ↓reduceIte, reduceCtorEq, nA, nB, nC, nD, nE, nF]
     exact ⟨_, _, Weak.refl _, Hp.le.refl _, rfl⟩
    ·simp only [decide_eq_false_iff_not] at h5
     have hjj : j ≠ p := by
      intro e; subst e; omega
     (repeat (first | refine gO rfl ?_ | ((first | refine gM zM45 ?_ | (with_reducible refine wM ?_ ?_) | ((with_reducible refine xS ?_); refine uD 7 zM45 zP1LE zP1LP 124 rfl (by kernel_rfl) ?_)) <;> ((try with_reducible intro K1 hK1); simp only [go_sem, ↓reduceIte, reduceCtorEq, nA, nB, nC, nD, nE, nF] <;> and_intros <;> first | (apply hK1; clear hK1 K1) | (intros; first | omega | decide | (simp_all <;> omega)) | skip))))
     refine ⟨g - 1, by omega, j + 1, by omega, by omega, ?_⟩
     rw [hjs, ← Int.add_assoc, Int.natCast_add]
     rfl
   ·have d1 : decide ((5000 : Int) < 2 * (N : Int)) = false := by simp; omega
    have d2 : decide ((5000 : Int) < 2 * (X.length : Int)) = true := by simp; omega
    (repeat (first | refine gO rfl ?_ | ((first | refine gM zM45 ?_ | (with_reducible refine wM ?_ ?_) | ((with_reducible refine xS ?_); refine uD 7 zM45 zP1LE zP1LP 124 rfl (by kernel_rfl) ?_)) <;> ((try with_reducible intro K1 hK1); simp only [go_sem, ↓reduceIte, reduceCtorEq, nA, nB, nC, nD, nE, nF, d1, d2] <;> and_intros <;> first | (apply hK1; clear hK1 K1) | (intros; first | omega | decide | (simp_all <;> omega)) | skip))))
    refine awp_cond (t := _) rfl (fun _ => ?_) (fun h9 => by cases h9)
    (repeat (first | refine gO rfl ?_ | ((first | refine gM zM45 ?_ | (with_reducible refine wM ?_ ?_) | ((with_reducible refine xS ?_); refine uD 7 zM45 zP1LE zP1LP 124 rfl (by kernel_rfl) ?_)) <;> ((try with_reducible intro K1 hK1); simp only [go_sem, ↓reduceIte, reduceCtorEq, nA, nB, nC, nD, nE, nF, Int.reduceBEq, Bool.or_true, Bool.true_or, Bool.false_or] <;> and_intros <;> first | (apply hK1; clear hK1 K1) | (intros; first | omega | decide | (simp_all <;> omega)) | skip))))
    refine (g_ready _).mono ?_
    rintro _ h3 rfl
    refine ⟨rfl, hK1 _ ?_⟩; clear hK1 K1
    (repeat (first | refine gO rfl ?_ | ((first | refine gM zM45 ?_ | (with_reducible refine wM ?_ ?_) | ((with_reducible refine xS ?_); refine uD 7 zM45 zP1LE zP1LP 124 rfl (by kernel_rfl) ?_)) <;> ((try with_reducible intro K1 hK1); simp only [go_sem, ↓reduceIte, reduceCtorEq, nA, nB, nC, nD, nE, nF] <;> and_intros <;> first | (apply hK1; clear hK1 K1) | (intros; first | omega | decide | (simp_all <;> omega)) | skip))))
    simp only [Tryz.results3, go_sem, ↓reduceIte, reduceCtorEq, nA, nB, nC, nD, nE, nF]
    exact ⟨_, _, Weak.refl _, Hp.le.refl _, rfl⟩
  ·have d1 : decide ((5000 : Int) < 2 * (N : Int)) = true := by simp; omega
   have hN5 : N ≤ 5000 := hr.1.2
   (repeat (first | refine gO rfl ?_ | ((first | refine gM zM45 ?_ | (with_reducible refine wM ?_ ?_) | ((with_reducible refine xS ?_); refine uD 7 zM45 zP1LE zP1LP 124 rfl (by kernel_rfl) ?_)) <;> ((try with_reducible intro K1 hK1); simp only [go_sem, ↓reduceIte, reduceCtorEq, nA, nB, nC, nD, nE, nF, d1, Int.reduceBNe] <;> and_intros <;> first | (apply hK1; clear hK1 K1) | (intros; first | omega | decide | (simp_all <;> omega)) | skip))))
   refine awp_cond (t := _) rfl (fun _ => ?_) (fun h9 => by cases h9)
   (repeat (first | refine gO rfl ?_ | ((first | refine gM zM45 ?_ | (with_reducible refine wM ?_ ?_) | ((with_reducible refine xS ?_); refine uD 7 zM45 zP1LE zP1LP 124 rfl (by kernel_rfl) ?_)) <;> ((try with_reducible intro K1 hK1); simp only [go_sem, ↓reduceIte, reduceCtorEq, nA, nB, nC, nD, nE, nF, Int.reduceBEq, Bool.or_true, Bool.true_or, Bool.false_or] <;> and_intros <;> first | (apply hK1; clear hK1 K1) | (intros; first | omega | decide | (simp_all <;> omega)) | skip))))
   refine (g_ready _).mono ?_
   rintro _ h3 rfl
   refine ⟨rfl, hK1 _ ?_⟩; clear hK1 K1
   (repeat (first | refine gO rfl ?_ | ((first | refine gM zM45 ?_ | (with_reducible refine wM ?_ ?_) | ((with_reducible refine xS ?_); refine uD 7 zM45 zP1LE zP1LP 124 rfl (by kernel_rfl) ?_)) <;> ((try with_reducible intro K1 hK1); simp only [go_sem, ↓reduceIte, reduceCtorEq, nA, nB, nC, nD, nE, nF] <;> and_intros <;> first | (apply hK1; clear hK1 K1) | (intros; first | omega | decide | (simp_all <;> omega)) | skip))))
   simp only [Tryz.results3, go_sem, ↓reduceIte, reduceCtorEq, nA, nB, nC, nD, nE, nF]
   exact ⟨_, _, Weak.refl _, Hp.le.refl _, rfl⟩
end Go.Proofs.YtidkkmoiolffnaaGreatDoor
