/- A right loop that is made as small as can be is right: plain. -/
import Derived.Test.YtidkkmoiolffnaaGreatDoorM3
import Derived.Test.YtidkkmoiolffnaaGreatDoorShelf
import Derived.Deep.DeepCutAuto
import Derived.Deep.LoopGhost
import Derived.Test.YtidkkmoiolffnaaGreatDoorAvFz
import Derived.Test.YtidkkmoiolffnaaGreatDoorAvRun
import Derived.Below
namespace Go.Proofs.YtidkkmoiolffnaaGreatDoor
open Go
set_option linter.unusedVariables false
set_option linter.unusedSimpArgs false
set_option maxRecDepth 100000
abbrev zM40 : Option Tmp → Nat := mdL [(19, 2)]
abbrev zM41 : Option Tmp → Nat := mdL [(2, 1)]
abbrev zM42 : Option Tmp → Nat := mdL [(5, 1), (8, 1), (11, 1)]
abbrev zM43 : Option Tmp → Nat := mdL []
abbrev zM44 : Option Tmp → Nat := mdL [(5, 1)]
abbrev zM45 : Option Tmp → Nat := mdL [(1, 1), (2, 1)]
abbrev zM46 : Option Tmp → Nat := mdL [(1, 1), (2, 1), (4, 1), (5, 2)]
abbrev zM47 : Option Tmp → Nat := mdL [(1, 1), (2, 1), (4, 1)]
abbrev zM48 : Option Tmp → Nat := mdL [(4, 1), (6, 1), (8, 1), (15, 2)]
attribute [go_sem] zM40 zM41 zM42 zM43 zM44 zM45 zM46 zM47 zM48
def IOK : LT → Prop
 | .mk kind item long _ kids _ => (kind = 1 → keyB item = true ∧ 1 ≤ long ∧ long ≤ 3600000) ∧ ∀ k ∈ kids, IOK k
theorem IOK_eq (kind : Int) (item : ByteArray) (long many : Int) (kids : List LT) (shares : List Int) : IOK (.mk kind item long many kids shares) = ((kind = 1 → keyB item = true ∧ 1 ≤ long ∧ long ≤ 3600000) ∧ ∀ k ∈ kids, IOK k) := by rw [IOK]
theorem IOK.kids {t : LT} (h : IOK t) : ∀ k ∈ t.ks, IOK k := by cases t; rw [IOK_eq] at h; exact h.2
theorem IOK.rep {it : LT} (h : IOK it) (m : Int) : IOK (repK m [it]) := by
 rw [repK, IOK_eq]
 exact ⟨fun h => by omega, fun k hk => by rw [List.mem_singleton.1 hk]; exact h⟩
theorem cnt_iok {t it : LT} {m : Int} (hw : WF t) (hi : IOK t) (h : cnt t = some (it, m)) : IOK it := by
 cases t with
 | mk k i l mm ks s =>
  rw [cnt_mk] at h
  split at h
  ·simp only [Option.some.injEq, Prod.mk.injEq] at h
   obtain ⟨rfl, rfl⟩ := h
   exact hi
  ·split at h
   ·rename_i h1 h2
    simp only [Option.some.injEq, Prod.mk.injEq] at h
    obtain ⟨rfl, rfl⟩ := h
    exact hi.kids _ (getD0_mem (l := ks) (by
     obtain ⟨_, _, w3, _⟩ := (WF_eq ..).mp hw
     exact (w3 (by omega)).2.2))
   ·cases h
theorem gath_iok : ∀ (f : Nat) (l : List LT), l.length ≤ f → (∀ x ∈ l, WF x) → (∀ x ∈ l, IOK x) → ∀ x ∈ gath l, IOK x
 | _, [], _, _, _, x, hx => by simp [gath_nil] at hx
 | 0, _ :: _, hl, _, _, _, _ => by simp at hl
 | f + 1, y :: ys, hl, hw, ha, x, hx => by
  simp only [List.length_cons] at hl
  cases hc : cnt y with
  | none =>
   rw [gath_none ys hc] at hx
   rcases List.mem_cons.1 hx with rfl | hx
   ·exact ha x (by simp)
   ·exact gath_iok f ys (by omega) (fun y hy => hw y (by simp [hy])) (fun y hy => ha y (by simp [hy])) x hx
  | some q =>
   obtain ⟨it, n⟩ := q
   have hit := cnt_iok (hw y (by simp)) (ha y (by simp)) hc
   rw [gath_some ys hc] at hx
   rcases List.mem_append.1 hx with hx | hx
   ·rcases manyT_mem hx with rfl | ⟨m, h1, h2, rfl⟩
    ·exact hit
    ·exact hit.rep m
   ·exact gath_iok f _ (by simp; omega) (fun y hy => hw y (by simp [List.mem_of_mem_drop hy])) (fun y hy => ha y (by simp [List.mem_of_mem_drop hy])) x hx
theorem step_iok {t v : LT} (hw : WF t) (hi : IOK t) (hs : stepT t = some v) : IOK v := by
 cases t with
 | mk kind item long many kids shares =>
  have hwk : ∀ k ∈ kids, WF k := hw.kids
  have hik : ∀ k ∈ kids, IOK k := hi.kids
  obtain ⟨w1, w2, w3, w4, w5, w6, w7, w8, w9, w10⟩ := (WF_eq ..).mp hw
  rw [stepT_mk] at hs
  by_cases h1 : kind = 1
  ·rw [if_pos h1] at hs; cases hs
  rw [if_neg h1] at hs
  have hm := getD0_mem (w3 h1).2.2
  by_cases h5 : kind = 5
  ·rw [if_pos h5] at hs
   by_cases hmn : many = 1
   ·rw [if_pos hmn] at hs
    cases hs
    exact hik _ hm
   rw [if_neg hmn] at hs
   split at hs
   ·cases hs
    rw [repK, IOK_eq]
    exact ⟨fun h => by omega, (hik _ hm).kids⟩
   ·cases hs
  rw [if_neg h5] at hs
  by_cases hone : kids.length = 1
  ·rw [if_pos hone] at hs
   cases hs
   exact hik _ hm
  rw [if_neg hone] at hs
  by_cases h2 : kind = 2
  ·rw [if_pos h2] at hs
   split at hs
   ·cases hs
   ·cases hs
    have hfl : ∀ x ∈ flatT kids, WF x ∧ IOK x := fun x hx => by
     unfold flatT at hx
     obtain ⟨k, hk, hxk⟩ := List.mem_flatMap.1 hx
     split at hxk
     ·exact ⟨(hwk k hk).kids x hxk, (hik k hk).kids x hxk⟩
     ·rw [List.mem_singleton.1 hxk]; exact ⟨hwk k hk, hik k hk⟩
    rw [rowT, IOK_eq]
    exact ⟨fun h => by omega, gath_iok _ _ (Nat.le_refl _) (fun x hx => (hfl x hx).1) (fun x hx => (hfl x hx).2)⟩
  rw [if_neg h2] at hs
  by_cases h4 : kind = 4
  ·rw [if_pos h4] at hs
   split at hs
   ·cases hs
    rw [IOK_eq]
    exact ⟨fun h => by omega, hik⟩
   ·cases hs
  rw [if_neg h4] at hs
  split at hs
  ·cases hs
   exact hik _ hm
  ·cases hs
theorem fix_iok {N : Nat} : ∀ (g : Nat) {t : LT}, GoodN N g t → IOK t → IOK (fixT g t)
 | 0, _, _, h => h
 | g + 1, t, h, hi => by
  rw [fixT]
  cases e : stepT t with
  | none => exact hi
  | some v => exact fix_iok g (h.2 v e) (step_iok h.1.1 hi e)
theorem least_iok : ∀ t : LT, WF t → IOK t → IOK (leastF t)
 | .mk kind item long many kids shares, hw, hi => by
  have ih : ∀ k ∈ kids, IOK (leastF k) := fun k hk => least_iok k (hw.kids k hk) (hi.kids k hk)
  rw [leastF_eq]
  refine fix_iok 2 (least_good hw (Nat.le_refl _)) ?_
  rw [IOK_eq] at hi ⊢
  refine ⟨hi.1, fun k hk => ?_⟩
  obtain ⟨k2, h2, rfl⟩ := List.mem_map.1 hk
  exact ih k2 h2
theorem part_iok : ∀ t : LT, WF t → IOK t → partF t = 0
 | .mk kind item long many kids shares, hw, hi => by
  have ih : ∀ k ∈ kids, partF k = 0 := fun k hk => part_iok k (hw.kids k hk) (hi.kids k hk)
  obtain ⟨w1, w2, w3, w4, w5, w6, w7, w8, w9, w10⟩ := (WF_eq ..).mp hw
  rw [IOK_eq] at hi
  rw [partF_eq]
  have c1 : outB kind 1 5 = false := by simp [outB]; omega
  have c2 : formB kind item long many kids.length shares.length = false := by
   have e1 : (kind == 1 && (kids.length : Int) != 0) = false := by
    by_cases e : kind = 1
    ·rw [(w2 e).1]; simp
    ·simp [e]
   have e2 : (kind == 5 && (kids.length : Int) != 1) = false := by
    by_cases e : kind = 5
    ·have := w4 e; simp; omega
    ·simp [e]
   have e3 : (kind == 4 && (shares.length : Int) != (kids.length : Int)) = false := by
    by_cases e : kind = 4
    ·have := w6 e; simp; omega
    ·simp [e]
   have e4 : (kind != 4 && (shares.length : Int) != 0) = false := by
    by_cases e : kind = 4
    ·simp [e]
    ·have := w7 e; simp [this]
   have e5 : (kind != 5 && many != 0) = false := by
    by_cases e : kind = 5
    ·simp [e]
    ·have := w5 e; simp [this]
   have e6 : (kind != 1 && (kids.length : Int) == 0) = false := by
    by_cases e : kind = 1
    ·simp [e]
    ·have h0 := List.length_pos_iff.2 (w3 e).2.2
     simp; intro _ h; rw [h] at h0; simp at h0
   have e7 : (kind != 1 && (item != (⟨#[]⟩ : ByteArray) || long != 0)) = false := by
    by_cases e : kind = 1
    ·simp [e]
    ·have := w3 e
     rw [this.1, this.2.1]
     have : ((⟨#[]⟩ : ByteArray) != ⟨#[]⟩) = false := by decide
     rw [this]; simp
   unfold formB
   rw [e1, e2, e6, e3, e4, e7, e5]
   rfl
  have c3 : (kind == 1 && !keyB item) = false := by
   by_cases e : kind = 1
   ·rw [(hi.1 e).1]; simp
   ·simp [e]
  have c4 : (kind == 1 && outB long 1 3600000) = false := by
   by_cases e : kind = 1
   ·have := (hi.1 e).2; simp [outB]; omega
   ·simp [e]
  have c5 : (kind == 5 && outB many 1 100) = false := by
   by_cases e : kind = 5
   ·have := w4 e; simp [outB]; omega
   ·simp [e]
  have c6 : shares.any (fun n => outB n 1 1000) = false := by
   rw [List.any_eq_false]
   intro x hx
   have := w8 x hx
   simp [outB]; omega
  rw [c1, c2, c3, c4, c5, c6]
  simp only [Bool.false_eq_true, if_false]
  exact firstNZ_none _ fun x hx => by
   obtain ⟨k, hk, rfl⟩ := List.mem_map.1 hx
   exact ih k hk
theorem RT.iok : ∀ {d : Nat} {t : LT}, RT d t → IOK t
 | 0, _, h => h.elim
 | d + 1, .mk kind item long many kids shares, h => by
  rw [IOK_eq]
  rcases h with ⟨h1, h2, h3, h4, rfl, rfl⟩ | ⟨h1, h2, h3, h4, h5, h6, h7, h8, h9, h10⟩
  ·exact ⟨fun _ => ⟨(items_size _ h2).2, by omega⟩, by simp⟩
  ·exact ⟨fun h => by omega, fun k hk => (h10 k hk).iok⟩
structure SmallR (t y : LT) : Prop where
 wf : WF t
 kc : KC 23 y
 many : manyF y ≤ 1000000000000000
 fault : faultF y = 0
 vl : VL 23 y
 again : leastF y = y
 same : ∀ n, (passesU 23 y n).2 = (passesU 23 t n).2
theorem RT.small {t : LT} (h : RT 4 t) : SmallR t (leastF t) := by
 have hkc := (h.mono (e := 23) (by omega)).lc.kc
 have hp := h.part
 have hw := wf_of 23 t hkc hp
 have hm := h.many
 have hq := dq_least t 5 hw (dq_of_deep 4 t hw (by omega))
 obtain ⟨l1, l2, l3⟩ := least_ok t hw
 have hlv := lv_le t
 have e4 : mostR 4 = 40 := rfl
 have hlv2 : lv (leastF t) ≤ 40 := by omega
 have hk5 := kc_of 5 (leastF t) l2 hq (by omega)
 have hd := size_bd 5 (leastF t) hk5
 have hmn := many_le 5 (leastF t) l2 hq
 have hmn2 : manyF (leastF t) ≤ 200 := by omega
 have hpy := part_iok _ l2 (least_iok t hw h.iok)
 have hf : faultF (leastF t) = 0 := by
  unfold faultF
  rw [if_neg (by omega)]
  exact hpy
 have hvy := vl_of 23 (leastF t) (hk5.mono (by omega)) hpy
 exact ⟨hw, hk5.mono (by omega), by omega, hf, hvy, least_least hw, fun n => passes_least hw h.vl hvy n⟩
theorem sameS_all {xs ys : List (ByteArray × Int)} (h : ∀ i, xs.getD (i % xs.length) default = ys.getD (i % ys.length) default) : sameS xs ys = true := by
 unfold sameS sameTo
 rw [List.all_eq_true]
 intro i _
 rw [h i]
 unfold stepEq
 rw [ba_beq]
 simp
theorem small_same {t y : LT} (h : RT 4 t) (s : SmallR t y) (he : sameE 23 t y = 0) : sameA 23 t y = true := by
 have hft := h.fault
 have h1 : roundE 23 t = 0 ∧ roundE 23 y = 0 := by
  unfold sameE at he
  rw [if_neg (by simpa using hft), if_neg (by simpa using s.fault)] at he
  split at he
  ·rename_i hc; exact absurd he hc
  ·rename_i hc; exact ⟨by simpa using hc, he⟩
 have key : ∀ {u : LT}, roundE 23 u = 0 → RoundIs 23 u (roundN 23 u) := fun {u} hu => by
  refine roundN_is fun e => ?_
  rw [(roundS_none e).2] at hu; cases hu
 have k1 := key h1.1
 have k2 := key h1.2
 have r1 := (roundS_some k1).1
 have r2 := (roundS_some k2).1
 have n1 := roundS_pos h.vl h1.1
 have n2 := roundS_pos s.vl h1.2
 rw [sameA, if_pos he]
 have hall := rounds_same h.vl s.vl k1.1.1 k2.1.1 k1.2.2.1 k2.2.2.1 s.same (by rw [← r1]; exact List.length_pos_iff.1 n1) (by rw [← r2]; exact List.length_pos_iff.1 n2)
 rw [← r1, ← r2] at hall
 exact sameS_all hall
open Nat renaming reduceAdd → nA, reduceSub → nB, reduceMul → nC, reduceLT → nD, reduceLeDiff → nE, reduceEqDiff → nF, reduceMod → nG, reduceDiv → nH, reducePow → nI
abbrev zP1LE : List Nat := [0, 1, 2, 3, 4, 5, 6, 7, 8, 9, 10]
abbrev zP1LP : List (Nat × List Nat × List Nat) := []
attribute [go_sem] zP1LE zP1LP
set_option maxHeartbeats 8000000
theorem encX_weakL : ∀ (d : Nat) (t : LT), LC d t → ∀ (G : Gh) (us : List Value), RepL G (encX t) us → RepL G (encL t) us
 | 0, _, h => h.elim
 | d + 1, .mk kind item long many kids shares, hb => fun G us hu => by
  obtain ⟨b1, b2, b3, b4, b5, b6, b7, b8⟩ := hb
  rw [encX_eq] at hu
  rw [encL_eq]
  refine hu.of6 (fun _ h => h) (fun _ h => h) (fun _ h => h) (fun _ h => h) (fun x h => ?_) (fun x h => ?_)
  ·have hz : ∀ y ∈ kids.map encX, y.length = 6 := fun y hy => by obtain ⟨t, _, rfl⟩ := List.mem_map.1 hy; exact encX_len t
   have hz' : ∀ y ∈ kids.map encL, y.length = 6 := fun y hy => by obtain ⟨t, _, rfl⟩ := List.mem_map.1 hy; exact encL_len t
   have key : Rep G (.row 6 (kids.map encX) none) x := by
    cases kids with
    | nil => exact Weak.nil 6 0 0 ⟨rfl, rfl⟩ G x h
    | cons y ys => exact h
   refine key.rowFlat (GLe.refl G) (by simp) hz' (RepL.flat (by simp) hz fun i a b us2 h2 => ?_)
   simp only [List.length_map] at a
   simp only [List.getElem_map] at h2 ⊢
   exact encX_weakL d _ (b8 _ (List.getElem_mem _)) G us2 h2
  ·cases shares with
   | nil => exact Weak.nil 1 0 0 ⟨rfl, rfl⟩ G x h
   | cons y ys => exact h
theorem encX_weak (d : Nat) (t : LT) (hb : LC d t) : Weak (.agg (encX t)) (.agg (encL t)) := fun G v hr => by
 obtain ⟨vs, rfl, hvs⟩ := RepL.of_agg hr
 exact (encX_weakL d t hb G vs hvs).agg
def wantX (d : Nat) (t : LT) (n : Nat) : AV := if (passesU d t n).2.length ≤ 5000 then .row 2 ((passesU d t n).2.map encStep) none else .row 2 [] none
def wantE (d : Nat) (t : LT) (n : Nat) : Int := if (passesU d t n).2.length ≤ 5000 then 0 else 2
theorem FrP.le {a : AT} {o k : Nat} {h h1 h2 : Hp} (f : FrP a o k h1 h2) (ha : ∀ i ∈ idsT a, h.H i = none) (hc : ∀ c ∈ toksT a, h.T c = none) (ho : h.H o = none) (hk : h.T k = none) (k1 : ∀ i, h.H i ≠ none → h1.H i = h.H i) (k2 : ∀ c, h.T c ≠ none → h1.T c = h.T c) : Hp.le h h2 :=
 ⟨fun i => by
  by_cases e : h.H i = none
  ·exact .inl e
  ·exact .inr ((f.1 i (fun hi => e (ha i hi)) (fun hi => e (by rw [hi]; exact ho))).trans (k1 i e)).symm, fun c => by
  by_cases e : h.T c = none
  ·exact .inl e
  ·exact .inr ((f.2 c (fun hi => e (hc c hi)) (fun hi => e (by rw [hi]; exact hk))).trans (k2 c e)).symm⟩
theorem g_passes (d : Nat) (t : LT) (many : Int) (h : Hp) (hb : KC d t) (hd : manyF t ≤ 1000000000000000 ∧ d ≤ 1000) (hmb : NB many) :
  ACalls Tryz.prog 17 [.agg (encL t), .v (.int .i64 many)] h (fun r _ => r = .tup [if faultF t = 0 ∧ 0 ≤ many ∧ many ≤ 5000 then wantX d t many.toNat else .row 2 [] none, .v (.int .i64 (if faultF t = 0 then if 0 ≤ many ∧ many ≤ 5000 then wantE d t many.toNat else 1 else faultF t))]) := by
 have hlen := encL_len t
 have htk : List.take 6 (encL t) = encL t := List.take_of_length_le (Nat.le_of_eq hlen)
 refine gE Tryz.func17 rfl (by kernel_rfl) 31 rfl fun c => ?_
 (repeat (first | refine gO rfl ?_ | (refine gM zM40 fun K1 hK1 => ?_; simp only [go_sem, ↓reduceIte, reduceCtorEq, nA, nB, nC, nD, nE, nF, hlen, htk] <;> and_intros <;> first | (apply hK1; clear hK1 K1) | skip)))
 refine (g_check7 d t h hb hd).mono ?_; rintro _ hz ⟨rfl, hh⟩; apply hK1; clear hK1 K1; rw [hh]; clear hh hz
 (repeat (first | refine gO rfl ?_ | (refine gM zM40 fun K1 hK1 => ?_; simp only [go_sem, ↓reduceIte, reduceCtorEq, nA, nB, nC, nD, nE, nF, hlen, htk] <;> and_intros <;> (apply hK1; clear hK1 K1))))
 refine awp_cond (t := _) rfl (fun h3 => ?_) (fun h3 => ?_)
 ·(repeat (first | refine gO rfl ?_ | (refine gM zM40 fun K1 hK1 => ?_; simp only [go_sem, ↓reduceIte, reduceCtorEq, nA, nB, nC, nD, nE, nF] <;> and_intros <;> (apply hK1; clear hK1 K1))))
  simp only [Tryz.results17, go_sem, ↓reduceIte, reduceCtorEq, nA, nB, nC, nD, nE, nF]
  have h3' : faultF t ≠ 0 := by simpa using h3
  refine ⟨_, _, Weak.tup1 (Weak.nil 2 0 0 ⟨rfl, rfl⟩) (Weak.refl _), Hp.le.refl _, ?_⟩
  rw [if_neg (fun h => h3' h.1), if_neg h3']
 have h3' : faultF t = 0 := by simpa using h3
 have hv : VL d t := vl_of d t hb (by unfold faultF at h3'; split at h3'; cases h3'; exact h3')
 (repeat (first | refine gO rfl ?_ | (refine gM zM40 fun K1 hK1 => ?_; simp only [go_sem, ↓reduceIte, reduceCtorEq, nA, nB, nC, nD, nE, nF] <;> and_intros)))
 refine (a_outside many 0 5000 h).mono ?_; rintro _ hz ⟨rfl, hh⟩; apply hK1; clear hK1 K1; rw [hh]; clear hh hz
 (repeat ((refine gO rfl ?_)))
 refine awp_cond (t := _) rfl (fun h4 => ?_) (fun h4 => ?_)
 ·(repeat (first | refine gO rfl ?_ | (refine gM zM40 fun K1 hK1 => ?_; simp only [go_sem, ↓reduceIte, reduceCtorEq, nA, nB, nC, nD, nE, nF] <;> and_intros <;> (apply hK1; clear hK1 K1))))
  simp only [Tryz.results17, go_sem, ↓reduceIte, reduceCtorEq, nA, nB, nC, nD, nE, nF]
  have h4' : ¬ (0 ≤ many ∧ many ≤ 5000) := by simp at h4; omega
  refine ⟨_, _, Weak.tup1 (Weak.nil 2 0 0 ⟨rfl, rfl⟩) (Weak.refl _), Hp.le.refl _, ?_⟩
  rw [if_neg (fun h => h4' h.2), if_pos h3', if_neg h4']
 have h4' : 0 ≤ many ∧ many ≤ 5000 := by simp at h4; omega
 (repeat (first | refine gQ rfl ?_ | (refine gM zM40 fun K1 hK1 => ?_; simp only [go_sem, ↓reduceIte, reduceCtorEq, nA, nB, nC, nD, nE, nF, hlen, htk] <;> and_intros)))
 refine (g_newPart d t h hb).mono ?_
 rintro _ h1 ⟨a, rfl, hR, hS, hn1, hn2, hk1, hk2⟩
 refine hK1 _ ?_; clear hK1 K1
 first | refine gO rfl ?_ | (refine gM zM40 fun K1 hK1 => ?_; simp only [go_sem, ↓reduceIte, reduceCtorEq, nA, nB, nC, nD, nE, nF] <;> and_intros <;> first | (apply hK1; clear hK1 K1) | (intros; first | omega | decide | (simp_all <;> omega)) | skip)
 intro o ho
 refine hK1 _ ?_; clear hK1 K1
 refine vRem_nil ?_
 refine awp_ownPtr (cs := [.v (.slice none 0 0), .v (.int .i64 5000)]) o 0 2 (upd_same _ _ _) rfl (fun k hk => ?_)
 simp only [List.set_cons_zero, upd_upd]
 replace hk : h1.T k = none := hk
 replace ho : h1.H o = none := ho
 have hoa : o ∉ idsT a := fun hx => hR.ne.1 o hx ho
 have hka : k ∉ toksT a := fun hx => hR.ne.2 k hx hk
 skip
 refine awp_seq ?_
 (repeat (first | refine gO rfl ?_ | (refine gM zM40 fun K1 hK1 => ?_; simp only [go_sem, ↓reduceIte, reduceCtorEq, nA, nB, nC, nD, nE, nF] <;> and_intros <;> (apply hK1; clear hK1 K1))))
 refine awp_loopC (rl false [7, 2, 11, 2, 11]) 0 (fun g s => ∃ (j : Nat) (h2 : Hp) (s' : PS) (out : List (ByteArray × Int)), g + j = many.toNat ∧ RAt XP h2 d t a s' ∧ OutAt h2 o k oEx out ∧ PSB d t s' out.length ∧ out.length ≤ 5001 ∧ ((passesU d t j).2.length ≤ 5000 → s' = (passesU d t j).1 ∧ out = (passesU d t j).2) ∧ (5000 < (passesU d t j).2.length → out.length = 5001) ∧
  s = ⟨((jnk 7 ((.ptr a.id 0) :: (.ptr o 0) :: (jnk 11 ((.v (.int .i64 many)) :: (.v (.int .i64 j)) :: (jnk 11 [])))))), [], h2⟩) many.toNat ⟨0, _, ps0 t, [], by omega, hR.frame (fun x hx => upd_other _ _ (fun e => by subst e; exact hoa hx)) (fun x hx => upd_other _ _ (fun e => by subst e; exact hka hx)), ⟨upd_same _ _ _, upd_same _ _ _⟩, psb0 d t, by simp, fun _ => ⟨rfl, rfl⟩, fun h => by simp [passesU] at h, rfl⟩ ?_
 rintro g _ ⟨j, h2, s', out, hj, hR2, hO2, hB2, hl2, he, ho5, rfl⟩
 (repeat (first | refine gO rfl ?_ | (refine gM zM40 fun K1 hK1 => ?_; simp only [go_sem, ↓reduceIte, reduceCtorEq, nA, nB, nC, nD, nE, nF] <;> and_intros <;> (apply hK1; clear hK1 K1))))
 refine awp_cond (t := _) rfl (fun h5 => ?_) (fun h5 => ?_)
 ·simp only [decide_eq_true_eq] at h5
  (repeat (first | refine gO rfl ?_ | (refine gM zM40 fun K1 hK1 => ?_; simp only [go_sem, ↓reduceIte, reduceCtorEq, nA, nB, nC, nD, nE, nF] <;> and_intros)))
  refine (g_passP d t a s' h2 o k out hv hR2 hS hB2 hO2 hoa hl2).mono ?_
  rintro r h6 ⟨rfl, s2, out2, hR6, hO6, _, q1, q2, q3⟩
  have e5 : (passesU d t (j + 1)).2.length = (passesU d t j).2.length + (passU d t (passesU d t j).1).2.length := by simp only [passesU, List.length_append]
  refine hK1 _ ?_; clear hK1 K1
  (repeat (first | refine gO rfl ?_ | (refine gM zM40 fun K1 hK1 => ?_; simp only [go_sem, ↓reduceIte, reduceCtorEq, nA, nB, nC, nD, nE, nF] <;> and_intros <;> first | (apply hK1; clear hK1 K1) | (intros; (omega)))))
  have hpo := passU_ok d t s' out.length hv hR2.fits (by omega) hB2
  by_cases hf : 5000 < out.length
  ·obtain ⟨rfl, rfl⟩ := q1 hf
   refine ⟨g - 1, by omega, j + 1, h6, _, _, by omega, hR6, hO6, hB2, hl2, fun h => ?_, fun h => by omega, rfl⟩
   have := he (by omega)
   rw [this.2] at hf
   omega
  ·have hex : (passesU d t j).2.length ≤ 5000 := by
    by_cases hx : (passesU d t j).2.length ≤ 5000
    ·exact hx
    ·have := ho5 (by omega); omega
   obtain ⟨rfl, rfl⟩ := he hex
   by_cases hle : (passesU d t j).2.length + (passU d t (passesU d t j).1).2.length ≤ 5000
   ·obtain ⟨rfl, rfl⟩ := q2 hex hle
    exact ⟨g - 1, by omega, j + 1, h6, _, _, by omega, hR6, hO6, by rw [List.length_append]; exact_mod_cast hpo.2.1, by rw [List.length_append]; omega, fun _ => ⟨rfl, rfl⟩, fun h => by omega, rfl⟩
   ·obtain ⟨p1, p2⟩ := q3 hex (by omega)
    exact ⟨g - 1, by omega, j + 1, h6, s2, out2, by omega, hR6, hO6, by rw [p1]; exact p2, by omega, fun h => by omega, fun _ => p1, rfl⟩
 ·simp only [decide_eq_false_iff_not] at h5
  have hjm : j = many.toNat := by omega
  subst hjm
  (repeat (first | refine gO rfl ?_ | (refine gM zM40 fun K1 hK1 => ?_; simp only [go_sem, ↓reduceIte, reduceCtorEq, nA, nB, nC, nD, nE, nF] <;> and_intros)))
  refine (g_full28 o k h2 out hO2).mono ?_; rintro _ hz ⟨rfl, hh⟩; apply hK1; clear hK1 K1; rw [hh]; clear hh hz
  (repeat ((refine gO rfl ?_)))
  refine awp_cond (t := _) rfl (fun h6 => ?_) (fun h6 => ?_)
  ·simp only [decide_eq_true_eq] at h6
   (repeat (first | refine gO rfl ?_ | (refine gM zM40 fun K1 hK1 => ?_; simp only [go_sem, ↓reduceIte, reduceCtorEq, nA, nB, nC, nD, nE, nF] <;> and_intros <;> (apply hK1; clear hK1 K1))))
   simp only [Tryz.results17, go_sem, ↓reduceIte, reduceCtorEq, nA, nB, nC, nD, nE, nF]
   refine ⟨_, _, Weak.tup1 (Weak.nil 2 0 0 ⟨rfl, rfl⟩) (Weak.refl _), Hp.le.refl _, ?_⟩
   have hbig : ¬ (passesU d t many.toNat).2.length ≤ 5000 := fun hx => by have := (he hx).2; rw [this] at h6; omega
   rw [if_pos ⟨h3', h4'⟩, if_pos h3', if_pos h4', wantX, wantE, if_neg hbig, if_neg hbig]
  ·simp only [decide_eq_false_iff_not] at h6
   have hO20 : h2.H o = some (.cells [.row 2 (out.map encStep) (some k), .v (.int .i64 5000)]) := hO2.1
   (repeat (first | refine gO rfl ?_ | (refine gM zM40 fun K1 hK1 => ?_; simp only [go_sem, ↓reduceIte, reduceCtorEq, nA, nB, nC, nD, nE, nF, hO20] <;> and_intros <;> (apply hK1; clear hK1 K1))))
   simp only [Tryz.results17, go_sem, ↓reduceIte, reduceCtorEq, nA, nB, nC, nD, nE, nF]
   refine ⟨_, _, Weak.tup1 (Weak.row _ _ _) (Weak.refl _), Hp.le.refl _, ?_⟩
   have hsm : (passesU d t many.toNat).2.length ≤ 5000 := by
    by_cases hx : (passesU d t many.toNat).2.length ≤ 5000
    ·exact hx
    ·have := ho5 (by omega); omega
   rw [if_pos ⟨h3', h4'⟩, if_pos h3', if_pos h4', wantX, wantE, if_pos hsm, if_pos hsm, (he hsm).2]
open Go.RowKit
def EqSRel (n : Nat) (w : World) (g : Nat) (i : Value) (wr : World) : Prop := ∃ k : Nat, k + g = n ∧ i = .int .i64 k ∧ ∃ q, wr = w.drewN q
set_option maxRecDepth 100000 in
set_option maxHeartbeats 1000000 in
theorem equalS_same (g o g' o' n c c' : Nat) (s : Nat → ByteArray) (v : Nat → Int) (w : World) (hn : n ≤ 1000000000)
    (h1 : ∀ k, k < n → w.cell? ⟨g, o + k * 2, none⟩ = some (.string (s k)) ∧ w.cell? ⟨g, o + k * 2 + 1, none⟩ = some (.int .i64 (v k))) (h2 : ∀ k, k < n → w.cell? ⟨g', o' + k * 2, none⟩ = some (.string (s k)) ∧ w.cell? ⟨g', o' + k * 2 + 1, none⟩ = some (.int .i64 (v k))) :
    Calls Tryz.prog 18 #[.slice (some ⟨g, o, none⟩) n c, .slice (some ⟨g', o', none⟩) n c'] w fun e w' => e = .returned (.bool true) ∧ ∃ q, w' = w.drewN q := by
  have H1 := Lib.hid h1
  have H2 := Lib.hid h2
  clear h1 h2
  go_enter Tryz.func18, Tryz.ntmps18
  go_wp2_with fail
  go_loopg [13, 5] n (fun gg i _ wr => EqSRel n w gg i wr)
  case atStart => exact ⟨0, by omega, rfl, 0, rfl⟩
  case round =>
    obtain ⟨k, hk, rfl, q, rfl⟩ := hrel
    by_cases hg : gk = 0
    · obtain rfl : k = n := by omega
      clear hk hg
      go_wp2_with fail
      go_ret
      exact ⟨rfl, _, rfl⟩
    · have hlt : k < n := by omega
      obtain ⟨c0, c1⟩ := H1.out k hlt
      obtain ⟨d0, d1⟩ := H2.out k hlt
      generalize s k = s1 at *
      generalize v k = v1 at *
      have HK := Lib.hid hk
      have hgk : gk ≠ 0 := hg
      clear hk hg
      have hlt' : (k : Int) < (n : Int) := by omega
      go_wp2_with fail
      go_quiet (fail)
      go_wp2_with fail
      go_roundg (gk - 1)
      case measure => omega
      case rel => exact ⟨k + 1, by have := HK.out; omega, by go_num, _, rfl⟩
set_option maxRecDepth 100000 in
theorem equalS_nil (a a' : Option Addr) (c c' : Nat) (w : World) :
    Calls Tryz.prog 18 #[.slice a 0 c, .slice a' 0 c'] w fun e w' => e = .returned (.bool true) ∧ ∃ q, w' = w.drewN q := by
  go_enter Tryz.func18, Tryz.ntmps18
  go_wp2_with fail
  go_loopg [13, 5] 0 (fun gg i _ wr => EqSRel 0 w gg i wr)
  case atStart => exact ⟨0, by omega, rfl, 0, rfl⟩
  case round =>
    obtain ⟨k, hk, rfl, q, rfl⟩ := hrel
    obtain rfl : k = 0 := by omega
    go_wp2_with fail
    go_ret
    exact ⟨rfl, _, rfl⟩
theorem rep_v_inv {G : Gh} {x y : Value} (h : Rep G (.v x) y) : y = x := by cases h; rfl
theorem rep_row2 {G : Gh} {xs : List (ByteArray × Int)} {v : Value} (h : Rep G (.row 2 (xs.map encStep) none) v) : (xs = [] ∧ ∃ a c, v = .slice a 0 c) ∨ ∃ g o c, v = .slice (some ⟨g, o, none⟩) xs.length c ∧
  ∀ k, k < xs.length → G.val g (o + k * 2) = some (.string (xs.getD k default).1) ∧ G.val g (o + k * 2 + 1) = some (.int .i64 (xs.getD k default).2) := by
 generalize hx : xs.map encStep = ys at h
 cases h with
 | nil => exact .inl ⟨by simpa using hx, none, 0, rfl⟩
 | nilA _ a => exact .inl ⟨by simpa using hx, a, 0, rfl⟩
 | row _ _ _ g o n c u hn hc hz hu hr h1 ht =>
  have hnx : n = xs.length := by rw [← hn, ← hx, List.length_map]
  subst hnx
  refine .inr ⟨g, o, c, rfl, fun k hk => ?_⟩
  have hfl := flatten_len hz
  have hzk : ys[k]? = some (encStep (xs.getD k default)) := by rw [← hx, List.getElem?_map, List.getD_eq_getElem?_getD, List.getElem?_eq_getElem hk]; rfl
  have hky : k < ys.length := by omega
  have hkey : ∀ j, j < 2 → ∀ a, (encStep (xs.getD k default))[j]? = some (.v a) → G.val g (o + (k * 2 + j)) = some a := fun j hj a ha => by
   have hlt : k * 2 + j < ys.flatten.length := by rw [hfl]; omega
   have e1 := flatten_at hz hky hj
   rw [show ys[k] = encStep (xs.getD k default) by rw [List.getElem?_eq_getElem hky] at hzk; simpa using hzk, ha, List.getElem?_eq_getElem hlt] at e1
   have e2 := hr (k * 2 + j) hlt
   rw [Option.some.inj e1] at e2
   rw [hu (k * 2 + j) (by omega), rep_v_inv e2]
  exact ⟨hkey 0 (by omega) _ rfl, by rw [Nat.add_assoc]; exact hkey 1 (by omega) _ rfl⟩
theorem g_equal12 (xs : List (ByteArray × Int)) (h : Hp) (hl : xs.length ≤ 1000000000) : ACalls Tryz.prog 18 [.row 2 (xs.map encStep) none, .row 2 (xs.map encStep) none] h (fun r h' => r = .v (.bool true) ∧ h' = h) := by
 refine ⟨by kernel_rfl, fun G w vs hs hv ha => ?_⟩
 have h0 := ha 0 (by simp)
 have h1 := ha 1 (by simp)
 have hvs : vs = #[vs.getD 0 undef, vs.getD 1 undef] := by
  have hv2 : vs.size = 2 := hv
  apply Array.ext (by simpa using hv2)
  intro j hj hj'
  simp only [List.size_toArray, List.length_cons, List.length_nil] at hj'
  match j, hj' with
  | 0, _ => simp [Array.getD, hv2]
  | 1, _ => simp [Array.getD, hv2]
  | j + 2, h => omega
 rw [hvs]
 generalize vs.getD 0 undef = v0 at *
 generalize vs.getD 1 undef = v1 at *
 have fin : ∀ e w', (e = .returned (.bool true) ∧ ∃ q, w' = w.drewN q) → ∃ r h' G' v, e = Ending.returned v ∧ (r = AV.v (.bool true) ∧ h' = h) ∧ GLe G G' ∧ Fr G h w G' h' w' ∧ HSim G' h' w' ∧ Rep G' r v := by
  rintro _ _ ⟨rfl, q, rfl⟩
  exact ⟨_, h, G, _, rfl, ⟨rfl, rfl⟩, GLe.refl _, Fr.below (Fr.refl _ _ _) (fun _ _ => rfl) rfl rfl rfl (Nat.le_refl _), hs.below (fun _ _ => rfl), .v _ rfl⟩
 rcases rep_row2 h0 with ⟨hx, a, c, rfl⟩ | ⟨g, o, c, rfl, hc⟩
 ·rcases rep_row2 h1 with ⟨_, a', c', rfl⟩ | ⟨g', o', c', rfl, hc'⟩
  ·exact (equalS_nil a a' c c' w).mono fin
  ·subst hx
   exact (equalS_nil a (some ⟨g', o', none⟩) c c' w).mono fin
 ·rcases rep_row2 h1 with ⟨hx, a', c', rfl⟩ | ⟨g', o', c', rfl, hc'⟩
  ·subst hx
   exact (equalS_nil (some ⟨g, o, none⟩) a' c c' w).mono fin
  ·exact (equalS_same g o g' o' xs.length c c' (fun k => (xs.getD k default).1) (fun k => (xs.getD k default).2) w hl (fun k hk => ⟨hs.cell _ _ _ (hc k hk).1, hs.cell _ _ _ (hc k hk).2⟩) (fun k hk => ⟨hs.cell _ _ _ (hc' k hk).1, hs.cell _ _ _ (hc' k hk).2⟩)).mono fin
abbrev zP1ME : List Nat := [0, 1, 2, 3, 4, 5]
abbrev zP1MP : List (Nat × List Nat × List Nat) := [(6, [5], [7, 8])]
attribute [go_sem] zP1ME zP1MP
def cntD (t : LT) : LT × Int := (cnt t).getD (default, 0)
theorem len_one {α : Type} {l : List α} (h : l.length = 1) : ∃ x, l = [x] := by
 match l, h with
 | [x], _ => exact ⟨x, rfl⟩
theorem Weak.zeroL : Weak (.agg [.v (.int .i64 0), .v (.string ⟨#[]⟩), .v (.int .i64 0), .v (.int .i64 0), .v (.slice none 0 0), .v (.slice none 0 0)]) (.agg (encL default)) := by
 rw [show (default : LT) = .mk 0 ⟨#[]⟩ 0 0 [] [] from rfl, encL_eq]
 exact Weak.agg (.cons (Weak.refl _) (.cons (Weak.refl _) (.cons (Weak.refl _) (.cons (Weak.refl _) (.cons (Weak.nil 6 0 0 ⟨rfl, rfl⟩) (.cons (Weak.nil 1 0 0 ⟨rfl, rfl⟩) .nil))))))
theorem Weak.tupC {a a' : AV} {xs : List AV} (ha : Weak a a') : Weak (.tup (a :: xs)) (.tup (a' :: xs)) := fun G v hr => by
 cases hr with
 | tup _ vs u hl hu hr =>
  refine .tup _ vs u (by simpa using hl) (fun j hj => hu j (by simpa using hj)) (fun j hj => ?_)
  cases j with
  | zero => exact ha G _ (hr 0 (by simp))
  | succ j => exact hr (j + 1) (by simpa using hj)
theorem g_cntP (t : LT) (h : Hp) (hw : WF t) : ACalls Tryz.prog 266 [.agg (encL t)] h (fun r h' => r = .tup (.agg (encL (cntD t).1) :: .v (.int .i64 (cntD t).2) :: [.v (.bool (cnt t).isSome)]) ∧ h' = h) := by
 cases t with
 | mk k i l m ks s =>
 have w4 := ((WF_eq ..).mp hw).2.2.2.1
 by_cases h1 : k = 1
 ·have e1 : (k == 1) = true := by simpa using h1
  have hc : cnt (.mk k i l m ks s) = some (.mk k i l m ks s, 1) := by rw [cnt_mk, if_pos h1]
  rw [cntD, hc, encL_eq]
  refine gE Tryz.func266 rfl (by kernel_rfl) 28 rfl fun c => ?_
  (repeat' (first | refine gO rfl ?_ | ((first | refine gM zM41 ?_ | (with_reducible refine wM ?_ ?_) | ((with_reducible refine xS ?_); refine uD 4 zM41 zP1ME zP1MP 29 rfl (by kernel_rfl) ?_)) <;> ((try with_reducible intro K1 hK1); simp only [go_sem, ↓reduceIte, reduceCtorEq, nA, nB, nC, nD, nE, nF, e1] <;> and_intros <;> first | (apply hK1; clear hK1 K1) | (intros; first | omega | decide | (simp_all <;> omega)) | skip)) | (refine awp_cond (t := _) rfl (fun hcnd => ?_) (fun hcnd => ?_) <;> first | (cases hcnd; done) | (simp only [hcnd]) | skip)))
  simp only [Tryz.results266, go_sem, ↓reduceIte, reduceCtorEq, nA, nB, nC, nD, nE, nF]
  exact ⟨_, _, Weak.refl _, Hp.le.refl _, by simp only [Option.getD_some, encL_eq, Option.isSome_some], rfl⟩
 have e1 : (k == 1) = false := by simpa using h1
 by_cases h5 : k = 5
 ·have e5 : (k == 5) = true := by simpa using h5
  obtain ⟨x, rfl⟩ := len_one (w4 h5).1
  cases x with
  | mk k2 i2 l2 m2 ks2 s2 =>
  by_cases h2 : k2 = 1
  ·have e2 : (k2 == 1) = true := by simpa using h2
   have hc : cnt (.mk k i l m [.mk k2 i2 l2 m2 ks2 s2] s) = some (.mk k2 i2 l2 m2 ks2 s2, m) := by rw [cnt_mk, if_neg h1, if_pos ⟨h5, h2⟩]; rfl
   rw [cntD, hc, encL_eq]
   refine gE Tryz.func266 rfl (by kernel_rfl) 28 rfl fun c => ?_
   (repeat' (first | refine gO rfl ?_ | ((first | refine gM zM41 ?_ | (with_reducible refine wM ?_ ?_) | ((with_reducible refine xS ?_); refine uD 4 zM41 zP1ME zP1MP 29 rfl (by kernel_rfl) ?_)) <;> ((try with_reducible intro K1 hK1); simp only [go_sem, ↓reduceIte, reduceCtorEq, nA, nB, nC, nD, nE, nF, e1, e5, e2, encL_eq, Int.toNat_zero] <;> and_intros <;> first | (apply hK1; clear hK1 K1) | (intros; first | omega | decide | (simp_all <;> omega)) | skip)) | (refine awp_cond (t := _) rfl (fun hcnd => ?_) (fun hcnd => ?_) <;> first | (cases hcnd; done) | (simp only [hcnd]) | skip)))
   simp only [Tryz.results266, go_sem, ↓reduceIte, reduceCtorEq, nA, nB, nC, nD, nE, nF]
   exact ⟨_, _, Weak.refl _, Hp.le.refl _, by simp only [Option.getD_some, encL_eq, Option.isSome_some], rfl⟩
  ·have e2 : (k2 == 1) = false := by simpa using h2
   have hc : cnt (.mk k i l m [.mk k2 i2 l2 m2 ks2 s2] s) = none := by rw [cnt_mk, if_neg h1, if_neg]; exact fun h => h2 h.2
   rw [cntD, hc, encL_eq]
   refine gE Tryz.func266 rfl (by kernel_rfl) 28 rfl fun c => ?_
   (repeat' (first | refine gO rfl ?_ | ((first | refine gM zM41 ?_ | (with_reducible refine wM ?_ ?_) | ((with_reducible refine xS ?_); refine uD 4 zM41 zP1ME zP1MP 29 rfl (by kernel_rfl) ?_)) <;> ((try with_reducible intro K1 hK1); simp only [go_sem, ↓reduceIte, reduceCtorEq, nA, nB, nC, nD, nE, nF, e1, e5, e2, encL_eq, Int.toNat_zero] <;> and_intros <;> first | (apply hK1; clear hK1 K1) | (intros; first | omega | decide | (simp_all <;> omega)) | skip)) | (refine awp_cond (t := _) rfl (fun hcnd => ?_) (fun hcnd => ?_) <;> first | (cases hcnd; done) | (simp only [hcnd]) | skip)))
   simp only [Tryz.results266, go_sem, ↓reduceIte, reduceCtorEq, nA, nB, nC, nD, nE, nF]
   exact ⟨_, _, Weak.tupC Weak.zeroL, Hp.le.refl _, by simp only [Option.getD_none, Option.isSome_none], rfl⟩
 ·have e5 : (k == 5) = false := by simpa using h5
  have hc : cnt (.mk k i l m ks s) = none := by rw [cnt_mk, if_neg h1, if_neg]; exact fun h => h5 h.1
  have hne := (((WF_eq ..).mp hw).2.2.1 h1).2.2
  rw [cntD, hc, encL_eq]
  obtain ⟨x, xs, rfl⟩ := List.exists_cons_of_ne_nil hne
  cases x with
  | mk k2 i2 l2 m2 ks2 s2 =>
  refine gE Tryz.func266 rfl (by kernel_rfl) 28 rfl fun c => ?_
  (repeat' (first | refine gO rfl ?_ | ((first | refine gM zM41 ?_ | (with_reducible refine wM ?_ ?_) | ((with_reducible refine xS ?_); refine uD 4 zM41 zP1ME zP1MP 29 rfl (by kernel_rfl) ?_)) <;> ((try with_reducible intro K1 hK1); simp only [go_sem, ↓reduceIte, reduceCtorEq, nA, nB, nC, nD, nE, nF, e1, e5, encL_eq, Int.toNat_zero] <;> and_intros <;> first | (apply hK1; clear hK1 K1) | (intros; first | omega | decide | (simp_all <;> omega)) | skip)) | (refine awp_cond (t := _) rfl (fun hcnd => ?_) (fun hcnd => ?_) <;> first | (cases hcnd; done) | (simp only [hcnd]) | skip)))
  simp only [Tryz.results266, go_sem, ↓reduceIte, reduceCtorEq, nA, nB, nC, nD, nE, nF]
  exact ⟨_, _, Weak.tupC Weak.zeroL, Hp.le.refl _, by simp only [Option.getD_none, Option.isSome_none], rfl⟩
theorem g_anyF (fid : Nat) (caps : List AV) (ts : List LT) (q : LT → Bool) (h : Hp) (hl : ts.length ≤ 1000)
  (hf : ∀ t ∈ ts, ACalls Tryz.prog fid (.agg (encL t) :: caps) h (fun r h' => r = .v (.bool (q t)) ∧ h' = h)) :
  ACalls Tryz.prog 197 [.row 6 (ts.map encL) none, .fn fid caps] h (fun r h' => r = .v (.bool (ts.any q)) ∧ h' = h) := by
 refine (g_contains41 fid caps (ts.map encL) (fun j hj => ?_) (by simp; omega) (fun j h' => h' = h ∧ (ts.take j).any q = false) (fun j h' => h' = h ∧ q (ts.getD j default) = true) h ⟨rfl, rfl⟩ ?_).mono ?_
 ·have hj' : j < ts.length := by simpa using hj
  rw [show (ts.map encL).getD j [] = encL (ts.getD j default) from getD_enc encL ts j default hj']
  exact encL_len _
 ·rintro j h' hj ⟨rfl, hI⟩
  have hj' : j < ts.length := by simpa using hj
  rw [show (ts.map encL).getD j [] = encL (ts.getD j default) from getD_enc encL ts j default hj']
  refine (hf _ (getD_mem' ts j default hj')).mono ?_
  rintro _ h2 ⟨rfl, hh⟩
  refine ⟨_, rfl, fun hb => ⟨hh, hb⟩, fun hb => ⟨hh, ?_⟩⟩
  rw [take_snoc ts j default hj', List.any_append, hI]
  simp only [List.any_cons, List.any_nil, hb, Bool.or_false]
 ·rintro _ h' (⟨j, hj, rfl, hh, hb⟩ | ⟨rfl, hh, hI⟩)
  ·have hj' : j < ts.length := by simpa using hj
   exact ⟨by rw [List.any_eq_true.2 ⟨_, getD_mem' ts j default hj', hb⟩], hh⟩
  ·rw [List.length_map, List.take_length] at hI
   exact ⟨by rw [hI], hh⟩
theorem g_plainP (n : Nat) : ∀ (t : LT) (h : Hp), SizeOf.sizeOf t ≤ n → BL t → ACalls Tryz.prog 208 [.agg (encL t)] h (fun r h' => r = .v (.bool (plainT t)) ∧ h' = h) := by
 induction n with
 | zero =>
  rintro ⟨k, i, l, m, ks, s⟩ h hn
  rw [LT.mk.sizeOf_spec] at hn
  omega
 | succ n ih =>
  rintro ⟨k, i, l, m, ks, s⟩ h hn ha
  rw [BL_eq] at ha
  obtain ⟨a1, a2, a3⟩ := ha
  have hany := g_anyF 268 [] ks (fun t => !plainT t) h a1 (fun t ht => by
   have hlen := encL_len t
   have htk : List.take 6 (encL t) = encL t := List.take_of_length_le (Nat.le_of_eq hlen)
   have hdr : List.drop 6 (encL t) = [] := List.drop_of_length_le (Nat.le_of_eq hlen)
   refine gE Tryz.func268 rfl (by kernel_rfl) 5 rfl fun c => ?_
   (repeat (first | refine gO rfl ?_ | (refine gR fun K1 hK1 => ?_; simp only [go_sem, ↓reduceIte, reduceCtorEq, nA, nB, nC, nD, nE, nF, hlen, htk, hdr] <;> and_intros <;> first | (apply hK1; clear hK1 K1) | skip)))
   refine (ih t h (by
    have := kid_size (kind := k) (item := i) (long := l) (many := m) (shares := s) ht
    omega) (a3 _ ht)).mono ?_; rintro _ hz ⟨rfl, hh⟩; apply hK1; clear hK1 K1; rw [hh]; clear hh hz
   (repeat (first | refine gO rfl ?_ | (refine gR fun K1 hK1 => ?_; simp only [go_sem, ↓reduceIte, reduceCtorEq, nA, nB, nC, nD, nE, nF] <;> and_intros <;> (apply hK1; clear hK1 K1))))
   simp only [Tryz.results268, go_sem, ↓reduceIte, reduceCtorEq, nA, nB, nC, nD, nE, nF]
   exact ⟨_, _, Weak.refl _, Hp.le.refl _, rfl, rfl⟩)
  rw [plainT_eq, encL_eq]
  have key : ∀ q3 q4 : Bool, (k != 3) = q3 → (k != 4) = q4 → ACalls Tryz.prog 208 [.agg [.v (.int .i64 k), .v (.string i), .v (.int .i64 l), .v (.int .i64 m), .row 6 (ks.map encL) none, .row 1 (s.map encI) none]] h
    (fun r h' => r = .v (.bool (q3 && q4 && ks.all plainT)) ∧ h' = h) := by
   intro q3 q4 h3 h4
   refine gE Tryz.func208 rfl (by kernel_rfl) 16 rfl fun c => ?_
   cases q3
   ·(repeat (first | refine gO rfl ?_ | (refine gR fun K1 hK1 => ?_; simp only [go_sem, ↓reduceIte, reduceCtorEq, nA, nB, nC, nD, nE, nF, h3] <;> and_intros <;> first | (apply hK1; clear hK1 K1) | skip)))
    refine ⟨.v (.bool false), rfl, True.intro, hK1 _ ?_⟩; clear hK1 K1
    (repeat ((refine gO rfl ?_)))
    simp only [Tryz.results208, go_sem, ↓reduceIte, reduceCtorEq, nA, nB, nC, nD, nE, nF]
    exact ⟨_, _, Weak.refl _, Hp.le.refl _, rfl, rfl⟩
   cases q4
   ·(repeat (first | refine gO rfl ?_ | (refine gR fun K1 hK1 => ?_; simp only [go_sem, ↓reduceIte, reduceCtorEq, nA, nB, nC, nD, nE, nF, h3, h4] <;> and_intros <;> first | (apply hK1; clear hK1 K1) | skip)))
    refine ⟨.v (.bool false), rfl, True.intro, hK1 _ ?_⟩; clear hK1 K1
    (repeat ((refine gO rfl ?_)))
    simp only [Tryz.results208, go_sem, ↓reduceIte, reduceCtorEq, nA, nB, nC, nD, nE, nF]
    exact ⟨_, _, Weak.refl _, Hp.le.refl _, rfl, rfl⟩
   (repeat (first | refine gO rfl ?_ | (refine gR fun K1 hK1 => ?_; simp only [go_sem, ↓reduceIte, reduceCtorEq, nA, nB, nC, nD, nE, nF, h3, h4] <;> and_intros <;> first | (apply hK1; clear hK1 K1) | (intros; (simp_all <;> omega)) | skip)))
   refine hany.mono ?_; rintro _ hz ⟨rfl, hh⟩; refine ⟨rfl, hK1 _ ?_⟩; clear hK1 K1; rw [hh]; clear hh hz
   (repeat (first | refine gO rfl ?_ | (refine gR fun K1 hK1 => ?_; simp only [go_sem, ↓reduceIte, reduceCtorEq, nA, nB, nC, nD, nE, nF, h3, h4] <;> and_intros <;> (apply hK1; clear hK1 K1))))
   simp only [Tryz.results208, go_sem, ↓reduceIte, reduceCtorEq, nA, nB, nC, nD, nE, nF]
   exact ⟨_, _, Weak.refl _, Hp.le.refl _, by first | rw [List.all_eq_not_any_not] | simp [List.all_eq_not_any_not], rfl⟩
  exact key _ _ rfl rfl
theorem Weak.rowE {z : Nat} {xs ys : List (List AV)} {k : Option Nat} (hl : xs.length = ys.length) (hz : ∀ y ∈ ys, y.length = z) (hw : ∀ i, i < xs.length → WL (xs.getD i []) (ys.getD i [])) : Weak (.row z xs k) (.row z ys k) := fun G v hr => by
 cases hr with
 | row _ _ _ g o n c u hn hc hz' hu hr h1 ht =>
  refine .row z ys k g o n c u (by omega) hc hz hu (fun j hj => ?_) h1 ht
  have hfy := flatten_len hz
  have hfx := flatten_len hz'
  have hjn : j < n * z := by rw [hfy, ← hl, hn] at hj; exact hj
  have hz0 : 0 < z := by
   rcases Nat.eq_zero_or_pos z with h | h
   ·rw [h, Nat.mul_zero] at hjn; omega
   ·exact h
  have hi : j / z < ys.length := by
   have := Nat.div_lt_of_lt_mul (by rw [Nat.mul_comm] at hjn; exact hjn)
   omega
  have hr2 := Nat.mod_lt j hz0
  have hj2 : j / z * z + j % z = j := by have := Nat.div_add_mod j z; rw [Nat.mul_comm] at this; exact this
  have ey := flatten_at hz hi hr2
  have ex := flatten_at hz' (show j / z < xs.length by omega) hr2
  rw [hj2] at ey ex
  have hjx : j < xs.flatten.length := by rw [hfx, hn]; exact hjn
  have h2 := hr j hjx
  rw [List.getElem?_eq_getElem hjx] at ex
  rw [List.getElem?_eq_getElem hj] at ey
  have h3 := (hw (j / z) (by omega)).2 (j % z)
  rw [List.getD_eq_getElem?_getD, List.getD_eq_getElem?_getD, List.getD_eq_getElem?_getD, List.getD_eq_getElem?_getD, List.getElem?_eq_getElem hi, List.getElem?_eq_getElem (show j / z < xs.length by omega)] at h3
  simp only [Option.getD_some] at h3
  rw [← ex, ← ey] at h3
  exact h3 G _ h2
 | nil =>
  cases ys with
  | nil => exact .nil z k (by assumption)
  | cons => simp at hl
 | nilA =>
  cases ys with
  | nil => exact .nilA z _
  | cons => simp at hl
theorem WL.refl (cs : List AV) : WL cs cs := ⟨rfl, fun _ => Weak.refl _⟩
section
variable {P : Program} {c : Cx} {Q : Exit → St → Prop} {s : St}
theorem awp_frzLoc (j i k z : Nat) {cs : List AV} {xs : List (List AV)} {x : Code} (hj : s.lo[j]? = some cs) (hi : cs[i]? = some (.arr z k xs.length)) (hT : s.h.T k = some (.cont z xs)) (hz : ∀ y ∈ xs, y.length = z)
  (h : Awp P c x Q { s with lo := s.lo.set j (cs.set i (.row z xs none)), h := { s.h with T := upd s.h.T k none } }) : Awp P c x Q s := by
 rintro ac w ⟨G, L, sm, hg, hf, hL⟩
 obtain ⟨G', hle, hfr, hs2, hfz⟩ := sm.hs.freeze (h2 := { s.h with T := upd s.h.T k none }) (fun j => j = k) rfl (fun j hj => by subst hj; exact upd_same _ _ _) (fun j hj => upd_other _ _ hj)
 have ls2 := sm.ls.fr hle hfr
 refine h ac w ⟨G', L, ⟨hs2, sm.sz, fun u hu => (sm.sl u hu).mono hle, sm.df, ⟨by simpa using ls2.len, fun u b ds e e' => ?_, ls2.free, ls2.nd⟩⟩, hg.trans hle, hf.trans hfr, hL⟩
 by_cases hju : j = u
 ·subst hju
  have hlt : j < s.lo.length := (List.getElem?_eq_some_iff.1 hj).1
  simp only [List.getElem?_set_self hlt, Option.some.injEq] at e'
  subst e'
  obtain ⟨vs, E, hh, hsz, hr⟩ := sm.ls.lo j b cs e hj
  obtain ⟨vs2, E2, hh2, hsz2, hr2⟩ := ls2.lo j b cs e hj
  rw [hh] at hh2
  simp only [Option.some.injEq, Obj.cells.injEq] at hh2
  obtain ⟨rfl, rfl, _⟩ := hh2
  refine ⟨vs, E, hh, by simpa using hsz, by simpa using hr.1, fun q hq hq' => ?_⟩
  have hq2 : q < cs.length := by simpa using hq
  have h3 := hr2.2 q hq2 hq'
  refine ⟨?_, h3.2⟩
  simp only [List.getElem_set]
  split
  ·rename_i eiq
   subst eiq
   have h4 := (hr.2 i hq2 hq').1
   rw [show cs[i] = AV.arr z k xs.length by rw [List.getElem?_eq_getElem hq2] at hi; simpa using hi] at h4
   exact hfz k z xs _ rfl hT h4 xs rfl hz fun us hus => hus.mono hle
  ·exact h3.1
 ·simp only [List.getElem?_set_ne hju] at e'
  exact ls2.lo u b ds e e'
end
open Go
set_option linter.unusedVariables false
set_option linter.unusedSimpArgs false
open Nat renaming reduceAdd → nA, reduceSub → nB, reduceMul → nC, reduceLT → nD, reduceLeDiff → nE, reduceEqDiff → nF, reduceMod → nG, reduceDiv → nH, reducePow → nI
set_option maxRecDepth 100000
set_option maxHeartbeats 8000000
theorem Weak.trans {a b c : AV} (h : Weak a b) (k : Weak b c) : Weak a c := fun G v hr => k G v (h G v hr)
def XW (xs : List (List AV)) (ts : List LT) : Prop := xs.length = ts.length ∧ ∀ i, i < ts.length → WL (xs.getD i []) (encL (ts.getD i default))
theorem XW.nil : XW [] [] := ⟨rfl, fun i h => by simp at h⟩
theorem XW.app {xs ys : List (List AV)} {ts us : List LT} (h : XW xs ts) (k : XW ys us) : XW (xs ++ ys) (ts ++ us) := by
 refine ⟨by simp [h.1, k.1], fun i hi => ?_⟩
 simp only [List.getD_eq_getElem?_getD]
 by_cases hlt : i < ts.length
 ·rw [List.getElem?_append_left (by rw [h.1]; exact hlt), List.getElem?_append_left hlt]
  have := h.2 i hlt
  simpa only [List.getD_eq_getElem?_getD] using this
 ·rw [List.getElem?_append_right (by rw [h.1]; omega), List.getElem?_append_right (by omega), h.1]
  have := k.2 (i - ts.length) (by simp at hi; omega)
  simpa only [List.getD_eq_getElem?_getD] using this
theorem XW.one {c : List AV} {t : LT} (h : WL c (encL t)) : XW [c] [t] := ⟨rfl, fun i hi => by
 obtain rfl : i = 0 := by simpa using hi
 exact h⟩
theorem XW.map (ts : List LT) : XW (ts.map encL) ts := ⟨by simp, fun i hi => by rw [getD_enc encL ts i default hi]; exact WL.refl _⟩
theorem XW.weak {xs : List (List AV)} {ts : List LT} (h : XW xs ts) (k : Option Nat) : Weak (.row 6 xs k) (.row 6 (ts.map encL) none) :=
 Weak.trans (Weak.rowE (by simp [h.1]) (fun y hy => by obtain ⟨t, _, rfl⟩ := List.mem_map.1 hy; exact encL_len t) (fun i hi => by
  have hi' : i < ts.length := by rw [← h.1]; exact hi
  rw [getD_enc encL ts i default hi']
  exact h.2 i hi')) (Weak.row 6 _ k)
theorem rep_wl (m : Int) (it : LT) : WL [.v (.int .i64 5), .v (.string ⟨#[]⟩), .v (.int .i64 0), .v (.int .i64 m), .row 6 [encL it] none, .v (.slice none 0 0)] (encL (repK m [it])) := by
 rw [repK, encL_eq]
 exact .cons (Weak.refl _) (.cons (Weak.refl _) (.cons (Weak.refl _) (.cons (Weak.refl _) (.cons (Weak.refl _) (.cons (Weak.nil 1 0 0 ⟨rfl, rfl⟩) .nil)))))
theorem le_upd {h : Hp} {k : Nat} (hk : h.T k = none) (x : Option TO) : Hp.le h ⟨h.H, upd h.T k x⟩ :=
 ⟨fun _ => .inr rfl, fun j => by
  by_cases e : j = k
  ·subst e; exact .inl hk
  ·exact .inr (by show h.T j = upd h.T k x j; rw [upd_other _ _ e])⟩
theorem g_many (it : LT) (n : Nat) (h : Hp) (hn : n ≤ 100000) : ACalls Tryz.prog 267 [.agg (encL it), .v (.int .i64 n)] h (fun r h' => r = .row 6 ((manyT it n).map encL) none ∧ h' = h) := by
 have hlen := encL_len it
 have htk : List.take 6 (encL it) = encL it := List.take_of_length_le (Nat.le_of_eq hlen)
 have hdr : List.drop 6 (encL it) = [] := List.drop_of_length_le (Nat.le_of_eq hlen)
 refine gE Tryz.func267 rfl (by kernel_rfl) 32 rfl fun c => ?_
 (repeat (first | refine gO rfl ?_ | (refine gR fun K1 hK1 => ?_; simp only [go_sem, ↓reduceIte, reduceCtorEq, nA, nB, nC, nD, nE, nF, hlen, htk, hdr] <;> and_intros <;> (apply hK1; clear hK1 K1))))
 refine awp_own 5 6 rfl ⟨rfl, rfl⟩ (fun k hk => ?_)
 replace hk : h.T k = none := hk
 refine awp_loopC (rl false [1, 2, 2, 1, 28]) 0 (fun g s => ∃ (q : Nat) (xs : List (List AV)) (r : Int), g + 100 * q = n ∧ r = (n : Int) - 100 * q ∧ XW xs (List.replicate q (repK 100 [it])) ∧
  s = ⟨(AV.junk :: ((.v (.int .i64 r)) :: (.ref (encL it) 0) :: AV.junk :: AV.junk :: ((.row 6 xs (some k)) :: (jnk 28 [])))), [], ⟨h.H, upd h.T k (some (.tail q))⟩⟩) n ⟨0, [], n, by omega, by omega, XW.nil, rfl⟩ ?_
 rintro g _ ⟨q, xs, r, hg, hr, hx, rfl⟩
 have hxl : xs.length = q := by rw [hx.1, List.length_replicate]
 have hTq : upd h.T k (some (TO.tail q)) k = some (.tail xs.length) := by rw [upd_same, hxl]
 (repeat (first | refine gO rfl ?_ | (refine gR fun K1 hK1 => ?_; simp only [go_sem, ↓reduceIte, reduceCtorEq, nA, nB, nC, nD, nE, nF, hlen, htk, hdr] <;> and_intros <;> (apply hK1; clear hK1 K1))))
 refine awp_cond (t := _) rfl (fun h1 => ?_) (fun h1 => ?_)
 ·simp only [decide_eq_true_eq] at h1
  (repeat (first | refine gO rfl ?_ | (refine gR fun K1 hK1 => ?_; simp only [go_sem, ↓reduceIte, reduceCtorEq, nA, nB, nC, nD, nE, nF, hlen, htk, hdr, hTq] <;> and_intros <;> first | (apply hK1; clear hK1 K1) | (intros; first | omega | decide))))
  refine ⟨g - 100, by omega, q + 1, _, r - 100, by omega, by omega, ?_, by rw [hxl]; rfl⟩
  rw [List.replicate_succ']
  exact hx.app (XW.one (rep_wl 100 it))
 ·simp only [decide_eq_false_iff_not] at h1
  have hq : n / 100 = q := by omega
  have hm : ((n % 100 : Nat) : Int) = r := by omega
  have hM : ∀ T, (if n % 100 = 0 then [] else if n % 100 = 1 then [it] else [repK (n % 100 : Nat) [it]]) = T → manyT it n = List.replicate q (repK 100 [it]) ++ T := fun T hT => by rw [manyT, hq, hT]
  (repeat (first | refine gO rfl ?_ | (refine gR fun K1 hK1 => ?_; simp only [go_sem, ↓reduceIte, reduceCtorEq, nA, nB, nC, nD, nE, nF, hlen, htk, hdr, hTq] <;> and_intros <;> (apply hK1; clear hK1 K1))))
  refine awp_cond (t := _) rfl (fun h2 => ?_) (fun h2 => ?_)
  ·have h3 : r = 1 := by simpa using h2
   (repeat (first | refine gO rfl ?_ | (refine gR fun K1 hK1 => ?_; simp only [go_sem, ↓reduceIte, reduceCtorEq, nA, nB, nC, nD, nE, nF, hlen, htk, hdr, hTq] <;> and_intros <;> first | (apply hK1; clear hK1 K1) | (intros; first | omega | decide))))
   simp only [Tryz.results267, go_sem, ↓reduceIte, reduceCtorEq, nA, nB, nC, nD, nE, nF]
   refine ⟨_, _, (hx.app (XW.one (t := it) (WL.refl _))).weak (some k), le_upd hk _, ?_, rfl⟩
   rw [hM [it] (by rw [if_neg (by omega), if_pos (by omega)])]
  ·have h3 : r ≠ 1 := by simpa using h2
   (repeat (first | refine gO rfl ?_ | (refine gR fun K1 hK1 => ?_; simp only [go_sem, ↓reduceIte, reduceCtorEq, nA, nB, nC, nD, nE, nF, hlen, htk, hdr, hTq] <;> and_intros <;> (apply hK1; clear hK1 K1))))
   refine awp_cond (t := _) rfl (fun h4 => ?_) (fun h4 => ?_)
   ·simp only [decide_eq_true_eq] at h4
    (repeat (first | refine gO rfl ?_ | (refine gR fun K1 hK1 => ?_; simp only [go_sem, ↓reduceIte, reduceCtorEq, nA, nB, nC, nD, nE, nF, hlen, htk, hdr, hTq] <;> and_intros <;> first | (apply hK1; clear hK1 K1) | (intros; first | omega | decide))))
    simp only [Tryz.results267, go_sem, ↓reduceIte, reduceCtorEq, nA, nB, nC, nD, nE, nF]
    refine ⟨_, _, (hx.app (XW.one (rep_wl r it))).weak (some k), le_upd hk _, ?_, rfl⟩
    rw [hM [repK r [it]] (by rw [if_neg (by omega), if_neg (by omega), hm])]
   ·simp only [decide_eq_false_iff_not] at h4
    (repeat (first | refine gO rfl ?_ | (refine gR fun K1 hK1 => ?_; simp only [go_sem, ↓reduceIte, reduceCtorEq, nA, nB, nC, nD, nE, nF, hlen, htk, hdr, hTq] <;> and_intros <;> (apply hK1; clear hK1 K1))))
    simp only [Tryz.results267, go_sem, ↓reduceIte, reduceCtorEq, nA, nB, nC, nD, nE, nF]
    refine ⟨_, _, hx.weak (some k), le_upd hk _, ?_, rfl⟩
    rw [hM [] (by rw [if_pos (by omega)]), List.append_nil]
theorem gath_len : ∀ (f : Nat) (l : List LT), l.length ≤ f → (∀ x ∈ l, WF x) → (gath l).length ≤ l.length
 | _, [], _, _ => by rw [gath_nil]; exact Nat.le_refl _
 | 0, _ :: _, hl, _ => by simp at hl
 | f + 1, y :: ys, hl, hw => by
  simp only [List.length_cons] at hl
  cases hc : cnt y with
  | none =>
   have := gath_len f ys (by omega) fun y hy => hw y (by simp [hy])
   rw [gath_none ys hc, List.length_cons, List.length_cons]; omega
  | some q =>
   obtain ⟨it, n⟩ := q
   have hok := cnt_ok (hw y (by simp)) hc
   have hb := runN_bd it ys fun y hy => hw y (by simp [hy])
   have hr := runN_len it ys
   have ih := gath_len f (ys.drop (runN it ys).2) (by simp; omega) fun y hy => hw y (by simp [List.mem_of_mem_drop hy])
   have hm := manyT_len it (n + (runN it ys).1).toNat ((runN it ys).2 + 1) (by omega)
   rw [gath_some ys hc, List.length_append, List.length_cons]
   simp only [List.length_drop] at ih
   omega
theorem flatT_app (a b : List LT) : flatT (a ++ b) = flatT a ++ flatT b := List.flatMap_append
theorem flatT_snoc (l : List LT) (x : LT) : flatT (l ++ [x]) = flatT l ++ (if x.kd = 2 then x.ks else [x]) := by
 simp [flatT, List.flatMap_append]
theorem flatT_take_le (l : List LT) (j : Nat) : (flatT (l.take j)).length ≤ (flatT l).length := by
 have e : flatT l = flatT (l.take j) ++ flatT (l.drop j) := by rw [← flatT_app, List.take_append_drop]
 rw [e, List.length_append]; omega
theorem item_BL {it : LT} (hk : it.kd = 1) (hw : WF it) : BL it := by
 cases it with
 | mk k i l m ks s =>
  obtain ⟨h1, h2, _⟩ := ((WF_eq ..).mp hw).2.1 hk
  rw [BL_eq, h1, h2]
  exact ⟨by simp, by simp, fun k hk => by cases hk⟩
theorem drop_cons {α : Type} (l : List α) (j : Nat) (d : α) (h : j < l.length) : l.drop j = l.getD j d :: l.drop (j + 1) := by
 rw [List.getD_eq_getElem?_getD, List.getElem?_eq_getElem h]; exact List.drop_eq_getElem_cons h
theorem run_step {it x : LT} {xs : List LT} {m : Int} (hc : cnt x = some (it, m)) : runN it (x :: xs) = (m + (runN it xs).1, (runN it xs).2 + 1) := by
 rw [runN, hc]; simp only [if_true]
theorem run_stop0 {it x : LT} {xs : List LT} (h : ∀ m, cnt x ≠ some (it, m)) : runN it (x :: xs) = (0, 0) := runN_stop (fun y ys e n => by
 simp only [List.cons.injEq] at e
 rw [← e.1]; exact h n)
theorem g_gathP (l : List LT) (h : Hp) (hw : ∀ x ∈ l, WF x) (hl : l.length ≤ 1000) (hf : (flatT l).length ≤ 1000) :
  ACalls Tryz.prog 205 [.row 6 (l.map encL) none] h (fun r h' => r = .row 6 ((gath (flatT l)).map encL) none ∧ h' = h) := by
 have hfw := flatT_wf hw
 refine gE Tryz.func205 rfl (by kernel_rfl) 88 rfl fun c => ?_
 (repeat (first | refine gQ rfl ?_ | (refine gM zM42 fun K1 hK1 => ?_; simp only [go_sem, ↓reduceIte, reduceCtorEq, nA, nB, nC, nD, nE, nF] <;> and_intros <;> (apply hK1; clear hK1 K1))))
 refine awp_seq ?_
 refine awp_own 3 6 rfl ⟨rfl, rfl⟩ (fun k hk => ?_)
 replace hk : h.T k = none := hk
 (repeat (first | refine gO rfl ?_ | (refine gM zM42 fun K1 hK1 => ?_; simp only [go_sem, ↓reduceIte, reduceCtorEq, nA, nB, nC, nD, nE, nF] <;> and_intros <;> (apply hK1; clear hK1 K1))))
 refine awp_loopC (rl false [3, 1, 10, 3, 72]) 0 (fun g s => ∃ j : Nat, g + j = l.length ∧
  s = ⟨((jnk 3 ((.row 6 ((flatT (l.take j)).map encL) (some k)) :: (jnk 10 ((.row 6 (l.map encL) none) :: (.v (.int .i64 l.length)) :: (.v (.int .i64 j)) :: (jnk 72 [])))))), [], ⟨h.H, upd h.T k (some (.tail (flatT (l.take j)).length))⟩⟩) l.length ⟨0, by omega, rfl⟩ ?_
 rintro g _ ⟨j, hj, rfl⟩
 have hfl := flatT_take_le l j
 have hTq : upd h.T k (some (TO.tail (flatT (l.take j)).length)) k = some (.tail (flatT (l.take j)).length) := upd_same _ _ _
 (repeat (first | refine gO rfl ?_ | (refine gM zM42 fun K1 hK1 => ?_; simp only [go_sem, ↓reduceIte, reduceCtorEq, nA, nB, nC, nD, nE, nF] <;> and_intros <;> (apply hK1; clear hK1 K1))))
 refine awp_cond (t := _) rfl (fun h1 => ?_) (fun h1 => ?_)
 ·simp only [decide_eq_true_eq] at h1
  have hjl : j < l.length := by omega
  have gx : (l.map encL).getD j [] = encL (l.getD j default) := getD_enc encL l j default hjl
  have tx := take_snoc l j default hjl
  have hwx := hw _ (getD_mem' l j default hjl)
  have hfl2 := flatT_take_le l (j + 1)
  generalize l.getD j default = x at gx tx hwx
  cases x with
  | mk kx ix lx mx ksx sx =>
  have hft : flatT (l.take (j + 1)) = flatT (l.take j) ++ (if kx = 2 then ksx else [.mk kx ix lx mx ksx sx]) := by rw [tx, flatT_snoc]; rfl
  by_cases h2 : kx = 2
  ·have e2 : (kx == 2) = true := by simpa using h2
   rw [if_pos h2] at hft
   rw [hft, List.length_append] at hfl2
   (repeat (first | refine gO rfl ?_ | (refine gM zM42 fun K1 hK1 => ?_; simp only [go_sem, ↓reduceIte, reduceCtorEq, nA, nB, nC, nD, nE, nF, Int.toNat_natCast, gx, encL_eq] <;> and_intros <;> first | (apply hK1; clear hK1 K1) | (intros; (omega)))))
   refine awp_cond (t := _) rfl (fun _ => ?_) (fun h3 => by rw [e2] at h3; cases h3)
   (repeat (first | refine gO rfl ?_ | (refine gM zM42 fun K1 hK1 => ?_; simp only [go_sem, ↓reduceIte, reduceCtorEq, nA, nB, nC, nD, nE, nF, hTq] <;> and_intros <;> first | (apply hK1; clear hK1 K1) | (intros; first | omega | (simp_all <;> omega)))))
   refine ⟨g - 1, by omega, j + 1, by omega, ?_⟩
   rw [hft, List.map_append, List.length_append]
   (try simp only [List.length_map])
   rfl
  ·have e2 : (kx == 2) = false := by simpa using h2
   rw [if_neg h2] at hft
   rw [hft, List.length_append] at hfl2
   (repeat (first | refine gO rfl ?_ | (refine gM zM42 fun K1 hK1 => ?_; simp only [go_sem, ↓reduceIte, reduceCtorEq, nA, nB, nC, nD, nE, nF, Int.toNat_natCast, gx, encL_eq] <;> and_intros <;> first | (apply hK1; clear hK1 K1) | (intros; (omega)))))
   refine awp_cond (t := _) rfl (fun h3 => by rw [e2] at h3; cases h3) (fun _ => ?_)
   (repeat (first | refine gO rfl ?_ | (refine gM zM42 fun K1 hK1 => ?_; simp only [go_sem, ↓reduceIte, reduceCtorEq, nA, nB, nC, nD, nE, nF, hTq] <;> and_intros <;> first | (apply hK1; clear hK1 K1) | (intros; first | omega | decide))))
   refine ⟨g - 1, by omega, j + 1, by omega, ?_⟩
   rw [hft, List.map_append, List.length_append]
   simp only [List.length_map, List.map_cons, List.map_nil, encL_eq]
   rfl
 ·simp only [decide_eq_false_iff_not] at h1
  have hjl : j = l.length := by omega
  subst hjl
  rw [List.take_length] at *
  (repeat (first | refine gQ rfl ?_ | (refine gM zM42 fun K1 hK1 => ?_; simp only [go_sem, ↓reduceIte, reduceCtorEq, nA, nB, nC, nD, nE, nF] <;> and_intros <;> (apply hK1; clear hK1 K1))))
  clear hfl hTq h1 hj
  generalize flatT l = F at hf hfw ⊢
  refine awp_own 6 6 rfl ⟨rfl, rfl⟩ (fun k2 hk2 => ?_)
  replace hk2 : upd h.T k (some (TO.tail F.length)) k2 = none := hk2
  have hne : k2 ≠ k := fun e => by subst e; rw [upd_same] at hk2; cases hk2
  replace hk2 : h.T k2 = none := by rw [← hk2]; exact (upd_other _ _ hne).symm
  have hle : ∀ n, Hp.le h ⟨h.H, upd (upd h.T k (some (.tail F.length))) k2 (some (.tail n))⟩ := fun n => ⟨fun _ => .inr rfl, fun j => by
   by_cases e : j = k2
   ·subst e; exact .inl hk2
   ·by_cases e2 : j = k
    ·subst e2; exact .inl hk
    ·exact .inr (by show h.T j = upd (upd h.T k _) k2 _ j; rw [upd_other _ _ e, upd_other _ _ e2])⟩
  (repeat (first | refine gO rfl ?_ | (refine gM zM42 fun K1 hK1 => ?_; simp only [go_sem, ↓reduceIte, reduceCtorEq, nA, nB, nC, nD, nE, nF] <;> and_intros <;> (apply hK1; clear hK1 K1))))
  refine awp_loopC (rl false [3, 1, 2, 2, 81]) 0 (fun g s => ∃ (i : Nat) (ts : List LT), g + i = F.length ∧ ts ++ gath (F.drop i) = gath F ∧
   s = ⟨((jnk 3 ((.row 6 (F.map encL) (some k)) :: AV.junk :: AV.junk :: ((.row 6 (ts.map encL) (some k2)) :: (.v (.int .i64 i)) :: (jnk 81 []))))), [], ⟨h.H, upd (upd h.T k (some (.tail F.length))) k2 (some (.tail ts.length))⟩⟩) F.length ⟨0, [], by omega, rfl, rfl⟩ ?_
  rintro g _ ⟨i, ts, hi, hts, rfl⟩
  have hgl := gath_len _ F (Nat.le_refl _) hfw
  have htl : ts.length ≤ 1000 := by
   have := congrArg List.length hts
   rw [List.length_append] at this; omega
  have hT2 : upd (upd h.T k (some (TO.tail F.length))) k2 (some (.tail ts.length)) k2 = some (.tail ts.length) := upd_same _ _ _
  (repeat (first | refine gO rfl ?_ | (refine gM zM42 fun K1 hK1 => ?_; simp only [go_sem, ↓reduceIte, reduceCtorEq, nA, nB, nC, nD, nE, nF] <;> and_intros <;> (apply hK1; clear hK1 K1))))
  refine awp_cond (t := _) rfl (fun h1 => ?_) (fun h1 => ?_)
  ·simp only [decide_eq_true_eq] at h1
   have hiF : i < F.length := by omega
   have gx : (F.map encL).getD i [] = encL (F.getD i default) := getD_enc encL F i default hiF
   have hdc := drop_cons F i default hiF
   have hwx := hfw _ (getD_mem' F i default hiF)
   generalize F.getD i default = x at gx hdc hwx
   have hlx := encL_len x
   have kx : List.take 6 (encL x) = encL x := List.take_of_length_le (Nat.le_of_eq hlx)
   have dx : List.drop 6 (encL x) = [] := List.drop_of_length_le (Nat.le_of_eq hlx)
   (repeat (first | refine gO rfl ?_ | (refine gM zM42 fun K1 hK1 => ?_; simp only [go_sem, ↓reduceIte, reduceCtorEq, nA, nB, nC, nD, nE, nF, Int.toNat_natCast, gx, hlx, kx, dx] <;> and_intros <;> first | (intros; (omega)) | skip)))
   refine (g_cntP x _ hwx).mono ?_; rintro _ hz ⟨rfl, hh⟩; apply hK1; clear hK1 K1; rw [hh]; clear hh hz
   cases hc : cnt x with
   | none =>
    have hcd : cntD x = (default, 0) := by rw [cntD, hc]; rfl
    have hld := encL_len default
    have kd : List.take 6 (encL default) = encL default := List.take_of_length_le (Nat.le_of_eq hld)
    have dd : List.drop 6 (encL default) = [] := List.drop_of_length_le (Nat.le_of_eq hld)
    (repeat (first | refine gO rfl ?_ | (refine gM zM42 fun K1 hK1 => ?_; simp only [go_sem, ↓reduceIte, reduceCtorEq, nA, nB, nC, nD, nE, nF, hcd, Option.isSome_none, hld, kd, dd] <;> and_intros <;> first | (apply hK1; clear hK1 K1) | (intros; (omega)))))
    refine awp_cond (t := _) rfl (fun _ => ?_) (fun h => by cases h)
    (repeat (first | refine gO rfl ?_ | (refine gM zM42 fun K1 hK1 => ?_; simp only [go_sem, ↓reduceIte, reduceCtorEq, nA, nB, nC, nD, nE, nF, Int.toNat_natCast, gx, hlx, kx, dx, hT2] <;> and_intros <;> first | (apply hK1; clear hK1 K1) | (intros; first | omega | decide))))
    refine ⟨g - 1, by omega, i + 1, ts ++ [x], by omega, ?_, ?_⟩
    ·rw [hdc, gath_none _ hc] at hts
     rw [← hts, List.append_assoc]; rfl
    ·rw [List.map_append, List.length_append]
     (try simp only [List.length_map])
     rfl
   | some p =>
    obtain ⟨it, m⟩ := p
    have hok := cnt_ok hwx hc
    have hcd : cntD x = (it, m) := by rw [cntD, hc]; rfl
    have hld := encL_len it
    have kd : List.take 6 (encL it) = encL it := List.take_of_length_le (Nat.le_of_eq hld)
    have dd : List.drop 6 (encL it) = [] := List.drop_of_length_le (Nat.le_of_eq hld)
    have hrb := runN_bd it (F.drop (i + 1)) fun y hy => hfw y (List.mem_of_mem_drop hy)
    have hrl := runN_len it (F.drop (i + 1))
    rw [hdc, gath_some _ hc] at hts
    (repeat (first | refine gQ rfl ?_ | (refine gM zM42 fun K1 hK1 => ?_; simp only [go_sem, ↓reduceIte, reduceCtorEq, nA, nB, nC, nD, nE, nF, hcd, Option.isSome_some, hld, kd, dd] <;> and_intros <;> first | (apply hK1; clear hK1 K1) | (intros; (omega)))))
    refine awp_seq ?_
    (repeat (first | refine gQ rfl ?_ | (refine gM zM42 fun K1 hK1 => ?_; simp only [go_sem, ↓reduceIte, reduceCtorEq, nA, nB, nC, nD, nE, nF] <;> and_intros <;> (apply hK1; clear hK1 K1))))
    refine awp_cond (t := _) rfl (fun h => by cases h) (fun _ => ?_)
    (repeat ((refine gQ rfl ?_)))
    refine awp_seqJ (rl false [3, 1, 2, 4, 79]) 1 (fun s => ∃ (i2 N : Nat), i2 ≤ F.length ∧ i + 1 ≤ i2 ∧ N ≤ 100000 ∧ ts ++ manyT it N ++ gath (F.drop i2) = gath F ∧
     s = ⟨((jnk 3 ((.row 6 (F.map encL) (some k)) :: AV.junk :: AV.junk :: ((.row 6 (ts.map encL) (some k2)) :: (.v (.int .i64 i2)) :: (.loc 0 0) :: (.v (.int .i64 N)) :: (jnk 79 []))))), [encL it], ⟨h.H, upd (upd h.T k (some (.tail F.length))) k2 (some (.tail ts.length))⟩⟩) ?_ ?_
    ·(repeat ((refine gO rfl ?_)))
     refine awp_loopC (rl false [3, 1, 2, 4, 79]) 1 (fun g s => ∃ (i2 : Nat) (n2 : Int), g + i2 = F.length ∧ i + 1 ≤ i2 ∧ n2 + (runN it (F.drop i2)).1 = m + (runN it (F.drop (i + 1))).1 ∧ i2 + (runN it (F.drop i2)).2 = i + 1 + (runN it (F.drop (i + 1))).2 ∧ (1 ≤ n2 ∧ n2 ≤ 100 * i2) ∧
      s = ⟨((jnk 3 ((.row 6 (F.map encL) (some k)) :: AV.junk :: AV.junk :: ((.row 6 (ts.map encL) (some k2)) :: (.v (.int .i64 i2)) :: (.loc 0 0) :: (.v (.int .i64 n2)) :: (jnk 79 []))))), [encL it], ⟨h.H, upd (upd h.T k (some (.tail F.length))) k2 (some (.tail ts.length))⟩⟩) (F.length - (i + 1)) ⟨i + 1, m, by omega, by omega, rfl, rfl, by omega, rfl⟩ ?_
     rintro g2 _ ⟨i2, n2, hg2, hi2, hn2, hc2, hb2, rfl⟩
     have fin : runN it (F.drop i2) = (0, 0) → ts ++ manyT it n2.toNat ++ gath (F.drop i2) = gath F := fun h0 => by
      rw [h0] at hn2 hc2
      simp only [Int.add_zero, Nat.add_zero] at hn2 hc2
      rw [← hts, ← hn2, hc2, List.drop_drop, List.append_assoc]
     have hnt : ((n2.toNat : Nat) : Int) = n2 := by omega
     (repeat (first | refine gO rfl ?_ | (refine gM zM42 fun K1 hK1 => ?_; simp only [go_sem, ↓reduceIte, reduceCtorEq, nA, nB, nC, nD, nE, nF] <;> and_intros <;> (apply hK1; clear hK1 K1))))
     refine awp_cond (t := _) rfl (fun h3 => ?_) (fun h3 => ?_)
     ·simp only [decide_eq_true_eq] at h3
      have hiF2 : i2 < F.length := by omega
      have gy : (F.map encL).getD i2 [] = encL (F.getD i2 default) := getD_enc encL F i2 default hiF2
      have hdy := drop_cons F i2 default hiF2
      have hwy := hfw _ (getD_mem' F i2 default hiF2)
      generalize F.getD i2 default = y at gy hdy hwy
      have hly := encL_len y
      have ky : List.take 6 (encL y) = encL y := List.take_of_length_le (Nat.le_of_eq hly)
      have dy : List.drop 6 (encL y) = [] := List.drop_of_length_le (Nat.le_of_eq hly)
      (repeat (first | refine gO rfl ?_ | (refine gM zM42 fun K1 hK1 => ?_; simp only [go_sem, ↓reduceIte, reduceCtorEq, nA, nB, nC, nD, nE, nF, Int.toNat_natCast, gy, hly, ky, dy] <;> and_intros <;> first | (intros; (omega)) | skip)))
      refine (g_cntP y _ hwy).mono ?_; rintro _ hz ⟨rfl, hh⟩; apply hK1; clear hK1 K1; rw [hh]; clear hh hz
      cases hcy : cnt y with
      | none =>
       have hcd2 : cntD y = (default, 0) := by rw [cntD, hcy]; rfl
       have hl0 := encL_len default
       have k0 : List.take 6 (encL default) = encL default := List.take_of_length_le (Nat.le_of_eq hl0)
       have d0 : List.drop 6 (encL default) = [] := List.drop_of_length_le (Nat.le_of_eq hl0)
       have hst : runN it (F.drop i2) = (0, 0) := by rw [hdy]; exact run_stop0 fun m' h' => by rw [hcy] at h'; cases h'
       (repeat (first | refine gO rfl ?_ | (refine gM zM42 fun K1 hK1 => ?_; simp only [go_sem, ↓reduceIte, reduceCtorEq, nA, nB, nC, nD, nE, nF, hcd2, Option.isSome_none, hl0, k0, d0] <;> and_intros <;> first | (apply hK1; clear hK1 K1) | (intros; (omega)) | skip)))
       refine ⟨.v (.bool true), rfl, hK1 _ ?_⟩
       clear hK1 K1
       (repeat ((refine gO rfl ?_)))
       refine awp_cond (t := _) rfl (fun _ => ?_) (fun h => by cases h)
       (repeat ((refine gO rfl ?_)))
       exact ⟨i2, n2.toNat, by omega, hi2, by omega, fin hst, by rw [hnt]; rfl⟩
      | some p2 =>
       obtain ⟨it2, m2⟩ := p2
       have hok2 := cnt_ok hwy hcy
       have hcd2 : cntD y = (it2, m2) := by rw [cntD, hcy]; rfl
       have hl0 := encL_len it2
       have k0 : List.take 6 (encL it2) = encL it2 := List.take_of_length_le (Nat.le_of_eq hl0)
       have d0 : List.drop 6 (encL it2) = [] := List.drop_of_length_le (Nat.le_of_eq hl0)
       (repeat (first | refine gO rfl ?_ | (refine gM zM42 fun K1 hK1 => ?_; simp only [go_sem, ↓reduceIte, reduceCtorEq, nA, nB, nC, nD, nE, nF, hcd2, Option.isSome_some, hl0, k0, d0, kd, hld, dd] <;> and_intros <;> first | (apply hK1; clear hK1 K1) | (intros; (simp_all <;> omega)) | skip)))
       refine (g_equal (SizeOf.sizeOf it2) it2 it _ (Nat.le_refl _) (item_BL hok2.1 hok2.2.1) (item_BL hok.1 hok.2.1)).mono ?_; rintro _ hz ⟨rfl, hh⟩; refine ⟨rfl, hK1 _ ?_⟩; clear hK1 K1; rw [hh]; clear hh hz
       (repeat (first | refine gO rfl ?_ | (refine gM zM42 fun K1 hK1 => ?_; simp only [go_sem, ↓reduceIte, reduceCtorEq, nA, nB, nC, nD, nE, nF] <;> and_intros <;> (apply hK1; clear hK1 K1))))
       refine awp_cond (t := _) rfl (fun h4 => ?_) (fun h4 => ?_)
       ·have e4 : it2 ≠ it := sameB_false.1 (by simpa using h4)
        have hst : runN it (F.drop i2) = (0, 0) := by
         rw [hdy]
         exact run_stop0 fun m' h' => by
          rw [hcy] at h'
          simp only [Option.some.injEq, Prod.mk.injEq] at h'
          exact e4 h'.1
        (repeat ((refine gO rfl ?_)))
        exact ⟨i2, n2.toNat, by omega, hi2, by omega, fin hst, by rw [hnt]; rfl⟩
       ·have e4 : it2 = it := sameB_true.1 (by simpa using h4)
        subst e4
        have hst : runN it2 (F.drop i2) = (m2 + (runN it2 (F.drop (i2 + 1))).1, (runN it2 (F.drop (i2 + 1))).2 + 1) := by rw [hdy]; exact run_step hcy
        rw [hst] at hn2 hc2
        simp only at hn2 hc2
        (repeat (first | refine gO rfl ?_ | (refine gM zM42 fun K1 hK1 => ?_; simp only [go_sem, ↓reduceIte, reduceCtorEq, nA, nB, nC, nD, nE, nF] <;> and_intros <;> first | (apply hK1; clear hK1 K1) | (intros; (omega)))))
        exact ⟨g2 - 1, by omega, i2 + 1, n2 + m2, by omega, by omega, by omega, by omega, by omega, rfl⟩
     ·simp only [decide_eq_false_iff_not] at h3
      have hst : runN it (F.drop i2) = (0, 0) := by rw [List.drop_of_length_le (by omega)]; rfl
      (repeat ((refine gO rfl ?_)))
      exact ⟨i2, n2.toNat, by omega, hi2, by omega, fin hst, by rw [hnt]; rfl⟩
    ·rintro _ ⟨i2, N, hi2, hii, hN, hG, rfl⟩
     have hml : ts.length + (manyT it N).length ≤ 1000 := by
      have := congrArg List.length hG
      rw [List.length_append, List.length_append] at this; omega
     (repeat ((refine gM zM42 fun K1 hK1 => ?_; simp only [go_sem, ↓reduceIte, reduceCtorEq, nA, nB, nC, nD, nE, nF, hld, kd, dd] <;> and_intros)))
     refine (g_many it N _ (by omega)).mono ?_; rintro _ hz ⟨rfl, hh⟩; apply hK1; clear hK1 K1; rw [hh]; clear hh hz
     (repeat (first | refine gO rfl ?_ | (refine gM zM42 fun K1 hK1 => ?_; simp only [go_sem, ↓reduceIte, reduceCtorEq, nA, nB, nC, nD, nE, nF, hT2] <;> and_intros <;> first | (apply hK1; clear hK1 K1) | (intros; first | omega | (simp_all <;> omega)))))
     refine ⟨F.length - i2, by omega, i2, ts ++ manyT it N, by omega, hG, ?_⟩
     rw [List.map_append, List.length_append]
     (try simp only [List.length_map])
     rfl
  ·simp only [decide_eq_false_iff_not] at h1
   rw [List.drop_of_length_le (by omega), gath_nil, List.append_nil] at hts
   (repeat (first | refine gO rfl ?_ | (refine gM zM42 fun K1 hK1 => ?_; simp only [go_sem, ↓reduceIte, reduceCtorEq, nA, nB, nC, nD, nE, nF] <;> and_intros <;> (apply hK1; clear hK1 K1))))
   simp only [Tryz.results205, go_sem, ↓reduceIte, reduceCtorEq, nA, nB, nC, nD, nE, nF]
   exact ⟨_, _, Weak.row 6 _ (some k2), hle _, by rw [hts], rfl⟩
abbrev zP1NE : List Nat := [0, 1, 2, 3, 4]
abbrev zP1NP : List (Nat × List Nat × List Nat) := [(5, [], [6, 7, 8]), (9, [], [10, 11, 12])]
abbrev zP1OE : List Nat := [0, 1, 2, 3, 4, 5, 6, 7, 8, 9, 10, 11, 12, 13, 14, 15, 16, 17, 18, 19, 20, 21, 22]
abbrev zP1OP : List (Nat × List Nat × List Nat) := []
abbrev zP1PE : List Nat := [0, 1, 2, 3, 4, 5, 6, 7, 8, 9, 10, 11, 12, 13]
abbrev zP1PP : List (Nat × List Nat × List Nat) := [(14, [], [15])]
abbrev zP1QE : List Nat := [0, 1, 2, 3, 4, 5, 6]
abbrev zP1QP : List (Nat × List Nat × List Nat) := [(7, [5], [8])]
attribute [go_sem] zP1NE zP1NP zP1OE zP1OP zP1PE zP1PP zP1QE zP1QP
theorem bl_of : ∀ t : LT, WF t → lv t ≤ 1000 → BL t
 | .mk kind item long many kids shares, hw, hl => by
  have hk := ks_len hw
  simp only [LT.ks] at hk
  obtain ⟨w1, w2, w3, w4, w5, w6, w7, w8, w9, w10⟩ := (WF_eq ..).mp hw
  rw [BL_eq]
  refine ⟨by omega, ?_, fun k hkm => bl_of k (w10 k hkm) (by have := lv_kid (t := .mk kind item long many kids shares) hkm; omega)⟩
  by_cases h4 : kind = 4
  ·have := w6 h4; omega
  ·rw [w7 h4]; simp
theorem mul_bd' {a b A B : Int} (ha : 0 ≤ a ∧ a ≤ A) (hb : 0 ≤ b ∧ b ≤ B) : 0 ≤ a * b ∧ a * b ≤ A * B :=
 ⟨Int.mul_nonneg ha.1 hb.1, Int.le_trans (Int.mul_le_mul_of_nonneg_right ha.2 hb.1) (Int.mul_le_mul_of_nonneg_left hb.2 (by omega))⟩
theorem rep_wl2 (m : Int) (ks : List LT) : WL [.v (.int .i64 5), .v (.string ⟨#[]⟩), .v (.int .i64 0), .v (.int .i64 m), .row 6 (ks.map encL) none, .v (.slice none 0 0)] (encL (repK m ks)) := by
 rw [repK, encL_eq]
 exact .cons (Weak.refl _) (.cons (Weak.refl _) (.cons (Weak.refl _) (.cons (Weak.refl _) (.cons (Weak.refl _) (.cons (Weak.nil 1 0 0 ⟨rfl, rfl⟩) .nil)))))
theorem row_wl (ks : List LT) : WL [.v (.int .i64 2), .v (.string ⟨#[]⟩), .v (.int .i64 0), .v (.int .i64 0), .row 6 (ks.map encL) none, .v (.slice none 0 0)] (encL (rowT ks)) := by
 rw [rowT, encL_eq]
 exact .cons (Weak.refl _) (.cons (Weak.refl _) (.cons (Weak.refl _) (.cons (Weak.refl _) (.cons (Weak.refl _) (.cons (Weak.nil 1 0 0 ⟨rfl, rfl⟩) .nil)))))
def ChgR (t : LT) (h : Hp) (r : AV) (h' : Hp) : Prop := ∃ u, r = .tup [.agg (encL u), .v (.bool (stepT t).isSome)] ∧ (∀ v, stepT t = some v → u = v) ∧ h' = h
theorem flat_len {l : List LT} {n : Nat} (hw : ∀ x ∈ l, WF x) (hn : (l.map lv).sum ≤ n) : (flatT l).length ≤ n := by
 have h1 := sum_lv_len (flatT_wf hw)
 rw [flatT_lv hw] at h1
 omega
theorem g_chgSame (x : LT) (cs : List AV) (t : LT) (h : Hp) (hcs : ∃ k i l m ks sh, cs = [k, i, l, m, .row 6 ((x :: ks).map encL) none, sh]) (hx : BL x) (ht : BL t) : ACalls Tryz.prog 207 [.agg (encL t), .ref cs 0] h (fun r h' => r = .v (.bool (!sameB t x || !plainT t)) ∧ h' = h) := by
 obtain ⟨k, i, l, m, ks, sh, rfl⟩ := hcs
 have hlt := encL_len t
 have kt : List.take 6 (encL t) = encL t := List.take_of_length_le (Nat.le_of_eq hlt)
 have dt : List.drop 6 (encL t) = [] := List.drop_of_length_le (Nat.le_of_eq hlt)
 have hlx := encL_len x
 have kx : List.take 6 (encL x) = encL x := List.take_of_length_le (Nat.le_of_eq hlx)
 have dx : List.drop 6 (encL x) = [] := List.drop_of_length_le (Nat.le_of_eq hlx)
 have g1 := g_equal (SizeOf.sizeOf t) t x h (Nat.le_refl _) ht hx
 have g2 := g_plainP (SizeOf.sizeOf t) t h (Nat.le_refl _) ht
 generalize sameB t x = q1 at *
 generalize plainT t = q2 at *
 refine gE Tryz.func207 rfl (by kernel_rfl) 14 rfl fun c => ?_
 (repeat (first | refine gO rfl ?_ | ((first | refine gR ?_ | ((with_reducible refine xS ?_); refine uD 1 zM43 zP1NE zP1NP 16 rfl (by kernel_rfl) ?_)) <;> ((try with_reducible intro K1 hK1); simp only [go_sem, ↓reduceIte, reduceCtorEq, nA, nB, nC, nD, nE, nF, Int.toNat_zero, hlt, kt, dt, hlx, kx, dx] <;> and_intros <;> first | (apply hK1; clear hK1 K1) | (intros; (omega)) | skip))))
 refine g1.mono ?_; rintro _ hz ⟨rfl, hh⟩; apply hK1; clear hK1 K1; rw [hh]; clear hh hz
 cases q1
 ·(repeat (((first | refine gR ?_ | (with_reducible refine wM ?_ ?_)) <;> ((try with_reducible intro K1 hK1); simp only [go_sem, ↓reduceIte, reduceCtorEq, nA, nB, nC, nD, nE, nF, Int.toNat_zero, hlt, kt, dt, hlx, kx, dx] <;> and_intros <;> first | (apply hK1; clear hK1 K1) | skip))))
  refine ⟨.v (.bool true), rfl, True.intro, hK1 _ ?_⟩; clear hK1 K1
  (repeat ((refine gO rfl ?_)))
  simp only [Tryz.results207, go_sem, ↓reduceIte, reduceCtorEq, nA, nB, nC, nD, nE, nF]
  exact ⟨_, _, Weak.refl _, Hp.le.refl _, rfl, rfl⟩
 ·(repeat (((first | refine gR ?_ | (with_reducible refine wM ?_ ?_)) <;> ((try with_reducible intro K1 hK1); simp only [go_sem, ↓reduceIte, reduceCtorEq, nA, nB, nC, nD, nE, nF, Int.toNat_zero, hlt, kt, dt, hlx, kx, dx] <;> and_intros <;> first | (apply hK1; clear hK1 K1) | (intros; (simp_all <;> omega)) | skip))))
  refine g2.mono ?_; rintro _ hz ⟨rfl, hh⟩; refine ⟨rfl, hK1 _ ?_⟩; clear hK1 K1; rw [hh]; clear hh hz
  (repeat (first | refine gO rfl ?_ | (((with_reducible refine wM ?_ ?_)) <;> ((try with_reducible intro K1 hK1); simp only [go_sem, ↓reduceIte, reduceCtorEq, nA, nB, nC, nD, nE, nF, Int.toNat_zero, hlt, kt, dt, hlx, kx, dx] <;> and_intros <;> (apply hK1; clear hK1 K1)))))
  simp only [Tryz.results207, go_sem, ↓reduceIte, reduceCtorEq, nA, nB, nC, nD, nE, nF]
  exact ⟨_, _, Weak.refl _, Hp.le.refl _, rfl, rfl⟩
theorem g_chgP0 (t : LT) (h : Hp) (hw : WF t) (hl : lv t ≤ 1000) (h4 : t.kd ≠ 4 ∨ t.ks.length = 1) : ACalls Tryz.prog 148 [.agg (encL t)] h (ChgR t h) := by
 cases t with
 | mk kind item long many kids shares =>
 have hkl := ks_len hw
 have hln := fun h0 => lv_ks (t := .mk kind item long many kids shares) h0
 simp only [LT.ks, LT.kd] at hkl h4 hln
 obtain ⟨w1, w2, w3, w4, w5, w6, w7, w8, w9, w10⟩ := (WF_eq ..).mp hw
 have hst := stepT_mk kind item long many kids shares
 rw [encL_eq]
 by_cases h1 : kind = 1
 ·subst h1
  rw [if_pos rfl] at hst
  obtain ⟨e1, e2, e3⟩ := w2 rfl
  subst e1
  refine gE Tryz.func148 rfl (by kernel_rfl) 124 rfl fun c => ?_
  (repeat' (first | refine gO rfl ?_ | ((first | refine gM zM41 ?_ | (with_reducible refine wM ?_ ?_) | ((with_reducible refine xS ?_); refine uD 4 zM41 zP1OE zP1OP 125 rfl (by kernel_rfl) ?_) | ((with_reducible refine xS ?_); refine uD 5 zM41 zP1PE zP1PP 125 rfl (by kernel_rfl) ?_) | ((with_reducible refine xS ?_); refine uD 7 zM41 zP1QE zP1QP 125 rfl (by kernel_rfl) ?_)) <;> ((try with_reducible intro K1 hK1); simp only [go_sem, ↓reduceIte, reduceCtorEq, nA, nB, nC, nD, nE, nF] <;> and_intros <;> first | (apply hK1; clear hK1 K1) | (intros; first | omega | decide | (simp_all <;> omega)) | skip)) | (refine awp_cond (t := _) rfl (fun hcnd => ?_) (fun hcnd => ?_) <;> first | (cases hcnd; done) | (simp only [hcnd]) | skip)))
  simp only [Tryz.results148, go_sem, ↓reduceIte, reduceCtorEq, nA, nB, nC, nD, nE, nF]
  exact ⟨_, _, Weak.refl _, Hp.le.refl _, .mk 1 item long many [] shares, by rw [hst, encL_eq]; rfl, fun v hv => (by rw [hst] at hv; cases hv), rfl⟩
 obtain ⟨x, xs, rfl⟩ := List.exists_cons_of_ne_nil (w3 h1).2.2
 have hwx := w10 x (by simp)
 rw [if_neg h1] at hst
 simp only [List.getD_cons_zero] at hst
 have hx6 := encL_len x
 have kx : List.take 6 (encL x) = encL x := List.take_of_length_le (Nat.le_of_eq hx6)
 have dx : List.drop 6 (encL x) = [] := List.drop_of_length_le (Nat.le_of_eq hx6)
 by_cases h5 : kind = 5
 ·subst h5
  rw [if_pos rfl] at hst
  obtain ⟨m0, m1, m2⟩ := w4 rfl
  obtain rfl : xs = [] := by cases xs with | nil => rfl | cons => simp at m0
  have hA : many = 1 → stepT (.mk 5 item long many [x] shares) = some x := fun e => by rw [hst, if_pos e]
  have hB : many ≠ 1 → x.kd = 5 → many * x.mn ≤ 100 → stepT (.mk 5 item long many [x] shares) = some (repK (many * x.mn) x.ks) := fun e e1 e2 => by rw [hst, if_neg e, if_pos ⟨e1, e2⟩]
  have hC : many ≠ 1 → ¬ (x.kd = 5 ∧ many * x.mn ≤ 100) → stepT (.mk 5 item long many [x] shares) = none := fun e e1 => by rw [hst, if_neg e, if_neg e1]
  clear hst
  cases x with
  | mk k2 i2 l2 m2' ks2 s2 =>
  simp only [LT.kd, LT.mn, LT.ks] at hB hC
  obtain ⟨v1, v2, v3, v4, v5, v6, v7, v8, v9, v10⟩ := (WF_eq ..).mp hwx
  have fin : ¬ (k2 = 5 ∧ many * m2' ≤ 100) → ∃ u, AV.tup [.agg (encL (.mk k2 i2 l2 m2' ks2 s2)), .v (.bool (many == 1))] = .tup [.agg (encL u), .v (.bool (stepT (.mk 5 item long many [.mk k2 i2 l2 m2' ks2 s2] shares)).isSome)] ∧ (∀ v, stepT (.mk 5 item long many [.mk k2 i2 l2 m2' ks2 s2] shares) = some v → u = v) ∧ h = h := fun hc => by
   by_cases hm1 : many = 1
   ·refine ⟨_, ?_, fun v hv => (by rw [hA hm1] at hv; cases hv; rfl), rfl⟩
    rw [hA hm1, hm1]; rfl
   ·refine ⟨.mk k2 i2 l2 m2' ks2 s2, ?_, fun v hv => (by rw [hC hm1 hc] at hv; cases hv), rfl⟩
    have hm1' : (many == 1) = false := by simpa using hm1
    rw [hC hm1 hc, hm1']; rfl
  by_cases h25 : k2 = 5
  ·subst h25
   obtain ⟨n0, n1, n2⟩ := v4 rfl
   have hmul := mul_bd' (a := many) (b := m2') (A := 100) (B := 100) (by omega) (by omega)
   by_cases hc : many * m2' ≤ 100
   ·have hcd : decide (many * m2' ≤ 100) = true := by simpa using hc
    obtain ⟨p1, p2, _⟩ := v3 (by omega)
    have p3 := v7 (by omega)
    have key : stepT (.mk 5 item long many [.mk 5 i2 l2 m2' ks2 s2] shares) = some (repK (many * m2') ks2) := by
     by_cases hm1 : many = 1
     ·rw [hA hm1, repK, hm1, Int.one_mul, p1, p2, p3]
     ·exact hB hm1 rfl hc
    refine gE Tryz.func148 rfl (by kernel_rfl) 124 rfl fun c => ?_
    (repeat' (first | refine gO rfl ?_ | ((first | refine gM zM41 ?_ | (with_reducible refine wM ?_ ?_) | ((with_reducible refine xS ?_); refine uD 4 zM41 zP1OE zP1OP 125 rfl (by kernel_rfl) ?_) | ((with_reducible refine xS ?_); refine uD 5 zM41 zP1PE zP1PP 125 rfl (by kernel_rfl) ?_) | ((with_reducible refine xS ?_); refine uD 7 zM41 zP1QE zP1QP 125 rfl (by kernel_rfl) ?_)) <;> ((try with_reducible intro K1 hK1); simp only [go_sem, ↓reduceIte, reduceCtorEq, nA, nB, nC, nD, nE, nF, encL_eq, Int.toNat_zero, hcd] <;> and_intros <;> first | (apply hK1; clear hK1 K1) | (intros; first | omega | decide | (simp_all <;> omega)) | skip)) | (refine awp_cond (t := _) rfl (fun hcnd => ?_) (fun hcnd => ?_) <;> first | (cases hcnd; done) | (simp only [hcnd]) | skip)))
    simp only [Tryz.results148, go_sem, ↓reduceIte, reduceCtorEq, nA, nB, nC, nD, nE, nF]
    exact ⟨_, _, Weak.tup1 (Weak.agg (rep_wl2 (many * m2') ks2)) (Weak.refl _), Hp.le.refl _, repK (many * m2') ks2, by rw [key]; rfl, fun v hv => (by rw [key] at hv; cases hv; rfl), rfl⟩
   ·have hcd : decide (many * m2' ≤ 100) = false := by simpa using hc
    refine gE Tryz.func148 rfl (by kernel_rfl) 124 rfl fun c => ?_
    (repeat' (first | refine gO rfl ?_ | ((first | refine gM zM41 ?_ | (with_reducible refine wM ?_ ?_) | ((with_reducible refine xS ?_); refine uD 4 zM41 zP1OE zP1OP 125 rfl (by kernel_rfl) ?_) | ((with_reducible refine xS ?_); refine uD 5 zM41 zP1PE zP1PP 125 rfl (by kernel_rfl) ?_) | ((with_reducible refine xS ?_); refine uD 7 zM41 zP1QE zP1QP 125 rfl (by kernel_rfl) ?_)) <;> ((try with_reducible intro K1 hK1); simp only [go_sem, ↓reduceIte, reduceCtorEq, nA, nB, nC, nD, nE, nF, encL_eq, Int.toNat_zero, hcd] <;> and_intros <;> first | (apply hK1; clear hK1 K1) | (intros; first | omega | decide | (simp_all <;> omega)) | skip)) | (refine awp_cond (t := _) rfl (fun hcnd => ?_) (fun hcnd => ?_) <;> first | (cases hcnd; done) | (simp only [hcnd]) | skip)))
    simp only [Tryz.results148, go_sem, ↓reduceIte, reduceCtorEq, nA, nB, nC, nD, nE, nF]
    have f9 := fin fun e => hc e.2
    rw [encL_eq] at f9
    exact ⟨_, _, Weak.refl _, Hp.le.refl _, f9⟩
  ·have e25 : (k2 == 5) = false := by simpa using h25
   refine gE Tryz.func148 rfl (by kernel_rfl) 124 rfl fun c => ?_
   (repeat' (first | refine gO rfl ?_ | ((first | refine gM zM41 ?_ | (with_reducible refine wM ?_ ?_) | ((with_reducible refine xS ?_); refine uD 4 zM41 zP1OE zP1OP 125 rfl (by kernel_rfl) ?_) | ((with_reducible refine xS ?_); refine uD 5 zM41 zP1PE zP1PP 125 rfl (by kernel_rfl) ?_) | ((with_reducible refine xS ?_); refine uD 7 zM41 zP1QE zP1QP 125 rfl (by kernel_rfl) ?_)) <;> ((try with_reducible intro K1 hK1); simp only [go_sem, ↓reduceIte, reduceCtorEq, nA, nB, nC, nD, nE, nF, encL_eq, Int.toNat_zero, e25] <;> and_intros <;> first | (apply hK1; clear hK1 K1) | (intros; first | omega | decide | (simp_all <;> omega)) | skip)) | (refine awp_cond (t := _) rfl (fun hcnd => ?_) (fun hcnd => ?_) <;> first | (cases hcnd; done) | (simp only [hcnd]) | skip)))
   simp only [Tryz.results148, go_sem, ↓reduceIte, reduceCtorEq, nA, nB, nC, nD, nE, nF]
   have f9 := fin fun e => h25 e.1
   rw [encL_eq] at f9
   exact ⟨_, _, Weak.refl _, Hp.le.refl _, f9⟩
 rw [if_neg h5] at hst
 have e1 : (kind == 1) = false := by simpa using h1
 have e5 : (kind == 5) = false := by simpa using h5
 clear hx6 kx dx
 cases x with
 | mk k2 i2 l2 m2' ks2 s2 =>
 by_cases hone : xs = []
 ·subst hone
  rw [if_pos (by rfl)] at hst
  refine gE Tryz.func148 rfl (by kernel_rfl) 124 rfl fun c => ?_
  (repeat' (first | refine gO rfl ?_ | ((first | refine gM zM41 ?_ | (with_reducible refine wM ?_ ?_) | ((with_reducible refine xS ?_); refine uD 4 zM41 zP1OE zP1OP 125 rfl (by kernel_rfl) ?_) | ((with_reducible refine xS ?_); refine uD 5 zM41 zP1PE zP1PP 125 rfl (by kernel_rfl) ?_) | ((with_reducible refine xS ?_); refine uD 7 zM41 zP1QE zP1QP 125 rfl (by kernel_rfl) ?_)) <;> ((try with_reducible intro K1 hK1); simp only [go_sem, ↓reduceIte, reduceCtorEq, nA, nB, nC, nD, nE, nF, e1, e5, Int.toNat_zero, encL_eq] <;> and_intros <;> first | (apply hK1; clear hK1 K1) | (intros; first | omega | decide | (simp_all <;> omega)) | skip)) | (refine awp_cond (t := _) rfl (fun hcnd => ?_) (fun hcnd => ?_) <;> first | (cases hcnd; done) | (simp only [hcnd]) | skip)))
  simp only [Tryz.results148, go_sem, ↓reduceIte, reduceCtorEq, nA, nB, nC, nD, nE, nF]
  exact ⟨_, _, Weak.refl _, Hp.le.refl _, .mk k2 i2 l2 m2' ks2 s2, by rw [hst, encL_eq]; rfl, fun v hv => (by rw [hst] at hv; cases hv; rfl), rfl⟩
 have hxl : 0 < xs.length := List.length_pos_iff.2 hone
 rw [if_neg (by simp; omega)] at hst
 have eone : (((xs.length + 1 : Nat) : Int) == 1) = false := by simp; omega
 simp only [List.length_cons] at hkl h4
 have hkb : ∀ k ∈ LT.mk k2 i2 l2 m2' ks2 s2 :: xs, BL k := (((BL_eq ..).mp (bl_of _ hw hl)).2.2)
 by_cases h2 : kind = 2
 ·subst h2
  rw [if_pos rfl] at hst
  have hg := g_gathP (LT.mk k2 i2 l2 m2' ks2 s2 :: xs) h w10 (by simp; omega) (flat_len w10 (by rw [← hln (by simp)]; exact hl))
  have hgw : ∀ k ∈ gath (flatT (LT.mk k2 i2 l2 m2' ks2 s2 :: xs)), WF k := gath_all (p := WF) (fun it a b => ⟨b, fun m p q => (rep_ok a b m p q).2⟩) _ (flatT (LT.mk k2 i2 l2 m2' ks2 s2 :: xs)) (Nat.le_refl _) (flatT_wf w10) (fun y hy _ => flatT_wf w10 y hy)
  have hgs := gath_lv _ (flatT (LT.mk k2 i2 l2 m2' ks2 s2 :: xs)) (Nat.le_refl _) (flatT_wf w10)
  rw [flatT_lv w10, ← hln (by simp)] at hgs
  have hgl := sum_lv_len hgw
  have hgb : ∀ k ∈ gath (flatT (LT.mk k2 i2 l2 m2' ks2 s2 :: xs)), BL k := fun k hk => bl_of k (hgw k hk) (by
   have : ∀ l : List LT, k ∈ l → lv k ≤ (l.map lv).sum := fun l => by
    induction l with
    | nil => intro h; cases h
    | cons y ys ih =>
     intro h
     rw [List.map_cons, List.sum_cons]
     rcases List.mem_cons.1 h with rfl | h
     ·omega
     ·have := ih h; omega
   have := this _ hk
   omega)
  generalize gath (flatT (LT.mk k2 i2 l2 m2' ks2 s2 :: xs)) = gs at *
  have he := g_equalF 206 gs (LT.mk k2 i2 l2 m2' ks2 s2 :: xs) h (by omega) (by simp; omega) (fun j hj hj2 => g_equal _ _ _ h (Nat.le_refl _) (hgb _ (getD_mem' gs j default hj)) (hkb _ (getD_mem' (LT.mk k2 i2 l2 m2' ks2 s2 :: xs) j default hj2)))
  simp only [List.map_cons, encL_eq] at hg he
  have hq1 : gs = LT.mk k2 i2 l2 m2' ks2 s2 :: xs → eqKs gs (LT.mk k2 i2 l2 m2' ks2 s2 :: xs) = true := eqKs_true.2
  have hq2 : gs ≠ LT.mk k2 i2 l2 m2' ks2 s2 :: xs → eqKs gs (LT.mk k2 i2 l2 m2' ks2 s2 :: xs) = false := eqKs_false.2
  generalize eqKs gs (LT.mk k2 i2 l2 m2' ks2 s2 :: xs) = q at he hq1 hq2
  refine gE Tryz.func148 rfl (by kernel_rfl) 124 rfl fun c => ?_
  (repeat' (first | refine gO rfl ?_ | ((first | refine gM zM41 ?_ | (with_reducible refine wM ?_ ?_) | ((with_reducible refine xS ?_); refine uD 4 zM41 zP1OE zP1OP 125 rfl (by kernel_rfl) ?_) | ((with_reducible refine xS ?_); refine uD 5 zM41 zP1PE zP1PP 125 rfl (by kernel_rfl) ?_) | ((with_reducible refine xS ?_); refine uD 7 zM41 zP1QE zP1QP 125 rfl (by kernel_rfl) ?_)) <;> ((try with_reducible intro K1 hK1); simp only [go_sem, ↓reduceIte, reduceCtorEq, nA, nB, nC, nD, nE, nF, eone, encL_eq, Int.toNat_zero] <;> and_intros <;> first | (apply hK1; clear hK1 K1) | (intros; first | omega | decide | (simp_all <;> omega)) | skip)) | (refine awp_cond (t := _) rfl (fun hcnd => ?_) (fun hcnd => ?_) <;> first | (cases hcnd; done) | (simp only [hcnd]) | skip)))
  refine hg.mono ?_; rintro _ hz ⟨rfl, hh⟩; apply hK1; clear hK1 K1; rw [hh]; clear hh hz
  (repeat' (first | refine gO rfl ?_ | ((first | refine gM zM41 ?_ | (with_reducible refine wM ?_ ?_) | ((with_reducible refine xS ?_); refine uD 4 zM41 zP1OE zP1OP 125 rfl (by kernel_rfl) ?_) | ((with_reducible refine xS ?_); refine uD 5 zM41 zP1PE zP1PP 125 rfl (by kernel_rfl) ?_) | ((with_reducible refine xS ?_); refine uD 7 zM41 zP1QE zP1QP 125 rfl (by kernel_rfl) ?_)) <;> ((try with_reducible intro K1 hK1); simp only [go_sem, ↓reduceIte, reduceCtorEq, nA, nB, nC, nD, nE, nF, eone, encL_eq, Int.toNat_zero] <;> and_intros <;> first | (apply hK1; clear hK1 K1) | (intros; first | omega | decide | (simp_all <;> omega)) | skip)) | (refine awp_cond (t := _) rfl (fun hcnd => ?_) (fun hcnd => ?_) <;> first | (cases hcnd; done) | (simp only [hcnd]) | skip)))
  refine he.mono ?_; rintro _ hz ⟨rfl, hh⟩; apply hK1; clear hK1 K1; rw [hh]; clear hh hz
  (repeat' (first | refine gO rfl ?_ | ((first | refine gM zM41 ?_ | (with_reducible refine wM ?_ ?_) | ((with_reducible refine xS ?_); refine uD 4 zM41 zP1OE zP1OP 125 rfl (by kernel_rfl) ?_) | ((with_reducible refine xS ?_); refine uD 5 zM41 zP1PE zP1PP 125 rfl (by kernel_rfl) ?_) | ((with_reducible refine xS ?_); refine uD 7 zM41 zP1QE zP1QP 125 rfl (by kernel_rfl) ?_)) <;> ((try with_reducible intro K1 hK1); simp only [go_sem, ↓reduceIte, reduceCtorEq, nA, nB, nC, nD, nE, nF, eone, encL_eq, Int.toNat_zero] <;> and_intros <;> first | (apply hK1; clear hK1 K1) | (intros; first | omega | decide | (simp_all <;> omega)) | skip)) | (refine awp_cond (t := _) rfl (fun hcnd => ?_) (fun hcnd => ?_) <;> first | (cases hcnd; done) | (simp only [hcnd]) | skip)))
  simp only [Tryz.results148, go_sem, ↓reduceIte, reduceCtorEq, nA, nB, nC, nD, nE, nF]
  refine ⟨_, _, Weak.tup1 (Weak.agg (row_wl gs)) (Weak.refl _), Hp.le.refl _, rowT gs, ?_, fun v hv => ?_, rfl⟩
  ·rw [hst]
   split
   ·rename_i e; rw [hq1 e]; rfl
   ·rename_i e; rw [hq2 e]; rfl
  ·rw [hst] at hv
   split at hv
   ·cases hv
   ·cases hv; rfl
 rw [if_neg h2] at hst
 have h4' : kind ≠ 4 := by
  rcases h4 with h | h
  ·exact h
  ·omega
 rw [if_neg h4'] at hst
 have h3 : kind = 3 := by omega
 subst h3
 have hany := g_anyF 207 [.ref [.v (.int .i64 3), .v (.string item), .v (.int .i64 long), .v (.int .i64 many), .row 6 ((LT.mk k2 i2 l2 m2' ks2 s2 :: xs).map encL) none, .row 1 (shares.map encI) none] 0] (LT.mk k2 i2 l2 m2' ks2 s2 :: xs) (fun t => !sameB t (.mk k2 i2 l2 m2' ks2 s2) || !plainT t) h (by simp; omega)
  (fun t ht => g_chgSame (.mk k2 i2 l2 m2' ks2 s2) _ t h ⟨_, _, _, _, xs, _, rfl⟩ (hkb _ (List.mem_cons_self ..)) (hkb t ht))
 simp only [List.map_cons, encL_eq] at hany
 have hq1 : (plainT (.mk k2 i2 l2 m2' ks2 s2) = true ∧ ∀ k ∈ LT.mk k2 i2 l2 m2' ks2 s2 :: xs, k = .mk k2 i2 l2 m2' ks2 s2) → (LT.mk k2 i2 l2 m2' ks2 s2 :: xs).any (fun t => !sameB t (.mk k2 i2 l2 m2' ks2 s2) || !plainT t) = false := fun hc => by
  rw [List.any_eq_false]
  intro k hk
  rw [hc.2 k hk, sameB_true.2 rfl, hc.1]; simp
 have hq2 : ¬ (plainT (.mk k2 i2 l2 m2' ks2 s2) = true ∧ ∀ k ∈ LT.mk k2 i2 l2 m2' ks2 s2 :: xs, k = .mk k2 i2 l2 m2' ks2 s2) → (LT.mk k2 i2 l2 m2' ks2 s2 :: xs).any (fun t => !sameB t (.mk k2 i2 l2 m2' ks2 s2) || !plainT t) = true := fun hc => by
  rw [List.any_eq_true]
  by_cases hp : plainT (.mk k2 i2 l2 m2' ks2 s2) = true
  ·have : ∃ k ∈ LT.mk k2 i2 l2 m2' ks2 s2 :: xs, k ≠ .mk k2 i2 l2 m2' ks2 s2 := Classical.byContradiction fun hn => hc ⟨hp, fun k hk => Classical.byContradiction fun h => hn ⟨k, hk, h⟩⟩
   obtain ⟨k, hk, hne⟩ := this
   exact ⟨k, hk, by rw [sameB_false.2 hne]; rfl⟩
  ·exact ⟨.mk k2 i2 l2 m2' ks2 s2, by simp, by simp only [Bool.not_eq_true] at hp; rw [hp]; simp⟩
 generalize (LT.mk k2 i2 l2 m2' ks2 s2 :: xs).any (fun t => !sameB t (.mk k2 i2 l2 m2' ks2 s2) || !plainT t) = q at hany hq1 hq2
 refine gE Tryz.func148 rfl (by kernel_rfl) 124 rfl fun c => ?_
 (repeat' (first | refine gO rfl ?_ | ((first | refine gM zM41 ?_ | (with_reducible refine wM ?_ ?_) | ((with_reducible refine xS ?_); refine uD 4 zM41 zP1OE zP1OP 125 rfl (by kernel_rfl) ?_) | ((with_reducible refine xS ?_); refine uD 5 zM41 zP1PE zP1PP 125 rfl (by kernel_rfl) ?_) | ((with_reducible refine xS ?_); refine uD 7 zM41 zP1QE zP1QP 125 rfl (by kernel_rfl) ?_)) <;> ((try with_reducible intro K1 hK1); simp only [go_sem, ↓reduceIte, reduceCtorEq, nA, nB, nC, nD, nE, nF, eone, encL_eq, Int.toNat_zero] <;> and_intros <;> first | (apply hK1; clear hK1 K1) | (intros; first | omega | decide | (simp_all <;> omega)) | skip)) | (refine awp_cond (t := _) rfl (fun hcnd => ?_) (fun hcnd => ?_) <;> first | (cases hcnd; done) | (simp only [hcnd]) | skip)))
 refine hany.mono ?_; rintro _ hz ⟨rfl, hh⟩; apply hK1; clear hK1 K1; rw [hh]; clear hh hz
 (repeat' (first | refine gO rfl ?_ | ((first | refine gM zM41 ?_ | (with_reducible refine wM ?_ ?_) | ((with_reducible refine xS ?_); refine uD 4 zM41 zP1OE zP1OP 125 rfl (by kernel_rfl) ?_) | ((with_reducible refine xS ?_); refine uD 5 zM41 zP1PE zP1PP 125 rfl (by kernel_rfl) ?_) | ((with_reducible refine xS ?_); refine uD 7 zM41 zP1QE zP1QP 125 rfl (by kernel_rfl) ?_)) <;> ((try with_reducible intro K1 hK1); simp only [go_sem, ↓reduceIte, reduceCtorEq, nA, nB, nC, nD, nE, nF, eone, encL_eq, Int.toNat_zero] <;> and_intros <;> first | (apply hK1; clear hK1 K1) | (intros; first | omega | decide | (simp_all <;> omega)) | skip)) | (refine awp_cond (t := _) rfl (fun hcnd => ?_) (fun hcnd => ?_) <;> first | (cases hcnd; done) | (simp only [hcnd]) | skip)))
 simp only [Tryz.results148, go_sem, ↓reduceIte, reduceCtorEq, nA, nB, nC, nD, nE, nF]
 refine ⟨_, _, Weak.refl _, Hp.le.refl _, .mk k2 i2 l2 m2' ks2 s2, ?_, fun v hv => ?_, rfl⟩
 ·rw [hst, encL_eq]
  split
  ·rename_i e; rw [hq1 e]; rfl
  ·rename_i e; rw [hq2 e]; rfl
 ·rw [hst] at hv
  split at hv
  ·cases hv; rfl
  ·cases hv
section
variable {P : Program} {c : Cx} {Q : Exit → St → Prop} {s : St}
theorem awp_nilRow (t z : Nat) {k : Option Nat} {x : Code} (ht : s.sl.getD t .junk = .row z [] k) (h1 : Awp P c x Q { s with sl := s.sl.set t (.v (.slice none 0 0)) })
  (h2 : ∀ g o n, Awp P c x Q { s with sl := s.sl.set t (.v (.slice (some ⟨g, o, none⟩) 0 (n + 1))) }) (h3 : ∀ a, Awp P c x Q { s with sl := s.sl.set t (.v (.slice (some a) 0 0)) }) : Awp P c x Q s := by
 rintro ac w ⟨G, L, sm, hg, hf, hL⟩
 have put : ∀ v, ac.tmps.getD t undef = v → v.oneCell' = true → Awp P c x Q { s with sl := s.sl.set t (.v v) } → x.wp P (fun e a' w' => ∃ s', Q e s' ∧ In c s' a' w') ac w := fun v hv h1 h => by
  refine h ac w ⟨G, L, ⟨sm.hs, by simpa using sm.sz, fun u hu => ?_, sm.df, sm.ls⟩, hg, hf, hL⟩
  have hu' : u < s.sl.length := by simpa using hu
  simp only [List.getElem_set]
  split
  ·rename_i e
   subst e
   rw [hv]
   exact RepT.of (.v _ h1)
  ·exact sm.sl u hu'
 by_cases hlt : t < s.sl.length
 ·have h9 := sm.sl t hlt
  rw [List.getD_eq_getElem?_getD, List.getElem?_eq_getElem hlt, Option.getD_some] at ht
  rw [ht] at h9
  generalize hv : ac.tmps.getD t undef = v at h9
  have h9' : Rep G (.row z [] k) v := h9
  cases h9' with
  | row _ _ _ g o n cc u hn =>
   simp only [List.length_nil] at hn
   subst hn
   cases cc with
   | zero => exact put _ hv rfl (h3 _)
   | succ cc => exact put _ hv rfl (h2 g o cc)
  | nil => exact put _ hv rfl h1
  | nilA _ a =>
   cases a with
   | none => exact put _ hv rfl h1
   | some a => exact put _ hv rfl (h3 a)
 ·rw [List.getD_eq_getElem?_getD, List.getElem?_eq_none (by omega)] at ht
  cases ht
end
theorem g_clI (x : List AV) (xs : List (List AV)) (k : Option Nat) (h : Hp) (hb : xs.length ≤ 1000) : ACalls Tryz.prog 64 [.row 1 (x :: xs) k] h (fun r h' => ∃ q, h.T q = none ∧ r = .arr 1 q (xs.length + 1) ∧ h' = { h with T := upd h.T q (some (.cont 1 (x :: xs))) }) := by
 refine gE Tryz.func64 rfl (by kernel_rfl) 7 rfl fun c => ?_
 (repeat (first | refine gO rfl ?_ | (refine gM zM44 fun K1 hK1 => ?_; simp only [go_sem, ↓reduceIte, reduceCtorEq, nA, nB, nC, nD, nE, nF] <;> and_intros <;> (apply hK1; clear hK1 K1))))
 refine awp_cond (t := _) rfl (fun h1 => by cases h1) (fun _ => ?_)
 (repeat (first | refine gO rfl ?_ | (refine gM zM44 fun K1 hK1 => ?_; simp only [go_sem, ↓reduceIte, reduceCtorEq, nA, nB, nC, nD, nE, nF] <;> and_intros <;> first | (intros; (decide)) | skip)))
 intro q hq
 and_intros <;> first | (refine hK1 _ ?_; clear hK1 K1) | exact .inl trivial | exact .inr rfl | exact .inr True.intro | exact True.intro | omega
 (repeat ((refine gO rfl ?_)))
 simp only [Tryz.results64, go_sem, ↓reduceIte, reduceCtorEq, nA, nB, nC, nD, nE, nF]
 exact ⟨_, _, Weak.refl _, Hp.le.refl _, q, hq, rfl, rfl⟩
theorem g_clI0 (k : Option Nat) (h : Hp) : ACalls Tryz.prog 64 [.row 1 [] k] h (fun r h' => r = .row 1 [] none ∧ h' = h) := by
 refine ACalls.gup (R := fun r h' => r = .row 1 [] none ∧ h' = h ∨ ∃ q, h.T q = none ∧ r = .arr 1 q 0 ∧ h' = { h with T := upd h.T q (some (.cont 1 [])) }) ?_ ?_
 ·refine gE Tryz.func64 rfl (by kernel_rfl) 7 rfl fun c => ?_
  have fin2 : ∀ q, h.T q = none → ∃ r' h', Weak (.arr 1 q 0) r' ∧ Hp.le h' ⟨h.H, upd h.T q (some (.cont 1 []))⟩ ∧ (r' = .row 1 [] none ∧ h' = h ∨ ∃ q, h.T q = none ∧ r' = .arr 1 q 0 ∧ h' = { h with T := upd h.T q (some (.cont 1 [])) }) :=
   fun q hq => ⟨_, _, Weak.refl _, Hp.le.refl _, .inr ⟨q, hq, rfl, rfl⟩⟩
  refine awp_nilRow 0 1 rfl ?_ (fun g o n => ?_) (fun a => ?_)
  ·(repeat (first | refine gO rfl ?_ | (refine gM zM44 fun K1 hK1 => ?_; simp only [go_sem, ↓reduceIte, reduceCtorEq, nA, nB, nC, nD, nE, nF] <;> and_intros <;> (apply hK1; clear hK1 K1))))
   refine awp_cond (t := _) rfl (fun _ => ?_) (fun h1 => by cases h1)
   (repeat (first | refine gO rfl ?_ | (refine gM zM44 fun K1 hK1 => ?_; simp only [go_sem, ↓reduceIte, reduceCtorEq, nA, nB, nC, nD, nE, nF] <;> and_intros <;> (apply hK1; clear hK1 K1))))
   simp only [Tryz.results64, go_sem, ↓reduceIte, reduceCtorEq, nA, nB, nC, nD, nE, nF]
   exact ⟨_, _, Weak.nil 1 0 0 ⟨rfl, rfl⟩, Hp.le.refl _, .inl ⟨rfl, rfl⟩⟩
  ·(repeat (first | refine gO rfl ?_ | (refine gM zM44 fun K1 hK1 => ?_; simp only [go_sem, ↓reduceIte, reduceCtorEq, nA, nB, nC, nD, nE, nF] <;> and_intros <;> (apply hK1; clear hK1 K1))))
   refine awp_cond (t := _) rfl (fun h1 => by cases h1) (fun _ => ?_)
   (repeat (first | refine gO rfl ?_ | (refine gM zM44 fun K1 hK1 => ?_; simp only [go_sem, ↓reduceIte, reduceCtorEq, nA, nB, nC, nD, nE, nF] <;> and_intros <;> first | (intros; (decide)) | skip)))
   intro q hq
   and_intros <;> first | (refine hK1 _ ?_; clear hK1 K1) | exact .inl trivial | exact .inr rfl | exact .inr True.intro | exact True.intro | omega
   (repeat ((refine gO rfl ?_)))
   simp only [Tryz.results64, go_sem, ↓reduceIte, reduceCtorEq, nA, nB, nC, nD, nE, nF]
   exact fin2 q hq
  ·(repeat (first | refine gO rfl ?_ | (refine gM zM44 fun K1 hK1 => ?_; simp only [go_sem, ↓reduceIte, reduceCtorEq, nA, nB, nC, nD, nE, nF] <;> and_intros <;> (apply hK1; clear hK1 K1))))
   refine awp_cond (t := _) rfl (fun h1 => by cases h1) (fun _ => ?_)
   (repeat (first | refine gO rfl ?_ | (refine gM zM44 fun K1 hK1 => ?_; simp only [go_sem, ↓reduceIte, reduceCtorEq, nA, nB, nC, nD, nE, nF] <;> and_intros <;> first | (intros; (decide)) | skip)))
   intro q hq
   and_intros <;> first | (refine hK1 _ ?_; clear hK1 K1) | exact .inl trivial | exact .inr rfl | exact .inr True.intro | exact True.intro | omega
   (repeat ((refine gO rfl ?_)))
   simp only [Tryz.results64, go_sem, ↓reduceIte, reduceCtorEq, nA, nB, nC, nD, nE, nF]
   exact fin2 q hq
 ·rintro r h' G w v (⟨rfl, rfl⟩ | ⟨q, hq, rfl, rfl⟩) hs hr
  ·exact ⟨_, _, G, ⟨rfl, rfl⟩, GLe.refl _, Fr.refl _ _ _, hs, hr⟩
  ·obtain ⟨G', hle, hfr, hs2, hfz⟩ := hs.freeze (h2 := h) (fun j => j = q) rfl (fun j hj => by subst hj; exact hq) (fun j hj => (upd_other _ _ hj).symm)
   exact ⟨_, _, G', ⟨rfl, rfl⟩, hle, hfr, hs2, hfz q 1 [] v rfl (upd_same _ _ _) hr [] rfl (by simp) fun us hus => hus.mono hle⟩
theorem g_clL (x : List AV) (xs : List (List AV)) (k : Option Nat) (h : Hp) (hb : xs.length ≤ 1000) : ACalls Tryz.prog 147 [.row 6 (x :: xs) k] h (fun r h' => ∃ q, h.T q = none ∧ r = .arr 6 q (xs.length + 1) ∧ h' = { h with T := upd h.T q (some (.cont 6 (x :: xs))) }) := by
 refine gE Tryz.func147 rfl (by kernel_rfl) 7 rfl fun c => ?_
 (repeat (first | refine gO rfl ?_ | (refine gM zM44 fun K1 hK1 => ?_; simp only [go_sem, ↓reduceIte, reduceCtorEq, nA, nB, nC, nD, nE, nF] <;> and_intros <;> (apply hK1; clear hK1 K1))))
 refine awp_cond (t := _) rfl (fun h1 => by cases h1) (fun _ => ?_)
 (repeat (first | refine gO rfl ?_ | (refine gM zM44 fun K1 hK1 => ?_; simp only [go_sem, ↓reduceIte, reduceCtorEq, nA, nB, nC, nD, nE, nF] <;> and_intros <;> first | (intros; (decide)) | skip)))
 intro q hq
 and_intros <;> first | (refine hK1 _ ?_; clear hK1 K1) | exact .inl trivial | exact .inr rfl | exact .inr True.intro | exact True.intro | omega
 (repeat ((refine gO rfl ?_)))
 simp only [Tryz.results147, go_sem, ↓reduceIte, reduceCtorEq, nA, nB, nC, nD, nE, nF]
 exact ⟨_, _, Weak.refl _, Hp.le.refl _, q, hq, rfl, rfl⟩
theorem g_clL0 (k : Option Nat) (h : Hp) : ACalls Tryz.prog 147 [.row 6 [] k] h (fun r h' => r = .row 6 [] none ∧ h' = h) := by
 refine ACalls.gup (R := fun r h' => r = .row 6 [] none ∧ h' = h ∨ ∃ q, h.T q = none ∧ r = .arr 6 q 0 ∧ h' = { h with T := upd h.T q (some (.cont 6 [])) }) ?_ ?_
 ·refine gE Tryz.func147 rfl (by kernel_rfl) 7 rfl fun c => ?_
  have fin2 : ∀ q, h.T q = none → ∃ r' h', Weak (.arr 6 q 0) r' ∧ Hp.le h' ⟨h.H, upd h.T q (some (.cont 6 []))⟩ ∧ (r' = .row 6 [] none ∧ h' = h ∨ ∃ q, h.T q = none ∧ r' = .arr 6 q 0 ∧ h' = { h with T := upd h.T q (some (.cont 6 [])) }) :=
   fun q hq => ⟨_, _, Weak.refl _, Hp.le.refl _, .inr ⟨q, hq, rfl, rfl⟩⟩
  refine awp_nilRow 0 6 rfl ?_ (fun g o n => ?_) (fun a => ?_)
  ·(repeat (first | refine gO rfl ?_ | (refine gM zM44 fun K1 hK1 => ?_; simp only [go_sem, ↓reduceIte, reduceCtorEq, nA, nB, nC, nD, nE, nF] <;> and_intros <;> (apply hK1; clear hK1 K1))))
   refine awp_cond (t := _) rfl (fun _ => ?_) (fun h1 => by cases h1)
   (repeat (first | refine gO rfl ?_ | (refine gM zM44 fun K1 hK1 => ?_; simp only [go_sem, ↓reduceIte, reduceCtorEq, nA, nB, nC, nD, nE, nF] <;> and_intros <;> (apply hK1; clear hK1 K1))))
   simp only [Tryz.results147, go_sem, ↓reduceIte, reduceCtorEq, nA, nB, nC, nD, nE, nF]
   exact ⟨_, _, Weak.nil 6 0 0 ⟨rfl, rfl⟩, Hp.le.refl _, .inl ⟨rfl, rfl⟩⟩
  ·(repeat (first | refine gO rfl ?_ | (refine gM zM44 fun K1 hK1 => ?_; simp only [go_sem, ↓reduceIte, reduceCtorEq, nA, nB, nC, nD, nE, nF] <;> and_intros <;> (apply hK1; clear hK1 K1))))
   refine awp_cond (t := _) rfl (fun h1 => by cases h1) (fun _ => ?_)
   (repeat (first | refine gO rfl ?_ | (refine gM zM44 fun K1 hK1 => ?_; simp only [go_sem, ↓reduceIte, reduceCtorEq, nA, nB, nC, nD, nE, nF] <;> and_intros <;> first | (intros; (decide)) | skip)))
   intro q hq
   and_intros <;> first | (refine hK1 _ ?_; clear hK1 K1) | exact .inl trivial | exact .inr rfl | exact .inr True.intro | exact True.intro | omega
   (repeat ((refine gO rfl ?_)))
   simp only [Tryz.results147, go_sem, ↓reduceIte, reduceCtorEq, nA, nB, nC, nD, nE, nF]
   exact fin2 q hq
  ·(repeat (first | refine gO rfl ?_ | (refine gM zM44 fun K1 hK1 => ?_; simp only [go_sem, ↓reduceIte, reduceCtorEq, nA, nB, nC, nD, nE, nF] <;> and_intros <;> (apply hK1; clear hK1 K1))))
   refine awp_cond (t := _) rfl (fun h1 => by cases h1) (fun _ => ?_)
   (repeat (first | refine gO rfl ?_ | (refine gM zM44 fun K1 hK1 => ?_; simp only [go_sem, ↓reduceIte, reduceCtorEq, nA, nB, nC, nD, nE, nF] <;> and_intros <;> first | (intros; (decide)) | skip)))
   intro q hq
   and_intros <;> first | (refine hK1 _ ?_; clear hK1 K1) | exact .inl trivial | exact .inr rfl | exact .inr True.intro | exact True.intro | omega
   (repeat ((refine gO rfl ?_)))
   simp only [Tryz.results147, go_sem, ↓reduceIte, reduceCtorEq, nA, nB, nC, nD, nE, nF]
   exact fin2 q hq
 ·rintro r h' G w v (⟨rfl, rfl⟩ | ⟨q, hq, rfl, rfl⟩) hs hr
  ·exact ⟨_, _, G, ⟨rfl, rfl⟩, GLe.refl _, Fr.refl _ _ _, hs, hr⟩
  ·obtain ⟨G', hle, hfr, hs2, hfz⟩ := hs.freeze (h2 := h) (fun j => j = q) rfl (fun j hj => by subst hj; exact hq) (fun j hj => (upd_other _ _ hj).symm)
   exact ⟨_, _, G', ⟨rfl, rfl⟩, hle, hfr, hs2, hfz q 6 [] v rfl (upd_same _ _ _) hr [] rfl (by simp) fun us hus => hus.mono hle⟩
theorem g_clIs (l : List Int) (k : Option Nat) (h : Hp) (hne : l ≠ []) (hb : l.length ≤ 1000) : ACalls Tryz.prog 64 [.row 1 (l.map encI) k] h (fun r h' => ∃ q, h.T q = none ∧ r = .arr 1 q l.length ∧ h' = { h with T := upd h.T q (some (.cont 1 (l.map encI))) }) := by
 cases l with
 | nil => exact absurd rfl hne
 | cons x l => simpa using g_clI (encI x) (l.map encI) k h (by simp at hb ⊢; omega)
theorem g_clLs (l : List LT) (k : Option Nat) (h : Hp) (hne : l ≠ []) (hb : l.length ≤ 1000) : ACalls Tryz.prog 147 [.row 6 (l.map encL) k] h (fun r h' => ∃ q, h.T q = none ∧ r = .arr 6 q l.length ∧ h' = { h with T := upd h.T q (some (.cont 6 (l.map encL))) }) := by
 cases l with
 | nil => exact absurd rfl hne
 | cons x l => simpa using g_clL (encL x) (l.map encL) k h (by simp at hb ⊢; omega)
theorem upd_noneA {α : Type} {f : Nat → Option α} {q : Nat} {x : Option α} (h : f q = none) : upd (upd f q x) q none = f := by
 funext j
 by_cases e : j = q
 ·subst e; rw [upd_same, h]
 ·rw [upd_other _ _ e, upd_other _ _ e]
open Go
set_option linter.unusedVariables false
set_option linter.unusedSimpArgs false
open Nat renaming reduceAdd → nA, reduceSub → nB, reduceMul → nC, reduceLT → nD, reduceLeDiff → nE, reduceEqDiff → nF, reduceMod → nG, reduceDiv → nH, reducePow → nI
abbrev zP1RE : List Nat := [0, 1, 2, 3, 4, 5, 6, 7, 8, 9, 10, 11, 12, 13, 14, 15, 16, 17, 18, 19, 20, 21, 22]
abbrev zP1RP : List (Nat × List Nat × List Nat) := []
abbrev zP1SE : List Nat := [0, 1, 2, 3, 4, 5, 6, 7, 8, 9, 10, 11, 12, 13]
abbrev zP1SP : List (Nat × List Nat × List Nat) := [(14, [], [15])]
abbrev zP1TE : List Nat := [0, 1, 2, 3, 4, 5, 6]
abbrev zP1TP : List (Nat × List Nat × List Nat) := [(7, [5], [8])]
attribute [go_sem] zP1RE zP1RP zP1SE zP1SP zP1TE zP1TP
set_option maxRecDepth 100000
set_option maxHeartbeats 8000000
def divTo (g : Nat) (l : List Int) (j : Nat) : List Int := (l.take j).map (fun x => x / (g : Int)) ++ l.drop j
theorem divTo_len (g : Nat) (l : List Int) (j : Nat) : (divTo g l j).length = l.length := by simp [divTo]; omega
theorem divTo_at (g : Nat) (l : List Int) (j : Nat) (h : j < l.length) : (divTo g l j).getD j 0 = l.getD j 0 := by
 rw [divTo, List.getD_eq_getElem?_getD, List.getD_eq_getElem?_getD, List.getElem?_append_right (by simp; omega), List.getElem?_drop]
 simp only [List.length_map, List.length_take]
 congr 2; omega
theorem divTo_set (g : Nat) (l : List Int) (j : Nat) (h : j < l.length) : (divTo g l j).set j (l.getD j 0 / (g : Int)) = divTo g l (j + 1) := by
 refine List.ext_getElem? fun i => ?_
 rw [List.getElem?_set]
 simp only [divTo_len]
 split
 ·rename_i e
  subst e
  rw [divTo, List.getElem?_append_left (by simp; omega), List.getElem?_map, List.getElem?_take, if_pos (by omega), List.getElem?_eq_getElem h, List.getD_eq_getElem?_getD, List.getElem?_eq_getElem h]; rfl
 ·rename_i hne
  unfold divTo
  rcases Nat.lt_or_ge i j with hlt | hge
  ·rw [List.getElem?_append_left (by simp; omega), List.getElem?_append_left (by simp; omega), List.getElem?_map, List.getElem?_map, List.getElem?_take, List.getElem?_take, if_pos hlt, if_pos (by omega)]
  ·rw [List.getElem?_append_right (by simp; omega), List.getElem?_append_right (by simp; omega), List.getElem?_drop, List.getElem?_drop]
   congr 1; simp; omega
theorem divTo_all (g : Nat) (l : List Int) : divTo g l l.length = divI g l := by simp [divTo, divI]
theorem map_set_encI (l : List Int) (j : Nat) (x : Int) : (l.map encI).set j [.v (.int .i64 x)] = (l.set j x).map encI := by
 rw [List.map_set]; rfl
theorem gcdI_le {l : List Int} (h : ∀ x ∈ l, 1 ≤ x ∧ x ≤ 1000) : gcdI l ≤ 1000 := by rw [← gcdTo_all]; exact gcdTo_le l h _ (Nat.le_refl _)
theorem g_chgP4 (item : ByteArray) (long many : Int) (kids : List LT) (shares : List Int) (h : Hp) (hw : WF (.mk 4 item long many kids shares)) (hl : lv (.mk 4 item long many kids shares) ≤ 1000) (h1 : kids.length ≠ 1) :
  ACalls Tryz.prog 148 [.agg (encL (.mk 4 item long many kids shares))] h (ChgR (.mk 4 item long many kids shares) h) := by
 have hkl := ks_len hw
 simp only [LT.ks] at hkl
 obtain ⟨w1, w2, w3, w4, w5, w6, w7, w8, w9, w10⟩ := (WF_eq ..).mp hw
 have hsl := w6 rfl
 have hkp : 0 < kids.length := List.length_pos_iff.2 (w3 (by decide)).2.2
 have hst := stepT_mk 4 item long many kids shares
 rw [if_neg (by decide), if_neg (by decide), if_neg h1, if_neg (by decide), if_pos rfl] at hst
 have hne : shares ≠ [] := fun e => by rw [e] at hsl; simp at hsl; omega
 have hgp := gcdI_pos (fun x hx => (w8 x hx).1) hne
 have hgl := gcdI_le w8
 have hdv := g_divisorP shares h (by omega) w8
 have hcl := g_clIs shares none h hne (by omega)
 have eone : ((kids.length : Int) == 1) = false := by simp; omega
 have fin : ∀ g : Nat, g = gcdI shares → ∃ u, AV.tup [.agg [.v (.int .i64 4), .v (.string item), .v (.int .i64 long), .v (.int .i64 many), .row 6 (kids.map encL) none, .row 1 ((divI (gcdI shares) shares).map encI) none], .v (.bool (decide ((1 : Int) < (g : Nat))))] = .tup [.agg (encL u), .v (.bool (stepT (.mk 4 item long many kids shares)).isSome)] ∧ (∀ v, stepT (.mk 4 item long many kids shares) = some v → u = v) ∧ h = h := fun g e => by
  refine ⟨.mk 4 item long many kids (divI (gcdI shares) shares), ?_, fun v hv => ?_, rfl⟩
  ·rw [hst, encL_eq, e]
   split
   ·rename_i h9
    have : decide ((1 : Int) < (gcdI shares : Nat)) = true := by simp; omega
    rw [this]; rfl
   ·rename_i h9
    have : decide ((1 : Int) < (gcdI shares : Nat)) = false := by simp; omega
    rw [this]; rfl
  ·rw [hst] at hv
   split at hv
   ·cases hv; rfl
   ·cases hv
 rw [encL_eq]
 generalize hG : gcdI shares = gg at *
 obtain ⟨x, xs, rfl⟩ := List.exists_cons_of_ne_nil (show kids ≠ [] by intro e; rw [e] at hkp; simp at hkp)
 cases x with
 | mk k2 i2 l2 m2' ks2 s2 =>
 simp only [List.length_cons] at eone
 have hKK : (LT.mk k2 i2 l2 m2' ks2 s2 :: xs).map encL = ([.v (.int .i64 k2), .v (.string i2), .v (.int .i64 l2), .v (.int .i64 m2'), .row 6 (ks2.map encL) none, .row 1 (s2.map encI) none] :: xs.map encL) := by rw [List.map_cons, encL_eq]
 rw [hKK] at fin ⊢
 refine gE Tryz.func148 rfl (by kernel_rfl) 124 rfl fun c => ?_
 (repeat' (first | refine gO rfl ?_ | ((first | refine gM zM45 ?_ | (with_reducible refine wM ?_ ?_) | ((with_reducible refine xS ?_); refine uD 4 zM45 zP1RE zP1RP 125 rfl (by kernel_rfl) ?_) | ((with_reducible refine xS ?_); refine uD 5 zM45 zP1SE zP1SP 125 rfl (by kernel_rfl) ?_) | ((with_reducible refine xS ?_); refine uD 7 zM45 zP1TE zP1TP 125 rfl (by kernel_rfl) ?_)) <;> ((try with_reducible intro K1 hK1); simp only [go_sem, ↓reduceIte, reduceCtorEq, nA, nB, nC, nD, nE, nF, eone, Int.toNat_zero, List.length_map] <;> and_intros <;> first | (apply hK1; clear hK1 K1) | (intros; first | omega | decide | (simp_all <;> omega)) | skip)) | (refine awp_cond (t := _) rfl (fun hcnd => ?_) (fun hcnd => ?_) <;> first | (cases hcnd; done) | (simp only [hcnd]) | skip)))
 refine hdv.mono ?_; rintro _ hz ⟨rfl, hh⟩; apply hK1; clear hK1 K1; rw [hh]; clear hh hz
 (repeat' (first | refine gO rfl ?_ | ((first | refine gM zM45 ?_ | (with_reducible refine wM ?_ ?_) | ((with_reducible refine xS ?_); refine uD 4 zM45 zP1RE zP1RP 125 rfl (by kernel_rfl) ?_) | ((with_reducible refine xS ?_); refine uD 5 zM45 zP1SE zP1SP 125 rfl (by kernel_rfl) ?_) | ((with_reducible refine xS ?_); refine uD 7 zM45 zP1TE zP1TP 125 rfl (by kernel_rfl) ?_)) <;> ((try with_reducible intro K1 hK1); simp only [go_sem, ↓reduceIte, reduceCtorEq, nA, nB, nC, nD, nE, nF, eone, Int.toNat_zero, List.length_map] <;> and_intros <;> first | (apply hK1; clear hK1 K1) | (intros; first | omega | decide | (simp_all <;> omega)) | skip)) | (refine awp_cond (t := _) rfl (fun hcnd => ?_) (fun hcnd => ?_) <;> first | (cases hcnd; done) | (simp only [hcnd]) | skip)))
 refine hcl.mono ?_; rintro _ _ ⟨q, hq, rfl, rfl⟩; apply hK1; clear hK1 K1
 (repeat (first | refine gO rfl ?_ | ((refine gM zM45 fun K1 hK1 => ?_; simp only [go_sem, ↓reduceIte, reduceCtorEq, nA, nB, nC, nD, nE, nF] <;> and_intros <;> (apply hK1; clear hK1 K1)))))
 refine awp_loopC (rl false [1, 2, 3, 1, 92, 2, 24]) 2 (fun g s => ∃ j : Nat, g + j = shares.length ∧
  s = ⟨(AV.junk :: ((.loc 0 0) :: (.loc 1 0) :: (jnk 3 ((.v (.int .i64 (gg : Nat))) :: (jnk 92 ((.v (.int .i64 shares.length)) :: (.v (.int .i64 j)) :: (jnk 24 []))))))),
   [[.v (.int .i64 4), .v (.string item), .v (.int .i64 long), .v (.int .i64 many), .row 6 ([.v (.int .i64 k2), .v (.string i2), .v (.int .i64 l2), .v (.int .i64 m2'), .row 6 (ks2.map encL) none, .row 1 (s2.map encI) none] :: xs.map encL) none, .arr 1 q shares.length], [.v (.int .i64 0), .v (.string ⟨#[]⟩), .v (.int .i64 0), .v (.int .i64 0), .v (.slice none 0 0), .v (.slice none 0 0)]], ⟨h.H, upd h.T q (some (.cont 1 ((divTo gg shares j).map encI)))⟩⟩) shares.length ⟨0, by omega, rfl⟩ ?_
 rintro g _ ⟨j, hj, rfl⟩
 obtain ⟨ys, hys⟩ : ∃ ys, ys = (divTo gg shares j).map encI := ⟨_, rfl⟩
 rw [← hys]
 have hyl : ys.length = shares.length := by rw [hys, List.length_map, divTo_len]
 have hTq : upd h.T q (some (TO.cont 1 ys)) q = some (.cont 1 ys) := upd_same _ _ _
 (repeat (first | refine gO rfl ?_ | ((refine gM zM45 fun K1 hK1 => ?_; simp only [go_sem, ↓reduceIte, reduceCtorEq, nA, nB, nC, nD, nE, nF] <;> and_intros <;> (apply hK1; clear hK1 K1)))))
 refine awp_cond (t := _) rfl (fun h9 => ?_) (fun h9 => ?_)
 ·simp only [decide_eq_true_eq] at h9
  have hjl : j < shares.length := by omega
  have hgy : ys.getD j [] = [.v (.int .i64 (shares.getD j 0))] := by
   rw [hys, getD_enc encI _ j 0 (by rw [divTo_len]; exact hjl), divTo_at _ _ _ hjl]; rfl
  have hset := divTo_set gg shares j hjl
  have hxb := w8 _ (getD_mem' shares j 0 hjl)
  generalize shares.getD j 0 = x at *
  have hq2 : x.tdiv (gg : Int) = x / (gg : Int) := Int.tdiv_eq_ediv_of_nonneg (by omega)
  have hq3 : 0 ≤ x / (gg : Int) ∧ x / (gg : Int) ≤ x := ⟨Int.ediv_nonneg (by omega) (by omega), Int.ediv_le_self _ (by omega)⟩
  (repeat (first | refine gO rfl ?_ | ((refine gM zM45 fun K1 hK1 => ?_; simp only [go_sem, ↓reduceIte, reduceCtorEq, nA, nB, nC, nD, nE, nF, Int.toNat_natCast, hTq, hyl, hgy, hq2] <;> and_intros <;> first | (apply hK1; clear hK1 K1) | (intros; (omega))))))
  refine ⟨g - 1, by omega, j + 1, by omega, ?_⟩
  rw [← hset, ← map_set_encI, ← hys]; rfl
 ·simp only [decide_eq_false_iff_not] at h9
  have hjl : j = shares.length := by omega
  subst hjl
  rw [divTo_all] at hys
  refine awp_frzLoc 0 5 q 1 (xs := ys) rfl (by rw [hyl]; rfl) hTq (fun y hy => by rw [hys] at hy; obtain ⟨_, _, rfl⟩ := List.mem_map.1 hy; rfl) ?_
  simp only [upd_upd, upd_noneA hq, List.set_cons_zero, List.set_cons_succ]
  (repeat (first | refine gO rfl ?_ | ((refine gM zM45 fun K1 hK1 => ?_; simp only [go_sem, ↓reduceIte, reduceCtorEq, nA, nB, nC, nD, nE, nF] <;> and_intros <;> (apply hK1; clear hK1 K1)))))
  simp only [Tryz.results148, go_sem, ↓reduceIte, reduceCtorEq, nA, nB, nC, nD, nE, nF]
  subst hys
  exact ⟨_, _, Weak.refl _, Hp.le.refl _, fin gg rfl⟩
theorem g_chgP (t : LT) (h : Hp) (hw : WF t) (hl : lv t ≤ 1000) : ACalls Tryz.prog 148 [.agg (encL t)] h (ChgR t h) := by
 by_cases h4 : t.kd ≠ 4 ∨ t.ks.length = 1
 ·exact g_chgP0 t h hw hl h4
 ·cases t with
  | mk kind item long many kids shares =>
   simp only [LT.kd, LT.ks, not_or, Decidable.not_not] at h4
   obtain ⟨rfl, h5⟩ := h4
   exact g_chgP4 item long many kids shares h hw hl h5
abbrev zP1UE : List Nat := [0, 1, 2, 3]
abbrev zP1UP : List (Nat × List Nat × List Nat) := [(4, [1], [5]), (6, [], [])]
attribute [go_sem] zP1UE zP1UP
def mapTo (f : LT → LT) (l : List LT) (j : Nat) : List LT := (l.take j).map f ++ l.drop j
theorem mapTo_len (f : LT → LT) (l : List LT) (j : Nat) : (mapTo f l j).length = l.length := by simp [mapTo]; omega
theorem mapTo_at (f : LT → LT) (l : List LT) (j : Nat) (h : j < l.length) : (mapTo f l j).getD j default = l.getD j default := by
 rw [mapTo, List.getD_eq_getElem?_getD, List.getD_eq_getElem?_getD, List.getElem?_append_right (by simp; omega), List.getElem?_drop]
 simp only [List.length_map, List.length_take]
 congr 2; omega
theorem mapTo_set (f : LT → LT) (l : List LT) (j : Nat) (h : j < l.length) : (mapTo f l j).set j (f (l.getD j default)) = mapTo f l (j + 1) := by
 refine List.ext_getElem? fun i => ?_
 rw [List.getElem?_set]
 simp only [mapTo_len]
 split
 ·rename_i e
  subst e
  rw [mapTo, List.getElem?_append_left (by simp; omega), List.getElem?_map, List.getElem?_take, if_pos (by omega), List.getElem?_eq_getElem h, List.getD_eq_getElem?_getD, List.getElem?_eq_getElem h]; rfl
 ·rename_i hne
  unfold mapTo
  rcases Nat.lt_or_ge i j with hlt | hge
  ·rw [List.getElem?_append_left (by simp; omega), List.getElem?_append_left (by simp; omega), List.getElem?_map, List.getElem?_map, List.getElem?_take, List.getElem?_take, if_pos hlt, if_pos (by omega)]
  ·rw [List.getElem?_append_right (by simp; omega), List.getElem?_append_right (by simp; omega), List.getElem?_drop, List.getElem?_drop]
   congr 1; simp; omega
theorem mapTo_all (f : LT → LT) (l : List LT) : mapTo f l l.length = l.map f := by simp [mapTo]
def z28' : List AV := [.v (.int .i64 0), .v (.string ⟨#[]⟩), .v (.int .i64 0), .v (.int .i64 0), .v (.slice none 0 0), .v (.slice none 0 0)]
theorem one_row (z : Nat) (xs : List (List AV)) (k : Option Nat) : OneV (.row z xs k) := ⟨rfl, rfl, rfl, rfl, rfl⟩
theorem one_arr (z k n : Nat) : OneV (.arr z k n) := ⟨rfl, rfl, rfl, rfl, rfl⟩
def ClK (kids : List LT) (h : Hp) (r : AV) (h' : Hp) : Prop := OneV r ∧ (kids = [] ∧ r = .row 6 [] none ∧ h' = h ∨ ∃ q, h.T q = none ∧ r = .arr 6 q kids.length ∧ h' = ⟨h.H, upd h.T q (some (.cont 6 (kids.map encL)))⟩ ∧ kids ≠ [])
theorem g_clK (kids : List LT) (k : Option Nat) (h : Hp) (hb : kids.length ≤ 1000) : ACalls Tryz.prog 147 [.row 6 (kids.map encL) k] h (ClK kids h) := by
 by_cases hn : kids = []
 ·subst hn
  exact (g_clL0 k h).mono fun r h' ⟨e, e'⟩ => ⟨by rw [e]; exact one_row .., .inl ⟨rfl, e, e'⟩⟩
 ·exact (g_clLs kids k h hn hb).mono fun r h' ⟨q, a, b, c⟩ => ⟨by rw [b]; exact one_arr .., .inr ⟨q, a, b, c, hn⟩⟩
def ClS (xs : List Int) (h : Hp) (r : AV) (h' : Hp) : Prop := OneV r ∧ (xs = [] ∧ r = .row 1 [] none ∧ h' = h ∨ ∃ q, h.T q = none ∧ r = .arr 1 q xs.length ∧ h' = ⟨h.H, upd h.T q (some (.cont 1 (xs.map encI)))⟩ ∧ xs ≠ [])
theorem g_clS (xs : List Int) (k : Option Nat) (h : Hp) (hb : xs.length ≤ 1000) : ACalls Tryz.prog 64 [.row 1 (xs.map encI) k] h (ClS xs h) := by
 by_cases hn : xs = []
 ·subst hn
  exact (g_clI0 k h).mono fun r h' ⟨e, e'⟩ => ⟨by rw [e]; exact one_row .., .inl ⟨rfl, e, e'⟩⟩
 ·exact (g_clIs xs k h hn hb).mono fun r h' ⟨q, a, b, c⟩ => ⟨by rw [b]; exact one_arr .., .inr ⟨q, a, b, c, hn⟩⟩
theorem map_set_encL (l : List LT) (j : Nat) (x : LT) : (l.map encL).set j (encL x) = (l.set j x).map encL := by rw [List.map_set]
theorem g_leastP (n : Nat) : ∀ (t : LT) (h : Hp), SizeOf.sizeOf t ≤ n → WF t → lv t ≤ 1000 → ACalls Tryz.prog 86 [.agg (encL t)] h (fun r h' => r = .agg (encL (leastF t)) ∧ h' = h) := by
 induction n with
 | zero =>
  rintro ⟨k, i, l, m, ks, s⟩ h hn
  rw [LT.mk.sizeOf_spec] at hn
  omega
 | succ n ih =>
  rintro ⟨kind, item, long, many, kids, shares⟩ h hn hw hl
  have hkl := ks_len hw
  simp only [LT.ks] at hkl
  have hwk : ∀ k ∈ kids, WF k := hw.kids
  have hgood := least_good hw hl
  have hih : ∀ k ∈ kids, ∀ h, ACalls Tryz.prog 86 [.agg (encL k)] h (fun r h' => r = .agg (encL (leastF k)) ∧ h' = h) := fun k hk h => ih k h (by
   have := kid_size (kind := kind) (item := item) (long := long) (many := many) (shares := shares) hk
   omega) (hwk k hk) (by have := lv_kid (t := .mk kind item long many kids shares) hk; omega)
  rw [leastF_eq]
  have hent : encL (.mk kind item long many (kids.map leastF) shares) = [.v (.int .i64 kind), .v (.string item), .v (.int .i64 long), .v (.int .i64 many), .row 6 ((kids.map leastF).map encL) none, .row 1 (shares.map encI) none] := encL_eq ..
  generalize LT.mk kind item long many (kids.map leastF) shares = t' at hgood hent ⊢
  have hcl := g_clK kids none h (by omega)
  rw [encL_eq]
  refine gE Tryz.func86 rfl (by kernel_rfl) 39 rfl fun c => ?_
  (repeat (first | refine gQ rfl ?_ | ((refine gM zM46 fun K1 hK1 => ?_; simp only [go_sem, ↓reduceIte, reduceCtorEq, nA, nB, nC, nD, nE, nF] <;> and_intros <;> first | (apply hK1; clear hK1 K1) | skip))))
  refine hcl.mono ?_
  rintro r h1 ⟨o3, hr⟩
  obtain ⟨w1, w2, w3, w4, w5⟩ := o3
  unfold uside at w1; unfold unw at w2; unfold AV.noLoc at w3; unfold isOpt at w4; simp only [AV.cellsB, Value.oneCell'] at w5
  refine hK1 _ ?_; clear hK1 K1
  (repeat (first | refine gQ rfl ?_ | ((refine gM zM46 fun K1 hK1 => ?_; simp only [go_sem, ↓reduceIte, reduceCtorEq, nA, nB, nC, nD, nE, nF, w1, w2, w3, w4, w5] <;> and_intros <;> (apply hK1; clear hK1 K1)))))
  refine awp_seqJ (rl false [1, 2, 37]) 2 (fun s => s = ⟨(AV.junk :: ((.loc 0 0) :: (.loc 1 0) :: (jnk 37 []))), [encL t', z28'], h⟩) ?_ ?_
  ·rw [hent]
   rcases hr with ⟨rfl, rfl, rfl⟩ | ⟨q, hq, rfl, rfl, hkn⟩
   ·(repeat (first | refine gO rfl ?_ | ((refine gM zM46 fun K1 hK1 => ?_; simp only [go_sem, ↓reduceIte, reduceCtorEq, nA, nB, nC, nD, nE, nF] <;> and_intros <;> (apply hK1; clear hK1 K1)))))
    refine awp_loopC (rl false [1, 2, 9, 3, 25]) 2 (fun g s => s = ⟨(AV.junk :: ((.loc 0 0) :: (.loc 1 0) :: (jnk 9 ((.row 6 [] none) :: (.v (.int .i64 0)) :: (.v (.int .i64 0)) :: (jnk 25 []))))), [[.v (.int .i64 kind), .v (.string item), .v (.int .i64 long), .v (.int .i64 many), .row 6 [] none, .row 1 (shares.map encI) none], z28'], h1⟩) 0 rfl ?_
    rintro g _ rfl
    (repeat (first | refine gO rfl ?_ | ((refine gM zM46 fun K1 hK1 => ?_; simp only [go_sem, ↓reduceIte, reduceCtorEq, nA, nB, nC, nD, nE, nF] <;> and_intros <;> (apply hK1; clear hK1 K1)))))
    refine awp_cond (t := _) rfl (fun h9 => by cases h9) (fun h9 => ?_)
    (repeat ((refine gO rfl ?_)))
    rfl
   ·(repeat (first | refine gO rfl ?_ | ((refine gM zM46 fun K1 hK1 => ?_; simp only [go_sem, ↓reduceIte, reduceCtorEq, nA, nB, nC, nD, nE, nF] <;> and_intros <;> (apply hK1; clear hK1 K1)))))
    refine awp_loopC (rl false [1, 2, 9, 3, 25]) 2 (fun g s => ∃ j : Nat, g + j = kids.length ∧
     s = ⟨(AV.junk :: ((.loc 0 0) :: (.loc 1 0) :: (jnk 9 ((.arr 6 q kids.length) :: (.v (.int .i64 kids.length)) :: (.v (.int .i64 j)) :: (jnk 25 []))))),
      [[.v (.int .i64 kind), .v (.string item), .v (.int .i64 long), .v (.int .i64 many), .arr 6 q kids.length, .row 1 (shares.map encI) none], z28'], ⟨h.H, upd h.T q (some (.cont 6 ((mapTo leastF kids j).map encL)))⟩⟩) kids.length ⟨0, by omega, rfl⟩ ?_
    rintro g _ ⟨j, hj, rfl⟩
    obtain ⟨ys, hys⟩ : ∃ ys, ys = (mapTo leastF kids j).map encL := ⟨_, rfl⟩
    rw [← hys]
    have hyl : ys.length = kids.length := by rw [hys, List.length_map, mapTo_len]
    have hTq : upd h.T q (some (TO.cont 6 ys)) q = some (.cont 6 ys) := upd_same _ _ _
    (repeat (first | refine gO rfl ?_ | ((refine gM zM46 fun K1 hK1 => ?_; simp only [go_sem, ↓reduceIte, reduceCtorEq, nA, nB, nC, nD, nE, nF] <;> and_intros <;> (apply hK1; clear hK1 K1)))))
    refine awp_cond (t := _) rfl (fun h9 => ?_) (fun h9 => ?_)
    ·simp only [decide_eq_true_eq] at h9
     have hjl : j < kids.length := by omega
     have hgy : ys.getD j [] = encL (kids.getD j default) := by
      rw [hys, getD_enc encL _ j default (by rw [mapTo_len]; exact hjl), mapTo_at _ _ _ hjl]
     have hset := mapTo_set leastF kids j hjl
     have hc := hih _ (getD_mem' kids j default hjl)
     generalize kids.getD j default = x at *
     have hlx := encL_len x
     have kx : List.take 6 (encL x) = encL x := List.take_of_length_le (Nat.le_of_eq hlx)
     have dx : List.drop 6 (encL x) = [] := List.drop_of_length_le (Nat.le_of_eq hlx)
     have hly := encL_len (leastF x)
     have ky : List.take 6 (encL (leastF x)) = encL (leastF x) := List.take_of_length_le (Nat.le_of_eq hly)
     (repeat (first | refine gO rfl ?_ | ((first | refine gM zM46 ?_ | ((with_reducible refine xR ?_); refine uE 5 zM46 zP1UE zP1UP 40 rfl (by kernel_rfl) ?_)) <;> ((try with_reducible intro K1 hK1); simp only [go_sem, ↓reduceIte, reduceCtorEq, nA, nB, nC, nD, nE, nF, Int.toNat_natCast, hTq, hyl, hgy, hlx, kx, dx] <;> and_intros <;> first | (apply hK1; clear hK1 K1) | (intros; (omega)) | skip))))
     refine (hc _).mono ?_; rintro _ hz ⟨rfl, hh⟩; apply hK1; clear hK1 K1; rw [hh]; clear hh hz
     (repeat (first | refine gO rfl ?_ | ((first | refine gM zM46 ?_ | (with_reducible refine wM ?_ ?_)) <;> ((try with_reducible intro K1 hK1); simp only [go_sem, ↓reduceIte, reduceCtorEq, nA, nB, nC, nD, nE, nF, Int.toNat_natCast, hTq, hyl, hgy, hlx, kx, dx, hly, ky] <;> and_intros <;> first | (apply hK1; clear hK1 K1) | (intros; first | omega | (simp_all <;> omega))))))
     refine ⟨g - 1, by omega, j + 1, by omega, ?_⟩
     rw [← hset, ← map_set_encL, ← hys]; rfl
    ·simp only [decide_eq_false_iff_not] at h9
     have hjl : j = kids.length := by omega
     subst hjl
     rw [mapTo_all] at hys
     refine awp_frzLoc 0 4 q 6 (xs := ys) rfl (by rw [hyl]; rfl) hTq (fun y hy => by rw [hys] at hy; obtain ⟨z, _, rfl⟩ := List.mem_map.1 hy; exact encL_len z) ?_
     simp only [upd_upd, upd_noneA hq, List.set_cons_zero, List.set_cons_succ]
     (repeat ((refine gO rfl ?_)))
     rw [hys]; rfl
  ·rintro _ rfl
   clear hcl hr w1 w2 w3 w4 w5 hih hent
   have hlt := encL_len t'
   have kt : List.take 6 (encL t') = encL t' := List.take_of_length_le (Nat.le_of_eq hlt)
   have dt : List.drop 6 (encL t') = [] := List.drop_of_length_le (Nat.le_of_eq hlt)
   skip
   refine awp_seq ?_
   (repeat (((refine gM zM46 fun K1 hK1 => ?_; simp only [go_sem, ↓reduceIte, reduceCtorEq, nA, nB, nC, nD, nE, nF, hlt, kt, dt] <;> and_intros))))
   refine (g_chgP t' h hgood.1.1 hgood.1.2).mono ?_
   rintro _ hz ⟨u, rfl, hu, hh⟩
   refine hK1 _ ?_; clear hK1 K1
   rw [hh]; clear hh hz
   have hlu := encL_len u
   have ku : List.take 6 (encL u) = encL u := List.take_of_length_le (Nat.le_of_eq hlu)
   have du : List.drop 6 (encL u) = [] := List.drop_of_length_le (Nat.le_of_eq hlu)
   (repeat (((refine gM zM46 fun K1 hK1 => ?_; simp only [go_sem, ↓reduceIte, reduceCtorEq, nA, nB, nC, nD, nE, nF, hlu, ku, du] <;> and_intros))))
   intro i hi
   and_intros <;> first | (refine hK1 _ ?_; clear hK1 K1) | exact .inl trivial | exact .inr rfl | exact .inr True.intro | exact True.intro | omega
   (repeat ((refine gO rfl ?_)))
   refine awp_loopC (rl false [1, 2, 2, 2, 33]) 2 (fun g s => ∃ (cur u : LT) (i : Nat) (H' : Nat → Option AO), GoodN 1000 g cur ∧ fixT g cur = fixT 2 t' ∧ (∀ v, stepT cur = some v → u = v) ∧ (∀ j, h.H j ≠ none → H' j = h.H j) ∧ H' i = some (.cells (encL u)) ∧
    s = ⟨(AV.junk :: ((.loc 0 0) :: (.loc 1 0) :: AV.junk :: AV.junk :: ((.ptr i 0) :: (.v (.bool (stepT cur).isSome)) :: (jnk 33 [])))), [encL cur, z28'], ⟨H', h.T⟩⟩) 2 ⟨t', u, i, _, hgood, rfl, hu, fun j hj => upd_other _ _ (fun e => hj (e ▸ hi)), upd_same _ _ _, rfl⟩ ?_
   clear hlu ku du hlt kt dt hu hi
   rintro g _ ⟨cur, u, i, H', hg, hf, hu, hk, hi, rfl⟩
   have hlu := encL_len u
   have ku : List.take 6 (encL u) = encL u := List.take_of_length_le (Nat.le_of_eq hlu)
   have du : List.drop 6 (encL u) = [] := List.drop_of_length_le (Nat.le_of_eq hlu)
   have hlc := encL_len cur
   have kc : List.take 6 (encL cur) = encL cur := List.take_of_length_le (Nat.le_of_eq hlc)
   have dc : List.drop 6 (encL cur) = [] := List.drop_of_length_le (Nat.le_of_eq hlc)
   (repeat (first | refine gO rfl ?_ | ((refine gM zM46 fun K1 hK1 => ?_; simp only [go_sem, ↓reduceIte, reduceCtorEq, nA, nB, nC, nD, nE, nF] <;> and_intros <;> (apply hK1; clear hK1 K1)))))
   cases hs : stepT cur with
   | none =>
    refine awp_cond (t := _) rfl (fun h9 => by cases h9) (fun h9 => ?_)
    rw [fix_none hs] at hf
    have dz : List.drop 6 z28' = [] := rfl
    (repeat (first | refine gO rfl ?_ | ((refine gM zM46 fun K1 hK1 => ?_; simp only [go_sem, ↓reduceIte, reduceCtorEq, nA, nB, nC, nD, nE, nF, hlc, kc, dc, dz] <;> and_intros <;> first | (apply hK1; clear hK1 K1) | (intros; (decide))))))
    simp only [Tryz.results86, go_sem, ↓reduceIte, reduceCtorEq, nA, nB, nC, nD, nE, nF, hlc, kc, dc, dz]
    exact ⟨_, h, Weak.refl _, ⟨fun j => by
     by_cases e : h.H j = none
     ·exact .inl e
     ·exact .inr (hk j e).symm, fun _ => .inr rfl⟩, by rw [hf], rfl⟩
   | some v =>
    obtain rfl := hu v hs
    refine awp_cond (t := _) rfl (fun h9 => ?_) (fun h9 => by cases h9)
    obtain ⟨g, rfl⟩ : ∃ g', g = g' + 1 := by
     cases g with
     | zero => have := hg.2; rw [this] at hs; cases hs
     | succ g => exact ⟨g, rfl⟩
    have hg2 := hg.2 u hs
    rw [fix_some hs] at hf
    (repeat (first | refine gO rfl ?_ | ((refine gM zM46 fun K1 hK1 => ?_; simp only [go_sem, ↓reduceIte, reduceCtorEq, nA, nB, nC, nD, nE, nF, hi, hlu, ku, du, hlc, kc, dc] <;> and_intros <;> first | (apply hK1; clear hK1 K1) | skip))))
    intro i2 hi2
    and_intros <;> first | (refine hK1 _ ?_; clear hK1 K1) | exact .inl trivial | exact .inr rfl | exact .inr True.intro | exact True.intro | omega
    (repeat (first | refine gO rfl ?_ | ((refine gM zM46 fun K1 hK1 => ?_; simp only [go_sem, ↓reduceIte, reduceCtorEq, nA, nB, nC, nD, nE, nF, hi, hlu, ku, du, hlc, kc, dc] <;> and_intros))))
    refine (g_chgP u _ (by cases g <;> exact hg2.1.1) (by cases g <;> exact hg2.1.2)).mono ?_
    rintro _ hz ⟨u2, rfl, hu2, hh⟩
    refine hK1 _ ?_; clear hK1 K1
    rw [hh]; clear hh hz
    have hlu2 := encL_len u2
    have ku2 : List.take 6 (encL u2) = encL u2 := List.take_of_length_le (Nat.le_of_eq hlu2)
    have du2 : List.drop 6 (encL u2) = [] := List.drop_of_length_le (Nat.le_of_eq hlu2)
    (repeat (first | refine gO rfl ?_ | ((refine gM zM46 fun K1 hK1 => ?_; simp only [go_sem, ↓reduceIte, reduceCtorEq, nA, nB, nC, nD, nE, nF, hlu, ku, du, hlu2, ku2, du2] <;> and_intros <;> (apply hK1; clear hK1 K1)))))
    exact ⟨g, by omega, u, u2, i2, _, hg2, hf, hu2, fun j hj => by
     have e : j ≠ i2 := fun e => by subst e; rw [hk _ hj] at hi2; exact hj hi2
     first | exact (upd_other _ _ e).trans (hk j hj) | (rw [upd_other _ _ e, upd_other _ _ e]; exact hk j hj), upd_same _ _ _, rfl⟩
abbrev zP1VE : List Nat := [0, 1, 3, 4]
abbrev zP1VP : List (Nat × List Nat × List Nat) := [(2, [4], [6]), (5, [], []), (7, [], [8]), (9, [], [])]
abbrev zP1WE : List Nat := [0, 1, 2, 3]
abbrev zP1WP : List (Nat × List Nat × List Nat) := [(4, [1], [5]), (6, [], [])]
attribute [go_sem] zP1VE zP1VP zP1WE zP1WP
theorem g_cloneP (n : Nat) : ∀ (t : LT) (h : Hp), SizeOf.sizeOf t ≤ n → BL t → ACalls Tryz.prog 85 [.agg (encL t)] h (fun r h' => r = .agg (encL t) ∧ h' = h) := by
 induction n with
 | zero =>
  rintro ⟨k, i, l, m, ks, s⟩ h hn
  rw [LT.mk.sizeOf_spec] at hn
  omega
 | succ n ih =>
  rintro ⟨kind, item, long, many, kids, shares⟩ h hn hb
  obtain ⟨b1, b2, b3⟩ := (BL_eq ..).mp hb
  have hih : ∀ k ∈ kids, ∀ h, ACalls Tryz.prog 85 [.agg (encL k)] h (fun r h' => r = .agg (encL k) ∧ h' = h) := fun k hk h => ih k h (by
   have := kid_size (kind := kind) (item := item) (long := long) (many := many) (shares := shares) hk
   omega) (b3 k hk)
  have hcS := g_clS shares none h b2
  have hcK := fun h => g_clK kids none h b1
  rw [encL_eq]
  refine gE Tryz.func85 rfl (by kernel_rfl) 28 rfl fun c => ?_
  (repeat (first | refine gQ rfl ?_ | ((first | refine gM zM47 ?_ | ((with_reducible refine xS ?_); refine uD 1 zM47 zP1VE zP1VP 29 rfl (by kernel_rfl) ?_)) <;> ((try with_reducible intro K1 hK1); simp only [go_sem, ↓reduceIte, reduceCtorEq, nA, nB, nC, nD, nE, nF] <;> and_intros <;> first | (apply hK1; clear hK1 K1) | skip))))
  refine hcS.mono ?_
  rintro r h1 ⟨o3, hr⟩
  obtain ⟨w1, w2, w3, w4, w5⟩ := o3
  unfold uside at w1; unfold unw at w2; unfold AV.noLoc at w3; unfold isOpt at w4; simp only [AV.cellsB, Value.oneCell'] at w5
  refine hK1 _ ?_; clear hK1 K1
  (repeat (((first | refine gM zM47 ?_ | (with_reducible refine wM ?_ ?_)) <;> ((try with_reducible intro K1 hK1); simp only [go_sem, ↓reduceIte, reduceCtorEq, nA, nB, nC, nD, nE, nF, w1, w2, w3, w4, w5] <;> and_intros <;> first | (apply hK1; clear hK1 K1) | (intros; (simp_all <;> omega)) | skip))))
  refine (hcK h1).mono ?_
  rintro r2 h2 ⟨o3, hr2⟩
  obtain ⟨v1, v2, v3, v4, v5⟩ := o3
  unfold uside at v1; unfold unw at v2; unfold AV.noLoc at v3; unfold isOpt at v4; simp only [AV.cellsB, Value.oneCell'] at v5
  refine hK1 _ ?_; clear hK1 K1
  (repeat (first | refine gQ rfl ?_ | ((first | refine gM zM47 ?_ | (with_reducible refine wM ?_ ?_)) <;> ((try with_reducible intro K1 hK1); simp only [go_sem, ↓reduceIte, reduceCtorEq, nA, nB, nC, nD, nE, nF, w1, w2, w3, w4, w5, v1, v2, v3, v4, v5] <;> and_intros <;> (apply hK1; clear hK1 K1)))))
  refine awp_seqJ (rl false [1, 2, 26]) 2 (fun s => s = ⟨(AV.junk :: ((.loc 0 0) :: (.loc 1 0) :: (jnk 26 []))), [[.v (.int .i64 kind), .v (.string item), .v (.int .i64 long), .v (.int .i64 many), .row 6 (kids.map encL) none, r], z28'], h1⟩) ?_ ?_
  ·rcases hr2 with ⟨rfl, rfl, rfl⟩ | ⟨q, hq, rfl, rfl, hkn⟩
   ·(repeat (first | refine gO rfl ?_ | ((refine gM zM47 fun K1 hK1 => ?_; simp only [go_sem, ↓reduceIte, reduceCtorEq, nA, nB, nC, nD, nE, nF, w1, w2, w3, w4, w5] <;> and_intros <;> (apply hK1; clear hK1 K1)))))
    refine awp_loopC (rl false [1, 2, 11, 3, 12]) 2 (fun g s => s = ⟨(AV.junk :: ((.loc 0 0) :: (.loc 1 0) :: (jnk 11 ((.row 6 [] none) :: (.v (.int .i64 0)) :: (.v (.int .i64 0)) :: (jnk 12 []))))), [[.v (.int .i64 kind), .v (.string item), .v (.int .i64 long), .v (.int .i64 many), .row 6 [] none, r], z28'], h2⟩) 0 rfl ?_
    rintro g _ rfl
    (repeat (first | refine gO rfl ?_ | ((refine gM zM47 fun K1 hK1 => ?_; simp only [go_sem, ↓reduceIte, reduceCtorEq, nA, nB, nC, nD, nE, nF] <;> and_intros <;> (apply hK1; clear hK1 K1)))))
    refine awp_cond (t := _) rfl (fun h9 => by cases h9) (fun h9 => ?_)
    (repeat ((refine gO rfl ?_)))
    rfl
   ·(repeat (first | refine gO rfl ?_ | ((refine gM zM47 fun K1 hK1 => ?_; simp only [go_sem, ↓reduceIte, reduceCtorEq, nA, nB, nC, nD, nE, nF, w1, w2, w3, w4, w5] <;> and_intros <;> (apply hK1; clear hK1 K1)))))
    refine awp_loopC (rl false [1, 2, 11, 3, 12]) 2 (fun g s => ∃ j : Nat, g + j = kids.length ∧
     s = ⟨(AV.junk :: ((.loc 0 0) :: (.loc 1 0) :: (jnk 11 ((.arr 6 q kids.length) :: (.v (.int .i64 kids.length)) :: (.v (.int .i64 j)) :: (jnk 12 []))))),
      [[.v (.int .i64 kind), .v (.string item), .v (.int .i64 long), .v (.int .i64 many), .arr 6 q kids.length, r], z28'], ⟨h1.H, upd h1.T q (some (.cont 6 (kids.map encL)))⟩⟩) kids.length ⟨0, by omega, rfl⟩ ?_
    rintro g _ ⟨j, hj, rfl⟩
    obtain ⟨ys, hys⟩ : ∃ ys, ys = kids.map encL := ⟨_, rfl⟩
    rw [← hys]
    have hyl : ys.length = kids.length := by rw [hys, List.length_map]
    have hTq : upd h1.T q (some (TO.cont 6 ys)) q = some (.cont 6 ys) := upd_same _ _ _
    (repeat (first | refine gO rfl ?_ | ((refine gM zM47 fun K1 hK1 => ?_; simp only [go_sem, ↓reduceIte, reduceCtorEq, nA, nB, nC, nD, nE, nF] <;> and_intros <;> (apply hK1; clear hK1 K1)))))
    refine awp_cond (t := _) rfl (fun h9 => ?_) (fun h9 => ?_)
    ·simp only [decide_eq_true_eq] at h9
     have hjl : j < kids.length := by omega
     have hgy : ys.getD j [] = encL (kids.getD j default) := by rw [hys, getD_enc encL _ j default hjl]
     have hset : ys.set j (encL (kids.getD j default)) = ys := by
      rw [← hgy]
      refine List.ext_getElem? fun i => ?_
      rw [List.getElem?_set]
      split
      ·rename_i e
       subst e
       rw [if_pos (by omega), List.getD_eq_getElem?_getD, List.getElem?_eq_getElem (by omega : j < ys.length)]; rfl
      ·rfl
     have hc := hih _ (getD_mem' kids j default hjl)
     generalize kids.getD j default = x at *
     have hlx := encL_len x
     have kx : List.take 6 (encL x) = encL x := List.take_of_length_le (Nat.le_of_eq hlx)
     have dx : List.drop 6 (encL x) = [] := List.drop_of_length_le (Nat.le_of_eq hlx)
     (repeat (first | refine gO rfl ?_ | ((first | refine gM zM47 ?_ | ((with_reducible refine xR ?_); refine uE 5 zM47 zP1WE zP1WP 29 rfl (by kernel_rfl) ?_)) <;> ((try with_reducible intro K1 hK1); simp only [go_sem, ↓reduceIte, reduceCtorEq, nA, nB, nC, nD, nE, nF, Int.toNat_natCast, hTq, hyl, hgy, hlx, kx, dx] <;> and_intros <;> first | (apply hK1; clear hK1 K1) | (intros; (omega)) | skip))))
     refine (hc _).mono ?_; rintro _ hz ⟨rfl, hh⟩; apply hK1; clear hK1 K1; rw [hh]; clear hh hz
     (repeat (first | refine gO rfl ?_ | ((first | refine gM zM47 ?_ | (with_reducible refine wM ?_ ?_)) <;> ((try with_reducible intro K1 hK1); simp only [go_sem, ↓reduceIte, reduceCtorEq, nA, nB, nC, nD, nE, nF, Int.toNat_natCast, hTq, hyl, hgy, hlx, kx, dx, hset] <;> and_intros <;> first | (apply hK1; clear hK1 K1) | (intros; first | omega | (simp_all <;> omega))))))
     exact ⟨g - 1, by omega, j + 1, by omega, by rw [hys]; rfl⟩
    ·refine awp_frzLoc 0 4 q 6 (xs := ys) rfl (by rw [hyl]; rfl) hTq (fun y hy => by rw [hys] at hy; obtain ⟨z, _, rfl⟩ := List.mem_map.1 hy; exact encL_len z) ?_
     simp only [upd_upd, upd_noneA hq, List.set_cons_zero, List.set_cons_succ]
     (repeat ((refine gO rfl ?_)))
     rw [hys]; rfl
  ·rintro _ rfl
   rcases hr with ⟨rfl, rfl, rfl⟩ | ⟨q, hq, rfl, rfl, hkn⟩
   ·(repeat (first | refine gO rfl ?_ | ((refine gM zM47 fun K1 hK1 => ?_; simp only [go_sem, ↓reduceIte, reduceCtorEq, nA, nB, nC, nD, nE, nF] <;> and_intros <;> first | (apply hK1; clear hK1 K1) | (intros; (decide))))))
    simp only [Tryz.results85, go_sem, ↓reduceIte, reduceCtorEq, nA, nB, nC, nD, nE, nF]
    exact ⟨_, _, Weak.refl _, Hp.le.refl _, rfl, rfl⟩
   ·refine awp_frzLoc 0 5 q 1 (xs := shares.map encI) rfl (by rw [List.length_map]; rfl) (upd_same _ _ _) (fun y hy => by obtain ⟨z, _, rfl⟩ := List.mem_map.1 hy; rfl) ?_
    simp only [upd_upd, upd_noneA hq, List.set_cons_zero, List.set_cons_succ]
    (repeat (first | refine gO rfl ?_ | ((refine gM zM47 fun K1 hK1 => ?_; simp only [go_sem, ↓reduceIte, reduceCtorEq, nA, nB, nC, nD, nE, nF] <;> and_intros <;> first | (apply hK1; clear hK1 K1) | (intros; (decide))))))
    simp only [Tryz.results85, go_sem, ↓reduceIte, reduceCtorEq, nA, nB, nC, nD, nE, nF]
    exact ⟨_, _, Weak.refl _, Hp.le.refl _, rfl, rfl⟩
noncomputable def leastR (t : LT) : LT := if faultF t = 0 then leastF t else default
theorem g_LeastP (d : Nat) (t : LT) (h : Hp) (hb : KC d t) (hd : manyF t ≤ 1000000000000000 ∧ d ≤ 1000) : ACalls Tryz.prog 23 [.agg (encL t)] h (fun r h' => r = .tup [.agg (encL (leastR t)), .v (.int .i64 (faultF t))] ∧ h' = h) := by
 have hlt := encL_len t
 have kt : List.take 6 (encL t) = encL t := List.take_of_length_le (Nat.le_of_eq hlt)
 have dt : List.drop 6 (encL t) = [] := List.drop_of_length_le (Nat.le_of_eq hlt)
 have hck := g_check7 d t h hb hd
 refine gE Tryz.func23 rfl (by kernel_rfl) 13 rfl fun c => ?_
 (repeat (first | refine gO rfl ?_ | (refine gM zM45 fun K1 hK1 => ?_; simp only [go_sem, ↓reduceIte, reduceCtorEq, nA, nB, nC, nD, nE, nF, hlt, kt, dt] <;> and_intros <;> first | (apply hK1; clear hK1 K1) | skip)))
 refine hck.mono ?_; rintro _ hz ⟨rfl, hh⟩; apply hK1; clear hK1 K1; rw [hh]; clear hh hz
 (repeat (first | refine gO rfl ?_ | (refine gM zM45 fun K1 hK1 => ?_; simp only [go_sem, ↓reduceIte, reduceCtorEq, nA, nB, nC, nD, nE, nF, hlt, kt, dt] <;> and_intros <;> (apply hK1; clear hK1 K1))))
 by_cases hf : faultF t = 0
 ·obtain ⟨s1, s2, s3, s4, s5, s6, s7⟩ := least_small hb hf
  have hg := g_leastP (SizeOf.sizeOf t) t h (Nat.le_refl _) s1 (by omega)
  have hc := g_cloneP (SizeOf.sizeOf (leastF t)) (leastF t) h (Nat.le_refl _) (bl_of _ s5 (by omega))
  have hlu := encL_len (leastF t)
  have ku : List.take 6 (encL (leastF t)) = encL (leastF t) := List.take_of_length_le (Nat.le_of_eq hlu)
  have du : List.drop 6 (encL (leastF t)) = [] := List.drop_of_length_le (Nat.le_of_eq hlu)
  refine awp_cond (t := _) rfl (fun h9 => by rw [hf] at h9; cases h9) (fun _ => ?_)
  (repeat (first | refine gO rfl ?_ | (refine gM zM45 fun K1 hK1 => ?_; simp only [go_sem, ↓reduceIte, reduceCtorEq, nA, nB, nC, nD, nE, nF, hlt, kt, dt] <;> and_intros)))
  refine hg.mono ?_; rintro _ hz ⟨rfl, hh⟩; apply hK1; clear hK1 K1; rw [hh]; clear hh hz
  (repeat ((refine gM zM45 fun K1 hK1 => ?_; simp only [go_sem, ↓reduceIte, reduceCtorEq, nA, nB, nC, nD, nE, nF, hlt, kt, dt, hlu, ku, du] <;> and_intros)))
  refine hc.mono ?_; rintro _ hz ⟨rfl, hh⟩; apply hK1; clear hK1 K1; rw [hh]; clear hh hz
  (repeat (first | refine gO rfl ?_ | (refine gM zM45 fun K1 hK1 => ?_; simp only [go_sem, ↓reduceIte, reduceCtorEq, nA, nB, nC, nD, nE, nF, hlt, kt, dt, hlu, ku, du] <;> and_intros <;> (apply hK1; clear hK1 K1))))
  simp only [Tryz.results23, go_sem, ↓reduceIte, reduceCtorEq, nA, nB, nC, nD, nE, nF, hlt, kt, dt, hlu, ku, du]
  have e9 : leastR t = leastF t := by unfold leastR; rw [if_pos hf]
  exact ⟨_, _, Weak.refl _, Hp.le.refl _, by rw [e9, hf], rfl⟩
 ·refine awp_cond (t := _) rfl (fun _ => ?_) (fun h9 => by simp [hf] at h9)
  (repeat (first | refine gO rfl ?_ | (refine gM zM45 fun K1 hK1 => ?_; simp only [go_sem, ↓reduceIte, reduceCtorEq, nA, nB, nC, nD, nE, nF] <;> and_intros <;> (apply hK1; clear hK1 K1))))
  simp only [Tryz.results23, go_sem, ↓reduceIte, reduceCtorEq, nA, nB, nC, nD, nE, nF]
  refine ⟨_, _, Weak.tup1 Weak.zeroL (Weak.refl _), Hp.le.refl _, by unfold leastR; rw [if_neg hf], rfl⟩
theorem weak1 {a a' : AV} (h : Weak a a') : ∀ j, (hj : j < ([a] : List AV).length) → (hk : j < ([a'] : List AV).length) → Weak ([a][j]) ([a'][j]) := fun j hj _ => by
 simp only [List.length_cons, List.length_nil, Nat.zero_add, Nat.lt_one_iff] at hj
 subst hj
 exact h
theorem weak2 {a a' b b' : AV} (h : Weak a a') (k : Weak b b') : ∀ j, (hj : j < ([a, b] : List AV).length) → (hk : j < ([a', b'] : List AV).length) → Weak ([a, b][j]) ([a', b'][j])
 | 0, _, _ => h
 | 1, _, _ => k
 | j + 2, hj, _ => absurd hj (by simp)
open Go Go.RowKit
def ARow (w : World) (a : Option Addr) (len cap : Nat) (zs : List Int) : Prop :=
 (a = none ∧ len = 0 ∧ cap = 0 ∧ zs = []) ∨ ∃ b : Addr, a = some b ∧ len ≤ cap ∧ cap ≤ maxLen ∧ zs.length = cap ∧ (∀ i, i < zs.length → w.cell? (b.add i) = some (.int .i64 (zs.getD i 0)) ∧ w.frozen? (b.add i) = false) ∧ (∀ n ∈ zs, (Lit.int .i64 n).wf = true)
def G0 (w : World) : Gh := ⟨fun g o => cellT w g o, fun _ => none, fun _ => none, 0⟩
def H0 : Hp := ⟨fun _ => none, fun _ => none⟩
theorem hsim_all (w : World) : HSim (G0 w) H0 w where
 val _ _ _ h := h
 obj _ _ h := by cases h
 inj _ _ _ h := absurd rfl h
 tok _ _ h := by cases h
 tinj _ _ _ _ h := absurd rfl h
 tobj _ _ _ h := absurd rfl h
 fat _ _ := rfl
 ftl _ _ := rfl
theorem below_of_fr {G G' : Gh} {h' : Hp} {w w' : World} (f : Fr G H0 w G' h' w') : Below w.heap.size w w' :=
 ⟨f.os, f.tape, f.output, f.size, fun b hb => (f.keep b hb (fun o => by rcases o with ⟨_, h, _⟩ | ⟨_, _, h, _⟩ <;> exact h rfl)).1⟩
theorem rep_v_inv0 {G : Gh} {x y : Value} (h : Rep G (.v x) y) : y = x := by cases h; rfl
theorem flat_encI (l : List Int) : (l.map encI).flatten = l.map fun x => AV.v (.int .i64 x) := by
 induction l with
 | nil => rfl
 | cons x q ih => simp [encI, ih]
theorem arow_rep {w : World} {a : Option Addr} {len cap : Nat} {zs : List Int} (h : ARow w a len cap zs) : ∃ l : List Int, SOk l ∧ Rep (G0 w) (.row 1 (l.map encI) none) (.slice a len cap) := by
 rcases h with ⟨rfl, rfl, rfl, _⟩ | ⟨⟨b, o, sp⟩, rfl, hl, hm, hz, hc, hwz⟩
 ·exact ⟨[], ⟨by simp, by simp⟩, .nil 1 none trivial⟩
 ·by_cases h0 : cap = 0
  ·subst h0
   obtain rfl : len = 0 := by omega
   exact ⟨[], ⟨by simp, by simp⟩, .nilA 1 _⟩
  ·have hsp : sp = none := by
    have h1 := (hc 0 (by omega)).1
    rw [show (⟨b, o, sp⟩ : Addr).add 0 = ⟨b, o, sp⟩ from rfl] at h1
    cases sp with
    | none => rfl
    | some s =>
     simp only [World.cell?] at h1
     split at h1 <;> simp at h1
   subst hsp
   refine ⟨zs.take len, ⟨by have hm2 : maxLen = 9223372036854775807 := rfl; rw [List.length_take]; omega, fun x hx => ?_⟩, ?_⟩
   ·have h1 := hwz x (List.mem_of_mem_take hx)
    simp only [Lit.wf, Bool.and_eq_true, decide_eq_true_eq] at h1
    exact ⟨h1.1, h1.2⟩
   ·have hlen : (zs.take len).length = len := by simp; omega
    have h2 := Rep.row_mk (G := G0 w) (z := 1) (xs := (zs.take len).map encI) (g := b) (o := o) (c := cap) (us := (zs.take len).map fun x => Value.int .i64 x) (by rw [List.length_map, hlen]; exact hl)
     (fun y hy => by obtain ⟨x, _, rfl⟩ := List.mem_map.1 hy; rfl) (by
      rw [flat_encI]
      refine ⟨by simp, fun j a b => ?_⟩
      simp only [List.getElem_map]
      exact ⟨.v _ rfl, rfl⟩) (fun j y hy => by
      rw [List.getElem?_map] at hy
      obtain ⟨x, hx, rfl⟩ := Option.map_eq_some_iff.1 hy
      rw [List.getElem?_take] at hx
      split at hx
      ·have hjl := (List.getElem?_eq_some_iff.1 hx).1
       have h3 := hc j hjl
       rw [List.getD_eq_getElem?_getD, hx, Addr.add_lit] at h3
       show cellT w b (o + j) = _
       rw [cellT, h3.2]; exact h3.1
      ·cases hx)
    rwa [List.length_map, hlen] at h2
theorem law_calls {f : Nat} (hlaw : ∀ (l : List Int) (h : Hp), SOk l → ACalls Tryz.prog f [.row 1 (l.map encI) none] h (fun r _ => r = .v (.bool true))) (a : Option Addr) (len cap : Nat) (zs : List Int) (w : World) (h : ARow w a len cap zs) :
  Calls Tryz.prog f #[.slice a len cap] w fun e w' => e = .returned (.bool true) ∧ Below w.heap.size w w' := by
 obtain ⟨l, hl, hrep⟩ := arow_rep h
 refine ((hlaw l H0 hl).calls _ w #[.slice a len cap] (hsim_all w) rfl (fun j hj => ?_)).mono ?_
 ·simp only [List.length_cons, List.length_nil, Nat.zero_add, Nat.lt_one_iff] at hj
  subst hj
  exact hrep
 ·rintro _ w' ⟨r, h', G', v, rfl, rfl, _, f, _, hv⟩
  exact ⟨by rw [rep_v_inv0 hv], below_of_fr f⟩
theorem g_lawSmall (l : List Int) (h : Hp) (hl : SOk l) : ACalls Tryz.prog 5 [.row 1 (l.map encI) none] h (fun r _ => r = .v (.bool true)) := by
 have hc3 : costR 3 = 1190 := by simp [costR]
 have hp1 := fun i a h ha => g_pick i l a [1, 3, 8] none h hl ha (by decide)
 simp only [List.map_cons, List.map_nil, encI] at hp1
 refine gE Tryz.func5 rfl (by kernel_rfl) 81 rfl fun c => ?_
 (repeat (first | refine gQ rfl ?_ | (refine gM zM48 fun K1 hK1 => ?_; simp only [go_sem, ↓reduceIte, reduceCtorEq, nA, nB, nC, nD, nE, nF] <;> and_intros <;> first | (apply hK1; clear hK1 K1) | skip)))
 intro i hi
 refine hK1 _ ?_; clear hK1 K1
 have e0 : ({ H := upd h.H i (some (.cells [.row 1 (l.map encI) none, .v (.int .i64 0)])), T := h.T } : Hp) = h.st i l 0 := rfl
 rw [e0]
 (repeat (first | refine gQ rfl ?_ | (refine gM zM48 fun K1 hK1 => ?_; simp only [go_sem, ↓reduceIte, reduceCtorEq, nA, nB, nC, nD, nE, nF] <;> and_intros)))
 refine (g_rightK 3 3 (by omega) i l 0 h hl (by omega)).mono ?_; rintro _ _ ⟨t, a1, ht, ha1, rfl, rfl⟩; apply hK1; clear hK1 K1
 have hlen := encX_len t
 have htk : List.take 6 (encX t) = encX t := List.take_of_length_le (Nat.le_of_eq hlen)
 have hdr : List.drop 6 (encX t) = [] := List.drop_of_length_le (Nat.le_of_eq hlen)
 (repeat ((refine gM zM48 fun K1 hK1 => ?_; simp only [go_sem, ↓reduceIte, reduceCtorEq, nA, nB, nC, nD, nE, nF, hlen, htk, hdr] <;> and_intros <;> first | (intros; (decide)) | skip)))
 refine (hp1 i a1 h (by omega)).mono ?_; rintro _ _ ⟨many, hmany, rfl, rfl⟩; apply hK1; clear hK1 K1
 have hm8 : 1 ≤ many ∧ many ≤ 8 := by simp at hmany; omega
 have hLC := (ht.mono (e := 23) (by omega)).lc
 have hkt : KC 23 t := hLC.kc
 have hmt := size_small23 hLC
 have hw := encX_weak 23 t hLC
 have hft := ht.fault
 have hsm := ht.small
 have hLe := fun h => (g_LeastP 23 t h hkt hmt).weakArgs (args' := [.agg (encX t)]) rfl (weak1 hw)
 rw [show leastR t = leastF t by rw [leastR, if_pos hft], hft] at hLe
 have hPx := fun h => (g_passes 23 t many h hkt hmt (by unfold NB; omega)).weakArgs (args' := [.agg (encX t), .v (.int .i64 many)]) rfl (weak2 hw (Weak.refl _))
 have hss := small_same ht hsm
 generalize hy : leastF t = y at *
 have hly := encL_len y
 have htky : List.take 6 (encL y) = encL y := List.take_of_length_le (Nat.le_of_eq hly)
 have hdry : List.drop 6 (encL y) = [] := List.drop_of_length_le (Nat.le_of_eq hly)
 have hLy := fun h => g_LeastP 23 y h hsm.kc ⟨hsm.many, by omega⟩
 rw [show leastR y = y by rw [leastR, if_pos hsm.fault, hsm.again], hsm.fault] at hLy
 have hPy := fun h => g_passes 23 y many h hsm.kc ⟨hsm.many, by omega⟩ (by unfold NB; omega)
 have hSa := fun h => (g_same2 23 t y h hkt hmt hsm.kc hsm.many).weakArgs (args' := [.agg (encX t), .agg (encL y)]) rfl (weak2 hw (Weak.refl _))
 obtain ⟨Z, hZ, hZ1, hZ2⟩ : ∃ Z : List (ByteArray × Int), Z.length ≤ 5000 ∧ wantX 23 t many.toNat = .row 2 (Z.map encStep) none ∧ wantX 23 y many.toNat = .row 2 (Z.map encStep) none := by
  unfold wantX
  rw [hsm.same]
  by_cases hc : (passesU 23 t many.toNat).2.length ≤ 5000
  ·exact ⟨_, hc, by rw [if_pos hc], by rw [if_pos hc]⟩
  ·exact ⟨[], by simp, by rw [if_neg hc]; rfl, by rw [if_neg hc]; rfl⟩
 have hWE : wantE 23 y many.toNat = wantE 23 t many.toNat := by unfold wantE; rw [hsm.same]
 rw [if_pos ⟨hft, by omega, by omega⟩, if_pos hft, if_pos ⟨by omega, by omega⟩, hZ1] at hPx
 rw [if_pos ⟨hsm.fault, by omega, by omega⟩, if_pos hsm.fault, if_pos ⟨by omega, by omega⟩, hZ2, hWE] at hPy
 generalize wantE 23 t many.toNat = we at *
 have hbe : BL y := bl_of y (by rw [← hy]; exact (least_ok t hsm.wf).2.1) (by
  have h1 := (least_ok t hsm.wf).2.2
  have h2 := lv_le t
  have h3 := ht.many
  have e4 : mostR (3 + 1) = 40 := rfl
  rw [← hy]; omega)
 have hSe : sameE 23 t y = 0 ∨ sameE 23 t y = 2 := by
  have key : ∀ u, roundE 23 u = 0 ∨ roundE 23 u = 2 := fun u => by
   by_cases e : roundN 23 u = 0
   ·exact .inr (roundS_none e).2
   ·exact .inl (roundS_some (roundN_is e)).2.1
  unfold sameE
  rw [if_neg (by simpa using hft), if_neg (by simpa using hsm.fault)]
  rcases key t with h1 | h1
  ·rw [h1, if_neg (by simp)]; exact key y
  ·rw [h1, if_pos (by decide)]; exact .inr rfl
 generalize h.st i l _ = h1
 (repeat (first | refine gO rfl ?_ | (refine gM zM48 fun K1 hK1 => ?_; simp only [go_sem, ↓reduceIte, reduceCtorEq, nA, nB, nC, nD, nE, nF, hlen, htk, hdr] <;> and_intros <;> first | (apply hK1; clear hK1 K1) | skip)))
 refine (hLe _).mono ?_
 rintro _ _ ⟨rfl, rfl⟩
 refine hK1 _ ?_; clear hK1 K1 hLe
 (repeat (first | refine gO rfl ?_ | (refine gM zM48 fun K1 hK1 => ?_; simp only [go_sem, ↓reduceIte, reduceCtorEq, nA, nB, nC, nD, nE, nF, hly, htky, hdry] <;> and_intros <;> first | (apply hK1; clear hK1 K1) | skip)))
 refine (hLy _).mono ?_
 rintro _ _ ⟨rfl, rfl⟩
 refine hK1 _ ?_; clear hK1 K1 hLy
 (repeat (first | refine gO rfl ?_ | (refine gM zM48 fun K1 hK1 => ?_; simp only [go_sem, ↓reduceIte, reduceCtorEq, nA, nB, nC, nD, nE, nF, hly, htky, hdry, Int.reduceBNe] <;> and_intros <;> first | (apply hK1; clear hK1 K1) | (intros; (simp_all <;> omega)) | skip)))
 refine (g_same _ y y _ (Nat.le_refl _) hbe hbe).mono ?_
 rintro _ _ ⟨rfl, rfl⟩
 have hsb : sameB y y = true := sameB_true.2 rfl
 rw [hsb]
 refine ⟨rfl, hK1 _ ?_⟩; clear hK1 K1
 (repeat (first | refine gO rfl ?_ | (refine gM zM48 fun K1 hK1 => ?_; simp only [go_sem, ↓reduceIte, reduceCtorEq, nA, nB, nC, nD, nE, nF] <;> and_intros <;> (apply hK1; clear hK1 K1))))
 refine awp_cond (t := _) rfl (fun h9 => by cases h9) (fun _ => ?_)
 (repeat (first | refine gO rfl ?_ | (refine gM zM48 fun K1 hK1 => ?_; simp only [go_sem, ↓reduceIte, reduceCtorEq, nA, nB, nC, nD, nE, nF, hlen, htk, hdr] <;> and_intros)))
 refine (hPx _).mono ?_
 rintro _ h2 rfl
 refine hK1 _ ?_; clear hK1 K1 hPx
 (repeat (first | refine gO rfl ?_ | (refine gM zM48 fun K1 hK1 => ?_; simp only [go_sem, ↓reduceIte, reduceCtorEq, nA, nB, nC, nD, nE, nF, hly, htky, hdry] <;> and_intros <;> first | (apply hK1; clear hK1 K1) | skip)))
 refine (hPy _).mono ?_
 rintro _ h3 rfl
 refine hK1 _ ?_; clear hK1 K1 hPy
 have hwe : (we != we) = false := by simp
 (repeat (first | refine gO rfl ?_ | (refine gM zM48 fun K1 hK1 => ?_; simp only [go_sem, ↓reduceIte, reduceCtorEq, nA, nB, nC, nD, nE, nF, hwe] <;> and_intros <;> first | (apply hK1; clear hK1 K1) | (intros; (simp_all <;> omega)) | skip)))
 refine (g_equal12 Z _ (by omega)).mono ?_
 rintro _ _ ⟨rfl, rfl⟩
 refine ⟨rfl, hK1 _ ?_⟩; clear hK1 K1
 (repeat (first | refine gO rfl ?_ | (refine gM zM48 fun K1 hK1 => ?_; simp only [go_sem, ↓reduceIte, reduceCtorEq, nA, nB, nC, nD, nE, nF] <;> and_intros <;> (apply hK1; clear hK1 K1))))
 refine awp_cond (t := _) rfl (fun h9 => by cases h9) (fun _ => ?_)
 (repeat (first | refine gO rfl ?_ | (refine gM zM48 fun K1 hK1 => ?_; simp only [go_sem, ↓reduceIte, reduceCtorEq, nA, nB, nC, nD, nE, nF, hlen, htk, hdr, hly, htky, hdry] <;> and_intros)))
 refine (hSa _).mono ?_
 rintro _ h4 rfl
 refine hK1 _ ?_; clear hK1 K1 hSa
 rcases hSe with he | he
 ·rw [hss he, he]
  (repeat (first | refine gO rfl ?_ | (refine gM zM48 fun K1 hK1 => ?_; simp only [go_sem, ↓reduceIte, reduceCtorEq, nA, nB, nC, nD, nE, nF, Int.reduceBEq, Bool.or_true, Bool.true_or, Bool.false_or] <;> and_intros <;> first | (apply hK1; clear hK1 K1) | (intros; (simp_all <;> omega)) | skip)))
  refine (g_ready _).mono ?_
  rintro _ h5 rfl
  refine ⟨rfl, hK1 _ ?_⟩; clear hK1 K1
  (repeat (first | refine gO rfl ?_ | (refine gM zM48 fun K1 hK1 => ?_; simp only [go_sem, ↓reduceIte, reduceCtorEq, nA, nB, nC, nD, nE, nF] <;> and_intros <;> (apply hK1; clear hK1 K1))))
  simp only [Tryz.results5, go_sem, ↓reduceIte, reduceCtorEq, nA, nB, nC, nD, nE, nF]
  exact ⟨_, _, Weak.refl _, Hp.le.refl _, rfl⟩
 ·rw [he]
  (repeat (first | refine gO rfl ?_ | (refine gM zM48 fun K1 hK1 => ?_; simp only [go_sem, ↓reduceIte, reduceCtorEq, nA, nB, nC, nD, nE, nF, Int.reduceBEq, Bool.or_true, Bool.true_or, Bool.false_or] <;> and_intros <;> first | (apply hK1; clear hK1 K1) | (intros; (simp_all <;> omega)) | skip)))
  refine (g_ready _).mono ?_
  rintro _ h5 rfl
  refine ⟨rfl, hK1 _ ?_⟩; clear hK1 K1
  (repeat (first | refine gO rfl ?_ | (refine gM zM48 fun K1 hK1 => ?_; simp only [go_sem, ↓reduceIte, reduceCtorEq, nA, nB, nC, nD, nE, nF] <;> and_intros <;> (apply hK1; clear hK1 K1))))
  simp only [Tryz.results5, go_sem, ↓reduceIte, reduceCtorEq, nA, nB, nC, nD, nE, nF]
  exact ⟨_, _, Weak.refl _, Hp.le.refl _, rfl⟩
end Go.Proofs.YtidkkmoiolffnaaGreatDoor
