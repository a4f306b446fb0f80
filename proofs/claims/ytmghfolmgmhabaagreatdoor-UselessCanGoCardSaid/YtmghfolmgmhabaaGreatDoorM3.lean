/- slices.Clone at rights, in trees: a written array. -/
import Derived.Test.YtmghfolmgmhabaaGreatDoorM2
import Derived.Test.YtmghfolmgmhabaaGreatDoorAvMap
import Derived.Test.YtmghfolmgmhabaaGreatDoorAvUn
import Derived.Shelf.GgClosure.Gives
import Derived.Test.YtmghfolmgmhabaaGreatDoorAvOld
import Derived.Test.YtmghfolmgmhabaaGreatDoorShelf
import Derived.Shelf.Strings.Builder1
import Derived.Test.YtmghfolmgmhabaaGreatDoorAvOwn
import Derived.Test.YtmghfolmgmhabaaGreatDoorAvTy
namespace Go.Proofs.YtmghfolmgmhabaaGreatDoor
open Go
set_option linter.unusedVariables false
set_option linter.unusedSimpArgs false
open Nat renaming reduceAdd → nA, reduceSub → nB, reduceMul → nC, reduceLT → nD, reduceLeDiff → nE, reduceEqDiff → nF, reduceMod → nG, reduceDiv → nH, reducePow → nI
set_option maxRecDepth 100000
set_option maxHeartbeats 8000000
abbrev zM30 : Option Tmp → Nat := mdL [(5, 1)]
abbrev zM31 : Option Tmp → Nat := mdL [(4, 1), (5, 1)]
abbrev zM32 : Option Tmp → Nat := mdL []
abbrev zM33 : Option Tmp → Nat := mdL [(65, 1)]
abbrev zM34 : Option Tmp → Nat := mdL [(4, 2)]
abbrev zM35 : Option Tmp → Nat := mdL [(6, 1), (8, 1), (11, 1)]
abbrev zM36 : Option Tmp → Nat := mdL [(7, 2)]
abbrev zM37 : Option Tmp → Nat := mdL [(11, 2)]
abbrev zM38 : Option Tmp → Nat := mdL [(6, 1)]
abbrev zM39 : Option Tmp → Nat := mdL [(4, 2), (6, 1), (8, 1), (9, 1)]
abbrev zM3A : Option Tmp → Nat := mdL [(5, 1), (9, 1)]
abbrev zM3B : Option Tmp → Nat := mdL [(28, 2)]
abbrev zM3C : Option Tmp → Nat := mdL [(8, 2), (77, 2)]
abbrev zM3D : Option Tmp → Nat := mdL [(32, 2)]
attribute [go_sem] zM30 zM31 zM32 zM33 zM34 zM35 zM36 zM37 zM38 zM39 zM3A zM3B zM3C zM3D
theorem g_clR (x : List AV) (xs : List (List AV)) (k : Option Nat) (h : Hp) (hb : xs.length ≤ 1000) : ACalls Tryz.prog 60 [.row 5 (x :: xs) k] h (fun r h' => ∃ q, h.T q = none ∧ r = .arr 5 q (xs.length + 1) ∧ h' = { h with T := upd h.T q (some (.cont 5 (x :: xs))) }) := by
 refine gE Tryz.func60 rfl (by kernel_rfl) 7 rfl fun c => ?_
 (repeat (first | refine gO rfl ?_ | (refine gM zM30 fun K1 hK1 => ?_; simp only [go_sem, ↓reduceIte, reduceCtorEq, nA, nB, nC, nD, nE, nF] <;> and_intros <;> first | (apply hK1; clear hK1 K1) | (intros; first | omega | decide | (simp_all <;> omega)) | skip)))
 refine awp_cond (t := _) rfl (fun h1 => by cases h1) (fun _ => ?_)
 (repeat (first | refine gO rfl ?_ | (refine gM zM30 fun K1 hK1 => ?_; simp only [go_sem, ↓reduceIte, reduceCtorEq, nA, nB, nC, nD, nE, nF] <;> and_intros <;> first | (apply hK1; clear hK1 K1) | (intros; first | omega | decide | (simp_all <;> omega)) | skip)))
 intro q hq
 and_intros <;> first | (refine hK1 _ ?_; clear hK1 K1) | exact .inl trivial | exact .inr rfl | exact .inr True.intro | exact True.intro | omega
 (repeat (first | refine gO rfl ?_ | (refine gM zM30 fun K1 hK1 => ?_; simp only [go_sem, ↓reduceIte, reduceCtorEq, nA, nB, nC, nD, nE, nF] <;> and_intros <;> first | (apply hK1; clear hK1 K1) | (intros; first | omega | decide | (simp_all <;> omega)) | skip)))
 simp only [Tryz.results60, go_sem, ↓reduceIte, reduceCtorEq, nA, nB, nC, nD, nE, nF]
 exact ⟨_, _, Weak.refl _, Hp.le.refl _, q, hq, rfl, rfl⟩
abbrev zPME : List Nat := [0, 1, 2, 3, 4, 5, 6]
abbrev zPMP : List (Nat × List Nat × List Nat) := [(7, [], [8])]
abbrev zPNE : List Nat := [0, 1, 2, 3, 4, 5, 6, 7, 8, 9, 10, 11, 12, 13, 14]
abbrev zPNP : List (Nat × List Nat × List Nat) := []
abbrev zPOE : List Nat := [0, 1, 2, 3, 4, 5, 6, 7, 8, 9, 10, 11]
abbrev zPOP : List (Nat × List Nat × List Nat) := [(12, [], []), (13, [], [])]
attribute [go_sem] zPME zPMP zPNE zPNP zPOE zPOP
abbrev zPPE : List Nat := [0, 1, 2, 3, 4, 5, 6, 7, 8, 9, 10, 11, 12]
abbrev zPPP : List (Nat × List Nat × List Nat) := []
abbrev zPQE : List Nat := [0, 1, 2, 3, 4, 5, 6, 7, 8, 9, 10, 11, 12, 13, 14, 15, 16, 17]
abbrev zPQP : List (Nat × List Nat × List Nat) := [(18, [], [19])]
attribute [go_sem] zPPE zPPP zPQE zPQP
def iaB : ByteArray := ⟨#[105, 97]⟩
def scrS : ByteArray := ⟨#[115, 97]⟩
theorem scr_key : keyB scrS = true := by decide
theorem scr_sz : scrS.size ≤ 4 := by decide
theorem g_guest (i : Nat) (l : List Int) (a : Int) (key : ByteArray) (h : Hp) (hl : SOk l) (ha : 0 ≤ a ∧ a ≤ 100000) (hkey : key.size ≤ 4) :
  ACalls Tryz.prog 10 [.ptr i 0, .v (.string key)] (h.st i l a) (fun r h' => ∃ (p : Gu) (a' : Int), GuOk p ∧ (a ≤ a' ∧ a' ≤ a + 20) ∧ r = .agg (encGu p) ∧ h' = h.st i l a') := by
 refine gE Tryz.func10 rfl (by kernel_rfl) 27 rfl fun c => ?_
 (repeat (first | refine gO rfl ?_ | (refine gM zM31 fun K1 hK1 => ?_; simp only [go_sem, ↓reduceIte, reduceCtorEq, nA, nB, nC, nD, nE, nF] <;> and_intros <;> first | (apply hK1; clear hK1 K1) | (intros; first | omega | decide) | skip)))
 refine (g_pick i l a [0, 0, 60, -90] none _ hl (by omega) (by simp)).mono ?_; rintro _ _ ⟨x, hx, rfl, rfl⟩; apply hK1; clear hK1 K1
 (repeat (first | refine gO rfl ?_ | (refine gM zM31 fun K1 hK1 => ?_; simp only [go_sem, ↓reduceIte, reduceCtorEq, nA, nB, nC, nD, nE, nF] <;> and_intros <;> first | (apply hK1; clear hK1 K1) | (intros; first | omega | decide) | skip)))
 refine (g_tags i l (a + 1) _ hl (by omega)).mono ?_; rintro _ _ ⟨tg, htg, rfl, rfl⟩; apply hK1; clear hK1 K1
 have htk := tg_ok htg
 clear htg hx
 cases tg with
 | nil =>
  unfold encG
  (repeat (first | refine gO rfl ?_ | (refine gM zM31 fun K1 hK1 => ?_; simp only [go_sem, ↓reduceIte, reduceCtorEq, nA, nB, nC, nD, nE, nF] <;> and_intros <;> first | (apply hK1; clear hK1 K1) | (intros; first | omega | decide) | skip)))
  refine (g_flip i l (a + 1 + 1) 20 _ hl (by omega) (by omega)).mono ?_; rintro _ _ ⟨bb, rfl, rfl⟩; apply hK1; clear hK1 K1
  (repeat (first | refine gO rfl ?_ | (refine gM zM31 fun K1 hK1 => ?_; simp only [go_sem, ↓reduceIte, reduceCtorEq, nA, nB, nC, nD, nE, nF] <;> and_intros <;> first | (apply hK1; clear hK1 K1) | (intros; first | omega | decide) | skip)))
  cases bb with
  | false =>
   refine awp_cond (t := _) rfl (fun h9 => by cases h9) (fun _ => ?_)
   (repeat (first | refine gO rfl ?_ | (refine gM zM31 fun K1 hK1 => ?_; simp only [go_sem, ↓reduceIte, reduceCtorEq, nA, nB, nC, nD, nE, nF] <;> and_intros <;> first | (apply hK1; clear hK1 K1) | (intros; first | omega | decide) | skip)))
   simp only [Tryz.results10, go_sem, ↓reduceIte, reduceCtorEq, nA, nB, nC, nD, nE, nF]
   refine ⟨_, _, Weak.agg (WL.cons (Weak.refl _) (WL.cons (Weak.refl _) (WL.cons (Weak.refl _) (WL.cons (weakG []) WL.nil)))), Hp.le.refl _, ⟨key, scrS, x, []⟩, a + 1 + 1 + 1, ⟨hkey, scr_key, scr_sz, htk.1⟩, by omega, rfl, rfl⟩
  | true =>
   refine awp_cond (t := _) rfl (fun _ => ?_) (fun h9 => by cases h9)
   (repeat (first | refine gO rfl ?_ | (refine gM zM31 fun K1 hK1 => ?_; simp only [go_sem, ↓reduceIte, reduceCtorEq, nA, nB, nC, nD, nE, nF] <;> and_intros <;> first | (apply hK1; clear hK1 K1) | (intros; first | omega | decide) | skip)))
   refine (g_some i l (a + 1 + 1 + 1) [key, ⟨#[]⟩] none _ hl (by omega) (by simp)).mono ?_; rintro _ _ ⟨y1, hy1, rfl, rfl⟩; apply hK1; clear hK1 K1
   (repeat (first | refine gO rfl ?_ | (refine gM zM31 fun K1 hK1 => ?_; simp only [go_sem, ↓reduceIte, reduceCtorEq, nA, nB, nC, nD, nE, nF] <;> and_intros <;> first | (apply hK1; clear hK1 K1) | (intros; first | omega | decide) | skip)))
   refine (g_odd i l (a + 1 + 1 + 1 + 1) (-1440) 1440 _ hl (by omega) (by omega) (by omega) (by omega)).mono ?_
   rintro _ _ ⟨z, a2, hz, ha2, rfl, rfl⟩
   refine hK1 _ ?_; clear hK1 K1
   (repeat (first | refine gO rfl ?_ | (refine gM zM31 fun K1 hK1 => ?_; simp only [go_sem, ↓reduceIte, reduceCtorEq, nA, nB, nC, nD, nE, nF] <;> and_intros <;> first | (apply hK1; clear hK1 K1) | (intros; first | omega | decide) | skip)))
   refine (g_some i l a2 [⟨#[97]⟩, ⟨#[99]⟩] none _ hl (by omega) (by simp)).mono ?_; rintro _ _ ⟨y2, hy2, rfl, rfl⟩; apply hK1; clear hK1 K1
   (repeat (first | refine gO rfl ?_ | (refine gM zM31 fun K1 hK1 => ?_; simp only [go_sem, ↓reduceIte, reduceCtorEq, nA, nB, nC, nD, nE, nF] <;> and_intros <;> first | (apply hK1; clear hK1 K1) | (intros; first | omega | decide) | skip)))
   simp only [Tryz.results10, go_sem, ↓reduceIte, reduceCtorEq, nA, nB, nC, nD, nE, nF]
   refine ⟨_, _, Weak.refl _, Hp.le.refl _, ⟨y1, scrS, z, [⟨#[98]⟩, y2]⟩, a2 + 1, ⟨?_, scr_key, scr_sz, ⟨by show 2 ≤ 3; omega, ?_⟩⟩, by omega, rfl, rfl⟩
   ·simp only [List.mem_cons, List.not_mem_nil, or_false] at hy1
    rcases hy1 with rfl | rfl
    ·exact hkey
    ·show (⟨#[]⟩ : ByteArray).size ≤ 4; decide
   ·intro s hs
    simp only [List.mem_cons, List.not_mem_nil, or_false] at hy2 hs
    rcases hs with rfl | rfl
    ·decide
    ·rcases hy2 with rfl | rfl <;> decide
 | cons t0 tg =>
  unfold encG
  (repeat (first | refine gO rfl ?_ | (refine gM zM31 fun K1 hK1 => ?_; simp only [go_sem, ↓reduceIte, reduceCtorEq, nA, nB, nC, nD, nE, nF] <;> and_intros <;> first | (apply hK1; clear hK1 K1) | (intros; first | omega | decide) | skip)))
  refine (g_flip i l (a + 1 + 1) 20 _ hl (by omega) (by omega)).mono ?_; rintro _ _ ⟨bb, rfl, rfl⟩; apply hK1; clear hK1 K1
  (repeat (first | refine gO rfl ?_ | (refine gM zM31 fun K1 hK1 => ?_; simp only [go_sem, ↓reduceIte, reduceCtorEq, nA, nB, nC, nD, nE, nF] <;> and_intros <;> first | (apply hK1; clear hK1 K1) | (intros; first | omega | decide) | skip)))
  cases bb with
  | false =>
   refine awp_cond (t := _) rfl (fun h9 => by cases h9) (fun _ => ?_)
   (repeat (first | refine gO rfl ?_ | (refine gM zM31 fun K1 hK1 => ?_; simp only [go_sem, ↓reduceIte, reduceCtorEq, nA, nB, nC, nD, nE, nF] <;> and_intros <;> first | (apply hK1; clear hK1 K1) | (intros; first | omega | decide) | skip)))
   simp only [Tryz.results10, go_sem, ↓reduceIte, reduceCtorEq, nA, nB, nC, nD, nE, nF]
   refine ⟨_, _, Weak.agg (WL.cons (Weak.refl _) (WL.cons (Weak.refl _) (WL.cons (Weak.refl _) (WL.cons (weakG (t0 :: tg)) WL.nil)))), Hp.le.refl _, ⟨key, scrS, x, (t0 :: tg)⟩, a + 1 + 1 + 1, ⟨hkey, scr_key, scr_sz, htk.1⟩, by omega, rfl, rfl⟩
  | true =>
   refine awp_cond (t := _) rfl (fun _ => ?_) (fun h9 => by cases h9)
   (repeat (first | refine gO rfl ?_ | (refine gM zM31 fun K1 hK1 => ?_; simp only [go_sem, ↓reduceIte, reduceCtorEq, nA, nB, nC, nD, nE, nF] <;> and_intros <;> first | (apply hK1; clear hK1 K1) | (intros; first | omega | decide) | skip)))
   refine (g_some i l (a + 1 + 1 + 1) [key, ⟨#[]⟩] none _ hl (by omega) (by simp)).mono ?_; rintro _ _ ⟨y1, hy1, rfl, rfl⟩; apply hK1; clear hK1 K1
   (repeat (first | refine gO rfl ?_ | (refine gM zM31 fun K1 hK1 => ?_; simp only [go_sem, ↓reduceIte, reduceCtorEq, nA, nB, nC, nD, nE, nF] <;> and_intros <;> first | (apply hK1; clear hK1 K1) | (intros; first | omega | decide) | skip)))
   refine (g_odd i l (a + 1 + 1 + 1 + 1) (-1440) 1440 _ hl (by omega) (by omega) (by omega) (by omega)).mono ?_
   rintro _ _ ⟨z, a2, hz, ha2, rfl, rfl⟩
   refine hK1 _ ?_; clear hK1 K1
   (repeat (first | refine gO rfl ?_ | (refine gM zM31 fun K1 hK1 => ?_; simp only [go_sem, ↓reduceIte, reduceCtorEq, nA, nB, nC, nD, nE, nF] <;> and_intros <;> first | (apply hK1; clear hK1 K1) | (intros; first | omega | decide) | skip)))
   refine (g_some i l a2 [⟨#[97]⟩, ⟨#[99]⟩] none _ hl (by omega) (by simp)).mono ?_; rintro _ _ ⟨y2, hy2, rfl, rfl⟩; apply hK1; clear hK1 K1
   (repeat (first | refine gO rfl ?_ | (refine gM zM31 fun K1 hK1 => ?_; simp only [go_sem, ↓reduceIte, reduceCtorEq, nA, nB, nC, nD, nE, nF] <;> and_intros <;> first | (apply hK1; clear hK1 K1) | (intros; first | omega | decide) | skip)))
   simp only [Tryz.results10, go_sem, ↓reduceIte, reduceCtorEq, nA, nB, nC, nD, nE, nF]
   refine ⟨_, _, Weak.refl _, Hp.le.refl _, ⟨y1, scrS, z, [⟨#[98]⟩, y2]⟩, a2 + 1, ⟨?_, scr_key, scr_sz, ⟨by show 2 ≤ 3; omega, ?_⟩⟩, by omega, rfl, rfl⟩
   ·simp only [List.mem_cons, List.not_mem_nil, or_false] at hy1
    rcases hy1 with rfl | rfl
    ·exact hkey
    ·show (⟨#[]⟩ : ByteArray).size ≤ 4; decide
   ·intro s hs
    simp only [List.mem_cons, List.not_mem_nil, or_false] at hy2 hs
    rcases hs with rfl | rfl
    ·decide
    ·rcases hy2 with rfl | rfl <;> decide
abbrev zPRE : List Nat := [0, 1, 2, 3, 4, 5, 6, 7, 8, 9, 10, 11]
abbrev zPRP : List (Nat × List Nat × List Nat) := []
attribute [go_sem] zPRE zPRP
theorem acalls_pureT {P : Program} {f : Nat} (hok : fnOk P f = true) (xs rs : List Value) (h1 : ∀ v ∈ rs, v.oneCell' = true) (hc : ∀ w, Calls P f xs.toArray w fun e w' => e = .returned (.tuple rs.toArray) ∧ RowKit.Below w.heap.size w w') (h : Hp) : ACalls P f (xs.map .v) h (fun r h' => r = .tup (rs.map .v) ∧ h' = h) := by
 refine ⟨hok, fun G w vs hs hl ha => ?_⟩
 have e : vs = xs.toArray := by
  apply Array.ext
  ·simpa using hl
  ·intro j hj hj'
   have hjx : j < (xs.map AV.v).length := by rw [← hl]; exact hj
   have := ha j hjx
   simp only [List.getElem_map] at this
   have h2 : vs.getD j undef = vs[j] := by simp [Array.getD, hj]
   rw [h2] at this
   simp only [List.getElem_toArray]
   generalize vs[j] = y at this
   cases this
   rfl
 subst e
 refine (hc w).mono ?_
 rintro _ w' ⟨rfl, hb⟩
 have hb' : ∀ b, b < w.heap.size → w'.heap[b]? = w.heap[b]? := fun b hb2 => hb.block b hb2
 refine ⟨_, h, G, .tuple rs.toArray, rfl, ⟨rfl, rfl⟩, GLe.refl _, Fr.below (Fr.refl _ _ _) hb' hb.os hb.tape hb.output hb.size, hs.below hb', ?_⟩
 refine .tup _ _ (fun j => rs.getD j undef) (by simp) (fun j hj => ?_) (fun j hj => ?_)
 ·have hj' : j < rs.length := by simpa using hj
  simp [List.getD_eq_getElem?_getD, hj']
 ·have hj' : j < rs.length := by simpa using hj
  simp only [List.getElem_map, List.getD_eq_getElem?_getD, List.getElem?_eq_getElem hj', Option.getD_some]
  exact .v _ (h1 _ (List.getElem_mem _))
theorem ACalls.frz {P : Program} {f : Nat} {args : List AV} {h : Hp} {z : Nat} {xs : List (List AV)} (hc : ACalls P f args h (fun r h' => ∃ k, r = .arr z k xs.length ∧ h'.H = h.H ∧ h.T k = none ∧ h'.T k = some (.cont z xs) ∧ ∀ t, h.T t ≠ none → h'.T t = h.T t)) (hz : ∀ y ∈ xs, y.length = z) :
  ACalls P f args h (fun r h' => r = .row z xs none ∧ h' = h) := by
 refine hc.gup ?_
 rintro _ h' G w v ⟨k, rfl, hH, hk, hT, hold⟩ hs hr
 obtain ⟨G', hle, hfr, hs2, hfz⟩ := hs.freeze (h2 := h) (fun j => h.T j = none) hH.symm (fun j hj => hj) (fun j hj => (hold j hj).symm)
 exact ⟨_, h, G', ⟨rfl, rfl⟩, hle, hfr, hs2, hfz k z xs v hk hT hr xs rfl hz fun us hus => hus.mono hle⟩
theorem bel_id (w : World) : RowKit.Below w.heap.size w w := ⟨rfl, rfl, rfl, Nat.le_refl _, fun _ _ => rfl⟩
def sN : ByteArray := ⟨#[110]⟩
def sT : ByteArray := ⟨#[123, 110, 125]⟩
theorem c_cutPrefix (p : ByteArray) (h : Hp) (hp : Lib.trimPrefix sN.data.toList p.data.toList = [110] ∧ Lib.hasPrefix sN.data.toList p.data.toList = false) : ACalls Tryz.prog 250 [.v (.string sN), .v (.string p)] h (fun r h' => r = .tup [.v (.string sN), .v (.bool false)] ∧ h' = h) :=
 acalls_pureT (by kernel_rfl) [.string sN, .string p] [.string sN, .bool false] (by simp [Value.oneCell']) (fun w => (Tryz.strings_CutPrefix sN p w).mono fun e w' ⟨h1, h2⟩ => ⟨by rw [h1, hp.1, hp.2]; rfl, by rw [h2]; exact bel_id w⟩) h
theorem c_count (h : Hp) : ACalls Tryz.prog 335 [.v (.string sN), .v (.string ⟨#[58]⟩)] h (fun r h' => r = .v (.int .i64 0) ∧ h' = h) :=
 acalls_pure (by kernel_rfl) [.string sN, .string ⟨#[58]⟩] rfl (fun w => (Tryz.strings_Count_one sN 58 w).mono fun e w' ⟨h1, h2⟩ => ⟨by rw [h1]; rfl, by rw [h2]; exact bel_id w⟩) h
theorem c_index (h : Hp) : ACalls Tryz.prog 347 [.v (.string sN), .v (.string ⟨#[46]⟩)] h (fun r h' => r = .v (.int .i64 (-1)) ∧ h' = h) :=
 acalls_pure (by kernel_rfl) [.string sN, .string ⟨#[46]⟩] rfl (fun w => (Tryz.stringslite_Index_one sN 46 w).mono fun e w' ⟨h1, h2⟩ => ⟨by rw [h1]; rfl, by rw [h2]; exact bel_id w⟩) h
theorem c_indexByte (h : Hp) : ACalls Tryz.prog 110 [.v (.string sT), .v (.int .u8 125)] h (fun r h' => r = .v (.int .i64 2) ∧ h' = h) :=
 acalls_pure (by kernel_rfl) [.string sT, .int .u8 125] rfl (fun w => (Tryz.strings_IndexByte sT 125 w).mono fun e w' ⟨h1, h2⟩ => ⟨by rw [h1]; rfl, by rw [h2]; exact bel_id w⟩) h
theorem c_indexAny (h : Hp) : ACalls Tryz.prog 209 [.v (.string sT), .v (.string ⟨#[123, 125]⟩)] h (fun r h' => r = .v (.int .i64 0) ∧ h' = h) :=
 acalls_pure (by kernel_rfl) [.string sT, .string ⟨#[123, 125]⟩] rfl (fun w => (Tryz.strings_IndexAny_short sT ⟨#[123, 125]⟩ w (by decide) (by decide) (fun j b hb => by
  have hm : b ∈ sT.data.toList := List.mem_of_getElem? hb
  have hall : ∀ x ∈ sT.data.toList, x.toNat < 128 := by decide
  exact hall b hm)).mono fun e w' ⟨h1, h2⟩ => ⟨by rw [h1]; rfl, by
   obtain ⟨pos, rfl⟩ := h2
   exact (bel_id w).alloc (Nat.le_refl _) _⟩) h
theorem c_cutL (h : Hp) : ACalls Tryz.prog 333 [.v (.string sN), .v (.string ⟨#[46]⟩)] h (fun r h' => r = .tup [.v (.string sN), .v (.string ⟨#[]⟩), .v (.bool false)] ∧ h' = h) := by
 have h1 := fun h => c_index h
 refine gE Tryz.func333 rfl (by kernel_rfl) 21 rfl fun c => ?_
 (repeat (first | refine gO rfl ?_ | ((first | refine gR ?_ | (with_reducible refine wM ?_ ?_) | ((with_reducible refine xS ?_); refine uD 3 zM32 zPRE zPRP 23 rfl (by kernel_rfl) ?_)) <;> ((try with_reducible intro K1 hK1); simp only [go_sem, ↓reduceIte, reduceCtorEq, nA, nB, nC, nD, nE, nF, Int.reduceBEq, Int.reduceTMod, Int.reduceTDiv, Int.reduceMul, Int.reduceBNe, Int.reduceLT, Int.reduceLE, Int.reduceAdd, Int.reduceSub, Int.reduceNeg, decide_true, decide_false, Bool.true_and, Bool.false_and, Bool.and_true, Bool.and_false, Bool.or_false, Bool.or_true, Bool.true_or, Bool.false_or, Bool.not_true, Bool.not_false, true_implies, false_implies, true_and, and_true, Int.reduceToNat] <;> and_intros <;> first | (apply hK1; clear hK1 K1) | (intros; first | omega | decide) | skip)) | (refine awp_cond (t := _) rfl (fun hq => ?_) (fun hq => ?_) <;> first | (exact absurd hq (by decide)) | (cases hq; done) | (clear hq)) | (refine awp_un 8 ?_) | (with_reducible exact rfl) | (with_reducible exact trivial) | ((with_reducible show uside _); first | exact True.intro | exact rfl) | ((with_reducible show opS _ _); exact True.intro) | (refine ⟨AV.v (.bool true), rfl, hK1 _ ?_⟩; clear hK1 K1) | (refine (h1 _).mono ?_; rintro _ hz ⟨rfl, hh⟩; (first | (refine hK1 _ ?_) | (refine ⟨rfl, hK1 _ ?_⟩)); clear hK1 K1; rw [hh]; clear hh hz)))
 simp only [Tryz.results333, go_sem, ↓reduceIte, reduceCtorEq, nA, nB, nC, nD, nE, nF]
 exact ⟨_, _, Weak.refl _, Hp.le.refl _, rfl, rfl⟩
theorem c_cut (h : Hp) : ACalls Tryz.prog 316 [.v (.string sN), .v (.string ⟨#[46]⟩)] h (fun r h' => r = .tup [.v (.string sN), .v (.string ⟨#[]⟩), .v (.bool false)] ∧ h' = h) := by
 have h1 := fun h => c_cutL h
 refine gE Tryz.func316 rfl (by kernel_rfl) 11 rfl fun c => ?_
 (repeat (first | refine gO rfl ?_ | (refine gR fun K1 hK1 => ?_; simp only [go_sem, ↓reduceIte, reduceCtorEq, nA, nB, nC, nD, nE, nF, Int.reduceBEq, Int.reduceTMod, Int.reduceTDiv, Int.reduceMul, Int.reduceBNe, Int.reduceLT, Int.reduceLE, Int.reduceAdd, Int.reduceSub, Int.reduceNeg, decide_true, decide_false, Bool.true_and, Bool.false_and, Bool.and_true, Bool.and_false, Bool.or_false, Bool.or_true, Bool.true_or, Bool.false_or, Bool.not_true, Bool.not_false, true_implies, false_implies, true_and, and_true, Int.reduceToNat] <;> and_intros <;> first | (apply hK1; clear hK1 K1) | (intros; first | omega | decide) | skip) | (refine awp_cond (t := _) rfl (fun hq => ?_) (fun hq => ?_) <;> first | (exact absurd hq (by decide)) | (cases hq; done) | (clear hq)) | (refine awp_un 8 ?_) | (with_reducible exact rfl) | (with_reducible exact trivial) | ((with_reducible show uside _); first | exact True.intro | exact rfl) | ((with_reducible show opS _ _); exact True.intro) | (refine ⟨AV.v (.bool true), rfl, hK1 _ ?_⟩; clear hK1 K1) | (refine (h1 _).mono ?_; rintro _ hz ⟨rfl, hh⟩; (first | (refine hK1 _ ?_) | (refine ⟨rfl, hK1 _ ?_⟩)); clear hK1 K1; rw [hh]; clear hh hz)))
 simp only [Tryz.results316, go_sem, ↓reduceIte, reduceCtorEq, nA, nB, nC, nD, nE, nF]
 exact ⟨_, _, Weak.refl _, Hp.le.refl _, rfl, rfl⟩
theorem c_genSplit (h : Hp) : ACalls Tryz.prog 317 [.v (.string sN), .v (.string ⟨#[58]⟩), .v (.int .i64 0), .v (.int .i64 (-1))] h (fun r h' => r = .row 1 [[.v (.string sN)]] none ∧ h' = h) := by
 refine ACalls.frz ?_ (by simp)
 have h1 := fun h => c_count h
 have hs : (sN.size : Int) = 1 := rfl
 have e2 : min (1 : Int) (1 + 1) = 1 := by decide
 have e3 : min (1 : Int) 2 = 1 := by decide
 have e1 : ((⟨#[58]⟩ : ByteArray) == ⟨#[]⟩) = false := by decide
 refine gE Tryz.func317 rfl (by kernel_rfl) 62 rfl fun c => ?_
 (repeat (first | refine gO rfl ?_ | (refine gM zM33 fun K1 hK1 => ?_; simp only [go_sem, ↓reduceIte, reduceCtorEq, nA, nB, nC, nD, nE, nF, Int.reduceBEq, Int.reduceTMod, Int.reduceTDiv, Int.reduceMul, Int.reduceBNe, Int.reduceLT, Int.reduceLE, Int.reduceAdd, Int.reduceSub, Int.reduceNeg, decide_true, decide_false, Bool.true_and, Bool.false_and, Bool.and_true, Bool.and_false, Bool.or_false, Bool.or_true, Bool.true_or, Bool.false_or, Bool.not_true, Bool.not_false, true_implies, false_implies, true_and, and_true, Int.reduceToNat, e1, hs, e2, e3] <;> and_intros <;> first | (apply hK1; clear hK1 K1) | (intros; first | omega | decide) | skip) | (refine awp_cond (t := _) rfl (fun hq => ?_) (fun hq => ?_) <;> first | (exact absurd hq (by decide)) | (cases hq; done) | (clear hq)) | (refine awp_un 8 ?_) | (with_reducible exact rfl) | (with_reducible exact trivial) | ((with_reducible show uside _); first | exact True.intro | exact rfl) | ((with_reducible show opS _ _); exact True.intro) | (refine ⟨AV.v (.bool true), rfl, hK1 _ ?_⟩; clear hK1 K1) | (refine (h1 _).mono ?_; rintro _ hz ⟨rfl, hh⟩; (first | (refine hK1 _ ?_) | (refine ⟨rfl, hK1 _ ?_⟩)); clear hK1 K1; rw [hh]; clear hh hz)))
 intro k hk
 refine hK1 _ ?_; clear hK1 K1
 (repeat (first | refine gO rfl ?_ | (refine gM zM33 fun K1 hK1 => ?_; simp only [go_sem, ↓reduceIte, reduceCtorEq, nA, nB, nC, nD, nE, nF, Int.reduceBEq, Int.reduceTMod, Int.reduceTDiv, Int.reduceMul, Int.reduceBNe, Int.reduceLT, Int.reduceLE, Int.reduceAdd, Int.reduceSub, Int.reduceNeg, decide_true, decide_false, Bool.true_and, Bool.false_and, Bool.and_true, Bool.and_false, Bool.or_false, Bool.or_true, Bool.true_or, Bool.false_or, Bool.not_true, Bool.not_false, true_implies, false_implies, true_and, and_true, Int.reduceToNat, upd_same, List.replicate] <;> and_intros <;> first | (apply hK1; clear hK1 K1) | (intros; first | omega | decide) | skip) | (refine awp_cond (t := _) rfl (fun hq => ?_) (fun hq => ?_) <;> first | (exact absurd hq (by decide)) | (cases hq; done) | (clear hq)) | (refine awp_un 8 ?_) | (with_reducible exact rfl) | (with_reducible exact trivial) | ((with_reducible show uside _); first | exact True.intro | exact rfl) | ((with_reducible show opS _ _); exact True.intro) | (refine ⟨AV.v (.bool true), rfl, hK1 _ ?_⟩; clear hK1 K1)))
 all_goals first | exact True.intro | exact rfl | skip
 intro q hq
 refine hK1 _ ?_; clear hK1 K1
 (repeat (first | refine gO rfl ?_ | (refine gM zM33 fun K1 hK1 => ?_; simp only [go_sem, ↓reduceIte, reduceCtorEq, nA, nB, nC, nD, nE, nF, Int.reduceBEq, Int.reduceTMod, Int.reduceTDiv, Int.reduceMul, Int.reduceBNe, Int.reduceLT, Int.reduceLE, Int.reduceAdd, Int.reduceSub, Int.reduceNeg, decide_true, decide_false, Bool.true_and, Bool.false_and, Bool.and_true, Bool.and_false, Bool.or_false, Bool.or_true, Bool.true_or, Bool.false_or, Bool.not_true, Bool.not_false, true_implies, false_implies, true_and, and_true, Int.reduceToNat] <;> and_intros <;> first | (apply hK1; clear hK1 K1) | (intros; first | omega | decide) | skip) | (refine awp_cond (t := _) rfl (fun hq => ?_) (fun hq => ?_) <;> first | (exact absurd hq (by decide)) | (cases hq; done) | (clear hq)) | (refine awp_un 8 ?_) | (with_reducible exact rfl) | (with_reducible exact trivial) | ((with_reducible show uside _); first | exact True.intro | exact rfl) | ((with_reducible show opS _ _); exact True.intro) | (refine ⟨AV.v (.bool true), rfl, hK1 _ ?_⟩; clear hK1 K1)))
 simp only [Tryz.results317, go_sem, ↓reduceIte, reduceCtorEq, nA, nB, nC, nD, nE, nF]
 replace hk : h.T k = none := hk
 have hq2 : h.T q = none := by
  replace hq : upd h.T k (some (TO.cont 1 [[.v (.string sN)]])) q = none := hq
  by_cases e : q = k
  ·rw [e, upd_same] at hq; cases hq
  ·rwa [upd_other _ _ e] at hq
 refine ⟨_, _, Weak.refl _, Hp.le.refl _, q, rfl, rfl, hq2, upd_same _ _ _, fun t ht => ?_⟩
 have tq : t ≠ q := by rintro rfl; exact ht hq2
 have tk : t ≠ k := by rintro rfl; exact ht hk
 show upd (upd h.T k none) q _ t = _
 rw [upd_other _ _ tq, upd_other _ _ tk]
theorem c_split (h : Hp) : ACalls Tryz.prog 287 [.v (.string sN), .v (.string ⟨#[58]⟩)] h (fun r h' => r = .row 1 [[.v (.string sN)]] none ∧ h' = h) := by
 have h1 := fun h => c_genSplit h
 refine gE Tryz.func287 rfl (by kernel_rfl) 6 rfl fun c => ?_
 (repeat (first | refine gO rfl ?_ | (refine gR fun K1 hK1 => ?_; simp only [go_sem, ↓reduceIte, reduceCtorEq, nA, nB, nC, nD, nE, nF, Int.reduceBEq, Int.reduceTMod, Int.reduceTDiv, Int.reduceMul, Int.reduceBNe, Int.reduceLT, Int.reduceLE, Int.reduceAdd, Int.reduceSub, Int.reduceNeg, decide_true, decide_false, Bool.true_and, Bool.false_and, Bool.and_true, Bool.and_false, Bool.or_false, Bool.or_true, Bool.true_or, Bool.false_or, Bool.not_true, Bool.not_false, true_implies, false_implies, true_and, and_true, Int.reduceToNat] <;> and_intros <;> first | (apply hK1; clear hK1 K1) | (intros; first | omega | decide) | skip) | (refine awp_cond (t := _) rfl (fun hq => ?_) (fun hq => ?_) <;> first | (exact absurd hq (by decide)) | (cases hq; done) | (clear hq)) | (refine awp_un 8 ?_) | (with_reducible exact rfl) | (with_reducible exact trivial) | ((with_reducible show uside _); first | exact True.intro | exact rfl) | ((with_reducible show opS _ _); exact True.intro) | (refine ⟨AV.v (.bool true), rfl, hK1 _ ?_⟩; clear hK1 K1) | (refine (h1 _).mono ?_; rintro _ hz ⟨rfl, hh⟩; (first | (refine hK1 _ ?_) | (refine ⟨rfl, hK1 _ ?_⟩)); clear hK1 K1; rw [hh]; clear hh hz)))
 simp only [Tryz.results287, go_sem, ↓reduceIte, reduceCtorEq, nA, nB, nC, nD, nE, nF]
 exact ⟨_, _, Weak.refl _, Hp.le.refl _, rfl, rfl⟩
theorem c_ixNil (s : ByteArray) (h : Hp) : ACalls Tryz.prog 130 [.v (.slice none 0 0), .v (.string s)] h (fun r h' => r = .v (.int .i64 (-1)) ∧ h' = h) := by
 refine gE Tryz.func130 rfl (by kernel_rfl) 17 rfl fun c => ?_
 (repeat (first | refine gO rfl ?_ | (refine gR fun K1 hK1 => ?_; simp only [go_sem, ↓reduceIte, reduceCtorEq, nA, nB, nC, nD, nE, nF, Int.reduceBEq, Int.reduceTMod, Int.reduceTDiv, Int.reduceMul, Int.reduceBNe, Int.reduceLT, Int.reduceLE, Int.reduceAdd, Int.reduceSub, Int.reduceNeg, decide_true, decide_false, Bool.true_and, Bool.false_and, Bool.and_true, Bool.and_false, Bool.or_false, Bool.or_true, Bool.true_or, Bool.false_or, Bool.not_true, Bool.not_false, true_implies, false_implies, true_and, and_true, Int.reduceToNat] <;> and_intros <;> first | (apply hK1; clear hK1 K1) | (intros; first | omega | decide) | skip) | (refine awp_cond (t := _) rfl (fun hq => ?_) (fun hq => ?_) <;> first | (exact absurd hq (by decide)) | (cases hq; done) | (clear hq)) | (refine awp_un 8 ?_) | (with_reducible exact rfl) | (with_reducible exact trivial) | ((with_reducible show uside _); first | exact True.intro | exact rfl) | ((with_reducible show opS _ _); exact True.intro) | (refine ⟨AV.v (.bool true), rfl, hK1 _ ?_⟩; clear hK1 K1)))
 simp only [Tryz.results130, go_sem, ↓reduceIte, reduceCtorEq, nA, nB, nC, nD, nE, nF]
 exact ⟨_, _, Weak.refl _, Hp.le.refl _, rfl, rfl⟩
theorem c_hasNil (s : ByteArray) (h : Hp) : ACalls Tryz.prog 95 [.v (.slice none 0 0), .v (.string s)] h (fun r h' => r = .v (.bool false) ∧ h' = h) := by
 have h1 := fun h => c_ixNil s h
 refine gE Tryz.func95 rfl (by kernel_rfl) 7 rfl fun c => ?_
 (repeat (first | refine gO rfl ?_ | (refine gR fun K1 hK1 => ?_; simp only [go_sem, ↓reduceIte, reduceCtorEq, nA, nB, nC, nD, nE, nF, Int.reduceBEq, Int.reduceTMod, Int.reduceTDiv, Int.reduceMul, Int.reduceBNe, Int.reduceLT, Int.reduceLE, Int.reduceAdd, Int.reduceSub, Int.reduceNeg, decide_true, decide_false, Bool.true_and, Bool.false_and, Bool.and_true, Bool.and_false, Bool.or_false, Bool.or_true, Bool.true_or, Bool.false_or, Bool.not_true, Bool.not_false, true_implies, false_implies, true_and, and_true, Int.reduceToNat] <;> and_intros <;> first | (apply hK1; clear hK1 K1) | (intros; first | omega | decide) | skip) | (refine awp_cond (t := _) rfl (fun hq => ?_) (fun hq => ?_) <;> first | (exact absurd hq (by decide)) | (cases hq; done) | (clear hq)) | (refine awp_un 8 ?_) | (with_reducible exact rfl) | (with_reducible exact trivial) | ((with_reducible show uside _); first | exact True.intro | exact rfl) | ((with_reducible show opS _ _); exact True.intro) | (refine ⟨AV.v (.bool true), rfl, hK1 _ ?_⟩; clear hK1 K1) | (refine (h1 _).mono ?_; rintro _ hz ⟨rfl, hh⟩; (first | (refine hK1 _ ?_) | (refine ⟨rfl, hK1 _ ?_⟩)); clear hK1 K1; rw [hh]; clear hh hz)))
 simp only [Tryz.results95, go_sem, ↓reduceIte, reduceCtorEq, nA, nB, nC, nD, nE, nF]
 exact ⟨_, _, Weak.refl _, Hp.le.refl _, rfl, rfl⟩
theorem g_ixNo (s : ByteArray) (l : List ByteArray) (h : Hp) (hl : l.length ≤ 100000) (hn : ∀ x ∈ l, (s == x) = false) : ACalls Tryz.prog 130 [.row 1 (l.map fun x => [.v (.string x)]) none, .v (.string s)] h (fun r h' => r = .v (.int .i64 (-1)) ∧ h' = h) := by
 obtain ⟨en, hen⟩ : ∃ en : ByteArray → List AV, en = fun x => [.v (.string x)] := ⟨_, rfl⟩
 rw [← hen]
 have hml : (l.map en).length = l.length := List.length_map _
 refine gE Tryz.func130 rfl (by kernel_rfl) 17 rfl fun c => ?_
 (repeat (first | refine gO rfl ?_ | (refine gR fun K1 hK1 => ?_; simp only [go_sem, ↓reduceIte, reduceCtorEq, nA, nB, nC, nD, nE, nF, hml] <;> and_intros <;> first | (apply hK1; clear hK1 K1) | (intros; first | omega | decide | (simp_all <;> omega)) | skip)))
 refine awp_loopC (rl false [0, 2, 5, 2, 10]) 0 (fun g s' => ∃ j : Nat, g + j = l.length ∧
  s' = ⟨((.row 1 (l.map en) none) :: (.v (.string s)) :: (jnk 5 ((.v (.int .i64 l.length)) :: (.v (.int .i64 j)) :: (jnk 10 [])))), [], h⟩) l.length ⟨0, by omega, rfl⟩ ?_
 rintro g _ ⟨j, hj, rfl⟩
 (repeat (first | refine gO rfl ?_ | (refine gR fun K1 hK1 => ?_; simp only [go_sem, ↓reduceIte, reduceCtorEq, nA, nB, nC, nD, nE, nF] <;> and_intros <;> first | (apply hK1; clear hK1 K1) | (intros; first | omega | decide) | skip)))
 refine awp_cond (t := _) rfl (fun h1 => ?_) (fun h1 => ?_)
 ·simp only [decide_eq_true_eq] at h1
  have hjl : j < l.length := by omega
  have gx : (l.map en).getD j [] = en (l.getD j default) := getD_enc en l j default hjl
  have hno := hn (l.getD j default) (by rw [List.getD_eq_getElem?_getD, List.getElem?_eq_getElem hjl]; exact List.getElem_mem _)
  generalize l.getD j default = y at *
  have gx2 : (l.map en).getD j [] = [.v (.string y)] := by rw [gx, hen]
  (repeat (first | refine gO rfl ?_ | (refine gR fun K1 hK1 => ?_; simp only [go_sem, ↓reduceIte, reduceCtorEq, nA, nB, nC, nD, nE, nF, hml, Int.toNat_natCast, gx2] <;> and_intros <;> first | (apply hK1; clear hK1 K1) | (intros; first | omega | decide) | skip)))
  refine awp_cond (t := _) rfl (fun h9 => by rw [hno] at h9; cases h9) (fun _ => ?_)
  (repeat (first | refine gO rfl ?_ | (refine gR fun K1 hK1 => ?_; simp only [go_sem, ↓reduceIte, reduceCtorEq, nA, nB, nC, nD, nE, nF] <;> and_intros <;> first | (apply hK1; clear hK1 K1) | (intros; first | omega | decide) | skip)))
  exact ⟨g - 1, by omega, j + 1, by omega, rfl⟩
 ·(repeat (first | refine gO rfl ?_ | (refine gR fun K1 hK1 => ?_; simp only [go_sem, ↓reduceIte, reduceCtorEq, nA, nB, nC, nD, nE, nF] <;> and_intros <;> first | (apply hK1; clear hK1 K1) | (intros; first | omega | decide) | skip)))
  simp only [Tryz.results130, go_sem, ↓reduceIte, reduceCtorEq, nA, nB, nC, nD, nE, nF]
  exact ⟨_, _, Weak.refl _, Hp.le.refl _, rfl, rfl⟩
theorem g_hasNo (s : ByteArray) (l : List ByteArray) (h : Hp) (hl : l.length ≤ 100000) (hn : ∀ x ∈ l, (s == x) = false) : ACalls Tryz.prog 95 [.row 1 (l.map fun x => [.v (.string x)]) none, .v (.string s)] h (fun r h' => r = .v (.bool false) ∧ h' = h) := by
 have h1 := fun h => g_ixNo s l h hl hn
 generalize (l.map fun x => [AV.v (.string x)]) = rw0 at *
 refine gE Tryz.func95 rfl (by kernel_rfl) 7 rfl fun c => ?_
 (repeat (first | refine gO rfl ?_ | (refine gR fun K1 hK1 => ?_; simp only [go_sem, ↓reduceIte, reduceCtorEq, nA, nB, nC, nD, nE, nF, Int.reduceBEq, Int.reduceTMod, Int.reduceTDiv, Int.reduceMul, Int.reduceBNe, Int.reduceLT, Int.reduceLE, Int.reduceAdd, Int.reduceSub, Int.reduceNeg, decide_true, decide_false, Bool.true_and, Bool.false_and, Bool.and_true, Bool.and_false, Bool.or_false, Bool.or_true, Bool.true_or, Bool.false_or, Bool.not_true, Bool.not_false, true_implies, false_implies, true_and, and_true, Int.reduceToNat] <;> and_intros <;> first | (apply hK1; clear hK1 K1) | (intros; first | omega | decide) | skip) | (refine awp_cond (t := _) rfl (fun hq => ?_) (fun hq => ?_) <;> first | (exact absurd hq (by decide)) | (cases hq; done) | (clear hq)) | (refine awp_un 8 ?_) | (with_reducible exact rfl) | (with_reducible exact trivial) | ((with_reducible show uside _); first | exact True.intro | exact rfl) | ((with_reducible show opS _ _); exact True.intro) | (refine ⟨AV.v (.bool true), rfl, hK1 _ ?_⟩; clear hK1 K1) | (refine (h1 _).mono ?_; rintro _ hz ⟨rfl, hh⟩; (first | (refine hK1 _ ?_) | (refine ⟨rfl, hK1 _ ?_⟩)); clear hK1 K1; rw [hh]; clear hh hz)))
 simp only [Tryz.results95, go_sem, ↓reduceIte, reduceCtorEq, nA, nB, nC, nD, nE, nF]
 exact ⟨_, _, Weak.refl _, Hp.le.refl _, rfl, rfl⟩
abbrev zPSE : List Nat := [0, 1, 2, 3, 4, 5, 6, 7, 8, 9, 10, 11, 12]
abbrev zPSP : List (Nat × List Nat × List Nat) := []
abbrev zPTE : List Nat := [0, 2, 7, 8]
abbrev zPTP : List (Nat × List Nat × List Nat) := [(1, [7], []), (3, [7], [4, 5, 6]), (9, [], [10, 11]), (12, [], [])]
abbrev zPUE : List Nat := [0, 1, 2, 3]
abbrev zPUP : List (Nat × List Nat × List Nat) := [(4, [2], []), (5, [], [6, 7, 8]), (10, [], [11])]
abbrev zPVE : List Nat := [0, 1, 2, 3, 4, 5, 6, 7, 8, 9]
abbrev zPVP : List (Nat × List Nat × List Nat) := []
abbrev zPWE : List Nat := [0, 1, 2, 3, 4, 5, 6, 7, 8]
abbrev zPWP : List (Nat × List Nat × List Nat) := [(9, [], [10])]
abbrev zPXE : List Nat := [0, 1, 2, 3, 4, 5, 6, 7, 8, 9, 10]
abbrev zPXP : List (Nat × List Nat × List Nat) := []
abbrev zPYE : List Nat := [0, 1, 2, 3, 4, 5, 6, 7, 8, 9, 10, 11, 12, 13, 14, 15, 16]
abbrev zPYP : List (Nat × List Nat × List Nat) := [(17, [], [])]
abbrev zPZE : List Nat := [0, 1, 2, 3, 4, 5, 6, 7, 8]
abbrev zPZP : List (Nat × List Nat × List Nat) := [(9, [], [10])]
abbrev zP10E : List Nat := [0, 1, 2, 3, 4, 5, 6, 7, 8, 9, 10, 11, 12, 13, 14, 15, 16, 17, 18, 19, 20, 21, 22, 23, 24, 25, 26, 27, 28, 29, 30, 31]
abbrev zP10P : List (Nat × List Nat × List Nat) := [(32, [], [33, 34])]
abbrev zP11E : List Nat := [0, 1, 2, 3, 4, 5, 6]
abbrev zP11P : List (Nat × List Nat × List Nat) := []
attribute [go_sem] zPSE zPSP zPTE zPTP zPUE zPUP zPVE zPVP zPWE zPWP zPXE zPXP zPYE zPYP zPZE zPZP zP10E zP10P zP11E zP11P
def vI (n : Int) : AV := .v (.int .i64 n)
def vS (s : ByteArray) : AV := .v (.string s)
def vB (b : Bool) : AV := .v (.bool b)
def nl : AV := .v (.slice none 0 0)
def s0 : ByteArray := ⟨#[]⟩
def ndCp (kind : Int) (name : ByteArray) : List AV := [vI kind, vS s0, vS s0, vS name, nl, vI 0, nl, vS s0, vS s0, vS s0, vI 0, vS s0, vI 0, vB false, vS s0, vS s0, vS s0, nl, nl]
def bkC (part : AV) : List AV := ndCp 0 s0 ++ [part, vB false]
def rdrC (i : Int) (b : Nat) : List AV := [vS sT, vI i, .row 1 [[.ptr b 0]] none, vB false]
theorem hle_obj {h : Hp} {b : Nat} {o : AO} (hb : h.H b = none) : Hp.le h ⟨upd h.H b (some o), h.T⟩ :=
 ⟨fun i => by
  by_cases e : i = b
  ·exact .inl (by rw [e]; exact hb)
  ·exact .inr (upd_other _ _ e).symm, fun _ => .inr rfl⟩
theorem Weak.tupW {a a' : AV} {xs : List AV} (ha : Weak a a') : Weak (.tup (a :: xs)) (.tup (a' :: xs)) := fun G v hr => by
 cases hr with
 | tup _ vs u hl hu hr =>
  refine .tup _ vs u (by simpa using hl) (fun j hj => hu j (by simpa using hj)) (fun j hj => ?_)
  rcases j with _ | j
  ·exact ha G _ (hr 0 (by simp))
  ·exact hr (j + 1) (by simpa using hj)
theorem nc1 : ((1 : Nat) : Int) = 1 := rfl
theorem c_top (r b : Nat) (i : Int) (h : Hp) (hr : h.H r = some (.cells (rdrC i b))) : ACalls Tryz.prog 247 [.ptr r 0] h (fun x h' => x = .ptr b 0 ∧ h' = h) := by
 unfold rdrC vS vI vB at hr
 refine gE Tryz.func247 rfl (by kernel_rfl) 14 rfl fun c => ?_
 (repeat (first | refine gO rfl ?_ | ((first | refine gR ?_ | (with_reducible refine wM ?_ ?_) | ((with_reducible refine xS ?_); refine uD 1 zM32 zPSE zPSP 15 rfl (by kernel_rfl) ?_)) <;> ((try with_reducible intro K1 hK1); simp only [go_sem, ↓reduceIte, reduceCtorEq, nA, nB, nC, nD, nE, nF, Int.reduceBEq, Int.reduceTMod, Int.reduceTDiv, Int.reduceMul, Int.reduceBNe, Int.reduceLT, Int.reduceLE, Int.reduceAdd, Int.reduceSub, Int.reduceNeg, decide_true, decide_false, Bool.true_and, Bool.false_and, Bool.and_true, Bool.and_false, Bool.or_false, Bool.or_true, Bool.true_or, Bool.false_or, Bool.not_true, Bool.not_false, true_implies, false_implies, true_and, and_true, Int.reduceToNat, hr, nc1] <;> and_intros <;> first | (apply hK1; clear hK1 K1) | (intros; first | omega | decide) | skip)) | (refine awp_cond (t := _) rfl (fun hq => ?_) (fun hq => ?_) <;> first | (exact absurd hq (by decide)) | (cases hq; done) | (clear hq)) | (refine awp_un 8 ?_) | (with_reducible exact rfl) | (with_reducible exact trivial) | ((with_reducible show uside _); first | exact True.intro | exact rfl) | ((with_reducible show opS _ _); exact True.intro) | (refine ⟨AV.v (.bool true), rfl, hK1 _ ?_⟩; clear hK1 K1)))
 simp only [Tryz.results247, go_sem, ↓reduceIte, reduceCtorEq, nA, nB, nC, nD, nE, nF]
 exact ⟨_, _, Weak.refl _, Hp.le.refl _, rfl, rfl⟩
theorem c_add (r b : Nat) (i : Int) (n : List AV) (h : Hp) (hn : n.length = 19) (hr : h.H r = some (.cells (rdrC i b))) (hb : h.H b = some (.cells (bkC nl))) : ACalls Tryz.prog 210 [.ptr r 0, .agg n] h (fun x h' => x = .tup [] ∧ ∃ k, h.T k = none ∧ h' = ⟨upd h.H b (some (.cells (bkC (.row 19 [n] (some k))))), upd h.T k (some (.tail 1))⟩) := by
 have h1 := c_top r b i h hr
 have ht : List.take 19 n = n := List.take_of_length_le (by omega)
 unfold bkC ndCp vS vI vB nl s0 at *
 simp only [List.cons_append, List.nil_append] at *
 refine gE Tryz.func210 rfl (by kernel_rfl) 14 rfl fun c => ?_
 (repeat (first | refine gO rfl ?_ | ((first | refine gR ?_ | (with_reducible refine wM ?_ ?_) | ((with_reducible refine xR ?_); refine uE 1 zM32 zPTE zPTP 16 rfl (by kernel_rfl) ?_)) <;> ((try with_reducible intro K1 hK1); simp only [go_sem, ↓reduceIte, reduceCtorEq, nA, nB, nC, nD, nE, nF, Int.reduceBEq, Int.reduceTMod, Int.reduceTDiv, Int.reduceMul, Int.reduceBNe, Int.reduceLT, Int.reduceLE, Int.reduceAdd, Int.reduceSub, Int.reduceNeg, decide_true, decide_false, Bool.true_and, Bool.false_and, Bool.and_true, Bool.and_false, Bool.or_false, Bool.or_true, Bool.true_or, Bool.false_or, Bool.not_true, Bool.not_false, true_implies, false_implies, true_and, and_true, Int.reduceToNat, hb, hn, ht] <;> and_intros <;> first | (apply hK1; clear hK1 K1) | (intros; first | omega | decide) | skip)) | (refine awp_cond (t := _) rfl (fun hq => ?_) (fun hq => ?_) <;> first | (exact absurd hq (by decide)) | (cases hq; done) | (clear hq)) | (refine awp_un 8 ?_) | (with_reducible exact rfl) | (with_reducible exact trivial) | ((with_reducible show uside _); first | exact True.intro | exact rfl) | ((with_reducible show opS _ _); exact True.intro) | (refine ⟨AV.v (.bool true), rfl, hK1 _ ?_⟩; clear hK1 K1) | (refine (h1).mono ?_; rintro _ hz ⟨rfl, hh⟩; (first | (refine hK1 _ ?_) | (refine ⟨rfl, hK1 _ ?_⟩)); clear hK1 K1; rw [hh]; clear hh hz)))
 intro k hk
 refine hK1 _ ?_; clear hK1 K1
 (repeat (first | refine gO rfl ?_ | ((first | refine gR ?_ | (with_reducible refine wM ?_ ?_) | ((with_reducible refine xR ?_); refine uE 1 zM32 zPTE zPTP 16 rfl (by kernel_rfl) ?_)) <;> ((try with_reducible intro K1 hK1); simp only [go_sem, ↓reduceIte, reduceCtorEq, nA, nB, nC, nD, nE, nF, Int.reduceBEq, Int.reduceTMod, Int.reduceTDiv, Int.reduceMul, Int.reduceBNe, Int.reduceLT, Int.reduceLE, Int.reduceAdd, Int.reduceSub, Int.reduceNeg, decide_true, decide_false, Bool.true_and, Bool.false_and, Bool.and_true, Bool.and_false, Bool.or_false, Bool.or_true, Bool.true_or, Bool.false_or, Bool.not_true, Bool.not_false, true_implies, false_implies, true_and, and_true, Int.reduceToNat, hb] <;> and_intros <;> first | (apply hK1; clear hK1 K1) | (intros; first | omega | decide) | skip)) | (refine awp_cond (t := _) rfl (fun hq => ?_) (fun hq => ?_) <;> first | (exact absurd hq (by decide)) | (cases hq; done) | (clear hq)) | (refine awp_un 8 ?_) | (with_reducible exact rfl) | (with_reducible exact trivial) | ((with_reducible show uside _); first | exact True.intro | exact rfl) | ((with_reducible show opS _ _); exact True.intro) | (refine ⟨AV.v (.bool true), rfl, hK1 _ ?_⟩; clear hK1 K1)))
 simp only [Tryz.results210, go_sem, ↓reduceIte, reduceCtorEq, nA, nB, nC, nD, nE, nF]
 exact ⟨_, _, Weak.refl _, Hp.le.refl _, rfl, k, hk, rfl⟩
theorem c_names (r b : Nat) (i : Int) (part : AV) (h : Hp) (hr : h.H r = some (.cells (rdrC i b))) (hb : h.H b = some (.cells (bkC part))) : ACalls Tryz.prog 283 [.ptr r 0] h (fun x h' => x = nl ∧ h' = h) := by
 unfold rdrC vS vI vB at hr
 unfold bkC ndCp vS vI vB nl s0 at *
 simp only [List.cons_append, List.nil_append] at *
 refine gE Tryz.func283 rfl (by kernel_rfl) 30 rfl fun c => ?_
 (repeat (first | refine gO rfl ?_ | (refine gR fun K1 hK1 => ?_; simp only [go_sem, ↓reduceIte, reduceCtorEq, nA, nB, nC, nD, nE, nF, Int.reduceBEq, Int.reduceTMod, Int.reduceTDiv, Int.reduceMul, Int.reduceBNe, Int.reduceLT, Int.reduceLE, Int.reduceAdd, Int.reduceSub, Int.reduceNeg, decide_true, decide_false, Bool.true_and, Bool.false_and, Bool.and_true, Bool.and_false, Bool.or_false, Bool.or_true, Bool.true_or, Bool.false_or, Bool.not_true, Bool.not_false, true_implies, false_implies, true_and, and_true, Int.reduceToNat, hr, hb, nc1] <;> and_intros <;> first | (apply hK1; clear hK1 K1) | (intros; first | omega | decide) | skip) | (refine awp_cond (t := _) rfl (fun hq => ?_) (fun hq => ?_) <;> first | (exact absurd hq (by decide)) | (cases hq; done) | (clear hq)) | (refine awp_un 8 ?_) | (with_reducible exact rfl) | (with_reducible exact trivial) | ((with_reducible show uside _); first | exact True.intro | exact rfl) | ((with_reducible show opS _ _); exact True.intro) | (refine ⟨AV.v (.bool true), rfl, hK1 _ ?_⟩; clear hK1 K1)))
 simp only [Tryz.results283, go_sem, ↓reduceIte, reduceCtorEq, nA, nB, nC, nD, nE, nF]
 exact ⟨_, _, Weak.refl _, Hp.le.refl _, rfl, rfl⟩
theorem c_isReserved (h : Hp) : ACalls Tryz.prog 254 [.v (.string sN)] h (fun x h' => x = .v (.bool false) ∧ h' = h) := by
 have h1 := fun h => g_hasNo sN [⟨#[111, 112, 101, 110]⟩, ⟨#[99, 108, 111, 115, 101]⟩, ⟨#[105, 102]⟩, ⟨#[101, 108, 115, 101]⟩, ⟨#[101, 110, 100]⟩, ⟨#[101, 97, 99, 104]⟩, ⟨#[97, 115]⟩, ⟨#[97, 110, 100]⟩, ⟨#[111, 114]⟩, ⟨#[110, 111, 116]⟩, ⟨#[116, 114, 117, 101]⟩, ⟨#[102, 97, 108, 115, 101]⟩] h (by decide) (by decide)
 simp only [List.map_cons, List.map_nil] at h1
 refine gE Tryz.func254 rfl (by kernel_rfl) 5 rfl fun c => ?_
 (repeat (first | refine gO rfl ?_ | (refine gR fun K1 hK1 => ?_; simp only [go_sem, ↓reduceIte, reduceCtorEq, nA, nB, nC, nD, nE, nF, Int.reduceBEq, Int.reduceTMod, Int.reduceTDiv, Int.reduceMul, Int.reduceBNe, Int.reduceLT, Int.reduceLE, Int.reduceAdd, Int.reduceSub, Int.reduceNeg, decide_true, decide_false, Bool.true_and, Bool.false_and, Bool.and_true, Bool.and_false, Bool.or_false, Bool.or_true, Bool.true_or, Bool.false_or, Bool.not_true, Bool.not_false, true_implies, false_implies, true_and, and_true, Int.reduceToNat] <;> and_intros <;> first | (apply hK1; clear hK1 K1) | (intros; first | omega | decide) | skip) | (refine awp_cond (t := _) rfl (fun hq => ?_) (fun hq => ?_) <;> first | (exact absurd hq (by decide)) | (cases hq; done) | (clear hq)) | (refine awp_un 8 ?_) | (with_reducible exact rfl) | (with_reducible exact trivial) | ((with_reducible show uside _); first | exact True.intro | exact rfl) | ((with_reducible show opS _ _); exact True.intro) | (refine ⟨AV.v (.bool true), rfl, hK1 _ ?_⟩; clear hK1 K1) | (refine (h1 _).mono ?_; rintro _ hz ⟨rfl, hh⟩; (first | (refine hK1 _ ?_) | (refine ⟨rfl, hK1 _ ?_⟩)); clear hK1 K1; rw [hh]; clear hh hz)))
 simp only [Tryz.results254, go_sem, ↓reduceIte, reduceCtorEq, nA, nB, nC, nD, nE, nF]
 exact ⟨_, _, Weak.refl _, Hp.le.refl _, rfl, rfl⟩
theorem c_isName (h : Hp) : ACalls Tryz.prog 212 [.v (.string sN)] h (fun x h' => x = .v (.bool true) ∧ h' = h) := by
 have h1 := fun h => c_isReserved h
 have h2 := fun h => a_isKey sN (by decide) h
 rw [show keyB sN = true by decide] at h2
 refine gE Tryz.func212 rfl (by kernel_rfl) 9 rfl fun c => ?_
 (repeat (first | refine gO rfl ?_ | (refine gR fun K1 hK1 => ?_; simp only [go_sem, ↓reduceIte, reduceCtorEq, nA, nB, nC, nD, nE, nF, Int.reduceBEq, Int.reduceTMod, Int.reduceTDiv, Int.reduceMul, Int.reduceBNe, Int.reduceLT, Int.reduceLE, Int.reduceAdd, Int.reduceSub, Int.reduceNeg, decide_true, decide_false, Bool.true_and, Bool.false_and, Bool.and_true, Bool.and_false, Bool.or_false, Bool.or_true, Bool.true_or, Bool.false_or, Bool.not_true, Bool.not_false, true_implies, false_implies, true_and, and_true, Int.reduceToNat] <;> and_intros <;> first | (apply hK1; clear hK1 K1) | (intros; first | omega | decide) | skip) | (refine awp_cond (t := _) rfl (fun hq => ?_) (fun hq => ?_) <;> first | (exact absurd hq (by decide)) | (cases hq; done) | (clear hq)) | (refine awp_un 8 ?_) | (with_reducible exact rfl) | (with_reducible exact trivial) | ((with_reducible show uside _); first | exact True.intro | exact rfl) | ((with_reducible show opS _ _); exact True.intro) | (refine ⟨AV.v (.bool true), rfl, hK1 _ ?_⟩; clear hK1 K1) | (refine (h1 _).mono ?_; rintro _ hz ⟨rfl, hh⟩; (first | (refine hK1 _ ?_) | (refine ⟨rfl, hK1 _ ?_⟩)); clear hK1 K1; rw [hh]; clear hh hz) | (refine (h2 _).mono ?_; rintro _ hz ⟨rfl, hh⟩; (first | (refine hK1 _ ?_) | (refine ⟨rfl, hK1 _ ?_⟩)); clear hK1 K1; rw [hh]; clear hh hz)))
 simp only [Tryz.results212, go_sem, ↓reduceIte, reduceCtorEq, nA, nB, nC, nD, nE, nF]
 exact ⟨_, _, Weak.refl _, Hp.le.refl _, rfl, rfl⟩
theorem c_refOf (h : Hp) : ACalls Tryz.prog 286 [.v (.string sN), nl] h (fun x h' => x = .tup [.agg [vS s0, vS sN], .v (.bool true)] ∧ h' = h) := by
 have h1 := fun h => c_cut h
 have h2 := fun h => c_isName h
 have h3 := fun s h => c_hasNil s h
 unfold nl vS s0 at *
 refine gE Tryz.func286 rfl (by kernel_rfl) 35 rfl fun c => ?_
 (repeat (first | refine gO rfl ?_ | (refine gM zM34 fun K1 hK1 => ?_; simp only [go_sem, ↓reduceIte, reduceCtorEq, nA, nB, nC, nD, nE, nF, Int.reduceBEq, Int.reduceTMod, Int.reduceTDiv, Int.reduceMul, Int.reduceBNe, Int.reduceLT, Int.reduceLE, Int.reduceAdd, Int.reduceSub, Int.reduceNeg, decide_true, decide_false, Bool.true_and, Bool.false_and, Bool.and_true, Bool.and_false, Bool.or_false, Bool.or_true, Bool.true_or, Bool.false_or, Bool.not_true, Bool.not_false, true_implies, false_implies, true_and, and_true, Int.reduceToNat] <;> and_intros <;> first | (apply hK1; clear hK1 K1) | (intros; first | omega | decide) | skip) | (refine awp_cond (t := _) rfl (fun hq => ?_) (fun hq => ?_) <;> first | (exact absurd hq (by decide)) | (cases hq; done) | (clear hq)) | (refine awp_un 8 ?_) | (with_reducible exact rfl) | (with_reducible exact trivial) | ((with_reducible show uside _); first | exact True.intro | exact rfl) | ((with_reducible show opS _ _); exact True.intro) | (refine ⟨AV.v (.bool true), rfl, hK1 _ ?_⟩; clear hK1 K1) | (refine (h1 _).mono ?_; rintro _ hz ⟨rfl, hh⟩; (first | (refine hK1 _ ?_) | (refine ⟨rfl, hK1 _ ?_⟩)); clear hK1 K1; rw [hh]; clear hh hz) | (refine (h2 _).mono ?_; rintro _ hz ⟨rfl, hh⟩; (first | (refine hK1 _ ?_) | (refine ⟨rfl, hK1 _ ?_⟩)); clear hK1 K1; rw [hh]; clear hh hz) | (refine (h3 _ _).mono ?_; rintro _ hz ⟨rfl, hh⟩; (first | (refine hK1 _ ?_) | (refine ⟨rfl, hK1 _ ?_⟩)); clear hK1 K1; rw [hh]; clear hh hz)))
 intro p hp
 refine hK1 _ ?_; clear hK1 K1
 (repeat (first | refine gO rfl ?_ | (refine gM zM34 fun K1 hK1 => ?_; simp only [go_sem, ↓reduceIte, reduceCtorEq, nA, nB, nC, nD, nE, nF, Int.reduceBEq, Int.reduceTMod, Int.reduceTDiv, Int.reduceMul, Int.reduceBNe, Int.reduceLT, Int.reduceLE, Int.reduceAdd, Int.reduceSub, Int.reduceNeg, decide_true, decide_false, Bool.true_and, Bool.false_and, Bool.and_true, Bool.and_false, Bool.or_false, Bool.or_true, Bool.true_or, Bool.false_or, Bool.not_true, Bool.not_false, true_implies, false_implies, true_and, and_true, Int.reduceToNat] <;> and_intros <;> first | (apply hK1; clear hK1 K1) | (intros; first | omega | decide) | skip) | (refine awp_cond (t := _) rfl (fun hq => ?_) (fun hq => ?_) <;> first | (exact absurd hq (by decide)) | (cases hq; done) | (clear hq)) | (refine awp_un 8 ?_) | (with_reducible exact rfl) | (with_reducible exact trivial) | ((with_reducible show uside _); first | exact True.intro | exact rfl) | ((with_reducible show opS _ _); exact True.intro) | (refine ⟨AV.v (.bool true), rfl, hK1 _ ?_⟩; clear hK1 K1) | (refine (h1 _).mono ?_; rintro _ hz ⟨rfl, hh⟩; (first | (refine hK1 _ ?_) | (refine ⟨rfl, hK1 _ ?_⟩)); clear hK1 K1; rw [hh]; clear hh hz) | (refine (h2 _).mono ?_; rintro _ hz ⟨rfl, hh⟩; (first | (refine hK1 _ ?_) | (refine ⟨rfl, hK1 _ ?_⟩)); clear hK1 K1; rw [hh]; clear hh hz) | (refine (h3 _ _).mono ?_; rintro _ hz ⟨rfl, hh⟩; (first | (refine hK1 _ ?_) | (refine ⟨rfl, hK1 _ ?_⟩)); clear hK1 K1; rw [hh]; clear hh hz)))
 simp only [Tryz.results286, go_sem, ↓reduceIte, reduceCtorEq, nA, nB, nC, nD, nE, nF]
 exact ⟨_, h, Weak.refl _, hle_obj hp, rfl, rfl⟩
def ndN : List AV := ndCp 1 sN
theorem c_fieldTag (r b : Nat) (i : Int) (h : Hp) (hr : h.H r = some (.cells (rdrC i b))) (hb : h.H b = some (.cells (bkC nl))) : ACalls Tryz.prog 253 [.ptr r 0, .v (.string sN)] h (fun x h' => x = .v (.bool true) ∧ ∃ k, h.T k = none ∧ h' = ⟨upd h.H b (some (.cells (bkC (.row 19 [ndN] (some k))))), upd h.T k (some (.tail 1))⟩) := by
 have h1 := fun h => c_split h
 have h2 := fun h hr hb => c_names r b i nl h hr hb
 have h3 := fun h => c_refOf h
 have h4 := fun h hr hb => c_add r b i ndN h rfl hr hb
 have g2 := h2 h hr hb
 have g4 := h4 h hr hb
 clear h2 h4
 unfold nl at g2
 unfold nl vS s0 at h3
 simp only [ndN, ndCp, vI, vS, vB, nl, s0] at g4
 refine gE Tryz.func253 rfl (by kernel_rfl) 56 rfl fun c => ?_
 (repeat (first | refine gO rfl ?_ | ((first | refine gM zM35 ?_ | (with_reducible refine wM ?_ ?_) | ((with_reducible refine xS ?_); refine uF 2 zM35 9 zPUE zPUP 58 rfl (by kernel_rfl) ?_)) <;> ((try with_reducible intro K1 hK1); simp only [go_sem, ↓reduceIte, reduceCtorEq, nA, nB, nC, nD, nE, nF, Int.reduceBEq, Int.reduceTMod, Int.reduceTDiv, Int.reduceMul, Int.reduceBNe, Int.reduceLT, Int.reduceLE, Int.reduceAdd, Int.reduceSub, Int.reduceNeg, decide_true, decide_false, Bool.true_and, Bool.false_and, Bool.and_true, Bool.and_false, Bool.or_false, Bool.or_true, Bool.true_or, Bool.false_or, Bool.not_true, Bool.not_false, true_implies, false_implies, true_and, and_true, Int.reduceToNat, nc1] <;> and_intros <;> first | (apply hK1; clear hK1 K1) | (intros; first | omega | decide) | skip)) | (refine awp_cond (t := _) rfl (fun hq => ?_) (fun hq => ?_) <;> first | (exact absurd hq (by decide)) | (cases hq; done) | (clear hq)) | (refine awp_un 8 ?_) | (with_reducible exact rfl) | (with_reducible exact trivial) | ((with_reducible show uside _); first | exact True.intro | exact rfl) | ((with_reducible show opS _ _); exact True.intro) | (refine ⟨AV.v (.bool true), rfl, hK1 _ ?_⟩; clear hK1 K1) | (refine (h1 _).mono ?_; rintro _ hz ⟨rfl, hh⟩; (first | (refine hK1 _ ?_) | (refine ⟨rfl, hK1 _ ?_⟩)); clear hK1 K1; rw [hh]; clear hh hz) | (refine (g2).mono ?_; rintro _ hz ⟨rfl, hh⟩; (first | (refine hK1 _ ?_) | (refine ⟨rfl, hK1 _ ?_⟩)); clear hK1 K1; rw [hh]; clear hh hz) | (refine (h3 _).mono ?_; rintro _ hz ⟨rfl, hh⟩; (first | (refine hK1 _ ?_) | (refine ⟨rfl, hK1 _ ?_⟩)); clear hK1 K1; rw [hh]; clear hh hz)))
 refine g4.mono ?_
 rintro _ hz ⟨rfl, k, hk, rfl⟩
 refine hK1 _ ?_; clear hK1 K1
 (repeat (first | refine gO rfl ?_ | ((first | refine gM zM35 ?_ | (with_reducible refine wM ?_ ?_) | ((with_reducible refine xS ?_); refine uF 2 zM35 9 zPUE zPUP 58 rfl (by kernel_rfl) ?_)) <;> ((try with_reducible intro K1 hK1); simp only [go_sem, ↓reduceIte, reduceCtorEq, nA, nB, nC, nD, nE, nF, Int.reduceBEq, Int.reduceTMod, Int.reduceTDiv, Int.reduceMul, Int.reduceBNe, Int.reduceLT, Int.reduceLE, Int.reduceAdd, Int.reduceSub, Int.reduceNeg, decide_true, decide_false, Bool.true_and, Bool.false_and, Bool.and_true, Bool.and_false, Bool.or_false, Bool.or_true, Bool.true_or, Bool.false_or, Bool.not_true, Bool.not_false, true_implies, false_implies, true_and, and_true, Int.reduceToNat] <;> and_intros <;> first | (apply hK1; clear hK1 K1) | (intros; first | omega | decide) | skip)) | (refine awp_cond (t := _) rfl (fun hq => ?_) (fun hq => ?_) <;> first | (exact absurd hq (by decide)) | (cases hq; done) | (clear hq)) | (refine awp_un 8 ?_) | (with_reducible exact rfl) | (with_reducible exact trivial) | ((with_reducible show uside _); first | exact True.intro | exact rfl) | ((with_reducible show opS _ _); exact True.intro) | (refine ⟨AV.v (.bool true), rfl, hK1 _ ?_⟩; clear hK1 K1)))
 simp only [Tryz.results253, go_sem, ↓reduceIte, reduceCtorEq, nA, nB, nC, nD, nE, nF]
 exact ⟨_, _, Weak.refl _, Hp.le.refl _, rfl, k, hk, rfl⟩
theorem c_tag (r b : Nat) (i : Int) (h : Hp) (hr : h.H r = some (.cells (rdrC i b))) (hb : h.H b = some (.cells (bkC nl))) : ACalls Tryz.prog 211 [.ptr r 0, .v (.string sN)] h (fun x h' => x = .v (.bool true) ∧ ∃ k, h.T k = none ∧ h' = ⟨upd h.H b (some (.cells (bkC (.row 19 [ndN] (some k))))), upd h.T k (some (.tail 1))⟩) := by
 have g1 := c_fieldTag r b i h hr hb
 have h2 := fun h => c_cutPrefix ⟨#[105, 102, 32]⟩ h (by decide)
 have h3 := fun h => c_cutPrefix ⟨#[101, 97, 99, 104, 32]⟩ h (by decide)
 have e1 : (sN == ⟨#[111, 112, 101, 110]⟩) = false := by decide
 have e2 : (sN == ⟨#[99, 108, 111, 115, 101]⟩) = false := by decide
 have e3 : (sN == ⟨#[101, 108, 115, 101]⟩) = false := by decide
 have e4 : (sN == ⟨#[101, 110, 100]⟩) = false := by decide
 refine gE Tryz.func211 rfl (by kernel_rfl) 47 rfl fun c => ?_
 (repeat (first | refine gO rfl ?_ | (refine gR fun K1 hK1 => ?_; simp only [go_sem, ↓reduceIte, reduceCtorEq, nA, nB, nC, nD, nE, nF, Int.reduceBEq, Int.reduceTMod, Int.reduceTDiv, Int.reduceMul, Int.reduceBNe, Int.reduceLT, Int.reduceLE, Int.reduceAdd, Int.reduceSub, Int.reduceNeg, decide_true, decide_false, Bool.true_and, Bool.false_and, Bool.and_true, Bool.and_false, Bool.or_false, Bool.or_true, Bool.true_or, Bool.false_or, Bool.not_true, Bool.not_false, true_implies, false_implies, true_and, and_true, Int.reduceToNat, e1, e2, e3, e4] <;> and_intros <;> first | (apply hK1; clear hK1 K1) | (intros; first | omega | decide) | skip) | (refine awp_cond (t := _) rfl (fun hq => ?_) (fun hq => ?_) <;> first | (exact absurd hq (by decide)) | (cases hq; done) | (clear hq)) | (refine awp_un 8 ?_) | (with_reducible exact rfl) | (with_reducible exact trivial) | ((with_reducible show uside _); first | exact True.intro | exact rfl) | ((with_reducible show opS _ _); exact True.intro) | (refine ⟨AV.v (.bool true), rfl, hK1 _ ?_⟩; clear hK1 K1) | (refine (h2 _).mono ?_; rintro _ hz ⟨rfl, hh⟩; (first | (refine hK1 _ ?_) | (refine ⟨rfl, hK1 _ ?_⟩)); clear hK1 K1; rw [hh]; clear hh hz) | (refine (h3 _).mono ?_; rintro _ hz ⟨rfl, hh⟩; (first | (refine hK1 _ ?_) | (refine ⟨rfl, hK1 _ ?_⟩)); clear hK1 K1; rw [hh]; clear hh hz)))
 refine g1.mono ?_
 rintro _ hz ⟨rfl, k, hk, rfl⟩
 refine hK1 _ ?_; clear hK1 K1
 (repeat (first | refine gO rfl ?_ | (refine gR fun K1 hK1 => ?_; simp only [go_sem, ↓reduceIte, reduceCtorEq, nA, nB, nC, nD, nE, nF, Int.reduceBEq, Int.reduceTMod, Int.reduceTDiv, Int.reduceMul, Int.reduceBNe, Int.reduceLT, Int.reduceLE, Int.reduceAdd, Int.reduceSub, Int.reduceNeg, decide_true, decide_false, Bool.true_and, Bool.false_and, Bool.and_true, Bool.and_false, Bool.or_false, Bool.or_true, Bool.true_or, Bool.false_or, Bool.not_true, Bool.not_false, true_implies, false_implies, true_and, and_true, Int.reduceToNat] <;> and_intros <;> first | (apply hK1; clear hK1 K1) | (intros; first | omega | decide) | skip) | (refine awp_cond (t := _) rfl (fun hq => ?_) (fun hq => ?_) <;> first | (exact absurd hq (by decide)) | (cases hq; done) | (clear hq)) | (refine awp_un 8 ?_) | (with_reducible exact rfl) | (with_reducible exact trivial) | ((with_reducible show uside _); first | exact True.intro | exact rfl) | ((with_reducible show opS _ _); exact True.intro) | (refine ⟨AV.v (.bool true), rfl, hK1 _ ?_⟩; clear hK1 K1)))
 simp only [Tryz.results211, go_sem, ↓reduceIte, reduceCtorEq, nA, nB, nC, nD, nE, nF]
 exact ⟨_, _, Weak.refl _, Hp.le.refl _, rfl, k, hk, rfl⟩
theorem c_run (r : Nat) (h : Hp) (hr : h.H r = some (.cells [vS sT, vI 0, nl, vB false])) : ACalls Tryz.prog 176 [.ptr r 0] h (fun x h' => x = .v (.bool true) ∧ ∃ b k, h'.H r = some (.cells (rdrC 3 b)) ∧ h'.H b = some (.cells (bkC (.row 19 [ndN] (some k)))) ∧ h'.T k = some (.tail 1)) := by
 have h1 := fun h => c_indexAny h
 have h2 := fun h => c_indexByte h
 have z1 : (sT.size : Int) = 3 := rfl
 have z2 : ((sT.data.toList.getD 0 0).toNat : Int) = 123 := rfl
 have z3 : sT.extract 0 3 = sT := by decide
 have z4 : sT.extract 1 2 = sN := by decide
 unfold vS vI nl vB at hr
 refine gE Tryz.func176 rfl (by kernel_rfl) 130 rfl fun c => ?_
 (repeat (first | refine gO rfl ?_ | ((first | refine gM zM36 ?_ | (with_reducible refine wM ?_ ?_) | ((with_reducible refine xS ?_); refine uD 2 zM36 zPVE zPVP 131 rfl (by kernel_rfl) ?_) | ((with_reducible refine xS ?_); refine uD 3 zM36 zPWE zPWP 131 rfl (by kernel_rfl) ?_) | ((with_reducible refine xR ?_); refine uE 5 zM36 zPXE zPXP 131 rfl (by kernel_rfl) ?_) | ((with_reducible refine xS ?_); refine uD 7 zM36 zPYE zPYP 131 rfl (by kernel_rfl) ?_) | ((with_reducible refine xS ?_); refine uD 9 zM36 zPZE zPZP 131 rfl (by kernel_rfl) ?_) | ((with_reducible refine xS ?_); refine uD 10 zM36 zP10E zP10P 131 rfl (by kernel_rfl) ?_)) <;> ((try with_reducible intro K1 hK1); simp only [go_sem, ↓reduceIte, reduceCtorEq, nA, nB, nC, nD, nE, nF, Int.reduceBEq, Int.reduceTMod, Int.reduceTDiv, Int.reduceMul, Int.reduceBNe, Int.reduceLT, Int.reduceLE, Int.reduceAdd, Int.reduceSub, Int.reduceNeg, decide_true, decide_false, Bool.true_and, Bool.false_and, Bool.and_true, Bool.and_false, Bool.or_false, Bool.or_true, Bool.true_or, Bool.false_or, Bool.not_true, Bool.not_false, true_implies, false_implies, true_and, and_true, Int.reduceToNat, hr] <;> and_intros <;> first | (apply hK1; clear hK1 K1) | (intros; first | omega | decide) | skip)) | (refine awp_cond (t := _) rfl (fun hq => ?_) (fun hq => ?_) <;> first | (exact absurd hq (by decide)) | (cases hq; done) | (clear hq)) | (refine awp_un 8 ?_) | (with_reducible exact rfl) | (with_reducible exact trivial) | ((with_reducible show uside _); first | exact True.intro | exact rfl) | ((with_reducible show opS _ _); exact True.intro) | (refine ⟨AV.v (.bool true), rfl, hK1 _ ?_⟩; clear hK1 K1) | (refine (h1 _).mono ?_; rintro _ hz ⟨rfl, hh⟩; (first | (refine hK1 _ ?_) | (refine ⟨rfl, hK1 _ ?_⟩)); clear hK1 K1; rw [hh]; clear hh hz) | (refine (h2 _).mono ?_; rintro _ hz ⟨rfl, hh⟩; (first | (refine hK1 _ ?_) | (refine ⟨rfl, hK1 _ ?_⟩)); clear hK1 K1; rw [hh]; clear hh hz)))
 intro b hb
 have hrb : r ≠ b := by rintro rfl; rw [hr] at hb; cases hb
 have hor : ∀ o, upd h.H b o r = some (.cells [.v (.string sT), .v (.int .i64 0), .v (.slice none 0 0), .v (.bool false)]) := fun o => (upd_other _ _ hrb).trans hr
 ((simp only [go_sem, ↓reduceIte, reduceCtorEq, nA, nB, nC, nD, nE, nF, hor]; (try and_intros); all_goals first | (refine hK1 _ ?_; clear hK1 K1) | (intros; first | omega | decide | (simp_all <;> omega)) | skip))
 (repeat (first | refine gO rfl ?_ | ((first | refine gM zM36 ?_ | (with_reducible refine wM ?_ ?_) | ((with_reducible refine xS ?_); refine uD 2 zM36 zPVE zPVP 131 rfl (by kernel_rfl) ?_) | ((with_reducible refine xS ?_); refine uD 3 zM36 zPWE zPWP 131 rfl (by kernel_rfl) ?_) | ((with_reducible refine xR ?_); refine uE 5 zM36 zPXE zPXP 131 rfl (by kernel_rfl) ?_) | ((with_reducible refine xS ?_); refine uD 7 zM36 zPYE zPYP 131 rfl (by kernel_rfl) ?_) | ((with_reducible refine xS ?_); refine uD 9 zM36 zPZE zPZP 131 rfl (by kernel_rfl) ?_) | ((with_reducible refine xS ?_); refine uD 10 zM36 zP10E zP10P 131 rfl (by kernel_rfl) ?_)) <;> ((try with_reducible intro K1 hK1); simp only [go_sem, ↓reduceIte, reduceCtorEq, nA, nB, nC, nD, nE, nF, Int.reduceBEq, Int.reduceTMod, Int.reduceTDiv, Int.reduceMul, Int.reduceBNe, Int.reduceLT, Int.reduceLE, Int.reduceAdd, Int.reduceSub, Int.reduceNeg, decide_true, decide_false, Bool.true_and, Bool.false_and, Bool.and_true, Bool.and_false, Bool.or_false, Bool.or_true, Bool.true_or, Bool.false_or, Bool.not_true, Bool.not_false, true_implies, false_implies, true_and, and_true, Int.reduceToNat, upd_same, z1, z2, z3, z4] <;> and_intros <;> first | (apply hK1; clear hK1 K1) | (intros; first | omega | decide) | skip)) | (refine awp_cond (t := _) rfl (fun hq => ?_) (fun hq => ?_) <;> first | (exact absurd hq (by decide)) | (cases hq; done) | (clear hq)) | (refine awp_un 8 ?_) | (with_reducible exact rfl) | (with_reducible exact trivial) | ((with_reducible show uside _); first | exact True.intro | exact rfl) | ((with_reducible show opS _ _); exact True.intro) | (refine ⟨AV.v (.bool true), rfl, hK1 _ ?_⟩; clear hK1 K1) | (refine (h1 _).mono ?_; rintro _ hz ⟨rfl, hh⟩; (first | (refine hK1 _ ?_) | (refine ⟨rfl, hK1 _ ?_⟩)); clear hK1 K1; rw [hh]; clear hh hz) | (refine (h2 _).mono ?_; rintro _ hz ⟨rfl, hh⟩; (first | (refine hK1 _ ?_) | (refine ⟨rfl, hK1 _ ?_⟩)); clear hK1 K1; rw [hh]; clear hh hz)))
 refine ⟨.v (.string sN), ⟨⟨rfl, rfl, True.intro⟩, ?_⟩, rfl, ?_⟩
 ·unfold qE
  simp only [go_sem, ↓reduceIte, reduceCtorEq, Nat.reduceAdd, Nat.reduceSub, Nat.reduceMul, Nat.reduceLT, Nat.reduceLeDiff, Nat.reduceEqDiff, z1, z4]
  exact ⟨by decide, congrArg (fun s => AV.v (.string s)) z4⟩
 refine hK1 _ ?_; clear hK1 K1
 (repeat (first | refine gO rfl ?_ | ((first | refine gM zM36 ?_ | (with_reducible refine wM ?_ ?_) | ((with_reducible refine xS ?_); refine uD 2 zM36 zPVE zPVP 131 rfl (by kernel_rfl) ?_) | ((with_reducible refine xS ?_); refine uD 3 zM36 zPWE zPWP 131 rfl (by kernel_rfl) ?_) | ((with_reducible refine xR ?_); refine uE 5 zM36 zPXE zPXP 131 rfl (by kernel_rfl) ?_) | ((with_reducible refine xS ?_); refine uD 7 zM36 zPYE zPYP 131 rfl (by kernel_rfl) ?_) | ((with_reducible refine xS ?_); refine uD 9 zM36 zPZE zPZP 131 rfl (by kernel_rfl) ?_) | ((with_reducible refine xS ?_); refine uD 10 zM36 zP10E zP10P 131 rfl (by kernel_rfl) ?_)) <;> ((try with_reducible intro K1 hK1); simp only [go_sem, ↓reduceIte, reduceCtorEq, nA, nB, nC, nD, nE, nF, Int.reduceBEq, Int.reduceTMod, Int.reduceTDiv, Int.reduceMul, Int.reduceBNe, Int.reduceLT, Int.reduceLE, Int.reduceAdd, Int.reduceSub, Int.reduceNeg, decide_true, decide_false, Bool.true_and, Bool.false_and, Bool.and_true, Bool.and_false, Bool.or_false, Bool.or_true, Bool.true_or, Bool.false_or, Bool.not_true, Bool.not_false, true_implies, false_implies, true_and, and_true, Int.reduceToNat] <;> and_intros <;> first | (apply hK1; clear hK1 K1) | (intros; first | omega | decide) | skip)) | (refine awp_cond (t := _) rfl (fun hq => ?_) (fun hq => ?_) <;> first | (exact absurd hq (by decide)) | (cases hq; done) | (clear hq)) | (refine awp_un 8 ?_) | (with_reducible exact rfl) | (with_reducible exact trivial) | ((with_reducible show uside _); first | exact True.intro | exact rfl) | ((with_reducible show opS _ _); exact True.intro) | (refine ⟨AV.v (.bool true), rfl, hK1 _ ?_⟩; clear hK1 K1)))
 have g1 := c_tag r b 0 ⟨upd (upd h.H b (some (.cells (bkC nl)))) r (some (.cells (rdrC 0 b))), h.T⟩ (upd_same _ _ _) ((upd_other _ _ hrb.symm).trans (upd_same _ _ _))
 refine g1.mono ?_
 rintro _ hz ⟨rfl, k, hk, rfl⟩
 refine ⟨rfl, hK1 _ ?_⟩; clear hK1 K1 g1
 generalize hbb : bkC (.row 19 [ndN] (some k)) = bb
 have hor2 : ∀ o, upd (upd (upd h.H b (some (.cells (bkC nl)))) r (some (.cells (rdrC 0 b)))) b o r = some (.cells [.v (.string sT), .v (.int .i64 0), .row 1 [[.ptr b 0]] none, .v (.bool false)]) := fun o => (upd_other _ _ hrb).trans (upd_same _ _ _)
 (repeat (first | refine gO rfl ?_ | ((first | refine gM zM36 ?_ | (with_reducible refine wM ?_ ?_) | ((with_reducible refine xS ?_); refine uD 2 zM36 zPVE zPVP 131 rfl (by kernel_rfl) ?_) | ((with_reducible refine xS ?_); refine uD 3 zM36 zPWE zPWP 131 rfl (by kernel_rfl) ?_) | ((with_reducible refine xR ?_); refine uE 5 zM36 zPXE zPXP 131 rfl (by kernel_rfl) ?_) | ((with_reducible refine xS ?_); refine uD 7 zM36 zPYE zPYP 131 rfl (by kernel_rfl) ?_) | ((with_reducible refine xS ?_); refine uD 9 zM36 zPZE zPZP 131 rfl (by kernel_rfl) ?_) | ((with_reducible refine xS ?_); refine uD 10 zM36 zP10E zP10P 131 rfl (by kernel_rfl) ?_)) <;> ((try with_reducible intro K1 hK1); simp only [go_sem, ↓reduceIte, reduceCtorEq, nA, nB, nC, nD, nE, nF, Int.reduceBEq, Int.reduceTMod, Int.reduceTDiv, Int.reduceMul, Int.reduceBNe, Int.reduceLT, Int.reduceLE, Int.reduceAdd, Int.reduceSub, Int.reduceNeg, decide_true, decide_false, Bool.true_and, Bool.false_and, Bool.and_true, Bool.and_false, Bool.or_false, Bool.or_true, Bool.true_or, Bool.false_or, Bool.not_true, Bool.not_false, true_implies, false_implies, true_and, and_true, Int.reduceToNat, upd_same, z1, hor2, nc1] <;> and_intros <;> first | (apply hK1; clear hK1 K1) | (intros; first | omega | decide) | skip)) | (refine awp_cond (t := _) rfl (fun hq => ?_) (fun hq => ?_) <;> first | (exact absurd hq (by decide)) | (cases hq; done) | (clear hq)) | (refine awp_un 8 ?_) | (with_reducible exact rfl) | (with_reducible exact trivial) | ((with_reducible show uside _); first | exact True.intro | exact rfl) | ((with_reducible show opS _ _); exact True.intro) | (refine ⟨AV.v (.bool true), rfl, hK1 _ ?_⟩; clear hK1 K1)))
 simp only [Tryz.results176, go_sem, ↓reduceIte, reduceCtorEq, nA, nB, nC, nD, nE, nF]
 exact ⟨_, _, Weak.refl _, Hp.le.refl _, rfl, b, k, upd_same _ _ _, ((upd_other _ _ hrb.symm).trans (upd_same _ _ _)).trans (by rw [hbb]), upd_same _ _ _⟩
theorem c_parse (h : Hp) : ACalls Tryz.prog 138 [.v (.string sT)] h (fun x h' => x = .tup [.row 19 [ndN] none, .v (.int .i64 0), .v (.int .i64 0)]) := by
 have h1 := fun r h hr => c_run r h hr
 have z1 : (sT.size : Int) = 3 := rfl
 refine gE Tryz.func138 rfl (by kernel_rfl) 31 rfl fun c => ?_
 (repeat (first | refine gO rfl ?_ | ((first | refine gM zM37 ?_ | (with_reducible refine wM ?_ ?_) | ((with_reducible refine xS ?_); refine uD 5 zM37 zP11E zP11P 32 rfl (by kernel_rfl) ?_)) <;> ((try with_reducible intro K1 hK1); simp only [go_sem, ↓reduceIte, reduceCtorEq, nA, nB, nC, nD, nE, nF, Int.reduceBEq, Int.reduceTMod, Int.reduceTDiv, Int.reduceMul, Int.reduceBNe, Int.reduceLT, Int.reduceLE, Int.reduceAdd, Int.reduceSub, Int.reduceNeg, decide_true, decide_false, Bool.true_and, Bool.false_and, Bool.and_true, Bool.and_false, Bool.or_false, Bool.or_true, Bool.true_or, Bool.false_or, Bool.not_true, Bool.not_false, true_implies, false_implies, true_and, and_true, Int.reduceToNat, z1] <;> and_intros <;> first | (apply hK1; clear hK1 K1) | (intros; first | omega | decide) | skip)) | (refine awp_cond (t := _) rfl (fun hq => ?_) (fun hq => ?_) <;> first | (exact absurd hq (by decide)) | (cases hq; done) | (clear hq)) | (refine awp_un 8 ?_) | (with_reducible exact rfl) | (with_reducible exact trivial) | ((with_reducible show uside _); first | exact True.intro | exact rfl) | ((with_reducible show opS _ _); exact True.intro) | (refine ⟨AV.v (.bool true), rfl, hK1 _ ?_⟩; clear hK1 K1)))
 intro r hr
 refine hK1 _ ?_; clear hK1 K1
 (repeat (first | refine gO rfl ?_ | ((first | refine gM zM37 ?_ | (with_reducible refine wM ?_ ?_) | ((with_reducible refine xS ?_); refine uD 5 zM37 zP11E zP11P 32 rfl (by kernel_rfl) ?_)) <;> ((try with_reducible intro K1 hK1); simp only [go_sem, ↓reduceIte, reduceCtorEq, nA, nB, nC, nD, nE, nF, Int.reduceBEq, Int.reduceTMod, Int.reduceTDiv, Int.reduceMul, Int.reduceBNe, Int.reduceLT, Int.reduceLE, Int.reduceAdd, Int.reduceSub, Int.reduceNeg, decide_true, decide_false, Bool.true_and, Bool.false_and, Bool.and_true, Bool.and_false, Bool.or_false, Bool.or_true, Bool.true_or, Bool.false_or, Bool.not_true, Bool.not_false, true_implies, false_implies, true_and, and_true, Int.reduceToNat] <;> and_intros <;> first | (apply hK1; clear hK1 K1) | (intros; first | omega | decide) | skip)) | (refine awp_cond (t := _) rfl (fun hq => ?_) (fun hq => ?_) <;> first | (exact absurd hq (by decide)) | (cases hq; done) | (clear hq)) | (refine awp_un 8 ?_) | (with_reducible exact rfl) | (with_reducible exact trivial) | ((with_reducible show uside _); first | exact True.intro | exact rfl) | ((with_reducible show opS _ _); exact True.intro) | (refine ⟨AV.v (.bool true), rfl, hK1 _ ?_⟩; clear hK1 K1)))
 refine (h1 r _ (upd_same _ _ _)).mono ?_
 rintro _ ha ⟨rfl, b, k, har, hab, hak⟩
 refine hK1 _ ?_; clear hK1 K1 h1
 unfold rdrC vS vI vB at har
 generalize hnn : ([ndN] : List (List AV)) = nn at *
 unfold bkC ndCp vS vI vB nl s0 at hab
 simp only [List.cons_append, List.nil_append] at hab
 (repeat (first | refine gO rfl ?_ | ((first | refine gM zM37 ?_ | (with_reducible refine wM ?_ ?_) | ((with_reducible refine xS ?_); refine uD 5 zM37 zP11E zP11P 32 rfl (by kernel_rfl) ?_)) <;> ((try with_reducible intro K1 hK1); simp only [go_sem, ↓reduceIte, reduceCtorEq, nA, nB, nC, nD, nE, nF, Int.reduceBEq, Int.reduceTMod, Int.reduceTDiv, Int.reduceMul, Int.reduceBNe, Int.reduceLT, Int.reduceLE, Int.reduceAdd, Int.reduceSub, Int.reduceNeg, decide_true, decide_false, Bool.true_and, Bool.false_and, Bool.and_true, Bool.and_false, Bool.or_false, Bool.or_true, Bool.true_or, Bool.false_or, Bool.not_true, Bool.not_false, true_implies, false_implies, true_and, and_true, Int.reduceToNat, har, hab] <;> and_intros <;> first | (apply hK1; clear hK1 K1) | (intros; first | omega | decide) | skip)) | (refine awp_cond (t := _) rfl (fun hq => ?_) (fun hq => ?_) <;> first | (exact absurd hq (by decide)) | (cases hq; done) | (clear hq)) | (refine awp_un 8 ?_) | (with_reducible exact rfl) | (with_reducible exact trivial) | ((with_reducible show uside _); first | exact True.intro | exact rfl) | ((with_reducible show opS _ _); exact True.intro) | (refine ⟨AV.v (.bool true), rfl, hK1 _ ?_⟩; clear hK1 K1)))
 simp only [Tryz.results138, go_sem, ↓reduceIte, reduceCtorEq, nA, nB, nC, nD, nE, nF]
 exact ⟨_, _, Weak.tupW (Weak.row _ _ _), Hp.le.refl _, rfl⟩
open Go Go.RowKit
def fV : List Value := [.string sN, .int .i64 2, .string ⟨#[]⟩, .int .i64 5, .bool false, .slice none 0 0]
def fC : List AV := fV.map .v
theorem w_cmp (w : World) : Calls Tryz.prog 293 #[.agg #[.string sN, .int .i64 2, .string ⟨#[]⟩, .int .i64 5, .bool false, .slice none 0 0], .string sN] w fun e w' => e = .returned (.int .i64 0) ∧ Below w.heap.size w w' := by
 have HC := fun w => Tryz.strings_Compare sN sN w
 go_enter Tryz.func293, Tryz.ntmps293
 go_wp2_with fail
 refine (HC _).mono ?_
 rintro e w1 ⟨rfl, rfl⟩
 go_wp2_with fail
 go_ret
 exact ⟨rfl, bfirst _ _⟩
theorem w_search (b o c : Nat) (w : World) (hbl : b < w.heap.size) (h0 : ∀ j (hj : j < fV.length), w.cell? ⟨b, o + j, none⟩ = some fV[j]) :
  Calls Tryz.prog 292 #[.slice (some ⟨b, o, none⟩) 1 c, .string sN, .func (.func 293) #[] #[]] w fun e w' => e = .returned (.tuple #[.int .i64 0, .bool true]) ∧ Below w.heap.size w w' := by
 have c0 := h0 0 (by decide)
 have c1 := h0 1 (by decide)
 have c2 := h0 2 (by decide)
 have c3 := h0 3 (by decide)
 have c4 := h0 4 (by decide)
 have c5 := h0 5 (by decide)
 simp only [fV, List.getElem_cons_zero, List.getElem_cons_succ] at c0 c1 c2 c3 c4 c5
 have hcl : ∀ j v, j < 6 → w.cell? ⟨b, o + j, none⟩ = some v → ∀ wr, Below w.heap.size w wr → wr.cell? ⟨b, o + j, none⟩ = some v := fun j v _ hv wr hb => bold hb hv
 have HC := Lib.hid (show ∀ wr, Below w.heap.size w wr → b < wr.heap.size ∧ wr.cell? ⟨b, o, none⟩ = some (.string sN) ∧ wr.cell? ⟨b, o + 1, none⟩ = some (.int .i64 2) ∧ wr.cell? ⟨b, o + 2, none⟩ = some (.string ⟨#[]⟩) ∧ wr.cell? ⟨b, o + 3, none⟩ = some (.int .i64 5) ∧ wr.cell? ⟨b, o + 4, none⟩ = some (.bool false) ∧ wr.cell? ⟨b, o + 5, none⟩ = some (.slice none 0 0) from fun wr hb => ⟨Nat.lt_of_lt_of_le hbl hb.size, bold hb c0, bold hb c1, bold hb c2, bold hb c3, bold hb c4, bold hb c5⟩)
 have eg := enters_of Tryz.func293 (by kernel_rfl) rfl
 clear h0 c0 c1 c2 c3 c4 c5 hcl hbl
 go_enter Tryz.func292, Tryz.ntmps292
 go_wp2_with fail
 go_loopg [9, 10, 11] 1 (fun g s9 s10 _ wr => ∃ hi : Nat, s9 = .int .i64 0 ∧ s10 = .int .i64 hi ∧ hi ≤ 1 ∧ hi ≤ g ∧ Below w.heap.size w wr)
 case atStart => exact ⟨1, rfl, rfl, by omega, by omega, Below.refl _ _⟩
 case round =>
  obtain ⟨hi, rfl, rfl, h1, hg, hb⟩ := hrel
  obtain ⟨hbl, c0, c1, c2, c3, c4, c5⟩ := HC.out wr hb
  obtain rfl | rfl : hi = 0 ∨ hi = 1 := by omega
  ·go_wp2_with fail
   refine (w_cmp _).mono ?_
   rintro e w1 ⟨rfl, hb1⟩
   go_wp2_with fail
   go_ret2
   exact ⟨rfl, bon hb hb1⟩
  ·have hgk : gk ≠ 0 := by omega
   go_wp2_with fail
   refine (w_cmp _).mono ?_
   rintro e w1 ⟨rfl, hb1⟩
   go_wp2_with fail
   go_roundg 0
   case measure => omega
   case rel => exact ⟨0, rfl, rfl, by omega, by omega, bon hb hb1⟩
open Go.RowKit
theorem sizeBuilder : (Tryz.prog.info? 196).map (·.size) = some 2 := by kernel_rfl
section
variable {P : Program} {c : Cx} {Q : Exit → St → Prop} {s : St} {ty : Nat → Option TyD} {o : Oper}
end
def rowB (l : List UInt8) : List (List AV) := l.map fun x => [.v (.int .u8 (x.toNat : Int))]
theorem rowB_app (l : List UInt8) (s : ByteArray) : rowB l ++ strRow s = rowB (l ++ s.data.toList) := by simp [rowB, strRow]
theorem HSim.other {G : Gh} {h : Hp} {w w' : World} (hs : HSim G h w) {B : Nat} (hb : ∀ b, b ≠ B → w'.heap[b]? = w.heap[b]?) (hv : ∀ o, G.val B o = none) (hn : ¬ Own G h B) : HSim G h w' where
 val b o x e := by
  have hne : b ≠ B := fun e' => by subst e'; rw [hv] at e; cases e
  rw [cellT_at (hb b hne)]; exact hs.val b o x e
 obj j ob e := by
  obtain ⟨b, o', x, y, z⟩ := hs.obj j ob e
  have hne : b ≠ B := fun e' => hn (.inl ⟨j, by rw [e]; simp, by rw [← e']; exact x⟩)
  exact ⟨b, o', x, by rw [hb b hne]; exact y, z⟩
 inj := hs.inj
 tok k m e := by
  refine (hs.tok k m e).move (GLe.refl G) rfl fun t a => ⟨?_, fun _ => rfl⟩
  have hne : t.g ≠ B := fun e' => hn (.inr ⟨k, t, by rw [e]; simp, a, e'⟩)
  rw [hb _ hne]
 tinj := hs.tinj
 tobj := hs.tobj
 fat := hs.fat
 ftl := hs.ftl
theorem repB {G : Gh} {l : List UInt8} {vs : List Value} (h : RepL G (rowB l).flatten vs) : vs = Lib.byteCells l := by
 have hf : (rowB l).flatten = (Lib.byteCells l).map AV.v := by
  unfold rowB Lib.byteCells
  clear h
  induction l with
  | nil => rfl
  | cons x l ih => simp [ih]
 rw [hf] at h
 obtain ⟨h1, h2⟩ := h
 apply List.ext_getElem (by simpa using h1)
 intro j a b
 have h3 := (h2 j (by simpa using b) a).1
 simp only [List.getElem_map] at h3
 generalize vs[j] = y at h3
 cases h3; rfl
open Go
set_option linter.unusedVariables false
set_option linter.unusedSimpArgs false
open Nat renaming reduceAdd → nA, reduceSub → nB, reduceMul → nC, reduceLT → nD, reduceLeDiff → nE, reduceEqDiff → nF, reduceMod → nG, reduceDiv → nH, reducePow → nI
set_option maxRecDepth 100000
set_option maxHeartbeats 8000000
section
variable {P : Program} {c : Cx} {s : St} {ty : Nat → Option TyD} {o : Oper}
theorem a_boxObj {t : Nat} {x : Operand} (ho : o.op = .box t x) {cs : List AV} (hc : (s.ev x).cellsB = some cs) {K : St → Prop}
  (hK : ∀ i, s.h.H i = none → K ({ s with h := { s.h with H := upd s.h.H i (some (.obj t cs)) } }.put o.dst (.ptr i 0))) : Aop P c o s K := by
 rintro a w ⟨G, L, sm, hg, hf, hL⟩ Kc Qc hk
 have hr := cellsB_sound (sm.ev x) hc
 obtain ⟨hn, s1, g1, f1, e1⟩ := sm.newObj (y := .obj t cs) (o := .cells (a.eval x).cells.toList.toArray t) ⟨_, rfl, by simpa using hr⟩
 unfold Oper.wp
 have hrun : (execOp a.eval o).run P w = .ok (.value (.pointer (some ⟨w.heap.size, 0, none⟩))) (w.alloc (.cells (a.eval x).cells.toList.toArray t)) := by
  simp [execOp, ho, Instr.box, newVar, newRow]
 rw [hrun]
 exact hk _ _ _ (hK _ hn) (In.put s1 (hg.trans g1) (hf.trans f1) hL o.dst (RepT.of (.ptr _ 0 _ e1)))
end
open Go.RowKit in
theorem w_ccAt (b : Nat) (w : World) (n : Nat) (h0 : w.cell? ⟨b, 2, none⟩ = some (.pointer none)) (hsh : w.shape? b = some (198, 5)) (hfz : w.frozen? ⟨b, 2, none⟩ = false) :
  Calls Tryz.prog 290 #[.pointer (some ⟨b, 2, none⟩)] w fun e w' => e = .returned (.tuple #[]) ∧ w' = w.setCell ⟨b, 2, none⟩ (.pointer (some ⟨b, 2, none⟩)) := by
 obtain ⟨j, hj, hjs⟩ := Option.map_eq_some_iff.1 sizeBuilder
 go_enter Tryz.func290, Tryz.ntmps290
 go_wp2
 rw [Lib.run_to_unsafe w ⟨b, 2, none⟩ Tryz.underlying193 Tryz.underlying387 hj (by rw [hjs]; decide) hsh (by show 2 < 5; omega)]
 simp only [Result.andThen]
 rw [Oper.upon_value]
 go_wp2
 rw [run_callFunc_extern Tryz.func319 (by kernel_rfl) (by kernel_rfl) (by kernel_rfl) (e := Extern.AbiNoEscape.same) (by kernel_rfl)]
 rw [Lib.run_noEscape]
 simp only [Result.andThen]
 rw [Oper.upon_value]
 go_wp2
 rw [Lib.run_from_unsafe w ⟨b, 2, none⟩ Tryz.underlying387 Tryz.underlying193 hj hsh (by kernel_rfl)]
 simp only [Result.andThen]
 rw [Oper.upon_value]
 go_wp2
 go_end0
 exact ⟨rfl, rfl⟩
theorem five_cells {G : Gh} {A B C D E : AV} {vs : Array Value} (h : RepL G [A, B, C, D, E] vs.toList) : ∃ a b c d e, vs = #[a, b, c, d, e] ∧ Rep G A a ∧ Rep G B b ∧ Rep G C c ∧ Rep G D d ∧ Rep G E e ∧ a.oneCell' = true ∧ b.oneCell' = true ∧ d.oneCell' = true ∧ e.oneCell' = true := by
 obtain ⟨h1, h2⟩ := h
 have hs : vs.size = 5 := by simpa using h1
 refine ⟨vs[0], vs[1], vs[2], vs[3], vs[4], ?_, ?_⟩
 ·apply Array.ext (by simpa using hs)
  intro j a b
  have : j = 0 ∨ j = 1 ∨ j = 2 ∨ j = 3 ∨ j = 4 := by simp at b; omega
  rcases this with rfl | rfl | rfl | rfl | rfl <;> rfl
 ·have a0 := h2 0 (by simp) (by simp; omega)
  have a1 := h2 1 (by simp) (by simp; omega)
  have a2 := h2 2 (by simp) (by simp; omega)
  have a3 := h2 3 (by simp) (by simp; omega)
  have a4 := h2 4 (by simp) (by simp; omega)
  simp only [List.getElem_cons_zero, List.getElem_cons_succ, Array.getElem_toList] at a0 a1 a2 a3 a4
  exact ⟨a0.1, a1.1, a2.1, a3.1, a4.1, a0.2, a1.2, a3.2, a4.2⟩
theorem one_ptrAt {G : Gh} {b o : Nat} {vs : Array Value} (hv : vs.size = 1) (ha : ∀ j (hj : j < [AV.ptr b o].length), Rep G [AV.ptr b o][j] (vs.getD j undef)) : ∃ p, vs = #[.pointer (some ⟨p, o, none⟩)] ∧ G.at_ b = some p := by
 have hr := ha 0 (by simp)
 have hvs : vs = #[vs.getD 0 undef] := by
  apply Array.ext (by simpa using hv)
  intro j hj hj'
  simp only [List.size_toArray, List.length_cons, List.length_nil] at hj'
  obtain rfl : j = 0 := by omega
  simp [Array.getD, hv]
 rw [hvs]
 generalize vs.getD 0 undef = v at hr
 simp only [List.getElem_cons_zero] at hr
 cases hr with
 | ptr _ _ p hat => exact ⟨p, rfl, hat⟩
theorem g_ccAt (b : Nat) (D R Y I : AV) (h : Hp) (hb : h.H b = some (.obj 198 [D, R, .v (.pointer none), Y, I])) :
  ACalls Tryz.prog 290 [.ptr b 2] h (fun r h' => r = .tup [] ∧ h' = { h with H := upd h.H b (some (.obj 198 [D, R, .ptr b 2, Y, I])) }) := by
 refine acalls_mk (by kernel_rfl) fun G w vs hs hv ha => ?_
 obtain ⟨p, rfl, hat⟩ := one_ptrAt hv ha
 obtain ⟨p', ob, e', hh, ⟨us, rfl, hrr⟩, hval⟩ := hs.obj b _ hb
 rw [hat] at e'; cases e'
 obtain ⟨d, r, x, y, i, rfl, hd, hrw, hx, hy, hi, od, orr, oy, oi⟩ := five_cells hrr
 have hO : Own G h p := .inl ⟨b, by rw [hb]; simp, hat⟩
 have hre : RepL G [D, R, .ptr b 2, Y, I] [d, r, .pointer (some ⟨p, 2, none⟩), y, i] :=
  RepL.cons hd od (RepL.cons hrw orr (RepL.cons (.ptr b 2 p hat) rfl (RepL.cons hy oy (RepL.cons hi oi (RepL.nil G)))))
 obtain rfl : x = .pointer none := (RepT.of (L := []) hx).v_inv
 have hc0 : w.cell? ⟨p, 2, none⟩ = some (.pointer none) := by simp [World.cell?, hh]
 refine (w_ccAt p w 0 hc0 (by simp [World.shape?, hh]) (by simp [World.frozen?, hh])).mono ?_
 rintro e w' ⟨rfl, rfl⟩
 have hh' : (w.setCell ⟨p, 2, none⟩ (.pointer (some ⟨p, 2, none⟩))).heap[p]? = some (.cells #[d, r, .pointer (some ⟨p, 2, none⟩), y, i] 198 (0, 0)) := by
  exact heap_setCell_same w p 2 _ _ _ hh
 have hoth : ∀ q, q ≠ p → (w.setCell ⟨p, 2, none⟩ (.pointer (some ⟨p, 2, none⟩))).heap[q]? = w.heap[q]? := fun q hq => heap_setCell_other w _ q _ hq
 refine ⟨_, rfl, .tup [], _, G, ⟨rfl, rfl⟩, GLe.refl _, ?_, hs.setObj hb hat hoth hh' ⟨_, rfl, hre⟩, .tup [] #[] (fun _ => undef) rfl (fun j hj => by simp at hj) (fun j hj => by simp at hj)⟩
 exact ⟨rfl, rfl, rfl, by simp [World.setCell], fun q hlt hn => ⟨hoth q (fun e => hn (e ▸ hO)), fun o' => hn ((own_updH hb).1 o'), fun _ => rfl⟩⟩
theorem g_writeAt (b k : Nat) (D R I : AV) (s : ByteArray) (h : Hp) (hb : h.H b = some (.obj 198 [D, R, .v (.pointer none), .arr 1 k 0, I])) (hT : h.T k = some (.buf 5 (rowB []))) (hbig : s.size ≤ 1000000000) :
  ACalls Tryz.prog 258 [.ptr b 2, .v (.string s)] h (fun r h' => r = .tup [.v (.int .i64 s.size), .v .nilIface] ∧ h' = ⟨upd h.H b (some (.obj 198 [D, R, .ptr b 2, .arr 1 k s.size, I])), upd h.T k (some (.buf 5 (rowB s.data.toList)))⟩) := by
 have hl : (rowB []).length = 0 := rfl
 have ha : rowB [] ++ strRow s = rowB s.data.toList := rowB_app [] s
 rw [← ha]
 generalize rowB [] = bs at *
 refine gE Tryz.func258 rfl (by kernel_rfl) 17 rfl fun c => ?_
 (repeat (first | refine gO rfl ?_ | (refine gR fun K1 hK1 => ?_; simp only [go_sem, ↓reduceIte, reduceCtorEq, nA, nB, nC, nD, nE, nF] <;> and_intros <;> first | (apply hK1; clear hK1 K1) | (intros; first | omega | decide | (simp_all <;> omega)) | skip)))
 refine (g_ccAt b D R _ I h hb).mono ?_; rintro _ hz ⟨rfl, hh⟩; apply hK1; clear hK1 K1; rw [hh]; clear hh hz
 (repeat (first | refine gO rfl ?_ | (refine gR fun K1 hK1 => ?_; simp only [go_sem, ↓reduceIte, reduceCtorEq, nA, nB, nC, nD, nE, nF, upd_same, hT] <;> and_intros <;> first | (apply hK1; clear hK1 K1) | (intros; first | omega | decide | (simp_all <;> omega)) | skip)))
 simp only [Tryz.results258, go_sem, ↓reduceIte, reduceCtorEq, nA, nB, nC, nD, nE, nF]
 exact ⟨_, _, Weak.refl _, Hp.le.refl _, rfl, by simp only [Nat.zero_add]⟩
open Go.RowKit in
theorem w_strAt (b g cap : Nat) (cur : Array Value) (d r p i : Value) (l : List UInt8) (w : World) (h0 : l ≠ []) (hbk : w.heap[b]? = some (.cells #[d, r, p, .slice (some ⟨g, 0, none⟩) l.length cap, i] 198 (0, 0))) (hg : w.heap[g]? = some (.cells cur 5 (0, 0)))
  (hnc : l.length ≤ cap) (hcm : cap ≤ maxLen) (hcs : cur.size = cap) (htake : cur.toList.take l.length = Lib.byteCells l) :
  Calls Tryz.prog 141 #[.pointer (some ⟨b, 2, none⟩)] w fun e w' => e = .returned (.string ⟨l.toArray⟩) ∧ w' = w.drew.freeze ⟨g, 0, none⟩ l.length := by
 have hl0 : l.length ≠ 0 := by simpa using h0
 have c1 : w.drew.cell? ⟨b, 3, none⟩ = some (.slice (some ⟨g, 0, none⟩) l.length cap) := by
  have : w.drew.heap[b]? = some (.cells #[d, r, p, .slice (some ⟨g, 0, none⟩) l.length cap, i] 198 (0, 0)) := hbk
  rw [Lib.cell_of_heap this]; rfl
 have hSD : (Builtin.unsafeSliceData_ #[194] 256 #[.slice (some ⟨g, 0, none⟩) l.length cap]).run Tryz.prog w.drew = .ok (.pointer (some ⟨g, 0, none⟩)) w.drew :=
  Lib.run_unsafeSliceData_row _ _ _ _ _ _ (by omega)
 have hUS : (Builtin.unsafeString_ #[256, 3] 9 #[.pointer (some ⟨g, 0, none⟩), .int .i64 l.length]).run Tryz.prog w.drew = .ok (.string ⟨l.toArray⟩) (w.drew.freeze ⟨g, 0, none⟩ l.length) := by
  refine Lib.run_unsafeString_row w.drew 256 3 9 5 Tryz.underlying256 (by kernel_rfl) g cur.size (by have hg' : w.drew.heap[g]? = some (.cells cur 5 (0, 0)) := hg; simp [World.shape?, hg']) l h0 (by omega) (by unfold maxLen at hcm; omega) ?_
  intro j x hx
  have hg' : w.drew.heap[g]? = some (.cells cur 5 (0, 0)) := hg
  have h1 : (cur.toList.take l.length)[j]? = some (.int .u8 x.toNat) := by rw [htake]; simp [Lib.byteCells, hx]
  rw [Addr.add_lit, Nat.zero_add, Lib.cell_of_heap hg']
  rw [List.getElem?_take] at h1
  split at h1
  ·simpa using h1
  ·cases h1
 have mixed : Tryz.prog.follows .mixedOrders = true := by kernel_rfl
 go_enter Tryz.func141, Tryz.ntmps141
 go_wp2
 go_region_o
 all_goals (go_wp2; go_ret; exact ⟨rfl, rfl⟩)
theorem g_strAt (b k : Nat) (D R X I : AV) (l : List UInt8) (h : Hp) (hb : h.H b = some (.obj 198 [D, R, X, .arr 1 k l.length, I])) (hT : h.T k = some (.buf 5 (rowB l))) (h0 : l ≠ []) :
  ACalls Tryz.prog 141 [.ptr b 2] h (fun r h' => r = .v (.string ⟨l.toArray⟩) ∧ h' = ⟨upd h.H b none, upd h.T k none⟩) := by
 refine acalls_mk (by kernel_rfl) fun G w vs hs hv ha => ?_
 obtain ⟨p, rfl, hat⟩ := one_ptrAt hv ha
 obtain ⟨p', ob, e', hh, ⟨us, rfl, hrr⟩, hval⟩ := hs.obj b _ hb
 rw [hat] at e'; cases e'
 obtain ⟨d, r, x, y, i, rfl, hd, hrw, hx, hy, hi, od, orr, oy, oi⟩ := five_cells hrr
 have hrl : (rowB l).length = l.length := by simp [rowB]
 have hne : rowB l ≠ [] := fun e => h0 (by rw [e] at hrl; exact List.eq_nil_of_length_eq_zero hrl.symm)
 rcases hs.tok k _ hT with ⟨_, e1⟩ | ⟨tt, cur, htl, htm, htp, hth, hts, htc, htcm, htf, htz, hzx, htr⟩
 ·exact absurd e1 hne
 cases hy with
 | arr _ _ _ q m c ho =>
 obtain ⟨_, ⟨q', c', e2, _, _⟩, hm⟩ := ho
 rw [htl] at hm
 obtain ⟨hxe, _⟩ := hm.2 (by rw [htm, hrl])
 simp only [Value.slice.injEq] at hxe e2
 obtain ⟨rfl, rfl, rfl⟩ := hxe
 have hfl : (rowB l).flatten.length = l.length := by rw [flatten_len hzx, hrl, Nat.mul_one]
 rw [hfl] at htr
 refine (w_strAt p tt.g tt.c cur d r x i l w h0 hh hth (by omega) htcm (by rw [hts, htz, Nat.mul_one]) (repB htr)).mono ?_
 rintro e w' ⟨rfl, rfl⟩
 have hbel : RowKit.Below tt.g w (w.drew.freeze ⟨tt.g, 0, none⟩ l.length) := Lib.below_freeze (RowKit.Below.drew (RowKit.Below.refl tt.g w)) (p := ⟨tt.g, 0, none⟩) (Nat.le_refl _) _
 have hoth : ∀ q, q ≠ tt.g → (w.drew.freeze ⟨tt.g, 0, none⟩ l.length).heap[q]? = w.heap[q]? := fun q hq => by
  unfold World.freeze
  split
  ·rfl
  ·show (w.drew.heap.modify tt.g _)[q]? = _
   rw [Array.getElem?_modify, if_neg (fun e => hq e.symm)]; rfl
 have hle : Hp.le ⟨upd h.H b none, upd h.T k none⟩ h := ⟨fun i => by
  by_cases e : i = b
  ·left; rw [e]; exact upd_same _ _ _
  ·right; exact upd_other _ _ e, fun i => by
  by_cases e : i = k
  ·left; rw [e]; exact upd_same _ _ _
  ·right; exact upd_other _ _ e⟩
 have hnO : ¬ Own G ⟨upd h.H b none, upd h.T k none⟩ tt.g := by
  rintro (⟨i, a, e⟩ | ⟨k2, t2, a, e, eg⟩)
  ·exact hs.tobj k i tt (by rw [hT]; simp) (hle.Hne a) htl e
  ·have := hs.tinj k2 k t2 tt (hle.Tne a) (by rw [hT]; simp) e htl eg
   subst this
   exact a (upd_same _ _ _)
 have hO : Own G h tt.g := .inr ⟨k, tt, by rw [hT]; simp, htl, rfl⟩
 refine ⟨_, rfl, .v (.string ⟨l.toArray⟩), _, G, ⟨rfl, rfl⟩, GLe.refl _, ?_, (hs.less hle).other hoth htf hnO, .v _ rfl⟩
 exact ⟨hbel.os, hbel.tape, hbel.output, hbel.size, fun q hlt hn => ⟨hoth q (fun e => hn (e ▸ hO)), fun o' => hn (hle.own o'), fun _ => rfl⟩⟩
open Go
set_option linter.unusedVariables false
set_option linter.unusedSimpArgs false
theorem g_itoa (n : Nat) (hn : n < 100) (h : Hp) : ACalls Tryz.prog 299 [.v (.int .i64 n)] h (fun r h' => r = .v (.string ⟨(Lib.decDigits n).toArray⟩) ∧ h' = h) := by
 refine acalls_mk (by kernel_rfl) fun G w vs hs hv ha => ?_
 have hr := ha 0 (by simp)
 have hvs : vs = #[vs.getD 0 undef] := by
  have hv1 : vs.size = 1 := hv
  apply Array.ext (by simpa using hv1)
  intro j hj hj'
  simp only [List.size_toArray, List.length_cons, List.length_nil] at hj'
  obtain rfl : j = 0 := by omega
  simp [Array.getD, hv1]
 rw [hvs]
 generalize vs.getD 0 undef = v at hr
 simp only [List.getElem_cons_zero] at hr
 cases hr
 refine (Tryz.strconv_Itoa_small n hn w).mono ?_
 rintro e w' ⟨rfl, rfl⟩
 exact ⟨_, rfl, .v (.string ⟨(Lib.decDigits n).toArray⟩), h, G, ⟨rfl, rfl⟩, GLe.refl _, Fr.refl _ _ _, hs, .v _ rfl⟩
open Nat renaming reduceAdd → nA, reduceSub → nB, reduceMul → nC, reduceLT → nD, reduceLeDiff → nE, reduceEqDiff → nF, reduceMod → nG, reduceDiv → nH, reducePow → nI
abbrev zP12E : List Nat := [0, 1, 2, 3, 4, 6, 7]
abbrev zP12P : List (Nat × List Nat × List Nat) := [(5, [], []), (8, [], [9, 10, 11, 12])]
abbrev zP13E : List Nat := [0, 1, 2, 3, 4, 6, 7, 10, 11, 13, 14]
abbrev zP13P : List (Nat × List Nat × List Nat) := [(5, [], []), (8, [], [9]), (12, [], []), (15, [], [16, 17, 18, 19, 20])]
abbrev zP14E : List Nat := [0, 1, 2, 3, 4, 5, 6, 7, 8, 9, 10, 11, 12, 13, 14, 15, 16]
abbrev zP14P : List (Nat × List Nat × List Nat) := []
abbrev zP15E : List Nat := [0, 1, 2, 3, 4, 5, 6, 7, 8, 9, 10, 11, 12, 13, 14, 15, 16, 17, 18, 19, 20, 21, 22, 23, 24, 25, 26]
abbrev zP15P : List (Nat × List Nat × List Nat) := []
abbrev zP16E : List Nat := [0, 1, 2, 3, 4, 5, 6, 7, 8, 9, 10, 11, 12, 13, 14, 15, 16, 17, 18, 19, 20, 21, 22, 23, 24, 25, 26, 27, 28, 29, 30, 31, 32, 33, 34, 35, 36]
abbrev zP16P : List (Nat × List Nat × List Nat) := []
abbrev zP17E : List Nat := [0, 1, 2, 3, 4, 5, 6, 7, 8, 9, 10, 11, 12]
abbrev zP17P : List (Nat × List Nat × List Nat) := []
abbrev zP18E : List Nat := [0, 1, 2, 8]
abbrev zP18P : List (Nat × List Nat × List Nat) := [(3, [1], [4, 5, 6]), (7, [], [9]), (10, [], [])]
attribute [go_sem] zP12E zP12P zP13E zP13P zP14E zP14P zP15E zP15P zP16E zP16P zP17E zP17P zP18E zP18P
set_option maxRecDepth 100000
set_option maxHeartbeats 8000000
theorem repL_v_inv {G : Gh} {l us : List Value} (h : RepL G (l.map AV.v) us) : us = l := by
 obtain ⟨h1, h2⟩ := h
 apply List.ext_getElem (by simpa using h1)
 intro j a b
 have h3 := (h2 j (by simpa using b) a).1
 simp only [List.getElem_map] at h3
 generalize us[j] = y at h3
 cases h3; rfl
theorem c_search (h : Hp) : ACalls Tryz.prog 292 [.row 6 [fC] none, .v (.string sN), .fn 293 []] h (fun r h' => r = .tup [.v (.int .i64 0), .v (.bool true)] ∧ h' = h) := by
 refine acalls_mk (by kernel_rfl) fun G w vs hs hv ha => ?_
 have hv3 : vs.size = 3 := hv
 have r0 := ha 0 (by simp)
 have r1 := ha 1 (by simp)
 have r2 := ha 2 (by simp)
 have hvs : vs = #[vs.getD 0 undef, vs.getD 1 undef, vs.getD 2 undef] := by
  apply Array.ext (by simpa using hv3)
  intro j hj hj'
  simp only [List.size_toArray, List.length_cons, List.length_nil] at hj'
  have : j = 0 ∨ j = 1 ∨ j = 2 := by omega
  rcases this with rfl | rfl | rfl <;> simp [Array.getD, hv3]
 rw [hvs]
 generalize vs.getD 0 undef = v0 at *
 generalize vs.getD 1 undef = v1 at *
 generalize vs.getD 2 undef = v2 at *
 simp only [List.getElem_cons_zero, List.getElem_cons_succ] at r0 r1 r2
 cases r1
 cases r2 with | fn _ _ cvs u hl hu hr =>
 obtain rfl : cvs = #[] := Array.eq_empty_of_size_eq_zero hl
 rcases Rep.row_inv r0 with ⟨a, _, e⟩ | ⟨g, o, c, us, rfl, hc, hz, hru, hu2⟩
 ·cases e
 ·have hus : us = fV := repL_v_inv (by simpa [fC] using hru)
  subst hus
  have hcell : ∀ j (hj : j < fV.length), w.cell? ⟨g, o + j, none⟩ = some fV[j] := fun j hj => hs.cell _ _ _ (hu2 j _ (List.getElem?_eq_getElem hj))
  refine (w_search g o c w (World.block_lt_of_cell? w _ (hcell 0 (by decide))) hcell).mono ?_
  rintro e w' ⟨rfl, hb⟩
  have hb' : ∀ b, b < w.heap.size → w'.heap[b]? = w.heap[b]? := fun b hb2 => hb.block b hb2
  refine ⟨_, rfl, _, h, G, ⟨rfl, rfl⟩, GLe.refl _, Fr.below (Fr.refl _ _ _) hb' hb.os hb.tape hb.output hb.size, hs.below hb', ?_⟩
  refine .tup _ _ (fun j => [Value.int .i64 0, Value.bool true].getD j undef) rfl (fun j hj => ?_) (fun j hj => ?_)
  ·have : j = 0 ∨ j = 1 := by simp at hj; omega
   rcases this with rfl | rfl <;> rfl
  ·have : j = 0 ∨ j = 1 := by simp at hj; omega
   rcases this with rfl | rfl <;> exact .v _ rfl
theorem c_valid0 (h : Hp) : ACalls Tryz.prog 256 [.v (.string ⟨#[]⟩)] h (fun r h' => r = .v (.bool true) ∧ h' = h) := by
 have z : ((⟨#[]⟩ : ByteArray).size : Int) = 0 := rfl
 refine gE Tryz.func256 rfl (by kernel_rfl) 168 rfl fun c => ?_
 (repeat (first | refine gO rfl ?_ | ((first | refine gM zM38 ?_ | (with_reducible refine wM ?_ ?_) | ((with_reducible refine xS ?_); refine uD 7 zM38 zP12E zP12P 169 rfl (by kernel_rfl) ?_) | ((with_reducible refine xS ?_); refine uD 9 zM38 zP13E zP13P 169 rfl (by kernel_rfl) ?_) | ((with_reducible refine xS ?_); refine uD 17 zM38 zP14E zP14P 169 rfl (by kernel_rfl) ?_) | ((with_reducible refine xS ?_); refine uD 21 zM38 zP15E zP15P 169 rfl (by kernel_rfl) ?_) | ((with_reducible refine xS ?_); refine uD 25 zM38 zP16E zP16P 169 rfl (by kernel_rfl) ?_)) <;> ((try with_reducible intro K1 hK1); simp only [go_sem, ↓reduceIte, reduceCtorEq, nA, nB, nC, nD, nE, nF, Int.reduceBEq, Int.reduceTMod, Int.reduceTDiv, Int.reduceMul, Int.reduceBNe, Int.reduceLT, Int.reduceLE, Int.reduceAdd, Int.reduceSub, Int.reduceNeg, decide_true, decide_false, Bool.true_and, Bool.false_and, Bool.and_true, Bool.and_false, Bool.or_false, Bool.or_true, Bool.true_or, Bool.false_or, Bool.not_true, Bool.not_false, true_implies, false_implies, true_and, and_true, Int.reduceToNat, z] <;> and_intros <;> first | (apply hK1; clear hK1 K1) | (intros; first | omega | decide) | skip)) | (refine awp_cond (t := _) rfl (fun hq => ?_) (fun hq => ?_) <;> first | (exact absurd hq (by decide)) | (cases hq; done) | (clear hq)) | (refine awp_un 8 ?_) | (with_reducible exact rfl) | (with_reducible exact trivial) | ((with_reducible show uside _); first | exact True.intro | exact rfl) | ((with_reducible show opS _ _); exact True.intro) | (refine ⟨AV.v (.bool true), rfl, hK1 _ ?_⟩; clear hK1 K1)))
 simp only [Tryz.results256, go_sem, ↓reduceIte, reduceCtorEq, nA, nB, nC, nD, nE, nF]
 exact ⟨_, _, Weak.refl _, Hp.le.refl _, rfl, rfl⟩
theorem fC_eq : fC = [.v (.string sN), .v (.int .i64 2), .v (.string ⟨#[]⟩), .v (.int .i64 5), .v (.bool false), .v (.slice none 0 0)] := rfl
theorem e00 : ((⟨#[]⟩ : ByteArray) == ⟨#[]⟩) = true := by decide
theorem c_idle (h : Hp) : ACalls Tryz.prog 255 [.agg fC] h (fun r h' => r = .v (.bool true) ∧ h' = h) := by
 rw [fC_eq]
 refine gE Tryz.func255 rfl (by kernel_rfl) 41 rfl fun c => ?_
 (repeat (first | refine gO rfl ?_ | (refine gR fun K1 hK1 => ?_; simp only [go_sem, ↓reduceIte, reduceCtorEq, nA, nB, nC, nD, nE, nF, Int.reduceBEq, Int.reduceTMod, Int.reduceTDiv, Int.reduceMul, Int.reduceBNe, Int.reduceLT, Int.reduceLE, Int.reduceAdd, Int.reduceSub, Int.reduceNeg, decide_true, decide_false, Bool.true_and, Bool.false_and, Bool.and_true, Bool.and_false, Bool.or_false, Bool.or_true, Bool.true_or, Bool.false_or, Bool.not_true, Bool.not_false, true_implies, false_implies, true_and, and_true, Int.reduceToNat, e00] <;> and_intros <;> first | (apply hK1; clear hK1 K1) | (intros; first | omega | decide) | skip) | (refine awp_cond (t := _) rfl (fun hq => ?_) (fun hq => ?_) <;> first | (exact absurd hq (by decide)) | (cases hq; done) | (clear hq)) | (refine awp_un 8 ?_) | (with_reducible exact rfl) | (with_reducible exact trivial) | ((with_reducible show uside _); first | exact True.intro | exact rfl) | ((with_reducible show opS _ _); exact True.intro) | (refine ⟨AV.v (.bool true), rfl, hK1 _ ?_⟩; clear hK1 K1)))
 simp only [Tryz.results255, go_sem, ↓reduceIte, reduceCtorEq, nA, nB, nC, nD, nE, nF]
 exact ⟨_, _, Weak.refl _, Hp.le.refl _, rfl, rfl⟩
theorem c_fieldFault (h : Hp) : ACalls Tryz.prog 213 [.agg fC, .v (.int .i64 0)] h (fun r h' => r = .v (.int .i64 0) ∧ h' = h) := by
 have h1 := fun h => a_outside 2 1 4 h
 have h2 := fun h => c_idle h
 have h3 := fun h => c_valid0 h
 have h4 := fun h => a_outside 5 (-1000000000) 1000000000 h
 have z : ((⟨#[]⟩ : ByteArray).size : Int) = 0 := rfl
 have z2 : ((#[] : Array UInt8).size : Int) = 0 := rfl
 rw [fC_eq] at *
 refine gE Tryz.func213 rfl (by kernel_rfl) 59 rfl fun c => ?_
 (repeat (first | refine gO rfl ?_ | (refine gR fun K1 hK1 => ?_; simp only [go_sem, ↓reduceIte, reduceCtorEq, nA, nB, nC, nD, nE, nF, Int.reduceBEq, Int.reduceTMod, Int.reduceTDiv, Int.reduceMul, Int.reduceBNe, Int.reduceLT, Int.reduceLE, Int.reduceAdd, Int.reduceSub, Int.reduceNeg, decide_true, decide_false, Bool.true_and, Bool.false_and, Bool.and_true, Bool.and_false, Bool.or_false, Bool.or_true, Bool.true_or, Bool.false_or, Bool.not_true, Bool.not_false, true_implies, false_implies, true_and, and_true, Int.reduceToNat, z, z2] <;> and_intros <;> first | (apply hK1; clear hK1 K1) | (intros; first | omega | decide) | skip) | (refine awp_cond (t := _) rfl (fun hq => ?_) (fun hq => ?_) <;> first | (exact absurd hq (by decide)) | (cases hq; done) | (clear hq)) | (refine awp_un 8 ?_) | (with_reducible exact rfl) | (with_reducible exact trivial) | ((with_reducible show uside _); first | exact True.intro | exact rfl) | ((with_reducible show opS _ _); exact True.intro) | (refine ⟨AV.v (.bool true), rfl, hK1 _ ?_⟩; clear hK1 K1) | (refine (h1 _).mono ?_; rintro _ hz ⟨rfl, hh⟩; (first | (refine hK1 _ ?_) | (refine ⟨rfl, hK1 _ ?_⟩)); clear hK1 K1; rw [hh]; clear hh hz) | (refine (h2 _).mono ?_; rintro _ hz ⟨rfl, hh⟩; (first | (refine hK1 _ ?_) | (refine ⟨rfl, hK1 _ ?_⟩)); clear hK1 K1; rw [hh]; clear hh hz) | (refine (h3 _).mono ?_; rintro _ hz ⟨rfl, hh⟩; (first | (refine hK1 _ ?_) | (refine ⟨rfl, hK1 _ ?_⟩)); clear hK1 K1; rw [hh]; clear hh hz) | (refine (h4 _).mono ?_; rintro _ hz ⟨rfl, hh⟩; (first | (refine hK1 _ ?_) | (refine ⟨rfl, hK1 _ ?_⟩)); clear hK1 K1; rw [hh]; clear hh hz)))
 simp only [Tryz.results213, go_sem, ↓reduceIte, reduceCtorEq, nA, nB, nC, nD, nE, nF]
 exact ⟨_, _, Weak.refl _, Hp.le.refl _, rfl, rfl⟩
theorem c_dataFault (h : Hp) : ACalls Tryz.prog 177 [.row 6 [fC] none, .v (.int .i64 0)] h (fun r h' => r = .v (.int .i64 0) ∧ h' = h) := by
 have h1 := fun h => c_isName h
 have h2 := fun h => c_fieldFault h
 rw [fC_eq] at *
 refine gE Tryz.func177 rfl (by kernel_rfl) 40 rfl fun c => ?_
 (repeat (first | refine gO rfl ?_ | ((first | refine gM zM38 ?_ | (with_reducible refine wM ?_ ?_) | ((with_reducible refine xS ?_); refine uD 8 zM38 zP17E zP17P 42 rfl (by kernel_rfl) ?_)) <;> ((try with_reducible intro K1 hK1); simp only [go_sem, ↓reduceIte, reduceCtorEq, nA, nB, nC, nD, nE, nF, Int.reduceBEq, Int.reduceTMod, Int.reduceTDiv, Int.reduceMul, Int.reduceBNe, Int.reduceLT, Int.reduceLE, Int.reduceAdd, Int.reduceSub, Int.reduceNeg, decide_true, decide_false, Bool.true_and, Bool.false_and, Bool.and_true, Bool.and_false, Bool.or_false, Bool.or_true, Bool.true_or, Bool.false_or, Bool.not_true, Bool.not_false, true_implies, false_implies, true_and, and_true, Int.reduceToNat] <;> and_intros <;> first | (apply hK1; clear hK1 K1) | (intros; first | omega | decide) | skip)) | (refine awp_cond (t := _) rfl (fun hq => ?_) (fun hq => ?_) <;> first | (exact absurd hq (by decide)) | (cases hq; done) | (clear hq)) | (refine awp_un 8 ?_) | (with_reducible exact rfl) | (with_reducible exact trivial) | ((with_reducible show uside _); first | exact True.intro | exact rfl) | ((with_reducible show opS _ _); exact True.intro) | (refine ⟨AV.v (.bool true), rfl, hK1 _ ?_⟩; clear hK1 K1) | (refine (h1 _).mono ?_; rintro _ hz ⟨rfl, hh⟩; (first | (refine hK1 _ ?_) | (refine ⟨rfl, hK1 _ ?_⟩)); clear hK1 K1; rw [hh]; clear hh hz) | (refine (h2 _).mono ?_; rintro _ hz ⟨rfl, hh⟩; (first | (refine hK1 _ ?_) | (refine ⟨rfl, hK1 _ ?_⟩)); clear hK1 K1; rw [hh]; clear hh hz)))
 simp only [Tryz.results177, go_sem, ↓reduceIte, reduceCtorEq, nA, nB, nC, nD, nE, nF]
 exact ⟨_, _, Weak.refl _, Hp.le.refl _, rfl, rfl⟩
theorem c_checkData (h : Hp) : ACalls Tryz.prog 139 [.row 6 [fC] none] h (fun r h' => r = .v (.int .i64 0) ∧ h' = h) := by
 have h2 := fun h => c_dataFault h
 rw [fC_eq] at *
 refine gE Tryz.func139 rfl (by kernel_rfl) 4 rfl fun c => ?_
 (repeat (first | refine gO rfl ?_ | (refine gR fun K1 hK1 => ?_; simp only [go_sem, ↓reduceIte, reduceCtorEq, nA, nB, nC, nD, nE, nF, Int.reduceBEq, Int.reduceTMod, Int.reduceTDiv, Int.reduceMul, Int.reduceBNe, Int.reduceLT, Int.reduceLE, Int.reduceAdd, Int.reduceSub, Int.reduceNeg, decide_true, decide_false, Bool.true_and, Bool.false_and, Bool.and_true, Bool.and_false, Bool.or_false, Bool.or_true, Bool.true_or, Bool.false_or, Bool.not_true, Bool.not_false, true_implies, false_implies, true_and, and_true, Int.reduceToNat] <;> and_intros <;> first | (apply hK1; clear hK1 K1) | (intros; first | omega | decide) | skip) | (refine awp_cond (t := _) rfl (fun hq => ?_) (fun hq => ?_) <;> first | (exact absurd hq (by decide)) | (cases hq; done) | (clear hq)) | (refine awp_un 8 ?_) | (with_reducible exact rfl) | (with_reducible exact trivial) | ((with_reducible show uside _); first | exact True.intro | exact rfl) | ((with_reducible show opS _ _); exact True.intro) | (refine ⟨AV.v (.bool true), rfl, hK1 _ ?_⟩; clear hK1 K1) | (refine (h2 _).mono ?_; rintro _ hz ⟨rfl, hh⟩; (first | (refine hK1 _ ?_) | (refine ⟨rfl, hK1 _ ?_⟩)); clear hK1 K1; rw [hh]; clear hh hz)))
 simp only [Tryz.results139, go_sem, ↓reduceIte, reduceCtorEq, nA, nB, nC, nD, nE, nF]
 exact ⟨_, _, Weak.refl _, Hp.le.refl _, rfl, rfl⟩
theorem c_fieldAt (h : Hp) : ACalls Tryz.prog 260 [.row 6 [fC] none, .v (.string sN)] h (fun r h' => r = .tup [.agg fC, .v (.bool true)] ∧ h' = h) := by
 have h2 := fun h => c_search h
 rw [fC_eq] at *
 refine gE Tryz.func260 rfl (by kernel_rfl) 19 rfl fun c => ?_
 (repeat (first | refine gO rfl ?_ | (refine gM zM34 fun K1 hK1 => ?_; simp only [go_sem, ↓reduceIte, reduceCtorEq, nA, nB, nC, nD, nE, nF, Int.reduceBEq, Int.reduceTMod, Int.reduceTDiv, Int.reduceMul, Int.reduceBNe, Int.reduceLT, Int.reduceLE, Int.reduceAdd, Int.reduceSub, Int.reduceNeg, decide_true, decide_false, Bool.true_and, Bool.false_and, Bool.and_true, Bool.and_false, Bool.or_false, Bool.or_true, Bool.true_or, Bool.false_or, Bool.not_true, Bool.not_false, true_implies, false_implies, true_and, and_true, Int.reduceToNat] <;> and_intros <;> first | (apply hK1; clear hK1 K1) | (intros; first | omega | decide) | skip) | (refine awp_cond (t := _) rfl (fun hq => ?_) (fun hq => ?_) <;> first | (exact absurd hq (by decide)) | (cases hq; done) | (clear hq)) | (refine awp_un 8 ?_) | (with_reducible exact rfl) | (with_reducible exact trivial) | ((with_reducible show uside _); first | exact True.intro | exact rfl) | ((with_reducible show opS _ _); exact True.intro) | (refine ⟨AV.v (.bool true), rfl, hK1 _ ?_⟩; clear hK1 K1) | (refine (h2 _).mono ?_; rintro _ hz ⟨rfl, hh⟩; (first | (refine hK1 _ ?_) | (refine ⟨rfl, hK1 _ ?_⟩)); clear hK1 K1; rw [hh]; clear hh hz)))
 intro p hp
 refine hK1 _ ?_; clear hK1 K1
 (repeat (first | refine gO rfl ?_ | (refine gM zM34 fun K1 hK1 => ?_; simp only [go_sem, ↓reduceIte, reduceCtorEq, nA, nB, nC, nD, nE, nF, Int.reduceBEq, Int.reduceTMod, Int.reduceTDiv, Int.reduceMul, Int.reduceBNe, Int.reduceLT, Int.reduceLE, Int.reduceAdd, Int.reduceSub, Int.reduceNeg, decide_true, decide_false, Bool.true_and, Bool.false_and, Bool.and_true, Bool.and_false, Bool.or_false, Bool.or_true, Bool.true_or, Bool.false_or, Bool.not_true, Bool.not_false, true_implies, false_implies, true_and, and_true, Int.reduceToNat, upd_same] <;> and_intros <;> first | (apply hK1; clear hK1 K1) | (intros; first | omega | decide) | skip) | (refine awp_cond (t := _) rfl (fun hq => ?_) (fun hq => ?_) <;> first | (exact absurd hq (by decide)) | (cases hq; done) | (clear hq)) | (refine awp_un 8 ?_) | (with_reducible exact rfl) | (with_reducible exact trivial) | ((with_reducible show uside _); first | exact True.intro | exact rfl) | ((with_reducible show opS _ _); exact True.intro) | (refine ⟨AV.v (.bool true), rfl, hK1 _ ?_⟩; clear hK1 K1) | (refine (h2 _).mono ?_; rintro _ hz ⟨rfl, hh⟩; (first | (refine hK1 _ ?_) | (refine ⟨rfl, hK1 _ ?_⟩)); clear hK1 K1; rw [hh]; clear hh hz)))
 simp only [Tryz.results260, go_sem, ↓reduceIte, reduceCtorEq, nA, nB, nC, nD, nE, nF]
 exact ⟨_, h, Weak.refl _, hle_obj hp, rfl, rfl⟩
theorem c_numberText (h : Hp) : ACalls Tryz.prog 267 [.v (.int .i64 5)] h (fun r h' => r = .v (.string ⟨#[53]⟩) ∧ h' = h) := by
 have h2 := fun h => g_itoa 5 (by decide) h
 rw [show (Lib.decDigits 5).toArray = #[53] by unfold Lib.decDigits; rfl] at h2
 refine gE Tryz.func267 rfl (by kernel_rfl) 4 rfl fun c => ?_
 (repeat (first | refine gO rfl ?_ | (refine gR fun K1 hK1 => ?_; simp only [go_sem, ↓reduceIte, reduceCtorEq, nA, nB, nC, nD, nE, nF, Int.reduceBEq, Int.reduceTMod, Int.reduceTDiv, Int.reduceMul, Int.reduceBNe, Int.reduceLT, Int.reduceLE, Int.reduceAdd, Int.reduceSub, Int.reduceNeg, decide_true, decide_false, Bool.true_and, Bool.false_and, Bool.and_true, Bool.and_false, Bool.or_false, Bool.or_true, Bool.true_or, Bool.false_or, Bool.not_true, Bool.not_false, true_implies, false_implies, true_and, and_true, Int.reduceToNat] <;> and_intros <;> first | (apply hK1; clear hK1 K1) | (intros; first | omega | decide) | skip) | (refine awp_cond (t := _) rfl (fun hq => ?_) (fun hq => ?_) <;> first | (exact absurd hq (by decide)) | (cases hq; done) | (clear hq)) | (refine awp_un 8 ?_) | (with_reducible exact rfl) | (with_reducible exact trivial) | ((with_reducible show uside _); first | exact True.intro | exact rfl) | ((with_reducible show opS _ _); exact True.intro) | (refine ⟨AV.v (.bool true), rfl, hK1 _ ?_⟩; clear hK1 K1) | (refine (h2 _).mono ?_; rintro _ hz ⟨rfl, hh⟩; (first | (refine hK1 _ ?_) | (refine ⟨rfl, hK1 _ ?_⟩)); clear hK1 K1; rw [hh]; clear hh hz)))
 simp only [Tryz.results267, go_sem, ↓reduceIte, reduceCtorEq, nA, nB, nC, nD, nE, nF]
 exact ⟨_, _, Weak.refl _, Hp.le.refl _, rfl, rfl⟩
theorem c_said (h : Hp) : ACalls Tryz.prog 217 [.agg fC] h (fun r h' => r = .v (.string ⟨#[53]⟩) ∧ h' = h) := by
 have h2 := fun h => c_numberText h
 rw [fC_eq] at *
 refine gE Tryz.func217 rfl (by kernel_rfl) 16 rfl fun c => ?_
 (repeat (first | refine gO rfl ?_ | (refine gR fun K1 hK1 => ?_; simp only [go_sem, ↓reduceIte, reduceCtorEq, nA, nB, nC, nD, nE, nF, Int.reduceBEq, Int.reduceTMod, Int.reduceTDiv, Int.reduceMul, Int.reduceBNe, Int.reduceLT, Int.reduceLE, Int.reduceAdd, Int.reduceSub, Int.reduceNeg, decide_true, decide_false, Bool.true_and, Bool.false_and, Bool.and_true, Bool.and_false, Bool.or_false, Bool.or_true, Bool.true_or, Bool.false_or, Bool.not_true, Bool.not_false, true_implies, false_implies, true_and, and_true, Int.reduceToNat] <;> and_intros <;> first | (apply hK1; clear hK1 K1) | (intros; first | omega | decide) | skip) | (refine awp_cond (t := _) rfl (fun hq => ?_) (fun hq => ?_) <;> first | (exact absurd hq (by decide)) | (cases hq; done) | (clear hq)) | (refine awp_un 8 ?_) | (with_reducible exact rfl) | (with_reducible exact trivial) | ((with_reducible show uside _); first | exact True.intro | exact rfl) | ((with_reducible show opS _ _); exact True.intro) | (refine ⟨AV.v (.bool true), rfl, hK1 _ ?_⟩; clear hK1 K1) | (refine (h2 _).mono ?_; rintro _ hz ⟨rfl, hh⟩; (first | (refine hK1 _ ?_) | (refine ⟨rfl, hK1 _ ?_⟩)); clear hK1 K1; rw [hh]; clear hh hz)))
 simp only [Tryz.results217, go_sem, ↓reduceIte, reduceCtorEq, nA, nB, nC, nD, nE, nF]
 exact ⟨_, _, Weak.refl _, Hp.le.refl _, rfl, rfl⟩
theorem c_filtered (s : ByteArray) (h : Hp) : ACalls Tryz.prog 216 [.v (.string s), .v (.slice none 0 0)] h (fun r h' => r = .v (.string s) ∧ h' = h) := by
 refine gE Tryz.func216 rfl (by kernel_rfl) 58 rfl fun c => ?_
 (repeat (first | refine gO rfl ?_ | ((first | refine gM zM38 ?_ | (with_reducible refine wM ?_ ?_) | ((with_reducible refine xR ?_); refine uE 5 zM38 zP18E zP18P 60 rfl (by kernel_rfl) ?_)) <;> ((try with_reducible intro K1 hK1); simp only [go_sem, ↓reduceIte, reduceCtorEq, nA, nB, nC, nD, nE, nF, Int.reduceBEq, Int.reduceTMod, Int.reduceTDiv, Int.reduceMul, Int.reduceBNe, Int.reduceLT, Int.reduceLE, Int.reduceAdd, Int.reduceSub, Int.reduceNeg, decide_true, decide_false, Bool.true_and, Bool.false_and, Bool.and_true, Bool.and_false, Bool.or_false, Bool.or_true, Bool.true_or, Bool.false_or, Bool.not_true, Bool.not_false, true_implies, false_implies, true_and, and_true, Int.reduceToNat] <;> and_intros <;> first | (apply hK1; clear hK1 K1) | (intros; first | omega | decide) | skip)) | (refine awp_cond (t := _) rfl (fun hq => ?_) (fun hq => ?_) <;> first | (exact absurd hq (by decide)) | (cases hq; done) | (clear hq)) | (refine awp_un 8 ?_) | (with_reducible exact rfl) | (with_reducible exact trivial) | ((with_reducible show uside _); first | exact True.intro | exact rfl) | ((with_reducible show opS _ _); exact True.intro) | (refine ⟨AV.v (.bool true), rfl, hK1 _ ?_⟩; clear hK1 K1)))
 simp only [Tryz.results216, go_sem, ↓reduceIte, reduceCtorEq, nA, nB, nC, nD, nE, nF]
 exact ⟨_, _, Weak.refl _, Hp.le.refl _, rfl, rfl⟩
abbrev zP19E : List Nat := [0, 1, 3, 4]
abbrev zP19P : List (Nat × List Nat × List Nat) := [(2, [4], []), (5, [], []), (6, [], [7])]
abbrev zP1AE : List Nat := [0, 1, 2, 3, 4, 5, 6, 7, 8, 9]
abbrev zP1AP : List (Nat × List Nat × List Nat) := [(10, [], [11, 12]), (13, [], [])]
abbrev zP1BE : List Nat := [0, 1, 2, 3, 4, 5, 6, 7, 8, 9, 10, 11, 12, 13]
abbrev zP1BP : List (Nat × List Nat × List Nat) := [(14, [], [])]
attribute [go_sem] zP19E zP19P zP1AE zP1AP zP1BE zP1BP
def s5 : ByteArray := ⟨#[53]⟩
def bdO (k : Nat) : AO := .obj 198 [.row 6 [fC] none, .v (.slice none 0 0), .v (.pointer none), .arr 1 k 0, .v (.int .i64 0)]
def bdP (b k : Nat) : AO := .obj 198 [.row 6 [fC] none, .v (.slice none 0 0), .ptr b 2, .arr 1 k 1, .v (.int .i64 0)]
def h5 (h : Hp) (b k : Nat) : Hp := ⟨upd h.H b (some (bdP b k)), upd h.T k (some (.buf 5 (rowB [53])))⟩
theorem c_field (b k : Nat) (h : Hp) (hb : h.H b = some (bdO k)) : ACalls Tryz.prog 215 [.ptr b 0, .agg [.v (.string ⟨#[]⟩), .v (.string sN)]] h (fun r h' => r = .tup [.agg fC, .v (.int .i64 0)] ∧ h' = h) := by
 have h1 := fun h => c_fieldAt h
 have e1 : (!((⟨#[]⟩ : ByteArray) == ⟨#[]⟩)) = false := by decide
 unfold bdO at hb
 rw [fC_eq] at *
 refine gE Tryz.func215 rfl (by kernel_rfl) 41 rfl fun c => ?_
 (repeat (first | refine gO rfl ?_ | (refine gM zM39 fun K1 hK1 => ?_; simp only [go_sem, ↓reduceIte, reduceCtorEq, nA, nB, nC, nD, nE, nF, Int.reduceBEq, Int.reduceTMod, Int.reduceTDiv, Int.reduceMul, Int.reduceBNe, Int.reduceLT, Int.reduceLE, Int.reduceAdd, Int.reduceSub, Int.reduceNeg, decide_true, decide_false, Bool.true_and, Bool.false_and, Bool.and_true, Bool.and_false, Bool.or_false, Bool.or_true, Bool.true_or, Bool.false_or, Bool.not_true, Bool.not_false, true_implies, false_implies, true_and, and_true, Int.reduceToNat] <;> and_intros <;> first | (apply hK1; clear hK1 K1) | (intros; first | omega | decide) | skip) | (refine awp_cond (t := _) rfl (fun hq => ?_) (fun hq => ?_) <;> first | (exact absurd hq (by decide)) | (cases hq; done) | (clear hq)) | (refine awp_un 8 ?_) | (with_reducible exact rfl) | (with_reducible exact trivial) | ((with_reducible show uside _); first | exact True.intro | exact rfl) | ((with_reducible show opS _ _); exact True.intro) | (refine ⟨AV.v (.bool true), rfl, hK1 _ ?_⟩; clear hK1 K1)))
 intro p hp
 refine hK1 _ ?_; clear hK1 K1
 have hpb : b ≠ p := by rintro rfl; rw [hp] at hb; cases hb
 have hb2 : ∀ o, upd h.H p o b = h.H b := fun o => upd_other _ _ hpb
 rw [hb] at hb2
 (repeat (first | refine gO rfl ?_ | (refine gM zM39 fun K1 hK1 => ?_; simp only [go_sem, ↓reduceIte, reduceCtorEq, nA, nB, nC, nD, nE, nF, Int.reduceBEq, Int.reduceTMod, Int.reduceTDiv, Int.reduceMul, Int.reduceBNe, Int.reduceLT, Int.reduceLE, Int.reduceAdd, Int.reduceSub, Int.reduceNeg, decide_true, decide_false, Bool.true_and, Bool.false_and, Bool.and_true, Bool.and_false, Bool.or_false, Bool.or_true, Bool.true_or, Bool.false_or, Bool.not_true, Bool.not_false, true_implies, false_implies, true_and, and_true, Int.reduceToNat, hb2, e1, e00, upd_same] <;> and_intros <;> first | (apply hK1; clear hK1 K1) | (intros; first | omega | decide) | skip) | (refine awp_cond (t := _) rfl (fun hq => ?_) (fun hq => ?_) <;> first | (exact absurd hq (by decide)) | (cases hq; done) | (clear hq)) | (refine awp_un 8 ?_) | (with_reducible exact rfl) | (with_reducible exact trivial) | ((with_reducible show uside _); first | exact True.intro | exact rfl) | ((with_reducible show opS _ _); exact True.intro) | (refine ⟨AV.v (.bool true), rfl, hK1 _ ?_⟩; clear hK1 K1) | (refine (h1 _).mono ?_; rintro _ hz ⟨rfl, hh⟩; (first | (refine hK1 _ ?_) | (refine ⟨rfl, hK1 _ ?_⟩)); clear hK1 K1; rw [hh]; clear hh hz)))
 simp only [Tryz.results215, go_sem, ↓reduceIte, reduceCtorEq, nA, nB, nC, nD, nE, nF]
 exact ⟨_, h, Weak.refl _, hle_obj hp, rfl, rfl⟩
theorem c_put (b k : Nat) (h : Hp) (hb : h.H b = some (bdO k)) (hT : h.T k = some (.buf 5 (rowB []))) : ACalls Tryz.prog 214 [.ptr b 0, .v (.string s5)] h (fun r h' => r = .v (.int .i64 0) ∧ h' = h5 h b k) := by
 have h1 : ACalls Tryz.prog 257 [.ptr b 2] h (fun r h' => r = .v (.int .i64 0) ∧ h' = h) := by
  unfold bdO at hb
  refine gE Tryz.func257 rfl (by kernel_rfl) 7 rfl fun c => ?_
  (repeat (first | refine gO rfl ?_ | (refine gR fun K1 hK1 => ?_; simp only [go_sem, ↓reduceIte, reduceCtorEq, nA, nB, nC, nD, nE, nF, Int.reduceBEq, Int.reduceTMod, Int.reduceTDiv, Int.reduceMul, Int.reduceBNe, Int.reduceLT, Int.reduceLE, Int.reduceAdd, Int.reduceSub, Int.reduceNeg, decide_true, decide_false, Bool.true_and, Bool.false_and, Bool.and_true, Bool.and_false, Bool.or_false, Bool.or_true, Bool.true_or, Bool.false_or, Bool.not_true, Bool.not_false, true_implies, false_implies, true_and, and_true, Int.reduceToNat, hb] <;> and_intros <;> first | (apply hK1; clear hK1 K1) | (intros; first | omega | decide) | skip) | (refine awp_cond (t := _) rfl (fun hq => ?_) (fun hq => ?_) <;> first | (exact absurd hq (by decide)) | (cases hq; done) | (clear hq)) | (refine awp_un 8 ?_) | (with_reducible exact rfl) | (with_reducible exact trivial) | ((with_reducible show uside _); first | exact True.intro | exact rfl) | ((with_reducible show opS _ _); exact True.intro) | (refine ⟨AV.v (.bool true), rfl, hK1 _ ?_⟩; clear hK1 K1)))
  simp only [Tryz.results257, go_sem, ↓reduceIte, reduceCtorEq, nA, nB, nC, nD, nE, nF]
  exact ⟨_, _, Weak.refl _, Hp.le.refl _, rfl, rfl⟩
 have h2 := g_writeAt b k _ _ _ s5 h hb hT (by decide)
 have z : (s5.size : Int) = 1 := rfl
 refine gE Tryz.func214 rfl (by kernel_rfl) 16 rfl fun c => ?_
 (repeat (first | refine gO rfl ?_ | (refine gR fun K1 hK1 => ?_; simp only [go_sem, ↓reduceIte, reduceCtorEq, nA, nB, nC, nD, nE, nF, Int.reduceBEq, Int.reduceTMod, Int.reduceTDiv, Int.reduceMul, Int.reduceBNe, Int.reduceLT, Int.reduceLE, Int.reduceAdd, Int.reduceSub, Int.reduceNeg, decide_true, decide_false, Bool.true_and, Bool.false_and, Bool.and_true, Bool.and_false, Bool.or_false, Bool.or_true, Bool.true_or, Bool.false_or, Bool.not_true, Bool.not_false, true_implies, false_implies, true_and, and_true, Int.reduceToNat, z] <;> and_intros <;> first | (apply hK1; clear hK1 K1) | (intros; first | omega | decide) | skip) | (refine awp_cond (t := _) rfl (fun hq => ?_) (fun hq => ?_) <;> first | (exact absurd hq (by decide)) | (cases hq; done) | (clear hq)) | (refine awp_un 8 ?_) | (with_reducible exact rfl) | (with_reducible exact trivial) | ((with_reducible show uside _); first | exact True.intro | exact rfl) | ((with_reducible show opS _ _); exact True.intro) | (refine ⟨AV.v (.bool true), rfl, hK1 _ ?_⟩; clear hK1 K1) | (refine (h1).mono ?_; rintro _ hz ⟨rfl, hh⟩; (first | (refine hK1 _ ?_) | (refine ⟨rfl, hK1 _ ?_⟩)); clear hK1 K1; rw [hh]; clear hh hz) | (refine (h2).mono ?_; rintro _ hz ⟨rfl, hh⟩; (first | (refine hK1 _ ?_) | (refine ⟨rfl, hK1 _ ?_⟩)); clear hK1 K1; rw [hh]; clear hh hz)))
 simp only [Tryz.results214, go_sem, ↓reduceIte, reduceCtorEq, nA, nB, nC, nD, nE, nF]
 exact ⟨_, _, Weak.refl _, Hp.le.refl _, rfl, rfl⟩
theorem c_node (b k : Nat) (h : Hp) (hb : h.H b = some (bdO k)) (hT : h.T k = some (.buf 5 (rowB []))) : ACalls Tryz.prog 178 [.ptr b 0, .agg ndN] h (fun r h' => r = .v (.int .i64 0) ∧ h' = h5 h b k) := by
 have h1 := c_field b k h hb
 have h2 := fun h => c_said h
 have h3 := fun h => c_filtered s5 h
 have h4 := c_put b k h hb hT
 rw [fC_eq] at h1 h2
 unfold s5 at h3 h4
 unfold ndN ndCp vS vI vB nl s0
 refine gE Tryz.func178 rfl (by kernel_rfl) 130 rfl fun c => ?_
 (repeat (first | refine gO rfl ?_ | ((first | refine gM zM3A ?_ | (with_reducible refine wM ?_ ?_) | ((with_reducible refine xS ?_); refine uD 10 zM3A zP19E zP19P 132 rfl (by kernel_rfl) ?_) | ((with_reducible refine xS ?_); refine uD 29 zM3A zP1AE zP1AP 132 rfl (by kernel_rfl) ?_) | ((with_reducible refine xR ?_); refine uE 33 zM3A zP1BE zP1BP 132 rfl (by kernel_rfl) ?_)) <;> ((try with_reducible intro K1 hK1); simp only [go_sem, ↓reduceIte, reduceCtorEq, nA, nB, nC, nD, nE, nF, Int.reduceBEq, Int.reduceTMod, Int.reduceTDiv, Int.reduceMul, Int.reduceBNe, Int.reduceLT, Int.reduceLE, Int.reduceAdd, Int.reduceSub, Int.reduceNeg, decide_true, decide_false, Bool.true_and, Bool.false_and, Bool.and_true, Bool.and_false, Bool.or_false, Bool.or_true, Bool.true_or, Bool.false_or, Bool.not_true, Bool.not_false, true_implies, false_implies, true_and, and_true, Int.reduceToNat] <;> and_intros <;> first | (apply hK1; clear hK1 K1) | (intros; first | omega | decide) | skip)) | (refine awp_cond (t := _) rfl (fun hq => ?_) (fun hq => ?_) <;> first | (exact absurd hq (by decide)) | (cases hq; done) | (clear hq)) | (refine awp_un 8 ?_) | (with_reducible exact rfl) | (with_reducible exact trivial) | ((with_reducible show uside _); first | exact True.intro | exact rfl) | ((with_reducible show opS _ _); exact True.intro) | (refine ⟨AV.v (.bool true), rfl, hK1 _ ?_⟩; clear hK1 K1) | (refine (h1).mono ?_; rintro _ hz ⟨rfl, hh⟩; (first | (refine hK1 _ ?_) | (refine ⟨rfl, hK1 _ ?_⟩)); clear hK1 K1; rw [hh]; clear hh hz) | (refine (h2 _).mono ?_; rintro _ hz ⟨rfl, hh⟩; (first | (refine hK1 _ ?_) | (refine ⟨rfl, hK1 _ ?_⟩)); clear hK1 K1; rw [hh]; clear hh hz) | (refine (h3 _).mono ?_; rintro _ hz ⟨rfl, hh⟩; (first | (refine hK1 _ ?_) | (refine ⟨rfl, hK1 _ ?_⟩)); clear hK1 K1; rw [hh]; clear hh hz) | (refine (h4).mono ?_; rintro _ hz ⟨rfl, hh⟩; (first | (refine hK1 _ ?_) | (refine ⟨rfl, hK1 _ ?_⟩)); clear hK1 K1; rw [hh]; clear hh hz)))
 simp only [Tryz.results178, go_sem, ↓reduceIte, reduceCtorEq, nA, nB, nC, nD, nE, nF]
 exact ⟨_, _, Weak.refl _, Hp.le.refl _, rfl, rfl⟩
theorem c_nodes (b k : Nat) (h : Hp) (hb : h.H b = some (bdO k)) (hT : h.T k = some (.buf 5 (rowB []))) : ACalls Tryz.prog 140 [.ptr b 0, .row 19 [ndN] none] h (fun r h' => r = .v (.int .i64 0) ∧ h' = h5 h b k) := by
 have h1 := c_node b k h hb hT
 unfold ndN ndCp vS vI vB nl s0 at *
 refine gE Tryz.func140 rfl (by kernel_rfl) 19 rfl fun c => ?_
 (repeat (first | refine gO rfl ?_ | (refine gM zM38 fun K1 hK1 => ?_; simp only [go_sem, ↓reduceIte, reduceCtorEq, nA, nB, nC, nD, nE, nF, Int.reduceBEq, Int.reduceTMod, Int.reduceTDiv, Int.reduceMul, Int.reduceBNe, Int.reduceLT, Int.reduceLE, Int.reduceAdd, Int.reduceSub, Int.reduceNeg, decide_true, decide_false, Bool.true_and, Bool.false_and, Bool.and_true, Bool.and_false, Bool.or_false, Bool.or_true, Bool.true_or, Bool.false_or, Bool.not_true, Bool.not_false, true_implies, false_implies, true_and, and_true, Int.reduceToNat] <;> and_intros <;> first | (apply hK1; clear hK1 K1) | (intros; first | omega | decide) | skip) | (refine awp_cond (t := _) rfl (fun hq => ?_) (fun hq => ?_) <;> first | (exact absurd hq (by decide)) | (cases hq; done) | (clear hq)) | (refine awp_un 8 ?_) | (with_reducible exact rfl) | (with_reducible exact trivial) | ((with_reducible show uside _); first | exact True.intro | exact rfl) | ((with_reducible show opS _ _); exact True.intro) | (refine ⟨AV.v (.bool true), rfl, hK1 _ ?_⟩; clear hK1 K1) | (refine (h1).mono ?_; rintro _ hz ⟨rfl, hh⟩; (first | (refine hK1 _ ?_) | (refine ⟨rfl, hK1 _ ?_⟩)); clear hK1 K1; rw [hh]; clear hh hz)))
 simp only [Tryz.results140, go_sem, ↓reduceIte, reduceCtorEq, nA, nB, nC, nD, nE, nF]
 exact ⟨_, _, Weak.refl _, Hp.le.refl _, rfl, rfl⟩
section
variable {P : Program} {c : Cx} {Q : Exit → St → Prop}
def OpsL (P : Program) (c : Cx) (Q : Exit → St → Prop) : List Oper → St → Prop
 | [], s => Q .normal s
 | o :: r, s => o.guard = none ∧ Aop P c o s (OpsL P c Q r)
theorem awp_opsL {id : Nat} {ops : Array Oper} {s : St} (h : OpsL P c Q ops.toList s) : Awp P c (.region id ops false) Q s := by
 have hg : ∀ (l : List Oper) (s : St), OpsL P c Q l s → ∀ a w, In c s a w → wpList P ops (fun e a' w' => ∃ s', Q e s' ∧ In c s' a' w') l a w := by
  intro l
  induction l with
  | nil => intro s h a w hi; exact ⟨s, h, hi⟩
  | cons o r ih =>
   intro s h a w hi
   have hw : Region.wanted o (yielded ops a.tmps) = true := by simp [Region.wanted, h.1]
   unfold wpList
   rw [if_pos hw]
   exact .inl (h.2 a w hi _ _ fun s' a' w' hs hi' => ih s' hs a' w' hi')
 intro a w hi
 exact wp_region_list (hg _ s h a w hi)
end
theorem g_bind1 (h : Hp) : ACalls Tryz.prog 106 [.v (.string sT), .row 6 [fC] none] h (fun r h' => r = .tup [.v (.string s5), .v (.int .i64 0)]) := by
 have h1 := fun h => c_parse h
 have h2 := fun h => c_checkData h
 have h3 := fun b k h => c_nodes b k h
 unfold h5 bdO bdP at h3
 have hR : rowB [] = [] := rfl
 rw [hR] at h3
 generalize hfc : fC = cs at *
 generalize hnn : ([ndN] : List (List AV)) = nn at *
 refine gE Tryz.func106 rfl (by kernel_rfl) 37 rfl fun c => ?_
 (repeat (first | refine gO rfl ?_ | (refine gM zM3B fun K1 hK1 => ?_; simp only [go_sem, ↓reduceIte, reduceCtorEq, nA, nB, nC, nD, nE, nF, Int.reduceBEq, Int.reduceTMod, Int.reduceTDiv, Int.reduceMul, Int.reduceBNe, Int.reduceLT, Int.reduceLE, Int.reduceAdd, Int.reduceSub, Int.reduceNeg, decide_true, decide_false, Bool.true_and, Bool.false_and, Bool.and_true, Bool.and_false, Bool.or_false, Bool.or_true, Bool.true_or, Bool.false_or, Bool.not_true, Bool.not_false, true_implies, false_implies, true_and, and_true, Int.reduceToNat] <;> and_intros <;> first | (apply hK1; clear hK1 K1) | (intros; first | omega | decide) | skip) | (refine awp_cond (t := _) rfl (fun hq => ?_) (fun hq => ?_) <;> first | (exact absurd hq (by decide)) | (cases hq; done) | (clear hq)) | (refine awp_un 8 ?_) | (with_reducible exact rfl) | (with_reducible exact trivial) | ((with_reducible show uside _); first | exact True.intro | exact rfl) | ((with_reducible show opS _ _); exact True.intro) | (refine ⟨AV.v (.bool true), rfl, hK1 _ ?_⟩; clear hK1 K1)))
 refine (h1 _).mono ?_
 rintro _ ha rfl
 refine hK1 _ ?_; clear hK1 K1
 (repeat (first | refine gO rfl ?_ | (refine gM zM3B fun K1 hK1 => ?_; simp only [go_sem, ↓reduceIte, reduceCtorEq, nA, nB, nC, nD, nE, nF, Int.reduceBEq, Int.reduceTMod, Int.reduceTDiv, Int.reduceMul, Int.reduceBNe, Int.reduceLT, Int.reduceLE, Int.reduceAdd, Int.reduceSub, Int.reduceNeg, decide_true, decide_false, Bool.true_and, Bool.false_and, Bool.and_true, Bool.and_false, Bool.or_false, Bool.or_true, Bool.true_or, Bool.false_or, Bool.not_true, Bool.not_false, true_implies, false_implies, true_and, and_true, Int.reduceToNat] <;> and_intros <;> first | (apply hK1; clear hK1 K1) | (intros; first | omega | decide) | skip) | (refine awp_cond (t := _) rfl (fun hq => ?_) (fun hq => ?_) <;> first | (exact absurd hq (by decide)) | (cases hq; done) | (clear hq)) | (refine awp_un 8 ?_) | (with_reducible exact rfl) | (with_reducible exact trivial) | ((with_reducible show uside _); first | exact True.intro | exact rfl) | ((with_reducible show opS _ _); exact True.intro) | (refine ⟨AV.v (.bool true), rfl, hK1 _ ?_⟩; clear hK1 K1)))
 refine (h2 _).mono ?_
 rintro _ hz ⟨rfl, rfl⟩
 refine hK1 _ ?_; clear hK1 K1
 first | refine gO rfl ?_ | (refine gM zM3B fun K1 hK1 => ?_; simp only [go_sem, ↓reduceIte, reduceCtorEq, nA, nB, nC, nD, nE, nF] <;> and_intros <;> first | (apply hK1; clear hK1 K1) | (intros; first | omega | decide | (simp_all <;> omega)) | skip)
 first | refine gO rfl ?_ | (refine gM zM3B fun K1 hK1 => ?_; simp only [go_sem, ↓reduceIte, reduceCtorEq, nA, nB, nC, nD, nE, nF] <;> and_intros <;> first | (apply hK1; clear hK1 K1) | (intros; first | omega | decide | (simp_all <;> omega)) | skip)
 first | refine gO rfl ?_ | (refine gM zM3B fun K1 hK1 => ?_; simp only [go_sem, ↓reduceIte, reduceCtorEq, nA, nB, nC, nD, nE, nF] <;> and_intros <;> first | (apply hK1; clear hK1 K1) | (intros; first | omega | decide | (simp_all <;> omega)) | skip)
 first | refine gO rfl ?_ | (refine gM zM3B fun K1 hK1 => ?_; simp only [go_sem, ↓reduceIte, reduceCtorEq, nA, nB, nC, nD, nE, nF] <;> and_intros <;> first | (apply hK1; clear hK1 K1) | (intros; first | omega | decide | (simp_all <;> omega)) | skip)
 refine awp_cond (t := _) rfl (fun hq => absurd hq (by decide)) (fun hq => ?_)
 clear hq
 first | refine gO rfl ?_ | (refine gM zM3B fun K1 hK1 => ?_; simp only [go_sem, ↓reduceIte, reduceCtorEq, nA, nB, nC, nD, nE, nF] <;> and_intros <;> first | (apply hK1; clear hK1 K1) | (intros; first | omega | decide | (simp_all <;> omega)) | skip)
 refine awp_seq (awp_opsL ?_)
 refine ⟨rfl, (q_move (.inl rfl)).aop ⟨rfl, vEff_sound tyok (md := 0) ?_⟩⟩
 simp only [go_sem, ↓reduceIte, reduceCtorEq, Nat.reduceAdd, Nat.reduceSub, Nat.reduceMul, Nat.reduceLT, Nat.reduceLeDiff, Nat.reduceEqDiff, St.ev, St.put, eK]
 refine ⟨rfl, a_boxObj (cs := [.row 6 [cs] none, .v (.slice none 0 0), .v (.pointer none), .v (.slice none 0 0), .v (.int .i64 0)]) rfl ?_ (fun b hb => ⟨rfl, (q_move (.inr rfl)).aop ?_⟩)⟩
 ·simp only [go_sem, ↓reduceIte, reduceCtorEq, Nat.reduceAdd, Nat.reduceSub, Nat.reduceMul, Nat.reduceLT, Nat.reduceLeDiff, Nat.reduceEqDiff, St.ev, AV.cellsB]
  done
 simp only [go_sem, ↓reduceIte, reduceCtorEq, Nat.reduceAdd, Nat.reduceSub, Nat.reduceMul, Nat.reduceLT, Nat.reduceLeDiff, Nat.reduceEqDiff, St.ev, St.put, OpsL, thenQ]
 refine awp_ownBuf b 3 198 5 (upd_same _ _ _) rfl (fun k hk => ?_)
 simp only [List.set_cons_zero, List.set_cons_succ]
 (repeat (first | refine gO rfl ?_ | (refine gM zM3B fun K1 hK1 => ?_; simp only [go_sem, ↓reduceIte, reduceCtorEq, nA, nB, nC, nD, nE, nF, Int.reduceBEq, Int.reduceTMod, Int.reduceTDiv, Int.reduceMul, Int.reduceBNe, Int.reduceLT, Int.reduceLE, Int.reduceAdd, Int.reduceSub, Int.reduceNeg, decide_true, decide_false, Bool.true_and, Bool.false_and, Bool.and_true, Bool.and_false, Bool.or_false, Bool.or_true, Bool.true_or, Bool.false_or, Bool.not_true, Bool.not_false, true_implies, false_implies, true_and, and_true, Int.reduceToNat] <;> and_intros <;> first | (apply hK1; clear hK1 K1) | (intros; first | omega | decide) | skip) | (refine awp_cond (t := _) rfl (fun hq => ?_) (fun hq => ?_) <;> first | (exact absurd hq (by decide)) | (cases hq; done) | (clear hq)) | (refine awp_un 8 ?_) | (with_reducible exact rfl) | (with_reducible exact trivial) | ((with_reducible show uside _); first | exact True.intro | exact rfl) | ((with_reducible show opS _ _); exact True.intro) | (refine ⟨AV.v (.bool true), rfl, hK1 _ ?_⟩; clear hK1 K1)))
 refine (h3 b k _ (upd_same _ _ _) (upd_same _ _ _)).mono ?_
 rintro _ hx ⟨rfl, rfl⟩
 refine hK1 _ ?_; clear hK1 K1
 have h4 := fun D R X I h hb hT => g_strAt b k D R X I [53] h hb hT (by decide)
 (repeat (first | refine gO rfl ?_ | (refine gM zM3B fun K1 hK1 => ?_; simp only [go_sem, ↓reduceIte, reduceCtorEq, nA, nB, nC, nD, nE, nF, Int.reduceBEq, Int.reduceTMod, Int.reduceTDiv, Int.reduceMul, Int.reduceBNe, Int.reduceLT, Int.reduceLE, Int.reduceAdd, Int.reduceSub, Int.reduceNeg, decide_true, decide_false, Bool.true_and, Bool.false_and, Bool.and_true, Bool.and_false, Bool.or_false, Bool.or_true, Bool.true_or, Bool.false_or, Bool.not_true, Bool.not_false, true_implies, false_implies, true_and, and_true, Int.reduceToNat] <;> and_intros <;> first | (apply hK1; clear hK1 K1) | (intros; first | omega | decide) | skip) | (refine awp_cond (t := _) rfl (fun hq => ?_) (fun hq => ?_) <;> first | (exact absurd hq (by decide)) | (cases hq; done) | (clear hq)) | (refine awp_un 8 ?_) | (with_reducible exact rfl) | (with_reducible exact trivial) | ((with_reducible show uside _); first | exact True.intro | exact rfl) | ((with_reducible show opS _ _); exact True.intro) | (refine ⟨AV.v (.bool true), rfl, hK1 _ ?_⟩; clear hK1 K1)))
 refine (h4 _ _ _ _ _ (upd_same _ _ _) (upd_same _ _ _)).mono ?_
 rintro _ hx ⟨rfl, rfl⟩
 refine hK1 _ ?_; clear hK1 K1
 (repeat (first | refine gO rfl ?_ | (refine gM zM3B fun K1 hK1 => ?_; simp only [go_sem, ↓reduceIte, reduceCtorEq, nA, nB, nC, nD, nE, nF, Int.reduceBEq, Int.reduceTMod, Int.reduceTDiv, Int.reduceMul, Int.reduceBNe, Int.reduceLT, Int.reduceLE, Int.reduceAdd, Int.reduceSub, Int.reduceNeg, decide_true, decide_false, Bool.true_and, Bool.false_and, Bool.and_true, Bool.and_false, Bool.or_false, Bool.or_true, Bool.true_or, Bool.false_or, Bool.not_true, Bool.not_false, true_implies, false_implies, true_and, and_true, Int.reduceToNat] <;> and_intros <;> first | (apply hK1; clear hK1 K1) | (intros; first | omega | decide) | skip) | (refine awp_cond (t := _) rfl (fun hq => ?_) (fun hq => ?_) <;> first | (exact absurd hq (by decide)) | (cases hq; done) | (clear hq)) | (refine awp_un 8 ?_) | (with_reducible exact rfl) | (with_reducible exact trivial) | ((with_reducible show uside _); first | exact True.intro | exact rfl) | ((with_reducible show opS _ _); exact True.intro) | (refine ⟨AV.v (.bool true), rfl, hK1 _ ?_⟩; clear hK1 K1)))
 simp only [Tryz.results106, go_sem, ↓reduceIte, reduceCtorEq, nA, nB, nC, nD, nE, nF]
 exact ⟨_, _, Weak.refl _, Hp.le.refl _, rfl⟩
open Go
set_option linter.unusedVariables false
set_option linter.unusedSimpArgs false
open Nat renaming reduceAdd → nA, reduceSub → nB, reduceMul → nC, reduceLT → nD, reduceLeDiff → nE, reduceEqDiff → nF, reduceMod → nG, reduceDiv → nH, reducePow → nI
set_option maxRecDepth 100000
set_option maxHeartbeats 8000000
theorem g_order {K : Nat → Kp} {ci k : Nat} {room rule now : Int} {ps : List Nat} {h : Hp} (hC : h.H ci = some (.cells (encCa room rule now k ps.length))) (hT : h.T k = some (.cont 1 (ps.map encR))) (hl : ps.length ≤ 12) (hK : CacheH h K ps) :
  ACalls Tryz.prog 191 [.ptr ci 0] h (fun r h' => ∃ q, r = .arr 1 q (orderF rule K ps).length ∧ h'.H = h.H ∧ h'.T q = some (.cont 1 ((orderF rule K ps).map encR)) ∧ h.T q = none ∧ ∀ t, h.T t ≠ none → h'.T t = h.T t) := by
 have hcl := g_cloneK k ps h hT (by omega)
 refine gE Tryz.func191 rfl (by kernel_rfl) 14 rfl fun c => ?_
 (repeat (first | refine gO rfl ?_ | (refine gR fun K1 hK1 => ?_; simp only [go_sem, ↓reduceIte, reduceCtorEq, nA, nB, nC, nD, nE, nF, hC, encCa] <;> and_intros <;> first | (apply hK1; clear hK1 K1) | (intros; first | omega | decide | (simp_all <;> omega)) | skip)))
 refine hcl.mono ?_
 rintro _ _ ⟨q, rfl, hq, rfl⟩
 refine hK1 _ ?_; clear hK1 K1
 have hqk : k ≠ q := by rintro rfl; rw [hT] at hq; cases hq
 have hde := g_delK (caps := []) (fun p => (K p).2.2.1) q ps ⟨h.H, upd h.T q (some (.cont 1 (ps.map encR)))⟩ (upd_same _ _ _) (by omega) (fun p hp T' => g_order1 (h := ⟨h.H, T'⟩) (hK p hp))
 (repeat (first | refine gO rfl ?_ | (refine gR fun K1 hK1 => ?_; simp only [go_sem, ↓reduceIte, reduceCtorEq, nA, nB, nC, nD, nE, nF] <;> and_intros <;> first | (apply hK1; clear hK1 K1) | (intros; first | omega | decide) | skip)))
 refine hde.mono ?_
 rintro _ ⟨H2, T2⟩ ⟨q1, rfl, hH, hT1, hoth⟩
 simp only at hH hT1
 subst hH
 refine hK1 _ ?_; clear hK1 K1
 have hf1 : (ps.filter fun p => !(K p).2.2.1).length ≤ 12 := Nat.le_trans (List.length_filter_le _ _) hl
 have hsr := g_srtK (caps := [.ptr ci 0]) (fun p q => cmpK rule (K p) (K q)) q1 (ps.filter fun p => !(K p).2.2.1) ⟨h.H, T2⟩ hT1 hf1 (fun a ha b hb T' => g_compK (h := ⟨h.H, T'⟩) hC (hK a (List.mem_filter.1 ha).1) (hK b (List.mem_filter.1 hb).1))
 (repeat (first | refine gO rfl ?_ | (refine gR fun K1 hK1 => ?_; simp only [go_sem, ↓reduceIte, reduceCtorEq, nA, nB, nC, nD, nE, nF] <;> and_intros <;> first | (apply hK1; clear hK1 K1) | (intros; first | omega | decide) | skip)))
 refine hsr.mono ?_
 rintro _ _ ⟨rfl, rfl⟩
 refine hK1 _ ?_; clear hK1 K1
 (repeat (first | refine gO rfl ?_ | (refine gR fun K1 hK1 => ?_; simp only [go_sem, ↓reduceIte, reduceCtorEq, nA, nB, nC, nD, nE, nF] <;> and_intros <;> first | (apply hK1; clear hK1 K1) | (intros; first | omega | decide) | skip)))
 simp only [Tryz.results191, go_sem, ↓reduceIte, reduceCtorEq, nA, nB, nC, nD, nE, nF]
 refine ⟨_, _, Weak.refl _, Hp.le.refl _, q1, ?_, rfl, upd_same _ _ _, ?_, ?_⟩
 ·rw [orderF, sortI_len]
 ·by_cases e : q1 = q
  ·rw [e]; exact hq
  ·cases e9 : h.T q1 with
   | none => rfl
   | some o =>
    have := (hoth q1 e (by simp only [upd_other _ _ e, e9]; simp)).1
    exact absurd rfl this
 ·intro t ht
  have htq : t ≠ q := by rintro rfl; exact ht hq
  have h9 := hoth t htq (by simp only [upd_other _ _ htq]; exact ht)
  show upd T2 q1 _ t = _
  rw [upd_other _ _ h9.1]
  refine h9.2.trans ?_
  exact upd_other _ _ htq
theorem g_going {K : Nat → Kp} {ci k : Nat} {room rule now bytes : Int} {item : ByteArray} {ps : List Nat} {h : Hp} (hC : h.H ci = some (.cells (encCa room rule now k ps.length))) (hT : h.T k = some (.cont 1 (ps.map encR))) (hl : ps.length ≤ 12) (hK : CacheH h K ps)
  (hB : ∀ p ∈ ps, 0 ≤ (K p).2.1 ∧ (K p).2.1 ≤ 1000000000000) (hr : 0 ≤ room ∧ room ≤ 1000000000000) (hb : 0 ≤ bytes ∧ bytes ≤ 1000000000000) :
  ACalls Tryz.prog 165 [.ptr ci 0, .v (.string item), .v (.int .i64 bytes)] h (fun r h' => ∃ kt, r = .tup [.row 1 ((goingF item bytes room rule K ps).1.map encR) (some kt), .v (.bool (decide ((goingF item bytes room rule K ps).2 ≤ 0)))] ∧ h'.H = h.H ∧ ∀ t, h.T t ≠ none → h'.T t = h.T t) := by
 have hml : (ps.map encR).length = ps.length := List.length_map _
 refine gE Tryz.func165 rfl (by kernel_rfl) 68 rfl fun c => ?_
 (repeat (first | refine gO rfl ?_ | (refine gR fun K1 hK1 => ?_; simp only [go_sem, ↓reduceIte, reduceCtorEq, nA, nB, nC, nD, nE, nF, hC, encCa] <;> and_intros <;> first | (apply hK1; clear hK1 K1) | (intros; first | omega | decide | (simp_all <;> omega)) | skip)))
 refine awp_loopC (rl false [0, 3, 5, 1, 14, 3, 45]) 0 (fun g s => ∃ (j : Nat) (o : Int), g + j = ps.length ∧ overF item K (ps.drop j) o = overF item K ps (bytes - room) ∧ -1000000000000 ≤ o ∧ o ≤ 1000000000000 + j * 1000000000000 ∧
  s = ⟨((.ptr ci 0) :: (.v (.string item)) :: (.v (.int .i64 bytes)) :: (jnk 5 ((.v (.int .i64 o)) :: (jnk 14 ((.arr 1 k ps.length) :: (.v (.int .i64 ps.length)) :: (.v (.int .i64 j)) :: (jnk 45 [])))))), [], h⟩) ps.length ⟨0, bytes - room, by omega, by rw [List.drop_zero], by omega, by omega, rfl⟩ ?_
 rintro g _ ⟨j, o, hj, ho, ho1, ho2, rfl⟩
 (repeat (first | refine gO rfl ?_ | (refine gR fun K1 hK1 => ?_; simp only [go_sem, ↓reduceIte, reduceCtorEq, nA, nB, nC, nD, nE, nF] <;> and_intros <;> first | (apply hK1; clear hK1 K1) | (intros; first | omega | decide) | skip)))
 refine awp_cond (t := _) rfl (fun h1 => ?_) (fun h1 => ?_)
 ·simp only [decide_eq_true_eq] at h1
  have hjl : j < ps.length := by omega
  have gx : (ps.map encR).getD j [] = encR (ps.getD j default) := getD_enc encR ps j default hjl
  have hdj := drop_at' ps j default hjl
  have hpm : ps.getD j default ∈ ps := by rw [List.getD_eq_getElem?_getD, List.getElem?_eq_getElem hjl]; exact List.getElem_mem _
  obtain ⟨p, hp⟩ : ∃ p, ps.getD j default = p := ⟨_, rfl⟩
  rw [hp] at gx hdj hpm
  have hhp := hK p hpm
  have hbp := hB p hpm
  obtain ⟨o9, ho9⟩ : ∃ o9, overF item K ps (bytes - room) = o9 := ⟨_, rfl⟩
  rw [ho9] at ho ⊢
  rw [hdj, overF] at ho
  generalize K p = x at *
  obtain ⟨ke, by1, pi, ca, la, ma⟩ := x
  simp only at ho hbp
  (repeat (first | refine gO rfl ?_ | (refine gR fun K1 hK1 => ?_; simp only [go_sem, ↓reduceIte, reduceCtorEq, nA, nB, nC, nD, nE, nF, hT, hml, Int.toNat_natCast, gx, encR, hhp, encKp] <;> and_intros <;> first | (apply hK1; clear hK1 K1) | (intros; first | omega | decide) | skip)))
  by_cases e : ke = item
  ·refine awp_cond (t := _) rfl (fun h9 => absurd h9 (by rw [e]; simp [ba_beq])) (fun _ => ?_)
   rw [if_pos e] at ho
   (repeat (first | refine gO rfl ?_ | (refine gR fun K1 hK1 => ?_; simp only [go_sem, ↓reduceIte, reduceCtorEq, nA, nB, nC, nD, nE, nF] <;> and_intros <;> first | (apply hK1; clear hK1 K1) | (intros; first | omega | decide) | skip)))
   exact ⟨g - 1, by omega, j + 1, o, by omega, ho, ho1, by omega, rfl⟩
  ·refine awp_cond (t := _) rfl (fun _ => ?_) (fun h9 => absurd (by simpa [ba_beq] using h9) e)
   rw [if_neg e] at ho
   (repeat (first | refine gO rfl ?_ | (refine gR fun K1 hK1 => ?_; simp only [go_sem, ↓reduceIte, reduceCtorEq, nA, nB, nC, nD, nE, nF, hhp, encKp] <;> and_intros <;> first | (apply hK1; clear hK1 K1) | (intros; first | omega | decide) | skip)))
   exact ⟨g - 1, by omega, j + 1, o + by1, by omega, ho, by omega, by omega, rfl⟩
 ·simp only [decide_eq_false_iff_not] at h1
  have hjl : j = ps.length := by omega
  subst hjl
  rw [List.drop_length] at ho
  simp only [overF] at ho
  (repeat refine gO rfl ?_)
  refine awp_seq ?_
  refine awp_AL ?_
  refine AL.cons rfl (Quiet.aop (q_move (.inr rfl)) ?_)
  refine AL.nil ?_
  refine awp_own 11 1 rfl ⟨rfl, rfl⟩ (fun kt hkt => ?_)
  refine awp_cut (rl false [0, 3, 5, 1, 2, 1, 59]) 0 (?_ : Awp _ _ _ _ ⟨((.ptr ci 0) :: (.v (.string item)) :: (.v (.int .i64 bytes)) :: (jnk 5 ((.v (.int .i64 o)) :: AV.junk :: AV.junk :: ((.row 1 [] (some kt)) :: (jnk 59 []))))), [], ⟨h.H, upd h.T kt (some (.tail 0))⟩⟩)
  have hkt' : h.T kt = none := hkt
  have hkk : k ≠ kt := by rintro rfl; rw [hT] at hkt'; cases hkt'
  have hor := g_order (K := K) (rule := rule) (h := ⟨h.H, upd h.T kt (some (.tail 0))⟩) hC ((upd_other _ _ hkk).trans hT) hl hK
  (repeat (first | refine gO rfl ?_ | (refine gR fun K1 hK1 => ?_; simp only [go_sem, ↓reduceIte, reduceCtorEq, nA, nB, nC, nD, nE, nF] <;> and_intros <;> first | (apply hK1; clear hK1 K1) | (intros; first | omega | decide) | skip)))
  refine hor.mono ?_
  rintro _ ⟨H2, T2⟩ ⟨q, rfl, hH, hT2, hq, hoth⟩
  simp only at hH hT2
  subst hH
  refine hK1 _ ?_; clear hK1 K1 hor
  have hqkt : q ≠ kt := by
   intro e
   have hq' : upd h.T kt (some (.tail 0)) q = none := hq
   rw [e, upd_same] at hq'; cases hq'
  have hT2k : T2 kt = some (.tail 0) := by
   have := hoth kt (by show upd h.T kt _ kt ≠ none; rw [upd_same]; simp)
   exact this.trans (upd_same _ _ _)
  have hold : ∀ t, h.T t ≠ none → T2 t = h.T t ∧ t ≠ kt := fun t ht => by
   have htk : t ≠ kt := by rintro rfl; exact ht hkt'
   have := hoth t (by show upd h.T kt _ t ≠ none; rw [upd_other _ _ htk]; exact ht)
   exact ⟨this.trans (upd_other _ _ htk), htk⟩
  have hom : ∀ p ∈ orderF rule K ps, p ∈ ps := fun p hp => orderF_mem hp
  have hol := orderF_len rule K ps
  unfold goingF
  rw [← ho]
  generalize orderF rule K ps = ord at *
  generalize hG : goF item K ord o = G
  have hol2 : (ord.map encR).length = ord.length := List.length_map _
  clear hoth
  (repeat (first | refine gO rfl ?_ | (refine gR fun K1 hK1 => ?_; simp only [go_sem, ↓reduceIte, reduceCtorEq, nA, nB, nC, nD, nE, nF] <;> and_intros <;> first | (apply hK1; clear hK1 K1) | (intros; first | omega | decide) | skip)))
  refine awp_loopC (rl false [0, 3, 5, 1, 2, 1, 31, 3, 25]) 0 (fun g s => ∃ (j : Nat) (o : Int) (acc : List Nat), g + j = ord.length ∧ acc ++ (goF item K (ord.drop j) o).1 = G.1 ∧ (goF item K (ord.drop j) o).2 = G.2 ∧ acc.length ≤ j ∧ -1000000000000 ≤ o ∧ o ≤ 100000000000000 ∧
   s = ⟨((.ptr ci 0) :: (.v (.string item)) :: (.v (.int .i64 bytes)) :: (jnk 5 ((.v (.int .i64 o)) :: AV.junk :: AV.junk :: ((.row 1 (acc.map encR) (some kt)) :: (jnk 31 ((.arr 1 q ord.length) :: (.v (.int .i64 ord.length)) :: (.v (.int .i64 j)) :: (jnk 25 []))))))), [], ⟨h.H, upd T2 kt (some (.tail acc.length))⟩⟩) ord.length ⟨0, o, [], by omega, by rw [List.drop_zero, hG]; rfl, by rw [List.drop_zero, hG], Nat.le_refl _, ho1, by omega, ?_⟩ ?_
  ·have e2 : upd T2 kt (some (TO.tail ([] : List Nat).length)) = T2 := by
    funext t
    by_cases e : t = kt
    ·rw [e, upd_same, hT2k]; rfl
    ·rw [upd_other _ _ e]
   rw [e2]; rfl
  rintro g _ ⟨j, o2, acc, hj, hg1, hg2, hac, hb1, hb2, rfl⟩
  (repeat (first | refine gO rfl ?_ | (refine gR fun K1 hK1 => ?_; simp only [go_sem, ↓reduceIte, reduceCtorEq, nA, nB, nC, nD, nE, nF] <;> and_intros <;> first | (apply hK1; clear hK1 K1) | (intros; first | omega | decide) | skip)))
  refine awp_cond (t := _) rfl (fun h1 => ?_) (fun h1 => ?_)
  ·simp only [decide_eq_true_eq] at h1
   have hjl : j < ord.length := by omega
   have gx : (ord.map encR).getD j [] = encR (ord.getD j default) := getD_enc encR ord j default hjl
   have hdj := drop_at' ord j default hjl
   have hpm : ord.getD j default ∈ ord := by rw [List.getD_eq_getElem?_getD, List.getElem?_eq_getElem hjl]; exact List.getElem_mem _
   obtain ⟨p, hp⟩ : ∃ p, ord.getD j default = p := ⟨_, rfl⟩
   rw [hp] at gx hdj hpm
   have hhp := hK p (hom p hpm)
   have hbp := hB p (hom p hpm)
   have htq : upd T2 kt (some (TO.tail acc.length)) q = some (.cont 1 (ord.map encR)) := (upd_other _ _ hqkt).trans hT2
   have htk2 : upd T2 kt (some (TO.tail acc.length)) kt = some (.tail acc.length) := upd_same _ _ _
   rw [hdj, goF] at hg1 hg2
   generalize K p = x at *
   obtain ⟨ke, by1, pi, ca, la, ma⟩ := x
   simp only at hg1 hg2 hbp
   (repeat (first | refine gO rfl ?_ | (refine gR fun K1 hK1 => ?_; simp only [go_sem, ↓reduceIte, reduceCtorEq, nA, nB, nC, nD, nE, nF, htq, hol2, Int.toNat_natCast, gx, encR] <;> and_intros <;> first | (apply hK1; clear hK1 K1) | (intros; first | omega | decide) | skip)))
   refine awp_cond (t := _) rfl (fun h2 => ?_) (fun h2 => ?_)
   ·simp only [decide_eq_true_eq] at h2
    rw [if_pos h2] at hg1 hg2
    simp only at hg1 hg2
    (repeat (first | refine gO rfl ?_ | (refine gR fun K1 hK1 => ?_; simp only [go_sem, ↓reduceIte, reduceCtorEq, nA, nB, nC, nD, nE, nF] <;> and_intros <;> first | (apply hK1; clear hK1 K1) | (intros; first | omega | decide) | skip)))
    simp only [Tryz.results165, go_sem, ↓reduceIte, reduceCtorEq, nA, nB, nC, nD, nE, nF]
    refine ⟨_, _, Weak.refl _, Hp.le.refl _, kt, by rw [← hg1, ← hg2, List.append_nil], rfl, fun t ht => ?_⟩
    exact (upd_other _ _ (hold t ht).2).trans (hold t ht).1
   ·simp only [decide_eq_false_iff_not] at h2
    rw [if_neg h2] at hg1 hg2
    (repeat (first | refine gO rfl ?_ | (refine gR fun K1 hK1 => ?_; simp only [go_sem, ↓reduceIte, reduceCtorEq, nA, nB, nC, nD, nE, nF, hhp, encKp] <;> and_intros <;> first | (apply hK1; clear hK1 K1) | (intros; first | omega | decide) | skip)))
    by_cases e : ke = item
    ·refine awp_cond (t := _) rfl (fun h9 => absurd h9 (by rw [e]; simp [ba_beq])) (fun _ => ?_)
     rw [if_pos e] at hg1 hg2
     (repeat (first | refine gO rfl ?_ | (refine gR fun K1 hK1 => ?_; simp only [go_sem, ↓reduceIte, reduceCtorEq, nA, nB, nC, nD, nE, nF] <;> and_intros <;> first | (apply hK1; clear hK1 K1) | (intros; first | omega | decide) | skip)))
     exact ⟨g - 1, by omega, j + 1, o2, acc, by omega, hg1, hg2, by omega, hb1, hb2, rfl⟩
    ·refine awp_cond (t := _) rfl (fun _ => ?_) (fun h9 => absurd (by simpa [ba_beq] using h9) e)
     rw [if_neg e] at hg1 hg2
     (repeat (first | refine gO rfl ?_ | (refine gR fun K1 hK1 => ?_; simp only [go_sem, ↓reduceIte, reduceCtorEq, nA, nB, nC, nD, nE, nF, hhp, encKp, htk2, List.length_map] <;> and_intros <;> first | (apply hK1; clear hK1 K1) | (intros; first | omega | decide) | skip)))
     refine ⟨g - 1, by omega, j + 1, o2 - by1, acc ++ [p], by omega, by rw [List.append_assoc]; exact hg1, hg2, by rw [List.length_append, List.length_singleton]; omega, by omega, by omega, ?_⟩
     rw [List.map_append, List.length_append]
     rfl
  ·simp only [decide_eq_false_iff_not] at h1
   have hjl : j = ord.length := by omega
   subst hjl
   rw [List.drop_length, goF] at hg1 hg2
   simp only at hg1 hg2
   (repeat (first | refine gO rfl ?_ | (refine gR fun K1 hK1 => ?_; simp only [go_sem, ↓reduceIte, reduceCtorEq, nA, nB, nC, nD, nE, nF] <;> and_intros <;> first | (apply hK1; clear hK1 K1) | (intros; first | omega | decide) | skip)))
   simp only [Tryz.results165, go_sem, ↓reduceIte, reduceCtorEq, nA, nB, nC, nD, nE, nF]
   refine ⟨_, _, Weak.refl _, Hp.le.refl _, kt, by rw [← hg1, ← hg2, List.append_nil], rfl, fun t ht => ?_⟩
   exact (upd_other _ _ (hold t ht).2).trans (hold t ht).1
abbrev zP1CE : List Nat := [0, 1, 2, 3, 4, 5, 6, 7, 8, 9, 10, 11, 12, 13]
abbrev zP1CP : List (Nat × List Nat × List Nat) := []
attribute [go_sem] zP1CE zP1CP
def encNm (x : Kp) : List AV := [.v (.string x.1)]
def PutR (room rule now bytes : Int) (item : ByteArray) (K : Nat → Kp) (ps : List Nat) (ci k : Nat) (h : Hp) (r : AV) (h' : Hp) : Prop :=
 match putL room rule now (ps.map K) item bytes with
 | none => r = .tup [.v (.slice none 0 0), .v (.int .i64 12)] ∧ h'.H = h.H ∧ ∀ t, h.T t ≠ none → h'.T t = h.T t
 | some (L', g) => ∃ (K' : Nat → Kp) (ps' : List Nat) (k' kt : Nat), r = .tup [.row 1 (g.map encNm) (some kt), .v (.int .i64 0)] ∧ ps'.map K' = L' ∧ CacheH h' K' ps' ∧ h'.H ci = some (.cells (encCa room rule (now + 1) k' ps'.length)) ∧
   h'.T k' = some (.cont 1 (ps'.map encR)) ∧ ci ∉ ps' ∧ (∀ q, h.H q ≠ none → q ≠ ci → q ∉ ps → h'.H q = h.H q) ∧ ∀ t, h.T t ≠ none → t ≠ k → h'.T t = h.T t
theorem goingF_mem {item : ByteArray} {bytes room rule : Int} {K : Nat → Kp} {ps : List Nat} {p : Nat} (h : p ∈ (goingF item bytes room rule K ps).1) : p ∈ ps := orderF_mem (goF_mem h)
theorem goF_not {item : ByteArray} {K : Nat → Kp} : ∀ {ps : List Nat} {o : Int} {p : Nat}, p ∈ (goF item K ps o).1 → (K p).1 ≠ item
 | [], _, _, h => by simp [goF] at h
 | q :: ps, o, p, h => by
  unfold goF at h
  split at h
  ·simp at h
  ·split at h
   ·exact goF_not h
   ·rename_i e
    rcases List.mem_cons.1 h with rfl | h
    ·exact e
    ·exact goF_not h
theorem findF_cases (item : ByteArray) (K : Nat → Kp) (ps : List Nat) : (hasL item (ps.map K) = false ∧ findF item K ps = nilP) ∨ ∃ p ∈ ps, (K p).1 = item ∧ hasL item (ps.map K) = true ∧ findF item K ps = .ptr p 0 := by
 unfold findF
 cases e : ps.find? (fun p => (K p).1 == item) with
 | none =>
  refine .inl ⟨?_, rfl⟩
  cases hh : hasL item (ps.map K) with
  | false => rfl
  | true =>
   obtain ⟨x, hx, e2⟩ := hasL_iff.1 hh
   obtain ⟨p, hp, rfl⟩ := List.mem_map.1 hx
   have := List.find?_eq_none.1 e p hp
   rw [ba_beq] at this
   simp [e2] at this
 | some p =>
  have h1 := List.find?_some e
  have h2 := List.mem_of_find?_eq_some e
  rw [ba_beq] at h1
  have h3 : (K p).1 = item := by simpa using h1
  exact .inr ⟨p, h2, h3, hasL_iff.2 ⟨K p, List.mem_map_of_mem h2, h3⟩, rfl⟩
theorem g_put {K : Nat → Kp} {ci k : Nat} {room rule now bytes : Int} {item : ByteArray} {ps : List Nat} {h : Hp} (hC : h.H ci = some (.cells (encCa room rule now k ps.length))) (hT : h.T k = some (.cont 1 (ps.map encR))) (hl : ps.length ≤ 11) (hK : CacheH h K ps)
  (hci : ci ∉ ps) (hone : KeysOne (ps.map K)) (hKey : ∀ h, ACalls Tryz.prog 66 [.v (.string item)] h (fun r h' => r = .v (.bool true) ∧ h' = h))
  (hB : ∀ p ∈ ps, 0 ≤ (K p).2.1 ∧ (K p).2.1 ≤ 1000000000000) (hM : ∀ p ∈ ps, 0 ≤ (K p).2.2.2.2.2 ∧ (K p).2.2.2.2.2 ≤ 1000000000) (hr : 0 ≤ room ∧ room ≤ 1000000000000) (hb : 1 ≤ bytes ∧ bytes ≤ 1000000000000) (hnow : 0 ≤ now ∧ now ≤ 1000000000) :
  ACalls Tryz.prog 122 [.ptr ci 0, .v (.string item), .v (.int .i64 bytes)] h (PutR room rule now bytes item K ps ci k h) := by
 have hgo := g_going (item := item) (bytes := bytes) hC hT (by omega) hK hB hr (by omega)
 have hgm := goingF_map item bytes room rule K ps
 have hgmem : ∀ p ∈ (goingF item bytes room rule K ps).1, p ∈ ps := fun p hp => goingF_mem hp
 have hgnot : ∀ p ∈ (goingF item bytes room rule K ps).1, (K p).1 ≠ item := fun p hp => goF_not hp
 have hglen : (goingF item bytes room rule K ps).1.length ≤ ps.length := Nat.le_trans (goF_len item K _ _) (orderF_len rule K ps)
 have hP : putL room rule now (ps.map K) item bytes = putL room rule now (ps.map K) item bytes := rfl
 conv at hP => rhs; unfold putL; rw [← hgm]
 simp only at hP
 generalize goingF item bytes room rule K ps = go at *
 obtain ⟨gone, over⟩ := go
 simp only at hP hgmem hgnot hglen hgo
 clear hgm
 have hOut := a_outside bytes 1 1000000000000
 have hOutE : (decide (bytes < 1) || decide (1000000000000 < bytes)) = false := by simp; omega
 refine gE Tryz.func122 rfl (by kernel_rfl) 93 rfl fun c => ?_
 (repeat (first | refine gO rfl ?_ | ((first | refine gM zM3C ?_ | (with_reducible refine wM ?_ ?_) | ((with_reducible refine xS ?_); refine uD 9 zM3C zP1CE zP1CP 96 rfl (by kernel_rfl) ?_)) <;> ((try with_reducible intro K1 hK1); simp only [go_sem, ↓reduceIte, reduceCtorEq, nA, nB, nC, nD, nE, nF] <;> and_intros <;> first | (apply hK1; clear hK1 K1) | (intros; first | omega | decide | (simp_all <;> omega)) | skip))))
 refine (hKey _).mono ?_; rintro _ hz ⟨rfl, hh⟩; apply hK1; clear hK1 K1; rw [hh]; clear hh hz
 (repeat (first | refine gO rfl ?_ | ((first | refine gM zM3C ?_ | (with_reducible refine wM ?_ ?_) | ((with_reducible refine xS ?_); refine uD 9 zM3C zP1CE zP1CP 96 rfl (by kernel_rfl) ?_)) <;> ((try with_reducible intro K1 hK1); simp only [go_sem, ↓reduceIte, reduceCtorEq, nA, nB, nC, nD, nE, nF] <;> and_intros <;> first | (apply hK1; clear hK1 K1) | (intros; first | omega | decide) | skip))))
 refine awp_cond (t := _) rfl (fun h9 => by cases h9) (fun _ => ?_)
 (repeat (first | refine gO rfl ?_ | ((first | refine gM zM3C ?_ | (with_reducible refine wM ?_ ?_) | ((with_reducible refine xS ?_); refine uD 9 zM3C zP1CE zP1CP 96 rfl (by kernel_rfl) ?_)) <;> ((try with_reducible intro K1 hK1); simp only [go_sem, ↓reduceIte, reduceCtorEq, nA, nB, nC, nD, nE, nF] <;> and_intros <;> first | (apply hK1; clear hK1 K1) | (intros; first | omega | decide) | skip))))
 refine (hOut _).mono ?_; rintro _ hz ⟨rfl, hh⟩; apply hK1; clear hK1 K1; rw [hh]; clear hh hz
 rw [hOutE]
 clear hKey hOut hOutE
 (repeat (first | refine gO rfl ?_ | ((first | refine gM zM3C ?_ | (with_reducible refine wM ?_ ?_) | ((with_reducible refine xS ?_); refine uD 9 zM3C zP1CE zP1CP 96 rfl (by kernel_rfl) ?_)) <;> ((try with_reducible intro K1 hK1); simp only [go_sem, ↓reduceIte, reduceCtorEq, nA, nB, nC, nD, nE, nF] <;> and_intros <;> first | (apply hK1; clear hK1 K1) | (intros; first | omega | decide) | skip))))
 refine awp_cond (t := _) rfl (fun h9 => by cases h9) (fun _ => ?_)
 (repeat (first | refine gO rfl ?_ | ((first | refine gM zM3C ?_ | (with_reducible refine wM ?_ ?_) | ((with_reducible refine xS ?_); refine uD 9 zM3C zP1CE zP1CP 96 rfl (by kernel_rfl) ?_)) <;> ((try with_reducible intro K1 hK1); simp only [go_sem, ↓reduceIte, reduceCtorEq, nA, nB, nC, nD, nE, nF] <;> and_intros <;> first | (apply hK1; clear hK1 K1) | (intros; first | omega | decide) | skip))))
 refine hgo.mono ?_
 rintro _ ⟨H2, T2⟩ ⟨kg, rfl, hH, hold⟩
 simp only at hH hold
 subst hH
 refine hK1 _ ?_; clear hK1 K1 hgo
 (repeat (first | refine gO rfl ?_ | ((first | refine gM zM3C ?_ | (with_reducible refine wM ?_ ?_) | ((with_reducible refine xS ?_); refine uD 9 zM3C zP1CE zP1CP 96 rfl (by kernel_rfl) ?_)) <;> ((try with_reducible intro K1 hK1); simp only [go_sem, ↓reduceIte, reduceCtorEq, nA, nB, nC, nD, nE, nF] <;> and_intros <;> first | (apply hK1; clear hK1 K1) | (intros; first | omega | decide) | skip))))
 intro i hi
 replace hi : h.H i = none := hi
 refine hK1 _ ?_; clear hK1 K1
 (repeat (first | refine gO rfl ?_ | ((first | refine gM zM3C ?_ | (with_reducible refine wM ?_ ?_) | ((with_reducible refine xS ?_); refine uD 9 zM3C zP1CE zP1CP 96 rfl (by kernel_rfl) ?_)) <;> ((try with_reducible intro K1 hK1); simp only [go_sem, ↓reduceIte, reduceCtorEq, nA, nB, nC, nD, nE, nF, upd_same, upd_upd] <;> and_intros <;> first | (apply hK1; clear hK1 K1) | (intros; first | omega | decide) | skip))))
 by_cases ho : over ≤ 0
 case neg =>
  have hof : decide (over ≤ 0) = false := by simpa using ho
  rw [if_neg ho] at hP
  refine awp_cond (t := !decide (over ≤ 0)) rfl (fun _ => ?_) (fun h9 => by rw [hof] at h9; cases h9)
  (repeat (first | refine gO rfl ?_ | ((first | refine gM zM3C ?_ | (with_reducible refine wM ?_ ?_) | ((with_reducible refine xS ?_); refine uD 9 zM3C zP1CE zP1CP 96 rfl (by kernel_rfl) ?_)) <;> ((try with_reducible intro K1 hK1); simp only [go_sem, ↓reduceIte, reduceCtorEq, nA, nB, nC, nD, nE, nF] <;> and_intros <;> first | (apply hK1; clear hK1 K1) | (intros; first | omega | decide) | skip))))
  simp only [Tryz.results122, go_sem, ↓reduceIte, reduceCtorEq, nA, nB, nC, nD, nE, nF]
  refine ⟨_, ⟨h.H, T2⟩, Weak.refl _, ⟨fun q => ?_, fun _ => .inr rfl⟩, ?_⟩
  ·by_cases e : q = i
   ·rw [e]; exact .inl hi
   ·exact .inr (upd_other _ _ e).symm
  ·unfold PutR
   rw [hP]
   exact ⟨rfl, rfl, hold⟩
 have hot : decide (over ≤ 0) = true := by simpa using ho
 rw [if_pos ho] at hP
 refine awp_cond (t := !decide (over ≤ 0)) rfl (fun h9 => by rw [hot] at h9; cases h9) (fun _ => ?_)
 have hcii : ci ≠ i := by rintro rfl; rw [hC] at hi; cases hi
 have hpi : ∀ p ∈ ps, p ≠ i := fun p hp => by rintro rfl; have := hK p hp; rw [hi] at this; cases this
 have hne : h.T k ≠ none := by rw [hT]; simp
 have hT2 : T2 k = some (.cont 1 (ps.map encR)) := (hold k hne).trans hT
 have hC3 : upd h.H i (some (.cells [.row 1 (gone.map encR) (some kg)])) ci = some (.cells (encCa room rule now k ps.length)) := (upd_other _ _ hcii).trans hC
 have hI3 : upd h.H i (some (.cells [.row 1 (gone.map encR) (some kg)])) i = some (.cells [.row 1 (gone.map encR) (some kg)]) := upd_same _ _ _
 have hK3 : CacheH ⟨upd h.H i (some (.cells [.row 1 (gone.map encR) (some kg)])), T2⟩ K ps := fun p hp => (upd_other _ _ (hpi p hp)).trans (hK p hp)
 have hfi := g_find (item := item) K ci k room rule now ps ⟨upd h.H i (some (.cells [.row 1 (gone.map encR) (some kg)])), T2⟩ hC3 hT2 (by omega) hK3
 have hfc := findF_cases item K ps
 have hus : uside (findF item K ps) := by rcases hfc with ⟨_, e⟩ | ⟨_, _, _, _, e⟩ <;> rw [e] <;> trivial
 have hun : unw (findF item K ps) = findF item K ps := by rcases hfc with ⟨_, e⟩ | ⟨_, _, _, _, e⟩ <;> rw [e] <;> rfl
 have hcl : cutLoc 0 (findF item K ps) = findF item K ps := by rcases hfc with ⟨_, e⟩ | ⟨_, _, _, _, e⟩ <;> rw [e] <;> rfl
 generalize findF item K ps = fk at *
 unfold uside at hus
 unfold unw at hun
 (repeat (first | refine gO rfl ?_ | ((first | refine gM zM3C ?_ | (with_reducible refine wM ?_ ?_) | ((with_reducible refine xS ?_); refine uD 9 zM3C zP1CE zP1CP 96 rfl (by kernel_rfl) ?_)) <;> ((try with_reducible intro K1 hK1); simp only [go_sem, ↓reduceIte, reduceCtorEq, nA, nB, nC, nD, nE, nF] <;> and_intros <;> first | (apply hK1; clear hK1 K1) | (intros; first | omega | decide) | skip))))
 refine hfi.mono ?_
 rintro fk hz ⟨rfl, hh⟩; apply hK1; clear hK1 K1; rw [hh]; clear hh hz
 clear hfi
 (repeat (first | refine gQ rfl ?_ | ((first | refine gM zM3C ?_ | (with_reducible refine wM ?_ ?_) | ((with_reducible refine xS ?_); refine uD 9 zM3C zP1CE zP1CP 96 rfl (by kernel_rfl) ?_)) <;> ((try with_reducible intro K1 hK1); simp only [go_sem, ↓reduceIte, reduceCtorEq, nA, nB, nC, nD, nE, nF, hus, hun] <;> and_intros <;> first | (apply hK1; clear hK1 K1) | (intros; first | omega | decide | (simp_all <;> omega)) | skip))))
 refine awp_seq ?_
 have hlen2 : -1000000000 ≤ (ps.length : Int) - (gone.length : Int) + 1 ∧ (ps.length : Int) - (gone.length : Int) + 1 ≤ 500 := by omega
 have hbig : decide ((500 : Int) < (ps.length : Int) - (gone.length : Int) + 1) = false := by simp; omega
 have hml : (gone.map encR).length = gone.length := List.length_map _
 refine awp_join (rl false [0, 3, 5, 1, 1, 1, 85]) 0 (fun s => s = ⟨((.ptr ci 0) :: (.v (.string item)) :: (.v (.int .i64 bytes)) :: (jnk 5 ((.ptr i 0) :: AV.junk :: ((fk) :: (jnk 85 []))))), [], ⟨upd h.H i (some (.cells [.row 1 (gone.map encR) (some kg)])), T2⟩⟩) ?_ ?_
 ·rcases hfc with ⟨_, rfl⟩ | ⟨p, hp, hpk, hhas, rfl⟩
  ·unfold nilP
   (repeat (first | refine gO rfl ?_ | ((first | refine gM zM3C ?_ | (with_reducible refine wM ?_ ?_) | ((with_reducible refine xS ?_); refine uD 9 zM3C zP1CE zP1CP 96 rfl (by kernel_rfl) ?_)) <;> ((try with_reducible intro K1 hK1); simp only [go_sem, ↓reduceIte, reduceCtorEq, nA, nB, nC, nD, nE, nF, hC3, hI3, encCa, hml] <;> and_intros <;> first | (apply hK1; clear hK1 K1) | (intros; first | omega | decide) | skip))))
   refine awp_cond (t := _) rfl (fun h9 => by rw [hbig] at h9; cases h9) (fun _ => ?_)
   (repeat (first | refine gO rfl ?_ | ((first | refine gM zM3C ?_ | (with_reducible refine wM ?_ ?_) | ((with_reducible refine xS ?_); refine uD 9 zM3C zP1CE zP1CP 96 rfl (by kernel_rfl) ?_)) <;> ((try with_reducible intro K1 hK1); simp only [go_sem, ↓reduceIte, reduceCtorEq, nA, nB, nC, nD, nE, nF] <;> and_intros <;> first | (apply hK1; clear hK1 K1) | (intros; first | omega | decide) | skip))))
   rfl
  ·(repeat (first | refine gO rfl ?_ | ((first | refine gM zM3C ?_ | (with_reducible refine wM ?_ ?_) | ((with_reducible refine xS ?_); refine uD 9 zM3C zP1CE zP1CP 96 rfl (by kernel_rfl) ?_)) <;> ((try with_reducible intro K1 hK1); simp only [go_sem, ↓reduceIte, reduceCtorEq, nA, nB, nC, nD, nE, nF, hC3, hI3, encCa, hml] <;> and_intros <;> first | (apply hK1; clear hK1 K1) | (intros; first | omega | decide) | skip))))
   refine awp_cond (t := _) rfl (fun h9 => by cases h9) (fun _ => ?_)
   (repeat (first | refine gO rfl ?_ | ((first | refine gM zM3C ?_ | (with_reducible refine wM ?_ ?_) | ((with_reducible refine xS ?_); refine uD 9 zM3C zP1CE zP1CP 96 rfl (by kernel_rfl) ?_)) <;> ((try with_reducible intro K1 hK1); simp only [go_sem, ↓reduceIte, reduceCtorEq, nA, nB, nC, nD, nE, nF] <;> and_intros <;> first | (apply hK1; clear hK1 K1) | (intros; first | omega | decide) | skip))))
   rfl
 rintro _ rfl
 clear hbig hlen2
 (repeat (first | refine gQ rfl ?_ | ((first | refine gM zM3C ?_ | (with_reducible refine wM ?_ ?_) | ((with_reducible refine xS ?_); refine uD 9 zM3C zP1CE zP1CP 96 rfl (by kernel_rfl) ?_)) <;> ((try with_reducible intro K1 hK1); simp only [go_sem, ↓reduceIte, reduceCtorEq, nA, nB, nC, nD, nE, nF] <;> and_intros <;> first | (apply hK1; clear hK1 K1) | (intros; first | omega | decide | (simp_all <;> omega)) | skip))))
 refine awp_own 11 1 rfl ⟨rfl, rfl⟩ (fun kt hkt => ?_)
 replace hkt : T2 kt = none := hkt
 refine awp_cut (rl false [0, 3, 5, 1, 1, 2, 84]) 0 (?_ : Awp _ _ _ _ ⟨((.ptr ci 0) :: (.v (.string item)) :: (.v (.int .i64 bytes)) :: (jnk 5 ((.ptr i 0) :: AV.junk :: ((cutLoc 0 fk) :: (.row 1 [] (some kt)) :: (jnk 84 []))))), [], ⟨upd h.H i (some (.cells [.row 1 (gone.map encR) (some kg)])), upd T2 kt (some (.tail 0))⟩⟩)
 rw [hcl]
 have hkk : k ≠ kt := by rintro rfl; rw [hT2] at hkt; cases hkt
 have hl2 := hglen
 (repeat (first | refine gQ rfl ?_ | ((first | refine gM zM3C ?_ | (with_reducible refine wM ?_ ?_) | ((with_reducible refine xS ?_); refine uD 9 zM3C zP1CE zP1CP 96 rfl (by kernel_rfl) ?_)) <;> ((try with_reducible intro K1 hK1); simp only [go_sem, ↓reduceIte, reduceCtorEq, nA, nB, nC, nD, nE, nF, hI3, hml] <;> and_intros <;> first | (apply hK1; clear hK1 K1) | (intros; first | omega | decide | (simp_all <;> omega)) | skip))))
 refine awp_seq ?_
 (repeat (first | refine gQ rfl ?_ | ((first | refine gM zM3C ?_ | (with_reducible refine wM ?_ ?_) | ((with_reducible refine xS ?_); refine uD 9 zM3C zP1CE zP1CP 96 rfl (by kernel_rfl) ?_)) <;> ((try with_reducible intro K1 hK1); simp only [go_sem, ↓reduceIte, reduceCtorEq, nA, nB, nC, nD, nE, nF, hI3, hml] <;> and_intros <;> first | (apply hK1; clear hK1 K1) | (intros; first | omega | decide | (simp_all <;> omega)) | skip))))
 refine awp_loopC (rl false [0, 3, 5, 1, 1, 2, 33, 3, 48]) 0 (fun g s => ∃ j : Nat, g + j = gone.length ∧
  s = ⟨((.ptr ci 0) :: (.v (.string item)) :: (.v (.int .i64 bytes)) :: (jnk 5 ((.ptr i 0) :: AV.junk :: ((fk) :: (.row 1 ((gone.take j).map fun p => encNm (K p)) (some kt)) :: (jnk 33 ((.row 1 (gone.map encR) (some kg)) :: (.v (.int .i64 gone.length)) :: (.v (.int .i64 j)) :: (jnk 48 []))))))), [], ⟨upd h.H i (some (.cells [.row 1 (gone.map encR) (some kg)])), upd T2 kt (some (.tail j))⟩⟩) gone.length ⟨0, by omega, congrArg (fun z => (⟨((.ptr ci 0) :: (.v (.string item)) :: (.v (.int .i64 bytes)) :: (jnk 5 ((.ptr i 0) :: AV.junk :: ((z) :: (.row 1 ((gone.take 0).map fun p => encNm (K p)) (some kt)) :: (jnk 33 ((.row 1 (gone.map encR) (some kg)) :: (.v (.int .i64 gone.length)) :: (.v (.int .i64 ((0 : Nat) : Int))) :: (jnk 48 []))))))), [], ⟨upd h.H i (some (.cells [.row 1 (gone.map encR) (some kg)])), upd T2 kt (some (.tail 0))⟩⟩ : St)) hcl⟩ ?_
 rintro g _ ⟨j, hj, rfl⟩
 (repeat (first | refine gO rfl ?_ | ((first | refine gM zM3C ?_ | (with_reducible refine wM ?_ ?_) | ((with_reducible refine xS ?_); refine uD 9 zM3C zP1CE zP1CP 96 rfl (by kernel_rfl) ?_)) <;> ((try with_reducible intro K1 hK1); simp only [go_sem, ↓reduceIte, reduceCtorEq, nA, nB, nC, nD, nE, nF] <;> and_intros <;> first | (apply hK1; clear hK1 K1) | (intros; first | omega | decide) | skip))))
 refine awp_cond (t := _) rfl (fun h1 => ?_) (fun h1 => ?_)
 ·simp only [decide_eq_true_eq] at h1
  have hjl : j < gone.length := by omega
  have gx : (gone.map encR).getD j [] = encR (gone.getD j default) := getD_enc encR gone j default hjl
  have htj := take_at' gone j default hjl
  have hpm : gone.getD j default ∈ ps := hgmem _ (by rw [List.getD_eq_getElem?_getD, List.getElem?_eq_getElem hjl]; exact List.getElem_mem _)
  obtain ⟨p, hp⟩ : ∃ p, gone.getD j default = p := ⟨_, rfl⟩
  rw [hp] at gx htj hpm
  have hhp := hK3 p hpm
  have hen : encNm (K p) = [.v (.string (K p).1)] := rfl
  have htl : (gone.take j).length = j := by rw [List.length_take]; omega
  have htk : upd T2 kt (some (TO.tail j)) kt = some (.tail j) := upd_same _ _ _
  generalize hx : K p = x at *
  obtain ⟨ke, by1, pi, ca, la, ma⟩ := x
  (repeat (first | refine gO rfl ?_ | ((first | refine gM zM3C ?_ | (with_reducible refine wM ?_ ?_) | ((with_reducible refine xS ?_); refine uD 9 zM3C zP1CE zP1CP 96 rfl (by kernel_rfl) ?_)) <;> ((try with_reducible intro K1 hK1); simp only [go_sem, ↓reduceIte, reduceCtorEq, nA, nB, nC, nD, nE, nF, hml, Int.toNat_natCast, gx, encR, hhp, encKp, List.length_map, htl, htk] <;> and_intros <;> first | (apply hK1; clear hK1 K1) | (intros; first | omega | decide) | skip))))
  refine ⟨g - 1, by omega, j + 1, by omega, ?_⟩
  rw [htj, List.map_append, List.map_cons, hx, hen]
  exact congrArg (fun z => (⟨((.ptr ci 0) :: (.v (.string item)) :: (.v (.int .i64 bytes)) :: (jnk 5 ((.ptr i 0) :: AV.junk :: ((z) :: (.row 1 (((gone.take j).map fun p => encNm (K p)) ++ [[.v (.string ke)]]) (some kt)) :: (jnk 33 ((.row 1 (gone.map encR) (some kg)) :: (.v (.int .i64 gone.length)) :: (.v (.int .i64 ((j : Int) + 1))) :: (jnk 48 []))))))), [], ⟨upd h.H i (some (.cells [.row 1 (gone.map encR) (some kg)])), upd T2 kt (some (.tail (j + 1)))⟩⟩ : St)) hcl
 simp only [decide_eq_false_iff_not] at h1
 have hjl : j = gone.length := by omega
 subst hjl
 rw [List.take_length]
 have hT4 : upd T2 kt (some (TO.tail gone.length)) k = some (.cont 1 (ps.map encR)) := (upd_other _ _ hkk).trans hT2
 have hde := g_delK (caps := [.ptr i 0]) (fun p => gone.contains p) k ps ⟨upd h.H i (some (.cells [.row 1 (gone.map encR) (some kg)])), upd T2 kt (some (.tail gone.length))⟩ hT4 (by omega) (fun p hp T' => g_put1 (K := K) p kg i gone ⟨_, T'⟩ hI3 (hK3 p hp) (fun q hq => hK3 q (hgmem q hq)) (by omega))
 (repeat (first | refine gO rfl ?_ | ((first | refine gM zM3C ?_ | (with_reducible refine wM ?_ ?_) | ((with_reducible refine xS ?_); refine uD 9 zM3C zP1CE zP1CP 96 rfl (by kernel_rfl) ?_)) <;> ((try with_reducible intro K1 hK1); simp only [go_sem, ↓reduceIte, reduceCtorEq, nA, nB, nC, nD, nE, nF, hC3, encCa] <;> and_intros <;> first | (apply hK1; clear hK1 K1) | (intros; first | omega | decide) | skip))))
 refine hde.mono ?_
 rintro _ ⟨H5, T5⟩ ⟨q, rfl, hH5, hT5, hoth⟩
 simp only at hH5 hT5 hoth
 subst hH5
 refine hK1 _ ?_; clear hK1 K1 hde
 have hst : ps.filter (fun p => !gone.contains p) = stayF gone ps := rfl
 rw [hst] at hT5 ⊢
 have hsm : ∀ p ∈ stayF gone ps, p ∈ ps := fun p hp => (List.mem_filter.1 hp).1
 have hsl : (stayF gone ps).length ≤ ps.length := List.length_filter_le _ _
 have hsmap := stayF_map (K := K) hone hgmem
 have hone2 : KeysOne ((stayF gone ps).map K) := by rw [hsmap]; exact keysOne_filter hone _
 have hrow : gone.map (fun p => encNm (K p)) = (gone.map K).map encNm := by rw [List.map_map]; rfl
 have hTfr : ∀ t, h.T t ≠ none → t ≠ k → T5 t = h.T t ∧ t ≠ q := fun t ht htk => by
  have h1 := hold t ht
  have h2 : t ≠ kt := by rintro rfl; rw [h1] at hkt; exact ht hkt
  have h3 := hoth t htk (by rw [upd_other _ _ h2, h1]; exact ht)
  exact ⟨h3.2.trans ((upd_other _ _ h2).trans h1), h3.1⟩
 have hpci : ∀ p ∈ ps, p ≠ ci := fun p hp => by rintro rfl; exact hci hp
 generalize hSt : stayF gone ps = st at *
 rcases hfc with ⟨hhas, rfl⟩ | ⟨p, hp, hpk, hhas, rfl⟩
 ·unfold nilP
  (repeat (first | refine gO rfl ?_ | ((first | refine gM zM3C ?_ | (with_reducible refine wM ?_ ?_) | ((with_reducible refine xS ?_); refine uD 9 zM3C zP1CE zP1CP 96 rfl (by kernel_rfl) ?_)) <;> ((try with_reducible intro K1 hK1); simp only [go_sem, ↓reduceIte, reduceCtorEq, nA, nB, nC, nD, nE, nF, hC3, encCa] <;> and_intros <;> first | (apply hK1; clear hK1 K1) | (intros; first | omega | decide) | skip))))
  obtain ⟨H6, hH6⟩ : ∃ H6, H6 = upd (upd h.H i (some (AO.cells [AV.row 1 (List.map encR gone) (some kg)]))) ci (some (AO.cells [.v (.int .i64 room), .v (.int .i64 rule), .v (.int .i64 now), AV.arr 1 q st.length])) := ⟨_, rfl⟩
  rw [← hH6]
  have c6 : H6 ci = some (.cells (encCa room rule now q st.length)) := by rw [hH6]; exact upd_same _ _ _
  have k6 : ∀ r, r ≠ ci → r ≠ i → H6 r = h.H r := fun r h1 h2 => by rw [hH6, upd_other _ _ h1, upd_other _ _ h2]
  clear hH6
  refine awp_cond (t := _) rfl (fun _ => ?_) (fun h9 => by cases h9)
  (repeat (first | refine gO rfl ?_ | ((first | refine gM zM3C ?_ | (with_reducible refine wM ?_ ?_) | ((with_reducible refine xS ?_); refine uD 9 zM3C zP1CE zP1CP 96 rfl (by kernel_rfl) ?_)) <;> ((try with_reducible intro K1 hK1); simp only [go_sem, ↓reduceIte, reduceCtorEq, nA, nB, nC, nD, nE, nF, c6, encCa] <;> and_intros <;> first | (apply hK1; clear hK1 K1) | (intros; first | omega | decide) | skip))))
  intro pn hpn
  replace hpn : H6 pn = none := hpn
  refine hK1 _ ?_; clear hK1 K1
  have hcn : ci ≠ pn := by rintro rfl; rw [c6] at hpn; cases hpn
  have hnc : pn ≠ ci := fun e => hcn e.symm
  have hrn : ∀ r, h.H r ≠ none → r ≠ ci → r ≠ pn := fun r hr h1 => by
   rintro rfl
   rw [k6 r h1 (by rintro rfl; exact hr hi)] at hpn
   exact hr hpn
  have hstl : (st.map encR).length = st.length := List.length_map _
  have hTq : ∀ X, upd T5 q (some (TO.cont 1 X)) q = some (.cont 1 X) := fun X => upd_same _ _ _
  have hask := fun H T n (hc : H ci = some (.cells (encCa room rule now q n))) (hpp : H pn = some (.cells (encKp (item, bytes, false, now + 1, 0, 0)))) => g_ask (x := (item, bytes, false, now + 1, 0, 0)) (h := ⟨H, T⟩) hc hpp hcn (by omega) (by show (0 : Int) ≤ 0 ∧ (0 : Int) ≤ 1000000000; omega)
  (repeat (first | refine gO rfl ?_ | ((first | refine gM zM3C ?_ | (with_reducible refine wM ?_ ?_) | ((with_reducible refine xS ?_); refine uD 9 zM3C zP1CE zP1CP 96 rfl (by kernel_rfl) ?_)) <;> ((try with_reducible intro K1 hK1); simp only [go_sem, ↓reduceIte, reduceCtorEq, nA, nB, nC, nD, nE, nF, c6, encCa, upd_other _ _ hcn, upd_other _ _ hnc, upd_same, hT5, hstl] <;> and_intros <;> first | (apply hK1; clear hK1 K1) | (intros; first | omega | decide) | skip))))
  refine (hask _ _ (st.length + 1) ((upd_other _ _ hcn).trans (upd_same _ _ _)) (upd_same _ _ _)).mono ?_; rintro _ hz ⟨rfl, hh⟩; apply hK1; clear hK1 K1; rw [hh]; clear hh hz
  (repeat (first | refine gO rfl ?_ | ((first | refine gM zM3C ?_ | (with_reducible refine wM ?_ ?_) | ((with_reducible refine xS ?_); refine uD 9 zM3C zP1CE zP1CP 96 rfl (by kernel_rfl) ?_)) <;> ((try with_reducible intro K1 hK1); simp only [go_sem, ↓reduceIte, reduceCtorEq, nA, nB, nC, nD, nE, nF] <;> and_intros <;> first | (apply hK1; clear hK1 K1) | (intros; first | omega | decide) | skip))))
  simp only [Tryz.results122, go_sem, ↓reduceIte, reduceCtorEq, nA, nB, nC, nD, nE, nF]
  refine ⟨_, _, Weak.refl _, Hp.le.refl _, ?_⟩
  unfold PutR
  rw [hP, hhas, if_neg (by decide)]
  have hnst : pn ∉ st := fun hm => hrn pn (by rw [hK pn (hsm pn hm)]; simp) (hpci pn (hsm pn hm)) rfl
  have hKK : st.map (fun r => if r = pn then newK item bytes now else K r) = st.map K := List.map_congr_left fun r hr => if_neg (fun (e : r = pn) => hnst (e ▸ hr))
  refine ⟨fun r => if r = pn then newK item bytes now else K r, st ++ [pn], q, kt, by rw [hrow], ?_, fun r hr => ?_, ?_, ?_, fun hm => ?_, fun r hr h1 h2 => ?_, fun t ht htk => ?_⟩
  ·rw [List.map_append, hKK, hsmap, List.map_cons, List.map_nil, if_pos rfl]
  ·show upd (upd _ ci _) pn _ r = some (AO.cells (encKp (if r = pn then newK item bytes now else K r)))
   by_cases e : r = pn
   ·rw [e, upd_same, if_pos rfl]; rfl
   ·have hrs : r ∈ st := by
     rcases List.mem_append.1 hr with h1 | h1
     ·exact h1
     ·exact absurd (List.mem_singleton.1 h1) e
    rw [upd_other _ _ e, upd_other _ _ (hpci r (hsm r hrs)), upd_other _ _ e, upd_other _ _ (hpci r (hsm r hrs)), upd_other _ _ e, k6 r (hpci r (hsm r hrs)) (hpi r (hsm r hrs)), if_neg e]
    exact hK r (hsm r hrs)
  ·show upd (upd _ ci _) pn _ ci = _
   rw [upd_other _ _ hcn, upd_same, List.length_append, List.length_singleton]
  ·show upd T5 q _ q = _
   rw [upd_same, List.map_append]; rfl
  ·rcases List.mem_append.1 hm with h1 | h1
   ·exact hci (hsm ci h1)
   ·exact hcn (List.mem_singleton.1 h1)
  ·show upd (upd _ ci _) pn _ r = _
   have e : r ≠ pn := hrn r hr h1
   have ei : r ≠ i := by rintro rfl; exact hr hi
   rw [upd_other _ _ e, upd_other _ _ h1, upd_other _ _ e, upd_other _ _ h1, upd_other _ _ e, k6 r h1 ei]
  ·show upd T5 q _ t = _
   rw [upd_other _ _ (hTfr t ht htk).2]; exact (hTfr t ht htk).1
 ·(repeat (first | refine gO rfl ?_ | ((first | refine gM zM3C ?_ | (with_reducible refine wM ?_ ?_) | ((with_reducible refine xS ?_); refine uD 9 zM3C zP1CE zP1CP 96 rfl (by kernel_rfl) ?_)) <;> ((try with_reducible intro K1 hK1); simp only [go_sem, ↓reduceIte, reduceCtorEq, nA, nB, nC, nD, nE, nF, hC3, encCa] <;> and_intros <;> first | (apply hK1; clear hK1 K1) | (intros; first | omega | decide) | skip))))
  obtain ⟨H6, hH6⟩ : ∃ H6, H6 = upd (upd h.H i (some (AO.cells [AV.row 1 (List.map encR gone) (some kg)]))) ci (some (AO.cells [.v (.int .i64 room), .v (.int .i64 rule), .v (.int .i64 now), AV.arr 1 q st.length])) := ⟨_, rfl⟩
  rw [← hH6]
  have c6 : H6 ci = some (.cells (encCa room rule now q st.length)) := by rw [hH6]; exact upd_same _ _ _
  have k6 : ∀ r, r ≠ ci → r ≠ i → H6 r = h.H r := fun r h1 h2 => by rw [hH6, upd_other _ _ h1, upd_other _ _ h2]
  clear hH6
  refine awp_cond (t := _) rfl (fun h9 => by cases h9) (fun _ => ?_)
  have p6 : H6 p = some (.cells (encKp (K p))) := (k6 p (hpci p hp) (hpi p hp)).trans (hK p hp)
  have hMp := hM p hp
  have hask := fun H (hc : H ci = some (.cells (encCa room rule now q st.length))) (hpp : H p = some (.cells (encKp (setB bytes (K p))))) => g_ask (x := setB bytes (K p)) (h := ⟨H, T5⟩) hc hpp (hpci p hp).symm (by omega) hMp
  have hcp : ci ≠ p := (hpci p hp).symm
  have hKe : encKp (setB bytes (K p)) = [.v (.string (K p).1), .v (.int .i64 bytes), .v (.bool (K p).2.2.1), .v (.int .i64 (K p).2.2.2.1), .v (.int .i64 (K p).2.2.2.2.1), .v (.int .i64 (K p).2.2.2.2.2)] := rfl
  have hKe2 : encKp (K p) = [.v (.string (K p).1), .v (.int .i64 (K p).2.1), .v (.bool (K p).2.2.1), .v (.int .i64 (K p).2.2.2.1), .v (.int .i64 (K p).2.2.2.2.1), .v (.int .i64 (K p).2.2.2.2.2)] := rfl
  rw [hKe2] at p6
  (repeat (first | refine gO rfl ?_ | ((first | refine gM zM3C ?_ | (with_reducible refine wM ?_ ?_) | ((with_reducible refine xS ?_); refine uD 9 zM3C zP1CE zP1CP 96 rfl (by kernel_rfl) ?_)) <;> ((try with_reducible intro K1 hK1); simp only [go_sem, ↓reduceIte, reduceCtorEq, nA, nB, nC, nD, nE, nF, p6] <;> and_intros <;> first | (apply hK1; clear hK1 K1) | (intros; first | omega | decide) | skip))))
  refine (hask _ ((upd_other _ _ hcp).trans c6) (by rw [hKe]; exact upd_same _ _ _)).mono ?_; rintro _ hz ⟨rfl, hh⟩; apply hK1; clear hK1 K1; rw [hh]; clear hh hz
  (repeat (first | refine gO rfl ?_ | ((first | refine gM zM3C ?_ | (with_reducible refine wM ?_ ?_) | ((with_reducible refine xS ?_); refine uD 9 zM3C zP1CE zP1CP 96 rfl (by kernel_rfl) ?_)) <;> ((try with_reducible intro K1 hK1); simp only [go_sem, ↓reduceIte, reduceCtorEq, nA, nB, nC, nD, nE, nF] <;> and_intros <;> first | (apply hK1; clear hK1 K1) | (intros; first | omega | decide) | skip))))
  simp only [Tryz.results122, go_sem, ↓reduceIte, reduceCtorEq, nA, nB, nC, nD, nE, nF]
  refine ⟨_, _, Weak.refl _, Hp.le.refl _, ?_⟩
  unfold PutR
  rw [hP, hhas, if_pos rfl]
  have hps : p ∈ st := by
   rw [← hSt]
   refine List.mem_filter.2 ⟨hp, ?_⟩
   cases hc : gone.contains p with
   | false => rfl
   | true => exact absurd hpk (hgnot p (List.contains_iff_mem.1 hc))
  refine ⟨fun r => if r = p then askF (now + 1) (setB bytes (K p)) else K r, st, q, kt, by rw [hrow], ?_, fun r hr => ?_, ?_, hT5, fun hm => hci (hsm ci hm), fun r hr h1 h2 => ?_, fun t ht htk => (hTfr t ht htk).1⟩
  ·rw [← hsmap]
   exact atK_map (fun x => askF (now + 1) (setB bytes x)) hone2 hps hpk
  ·show upd (upd _ ci _) p _ r = some (AO.cells (encKp (if r = p then askF (now + 1) (setB bytes (K p)) else K r)))
   by_cases e : r = p
   ·subst e; rw [upd_same, if_pos rfl]
   ·rw [upd_other _ _ e, upd_other _ _ (hpci r (hsm r hr)), upd_other _ _ e, k6 r (hpci r (hsm r hr)) (hpi r (hsm r hr)), if_neg e]
    exact hK r (hsm r hr)
  ·show upd (upd _ ci _) p _ ci = _
   rw [upd_other _ _ hcp, upd_same]
  ·show upd (upd _ ci _) p _ r = _
   have e : r ≠ p := fun e => h2 (e ▸ hp)
   have ei : r ≠ i := by rintro rfl; exact hr hi
   rw [upd_other _ _ e, upd_other _ _ h1, upd_other _ _ e, k6 r h1 ei]
def missB (room rule : Int) : List ByteArray → Int → List Kp → Bool
  | [], _, _ => true
  | s :: l, now, L => decide (L.length ≤ 11) && (if hasL s L then missB room rule l (now + 1) (atK s (askF (now + 1)) L) else
    match putL room rule now L s 1 with
    | some (L', _) => missB room rule l (now + 1) L'
    | none => false)
def OkL (now : Int) (L : List Kp) : Prop := ∀ x ∈ L, x.2.1 = 1 ∧ 0 ≤ x.2.2.2.2.2 ∧ x.2.2.2.2.2 ≤ now
theorem OkL.ask {now : Int} {L : List Kp} (h : OkL now L) (s : ByteArray) : OkL (now + 1) (atK s (askF (now + 1)) L) := fun x hx => by
  obtain ⟨y, hy, rfl⟩ := List.mem_map.1 hx
  have := h y hy
  split
  · exact ⟨this.1, by show 0 ≤ y.2.2.2.2.2 + 1 ∧ y.2.2.2.2.2 + 1 ≤ now + 1; omega⟩
  · exact ⟨this.1, by omega⟩
theorem OkL.put {now : Int} {L L' g : List Kp} (h : OkL now L) (h0 : 0 ≤ now) {room rule : Int} {s : ByteArray} (hp : putL room rule now L s 1 = some (L', g)) : OkL (now + 1) L' := by
  unfold putL at hp
  split at hp
  · simp only [Option.some.injEq, Prod.mk.injEq] at hp
    obtain ⟨rfl, _⟩ := hp
    split
    · intro x hx
      obtain ⟨y, hy, rfl⟩ := List.mem_map.1 hx
      have := h y (leftL_sub hy)
      split
      · exact ⟨rfl, by show 0 ≤ y.2.2.2.2.2 + 1 ∧ y.2.2.2.2.2 + 1 ≤ now + 1; omega⟩
      · exact ⟨this.1, by omega⟩
    · intro x hx
      rcases List.mem_append.1 hx with hx | hx
      · have := h x (leftL_sub hx)
        exact ⟨this.1, by omega⟩
      · rw [List.mem_singleton] at hx
        subst hx
        exact ⟨rfl, by show (0 : Int) ≤ 1 ∧ (1 : Int) ≤ now + 1; omega⟩
  · cases hp
theorem missL_cons (room rule : Int) (s : ByteArray) (l : List ByteArray) (now : Int) (L : List Kp) (n : Int) : missL room rule (s :: l) now L n = if hasL s L then missL room rule l (now + 1) (atK s (askF (now + 1)) L) n else
    match putL room rule now L s 1 with
    | some (L', _) => missL room rule l (now + 1) L' (n + 1)
    | none => none := rfl
theorem missB_cons (room rule : Int) (s : ByteArray) (l : List ByteArray) (now : Int) (L : List Kp) : missB room rule (s :: l) now L = (decide (L.length ≤ 11) && (if hasL s L then missB room rule l (now + 1) (atK s (askF (now + 1)) L) else
    match putL room rule now L s 1 with
    | some (L', _) => missB room rule l (now + 1) L'
    | none => false)) := rfl
def encT (x : ByteArray) : List AV := [.v (.string x)]
theorem g_ruleFault (rule : Int) (h : Hp) (h1 : 1 ≤ rule ∧ rule ≤ 4) : ACalls Tryz.prog 118 [.v (.int .i64 rule)] h (fun r h' => r = .v (.int .i64 0) ∧ h' = h) := by
 have hO := a_outside rule 1 4
 have hE : (decide (rule < 1) || decide (4 < rule)) = false := by simp; omega
 refine gE Tryz.func118 rfl (by kernel_rfl) 4 rfl fun c => ?_
 (repeat (first | refine gO rfl ?_ | (refine gR fun K1 hK1 => ?_; simp only [go_sem, ↓reduceIte, reduceCtorEq, nA, nB, nC, nD, nE, nF] <;> and_intros <;> first | (apply hK1; clear hK1 K1) | (intros; first | omega | decide | (simp_all <;> omega)) | skip)))
 refine (hO _).mono ?_; rintro _ hz ⟨rfl, hh⟩; apply hK1; clear hK1 K1; rw [hh]; clear hh hz
 rw [hE]
 (repeat (first | refine gO rfl ?_ | (refine gR fun K1 hK1 => ?_; simp only [go_sem, ↓reduceIte, reduceCtorEq, nA, nB, nC, nD, nE, nF] <;> and_intros <;> first | (apply hK1; clear hK1 K1) | (intros; first | omega | decide) | skip)))
 refine awp_cond (t := _) rfl (fun h9 => by cases h9) (fun _ => ?_)
 (repeat (first | refine gO rfl ?_ | (refine gR fun K1 hK1 => ?_; simp only [go_sem, ↓reduceIte, reduceCtorEq, nA, nB, nC, nD, nE, nF] <;> and_intros <;> first | (apply hK1; clear hK1 K1) | (intros; first | omega | decide) | skip)))
 simp only [Tryz.results118, go_sem, ↓reduceIte, reduceCtorEq, nA, nB, nC, nD, nE, nF]
 exact ⟨_, _, Weak.refl _, Hp.le.refl _, rfl, rfl⟩
theorem g_usesFault (l : List ByteArray) (h : Hp) (hl : l.length ≤ 2000) (hk : ∀ s ∈ l, keyB s = true ∧ s.size ≤ 1000) : ACalls Tryz.prog 119 [.row 1 (l.map encT) none] h (fun r h' => r = .v (.int .i64 0) ∧ h' = h) := by
 have hml : (l.map encT).length = l.length := List.length_map _
 have hb : decide ((2000 : Int) < (l.length : Int)) = false := by simp; omega
 refine gE Tryz.func119 rfl (by kernel_rfl) 17 rfl fun c => ?_
 (repeat (first | refine gO rfl ?_ | (refine gR fun K1 hK1 => ?_; simp only [go_sem, ↓reduceIte, reduceCtorEq, nA, nB, nC, nD, nE, nF, hml] <;> and_intros <;> first | (apply hK1; clear hK1 K1) | (intros; first | omega | decide | (simp_all <;> omega)) | skip)))
 refine awp_cond (t := _) rfl (fun h9 => by rw [hb] at h9; cases h9) (fun _ => ?_)
 (repeat (first | refine gO rfl ?_ | (refine gR fun K1 hK1 => ?_; simp only [go_sem, ↓reduceIte, reduceCtorEq, nA, nB, nC, nD, nE, nF, hml] <;> and_intros <;> first | (apply hK1; clear hK1 K1) | (intros; first | omega | decide) | skip)))
 refine awp_loopC (rl false [8, 3, 7]) 0 (fun g s => ∃ j : Nat, g + j = l.length ∧
  s = ⟨((jnk 8 ((.row 1 (l.map encT) none) :: (.v (.int .i64 l.length)) :: (.v (.int .i64 j)) :: (jnk 7 [])))), [], h⟩) l.length ⟨0, by omega, rfl⟩ ?_
 rintro g _ ⟨j, hj, rfl⟩
 (repeat (first | refine gO rfl ?_ | (refine gR fun K1 hK1 => ?_; simp only [go_sem, ↓reduceIte, reduceCtorEq, nA, nB, nC, nD, nE, nF] <;> and_intros <;> first | (apply hK1; clear hK1 K1) | (intros; first | omega | decide) | skip)))
 refine awp_cond (t := _) rfl (fun h1 => ?_) (fun h1 => ?_)
 ·simp only [decide_eq_true_eq] at h1
  have hjl : j < l.length := by omega
  have gx : (l.map encT).getD j [] = encT (l.getD j default) := getD_enc encT l j default hjl
  obtain ⟨hk1, hk2⟩ := hk (l.getD j default) (by rw [List.getD_eq_getElem?_getD, List.getElem?_eq_getElem hjl]; exact List.getElem_mem _)
  generalize l.getD j default = s at *
  have hkk := a_isKey s (by omega) h
  rw [hk1] at hkk
  (repeat (first | refine gO rfl ?_ | (refine gR fun K1 hK1 => ?_; simp only [go_sem, ↓reduceIte, reduceCtorEq, nA, nB, nC, nD, nE, nF, hml, Int.toNat_natCast, gx, encT] <;> and_intros <;> first | (apply hK1; clear hK1 K1) | (intros; first | omega | decide) | skip)))
  refine hkk.mono ?_; rintro _ hz ⟨rfl, hh⟩; apply hK1; clear hK1 K1; rw [hh]; clear hh hz
  (repeat (first | refine gO rfl ?_ | (refine gR fun K1 hK1 => ?_; simp only [go_sem, ↓reduceIte, reduceCtorEq, nA, nB, nC, nD, nE, nF] <;> and_intros <;> first | (apply hK1; clear hK1 K1) | (intros; first | omega | decide) | skip)))
  refine awp_cond (t := _) rfl (fun h9 => by cases h9) (fun _ => ?_)
  (repeat (first | refine gO rfl ?_ | (refine gR fun K1 hK1 => ?_; simp only [go_sem, ↓reduceIte, reduceCtorEq, nA, nB, nC, nD, nE, nF] <;> and_intros <;> first | (apply hK1; clear hK1 K1) | (intros; first | omega | decide) | skip)))
  exact ⟨g - 1, by omega, j + 1, by omega, rfl⟩
 ·(repeat (first | refine gO rfl ?_ | (refine gR fun K1 hK1 => ?_; simp only [go_sem, ↓reduceIte, reduceCtorEq, nA, nB, nC, nD, nE, nF] <;> and_intros <;> first | (apply hK1; clear hK1 K1) | (intros; first | omega | decide) | skip)))
  simp only [Tryz.results119, go_sem, ↓reduceIte, reduceCtorEq, nA, nB, nC, nD, nE, nF]
  exact ⟨_, _, Weak.refl _, Hp.le.refl _, rfl, rfl⟩
theorem g_misses (room rule N : Int) (l : List ByteArray) (h : Hp) (hr : 1 ≤ room ∧ room ≤ 500) (hru : 1 ≤ rule ∧ rule ≤ 4) (hl : l.length ≤ 2000) (hk : ∀ s ∈ l, keyB s = true ∧ s.size ≤ 1000) (hm : missL room rule l 0 [] 0 = some N) (hmb : missB room rule l 0 [] = true) :
  ACalls Tryz.prog 80 [.v (.int .i64 room), .v (.int .i64 rule), .row 1 (l.map encT) none] h (fun r h' => r = .tup [.v (.int .i64 N), .v (.int .i64 0)]) := by
 have hml : (l.map encT).length = l.length := List.length_map _
 have hO := a_outside room 1 500
 have hE : (decide (room < 1) || decide (500 < room)) = false := by simp; omega
 refine gE Tryz.func80 rfl (by kernel_rfl) 57 rfl fun c => ?_
 (repeat (first | refine gO rfl ?_ | (refine gM zM3D fun K1 hK1 => ?_; simp only [go_sem, ↓reduceIte, reduceCtorEq, nA, nB, nC, nD, nE, nF] <;> and_intros <;> first | (apply hK1; clear hK1 K1) | (intros; first | omega | decide | (simp_all <;> omega)) | skip)))
 refine (hO _).mono ?_; rintro _ hz ⟨rfl, hh⟩; apply hK1; clear hK1 K1; rw [hh]; clear hh hz
 rw [hE]
 (repeat (first | refine gO rfl ?_ | (refine gM zM3D fun K1 hK1 => ?_; simp only [go_sem, ↓reduceIte, reduceCtorEq, nA, nB, nC, nD, nE, nF] <;> and_intros <;> first | (apply hK1; clear hK1 K1) | (intros; first | omega | decide) | skip)))
 refine awp_cond (t := _) rfl (fun h9 => by cases h9) (fun _ => ?_)
 (repeat (first | refine gO rfl ?_ | (refine gM zM3D fun K1 hK1 => ?_; simp only [go_sem, ↓reduceIte, reduceCtorEq, nA, nB, nC, nD, nE, nF] <;> and_intros <;> first | (apply hK1; clear hK1 K1) | (intros; first | omega | decide) | skip)))
 refine (g_ruleFault rule _ hru).mono ?_; rintro _ hz ⟨rfl, hh⟩; apply hK1; clear hK1 K1; rw [hh]; clear hh hz
 (repeat (first | refine gO rfl ?_ | (refine gM zM3D fun K1 hK1 => ?_; simp only [go_sem, ↓reduceIte, reduceCtorEq, nA, nB, nC, nD, nE, nF] <;> and_intros <;> first | (apply hK1; clear hK1 K1) | (intros; first | omega | decide) | skip)))
 refine awp_cond (t := _) rfl (fun h9 => by cases h9) (fun _ => ?_)
 (repeat (first | refine gO rfl ?_ | (refine gM zM3D fun K1 hK1 => ?_; simp only [go_sem, ↓reduceIte, reduceCtorEq, nA, nB, nC, nD, nE, nF] <;> and_intros <;> first | (apply hK1; clear hK1 K1) | (intros; first | omega | decide) | skip)))
 refine (g_usesFault l _ hl hk).mono ?_; rintro _ hz ⟨rfl, hh⟩; apply hK1; clear hK1 K1; rw [hh]; clear hh hz
 (repeat (first | refine gO rfl ?_ | (refine gM zM3D fun K1 hK1 => ?_; simp only [go_sem, ↓reduceIte, reduceCtorEq, nA, nB, nC, nD, nE, nF] <;> and_intros <;> first | (apply hK1; clear hK1 K1) | (intros; first | omega | decide) | skip)))
 refine awp_cond (t := _) rfl (fun h9 => by cases h9) (fun _ => ?_)
 (repeat (first | refine gO rfl ?_ | (refine gM zM3D fun K1 hK1 => ?_; simp only [go_sem, ↓reduceIte, reduceCtorEq, nA, nB, nC, nD, nE, nF] <;> and_intros <;> first | (apply hK1; clear hK1 K1) | (intros; first | omega | decide) | skip)))
 intro ci hci
 refine hK1 _ ?_; clear hK1 K1
 (repeat (first | refine gO rfl ?_ | (refine gM zM3D fun K1 hK1 => ?_; simp only [go_sem, ↓reduceIte, reduceCtorEq, nA, nB, nC, nD, nE, nF, hml] <;> and_intros <;> first | (apply hK1; clear hK1 K1) | (intros; first | omega | decide) | skip)))
 refine awp_ownObj ci 3 1 (cs := [.v (.int .i64 room), .v (.int .i64 rule), .v (.int .i64 0), .v (.slice none 0 0)]) (upd_same _ _ _) rfl (fun k0 hk0 => ?_)
 refine awp_loopC (rl false [10, 2, 21, 3, 24]) 0 (fun g s => ∃ (j : Nat) (n : Int) (K : Nat → Kp) (ps : List Nat) (k : Nat) (h' : Hp), g + j = l.length ∧ missL room rule (l.drop j) j (ps.map K) n = some N ∧ missB room rule (l.drop j) j (ps.map K) = true ∧ 0 ≤ n ∧ n ≤ j ∧
   h'.H ci = some (.cells (encCa room rule j k ps.length)) ∧ h'.T k = some (.cont 1 (ps.map encR)) ∧ CacheH h' K ps ∧ ci ∉ ps ∧ KeysOne (ps.map K) ∧ OkL j (ps.map K) ∧
  s = ⟨((jnk 10 ((.ptr ci 0) :: (.v (.int .i64 n)) :: (jnk 21 ((.row 1 (l.map encT) none) :: (.v (.int .i64 l.length)) :: (.v (.int .i64 j)) :: (jnk 24 [])))))), [], h'⟩) l.length
  ⟨0, 0, fun _ => default, [], k0, ⟨upd (upd h.H ci (some (.cells [.v (.int .i64 room), .v (.int .i64 rule), .v (.int .i64 0), .v (.slice none 0 0)]))) ci (some (.cells (encCa room rule ((0 : Nat) : Int) k0 0))), upd h.T k0 (some (.cont 1 []))⟩, by omega, by rw [List.drop_zero]; exact hm, by rw [List.drop_zero]; exact hmb, by omega, by omega, upd_same _ _ _, upd_same _ _ _, (fun p hp => by cases hp), (by simp), List.Pairwise.nil, (fun x hx => by cases hx), rfl⟩ ?_
 rintro g _ ⟨j, n, K, ps, k, h', hj, hmj, hbj, hn0, hnj, hC, hT, hK, hcp, hone, hok, rfl⟩
 (repeat (first | refine gO rfl ?_ | (refine gM zM3D fun K1 hK1 => ?_; simp only [go_sem, ↓reduceIte, reduceCtorEq, nA, nB, nC, nD, nE, nF] <;> and_intros <;> first | (apply hK1; clear hK1 K1) | (intros; first | omega | decide) | skip)))
 refine awp_cond (t := _) rfl (fun h1 => ?_) (fun h1 => ?_)
 ·simp only [decide_eq_true_eq] at h1
  have hjl : j < l.length := by omega
  have gx : (l.map encT).getD j [] = encT (l.getD j default) := getD_enc encT l j default hjl
  have hdj := drop_at' l j default hjl
  obtain ⟨hk1, hk2⟩ := hk (l.getD j default) (by rw [List.getD_eq_getElem?_getD, List.getElem?_eq_getElem hjl]; exact List.getElem_mem _)
  generalize l.getD j default = s at *
  rw [hdj, missL_cons] at hmj
  rw [hdj, missB_cons, Bool.and_eq_true, decide_eq_true_eq, List.length_map] at hbj
  obtain ⟨hp11, hbj⟩ := hbj
  have hkk := fun h => a_isKey s (by omega) h
  rw [hk1] at hkk
  have hokp : ∀ p ∈ ps, (K p).2.1 = 1 ∧ 0 ≤ (K p).2.2.2.2.2 ∧ (K p).2.2.2.2.2 ≤ j := fun p hp => hok (K p) (List.mem_map_of_mem hp)
  have hfi := g_find (item := s) K ci k room rule j ps h' hC hT (by omega) hK
  have hfc := findF_cases s K ps
  (repeat (first | refine gO rfl ?_ | (refine gM zM3D fun K1 hK1 => ?_; simp only [go_sem, ↓reduceIte, reduceCtorEq, nA, nB, nC, nD, nE, nF, hml, Int.toNat_natCast, gx, encT] <;> and_intros <;> first | (apply hK1; clear hK1 K1) | (intros; first | omega | decide) | skip)))
  refine hfi.mono ?_
  rintro fk hz ⟨rfl, hh⟩; apply hK1; clear hK1 K1; rw [hh]; clear hh hz hfi
  rcases hfc with ⟨hhas, e⟩ | ⟨p, hp, hpk, hhas, e⟩
  ·rw [e]
   unfold nilP
   rw [hhas, if_neg (by decide)] at hmj hbj
   have hpu := g_put (room := room) (rule := rule) (now := j) (bytes := 1) (item := s) hC hT hp11 hK hcp hone hkk (fun p hp => by have := hokp p hp; omega) (fun p hp => by have := hokp p hp; omega) (by omega) (by omega) (by omega)
   unfold PutR at hpu
   cases hput : putL room rule j (ps.map K) s 1 with
   | none => rw [hput] at hmj; cases hmj
   | some y =>
    obtain ⟨L', gn⟩ := y
    rw [hput] at hmj hbj hpu
    simp only at hmj hbj hpu
    (repeat (first | refine gO rfl ?_ | (refine gM zM3D fun K1 hK1 => ?_; simp only [go_sem, ↓reduceIte, reduceCtorEq, nA, nB, nC, nD, nE, nF] <;> and_intros <;> first | (apply hK1; clear hK1 K1) | (intros; first | omega | decide) | skip)))
    refine awp_cond (t := _) rfl (fun h9 => by cases h9) (fun _ => ?_)
    (repeat (first | refine gO rfl ?_ | (refine gM zM3D fun K1 hK1 => ?_; simp only [go_sem, ↓reduceIte, reduceCtorEq, nA, nB, nC, nD, nE, nF] <;> and_intros <;> first | (apply hK1; clear hK1 K1) | (intros; first | omega | decide) | skip)))
    refine hpu.mono ?_
    rintro _ h2 ⟨K2, ps2, k2, kt, rfl, hL, hK2, hC2, hT2, hcp2, _, _⟩
    refine hK1 _ ?_; clear hK1 K1 hpu
    (repeat (first | refine gO rfl ?_ | (refine gM zM3D fun K1 hK1 => ?_; simp only [go_sem, ↓reduceIte, reduceCtorEq, nA, nB, nC, nD, nE, nF] <;> and_intros <;> first | (apply hK1; clear hK1 K1) | (intros; first | omega | decide) | skip)))
    refine awp_cond (t := _) rfl (fun h9 => by cases h9) (fun _ => ?_)
    (repeat (first | refine gO rfl ?_ | (refine gM zM3D fun K1 hK1 => ?_; simp only [go_sem, ↓reduceIte, reduceCtorEq, nA, nB, nC, nD, nE, nF] <;> and_intros <;> first | (apply hK1; clear hK1 K1) | (intros; first | omega | decide) | skip)))
    have hone2 := putL_one hput hone
    have hok2 := hok.put (by omega) hput
    rw [← hL] at hmj hbj hone2 hok2
    refine ⟨g - 1, by omega, j + 1, n + 1, K2, ps2, k2, h2, by omega, hmj, hbj, by omega, by omega, hC2, hT2, hK2, hcp2, hone2, hok2, rfl⟩
  ·rw [e]
   rw [hhas, if_pos rfl] at hmj hbj
   have hokk := hokp p hp
   have hpc : ci ≠ p := by rintro rfl; exact hcp hp
   have has := g_ask (now := j) hC (hK p hp) hpc (by omega) (by omega)
   (repeat (first | refine gO rfl ?_ | (refine gM zM3D fun K1 hK1 => ?_; simp only [go_sem, ↓reduceIte, reduceCtorEq, nA, nB, nC, nD, nE, nF] <;> and_intros <;> first | (apply hK1; clear hK1 K1) | (intros; first | omega | decide) | skip)))
   refine awp_cond (t := _) rfl (fun _ => ?_) (fun h9 => by cases h9)
   (repeat (first | refine gO rfl ?_ | (refine gM zM3D fun K1 hK1 => ?_; simp only [go_sem, ↓reduceIte, reduceCtorEq, nA, nB, nC, nD, nE, nF] <;> and_intros <;> first | (apply hK1; clear hK1 K1) | (intros; first | omega | decide) | skip)))
   refine has.mono ?_; rintro _ hz ⟨rfl, hh⟩; apply hK1; clear hK1 K1; rw [hh]; clear hh hz
   (repeat (first | refine gO rfl ?_ | (refine gM zM3D fun K1 hK1 => ?_; simp only [go_sem, ↓reduceIte, reduceCtorEq, nA, nB, nC, nD, nE, nF] <;> and_intros <;> first | (apply hK1; clear hK1 K1) | (intros; first | omega | decide) | skip)))
   have hat := atK_map (item := s) (fun x => askF ((j : Int) + 1) x) hone hp hpk
   have hone2 := atK_one (item := s) (f := askF ((j : Int) + 1)) (fun _ => rfl) hone
   have hok2 := hok.ask s
   rw [← hat] at hmj hbj hone2 hok2
   refine ⟨g - 1, by omega, j + 1, n, fun q => if q = p then askF ((j : Int) + 1) (K p) else K q, ps, k, ⟨upd (upd h'.H ci (some (.cells (encCa room rule ((j : Int) + 1) k ps.length)))) p (some (.cells (encKp (askF ((j : Int) + 1) (K p))))), h'.T⟩, by omega, hmj, hbj, by omega, by omega, (upd_other _ _ hpc).trans (upd_same _ _ _), hT, fun q hq => ?_, hcp, hone2, hok2, rfl⟩
   show upd (upd _ ci _) p _ q = some (AO.cells (encKp (if q = p then askF ((j : Int) + 1) (K p) else K q)))
   by_cases e2 : q = p
   ·rw [e2, upd_same, if_pos rfl]
   ·rw [upd_other _ _ e2, upd_other _ _ (by rintro rfl; exact hcp hq), if_neg e2]
    exact hK q hq
 ·simp only [decide_eq_false_iff_not] at h1
  have hjl : j = l.length := by omega
  subst hjl
  rw [List.drop_length] at hmj
  obtain rfl : n = N := by simpa [missL] using hmj
  (repeat (first | refine gO rfl ?_ | (refine gM zM3D fun K1 hK1 => ?_; simp only [go_sem, ↓reduceIte, reduceCtorEq, nA, nB, nC, nD, nE, nF] <;> and_intros <;> first | (apply hK1; clear hK1 K1) | (intros; first | omega | decide) | skip)))
  simp only [Tryz.results80, go_sem, ↓reduceIte, reduceCtorEq, nA, nB, nC, nD, nE, nF]
  exact ⟨_, _, Weak.refl _, Hp.le.refl _, rfl⟩
theorem g_miss5 (h : Hp) : ACalls Tryz.prog 80 [.v (.int .i64 2), .v (.int .i64 1), .row 1 [[.v (.string ⟨#[97]⟩)], [.v (.string ⟨#[98]⟩)], [.v (.string ⟨#[97]⟩)], [.v (.string ⟨#[99]⟩)], [.v (.string ⟨#[98]⟩)]] none] h (fun r h' => r = .tup [.v (.int .i64 4), .v (.int .i64 0)]) :=
 g_misses 2 1 4 [⟨#[97]⟩, ⟨#[98]⟩, ⟨#[97]⟩, ⟨#[99]⟩, ⟨#[98]⟩] h (by omega) (by omega) (by decide) (by decide) (by decide) (by decide)
end Go.Proofs.YtmghfolmgmhabaaGreatDoor
