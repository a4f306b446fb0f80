/- Rights and guests that are made. -/
import Derived.Test.YtmghfolmgmhabaaGreatDoorM1
import Derived.Test.YtmghfolmgmhabaaGreatDoorAvRun
import Derived.Test.YtmghfolmgmhabaaGreatDoorAvFz
import Derived.Lib.SlicesCompact
import Derived.Test.YtmghfolmgmhabaaGreatDoorShelf
import Derived.Shelf.RegionOpenPlain
import Derived.WalkKit
import Derived.Deep.LoopGhost
import Derived.Deep.RegionLaw
import Derived.Lib.Walk
import Derived.Sort.WalkB12
import Derived.Lib.SliceRun
import Derived.Lib.SlicesDelete
import Derived.Test.YtmghfolmgmhabaaGreatDoorAvClr
namespace Go.Proofs.YtmghfolmgmhabaaGreatDoor
open Go
set_option linter.unusedVariables false
set_option linter.unusedSimpArgs false
open Nat renaming reduceAdd → nA, reduceSub → nB, reduceMul → nC, reduceLT → nD, reduceLeDiff → nE, reduceEqDiff → nF, reduceMod → nG, reduceDiv → nH, reducePow → nI
abbrev zM20 : Option Tmp → Nat := mdL [(5, 2)]
abbrev zM21 : Option Tmp → Nat := mdL []
abbrev zM22 : Option Tmp → Nat := mdL [(4, 1)]
abbrev zM23 : Option Tmp → Nat := mdL [(11, 1)]
abbrev zM24 : Option Tmp → Nat := mdL [(2, 1), (6, 1)]
abbrev zM25 : Option Tmp → Nat := mdL [(7, 1)]
abbrev zM26 : Option Tmp → Nat := mdL [(6, 1), (7, 1), (11, 1)]
attribute [go_sem] zM20 zM21 zM22 zM23 zM24 zM25 zM26
abbrev zPAE : List Nat := [0, 1, 2, 3, 4, 5, 6, 7, 8, 10, 11, 12, 13, 15, 16, 20, 21, 23, 24]
abbrev zPAP : List (Nat × List Nat × List Nat) := [(9, [13], []), (14, [], []), (17, [], [18]), (19, [], []), (22, [], []), (25, [], [26, 27, 28]), (29, [], [30, 31]), (32, [], [33, 34]), (35, [], [])]
attribute [go_sem] zPAE zPAP
set_option maxRecDepth 100000
set_option maxHeartbeats 8000000
def encG : List ByteArray → AV
 | [] => .v (.slice none 0 0)
 | x :: l => .row 1 ((x :: l).map encS) none
def encGr (l : List ByteArray) : AV := .row 1 (l.map encS) none
theorem weakG (l : List ByteArray) : Weak (encG l) (encGr l) := by
 cases l with
 | nil => exact Weak.nil 1 0 0 ⟨rfl, rfl⟩
 | cons x l => exact Weak.refl _
def encRx (r : Rt) : List AV := [.v (.string r.1), encG r.2.1, .v (.int .i64 r.2.2.1), .v (.int .i64 r.2.2.2.1), .v (.bool r.2.2.2.2)]
def encRt (r : Rt) : List AV := [.v (.string r.1), encGr r.2.1, .v (.int .i64 r.2.2.1), .v (.int .i64 r.2.2.2.1), .v (.bool r.2.2.2.2)]
structure TgOk (l : List ByteArray) : Prop where
 len : l.length ≤ 3
 sz : ∀ s ∈ l, s.size ≤ 4
structure RtOk (r : Rt) : Prop where
 it : r.1.size ≤ 2
 tg : TgOk r.2.1
 fr : -1 ≤ r.2.2.1 ∧ r.2.2.1 ≤ 1000000000000
 en : -1 ≤ r.2.2.2.1 ∧ r.2.2.2.1 ≤ 1000000000000
structure Rt2 (r : Rt) : Prop extends RtOk r where
 two : r.2.1.length ≤ 2
def cityT : ByteArray := ⟨#[99, 105, 116, 121]⟩
def mallT : ByteArray := ⟨#[109, 97, 108, 108]⟩
theorem tg_ok {l : List ByteArray} (h : l ∈ [[], [], [cityT], [mallT], [cityT, mallT]]) : TgOk l ∧ l.length ≤ 2 := by
 simp only [List.mem_cons, List.not_mem_nil, or_false] at h
 rcases h with rfl | rfl | rfl | rfl | rfl <;> refine ⟨⟨by decide, ?_⟩, by decide⟩ <;> decide
theorem g_tags (i : Nat) (l : List Int) (a : Int) (h : Hp) (hl : SOk l) (ha : 0 ≤ a ∧ a ≤ 1000000) :
  ACalls Tryz.prog 61 [.ptr i 0] (h.st i l a) (fun r h' => ∃ t, t ∈ [[], [], [cityT], [mallT], [cityT, mallT]] ∧ r = encG t ∧ h' = h.st i l (a + 1)) := by
 refine gE Tryz.func61 rfl (by kernel_rfl) 10 rfl fun c => ?_
 (repeat (first | refine gO rfl ?_ | (refine gR fun K1 hK1 => ?_; simp only [go_sem, ↓reduceIte, reduceCtorEq, nA, nB, nC, nD, nE, nF] <;> and_intros <;> first | (apply hK1; clear hK1 K1) | (intros; first | omega | decide) | skip)))
 refine (g_next i l a 5 h hl (by omega) (by omega)).mono ?_; rintro _ _ ⟨x, hx, rfl, rfl⟩; apply hK1; clear hK1 K1
 have h5 : x = 0 ∨ x = 1 ∨ x = 2 ∨ x = 3 ∨ x = 4 := by omega
 clear hx
 rcases h5 with rfl | rfl | rfl | rfl | rfl
 all_goals
  (repeat (first | refine gO rfl ?_ | (refine gR fun K1 hK1 => ?_; simp only [go_sem, ↓reduceIte, reduceCtorEq, nA, nB, nC, nD, nE, nF] <;> and_intros <;> first | (apply hK1; clear hK1 K1) | (intros; first | omega | decide | (simp_all <;> omega)) | skip)))
  simp only [Tryz.results61, go_sem, ↓reduceIte, reduceCtorEq, nA, nB, nC, nD, nE, nF]
 ·exact ⟨rfl, _, _, Weak.refl _, Hp.le.refl _, [], by simp, rfl, rfl⟩
 ·exact ⟨rfl, _, _, Weak.refl _, Hp.le.refl _, [], by simp, rfl, rfl⟩
 ·exact ⟨rfl, _, _, Weak.refl _, Hp.le.refl _, [cityT], by simp, rfl, rfl⟩
 ·exact ⟨rfl, _, _, Weak.refl _, Hp.le.refl _, [mallT], by simp, rfl, rfl⟩
 ·exact ⟨rfl, _, _, Weak.refl _, Hp.le.refl _, [cityT, mallT], by simp, rfl, rfl⟩
theorem g_cloneG (t : List ByteArray) (h : Hp) (hb : t.length ≤ 1000) : ACalls Tryz.prog 63 [encG t] h (fun r h' => t = [] ∧ r = .v (.slice none 0 0) ∧ h' = h ∨ ∃ q, t ≠ [] ∧ h.T q = none ∧ r = .row 1 (t.map encS) (some q) ∧ h' = ⟨h.H, upd h.T q (some (.tail t.length))⟩) := by
 cases t with
 | nil =>
  show ACalls _ _ [.v (.slice none 0 0)] _ _
  refine gE Tryz.func63 rfl (by kernel_rfl) 7 rfl fun c => ?_
  (repeat (first | refine gO rfl ?_ | (refine gM zM20 fun K1 hK1 => ?_; simp only [go_sem, ↓reduceIte, reduceCtorEq, nA, nB, nC, nD, nE, nF] <;> and_intros <;> first | (apply hK1; clear hK1 K1) | (intros; first | omega | decide | (simp_all <;> omega)) | skip)))
  refine awp_cond (t := _) rfl (fun _ => ?_) (fun h1 => by cases h1)
  (repeat (first | refine gO rfl ?_ | (refine gM zM20 fun K1 hK1 => ?_; simp only [go_sem, ↓reduceIte, reduceCtorEq, nA, nB, nC, nD, nE, nF] <;> and_intros <;> first | (apply hK1; clear hK1 K1) | (intros; first | omega | decide | (simp_all <;> omega)) | skip)))
  simp only [Tryz.results63, go_sem, ↓reduceIte, reduceCtorEq, nA, nB, nC, nD, nE, nF]
  exact ⟨_, _, Weak.refl _, Hp.le.refl _, .inl ⟨rfl, rfl⟩⟩
 | cons x xs =>
  have hml : (xs.map encS).length = xs.length := List.length_map _
  simp only [List.length_cons] at hb
  show ACalls _ _ [.row 1 (encS x :: xs.map encS) none] _ _
  refine gE Tryz.func63 rfl (by kernel_rfl) 7 rfl fun c => ?_
  (repeat (first | refine gO rfl ?_ | (refine gM zM20 fun K1 hK1 => ?_; simp only [go_sem, ↓reduceIte, reduceCtorEq, nA, nB, nC, nD, nE, nF] <;> and_intros <;> first | (apply hK1; clear hK1 K1) | (intros; first | omega | decide | (simp_all <;> omega)) | skip)))
  refine awp_cond (t := _) rfl (fun h1 => by cases h1) (fun _ => ?_)
  (repeat (first | refine gO rfl ?_ | (refine gM zM20 fun K1 hK1 => ?_; simp only [go_sem, ↓reduceIte, reduceCtorEq, nA, nB, nC, nD, nE, nF, hml] <;> and_intros <;> first | (apply hK1; clear hK1 K1) | (intros; first | omega | decide | (simp_all <;> omega)) | skip)))
  intro q hq
  and_intros <;> first | (refine hK1 _ ?_; clear hK1 K1) | exact .inl trivial | exact .inr rfl | exact .inr True.intro | exact True.intro | omega
  (repeat (first | refine gO rfl ?_ | (refine gM zM20 fun K1 hK1 => ?_; simp only [go_sem, ↓reduceIte, reduceCtorEq, nA, nB, nC, nD, nE, nF, hml] <;> and_intros <;> first | (apply hK1; clear hK1 K1) | (intros; first | omega | decide | (simp_all <;> omega)) | skip)))
  simp only [Tryz.results63, go_sem, ↓reduceIte, reduceCtorEq, nA, nB, nC, nD, nE, nF]
  exact ⟨_, _, Weak.refl _, Hp.le.refl _, .inr ⟨q, hq, rfl, rfl⟩⟩
structure RowsW (rows : List (List AV)) (ws : List Rt) : Prop where
 len : rows.length = ws.length
 wl : ∀ i, i < ws.length → WL (rows.getD i []) (encRt (ws.getD i default))
theorem wl_rx (r : Rt) : WL (encRx r) (encRt r) := WL.cons (Weak.refl _) (WL.cons (weakG _) (WL.refl _))
theorem RowsW.rx (ws : List Rt) : RowsW (ws.map encRx) ws := ⟨by simp, fun i hi => by rw [getD_enc encRx ws i default hi]; exact wl_rx _⟩
theorem RowsW.set {rows : List (List AV)} {ws : List Rt} (h : RowsW rows ws) (q : Nat) {cs : List AV} {r : Rt} (hc : WL cs (encRt r)) : RowsW (rows.set q cs) (ws.set q r) := ⟨by simp [h.len], fun i hi => by
 rw [List.length_set] at hi
 have hi2 : i < rows.length := by rw [h.len]; exact hi
 by_cases e : i = q
 ·subst e
  rw [List.getD_eq_getElem?_getD, List.getD_eq_getElem?_getD, List.getElem?_set_self hi, List.getElem?_set_self hi2]; exact hc
 ·have := h.wl i hi
  rw [List.getD_eq_getElem?_getD, List.getD_eq_getElem?_getD] at this ⊢
  rw [List.getElem?_set_ne (by omega), List.getElem?_set_ne (by omega)]; exact this⟩
theorem RowsW.weak {rows : List (List AV)} {ws : List Rt} (h : RowsW rows ws) (k : Option Nat) : Weak (.row 5 rows k) (.row 5 (ws.map encRt) k) :=
 Weak.rowE (by rw [h.len, List.length_map]) (fun y hy => by obtain ⟨x, _, rfl⟩ := List.mem_map.1 hy; rfl) fun i hi => by
  rw [h.len] at hi
  rw [getD_enc encRt ws i default hi]; exact h.wl i hi
theorem RowsW.five {rows : List (List AV)} {ws : List Rt} (h : RowsW rows ws) : ∀ y ∈ rows, y.length = 5 := fun y hy => by
 obtain ⟨i, hi, rfl⟩ := List.mem_iff_getElem.1 hy
 have := (h.wl i (by rw [← h.len]; exact hi)).1
 rw [List.getD_eq_getElem?_getD, List.getElem?_eq_getElem hi] at this
 exact this
theorem g_rights (i : Nat) (l : List Int) (a : Int) (N : Nat) (h : Hp) (hl : SOk l) (ha : 0 ≤ a ∧ a ≤ 100000) (hN : N ≤ 6) :
  ACalls Tryz.prog 8 [.ptr i 0, .v (.int .i64 N)] (h.st i l a) (fun r h' => ∃ (rs : List Rt) (a' : Int), rs.length = N ∧ (∀ x ∈ rs, RtOk x) ∧ (a ≤ a' ∧ a' ≤ a + 50) ∧ r = .row 5 (rs.map encRt) none ∧ h' = h.st i l a') := by
 refine gE Tryz.func8 rfl (by kernel_rfl) 93 rfl fun c => ?_
 (repeat (first | refine gQ rfl ?_ | ((first | refine gR ?_ | (with_reducible refine wM ?_ ?_) | ((with_reducible refine xR ?_); refine uE 11 zM21 zPAE zPAP 95 rfl (by kernel_rfl) ?_)) <;> ((try with_reducible intro K1 hK1); simp only [go_sem, ↓reduceIte, reduceCtorEq, nA, nB, nC, nD, nE, nF] <;> and_intros <;> first | (apply hK1; clear hK1 K1) | (intros; first | omega | decide | (simp_all <;> omega)) | skip))))
 refine awp_seq ?_
 refine awp_ownA 5 5 rfl ⟨rfl, rfl⟩ (fun k hk => ?_)
 replace hk : h.T k = none := hk
 (repeat (first | refine gO rfl ?_ | ((first | refine gR ?_ | (with_reducible refine wM ?_ ?_) | ((with_reducible refine xR ?_); refine uE 11 zM21 zPAE zPAP 95 rfl (by kernel_rfl) ?_)) <;> ((try with_reducible intro K1 hK1); simp only [go_sem, ↓reduceIte, reduceCtorEq, nA, nB, nC, nD, nE, nF] <;> and_intros <;> first | (apply hK1; clear hK1 K1) | (intros; first | omega | decide) | skip))))
 refine awp_loopC (rl false [0, 1, 4, 1, 2, 2, 85]) 0 (fun g s => ∃ (j : Nat) (ws : List Rt) (a' : Int), g + j = N ∧ ws.length = j ∧ (∀ x ∈ ws, Rt2 x) ∧ (a ≤ a' ∧ a' ≤ a + 5 * j) ∧
  s = ⟨((.ptr i 0) :: (jnk 4 ((.arr 5 k j) :: AV.junk :: AV.junk :: ((.v (.int .i64 N)) :: (.v (.int .i64 j)) :: (jnk 85 []))))), [], (Hp.mk h.H (upd h.T k (some (.cont 5 (ws.map encRx))))).st i l a'⟩) N ⟨0, [], a, by omega, rfl, by simp, by omega, rfl⟩ ?_
 rintro g _ ⟨j, ws, a1, hj, hwl, hwo, ha1, rfl⟩
 have hTq : ∀ a2, ((Hp.mk h.H (upd h.T k (some (.cont 5 (ws.map encRx))))).st i l a2).T k = some (TO.cont 5 (ws.map encRx)) := fun a2 => upd_same _ _ _
 have hlw : (ws.map encRx).length = j := by simpa using hwl
 have htt : ∀ a2 X, (Hp.mk ((Hp.mk h.H (upd h.T k (some (.cont 5 (ws.map encRx))))).st i l a2).H (upd ((Hp.mk h.H (upd h.T k (some (.cont 5 (ws.map encRx))))).st i l a2).T k X)) = (Hp.mk h.H (upd h.T k X)).st i l a2 := fun a2 X => by simp only [Hp.st, upd_upd]
 (repeat (first | refine gO rfl ?_ | ((first | refine gR ?_ | (with_reducible refine wM ?_ ?_) | ((with_reducible refine xR ?_); refine uE 11 zM21 zPAE zPAP 95 rfl (by kernel_rfl) ?_)) <;> ((try with_reducible intro K1 hK1); simp only [go_sem, ↓reduceIte, reduceCtorEq, nA, nB, nC, nD, nE, nF] <;> and_intros <;> first | (apply hK1; clear hK1 K1) | (intros; first | omega | decide) | skip))))
 refine awp_cond (t := _) rfl (fun h1 => ?_) (fun h1 => ?_)
 ·simp only [decide_eq_true_eq] at h1
  have hjl : j < N := by omega
  (repeat (first | refine gO rfl ?_ | ((first | refine gR ?_ | (with_reducible refine wM ?_ ?_) | ((with_reducible refine xR ?_); refine uE 11 zM21 zPAE zPAP 95 rfl (by kernel_rfl) ?_)) <;> ((try with_reducible intro K1 hK1); simp only [go_sem, ↓reduceIte, reduceCtorEq, nA, nB, nC, nD, nE, nF, hTq, hlw] <;> and_intros <;> first | (apply hK1; clear hK1 K1) | (intros; first | omega | decide) | skip))))
  refine (g_pick i l a1 [0, 0, 10, 30, 50] none _ hl (by omega) (by simp)).mono ?_; rintro _ _ ⟨x, hx, rfl, rfl⟩; apply hK1; clear hK1 K1
  simp only [List.mem_cons, List.not_mem_nil, or_false] at hx
  (repeat (first | refine gO rfl ?_ | ((first | refine gR ?_ | (with_reducible refine wM ?_ ?_) | ((with_reducible refine xR ?_); refine uE 11 zM21 zPAE zPAP 95 rfl (by kernel_rfl) ?_)) <;> ((try with_reducible intro K1 hK1); simp only [go_sem, ↓reduceIte, reduceCtorEq, nA, nB, nC, nD, nE, nF, hTq, hlw] <;> and_intros <;> first | (apply hK1; clear hK1 K1) | (intros; first | omega | decide) | skip))))
  refine (g_some i l (a1 + 1) [⟨#[105, 97]⟩, ⟨#[105, 97]⟩, ⟨#[105, 98]⟩, ⟨#[105, 99]⟩] none _ hl (by omega) (by simp)).mono ?_; rintro _ _ ⟨q, hq, rfl, rfl⟩; apply hK1; clear hK1 K1
  have hqs : q.size ≤ 2 := by
   simp only [List.mem_cons, List.not_mem_nil, or_false] at hq
   rcases hq with rfl | rfl | rfl | rfl <;> decide
  (repeat (first | refine gO rfl ?_ | ((first | refine gR ?_ | (with_reducible refine wM ?_ ?_) | ((with_reducible refine xR ?_); refine uE 11 zM21 zPAE zPAP 95 rfl (by kernel_rfl) ?_)) <;> ((try with_reducible intro K1 hK1); simp only [go_sem, ↓reduceIte, reduceCtorEq, nA, nB, nC, nD, nE, nF, hTq, hlw] <;> and_intros <;> first | (apply hK1; clear hK1 K1) | (intros; first | omega | decide) | skip))))
  refine (g_tags i l (a1 + 1 + 1) _ hl (by omega)).mono ?_; rintro _ _ ⟨tg, htg, rfl, rfl⟩; apply hK1; clear hK1 K1
  have htk := tg_ok htg
  cases tg with
  | nil =>
   unfold encG
   (repeat (first | refine gO rfl ?_ | ((first | refine gR ?_ | (with_reducible refine wM ?_ ?_) | ((with_reducible refine xR ?_); refine uE 11 zM21 zPAE zPAP 95 rfl (by kernel_rfl) ?_)) <;> ((try with_reducible intro K1 hK1); simp only [go_sem, ↓reduceIte, reduceCtorEq, nA, nB, nC, nD, nE, nF, hTq, hlw] <;> and_intros <;> first | (apply hK1; clear hK1 K1) | (intros; first | omega | decide) | skip))))
   refine (g_pick i l (a1 + 1 + 1 + 1) [1, 10, 20, 60, 1000] none _ hl (by omega) (by simp)).mono ?_; rintro _ _ ⟨y, hy, rfl, rfl⟩; apply hK1; clear hK1 K1
   simp only [List.mem_cons, List.not_mem_nil, or_false] at hy
   (repeat (first | refine gO rfl ?_ | ((first | refine gR ?_ | (with_reducible refine wM ?_ ?_) | ((with_reducible refine xR ?_); refine uE 11 zM21 zPAE zPAP 95 rfl (by kernel_rfl) ?_)) <;> ((try with_reducible intro K1 hK1); simp only [go_sem, ↓reduceIte, reduceCtorEq, nA, nB, nC, nD, nE, nF, hTq, hlw] <;> and_intros <;> first | (apply hK1; clear hK1 K1) | (intros; first | omega | decide) | skip))))
   refine (g_flip i l (a1 + 1 + 1 + 1 + 1) 3 _ hl (by omega) (by omega)).mono ?_; rintro _ _ ⟨bb, rfl, rfl⟩; apply hK1; clear hK1 K1
   (repeat (first | refine gO rfl ?_ | ((first | refine gR ?_ | (with_reducible refine wM ?_ ?_) | ((with_reducible refine xR ?_); refine uE 11 zM21 zPAE zPAP 95 rfl (by kernel_rfl) ?_)) <;> ((try with_reducible intro K1 hK1); simp only [go_sem, ↓reduceIte, reduceCtorEq, nA, nB, nC, nD, nE, nF, hTq, hlw, htt] <;> and_intros <;> first | (apply hK1; clear hK1 K1) | (intros; first | omega | decide) | skip))))
   refine ⟨g - 1, by omega, j + 1, ws ++ [(q, [], x, x + y, bb)], a1 + 1 + 1 + 1 + 1 + 1, by omega, by simp [hwl], fun z hz => ?_, by omega, ?_⟩
   ·rcases List.mem_append.1 hz with h9 | h9
    ·exact hwo z h9
    ·rw [List.mem_singleton.1 h9]
     exact ⟨⟨hqs, htk.1, ⟨by show _ ≤ x; omega, by show x ≤ _; omega⟩, ⟨by show _ ≤ x + y; omega, by show x + y ≤ _; omega⟩⟩, htk.2⟩
   ·rw [List.map_append]; rfl
  | cons t0 tg =>
   unfold encG
   (repeat (first | refine gO rfl ?_ | ((first | refine gR ?_ | (with_reducible refine wM ?_ ?_) | ((with_reducible refine xR ?_); refine uE 11 zM21 zPAE zPAP 95 rfl (by kernel_rfl) ?_)) <;> ((try with_reducible intro K1 hK1); simp only [go_sem, ↓reduceIte, reduceCtorEq, nA, nB, nC, nD, nE, nF, hTq, hlw] <;> and_intros <;> first | (apply hK1; clear hK1 K1) | (intros; first | omega | decide) | skip))))
   refine (g_pick i l (a1 + 1 + 1 + 1) [1, 10, 20, 60, 1000] none _ hl (by omega) (by simp)).mono ?_; rintro _ _ ⟨y, hy, rfl, rfl⟩; apply hK1; clear hK1 K1
   simp only [List.mem_cons, List.not_mem_nil, or_false] at hy
   (repeat (first | refine gO rfl ?_ | ((first | refine gR ?_ | (with_reducible refine wM ?_ ?_) | ((with_reducible refine xR ?_); refine uE 11 zM21 zPAE zPAP 95 rfl (by kernel_rfl) ?_)) <;> ((try with_reducible intro K1 hK1); simp only [go_sem, ↓reduceIte, reduceCtorEq, nA, nB, nC, nD, nE, nF, hTq, hlw] <;> and_intros <;> first | (apply hK1; clear hK1 K1) | (intros; first | omega | decide) | skip))))
   refine (g_flip i l (a1 + 1 + 1 + 1 + 1) 3 _ hl (by omega) (by omega)).mono ?_; rintro _ _ ⟨bb, rfl, rfl⟩; apply hK1; clear hK1 K1
   (repeat (first | refine gO rfl ?_ | ((first | refine gR ?_ | (with_reducible refine wM ?_ ?_) | ((with_reducible refine xR ?_); refine uE 11 zM21 zPAE zPAP 95 rfl (by kernel_rfl) ?_)) <;> ((try with_reducible intro K1 hK1); simp only [go_sem, ↓reduceIte, reduceCtorEq, nA, nB, nC, nD, nE, nF, hTq, hlw, htt] <;> and_intros <;> first | (apply hK1; clear hK1 K1) | (intros; first | omega | decide) | skip))))
   refine ⟨g - 1, by omega, j + 1, ws ++ [(q, t0 :: tg, x, x + y, bb)], a1 + 1 + 1 + 1 + 1 + 1, by omega, by simp [hwl], fun z hz => ?_, by omega, ?_⟩
   ·rcases List.mem_append.1 hz with h9 | h9
    ·exact hwo z h9
    ·rw [List.mem_singleton.1 h9]
     exact ⟨⟨hqs, htk.1, ⟨by show _ ≤ x; omega, by show x ≤ _; omega⟩, ⟨by show _ ≤ x + y; omega, by show x + y ≤ _; omega⟩⟩, htk.2⟩
   ·rw [List.map_append]; rfl
 ·simp only [decide_eq_false_iff_not] at h1
  obtain rfl : j = N := by omega
  clear hj h1
  (repeat (first | refine gQ rfl ?_ | ((first | refine gR ?_ | (with_reducible refine wM ?_ ?_) | ((with_reducible refine xR ?_); refine uE 11 zM21 zPAE zPAP 95 rfl (by kernel_rfl) ?_)) <;> ((try with_reducible intro K1 hK1); simp only [go_sem, ↓reduceIte, reduceCtorEq, nA, nB, nC, nD, nE, nF] <;> and_intros <;> first | (apply hK1; clear hK1 K1) | (intros; first | omega | decide | (simp_all <;> omega)) | skip))))
  refine awp_seqJ (rl false [0, 1, 4, 1, 89]) 0 (fun s => ∃ (ws2 : List Rt) (a2 : Int), ws2.length = j ∧ (∀ x ∈ ws2, Rt2 x) ∧ (a ≤ a2 ∧ a2 ≤ a + 32) ∧
   s = ⟨((.ptr i 0) :: (jnk 4 ((.arr 5 k j) :: (jnk 89 [])))), [], (Hp.mk h.H (upd h.T k (some (.cont 5 (ws2.map encRx))))).st i l a2⟩) ?_ ?_
  ·by_cases hn0 : j ≤ 1
   ·have hd0 : decide ((1 : Int) < (j : Int)) = false := by simp only [decide_eq_false_iff_not]; omega
    (repeat (first | refine gO rfl ?_ | ((first | refine gR ?_ | (with_reducible refine wM ?_ ?_) | ((with_reducible refine xR ?_); refine uE 11 zM21 zPAE zPAP 95 rfl (by kernel_rfl) ?_)) <;> ((try with_reducible intro K1 hK1); simp only [go_sem, ↓reduceIte, reduceCtorEq, nA, nB, nC, nD, nE, nF, hd0] <;> and_intros <;> first | (apply hK1; clear hK1 K1) | (intros; first | omega | decide) | skip))))
    refine awp_cond (t := _) rfl (fun h9 => by cases h9) (fun _ => ?_)
    (repeat (first | refine gO rfl ?_ | ((first | refine gR ?_ | (with_reducible refine wM ?_ ?_) | ((with_reducible refine xR ?_); refine uE 11 zM21 zPAE zPAP 95 rfl (by kernel_rfl) ?_)) <;> ((try with_reducible intro K1 hK1); simp only [go_sem, ↓reduceIte, reduceCtorEq, nA, nB, nC, nD, nE, nF] <;> and_intros <;> first | (apply hK1; clear hK1 K1) | (intros; first | omega | decide) | skip))))
    exact ⟨ws, a1, hwl, hwo, by omega, rfl⟩
   ·have hd0 : decide ((1 : Int) < (j : Int)) = true := by simp only [decide_eq_true_eq]; omega
    (repeat (first | refine gO rfl ?_ | ((first | refine gR ?_ | (with_reducible refine wM ?_ ?_) | ((with_reducible refine xR ?_); refine uE 11 zM21 zPAE zPAP 95 rfl (by kernel_rfl) ?_)) <;> ((try with_reducible intro K1 hK1); simp only [go_sem, ↓reduceIte, reduceCtorEq, nA, nB, nC, nD, nE, nF, hd0] <;> and_intros <;> first | (apply hK1; clear hK1 K1) | (intros; first | omega | decide) | skip))))
    rotate_left
    ·exact fun h => h.elim
    refine (g_flip i l a1 4 _ hl (by omega) (by omega)).mono ?_
    rintro _ _ ⟨bb, rfl, rfl⟩
    refine ⟨rfl, hK1 _ ?_⟩; clear hK1 K1
    (repeat (first | refine gO rfl ?_ | ((first | refine gR ?_ | (with_reducible refine wM ?_ ?_) | ((with_reducible refine xR ?_); refine uE 11 zM21 zPAE zPAP 95 rfl (by kernel_rfl) ?_)) <;> ((try with_reducible intro K1 hK1); simp only [go_sem, ↓reduceIte, reduceCtorEq, nA, nB, nC, nD, nE, nF, hd0] <;> and_intros <;> first | (apply hK1; clear hK1 K1) | (intros; first | omega | decide) | skip))))
    cases bb with
    | false =>
     refine awp_cond (t := _) rfl (fun h9 => by cases h9) (fun _ => ?_)
     (repeat (first | refine gO rfl ?_ | ((first | refine gR ?_ | (with_reducible refine wM ?_ ?_) | ((with_reducible refine xR ?_); refine uE 11 zM21 zPAE zPAP 95 rfl (by kernel_rfl) ?_)) <;> ((try with_reducible intro K1 hK1); simp only [go_sem, ↓reduceIte, reduceCtorEq, nA, nB, nC, nD, nE, nF] <;> and_intros <;> first | (apply hK1; clear hK1 K1) | (intros; first | omega | decide) | skip))))
     exact ⟨ws, a1 + 1, hwl, hwo, by omega, rfl⟩
    | true =>
     refine awp_cond (t := _) rfl (fun _ => ?_) (fun h9 => by cases h9)
     have tn1 : ((j : Int) - 1).toNat = j - 1 := by omega
     have hd5 : List.drop 5 ((ws.map encRx).getD (Int.toNat 0) []) = [] := by
      rw [show (ws.map encRx).getD (Int.toNat 0) [] = encRx (ws.getD 0 default) from getD_enc encRx ws 0 default (by omega)]; rfl
     have hqn : (j - 1) < ws.length := by omega
     have hqm : (j - 1) < (ws.map encRx).length := by simpa using hqn
     have gq : (ws.map encRx).getD (j - 1) [] = encRx (ws.getD (j - 1) default) := getD_enc encRx ws (j - 1) default hqn
     have hwq := hwo _ (show ws.getD (j - 1) default ∈ ws by rw [List.getD_eq_getElem?_getD, List.getElem?_eq_getElem hqn]; exact List.getElem_mem hqn)
     obtain ⟨⟨zi, zt, zf, zo, zb⟩, hz⟩ : ∃ z, ws.getD (j - 1) default = z := ⟨_, rfl⟩
     rw [hz] at gq hwq
     cases zt with
     | nil =>
      have hge : (encRx (zi, [], zf, zo, zb)) = [.v (.string zi), encG [], .v (.int .i64 zf), .v (.int .i64 zo), .v (.bool zb)] := rfl
      rw [hge] at gq
      unfold encG at gq
      (repeat (first | refine gO rfl ?_ | ((first | refine gR ?_ | (with_reducible refine wM ?_ ?_) | ((with_reducible refine xR ?_); refine uE 11 zM21 zPAE zPAP 95 rfl (by kernel_rfl) ?_)) <;> ((try with_reducible intro K1 hK1); simp only [go_sem, ↓reduceIte, reduceCtorEq, nA, nB, nC, nD, nE, nF, Int.toNat_natCast, hTq, hlw, gq, tn1, hd5, htt] <;> and_intros <;> first | (apply hK1; clear hK1 K1) | (intros; first | omega | decide) | skip))))
      refine ⟨ws.set 0 (zi, [], zf, zo, zb), a1 + 1, by rw [List.length_set, hwl], fun u hu => ?_, by omega, ?_⟩
      ·rcases List.mem_or_eq_of_mem_set hu with h9 | rfl
       ·exact hwo u h9
       ·exact hwq
      ·rw [show (ws.set 0 (zi, [], zf, zo, zb)).map encRx = (ws.map encRx).set 0 (encRx (zi, [], zf, zo, zb)) from List.map_set]; rfl
     | cons z0 zt =>
      have hge : (encRx (zi, (z0 :: zt), zf, zo, zb)) = [.v (.string zi), encG (z0 :: zt), .v (.int .i64 zf), .v (.int .i64 zo), .v (.bool zb)] := rfl
      rw [hge] at gq
      unfold encG at gq
      (repeat (first | refine gO rfl ?_ | ((first | refine gR ?_ | (with_reducible refine wM ?_ ?_) | ((with_reducible refine xR ?_); refine uE 11 zM21 zPAE zPAP 95 rfl (by kernel_rfl) ?_)) <;> ((try with_reducible intro K1 hK1); simp only [go_sem, ↓reduceIte, reduceCtorEq, nA, nB, nC, nD, nE, nF, Int.toNat_natCast, hTq, hlw, gq, tn1, hd5, htt] <;> and_intros <;> first | (apply hK1; clear hK1 K1) | (intros; first | omega | decide) | skip))))
      refine ⟨ws.set 0 (zi, (z0 :: zt), zf, zo, zb), a1 + 1, by rw [List.length_set, hwl], fun u hu => ?_, by omega, ?_⟩
      ·rcases List.mem_or_eq_of_mem_set hu with h9 | rfl
       ·exact hwo u h9
       ·exact hwq
      ·rw [show (ws.set 0 (zi, (z0 :: zt), zf, zo, zb)).map encRx = (ws.map encRx).set 0 (encRx (zi, (z0 :: zt), zf, zo, zb)) from List.map_set]; rfl
  rintro _ ⟨ws, a1, hwl, hwo, ha1, rfl⟩
  have hTq : ∀ a2, ((Hp.mk h.H (upd h.T k (some (.cont 5 (ws.map encRx))))).st i l a2).T k = some (TO.cont 5 (ws.map encRx)) := fun a2 => upd_same _ _ _
  have hlw : (ws.map encRx).length = j := by simpa using hwl
  have hTk : ∀ X t, h.T t = none ∨ upd h.T k X t = h.T t := fun X t => by
   by_cases e : t = k
   ·subst e; exact .inl hk
   ·exact .inr (upd_other _ _ e)
  have htt : ∀ a2 X, (Hp.mk ((Hp.mk h.H (upd h.T k (some (.cont 5 (ws.map encRx))))).st i l a2).H (upd ((Hp.mk h.H (upd h.T k (some (.cont 5 (ws.map encRx))))).st i l a2).T k X)) = (Hp.mk h.H (upd h.T k X)).st i l a2 := fun a2 X => by simp only [Hp.st, upd_upd]
  refine awp_seqJ (rl false [5, 1, 89]) 0 (fun s => ∃ (rows : List (List AV)) (ws2 : List Rt) (a2 : Int) (T' : Nat → Option TO), RowsW rows ws2 ∧ ws2.length = j ∧ (∀ x ∈ ws2, RtOk x) ∧ (a ≤ a2 ∧ a2 ≤ a + 50) ∧ (∀ t, h.T t = none ∨ T' t = h.T t) ∧ T' k = some (.cont 5 rows) ∧
   s = ⟨((jnk 5 ((.arr 5 k j) :: (jnk 89 [])))), [], ⟨(h.st i l a2).H, T'⟩⟩) ?_ ?_
  ·by_cases hn0 : j = 0
   ·have hd0 : decide ((0 : Int) < (j : Int)) = false := by simp only [decide_eq_false_iff_not]; omega
    (repeat (first | refine gO rfl ?_ | ((first | refine gR ?_ | (with_reducible refine wM ?_ ?_) | ((with_reducible refine xR ?_); refine uE 11 zM21 zPAE zPAP 95 rfl (by kernel_rfl) ?_)) <;> ((try with_reducible intro K1 hK1); simp only [go_sem, ↓reduceIte, reduceCtorEq, nA, nB, nC, nD, nE, nF, hd0] <;> and_intros <;> first | (apply hK1; clear hK1 K1) | (intros; first | omega | decide) | skip))))
    refine awp_cond (t := _) rfl (fun h9 => by cases h9) (fun _ => ?_)
    (repeat (first | refine gO rfl ?_ | ((first | refine gR ?_ | (with_reducible refine wM ?_ ?_) | ((with_reducible refine xR ?_); refine uE 11 zM21 zPAE zPAP 95 rfl (by kernel_rfl) ?_)) <;> ((try with_reducible intro K1 hK1); simp only [go_sem, ↓reduceIte, reduceCtorEq, nA, nB, nC, nD, nE, nF] <;> and_intros <;> first | (apply hK1; clear hK1 K1) | (intros; first | omega | decide) | skip))))
    exact ⟨ws.map encRx, ws, a1, _, RowsW.rx ws, hwl, fun x hx => (hwo x hx).toRtOk, by omega, hTk _, upd_same _ _ _, rfl⟩
   ·have hd0 : decide ((0 : Int) < (j : Int)) = true := by simp only [decide_eq_true_eq]; omega
    (repeat (first | refine gO rfl ?_ | ((first | refine gR ?_ | (with_reducible refine wM ?_ ?_) | ((with_reducible refine xR ?_); refine uE 11 zM21 zPAE zPAP 95 rfl (by kernel_rfl) ?_)) <;> ((try with_reducible intro K1 hK1); simp only [go_sem, ↓reduceIte, reduceCtorEq, nA, nB, nC, nD, nE, nF, hd0] <;> and_intros <;> first | (apply hK1; clear hK1 K1) | (intros; first | omega | decide) | skip))))
    rotate_left
    ·exact fun h => h.elim
    refine (g_flip i l a1 15 _ hl (by omega) (by omega)).mono ?_
    rintro _ _ ⟨bb, rfl, rfl⟩
    refine ⟨rfl, hK1 _ ?_⟩; clear hK1 K1
    (repeat (first | refine gO rfl ?_ | ((first | refine gR ?_ | (with_reducible refine wM ?_ ?_) | ((with_reducible refine xR ?_); refine uE 11 zM21 zPAE zPAP 95 rfl (by kernel_rfl) ?_)) <;> ((try with_reducible intro K1 hK1); simp only [go_sem, ↓reduceIte, reduceCtorEq, nA, nB, nC, nD, nE, nF, hd0] <;> and_intros <;> first | (apply hK1; clear hK1 K1) | (intros; first | omega | decide) | skip))))
    cases bb with
    | false =>
     refine awp_cond (t := _) rfl (fun h9 => by cases h9) (fun _ => ?_)
     (repeat (first | refine gO rfl ?_ | ((first | refine gR ?_ | (with_reducible refine wM ?_ ?_) | ((with_reducible refine xR ?_); refine uE 11 zM21 zPAE zPAP 95 rfl (by kernel_rfl) ?_)) <;> ((try with_reducible intro K1 hK1); simp only [go_sem, ↓reduceIte, reduceCtorEq, nA, nB, nC, nD, nE, nF] <;> and_intros <;> first | (apply hK1; clear hK1 K1) | (intros; first | omega | decide) | skip))))
     exact ⟨ws.map encRx, ws, a1 + 1, _, RowsW.rx ws, hwl, fun x hx => (hwo x hx).toRtOk, by omega, hTk _, upd_same _ _ _, rfl⟩
    | true =>
     refine awp_cond (t := _) rfl (fun _ => ?_) (fun h9 => by cases h9)
     (repeat (first | refine gO rfl ?_ | ((first | refine gR ?_ | (with_reducible refine wM ?_ ?_) | ((with_reducible refine xR ?_); refine uE 11 zM21 zPAE zPAP 95 rfl (by kernel_rfl) ?_)) <;> ((try with_reducible intro K1 hK1); simp only [go_sem, ↓reduceIte, reduceCtorEq, nA, nB, nC, nD, nE, nF] <;> and_intros <;> first | (apply hK1; clear hK1 K1) | (intros; first | omega | decide) | skip))))
     refine (g_next i l (a1 + 1) j _ hl (by omega) (by omega)).mono ?_; rintro _ _ ⟨x, hx, rfl, rfl⟩; apply hK1; clear hK1 K1
     obtain ⟨q, rfl⟩ : ∃ q : Nat, x = q := ⟨x.toNat, by omega⟩
     have hqn : q < ws.length := by omega
     have hqm : q < (ws.map encRx).length := by simpa using hqn
     have gq : (ws.map encRx).getD q [] = encRx (ws.getD q default) := getD_enc encRx ws q default hqn
     have hwq := hwo _ (show ws.getD q default ∈ ws by rw [List.getD_eq_getElem?_getD, List.getElem?_eq_getElem hqn]; exact List.getElem_mem hqn)
     have hgs : ∀ A, ((ws.map encRx).set q A).getD q [] = A := fun A => by rw [List.getD_eq_getElem?_getD, List.getElem?_set_self hqm]; rfl
     have hss : ∀ A B, ((ws.map encRx).set q A).set q B = (ws.map encRx).set q B := fun A B => List.set_set _
     have hsl : ∀ A, ((ws.map encRx).set q A).length = j := fun A => by rw [List.length_set, List.length_map, hwl]
     have hqq : q < j := by omega
     obtain ⟨⟨zi, zt, zf, zo, zb⟩, hz⟩ : ∃ z, ws.getD q default = z := ⟨_, rfl⟩
     rw [hz] at gq hwq
     have hge : (encRx (zi, zt, zf, zo, zb)) = [.v (.string zi), encG zt, .v (.int .i64 zf), .v (.int .i64 zo), .v (.bool zb)] := rfl
     have hcl := fun h => g_cloneG zt h (by have := hwq.tg.len; simp only at this; omega)
     rw [hge] at gq
     cases zt with
     | nil =>
      unfold encG at gq hcl
      (repeat (first | refine gO rfl ?_ | ((first | refine gR ?_ | (with_reducible refine wM ?_ ?_) | ((with_reducible refine xR ?_); refine uE 11 zM21 zPAE zPAP 95 rfl (by kernel_rfl) ?_)) <;> ((try with_reducible intro K1 hK1); simp only [go_sem, ↓reduceIte, reduceCtorEq, nA, nB, nC, nD, nE, nF, Int.toNat_natCast, hTq, hlw, gq, hqq] <;> and_intros <;> first | (apply hK1; clear hK1 K1) | (intros; first | omega | decide) | skip))))
      refine (g_some i l (a1 + 1 + 1) [zi, ⟨#[]⟩] none _ hl (by omega) (by simp)).mono ?_; rintro _ _ ⟨y1, hy1, rfl, rfl⟩; apply hK1; clear hK1 K1
      (repeat (first | refine gO rfl ?_ | ((first | refine gR ?_ | (with_reducible refine wM ?_ ?_) | ((with_reducible refine xR ?_); refine uE 11 zM21 zPAE zPAP 95 rfl (by kernel_rfl) ?_)) <;> ((try with_reducible intro K1 hK1); simp only [go_sem, ↓reduceIte, reduceCtorEq, nA, nB, nC, nD, nE, nF, Int.toNat_natCast, hTq, hlw, gq, hqq] <;> and_intros <;> first | (apply hK1; clear hK1 K1) | (intros; first | omega | decide) | skip))))
      all_goals try with_reducible rfl
      (repeat (first | refine gO rfl ?_ | ((first | refine gR ?_ | (with_reducible refine wM ?_ ?_) | ((with_reducible refine xR ?_); refine uE 11 zM21 zPAE zPAP 95 rfl (by kernel_rfl) ?_)) <;> ((try with_reducible intro K1 hK1); simp only [go_sem, ↓reduceIte, reduceCtorEq, nA, nB, nC, nD, nE, nF, Int.toNat_natCast, hTq, hlw, gq, hqq] <;> and_intros <;> first | (apply hK1; clear hK1 K1) | (intros; first | omega | decide) | skip))))
      all_goals try with_reducible rfl
      (repeat (first | refine gO rfl ?_ | ((first | refine gR ?_ | (with_reducible refine wM ?_ ?_) | ((with_reducible refine xR ?_); refine uE 11 zM21 zPAE zPAP 95 rfl (by kernel_rfl) ?_)) <;> ((try with_reducible intro K1 hK1); simp only [go_sem, ↓reduceIte, reduceCtorEq, nA, nB, nC, nD, nE, nF, Int.toNat_natCast, hTq, hlw, gq, hqq] <;> and_intros <;> first | (apply hK1; clear hK1 K1) | (intros; first | omega | decide) | skip))))
      all_goals try with_reducible rfl
      (repeat (first | refine gO rfl ?_ | ((first | refine gR ?_ | (with_reducible refine wM ?_ ?_) | ((with_reducible refine xR ?_); refine uE 11 zM21 zPAE zPAP 95 rfl (by kernel_rfl) ?_)) <;> ((try with_reducible intro K1 hK1); simp only [go_sem, ↓reduceIte, reduceCtorEq, nA, nB, nC, nD, nE, nF, Int.toNat_natCast, hTq, hlw, gq, hqq] <;> and_intros <;> first | (apply hK1; clear hK1 K1) | (intros; first | omega | decide) | skip))))
      refine (hcl _).mono ?_
      rintro _ _ (⟨_, rfl, rfl⟩ | ⟨q2, hne, _⟩)
      rotate_left
      ·exact absurd rfl hne
      refine hK1 _ ?_; clear hK1 K1
      (repeat (first | refine gO rfl ?_ | ((first | refine gR ?_ | (with_reducible refine wM ?_ ?_) | ((with_reducible refine xR ?_); refine uE 11 zM21 zPAE zPAP 95 rfl (by kernel_rfl) ?_)) <;> ((try with_reducible intro K1 hK1); simp only [go_sem, ↓reduceIte, reduceCtorEq, nA, nB, nC, nD, nE, nF, Int.toNat_natCast, hTq, hlw, gq, hqq] <;> and_intros <;> first | (apply hK1; clear hK1 K1) | (intros; first | omega | decide) | skip))))
      refine (g_some i l (a1 + 1 + 1 + 1) [cityT, ⟨#[65]⟩] none _ hl (by omega) (by simp)).mono ?_; rintro _ _ ⟨y2, hy2, rfl, rfl⟩; apply hK1; clear hK1 K1
      (repeat (first | refine gO rfl ?_ | ((first | refine gR ?_ | (with_reducible refine wM ?_ ?_) | ((with_reducible refine xR ?_); refine uE 11 zM21 zPAE zPAP 95 rfl (by kernel_rfl) ?_)) <;> ((try with_reducible intro K1 hK1); simp only [go_sem, ↓reduceIte, reduceCtorEq, nA, nB, nC, nD, nE, nF, Int.toNat_natCast, hTq, hlw, gq, hqq] <;> and_intros <;> first | (apply hK1; clear hK1 K1) | (intros; first | omega | decide) | skip))))
      intro q2 hq2
      replace hq2 : upd h.T k (some (.cont 5 (ws.map encRx))) q2 = none := hq2
      have hkq : k ≠ q2 := by rintro rfl; rw [upd_same] at hq2; cases hq2
      have hq3 : h.T q2 = none := (upd_other _ _ (Ne.symm hkq)).symm.trans hq2
      obtain ⟨Tz, hTz⟩ : ∃ Tz, upd (upd h.T k (some (.cont 5 (ws.map encRx)))) q2 (some (.tail 1)) = Tz := ⟨_, rfl⟩
      have hTzk : Tz k = some (.cont 5 (ws.map encRx)) := by rw [← hTz, upd_other _ _ hkq, upd_same]
      have hTzo : ∀ X t, h.T t = none ∨ upd Tz k X t = h.T t := fun X t => by
       by_cases e : t = k
       ·subst e; exact .inl hk
       ·by_cases e2 : t = q2
        ·subst e2; exact .inl hq3
        ·exact .inr (by rw [← hTz, upd_other _ _ e, upd_other _ _ e2, upd_other _ _ e])
      have heq : (⟨((Hp.mk h.H (upd h.T k (some (.cont 5 (ws.map encRx))))).st i l (a1 + 1 + 1 + 1 + 1)).H, upd ((Hp.mk h.H (upd h.T k (some (.cont 5 (ws.map encRx))))).st i l (a1 + 1 + 1 + 1 + 1)).T q2 (some (.tail 1))⟩ : Hp) = (Hp.mk h.H Tz).st i l (a1 + 1 + 1 + 1 + 1) := by rw [← hTz]; rfl
      rw [heq]
      refine hK1 _ ?_; clear hK1 K1
      clear hTq htt
      have hTz1 : ∀ a2, ((Hp.mk h.H Tz).st i l a2).T k = some (TO.cont 5 (ws.map encRx)) := fun _ => hTzk
      have hTs : ∀ A a2, ((Hp.mk h.H (upd Tz k (some (.cont 5 ((ws.map encRx).set q A))))).st i l a2).T k = some (TO.cont 5 ((ws.map encRx).set q A)) := fun A a2 => upd_same _ _ _
      have htz : ∀ a2 X, (Hp.mk ((Hp.mk h.H Tz).st i l a2).H (upd ((Hp.mk h.H Tz).st i l a2).T k X)) = (Hp.mk h.H (upd Tz k X)).st i l a2 := fun a2 X => rfl
      have htz2 : ∀ A a2 X, (Hp.mk ((Hp.mk h.H (upd Tz k (some (.cont 5 ((ws.map encRx).set q A))))).st i l a2).H (upd ((Hp.mk h.H (upd Tz k (some (.cont 5 ((ws.map encRx).set q A))))).st i l a2).T k X)) = (Hp.mk h.H (upd Tz k X)).st i l a2 := fun A a2 X => by simp only [Hp.st, upd_upd]
      (repeat (first | refine gO rfl ?_ | ((first | refine gR ?_ | (with_reducible refine wM ?_ ?_) | ((with_reducible refine xR ?_); refine uE 11 zM21 zPAE zPAP 95 rfl (by kernel_rfl) ?_)) <;> ((try with_reducible intro K1 hK1); simp only [go_sem, ↓reduceIte, reduceCtorEq, nA, nB, nC, nD, nE, nF, Int.toNat_natCast, hTz1, hlw, gq, hqq] <;> and_intros <;> first | (apply hK1; clear hK1 K1) | (intros; first | omega | decide) | skip))))
      refine (g_pick i l (a1 + 1 + 1 + 1 + 1) [0, -1, 5] none ⟨h.H, Tz⟩ hl (by omega) (by simp)).mono ?_; rintro _ _ ⟨y3, hy3, rfl, rfl⟩; apply hK1; clear hK1 K1
      (repeat (first | refine gO rfl ?_ | ((first | refine gR ?_ | (with_reducible refine wM ?_ ?_) | ((with_reducible refine xR ?_); refine uE 11 zM21 zPAE zPAP 95 rfl (by kernel_rfl) ?_)) <;> ((try with_reducible intro K1 hK1); simp only [go_sem, ↓reduceIte, reduceCtorEq, nA, nB, nC, nD, nE, nF, Int.toNat_natCast, hTz1, hlw, gq, hqq] <;> and_intros <;> first | (apply hK1; clear hK1 K1) | (intros; first | omega | decide) | skip))))
      refine (g_pick i l (a1 + 1 + 1 + 1 + 1 + 1) [5, 50, 345686400001] none ⟨h.H, Tz⟩ hl (by omega) (by simp)).mono ?_; rintro _ _ ⟨y4, hy4, rfl, rfl⟩; apply hK1; clear hK1 K1
      (repeat (first | refine gO rfl ?_ | ((first | refine gR ?_ | (with_reducible refine wM ?_ ?_) | ((with_reducible refine xR ?_); refine uE 11 zM21 zPAE zPAP 95 rfl (by kernel_rfl) ?_)) <;> ((try with_reducible intro K1 hK1); simp only [go_sem, ↓reduceIte, reduceCtorEq, nA, nB, nC, nD, nE, nF, Int.toNat_natCast, hTz1, hlw, gq, hqq, hgs, hss, hsl, hTs, htz, htz2] <;> and_intros <;> first | (apply hK1; clear hK1 K1) | (intros; first | omega | decide) | skip))))
      refine ⟨_, ws.set q (y1, [y2], y3, y4, zb), _, _, (RowsW.rx ws).set q (r := (y1, [y2], y3, y4, zb)) (WL.cons (Weak.refl _) (WL.cons (Weak.row _ _ _) (WL.refl _))), by rw [List.length_set, hwl], fun u hu => ?_, ?_, hTzo _, upd_same _ _ _, rfl⟩
      ·rcases List.mem_or_eq_of_mem_set hu with h9 | rfl
       ·exact (hwo u h9).toRtOk
       ·obtain ⟨⟨w1, ⟨w2, w5⟩, w3, w4⟩, w6⟩ := hwq
        simp only [List.mem_cons, List.not_mem_nil, or_false] at hy1 hy2 hy3 hy4
        refine ⟨?_, ⟨?_, ?_⟩, by show _ ≤ y3 ∧ y3 ≤ _; omega, by show _ ≤ y4 ∧ y4 ≤ _; omega⟩
        ·rcases hy1 with rfl | rfl
         ·exact w1
         ·show (⟨#[]⟩ : ByteArray).size ≤ 2; decide
        ·show 1 ≤ 3; omega
        ·intro s hs
         have hy2s : y2.size ≤ 4 := by rcases hy2 with rfl | rfl <;> decide
         rw [List.mem_singleton.1 hs]; exact hy2s
      ·omega
     | cons z0 zt =>
      unfold encG at gq hcl
      (repeat (first | refine gO rfl ?_ | ((first | refine gR ?_ | (with_reducible refine wM ?_ ?_) | ((with_reducible refine xR ?_); refine uE 11 zM21 zPAE zPAP 95 rfl (by kernel_rfl) ?_)) <;> ((try with_reducible intro K1 hK1); simp only [go_sem, ↓reduceIte, reduceCtorEq, nA, nB, nC, nD, nE, nF, Int.toNat_natCast, hTq, hlw, gq, hqq] <;> and_intros <;> first | (apply hK1; clear hK1 K1) | (intros; first | omega | decide) | skip))))
      refine (g_some i l (a1 + 1 + 1) [zi, ⟨#[]⟩] none _ hl (by omega) (by simp)).mono ?_; rintro _ _ ⟨y1, hy1, rfl, rfl⟩; apply hK1; clear hK1 K1
      (repeat (first | refine gO rfl ?_ | ((first | refine gR ?_ | (with_reducible refine wM ?_ ?_) | ((with_reducible refine xR ?_); refine uE 11 zM21 zPAE zPAP 95 rfl (by kernel_rfl) ?_)) <;> ((try with_reducible intro K1 hK1); simp only [go_sem, ↓reduceIte, reduceCtorEq, nA, nB, nC, nD, nE, nF, Int.toNat_natCast, hTq, hlw, gq, hqq] <;> and_intros <;> first | (apply hK1; clear hK1 K1) | (intros; first | omega | decide) | skip))))
      all_goals try with_reducible rfl
      (repeat (first | refine gO rfl ?_ | ((first | refine gR ?_ | (with_reducible refine wM ?_ ?_) | ((with_reducible refine xR ?_); refine uE 11 zM21 zPAE zPAP 95 rfl (by kernel_rfl) ?_)) <;> ((try with_reducible intro K1 hK1); simp only [go_sem, ↓reduceIte, reduceCtorEq, nA, nB, nC, nD, nE, nF, Int.toNat_natCast, hTq, hlw, gq, hqq] <;> and_intros <;> first | (apply hK1; clear hK1 K1) | (intros; first | omega | decide) | skip))))
      all_goals try with_reducible rfl
      (repeat (first | refine gO rfl ?_ | ((first | refine gR ?_ | (with_reducible refine wM ?_ ?_) | ((with_reducible refine xR ?_); refine uE 11 zM21 zPAE zPAP 95 rfl (by kernel_rfl) ?_)) <;> ((try with_reducible intro K1 hK1); simp only [go_sem, ↓reduceIte, reduceCtorEq, nA, nB, nC, nD, nE, nF, Int.toNat_natCast, hTq, hlw, gq, hqq] <;> and_intros <;> first | (apply hK1; clear hK1 K1) | (intros; first | omega | decide) | skip))))
      all_goals try with_reducible rfl
      (repeat (first | refine gO rfl ?_ | ((first | refine gR ?_ | (with_reducible refine wM ?_ ?_) | ((with_reducible refine xR ?_); refine uE 11 zM21 zPAE zPAP 95 rfl (by kernel_rfl) ?_)) <;> ((try with_reducible intro K1 hK1); simp only [go_sem, ↓reduceIte, reduceCtorEq, nA, nB, nC, nD, nE, nF, Int.toNat_natCast, hTq, hlw, gq, hqq] <;> and_intros <;> first | (apply hK1; clear hK1 K1) | (intros; first | omega | decide) | skip))))
      refine (hcl _).mono ?_
      rintro _ _ (⟨hne, _⟩ | ⟨q2, _, hq2, rfl, rfl⟩)
      ·exact absurd hne (by simp)
      refine hK1 _ ?_; clear hK1 K1
      (repeat (first | refine gO rfl ?_ | ((first | refine gR ?_ | (with_reducible refine wM ?_ ?_) | ((with_reducible refine xR ?_); refine uE 11 zM21 zPAE zPAP 95 rfl (by kernel_rfl) ?_)) <;> ((try with_reducible intro K1 hK1); simp only [go_sem, ↓reduceIte, reduceCtorEq, nA, nB, nC, nD, nE, nF, Int.toNat_natCast, hTq, hlw, gq, hqq] <;> and_intros <;> first | (apply hK1; clear hK1 K1) | (intros; first | omega | decide) | skip))))
      have hkq : k ≠ q2 := by rintro rfl; have h9 : upd h.T k (some (TO.cont 5 (ws.map encRx))) k = none := hq2; rw [upd_same] at h9; cases h9
      have hq3 : h.T q2 = none := (upd_other _ _ (Ne.symm hkq)).symm.trans hq2
      have hmz : (encS z0 :: zt.map encS).length = zt.length + 1 := by simp
      have hzl : zt.length ≤ 1 := by have := hwq.two; simp only [List.length_cons] at this; omega
      have hT2 : ∀ a2, ((Hp.mk h.H (upd (upd h.T k (some (.cont 5 (ws.map encRx)))) q2 (some (.tail (zt.length + 1))))).st i l a2).T q2 = some (.tail (zt.length + 1)) := fun _ => upd_same _ _ _
      refine (g_some i l (a1 + 1 + 1 + 1) [cityT, ⟨#[65]⟩] none ⟨h.H, upd (upd h.T k (some (.cont 5 (ws.map encRx)))) q2 (some (.tail (z0 :: zt).length))⟩ hl (by omega) (by simp)).mono ?_; rintro _ _ ⟨y2, hy2, rfl, rfl⟩; apply hK1; clear hK1 K1
      (repeat (first | refine gO rfl ?_ | ((first | refine gR ?_ | (with_reducible refine wM ?_ ?_) | ((with_reducible refine xR ?_); refine uE 11 zM21 zPAE zPAP 95 rfl (by kernel_rfl) ?_)) <;> ((try with_reducible intro K1 hK1); simp only [go_sem, ↓reduceIte, reduceCtorEq, nA, nB, nC, nD, nE, nF, Int.toNat_natCast, hTq, hlw, gq, hqq, hT2, hmz, List.length_map, List.length_cons, List.length_nil] <;> and_intros <;> first | (apply hK1; clear hK1 K1) | (intros; first | omega | decide) | skip))))
      obtain ⟨Tz, hTz⟩ : ∃ Tz, upd (upd h.T k (some (.cont 5 (ws.map encRx)))) q2 (some (.tail (zt.length + 1 + 1))) = Tz := ⟨_, rfl⟩
      have hTzk : Tz k = some (.cont 5 (ws.map encRx)) := by rw [← hTz, upd_other _ _ hkq, upd_same]
      have hTzo : ∀ X t, h.T t = none ∨ upd Tz k X t = h.T t := fun X t => by
       by_cases e : t = k
       ·subst e; exact .inl hk
       ·by_cases e2 : t = q2
        ·subst e2; exact .inl hq3
        ·exact .inr (by rw [← hTz, upd_other _ _ e, upd_other _ _ e2, upd_other _ _ e])
      have heq : (⟨((Hp.mk h.H (upd (upd h.T k (some (.cont 5 (ws.map encRx)))) q2 (some (.tail (zt.length + 1))))).st i l (a1 + 1 + 1 + 1 + 1)).H, upd ((Hp.mk h.H (upd (upd h.T k (some (.cont 5 (ws.map encRx)))) q2 (some (.tail (zt.length + 1))))).st i l (a1 + 1 + 1 + 1 + 1)).T q2 (some (.tail (zt.length + 1 + 1)))⟩ : Hp) = (Hp.mk h.H Tz).st i l (a1 + 1 + 1 + 1 + 1) := by rw [← hTz]; simp only [Hp.st, upd_upd]
      rw [heq]
      clear hTq htt
      have hTz1 : ∀ a2, ((Hp.mk h.H Tz).st i l a2).T k = some (TO.cont 5 (ws.map encRx)) := fun _ => hTzk
      have hTs : ∀ A a2, ((Hp.mk h.H (upd Tz k (some (.cont 5 ((ws.map encRx).set q A))))).st i l a2).T k = some (TO.cont 5 ((ws.map encRx).set q A)) := fun A a2 => upd_same _ _ _
      have htz : ∀ a2 X, (Hp.mk ((Hp.mk h.H Tz).st i l a2).H (upd ((Hp.mk h.H Tz).st i l a2).T k X)) = (Hp.mk h.H (upd Tz k X)).st i l a2 := fun a2 X => rfl
      have htz2 : ∀ A a2 X, (Hp.mk ((Hp.mk h.H (upd Tz k (some (.cont 5 ((ws.map encRx).set q A))))).st i l a2).H (upd ((Hp.mk h.H (upd Tz k (some (.cont 5 ((ws.map encRx).set q A))))).st i l a2).T k X)) = (Hp.mk h.H (upd Tz k X)).st i l a2 := fun A a2 X => by simp only [Hp.st, upd_upd]
      refine (g_pick i l (a1 + 1 + 1 + 1 + 1) [0, -1, 5] none ⟨h.H, Tz⟩ hl (by omega) (by simp)).mono ?_; rintro _ _ ⟨y3, hy3, rfl, rfl⟩; apply hK1; clear hK1 K1
      (repeat (first | refine gO rfl ?_ | ((first | refine gR ?_ | (with_reducible refine wM ?_ ?_) | ((with_reducible refine xR ?_); refine uE 11 zM21 zPAE zPAP 95 rfl (by kernel_rfl) ?_)) <;> ((try with_reducible intro K1 hK1); simp only [go_sem, ↓reduceIte, reduceCtorEq, nA, nB, nC, nD, nE, nF, Int.toNat_natCast, hTz1, hlw, gq, hqq] <;> and_intros <;> first | (apply hK1; clear hK1 K1) | (intros; first | omega | decide) | skip))))
      refine (g_pick i l (a1 + 1 + 1 + 1 + 1 + 1) [5, 50, 345686400001] none ⟨h.H, Tz⟩ hl (by omega) (by simp)).mono ?_; rintro _ _ ⟨y4, hy4, rfl, rfl⟩; apply hK1; clear hK1 K1
      (repeat (first | refine gO rfl ?_ | ((first | refine gR ?_ | (with_reducible refine wM ?_ ?_) | ((with_reducible refine xR ?_); refine uE 11 zM21 zPAE zPAP 95 rfl (by kernel_rfl) ?_)) <;> ((try with_reducible intro K1 hK1); simp only [go_sem, ↓reduceIte, reduceCtorEq, nA, nB, nC, nD, nE, nF, Int.toNat_natCast, hTz1, hlw, gq, hqq, hgs, hss, hsl, hTs, htz, htz2] <;> and_intros <;> first | (apply hK1; clear hK1 K1) | (intros; first | omega | decide) | skip))))
      refine ⟨_, ws.set q (y1, z0 :: (zt ++ [y2]), y3, y4, zb), _, _, (RowsW.rx ws).set q (r := (y1, z0 :: (zt ++ [y2]), y3, y4, zb)) (WL.cons (Weak.refl _) (WL.cons (show Weak (.row 1 (encS z0 :: (zt.map encS ++ [[.v (.string y2)]])) (some q2)) (encGr (z0 :: (zt ++ [y2]))) from by unfold encGr; rw [List.map_cons, List.map_append]; exact Weak.row _ _ _) (WL.refl _))), by rw [List.length_set, hwl], fun u hu => ?_, ?_, hTzo _, upd_same _ _ _, rfl⟩
      ·rcases List.mem_or_eq_of_mem_set hu with h9 | rfl
       ·exact (hwo u h9).toRtOk
       ·obtain ⟨⟨w1, ⟨w2, w5⟩, w3, w4⟩, w6⟩ := hwq
        simp only [List.mem_cons, List.not_mem_nil, or_false] at hy1 hy2 hy3 hy4
        refine ⟨?_, ⟨?_, ?_⟩, by show _ ≤ y3 ∧ y3 ≤ _; omega, by show _ ≤ y4 ∧ y4 ≤ _; omega⟩
        ·rcases hy1 with rfl | rfl
         ·exact w1
         ·show (⟨#[]⟩ : ByteArray).size ≤ 2; decide
        ·show (z0 :: (zt ++ [y2])).length ≤ 3
         have e9 : (z0 :: (zt ++ [y2])).length = zt.length + 2 := by simp
         have e8 : zt.length ≤ 1 := hzl
         rw [e9]; omega
        ·intro s hs
         have hy2s : y2.size ≤ 4 := by rcases hy2 with rfl | rfl <;> decide
         rcases List.mem_cons.1 hs with rfl | hs
         ·exact w5 _ (by simp)
         ·rcases List.mem_append.1 hs with hs | hs
          ·exact w5 _ (by simp [hs])
          ·rw [List.mem_singleton.1 hs]; exact hy2s
      ·omega
  rintro _ ⟨rows, ws2, a2, T', hrw, hwl2, hwo2, ha2, hT', hTk', rfl⟩
  refine awp_frz 5 k 5 (xs := rows) (by rw [hrw.len, hwl2]; rfl) hTk' hrw.five ?_
  (repeat (first | refine gO rfl ?_ | ((first | refine gR ?_ | (with_reducible refine wM ?_ ?_) | ((with_reducible refine xR ?_); refine uE 11 zM21 zPAE zPAP 95 rfl (by kernel_rfl) ?_)) <;> ((try with_reducible intro K1 hK1); simp only [go_sem, ↓reduceIte, reduceCtorEq, nA, nB, nC, nD, nE, nF] <;> and_intros <;> first | (apply hK1; clear hK1 K1) | (intros; first | omega | decide) | skip))))
  simp only [Tryz.results8, go_sem, ↓reduceIte, reduceCtorEq, nA, nB, nC, nD, nE, nF]
  refine ⟨_, h.st i l a2, hrw.weak none, ⟨fun _ => .inr rfl, fun t => ?_⟩, ws2, a2, by omega, hwo2, by omega, rfl, rfl⟩
  by_cases e : t = k
  ·subst e; exact .inl hk
  ·rcases hT' t with h9 | h9
   ·exact .inl h9
   ·exact .inr (by show (h.st i l a2).T t = upd T' k none t; rw [upd_other _ _ e]; exact h9.symm)
def wndF (a b : Int) : Int := if 0 ≤ a ∧ a < b ∧ b ≤ 345686400000 then 0 else 1
theorem wndF_of {a b : Int} {x1 x2 x3 : Bool} (e1 : decide (0 ≤ a) = x1) (e2 : decide (a < b) = x2) (e3 : decide (b ≤ 345686400000) = x3) : wndF a b = bif (x1 && (x2 && x3)) then 0 else 1 := by
 subst e1; subst e2; subst e3
 unfold wndF
 by_cases h1 : 0 ≤ a <;> by_cases h2 : a < b <;> by_cases h3 : b ≤ 345686400000 <;> simp [h1, h2, h3]
def rightF (r : Rt) : Int := if keyB r.1 = false then 5 else if riseF r.2.1 none = 0 then wndF r.2.2.1 r.2.2.2.1 else riseF r.2.1 none
def rightsF : List Rt → Int
 | [] => 0
 | r :: l => if rightF r = 0 then rightsF l else rightF r
theorem g_isWindow (a b : Int) (h : Hp) : ACalls Tryz.prog 68 [.agg [.v (.int .i64 a), .v (.int .i64 b)]] h (fun r h' => r = .v (.bool (decide (wndF a b = 0))) ∧ h' = h) := by
 obtain ⟨x1, e1⟩ : ∃ x, decide (0 ≤ a) = x := ⟨_, rfl⟩
 obtain ⟨x2, e2⟩ : ∃ x, decide (a < b) = x := ⟨_, rfl⟩
 obtain ⟨x3, e3⟩ : ∃ x, decide (b ≤ 345686400000) = x := ⟨_, rfl⟩
 have hw := wndF_of e1 e2 e3
 refine gE Tryz.func68 rfl (by kernel_rfl) 17 rfl fun c => ?_
 cases x1 <;> cases x2 <;> cases x3
 all_goals
  (repeat (first | refine gO rfl ?_ | (refine gR fun K1 hK1 => ?_; simp only [go_sem, ↓reduceIte, reduceCtorEq, nA, nB, nC, nD, nE, nF, e1, e2, e3] <;> and_intros <;> first | (apply hK1; clear hK1 K1) | (intros; first | omega | decide) | skip)))
  simp only [Tryz.results68, go_sem, ↓reduceIte, reduceCtorEq, nA, nB, nC, nD, nE, nF]
  exact ⟨_, _, Weak.refl _, Hp.le.refl _, by rw [hw]; rfl, rfl⟩
theorem g_checkRights (rs : List Rt) (kk : Option Nat) (hl : rs.length ≤ 500) (hok : ∀ r ∈ rs, RtOk r) (h : Hp) :
  ACalls Tryz.prog 14 [.row 5 (rs.map encRt) kk] h (fun r h' => r = .v (.int .i64 (rightsF rs)) ∧ h' = h) := by
 have hml : (rs.map encRt).length = rs.length := List.length_map _
 refine gE Tryz.func14 rfl (by kernel_rfl) 29 rfl fun c => ?_
 (repeat (first | refine gO rfl ?_ | (refine gM zM22 fun K1 hK1 => ?_; simp only [go_sem, ↓reduceIte, reduceCtorEq, nA, nB, nC, nD, nE, nF, hml] <;> and_intros <;> first | (apply hK1; clear hK1 K1) | (intros; first | omega | decide) | skip)))
 refine awp_cond (t := _) rfl (fun h5 => absurd (of_decide_eq_true h5) (by omega)) (fun _ => ?_)
 (repeat (first | refine gO rfl ?_ | (refine gM zM22 fun K1 hK1 => ?_; simp only [go_sem, ↓reduceIte, reduceCtorEq, nA, nB, nC, nD, nE, nF, hml] <;> and_intros <;> first | (apply hK1; clear hK1 K1) | (intros; first | omega | decide) | skip)))
 refine awp_loopC (rl false [9, 3, 18]) 0 (fun g s => ∃ (j : Nat), g + j = rs.length ∧ rightsF (rs.drop j) = rightsF rs ∧
  s = ⟨((jnk 9 ((.row 5 (rs.map encRt) kk) :: (.v (.int .i64 rs.length)) :: (.v (.int .i64 j)) :: (jnk 18 [])))), [], h⟩) rs.length ⟨0, by omega, rfl, rfl⟩ ?_
 rintro g _ ⟨j, hj, hinv, rfl⟩
 (repeat (first | refine gO rfl ?_ | (refine gM zM22 fun K1 hK1 => ?_; simp only [go_sem, ↓reduceIte, reduceCtorEq, nA, nB, nC, nD, nE, nF] <;> and_intros <;> first | (apply hK1; clear hK1 K1) | (intros; first | omega | decide) | skip)))
 refine awp_cond (t := _) rfl (fun h5 => ?_) (fun h5 => ?_)
 ·simp only [decide_eq_true_eq] at h5
  have hjl : j < rs.length := by omega
  have gx : (rs.map encRt).getD j [] = encRt rs[j] := by rw [List.getD_eq_getElem?_getD, List.getElem?_map, List.getElem?_eq_getElem hjl]; rfl
  have hro := hok _ (List.getElem_mem hjl)
  rw [List.drop_eq_getElem_cons hjl, rightsF] at hinv
  generalize rs[j] = r at *
  obtain ⟨it, tg, fr, t2, bb⟩ := r
  rw [show encRt (it, tg, fr, t2, bb) = [.v (.string it), .row 1 (tg.map encS) none, .v (.int .i64 fr), .v (.int .i64 t2), .v (.bool bb)] from rfl] at gx
  obtain ⟨hs1, ⟨hs2, hs3⟩, hs4, hs5⟩ := hro
  simp only at hs1 hs2 hs3 hs4 hs5
  have hK := a_isKey it (by omega) h
  have hT := g_tagsF tg none (by omega) (fun s hs => by have := hs3 s hs; omega) h
  have hrf : rightF (it, tg, fr, t2, bb) = if keyB it = false then 5 else if riseF tg none = 0 then wndF fr t2 else riseF tg none := rfl
  (repeat (first | refine gO rfl ?_ | (refine gM zM22 fun K1 hK1 => ?_; simp only [go_sem, ↓reduceIte, reduceCtorEq, nA, nB, nC, nD, nE, nF, hml, Int.toNat_natCast, gx] <;> and_intros <;> first | (apply hK1; clear hK1 K1) | (intros; first | omega | decide) | skip)))
  refine hK.mono ?_; rintro _ hz ⟨rfl, hh⟩; apply hK1; clear hK1 K1; rw [hh]; clear hh hz
  cases hk : keyB it with
  | false =>
   rw [hk, if_pos rfl] at hrf
   (repeat (first | refine gO rfl ?_ | (refine gM zM22 fun K1 hK1 => ?_; simp only [go_sem, ↓reduceIte, reduceCtorEq, nA, nB, nC, nD, nE, nF, hk, Bool.not_false] <;> and_intros <;> first | (apply hK1; clear hK1 K1) | (intros; first | omega | decide) | skip)))
   refine awp_cond (t := _) rfl (fun _ => ?_) (fun h6 => by cases h6)
   (repeat (first | refine gO rfl ?_ | (refine gM zM22 fun K1 hK1 => ?_; simp only [go_sem, ↓reduceIte, reduceCtorEq, nA, nB, nC, nD, nE, nF] <;> and_intros <;> first | (apply hK1; clear hK1 K1) | (intros; first | omega | decide) | skip)))
   simp only [Tryz.results14, go_sem, ↓reduceIte, reduceCtorEq, nA, nB, nC, nD, nE, nF]
   refine ⟨_, _, Weak.refl _, Hp.le.refl _, ?_, rfl⟩
   rw [hrf, if_neg (by decide)] at hinv
   rw [← hinv]
  | true =>
   rw [hk, if_neg (by decide)] at hrf
   (repeat (first | refine gO rfl ?_ | (refine gM zM22 fun K1 hK1 => ?_; simp only [go_sem, ↓reduceIte, reduceCtorEq, nA, nB, nC, nD, nE, nF, hk, Bool.not_true] <;> and_intros <;> first | (apply hK1; clear hK1 K1) | (intros; first | omega | decide) | skip)))
   refine awp_cond (t := _) rfl (fun h6 => by cases h6) (fun _ => ?_)
   (repeat (first | refine gO rfl ?_ | (refine gM zM22 fun K1 hK1 => ?_; simp only [go_sem, ↓reduceIte, reduceCtorEq, nA, nB, nC, nD, nE, nF] <;> and_intros <;> first | (apply hK1; clear hK1 K1) | (intros; first | omega | decide) | skip)))
   refine hT.mono ?_; rintro _ hz ⟨rfl, hh⟩; apply hK1; clear hK1 K1; rw [hh]; clear hh hz
   (repeat (first | refine gO rfl ?_ | (refine gM zM22 fun K1 hK1 => ?_; simp only [go_sem, ↓reduceIte, reduceCtorEq, nA, nB, nC, nD, nE, nF] <;> and_intros <;> first | (apply hK1; clear hK1 K1) | (intros; first | omega | decide) | skip)))
   by_cases hz : riseF tg none = 0
   ·rw [if_pos hz] at hrf
    refine awp_cond (t := _) rfl (fun h6 => by rw [hz] at h6; cases h6) (fun _ => ?_)
    obtain ⟨x1, e1⟩ : ∃ x, decide (0 ≤ fr) = x := ⟨_, rfl⟩
    obtain ⟨x2, e2⟩ : ∃ x, decide (fr < t2) = x := ⟨_, rfl⟩
    obtain ⟨x3, e3⟩ : ∃ x, decide (t2 ≤ 345686400000) = x := ⟨_, rfl⟩
    have n1 : decide (fr < 0) = !x1 := by rw [← e1, ← decide_not]; exact decide_eq_decide.2 (by omega)
    have n2 : decide (t2 ≤ fr) = !x2 := by rw [← e2, ← decide_not]; exact decide_eq_decide.2 (by omega)
    have n3 : decide (345686400000 < t2) = !x3 := by rw [← e3, ← decide_not]; exact decide_eq_decide.2 (by omega)
    have hw := wndF_of e1 e2 e3
    clear e1 e2 e3
    cases x1 <;> cases x2 <;> cases x3
    all_goals
     simp only [Bool.and_true, Bool.and_false, Bool.false_and, Bool.and_self, cond_true, cond_false] at hw
     (repeat (first | refine gO rfl ?_ | (refine gM zM22 fun K1 hK1 => ?_; simp only [go_sem, ↓reduceIte, reduceCtorEq, nA, nB, nC, nD, nE, nF, n1, n2, n3, Bool.not_true, Bool.not_false] <;> and_intros <;> first | (apply hK1; clear hK1 K1) | (intros; first | omega | decide) | skip)))
     refine (g_isWindow fr t2 h).mono ?_; rintro _ hz ⟨rfl, hh⟩; apply hK1; clear hK1 K1; rw [hh]; clear hh hz; rw [hw]; (repeat (first | refine gO rfl ?_ | (refine gM zM22 fun K1 hK1 => ?_; simp only [go_sem, ↓reduceIte, reduceCtorEq, nA, nB, nC, nD, nE, nF] <;> and_intros <;> first | (apply hK1; clear hK1 K1) | (intros; first | omega | decide) | skip)))
     refine awp_cond (t := _) rfl (fun h6 => ?_) (fun h6 => ?_)
     all_goals try (exfalso; cases h6; done)
    rotate_right
    ·(repeat (first | refine gO rfl ?_ | (refine gM zM22 fun K1 hK1 => ?_; simp only [go_sem, ↓reduceIte, reduceCtorEq, nA, nB, nC, nD, nE, nF] <;> and_intros <;> first | (apply hK1; clear hK1 K1) | (intros; first | omega | decide) | skip)))
     rw [hrf, if_pos hw] at hinv
     exact ⟨g - 1, by omega, j + 1, by omega, hinv, rfl⟩
    all_goals
     (repeat (first | refine gO rfl ?_ | (refine gM zM22 fun K1 hK1 => ?_; simp only [go_sem, ↓reduceIte, reduceCtorEq, nA, nB, nC, nD, nE, nF] <;> and_intros <;> first | (apply hK1; clear hK1 K1) | (intros; first | omega | decide) | skip)))
     simp only [Tryz.results14, go_sem, ↓reduceIte, reduceCtorEq, nA, nB, nC, nD, nE, nF]
     refine ⟨_, _, Weak.refl _, Hp.le.refl _, ?_, rfl⟩
     rw [hrf, if_neg (by rw [hw]; decide), hw] at hinv
     rw [← hinv]
   ·rw [if_neg hz] at hrf
    refine awp_cond (t := _) rfl (fun _ => ?_) (fun h6 => absurd h6 (by simpa using hz))
    (repeat (first | refine gO rfl ?_ | (refine gM zM22 fun K1 hK1 => ?_; simp only [go_sem, ↓reduceIte, reduceCtorEq, nA, nB, nC, nD, nE, nF] <;> and_intros <;> first | (apply hK1; clear hK1 K1) | (intros; first | omega | decide) | skip)))
    simp only [Tryz.results14, go_sem, ↓reduceIte, reduceCtorEq, nA, nB, nC, nD, nE, nF]
    refine ⟨_, _, Weak.refl _, Hp.le.refl _, ?_, rfl⟩
    rw [hrf, if_neg hz] at hinv
    rw [← hinv]
 ·simp only [decide_eq_false_iff_not] at h5
  have hjl : j = rs.length := by omega
  subst hjl
  rw [List.drop_length, rightsF] at hinv
  (repeat (first | refine gO rfl ?_ | (refine gM zM22 fun K1 hK1 => ?_; simp only [go_sem, ↓reduceIte, reduceCtorEq, nA, nB, nC, nD, nE, nF] <;> and_intros <;> first | (apply hK1; clear hK1 K1) | (intros; first | omega | decide) | skip)))
  simp only [Tryz.results14, go_sem, ↓reduceIte, reduceCtorEq, nA, nB, nC, nD, nE, nF]
  exact ⟨_, _, Weak.refl _, Hp.le.refl _, by rw [← hinv], rfl⟩
theorem g_rightsFault (rs : List Rt) (kk : Option Nat) (hl : rs.length ≤ 500) (hok : ∀ r ∈ rs, RtOk r) (h : Hp) :
  ACalls Tryz.prog 13 [.row 5 (rs.map encRt) kk] h (fun r h' => r = .v (.int .i64 (rightsF rs)) ∧ h' = h) := by
 have hml : (rs.map encRt).length = rs.length := List.length_map _
 refine gE Tryz.func13 rfl (by kernel_rfl) 44 rfl fun c => ?_
 (repeat (first | refine gO rfl ?_ | (refine gM zM22 fun K1 hK1 => ?_; simp only [go_sem, ↓reduceIte, reduceCtorEq, nA, nB, nC, nD, nE, nF, hml] <;> and_intros <;> first | (apply hK1; clear hK1 K1) | (intros; first | omega | decide) | skip)))
 refine awp_cond (t := _) rfl (fun h5 => absurd (of_decide_eq_true h5) (by omega)) (fun _ => ?_)
 (repeat (first | refine gO rfl ?_ | (refine gM zM22 fun K1 hK1 => ?_; simp only [go_sem, ↓reduceIte, reduceCtorEq, nA, nB, nC, nD, nE, nF, hml] <;> and_intros <;> first | (apply hK1; clear hK1 K1) | (intros; first | omega | decide) | skip)))
 refine awp_loopC (rl false [9, 3, 33]) 0 (fun g s => ∃ (j : Nat), g + j = rs.length ∧ rightsF (rs.drop j) = rightsF rs ∧
  s = ⟨((jnk 9 ((.row 5 (rs.map encRt) kk) :: (.v (.int .i64 rs.length)) :: (.v (.int .i64 j)) :: (jnk 33 [])))), [], h⟩) rs.length ⟨0, by omega, rfl, rfl⟩ ?_
 rintro g _ ⟨j, hj, hinv, rfl⟩
 (repeat (first | refine gO rfl ?_ | (refine gM zM22 fun K1 hK1 => ?_; simp only [go_sem, ↓reduceIte, reduceCtorEq, nA, nB, nC, nD, nE, nF] <;> and_intros <;> first | (apply hK1; clear hK1 K1) | (intros; first | omega | decide) | skip)))
 refine awp_cond (t := _) rfl (fun h5 => ?_) (fun h5 => ?_)
 ·simp only [decide_eq_true_eq] at h5
  have hjl : j < rs.length := by omega
  have gx : (rs.map encRt).getD j [] = encRt rs[j] := by rw [List.getD_eq_getElem?_getD, List.getElem?_map, List.getElem?_eq_getElem hjl]; rfl
  have hro := hok _ (List.getElem_mem hjl)
  rw [List.drop_eq_getElem_cons hjl, rightsF] at hinv
  generalize rs[j] = r at *
  obtain ⟨it, tg, fr, t2, bb⟩ := r
  rw [show encRt (it, tg, fr, t2, bb) = [.v (.string it), .row 1 (tg.map encS) none, .v (.int .i64 fr), .v (.int .i64 t2), .v (.bool bb)] from rfl] at gx
  obtain ⟨hs1, ⟨hs2, hs3⟩, hs4, hs5⟩ := hro
  simp only at hs1 hs2 hs3 hs4 hs5
  have hK := a_key it (by omega) h
  have hT := g_keysF tg none 20 (by omega) (fun s hs => by have := hs3 s hs; omega) h
  have hrf : rightF (it, tg, fr, t2, bb) = if keyB it = false then 5 else if riseF tg none = 0 then wndF fr t2 else riseF tg none := rfl
  (repeat (first | refine gO rfl ?_ | (refine gM zM22 fun K1 hK1 => ?_; simp only [go_sem, ↓reduceIte, reduceCtorEq, nA, nB, nC, nD, nE, nF, hml, Int.toNat_natCast, gx] <;> and_intros <;> first | (apply hK1; clear hK1 K1) | (intros; first | omega | decide) | skip)))
  refine hK.mono ?_; rintro _ hz ⟨rfl, hh⟩; apply hK1; clear hK1 K1; rw [hh]; clear hh hz
  cases hk : keyB it with
  | false =>
   rw [hk, if_pos rfl] at hrf
   (repeat (first | refine gO rfl ?_ | (refine gM zM22 fun K1 hK1 => ?_; simp only [go_sem, ↓reduceIte, reduceCtorEq, nA, nB, nC, nD, nE, nF, hk, Bool.not_false] <;> and_intros <;> first | (apply hK1; clear hK1 K1) | (intros; first | omega | decide) | skip)))
   refine awp_cond (t := _) rfl (fun _ => ?_) (fun h6 => by cases h6)
   (repeat (first | refine gO rfl ?_ | (refine gM zM22 fun K1 hK1 => ?_; simp only [go_sem, ↓reduceIte, reduceCtorEq, nA, nB, nC, nD, nE, nF] <;> and_intros <;> first | (apply hK1; clear hK1 K1) | (intros; first | omega | decide) | skip)))
   simp only [Tryz.results13, go_sem, ↓reduceIte, reduceCtorEq, nA, nB, nC, nD, nE, nF]
   refine ⟨_, _, Weak.refl _, Hp.le.refl _, ?_, rfl⟩
   rw [hrf, if_neg (by decide)] at hinv
   rw [← hinv]
  | true =>
   rw [hk, if_neg (by decide)] at hrf
   (repeat (first | refine gO rfl ?_ | (refine gM zM22 fun K1 hK1 => ?_; simp only [go_sem, ↓reduceIte, reduceCtorEq, nA, nB, nC, nD, nE, nF, hk, Bool.not_true] <;> and_intros <;> first | (apply hK1; clear hK1 K1) | (intros; first | omega | decide) | skip)))
   refine awp_cond (t := _) rfl (fun h6 => by cases h6) (fun _ => ?_)
   (repeat (first | refine gO rfl ?_ | (refine gM zM22 fun K1 hK1 => ?_; simp only [go_sem, ↓reduceIte, reduceCtorEq, nA, nB, nC, nD, nE, nF] <;> and_intros <;> first | (apply hK1; clear hK1 K1) | (intros; first | omega | decide) | skip)))
   refine hT.mono ?_; rintro _ hz ⟨rfl, hh⟩; apply hK1; clear hK1 K1; rw [hh]; clear hh hz
   (repeat (first | refine gO rfl ?_ | (refine gM zM22 fun K1 hK1 => ?_; simp only [go_sem, ↓reduceIte, reduceCtorEq, nA, nB, nC, nD, nE, nF] <;> and_intros <;> first | (apply hK1; clear hK1 K1) | (intros; first | omega | decide) | skip)))
   by_cases hz : riseF tg none = 0
   ·rw [if_pos hz] at hrf
    refine awp_cond (t := _) rfl (fun h6 => by rw [hz] at h6; cases h6) (fun _ => ?_)
    obtain ⟨x1, e1⟩ : ∃ x, decide (0 ≤ fr) = x := ⟨_, rfl⟩
    obtain ⟨x2, e2⟩ : ∃ x, decide (fr < t2) = x := ⟨_, rfl⟩
    obtain ⟨x3, e3⟩ : ∃ x, decide (t2 ≤ 345686400000) = x := ⟨_, rfl⟩
    have n1 : decide (fr < 0) = !x1 := by rw [← e1, ← decide_not]; exact decide_eq_decide.2 (by omega)
    have n2 : decide (t2 ≤ fr) = !x2 := by rw [← e2, ← decide_not]; exact decide_eq_decide.2 (by omega)
    have n3 : decide (345686400000 < t2) = !x3 := by rw [← e3, ← decide_not]; exact decide_eq_decide.2 (by omega)
    have hw := wndF_of e1 e2 e3
    clear e1 e2 e3
    cases x1 <;> cases x2 <;> cases x3
    all_goals
     simp only [Bool.and_true, Bool.and_false, Bool.false_and, Bool.and_self, cond_true, cond_false] at hw
     (repeat (first | refine gO rfl ?_ | (refine gM zM22 fun K1 hK1 => ?_; simp only [go_sem, ↓reduceIte, reduceCtorEq, nA, nB, nC, nD, nE, nF, n1, n2, n3, Bool.not_true, Bool.not_false] <;> and_intros <;> first | (apply hK1; clear hK1 K1) | (intros; first | omega | decide) | skip)))
     skip
     refine awp_cond (t := _) rfl (fun h6 => ?_) (fun h6 => ?_)
     all_goals try (exfalso; cases h6; done)
    rotate_right
    ·(repeat (first | refine gO rfl ?_ | (refine gM zM22 fun K1 hK1 => ?_; simp only [go_sem, ↓reduceIte, reduceCtorEq, nA, nB, nC, nD, nE, nF] <;> and_intros <;> first | (apply hK1; clear hK1 K1) | (intros; first | omega | decide) | skip)))
     rw [hrf, if_pos hw] at hinv
     exact ⟨g - 1, by omega, j + 1, by omega, hinv, rfl⟩
    all_goals
     (repeat (first | refine gO rfl ?_ | (refine gM zM22 fun K1 hK1 => ?_; simp only [go_sem, ↓reduceIte, reduceCtorEq, nA, nB, nC, nD, nE, nF] <;> and_intros <;> first | (apply hK1; clear hK1 K1) | (intros; first | omega | decide) | skip)))
     simp only [Tryz.results13, go_sem, ↓reduceIte, reduceCtorEq, nA, nB, nC, nD, nE, nF]
     refine ⟨_, _, Weak.refl _, Hp.le.refl _, ?_, rfl⟩
     rw [hrf, if_neg (by rw [hw]; decide), hw] at hinv
     rw [← hinv]
   ·rw [if_neg hz] at hrf
    refine awp_cond (t := _) rfl (fun _ => ?_) (fun h6 => absurd h6 (by simpa using hz))
    (repeat (first | refine gO rfl ?_ | (refine gM zM22 fun K1 hK1 => ?_; simp only [go_sem, ↓reduceIte, reduceCtorEq, nA, nB, nC, nD, nE, nF] <;> and_intros <;> first | (apply hK1; clear hK1 K1) | (intros; first | omega | decide) | skip)))
    simp only [Tryz.results13, go_sem, ↓reduceIte, reduceCtorEq, nA, nB, nC, nD, nE, nF]
    refine ⟨_, _, Weak.refl _, Hp.le.refl _, ?_, rfl⟩
    rw [hrf, if_neg hz] at hinv
    rw [← hinv]
 ·simp only [decide_eq_false_iff_not] at h5
  have hjl : j = rs.length := by omega
  subst hjl
  rw [List.drop_length, rightsF] at hinv
  (repeat (first | refine gO rfl ?_ | (refine gM zM22 fun K1 hK1 => ?_; simp only [go_sem, ↓reduceIte, reduceCtorEq, nA, nB, nC, nD, nE, nF] <;> and_intros <;> first | (apply hK1; clear hK1 K1) | (intros; first | omega | decide) | skip)))
  simp only [Tryz.results13, go_sem, ↓reduceIte, reduceCtorEq, nA, nB, nC, nD, nE, nF]
  exact ⟨_, _, Weak.refl _, Hp.le.refl _, by rw [← hinv], rfl⟩
theorem g_in (x lo hi : Int) (h : Hp) : ACalls Tryz.prog 74 [.v (.int .i64 x), .v (.int .i64 lo), .v (.int .i64 hi)] h (fun r h' => r = .v (.bool (decide (lo ≤ x) && decide (x ≤ hi))) ∧ h' = h) := by
 obtain ⟨x1, e1⟩ : ∃ b, decide (lo ≤ x) = b := ⟨_, rfl⟩
 obtain ⟨x2, e2⟩ : ∃ b, decide (x ≤ hi) = b := ⟨_, rfl⟩
 rw [e1, e2]
 refine gE Tryz.func74 rfl (by kernel_rfl) 12 rfl fun c => ?_
 cases x1 <;> cases x2
 all_goals
  (repeat (first | refine gO rfl ?_ | (refine gR fun K1 hK1 => ?_; simp only [go_sem, ↓reduceIte, reduceCtorEq, nA, nB, nC, nD, nE, nF, e1, e2] <;> and_intros <;> first | (apply hK1; clear hK1 K1) | (intros; first | omega | decide) | skip)))
  simp only [Tryz.results74, go_sem, ↓reduceIte, reduceCtorEq, nA, nB, nC, nD, nE, nF]
  exact ⟨_, _, Weak.refl _, Hp.le.refl _, rfl, rfl⟩
structure Gu where
 key : ByteArray
 scr : ByteArray
 zone : Int
 tags : List ByteArray
def encGu (p : Gu) : List AV := [.v (.string p.key), .v (.string p.scr), .v (.int .i64 p.zone), encGr p.tags]
structure GuOk (p : Gu) : Prop where
 key : p.key.size ≤ 4
 scr : keyB p.scr = true
 scs : p.scr.size ≤ 4
 tg : TgOk p.tags
def keyF (s : ByteArray) : Int := if keyB s = false then 5 else 0
def momF (a : Int) : Int := if 0 ≤ a ∧ a ≤ 345686399999 then 0 else 1
def guF (p : Gu) : Int := if keyB p.key = false then 5 else if -1440 ≤ p.zone ∧ p.zone ≤ 1440 then riseF p.tags none else 1
theorem momF_of {a : Int} {x1 x2 : Bool} (e1 : decide (0 ≤ a) = x1) (e2 : decide (a ≤ 345686399999) = x2) : momF a = bif (x1 && x2) then 0 else 1 := by
 subst e1; subst e2
 unfold momF
 by_cases h1 : 0 ≤ a <;> by_cases h2 : a ≤ 345686399999 <;> simp [h1, h2]
theorem g_isMoment (a : Int) (h : Hp) : ACalls Tryz.prog 87 [.v (.int .i64 a)] h (fun r h' => r = .v (.bool (decide (momF a = 0))) ∧ h' = h) := by
 obtain ⟨x1, e1⟩ : ∃ b, decide (0 ≤ a) = b := ⟨_, rfl⟩
 obtain ⟨x2, e2⟩ : ∃ b, decide (a < 345686400000) = b := ⟨_, rfl⟩
 have hm := momF_of (a := a) (x2 := x2) e1 (by rw [← e2]; exact decide_eq_decide.2 (by omega))
 refine gE Tryz.func87 rfl (by kernel_rfl) 8 rfl fun c => ?_
 cases x1 <;> cases x2
 all_goals
  (repeat (first | refine gO rfl ?_ | (refine gR fun K1 hK1 => ?_; simp only [go_sem, ↓reduceIte, reduceCtorEq, nA, nB, nC, nD, nE, nF, e1, e2] <;> and_intros <;> first | (apply hK1; clear hK1 K1) | (intros; first | omega | decide) | skip)))
  simp only [Tryz.results87, go_sem, ↓reduceIte, reduceCtorEq, nA, nB, nC, nD, nE, nF]
  exact ⟨_, _, Weak.refl _, Hp.le.refl _, by rw [hm]; rfl, rfl⟩
theorem g_momentFault (a : Int) (h : Hp) : ACalls Tryz.prog 70 [.v (.int .i64 a)] h (fun r h' => r = .v (.int .i64 (momF a)) ∧ h' = h) := by
 have hm : momF a = if momF a = 0 then 0 else 1 := by unfold momF; split <;> rfl
 refine gE Tryz.func70 rfl (by kernel_rfl) 5 rfl fun c => ?_
 (repeat (first | refine gO rfl ?_ | (refine gR fun K1 hK1 => ?_; simp only [go_sem, ↓reduceIte, reduceCtorEq, nA, nB, nC, nD, nE, nF] <;> and_intros <;> first | (apply hK1; clear hK1 K1) | (intros; first | omega | decide) | skip)))
 refine (g_isMoment a h).mono ?_; rintro _ hz ⟨rfl, hh⟩; apply hK1; clear hK1 K1; rw [hh]; clear hh hz
 (repeat (first | refine gO rfl ?_ | (refine gR fun K1 hK1 => ?_; simp only [go_sem, ↓reduceIte, reduceCtorEq, nA, nB, nC, nD, nE, nF] <;> and_intros <;> first | (apply hK1; clear hK1 K1) | (intros; first | omega | decide) | skip)))
 by_cases hz : momF a = 0
 ·refine awp_cond (t := _) rfl (fun h6 => by simp [hz] at h6) (fun _ => ?_)
  (repeat (first | refine gO rfl ?_ | (refine gR fun K1 hK1 => ?_; simp only [go_sem, ↓reduceIte, reduceCtorEq, nA, nB, nC, nD, nE, nF] <;> and_intros <;> first | (apply hK1; clear hK1 K1) | (intros; first | omega | decide) | skip)))
  simp only [Tryz.results70, go_sem, ↓reduceIte, reduceCtorEq, nA, nB, nC, nD, nE, nF]
  exact ⟨_, _, Weak.refl _, Hp.le.refl _, by rw [hz], rfl⟩
 ·rw [if_neg hz] at hm
  refine awp_cond (t := _) rfl (fun _ => ?_) (fun h6 => by simp [hz] at h6)
  (repeat (first | refine gO rfl ?_ | (refine gR fun K1 hK1 => ?_; simp only [go_sem, ↓reduceIte, reduceCtorEq, nA, nB, nC, nD, nE, nF] <;> and_intros <;> first | (apply hK1; clear hK1 K1) | (intros; first | omega | decide) | skip)))
  simp only [Tryz.results70, go_sem, ↓reduceIte, reduceCtorEq, nA, nB, nC, nD, nE, nF]
  exact ⟨_, _, Weak.refl _, Hp.le.refl _, by rw [hm], rfl⟩
theorem g_playerR (p : Gu) (hp : GuOk p) (h : Hp) : ACalls Tryz.prog 18 [.agg (encGu p)] h (fun r h' => r = .v (.int .i64 (guF p)) ∧ h' = h) := by
 obtain ⟨key, scr, zone, tags⟩ := p
 obtain ⟨h1, h2, h3, ⟨h4, h5⟩⟩ := hp
 simp only at h1 h2 h3 h4 h5
 have hk1 := a_key key (by omega) h
 have hk2 := a_key scr (by omega) h
 rw [h2] at hk2
 have hT := g_keysF tags none 20 (by omega) (fun s hs => by have := h5 s hs; omega) h
 have hI := g_in zone (-1440) 1440 h
 unfold encGu encGr guF
 simp only
 refine gE Tryz.func18 rfl (by kernel_rfl) 21 rfl fun c => ?_
 (repeat (first | refine gO rfl ?_ | (refine gR fun K1 hK1 => ?_; simp only [go_sem, ↓reduceIte, reduceCtorEq, nA, nB, nC, nD, nE, nF] <;> and_intros <;> first | (apply hK1; clear hK1 K1) | (intros; first | omega | decide) | skip)))
 refine hk1.mono ?_; rintro _ hz ⟨rfl, hh⟩; apply hK1; clear hK1 K1; rw [hh]; clear hh hz
 cases hk : keyB key with
 | false =>
  (repeat (first | refine gO rfl ?_ | (refine gR fun K1 hK1 => ?_; simp only [go_sem, ↓reduceIte, reduceCtorEq, nA, nB, nC, nD, nE, nF, hk, Bool.not_false] <;> and_intros <;> first | (apply hK1; clear hK1 K1) | (intros; first | omega | decide) | skip)))
  refine awp_cond (t := _) rfl (fun _ => ?_) (fun h6 => by cases h6)
  (repeat (first | refine gO rfl ?_ | (refine gR fun K1 hK1 => ?_; simp only [go_sem, ↓reduceIte, reduceCtorEq, nA, nB, nC, nD, nE, nF] <;> and_intros <;> first | (apply hK1; clear hK1 K1) | (intros; first | omega | decide) | skip)))
  simp only [Tryz.results18, go_sem, ↓reduceIte, reduceCtorEq, nA, nB, nC, nD, nE, nF]
  exact ⟨_, _, Weak.refl _, Hp.le.refl _, rfl, rfl⟩
 | true =>
  (repeat (first | refine gO rfl ?_ | (refine gR fun K1 hK1 => ?_; simp only [go_sem, ↓reduceIte, reduceCtorEq, nA, nB, nC, nD, nE, nF, hk, Bool.not_true] <;> and_intros <;> first | (apply hK1; clear hK1 K1) | (intros; first | omega | decide) | skip)))
  rotate_left
  ·exact fun h => h.elim
  refine hk2.mono ?_
  rintro _ hz ⟨rfl, hh⟩; refine ⟨rfl, ?_⟩; apply hK1; clear hK1 K1; rw [hh]; clear hh hz
  (repeat (first | refine gO rfl ?_ | (refine gR fun K1 hK1 => ?_; simp only [go_sem, ↓reduceIte, reduceCtorEq, nA, nB, nC, nD, nE, nF, Bool.not_true] <;> and_intros <;> first | (apply hK1; clear hK1 K1) | (intros; first | omega | decide) | skip)))
  refine awp_cond (t := _) rfl (fun h6 => by cases h6) (fun _ => ?_)
  (repeat (first | refine gO rfl ?_ | (refine gR fun K1 hK1 => ?_; simp only [go_sem, ↓reduceIte, reduceCtorEq, nA, nB, nC, nD, nE, nF] <;> and_intros <;> first | (apply hK1; clear hK1 K1) | (intros; first | omega | decide) | skip)))
  refine hI.mono ?_; rintro _ hz ⟨rfl, hh⟩; apply hK1; clear hK1 K1; rw [hh]; clear hh hz
  (repeat (first | refine gO rfl ?_ | (refine gR fun K1 hK1 => ?_; simp only [go_sem, ↓reduceIte, reduceCtorEq, nA, nB, nC, nD, nE, nF] <;> and_intros <;> first | (apply hK1; clear hK1 K1) | (intros; first | omega | decide) | skip)))
  by_cases hz : -1440 ≤ zone ∧ zone ≤ 1440
  ·refine awp_cond (t := _) rfl (fun h6 => by simp [hz.1, hz.2] at h6) (fun _ => ?_)
   (repeat (first | refine gO rfl ?_ | (refine gR fun K1 hK1 => ?_; simp only [go_sem, ↓reduceIte, reduceCtorEq, nA, nB, nC, nD, nE, nF] <;> and_intros <;> first | (apply hK1; clear hK1 K1) | (intros; first | omega | decide) | skip)))
   refine hT.mono ?_; rintro _ hz ⟨rfl, hh⟩; apply hK1; clear hK1 K1; rw [hh]; clear hh hz
   (repeat (first | refine gO rfl ?_ | (refine gR fun K1 hK1 => ?_; simp only [go_sem, ↓reduceIte, reduceCtorEq, nA, nB, nC, nD, nE, nF] <;> and_intros <;> first | (apply hK1; clear hK1 K1) | (intros; first | omega | decide) | skip)))
   simp only [Tryz.results18, go_sem, ↓reduceIte, reduceCtorEq, nA, nB, nC, nD, nE, nF]
   exact ⟨_, _, Weak.refl _, Hp.le.refl _, by simp [hz], rfl⟩
  ·refine awp_cond (t := _) rfl (fun _ => ?_) (fun h6 => ?_)
   ·(repeat (first | refine gO rfl ?_ | (refine gR fun K1 hK1 => ?_; simp only [go_sem, ↓reduceIte, reduceCtorEq, nA, nB, nC, nD, nE, nF] <;> and_intros <;> first | (apply hK1; clear hK1 K1) | (intros; first | omega | decide) | skip)))
    simp only [Tryz.results18, go_sem, ↓reduceIte, reduceCtorEq, nA, nB, nC, nD, nE, nF]
    exact ⟨_, _, Weak.refl _, Hp.le.refl _, by simp [hz], rfl⟩
   ·exfalso
    simp only [Bool.not_eq_false', Bool.and_eq_true, decide_eq_true_eq] at h6
    exact hz h6
theorem g_playerF (p : Gu) (hp : GuOk p) (h : Hp) : ACalls Tryz.prog 112 [.agg (encGu p)] h (fun r h' => r = .v (.int .i64 (guF p)) ∧ h' = h) := by
 obtain ⟨key, scr, zone, tags⟩ := p
 obtain ⟨h1, h2, h3, ⟨h4, h5⟩⟩ := hp
 simp only at h1 h2 h3 h4 h5
 have hk1 := a_isKey key (by omega) h
 have hk2 := a_isKey scr (by omega) h
 rw [h2] at hk2
 have hT := g_tagsF tags none (by omega) (fun s hs => by have := h5 s hs; omega) h
 have hI := a_outside zone (-1440) 1440 h
 unfold encGu encGr guF
 simp only
 refine gE Tryz.func112 rfl (by kernel_rfl) 18 rfl fun c => ?_
 (repeat (first | refine gO rfl ?_ | (refine gR fun K1 hK1 => ?_; simp only [go_sem, ↓reduceIte, reduceCtorEq, nA, nB, nC, nD, nE, nF] <;> and_intros <;> first | (apply hK1; clear hK1 K1) | (intros; first | omega | decide) | skip)))
 refine hk1.mono ?_; rintro _ hz ⟨rfl, hh⟩; apply hK1; clear hK1 K1; rw [hh]; clear hh hz
 cases hk : keyB key with
 | false =>
  (repeat (first | refine gO rfl ?_ | (refine gR fun K1 hK1 => ?_; simp only [go_sem, ↓reduceIte, reduceCtorEq, nA, nB, nC, nD, nE, nF, hk, Bool.not_false] <;> and_intros <;> first | (apply hK1; clear hK1 K1) | (intros; first | omega | decide) | skip)))
  refine awp_cond (t := _) rfl (fun _ => ?_) (fun h6 => by cases h6)
  (repeat (first | refine gO rfl ?_ | (refine gR fun K1 hK1 => ?_; simp only [go_sem, ↓reduceIte, reduceCtorEq, nA, nB, nC, nD, nE, nF] <;> and_intros <;> first | (apply hK1; clear hK1 K1) | (intros; first | omega | decide) | skip)))
  simp only [Tryz.results112, go_sem, ↓reduceIte, reduceCtorEq, nA, nB, nC, nD, nE, nF]
  exact ⟨_, _, Weak.refl _, Hp.le.refl _, rfl, rfl⟩
 | true =>
  (repeat (first | refine gO rfl ?_ | (refine gR fun K1 hK1 => ?_; simp only [go_sem, ↓reduceIte, reduceCtorEq, nA, nB, nC, nD, nE, nF, hk, Bool.not_true] <;> and_intros <;> first | (apply hK1; clear hK1 K1) | (intros; first | omega | decide) | skip)))
  rotate_left
  ·exact fun h => h.elim
  refine hk2.mono ?_
  rintro _ hz ⟨rfl, hh⟩; refine ⟨rfl, ?_⟩; apply hK1; clear hK1 K1; rw [hh]; clear hh hz
  (repeat (first | refine gO rfl ?_ | (refine gR fun K1 hK1 => ?_; simp only [go_sem, ↓reduceIte, reduceCtorEq, nA, nB, nC, nD, nE, nF, Bool.not_true] <;> and_intros <;> first | (apply hK1; clear hK1 K1) | (intros; first | omega | decide) | skip)))
  refine awp_cond (t := _) rfl (fun h6 => by cases h6) (fun _ => ?_)
  (repeat (first | refine gO rfl ?_ | (refine gR fun K1 hK1 => ?_; simp only [go_sem, ↓reduceIte, reduceCtorEq, nA, nB, nC, nD, nE, nF] <;> and_intros <;> first | (apply hK1; clear hK1 K1) | (intros; first | omega | decide) | skip)))
  refine hI.mono ?_; rintro _ hz ⟨rfl, hh⟩; apply hK1; clear hK1 K1; rw [hh]; clear hh hz
  (repeat (first | refine gO rfl ?_ | (refine gR fun K1 hK1 => ?_; simp only [go_sem, ↓reduceIte, reduceCtorEq, nA, nB, nC, nD, nE, nF] <;> and_intros <;> first | (apply hK1; clear hK1 K1) | (intros; first | omega | decide) | skip)))
  by_cases hz : -1440 ≤ zone ∧ zone ≤ 1440
  ·refine awp_cond (t := _) rfl (fun h6 => ?_) (fun _ => ?_)
   ·exfalso
    simp only [Bool.or_eq_true, decide_eq_true_eq] at h6
    omega
   (repeat (first | refine gO rfl ?_ | (refine gR fun K1 hK1 => ?_; simp only [go_sem, ↓reduceIte, reduceCtorEq, nA, nB, nC, nD, nE, nF] <;> and_intros <;> first | (apply hK1; clear hK1 K1) | (intros; first | omega | decide) | skip)))
   refine hT.mono ?_; rintro _ hz ⟨rfl, hh⟩; apply hK1; clear hK1 K1; rw [hh]; clear hh hz
   (repeat (first | refine gO rfl ?_ | (refine gR fun K1 hK1 => ?_; simp only [go_sem, ↓reduceIte, reduceCtorEq, nA, nB, nC, nD, nE, nF] <;> and_intros <;> first | (apply hK1; clear hK1 K1) | (intros; first | omega | decide) | skip)))
   simp only [Tryz.results112, go_sem, ↓reduceIte, reduceCtorEq, nA, nB, nC, nD, nE, nF]
   exact ⟨_, _, Weak.refl _, Hp.le.refl _, by simp [hz], rfl⟩
  ·refine awp_cond (t := _) rfl (fun _ => ?_) (fun h6 => ?_)
   ·(repeat (first | refine gO rfl ?_ | (refine gR fun K1 hK1 => ?_; simp only [go_sem, ↓reduceIte, reduceCtorEq, nA, nB, nC, nD, nE, nF] <;> and_intros <;> first | (apply hK1; clear hK1 K1) | (intros; first | omega | decide) | skip)))
    simp only [Tryz.results112, go_sem, ↓reduceIte, reduceCtorEq, nA, nB, nC, nD, nE, nF]
    exact ⟨_, _, Weak.refl _, Hp.le.refl _, by simp [hz], rfl⟩
   ·exfalso
    simp only [Bool.or_eq_false_iff, decide_eq_false_iff_not] at h6
    omega
def quF (rs : List Rt) (p : Gu) (item : ByteArray) : Int := if rightsF rs = 0 then (if guF p = 0 then keyF item else guF p) else rightsF rs
theorem g_question (rs : List Rt) (p : Gu) (item : ByteArray) (kk : Option Nat) (hl : rs.length ≤ 500) (hok : ∀ r ∈ rs, RtOk r) (hp : GuOk p) (hi : item.size ≤ 4) (h : Hp) :
  ACalls Tryz.prog 69 [.row 5 (rs.map encRt) kk, .agg (encGu p), .v (.string item)] h (fun r h' => r = .v (.int .i64 (quF rs p item)) ∧ h' = h) := by
 have hR := g_checkRights rs kk hl hok h
 have hP := g_playerF p hp h
 have hK := a_isKey item (by omega) h
 obtain ⟨w1, hw1⟩ : ∃ x, x = rs.map encRt := ⟨_, rfl⟩
 obtain ⟨w2, hw2⟩ : ∃ x, x = encGu p := ⟨_, rfl⟩
 have hw3 : encGu p = [.v (.string p.key), .v (.string p.scr), .v (.int .i64 p.zone), encGr p.tags] := rfl
 rw [hw3] at hP ⊢
 unfold encGr at hP ⊢
 unfold quF keyF
 refine gE Tryz.func69 rfl (by kernel_rfl) 19 rfl fun c => ?_
 (repeat (first | refine gO rfl ?_ | (refine gR fun K1 hK1 => ?_; simp only [go_sem, ↓reduceIte, reduceCtorEq, nA, nB, nC, nD, nE, nF] <;> and_intros <;> first | (apply hK1; clear hK1 K1) | (intros; first | omega | decide) | skip)))
 refine hR.mono ?_; rintro _ hz ⟨rfl, hh⟩; apply hK1; clear hK1 K1; rw [hh]; clear hh hz
 (repeat (first | refine gO rfl ?_ | (refine gR fun K1 hK1 => ?_; simp only [go_sem, ↓reduceIte, reduceCtorEq, nA, nB, nC, nD, nE, nF] <;> and_intros <;> first | (apply hK1; clear hK1 K1) | (intros; first | omega | decide) | skip)))
 by_cases h1 : rightsF rs = 0
 ·refine awp_cond (t := _) rfl (fun h6 => by rw [h1] at h6; cases h6) (fun _ => ?_)
  (repeat (first | refine gO rfl ?_ | (refine gR fun K1 hK1 => ?_; simp only [go_sem, ↓reduceIte, reduceCtorEq, nA, nB, nC, nD, nE, nF] <;> and_intros <;> first | (apply hK1; clear hK1 K1) | (intros; first | omega | decide) | skip)))
  refine hP.mono ?_; rintro _ hz ⟨rfl, hh⟩; apply hK1; clear hK1 K1; rw [hh]; clear hh hz
  (repeat (first | refine gO rfl ?_ | (refine gR fun K1 hK1 => ?_; simp only [go_sem, ↓reduceIte, reduceCtorEq, nA, nB, nC, nD, nE, nF] <;> and_intros <;> first | (apply hK1; clear hK1 K1) | (intros; first | omega | decide) | skip)))
  by_cases h2 : guF p = 0
  ·refine awp_cond (t := _) rfl (fun h6 => by rw [h2] at h6; cases h6) (fun _ => ?_)
   (repeat (first | refine gO rfl ?_ | (refine gR fun K1 hK1 => ?_; simp only [go_sem, ↓reduceIte, reduceCtorEq, nA, nB, nC, nD, nE, nF] <;> and_intros <;> first | (apply hK1; clear hK1 K1) | (intros; first | omega | decide) | skip)))
   refine hK.mono ?_; rintro _ hz ⟨rfl, hh⟩; apply hK1; clear hK1 K1; rw [hh]; clear hh hz
   (repeat (first | refine gO rfl ?_ | (refine gR fun K1 hK1 => ?_; simp only [go_sem, ↓reduceIte, reduceCtorEq, nA, nB, nC, nD, nE, nF] <;> and_intros <;> first | (apply hK1; clear hK1 K1) | (intros; first | omega | decide) | skip)))
   cases hk : keyB item with
   | false =>
    refine awp_cond (t := _) rfl (fun _ => ?_) (fun h6 => by cases h6)
    (repeat (first | refine gO rfl ?_ | (refine gR fun K1 hK1 => ?_; simp only [go_sem, ↓reduceIte, reduceCtorEq, nA, nB, nC, nD, nE, nF] <;> and_intros <;> first | (apply hK1; clear hK1 K1) | (intros; first | omega | decide) | skip)))
    simp only [Tryz.results69, go_sem, ↓reduceIte, reduceCtorEq, nA, nB, nC, nD, nE, nF]
    exact ⟨_, _, Weak.refl _, Hp.le.refl _, by simp [h1, h2], rfl⟩
   | true =>
    refine awp_cond (t := _) rfl (fun h6 => by cases h6) (fun _ => ?_)
    (repeat (first | refine gO rfl ?_ | (refine gR fun K1 hK1 => ?_; simp only [go_sem, ↓reduceIte, reduceCtorEq, nA, nB, nC, nD, nE, nF] <;> and_intros <;> first | (apply hK1; clear hK1 K1) | (intros; first | omega | decide) | skip)))
    simp only [Tryz.results69, go_sem, ↓reduceIte, reduceCtorEq, nA, nB, nC, nD, nE, nF]
    exact ⟨_, _, Weak.refl _, Hp.le.refl _, by simp [h1, h2], rfl⟩
  ·refine awp_cond (t := _) rfl (fun _ => ?_) (fun h6 => absurd h6 (by simpa using h2))
   (repeat (first | refine gO rfl ?_ | (refine gR fun K1 hK1 => ?_; simp only [go_sem, ↓reduceIte, reduceCtorEq, nA, nB, nC, nD, nE, nF] <;> and_intros <;> first | (apply hK1; clear hK1 K1) | (intros; first | omega | decide) | skip)))
   simp only [Tryz.results69, go_sem, ↓reduceIte, reduceCtorEq, nA, nB, nC, nD, nE, nF]
   exact ⟨_, _, Weak.refl _, Hp.le.refl _, by rw [if_pos h1, if_neg h2], rfl⟩
 ·refine awp_cond (t := _) rfl (fun _ => ?_) (fun h6 => absurd h6 (by simpa using h1))
  (repeat (first | refine gO rfl ?_ | (refine gR fun K1 hK1 => ?_; simp only [go_sem, ↓reduceIte, reduceCtorEq, nA, nB, nC, nD, nE, nF] <;> and_intros <;> first | (apply hK1; clear hK1 K1) | (intros; first | omega | decide) | skip)))
  simp only [Tryz.results69, go_sem, ↓reduceIte, reduceCtorEq, nA, nB, nC, nD, nE, nF]
  exact ⟨_, _, Weak.refl _, Hp.le.refl _, by rw [if_neg h1], rfl⟩
theorem g_nanS (s : ByteArray) (h : Hp) : ACalls Tryz.prog 185 [.v (.string s)] h (fun r h' => r = .v (.bool false) ∧ h' = h) := by
 refine gE Tryz.func185 rfl (by kernel_rfl) 5 rfl fun c => ?_
 (repeat (first | refine gO rfl ?_ | (refine gR fun K1 hK1 => ?_; simp only [go_sem, ↓reduceIte, reduceCtorEq, nA, nB, nC, nD, nE, nF] <;> and_intros <;> first | (apply hK1; clear hK1 K1) | (intros; first | omega | decide) | skip)))
 simp only [Tryz.results185, go_sem, ↓reduceIte, reduceCtorEq, nA, nB, nC, nD, nE, nF]
 have e : (s == s) = true := by rw [ba_beq]; simp
 have e2 : AV.v (.bool (!(s == s))) = AV.v (.bool false) := by rw [e]; rfl
 exact ⟨_, _, Weak.refl _, Hp.le.refl _, e2, rfl⟩
theorem g_nanC (s : ByteArray) (h : Hp) : ACalls Tryz.prog 222 [.v (.string s)] h (fun r h' => r = .v (.bool false) ∧ h' = h) := by
 refine gE Tryz.func222 rfl (by kernel_rfl) 5 rfl fun c => ?_
 (repeat (first | refine gO rfl ?_ | (refine gR fun K1 hK1 => ?_; simp only [go_sem, ↓reduceIte, reduceCtorEq, nA, nB, nC, nD, nE, nF] <;> and_intros <;> first | (apply hK1; clear hK1 K1) | (intros; first | omega | decide) | skip)))
 simp only [Tryz.results222, go_sem, ↓reduceIte, reduceCtorEq, nA, nB, nC, nD, nE, nF]
 have e : (s == s) = true := by rw [ba_beq]; simp
 have e2 : AV.v (.bool (!(s == s))) = AV.v (.bool false) := by rw [e]; rfl
 exact ⟨_, _, Weak.refl _, Hp.le.refl _, e2, rfl⟩
theorem g_lessS (a b : ByteArray) (h : Hp) : ACalls Tryz.prog 184 [.v (.string a), .v (.string b)] h (fun r h' => r = .v (.bool (ltB a b)) ∧ h' = h) := by
 refine gE Tryz.func184 rfl (by kernel_rfl) 15 rfl fun c => ?_
 (repeat (first | refine gO rfl ?_ | (refine gR fun K1 hK1 => ?_; simp only [go_sem, ↓reduceIte, reduceCtorEq, nA, nB, nC, nD, nE, nF] <;> and_intros <;> first | (apply hK1; clear hK1 K1) | (intros; first | omega | decide) | skip)))
 refine (g_nanC a h).mono ?_; rintro _ hz ⟨rfl, hh⟩; apply hK1; clear hK1 K1; rw [hh]; clear hh hz
 (repeat (first | refine gO rfl ?_ | (refine gR fun K1 hK1 => ?_; simp only [go_sem, ↓reduceIte, reduceCtorEq, nA, nB, nC, nD, nE, nF] <;> and_intros <;> first | (apply hK1; clear hK1 K1) | (intros; first | omega | decide) | skip)))
 simp only [Tryz.results184, go_sem, ↓reduceIte, reduceCtorEq, nA, nB, nC, nD, nE, nF]
 exact ⟨_, _, Weak.refl _, Hp.le.refl _, rfl, rfl⟩
def sAt (l : List ByteArray) (i : Nat) : ByteArray := l.getD i ⟨#[]⟩
theorem sAt_lt {l : List ByteArray} (hs : l.Pairwise fun a b => ltB a b = true) {i j : Nat} (hij : i < j) (hj : j < l.length) : ltB (sAt l i) (sAt l j) = true := by
 have h := List.pairwise_iff_getElem.1 hs i j (by omega) hj hij
 unfold sAt
 rw [List.getD_eq_getElem?_getD, List.getD_eq_getElem?_getD, List.getElem?_eq_getElem hj, List.getElem?_eq_getElem (show i < l.length by omega)]
 exact h
theorem sAt_mem {l : List ByteArray} {i : Nat} (h : i < l.length) : sAt l i ∈ l := by
 unfold sAt
 rw [List.getD_eq_getElem?_getD, List.getElem?_eq_getElem h]; exact List.getElem_mem h
theorem mem_sAt {l : List ByteArray} {x : ByteArray} (h : x ∈ l) : ∃ i, i < l.length ∧ sAt l i = x := by
 obtain ⟨i, hi, e⟩ := List.mem_iff_getElem.1 h
 refine ⟨i, hi, ?_⟩
 unfold sAt
 rw [List.getD_eq_getElem?_getD, List.getElem?_eq_getElem hi]; exact e
def memB (tags : List ByteArray) (t : ByteArray) : Bool := tags.any fun s => decide (s = t)
theorem memB_iff {l : List ByteArray} {x : ByteArray} : memB l x = true ↔ x ∈ l := by
 unfold memB
 simp
theorem g_bs (l : List ByteArray) (x : ByteArray) (kk : Option Nat) (h : Hp) (hl : l.length ≤ 1000) (hs : l.Pairwise fun a b => ltB a b = true) :
  ACalls Tryz.prog 150 [.row 1 (l.map encS) kk, .v (.string x)] h
   (fun r h' => (∃ i : Int, r = .tup [.v (.int .i64 i), .v (.bool (memB l x))]) ∧ h' = h) := by
 have hml : (l.map encS).length = l.length := List.length_map _
 have hw1 : ∀ a b : Nat, a + b ≤ 10000 → IntKind.u64.wrap ((a : Int) + (b : Int)) = (a : Int) + (b : Int) := fun a b h => by
  show ((a : Int) + (b : Int)) % (2 ^ 64) = _
  omega
 have hw2 : ∀ x : Int, x / 2 ^ min (Int.toNat 1) 64 = x / 2 := fun x => rfl
 refine gE Tryz.func150 rfl (by kernel_rfl) 52 rfl fun c => ?_
 (repeat (first | refine gO rfl ?_ | (refine gR fun K1 hK1 => ?_; simp only [go_sem, ↓reduceIte, reduceCtorEq, nA, nB, nC, nD, nE, nF, hml] <;> and_intros <;> first | (apply hK1; clear hK1 K1) | (intros; first | omega | decide | (simp_all <;> omega)) | skip)))
 refine awp_loopC (rl false [0, 2, 4, 3, 45]) 0 (fun g s => ∃ i j : Nat, g + i = j ∧ j ≤ l.length ∧ (∀ k, k < i → ltB (sAt l k) x = true) ∧ (∀ k, j ≤ k → k < l.length → ltB (sAt l k) x = false) ∧
  s = ⟨((.row 1 (l.map encS) kk) :: (.v (.string x)) :: (jnk 4 ((.v (.int .i64 l.length)) :: (.v (.int .i64 i)) :: (.v (.int .i64 j)) :: (jnk 45 [])))), [], h⟩) l.length ⟨0, l.length, by omega, Nat.le_refl _, fun k hk => by omega, fun k h1 h2 => by omega, rfl⟩ ?_
 rintro g _ ⟨i, j, hg, hj, hi1, hj1, rfl⟩
 (repeat (first | refine gO rfl ?_ | (refine gR fun K1 hK1 => ?_; simp only [go_sem, ↓reduceIte, reduceCtorEq, nA, nB, nC, nD, nE, nF] <;> and_intros <;> first | (apply hK1; clear hK1 K1) | (intros; first | omega | decide) | skip)))
 refine awp_cond (t := _) rfl (fun h1 => ?_) (fun h1 => ?_)
 ·simp only [decide_eq_true_eq] at h1
  have hij : i < j := by omega
  obtain ⟨m, hm⟩ : ∃ m : Nat, m = (i + j) / 2 := ⟨_, rfl⟩
  have hm3 : ((i : Int) + (j : Int)) / 2 = (m : Int) := by omega
  have hmj : m < j := by omega
  have him : i ≤ m := by omega
  have hw := hw1 i j (by omega)
  have gx : (l.map encS).getD m [] = [.v (.string (sAt l m))] := row_strD l m (by omega)
  have hc := g_lessS (sAt l m) x
  clear hm
  (repeat (first | refine gO rfl ?_ | (refine gR fun K1 hK1 => ?_; simp only [go_sem, ↓reduceIte, reduceCtorEq, nA, nB, nC, nD, nE, nF, hw, hw2, hm3, hml, Int.toNat_natCast, gx] <;> and_intros <;> first | (apply hK1; clear hK1 K1) | (intros; first | omega | decide) | skip)))
  refine hc h |>.mono ?_
  rintro _ hz ⟨rfl, hh⟩; apply hK1; clear hK1 K1; rw [hh]; clear hh hz
  (repeat (first | refine gO rfl ?_ | (refine gR fun K1 hK1 => ?_; simp only [go_sem, ↓reduceIte, reduceCtorEq, nA, nB, nC, nD, nE, nF] <;> and_intros <;> first | (apply hK1; clear hK1 K1) | (intros; first | omega | decide) | skip)))
  refine awp_cond (t := _) rfl (fun h2 => ?_) (fun h2 => ?_)
  ·(repeat (first | refine gO rfl ?_ | (refine gR fun K1 hK1 => ?_; simp only [go_sem, ↓reduceIte, reduceCtorEq, nA, nB, nC, nD, nE, nF] <;> and_intros <;> first | (apply hK1; clear hK1 K1) | (intros; first | omega | decide) | skip)))
   refine ⟨g - (m + 1 - i), by omega, m + 1, j, by omega, hj, fun k hk => ?_, hj1, rfl⟩
   by_cases hkm : k = m
   ·rw [hkm]; exact h2
   ·exact ltB_trans (sAt_lt hs (show k < m by omega) (by omega)) h2
  ·(repeat (first | refine gO rfl ?_ | (refine gR fun K1 hK1 => ?_; simp only [go_sem, ↓reduceIte, reduceCtorEq, nA, nB, nC, nD, nE, nF] <;> and_intros <;> first | (apply hK1; clear hK1 K1) | (intros; first | omega | decide) | skip)))
   refine ⟨g - (j - m), by omega, i, m, by omega, by omega, hi1, fun k hk1 hk2 => ?_, rfl⟩
   by_cases hkm : k = m
   ·rw [hkm]; exact h2
   ·cases h4 : ltB (sAt l k) x with
    | false => rfl
    | true => rw [ltB_trans (sAt_lt hs (show m < k by omega) hk2) h4] at h2; cases h2
 ·simp only [decide_eq_false_iff_not] at h1
  have hij : i = j := by omega
  subst hij
  by_cases h2 : i < l.length
  ·have h2d : ((i : Int) < (l.length : Int)) := by omega
   have gx : (l.map encS).getD i [] = [.v (.string (sAt l i))] := row_strD l i h2
   by_cases h3 : sAt l i = x
   ·have h3b : (sAt l i == x) = true := by rw [ba_beq, h3]; simp
    (repeat (first | refine gO rfl ?_ | (refine gR fun K1 hK1 => ?_; simp only [go_sem, ↓reduceIte, reduceCtorEq, nA, nB, nC, nD, nE, nF, hml, Int.toNat_natCast, gx, h2d, decide_true, h3b] <;> and_intros <;> first | (apply hK1; clear hK1 K1) | (intros; first | omega | decide) | skip)))
    simp only [Tryz.results150, go_sem, ↓reduceIte, reduceCtorEq, nA, nB, nC, nD, nE, nF]
    have hmb : memB l x = true := memB_iff.2 (by rw [← h3]; exact sAt_mem h2)
    exact ⟨_, _, Weak.refl _, Hp.le.refl _, ⟨i, by rw [hmb]⟩, rfl⟩
   ·have h3b : (sAt l i == x) = false := by rw [ba_beq]; exact decide_eq_false h3
    have hmb : memB l x = false := by
     cases hm : memB l x with
     | false => rfl
     | true =>
      exfalso
      obtain ⟨k, hk, e⟩ := mem_sAt (memB_iff.1 hm)
      rcases Nat.lt_trichotomy k i with h5 | h5 | h5
      ·have := hi1 k h5; rw [e, ltB_irr] at this; cases this
      ·subst h5; exact h3 e
      ·have h6 := sAt_lt hs h5 hk
       rw [e, hj1 i (Nat.le_refl _) h2] at h6; cases h6
    (repeat (first | refine gO rfl ?_ | (refine gR fun K1 hK1 => ?_; simp only [go_sem, ↓reduceIte, reduceCtorEq, nA, nB, nC, nD, nE, nF, hml, Int.toNat_natCast, gx, h2d, decide_true, h3b] <;> and_intros <;> first | (apply hK1; clear hK1 K1) | (intros; first | omega | decide) | skip)))
    rotate_left
    ·exact fun h => h.elim
    refine (g_nanS (sAt l i) h).mono ?_
    rintro _ hz ⟨rfl, hh⟩; refine ⟨rfl, ?_⟩; apply hK1; clear hK1 K1; rw [hh]; clear hh hz
    (repeat (first | refine gO rfl ?_ | (refine gR fun K1 hK1 => ?_; simp only [go_sem, ↓reduceIte, reduceCtorEq, nA, nB, nC, nD, nE, nF] <;> and_intros <;> first | (apply hK1; clear hK1 K1) | (intros; first | omega | decide) | skip)))
    simp only [Tryz.results150, go_sem, ↓reduceIte, reduceCtorEq, nA, nB, nC, nD, nE, nF]
    exact ⟨_, _, Weak.refl _, Hp.le.refl _, ⟨i, by rw [hmb]⟩, rfl⟩
  ·have h2d : ((i : Int) < (l.length : Int)) = False := eq_false (by omega)
   have hmb : memB l x = false := by
    cases hm : memB l x with
    | false => rfl
    | true =>
     exfalso
     obtain ⟨k, hk, e⟩ := mem_sAt (memB_iff.1 hm)
     have := hi1 k (by omega); rw [e, ltB_irr] at this; cases this
   have gx : (l.map encS).getD i [] = [] := by rw [List.getD_eq_getElem?_getD, List.getElem?_eq_none (by omega)]; rfl
   (repeat (first | refine gO rfl ?_ | (refine gR fun K1 hK1 => ?_; simp only [go_sem, ↓reduceIte, reduceCtorEq, nA, nB, nC, nD, nE, nF, h2d, decide_false, Int.toNat_natCast, gx, List.getD_nil] <;> and_intros <;> first | (apply hK1; clear hK1 K1) | (intros; first | omega | decide) | skip)))
   refine ⟨.v (.bool false), rfl, rfl, ?_⟩
   ((simp only [go_sem, ↓reduceIte, reduceCtorEq, nA, nB, nC, nD, nE, nF, h2d]; (try and_intros); all_goals first | (refine hK1 _ ?_; clear hK1 K1) | (intros; first | omega | decide | (simp_all <;> omega)) | skip))
   (repeat (first | refine gO rfl ?_ | (refine gR fun K1 hK1 => ?_; simp only [go_sem, ↓reduceIte, reduceCtorEq, nA, nB, nC, nD, nE, nF] <;> and_intros <;> first | (apply hK1; clear hK1 K1) | (intros; first | omega | decide) | skip)))
   simp only [Tryz.results150, go_sem, ↓reduceIte, reduceCtorEq, nA, nB, nC, nD, nE, nF]
   exact ⟨_, _, Weak.refl _, Hp.le.refl _, ⟨i, by rw [hmb]⟩, rfl⟩
theorem inTags_step (tags l : List ByteArray) (j : Nat) (hj : j < l.length) : inTags tags (l.drop j) = (memB tags l[j] && inTags tags (l.drop (j + 1))) := by
 rw [List.drop_eq_getElem_cons hj]; rfl
theorem g_within (l tags : List ByteArray) (kk kt : Option Nat) (h : Hp) (hl : l.length ≤ 1000) (ht : tags.length ≤ 1000) (hs : tags.Pairwise fun a b => ltB a b = true) :
  ACalls Tryz.prog 113 [.row 1 (l.map encS) kk, .row 1 (tags.map encS) kt] h (fun r h' => r = .v (.bool (inTags tags l)) ∧ h' = h) := by
 have hml : (l.map encS).length = l.length := List.length_map _
 refine gE Tryz.func113 rfl (by kernel_rfl) 22 rfl fun c => ?_
 (repeat (first | refine gO rfl ?_ | (refine gR fun K1 hK1 => ?_; simp only [go_sem, ↓reduceIte, reduceCtorEq, nA, nB, nC, nD, nE, nF, hml] <;> and_intros <;> first | (apply hK1; clear hK1 K1) | (intros; first | omega | decide) | skip)))
 refine awp_loopC (rl false [1, 1, 7, 3, 12]) 0 (fun g s => ∃ (j : Nat), g + j = l.length ∧ inTags tags (l.drop j) = inTags tags l ∧
  s = ⟨(AV.junk :: ((.row 1 (tags.map encS) kt) :: (jnk 7 ((.row 1 (l.map encS) kk) :: (.v (.int .i64 l.length)) :: (.v (.int .i64 j)) :: (jnk 12 []))))), [], h⟩) l.length ⟨0, by omega, rfl, rfl⟩ ?_
 rintro g _ ⟨j, hj, hinv, rfl⟩
 (repeat (first | refine gO rfl ?_ | (refine gR fun K1 hK1 => ?_; simp only [go_sem, ↓reduceIte, reduceCtorEq, nA, nB, nC, nD, nE, nF] <;> and_intros <;> first | (apply hK1; clear hK1 K1) | (intros; first | omega | decide) | skip)))
 refine awp_cond (t := _) rfl (fun h5 => ?_) (fun h5 => ?_)
 ·simp only [decide_eq_true_eq] at h5
  have hjl : j < l.length := by omega
  have gx := row_str l j hjl
  rw [inTags_step tags l j hjl] at hinv
  have hb := g_bs tags l[j] kt h ht hs
  generalize l[j] = x at *
  (repeat (first | refine gO rfl ?_ | (refine gR fun K1 hK1 => ?_; simp only [go_sem, ↓reduceIte, reduceCtorEq, nA, nB, nC, nD, nE, nF, hml, Int.toNat_natCast, gx] <;> and_intros <;> first | (apply hK1; clear hK1 K1) | (intros; first | omega | decide) | skip)))
  refine hb.mono ?_
  rintro _ _ ⟨⟨i, rfl⟩, rfl⟩; apply hK1; clear hK1 K1
  (repeat (first | refine gO rfl ?_ | (refine gR fun K1 hK1 => ?_; simp only [go_sem, ↓reduceIte, reduceCtorEq, nA, nB, nC, nD, nE, nF] <;> and_intros <;> first | (apply hK1; clear hK1 K1) | (intros; first | omega | decide) | skip)))
  cases hm : memB tags x with
  | false =>
   refine awp_cond (t := _) rfl (fun _ => ?_) (fun h6 => by simp [hm] at h6)
   (repeat (first | refine gO rfl ?_ | (refine gR fun K1 hK1 => ?_; simp only [go_sem, ↓reduceIte, reduceCtorEq, nA, nB, nC, nD, nE, nF] <;> and_intros <;> first | (apply hK1; clear hK1 K1) | (intros; first | omega | decide) | skip)))
   simp only [Tryz.results113, go_sem, ↓reduceIte, reduceCtorEq, nA, nB, nC, nD, nE, nF]
   rw [hm, Bool.false_and] at hinv
   exact ⟨_, _, Weak.refl _, Hp.le.refl _, by rw [← hinv], rfl⟩
  | true =>
   refine awp_cond (t := _) rfl (fun h6 => by simp [hm] at h6) (fun _ => ?_)
   (repeat (first | refine gO rfl ?_ | (refine gR fun K1 hK1 => ?_; simp only [go_sem, ↓reduceIte, reduceCtorEq, nA, nB, nC, nD, nE, nF] <;> and_intros <;> first | (apply hK1; clear hK1 K1) | (intros; first | omega | decide) | skip)))
   rw [hm, Bool.true_and] at hinv
   exact ⟨g - 1, by omega, j + 1, by omega, hinv, rfl⟩
 ·simp only [decide_eq_false_iff_not] at h5
  have hjl : j = l.length := by omega
  subst hjl
  rw [List.drop_length] at hinv
  (repeat (first | refine gO rfl ?_ | (refine gR fun K1 hK1 => ?_; simp only [go_sem, ↓reduceIte, reduceCtorEq, nA, nB, nC, nD, nE, nF] <;> and_intros <;> first | (apply hK1; clear hK1 K1) | (intros; first | omega | decide) | skip)))
  simp only [Tryz.results113, go_sem, ↓reduceIte, reduceCtorEq, nA, nB, nC, nD, nE, nF]
  exact ⟨_, _, Weak.refl _, Hp.le.refl _, by rw [← hinv]; rfl, rfl⟩
theorem mayL_step (tags : List ByteArray) (item : ByteArray) (x : Int) (rs : List Rt) (o : Bool) (j : Nat) (hj : j < rs.length) : mayL tags item x (rs.drop j) o = if hitR tags item x rs[j] = true then (if rs[j].2.2.2.2 = true then false else mayL tags item x (rs.drop (j + 1)) true) else mayL tags item x (rs.drop (j + 1)) o := by
 rw [List.drop_eq_getElem_cons hj, mayL]
theorem g_may (rs : List Rt) (p : Gu) (item : ByteArray) (x : Int) (kk : Option Nat) (hl : rs.length ≤ 500) (hok : ∀ r ∈ rs, RtOk r) (hp : GuOk p) (hs : p.tags.Pairwise fun a b => ltB a b = true) (h : Hp) :
  ACalls Tryz.prog 71 [.row 5 (rs.map encRt) kk, .agg (encGu p), .v (.string item), .v (.int .i64 x)] h (fun r h' => r = .v (.bool (mayL p.tags item x rs false)) ∧ h' = h) := by
 obtain ⟨key, scr, zone, tags⟩ := p
 obtain ⟨_, _, _, ⟨h4, _⟩⟩ := hp
 simp only at h4 hs
 unfold encGu encGr
 simp only
 have hml : (rs.map encRt).length = rs.length := List.length_map _
 refine gE Tryz.func71 rfl (by kernel_rfl) 43 rfl fun c => ?_
 (repeat (first | refine gO rfl ?_ | (refine gM zM23 fun K1 hK1 => ?_; simp only [go_sem, ↓reduceIte, reduceCtorEq, nA, nB, nC, nD, nE, nF, hml] <;> and_intros <;> first | (apply hK1; clear hK1 K1) | (intros; first | omega | decide) | skip)))
 refine awp_loopC (rl false [2, 2, 1, 1, 3, 1, 2, 3, 32]) 0 (fun g s => ∃ (j : Nat) (o : Bool), g + j = rs.length ∧ mayL tags item x (rs.drop j) o = mayL tags item x rs false ∧
  s = ⟨(AV.junk :: AV.junk :: ((.v (.string item)) :: (.v (.int .i64 x)) :: AV.junk :: ((.ref [.v (.string key), .v (.string scr), .v (.int .i64 zone), .row 1 (tags.map encS) none] 0) :: (jnk 3 ((.v (.bool o)) :: AV.junk :: AV.junk :: ((.row 5 (rs.map encRt) kk) :: (.v (.int .i64 rs.length)) :: (.v (.int .i64 j)) :: (jnk 32 []))))))), [], h⟩) rs.length ⟨0, false, by omega, rfl, rfl⟩ ?_
 rintro g _ ⟨j, o, hj, hinv, rfl⟩
 (repeat (first | refine gO rfl ?_ | (refine gM zM23 fun K1 hK1 => ?_; simp only [go_sem, ↓reduceIte, reduceCtorEq, nA, nB, nC, nD, nE, nF] <;> and_intros <;> first | (apply hK1; clear hK1 K1) | (intros; first | omega | decide) | skip)))
 refine awp_cond (t := _) rfl (fun h5 => ?_) (fun h5 => ?_)
 ·simp only [decide_eq_true_eq] at h5
  have hjl : j < rs.length := by omega
  have gx : (rs.map encRt).getD j [] = encRt rs[j] := by rw [List.getD_eq_getElem?_getD, List.getElem?_map, List.getElem?_eq_getElem hjl]; rfl
  have hro := hok _ (List.getElem_mem hjl)
  rw [mayL_step tags item x rs o j hjl] at hinv
  generalize rs[j] = r at *
  obtain ⟨it, tg, fr, t2, bb⟩ := r
  rw [show encRt (it, tg, fr, t2, bb) = [.v (.string it), .row 1 (tg.map encS) none, .v (.int .i64 fr), .v (.int .i64 t2), .v (.bool bb)] from rfl] at gx
  obtain ⟨hs1, ⟨hs2, hs3⟩, hs4, hs5⟩ := hro
  simp only at hs1 hs2 hs3 hs4 hs5
  obtain ⟨x1, e1⟩ : ∃ c, (it == item) = c := ⟨_, rfl⟩
  obtain ⟨x2, e2⟩ : ∃ c, decide (fr ≤ x) = c := ⟨_, rfl⟩
  obtain ⟨x3, e3⟩ : ∃ c, decide (x < t2) = c := ⟨_, rfl⟩
  have hit : hitR tags item x (it, tg, fr, t2, bb) = (x1 && (x2 && x3) && inTags tags tg) := by
   unfold hitR hasR
   rw [← ba_beq]
   simp only [e1, e2, e3]
  rw [hit] at hinv
  have hW := g_within tg tags none none h (by omega) (by omega) hs
  cases x1 with
  | false =>
   (repeat (first | refine gO rfl ?_ | (refine gM zM23 fun K1 hK1 => ?_; simp only [go_sem, ↓reduceIte, reduceCtorEq, nA, nB, nC, nD, nE, nF, hml, Int.toNat_natCast, gx, e1, e2, e3] <;> and_intros <;> first | (apply hK1; clear hK1 K1) | (intros; first | omega | decide) | skip)))
   refine awp_cond (t := _) rfl (fun h6 => by cases h6) (fun _ => ?_)
   (repeat (first | refine gO rfl ?_ | (refine gM zM23 fun K1 hK1 => ?_; simp only [go_sem, ↓reduceIte, reduceCtorEq, nA, nB, nC, nD, nE, nF] <;> and_intros <;> first | (apply hK1; clear hK1 K1) | (intros; first | omega | decide) | skip)))
   exact ⟨g - 1, by omega, j + 1, o, by omega, hinv, rfl⟩
  | true =>
   cases x2 with
   | false =>
    (repeat (first | refine gO rfl ?_ | (refine gM zM23 fun K1 hK1 => ?_; simp only [go_sem, ↓reduceIte, reduceCtorEq, nA, nB, nC, nD, nE, nF, hml, Int.toNat_natCast, gx, e1, e2, e3] <;> and_intros <;> first | (apply hK1; clear hK1 K1) | (intros; first | omega | decide) | skip)))
    refine awp_cond (t := _) rfl (fun h6 => by cases h6) (fun _ => ?_)
    (repeat (first | refine gO rfl ?_ | (refine gM zM23 fun K1 hK1 => ?_; simp only [go_sem, ↓reduceIte, reduceCtorEq, nA, nB, nC, nD, nE, nF] <;> and_intros <;> first | (apply hK1; clear hK1 K1) | (intros; first | omega | decide) | skip)))
    exact ⟨g - 1, by omega, j + 1, o, by omega, hinv, rfl⟩
   | true =>
    cases x3 with
    | false =>
     (repeat (first | refine gO rfl ?_ | (refine gM zM23 fun K1 hK1 => ?_; simp only [go_sem, ↓reduceIte, reduceCtorEq, nA, nB, nC, nD, nE, nF, hml, Int.toNat_natCast, gx, e1, e2, e3] <;> and_intros <;> first | (apply hK1; clear hK1 K1) | (intros; first | omega | decide) | skip)))
     refine awp_cond (t := _) rfl (fun h6 => by cases h6) (fun _ => ?_)
     (repeat (first | refine gO rfl ?_ | (refine gM zM23 fun K1 hK1 => ?_; simp only [go_sem, ↓reduceIte, reduceCtorEq, nA, nB, nC, nD, nE, nF] <;> and_intros <;> first | (apply hK1; clear hK1 K1) | (intros; first | omega | decide) | skip)))
     exact ⟨g - 1, by omega, j + 1, o, by omega, hinv, rfl⟩
    | true =>
     (repeat (first | refine gO rfl ?_ | (refine gM zM23 fun K1 hK1 => ?_; simp only [go_sem, ↓reduceIte, reduceCtorEq, nA, nB, nC, nD, nE, nF, hml, Int.toNat_natCast, gx, e1, e2, e3] <;> and_intros <;> first | (apply hK1; clear hK1 K1) | (intros; first | omega | decide) | skip)))
     rotate_left
     ·exact fun h => h.elim
     refine hW.mono ?_
     rintro _ hz ⟨rfl, hh⟩; refine ⟨rfl, ?_⟩; apply hK1; clear hK1 K1; rw [hh]; clear hh hz
     (repeat (first | refine gO rfl ?_ | (refine gM zM23 fun K1 hK1 => ?_; simp only [go_sem, ↓reduceIte, reduceCtorEq, nA, nB, nC, nD, nE, nF, hml] <;> and_intros <;> first | (apply hK1; clear hK1 K1) | (intros; first | omega | decide) | skip)))
     simp only [Bool.true_and] at hinv
     cases hb : inTags tags tg with
     | false =>
      rw [hb] at hinv
      refine awp_cond (t := _) rfl (fun h6 => by cases h6) (fun _ => ?_)
      (repeat (first | refine gO rfl ?_ | (refine gM zM23 fun K1 hK1 => ?_; simp only [go_sem, ↓reduceIte, reduceCtorEq, nA, nB, nC, nD, nE, nF] <;> and_intros <;> first | (apply hK1; clear hK1 K1) | (intros; first | omega | decide) | skip)))
      exact ⟨g - 1, by omega, j + 1, o, by omega, hinv, rfl⟩
     | true =>
      rw [hb, if_pos rfl] at hinv
      refine awp_cond (t := _) rfl (fun _ => ?_) (fun h6 => by cases h6)
      (repeat (first | refine gO rfl ?_ | (refine gM zM23 fun K1 hK1 => ?_; simp only [go_sem, ↓reduceIte, reduceCtorEq, nA, nB, nC, nD, nE, nF] <;> and_intros <;> first | (apply hK1; clear hK1 K1) | (intros; first | omega | decide) | skip)))
      cases bb with
      | true =>
       refine awp_cond (t := _) rfl (fun _ => ?_) (fun h6 => by cases h6)
       (repeat (first | refine gO rfl ?_ | (refine gM zM23 fun K1 hK1 => ?_; simp only [go_sem, ↓reduceIte, reduceCtorEq, nA, nB, nC, nD, nE, nF] <;> and_intros <;> first | (apply hK1; clear hK1 K1) | (intros; first | omega | decide) | skip)))
       simp only [Tryz.results71, go_sem, ↓reduceIte, reduceCtorEq, nA, nB, nC, nD, nE, nF]
       exact ⟨_, _, Weak.refl _, Hp.le.refl _, by rw [← hinv]; rfl, rfl⟩
      | false =>
       refine awp_cond (t := _) rfl (fun h6 => by cases h6) (fun _ => ?_)
       (repeat (first | refine gO rfl ?_ | (refine gM zM23 fun K1 hK1 => ?_; simp only [go_sem, ↓reduceIte, reduceCtorEq, nA, nB, nC, nD, nE, nF] <;> and_intros <;> first | (apply hK1; clear hK1 K1) | (intros; first | omega | decide) | skip)))
       exact ⟨g - 1, by omega, j + 1, true, by omega, hinv, rfl⟩
 ·skip
  simp only [decide_eq_false_iff_not] at h5
  have hjl : j = rs.length := by omega
  subst hjl
  rw [List.drop_length, mayL] at hinv
  (repeat (first | refine gO rfl ?_ | (refine gM zM23 fun K1 hK1 => ?_; simp only [go_sem, ↓reduceIte, reduceCtorEq, nA, nB, nC, nD, nE, nF] <;> and_intros <;> first | (apply hK1; clear hK1 K1) | (intros; first | omega | decide) | skip)))
  simp only [Tryz.results71, go_sem, ↓reduceIte, reduceCtorEq, nA, nB, nC, nD, nE, nF]
  exact ⟨_, _, Weak.refl _, Hp.le.refl _, by rw [← hinv], rfl⟩
theorem guF_tags {p : Gu} (h : guF p = 0) : p.tags.Pairwise fun a b => ltB a b = true := by
 unfold guF at h
 split at h
 ·cases h
 ·split at h
  ·exact (rise_sorted _ _ h).1
  ·cases h
theorem quF_gu {rs : List Rt} {p : Gu} {item : ByteArray} (h : quF rs p item = 0) : rightsF rs = 0 ∧ guF p = 0 ∧ keyF item = 0 := by
 unfold quF at h
 split at h
 ·rename_i h1
  split at h
  ·rename_i h2; exact ⟨h1, h2, h⟩
  ·rename_i h2; exact absurd h h2
 ·rename_i h1; exact absurd h h1
theorem g_May (rs : List Rt) (p : Gu) (item : ByteArray) (x : Int) (kk : Option Nat) (hl : rs.length ≤ 500) (hok : ∀ r ∈ rs, RtOk r) (hp : GuOk p) (hi : item.size ≤ 4) (h : Hp) :
  ACalls Tryz.prog 15 [.row 5 (rs.map encRt) kk, .agg (encGu p), .v (.string item), .v (.int .i64 x)] h
   (fun r h' => r = (if quF rs p item = 0 then (if momF x = 0 then .tup [.v (.bool (mayL p.tags item x rs false)), .v (.int .i64 0)] else .tup [.v (.bool false), .v (.int .i64 (momF x))]) else .tup [.v (.bool false), .v (.int .i64 (quF rs p item))]) ∧ h' = h) := by
 have hQ := g_question rs p item kk hl hok hp hi h
 have hM := g_momentFault x h
 have hG := fun hs => g_may rs p item x kk hl hok hp hs h
 have hw3 : encGu p = [.v (.string p.key), .v (.string p.scr), .v (.int .i64 p.zone), encGr p.tags] := rfl
 rw [hw3] at hQ hG ⊢
 unfold encGr at hQ hG ⊢
 refine gE Tryz.func15 rfl (by kernel_rfl) 25 rfl fun c => ?_
 (repeat (first | refine gO rfl ?_ | (refine gR fun K1 hK1 => ?_; simp only [go_sem, ↓reduceIte, reduceCtorEq, nA, nB, nC, nD, nE, nF] <;> and_intros <;> first | (apply hK1; clear hK1 K1) | (intros; first | omega | decide) | skip)))
 refine hQ.mono ?_; rintro _ hz ⟨rfl, hh⟩; apply hK1; clear hK1 K1; rw [hh]; clear hh hz
 (repeat (first | refine gO rfl ?_ | (refine gR fun K1 hK1 => ?_; simp only [go_sem, ↓reduceIte, reduceCtorEq, nA, nB, nC, nD, nE, nF] <;> and_intros <;> first | (apply hK1; clear hK1 K1) | (intros; first | omega | decide) | skip)))
 by_cases h1 : quF rs p item = 0
 ·refine awp_cond (t := _) rfl (fun h6 => by rw [h1] at h6; cases h6) (fun _ => ?_)
  (repeat (first | refine gO rfl ?_ | (refine gR fun K1 hK1 => ?_; simp only [go_sem, ↓reduceIte, reduceCtorEq, nA, nB, nC, nD, nE, nF] <;> and_intros <;> first | (apply hK1; clear hK1 K1) | (intros; first | omega | decide) | skip)))
  refine hM.mono ?_; rintro _ hz ⟨rfl, hh⟩; apply hK1; clear hK1 K1; rw [hh]; clear hh hz
  (repeat (first | refine gO rfl ?_ | (refine gR fun K1 hK1 => ?_; simp only [go_sem, ↓reduceIte, reduceCtorEq, nA, nB, nC, nD, nE, nF] <;> and_intros <;> first | (apply hK1; clear hK1 K1) | (intros; first | omega | decide) | skip)))
  by_cases h2 : momF x = 0
  ·refine awp_cond (t := _) rfl (fun h6 => by rw [h2] at h6; cases h6) (fun _ => ?_)
   (repeat (first | refine gO rfl ?_ | (refine gR fun K1 hK1 => ?_; simp only [go_sem, ↓reduceIte, reduceCtorEq, nA, nB, nC, nD, nE, nF] <;> and_intros <;> first | (apply hK1; clear hK1 K1) | (intros; first | omega | decide) | skip)))
   refine (hG (guF_tags (quF_gu h1).2.1)).mono ?_; rintro _ hz ⟨rfl, hh⟩; apply hK1; clear hK1 K1; rw [hh]; clear hh hz
   (repeat (first | refine gO rfl ?_ | (refine gR fun K1 hK1 => ?_; simp only [go_sem, ↓reduceIte, reduceCtorEq, nA, nB, nC, nD, nE, nF] <;> and_intros <;> first | (apply hK1; clear hK1 K1) | (intros; first | omega | decide) | skip)))
   simp only [Tryz.results15, go_sem, ↓reduceIte, reduceCtorEq, nA, nB, nC, nD, nE, nF]
   exact ⟨_, _, Weak.refl _, Hp.le.refl _, by rw [if_pos h1, if_pos h2], rfl⟩
  ·refine awp_cond (t := _) rfl (fun _ => ?_) (fun h6 => absurd h6 (by simpa using h2))
   (repeat (first | refine gO rfl ?_ | (refine gR fun K1 hK1 => ?_; simp only [go_sem, ↓reduceIte, reduceCtorEq, nA, nB, nC, nD, nE, nF] <;> and_intros <;> first | (apply hK1; clear hK1 K1) | (intros; first | omega | decide) | skip)))
   simp only [Tryz.results15, go_sem, ↓reduceIte, reduceCtorEq, nA, nB, nC, nD, nE, nF]
   exact ⟨_, _, Weak.refl _, Hp.le.refl _, by rw [if_pos h1, if_neg h2], rfl⟩
 ·refine awp_cond (t := _) rfl (fun _ => ?_) (fun h6 => absurd h6 (by simpa using h1))
  (repeat (first | refine gO rfl ?_ | (refine gR fun K1 hK1 => ?_; simp only [go_sem, ↓reduceIte, reduceCtorEq, nA, nB, nC, nD, nE, nF] <;> and_intros <;> first | (apply hK1; clear hK1 K1) | (intros; first | omega | decide) | skip)))
  simp only [Tryz.results15, go_sem, ↓reduceIte, reduceCtorEq, nA, nB, nC, nD, nE, nF]
  exact ⟨_, _, Weak.refl _, Hp.le.refl _, by rw [if_neg h1], rfl⟩
open Go Go.Lib
abbrev zPBE : List Nat := [0, 1, 2, 3, 4, 5, 6, 7, 8]
abbrev zPBP : List (Nat × List Nat × List Nat) := []
attribute [go_sem] zPBE zPBP
def encW2 (w : Wnd) : List AV := [.v (.int .i64 w.1), .v (.int .i64 w.2)]
def covB (a b : Int) : List Wnd → Bool
  | [] => decide (b ≤ a)
  | w :: l => if a < w.1 then decide (b ≤ a) else covB (max a w.2) b l
theorem covB_iff (b : Int) : ∀ (S : List Wnd) (a : Int), S.Pairwise (fun v w => v.1 ≤ w.1) → (covB a b S = true ↔ ∀ x, a ≤ x → x < b → ∃ w ∈ S, w.1 ≤ x ∧ x < w.2)
  | [], a, _ => by
    unfold covB
    rw [decide_eq_true_eq]
    constructor
    · intro h x h1 h2; omega
    · intro h
      by_cases hab : b ≤ a
      · exact hab
      · obtain ⟨w, hw, _⟩ := h a (Int.le_refl _) (by omega); cases hw
  | w :: l, a, hp => by
    have hp1 := List.pairwise_cons.1 hp
    unfold covB
    by_cases h1 : a < w.1
    · rw [if_pos h1, decide_eq_true_eq]
      constructor
      · intro h x h2 h3; omega
      · intro h
        by_cases hab : b ≤ a
        · exact hab
        · obtain ⟨v, hv, h2, _⟩ := h a (Int.le_refl _) (by omega)
          rcases List.mem_cons.1 hv with rfl | hv
          · omega
          · have := hp1.1 v hv; omega
    · rw [if_neg h1, covB_iff b l _ hp1.2]
      constructor
      · intro h x h2 h3
        by_cases h4 : x < max a w.2
        · exact ⟨w, by simp, by omega, by omega⟩
        · obtain ⟨v, hv, h5⟩ := h x (by omega) h3
          exact ⟨v, by simp [hv], h5⟩
      · intro h x h2 h3
        obtain ⟨v, hv, h5, h6⟩ := h x (by omega) h3
        rcases List.mem_cons.1 hv with rfl | hv
        · omega
        · exact ⟨v, hv, h5, h6⟩
theorem mayL_iff (tags : List ByteArray) (item : ByteArray) (x : Int) : ∀ (l : List Rt) (o : Bool), mayL tags item x l o = true ↔ (∀ r ∈ l, hitR tags item x r = true → r.2.2.2.2 = false) ∧ (o = true ∨ ∃ r ∈ l, hitR tags item x r = true)
  | [], o => by simp [mayL]
  | r :: l, o => by
    rw [mayL]
    by_cases h1 : hitR tags item x r = true
    · rw [if_pos h1]
      cases h2 : r.2.2.2.2 with
      | true =>
        rw [if_pos rfl]
        constructor
        · intro h; cases h
        · rintro ⟨h3, _⟩
          have := h3 r (by simp) h1
          rw [h2] at this; cases this
      | false =>
        rw [if_neg (by decide), mayL_iff tags item x l true]
        constructor
        · rintro ⟨h3, _⟩
          exact ⟨fun s hs hh => by
            rcases List.mem_cons.1 hs with rfl | hs
            · exact h2
            · exact h3 s hs hh, .inr ⟨r, by simp, h1⟩⟩
        · rintro ⟨h3, _⟩
          exact ⟨fun s hs hh => h3 s (by simp [hs]) hh, .inl rfl⟩
    · rw [if_neg h1, mayL_iff tags item x l o]
      constructor
      · rintro ⟨h3, h4⟩
        refine ⟨fun s hs hh => ?_, h4.imp id fun ⟨s, hs, hh⟩ => ⟨s, by simp [hs], hh⟩⟩
        rcases List.mem_cons.1 hs with rfl | hs
        · exact absurd hh h1
        · exact h3 s hs hh
      · rintro ⟨h3, h4⟩
        refine ⟨fun s hs hh => h3 s (by simp [hs]) hh, h4.imp id ?_⟩
        rintro ⟨s, hs, hh⟩
        rcases List.mem_cons.1 hs with rfl | hs
        · exact absurd hh h1
        · exact ⟨s, hs, hh⟩
abbrev zPCE : List Nat := [0, 1, 2, 3, 4, 5, 6, 7, 8, 9, 10, 11, 12, 13]
abbrev zPCP : List (Nat × List Nat × List Nat) := [(14, [], [15, 16])]
abbrev zPDE : List Nat := [0, 1, 2, 3, 4, 5, 6, 7, 8, 9, 10, 11, 12, 13, 14]
abbrev zPDP : List (Nat × List Nat × List Nat) := [(15, [], [16]), (17, [], [])]
abbrev zPEE : List Nat := [0, 1, 2, 3, 4, 5, 6, 7, 8, 9, 10, 11, 12]
abbrev zPEP : List (Nat × List Nat × List Nat) := [(13, [], [14, 15, 16])]
attribute [go_sem] zPCE zPCP zPDE zPDP zPEE zPEP
theorem drop_at {α : Type} (l : List α) (j : Nat) (d : α) (h : j < l.length) : l.drop j = l.getD j d :: l.drop (j + 1) := drop_at' l j d h
theorem take_snoc {α : Type} (l : List α) (j : Nat) (d : α) (h : j < l.length) : l.take (j + 1) = l.take j ++ [l.getD j d] := by
 rw [List.take_succ_eq_append_getElem h, List.getD_eq_getElem?_getD, List.getElem?_eq_getElem h]; rfl
def encVW (x : Wnd) : AV := .agg (encW2 x)
theorem g_insW {f : Nat} {caps : List AV} (cf : Wnd → Wnd → Int) (k : Nat) (xs : List Wnd) (h : Hp) (hT : h.T k = some (.cont 2 (xs.map encW2))) (hl : xs.length ≤ 1000)
  (hc : ∀ x ∈ xs, ∀ y ∈ xs, ∀ T', ACalls Tryz.prog f ([encVW x, encVW y] ++ caps) ⟨h.H, T'⟩ (fun r h' => r = .v (.int .i64 (cf x y)) ∧ h' = ⟨h.H, T'⟩)) :
  ACalls Tryz.prog 228 [.arr 2 k xs.length, .v (.int .i64 0), .v (.int .i64 xs.length), .fn f caps] h (fun r h' => r = .tup [] ∧ h' = ⟨h.H, upd h.T k (some (.cont 2 ((sortI cf xs).map encW2)))⟩) := by
 refine gE Tryz.func228 rfl (by kernel_rfl) 49 rfl fun c => ?_
 (repeat (first | refine gO rfl ?_ | ((first | refine gR ?_ | (with_reducible refine wM ?_ ?_) | ((with_reducible refine xS ?_); refine uD 4 zM21 zPCE zPCP 53 rfl (by kernel_rfl) ?_) | ((with_reducible refine xR ?_); refine uE 6 zM21 zPDE zPDP 53 rfl (by kernel_rfl) ?_)) <;> ((try with_reducible intro K1 hK1); simp only [go_sem, ↓reduceIte, reduceCtorEq, nA, nB, nC, nD, nE, nF] <;> and_intros <;> first | (apply hK1; clear hK1 K1) | (intros; first | omega | decide | (simp_all <;> omega)) | skip))))
 refine awp_loopC (rl false [0, 4, 4, 1, 44]) 0 (fun g s => ∃ i : Nat, 1 ≤ i ∧ g + i = xs.length + 1 ∧
  s = ⟨((.arr 2 k xs.length) :: (.v (.int .i64 0)) :: (.v (.int .i64 xs.length)) :: (.fn f caps) :: (jnk 4 ((.v (.int .i64 i)) :: (jnk 44 [])))), [], ⟨h.H, upd h.T k (some (.cont 2 (((insS cf (xs.take i)).reverse ++ xs.drop i).map encW2)))⟩⟩) xs.length
  ⟨1, by omega, by omega, ?_⟩ ?_
 ·have e1 : (insS cf (xs.take 1)).reverse ++ xs.drop 1 = xs := by cases xs <;> simp [insS, insR]
  have e2 : upd h.T k (some (TO.cont 2 (xs.map encW2))) = h.T := by
   funext q
   by_cases e : q = k
   ·rw [e, upd_same, hT]
   ·rw [upd_other _ _ e]
  rw [e1, e2]; rfl
 rintro g _ ⟨i, hi1, hi, rfl⟩
 (repeat (first | refine gO rfl ?_ | ((first | refine gR ?_ | (with_reducible refine wM ?_ ?_) | ((with_reducible refine xS ?_); refine uD 4 zM21 zPCE zPCP 53 rfl (by kernel_rfl) ?_) | ((with_reducible refine xR ?_); refine uE 6 zM21 zPDE zPDP 53 rfl (by kernel_rfl) ?_)) <;> ((try with_reducible intro K1 hK1); simp only [go_sem, ↓reduceIte, reduceCtorEq, nA, nB, nC, nD, nE, nF] <;> and_intros <;> first | (apply hK1; clear hK1 K1) | (intros; first | omega | decide | (simp_all <;> omega)) | skip))))
 refine awp_cond (t := _) rfl (fun h1 => ?_) (fun h1 => ?_)
 ·simp only [decide_eq_true_eq] at h1
  have hil : i < xs.length := by omega
  have hdr : xs.drop i = xs.getD i default :: xs.drop (i + 1) := drop_at xs i default hil
  have htk : xs.take (i + 1) = xs.take i ++ [xs.getD i default] := take_snoc xs i default hil
  have hxm : xs.getD i default ∈ xs := by
   rw [List.getD_eq_getElem?_getD, List.getElem?_eq_getElem hil]; exact List.getElem_mem _
  have hpl : (insS cf (xs.take i)).length = i := by rw [insS_len, List.length_take]; omega
  have hpm : ∀ z ∈ (insS cf (xs.take i)).reverse, z ∈ xs := fun z hz => List.mem_of_mem_take ((insS_perm cf (xs.take i)).mem_iff.1 (List.mem_reverse.1 hz))
  have hin : insS cf (xs.take (i + 1)) = insR cf (insS cf (xs.take i)) (xs.getD i default) := by rw [htk, insS_snoc]
  rw [hdr]
  generalize xs.getD i default = x at hxm hin ⊢
  generalize insS cf (xs.take i) = R at hpl hpm hin ⊢
  generalize hrs : xs.drop (i + 1) = rest
  clear hdr htk
  (repeat (first | refine gO rfl ?_ | ((first | refine gR ?_ | (with_reducible refine wM ?_ ?_) | ((with_reducible refine xS ?_); refine uD 4 zM21 zPCE zPCP 53 rfl (by kernel_rfl) ?_) | ((with_reducible refine xR ?_); refine uE 6 zM21 zPDE zPDP 53 rfl (by kernel_rfl) ?_)) <;> ((try with_reducible intro K1 hK1); simp only [go_sem, ↓reduceIte, reduceCtorEq, nA, nB, nC, nD, nE, nF] <;> and_intros <;> first | (apply hK1; clear hK1 K1) | (intros; first | omega | decide | (simp_all <;> omega)) | skip))))
  refine awp_loopC (rl false [0, 4, 4, 2, 43]) 0 (fun g2 s => ∃ (A B : List Wnd), g2 = A.length ∧ insR cf R x = B.reverse ++ insR cf A.reverse x ∧ A.length + B.length = i ∧ (∀ z ∈ A, z ∈ xs) ∧
   s = ⟨((.arr 2 k xs.length) :: (.v (.int .i64 0)) :: (.v (.int .i64 xs.length)) :: (.fn f caps) :: (jnk 4 ((.v (.int .i64 i)) :: (.v (.int .i64 A.length)) :: (jnk 43 [])))), [], ⟨h.H, upd h.T k (some (.cont 2 ((A ++ x :: (B ++ rest)).map encW2)))⟩⟩) i
   ⟨R.reverse, [], by rw [List.length_reverse, hpl], by rw [List.reverse_reverse]; rfl, by rw [List.length_reverse, hpl]; rfl, hpm, by rw [List.length_reverse, hpl]; rfl⟩ ?_
  rintro g2 _ ⟨A, B, rfl, hR, hAB, hA, rfl⟩
  have hTq : ∀ X, upd h.T k (some (TO.cont 2 X)) k = some (.cont 2 X) := fun X => upd_same _ _ _
  have hcl : ((A ++ x :: (B ++ rest)).map encW2).length = xs.length := by
   have h9 := congrArg List.length hrs
   rw [List.length_drop] at h9
   simp; omega
  by_cases h0 : A.length = 0
  ·have hd0 : decide (0 < (A.length : Int)) = false := by simp [h0]
   have hA0 : A = [] := List.eq_nil_of_length_eq_zero h0
   clear hc
   (repeat (first | refine gO rfl ?_ | ((first | refine gR ?_ | (with_reducible refine wM ?_ ?_) | ((with_reducible refine xS ?_); refine uD 4 zM21 zPCE zPCP 53 rfl (by kernel_rfl) ?_) | ((with_reducible refine xR ?_); refine uE 6 zM21 zPDE zPDP 53 rfl (by kernel_rfl) ?_)) <;> ((try with_reducible intro K1 hK1); simp only [go_sem, ↓reduceIte, reduceCtorEq, nA, nB, nC, nD, nE, nF, hd0] <;> and_intros <;> first | (apply hK1; clear hK1 K1) | (intros; first | omega | decide | (simp_all <;> omega)) | skip))))
   refine ⟨.v (.bool false), rfl, hK1 _ ?_⟩; clear hK1 K1
   (repeat (first | refine gO rfl ?_ | ((first | refine gR ?_ | (with_reducible refine wM ?_ ?_) | ((with_reducible refine xS ?_); refine uD 4 zM21 zPCE zPCP 53 rfl (by kernel_rfl) ?_) | ((with_reducible refine xR ?_); refine uE 6 zM21 zPDE zPDP 53 rfl (by kernel_rfl) ?_)) <;> ((try with_reducible intro K1 hK1); simp only [go_sem, ↓reduceIte, reduceCtorEq, nA, nB, nC, nD, nE, nF, hd0] <;> and_intros <;> first | (apply hK1; clear hK1 K1) | (intros; first | omega | decide | (simp_all <;> omega)) | skip))))
   refine awp_cond (t := _) rfl (fun h9 => by cases h9) (fun _ => ?_)
   (repeat (first | refine gO rfl ?_ | ((first | refine gR ?_ | (with_reducible refine wM ?_ ?_) | ((with_reducible refine xS ?_); refine uD 4 zM21 zPCE zPCP 53 rfl (by kernel_rfl) ?_) | ((with_reducible refine xR ?_); refine uE 6 zM21 zPDE zPDP 53 rfl (by kernel_rfl) ?_)) <;> ((try with_reducible intro K1 hK1); simp only [go_sem, ↓reduceIte, reduceCtorEq, nA, nB, nC, nD, nE, nF] <;> and_intros <;> first | (apply hK1; clear hK1 K1) | (intros; first | omega | decide | (simp_all <;> omega)) | skip))))
   refine ⟨g - 1, by omega, i + 1, by omega, by omega, ?_⟩
   subst hA0
   have e3 : (insS cf (xs.take (i + 1))).reverse ++ xs.drop (i + 1) = x :: (B ++ rest) := by rw [hin, hR, hrs]; simp [insR]
   rw [e3]; rfl
  ·obtain ⟨A', y, rfl⟩ : ∃ A' y, A = A' ++ [y] := by
    rcases List.eq_nil_or_concat A with rfl | ⟨A', y, e⟩
    ·exact absurd rfl h0
    ·exact ⟨A', y, by rw [e, List.concat_eq_append]⟩
   have hd0 : decide (0 < ((A' ++ [y]).length : Int)) = true := by simp
   have hti : (((A' ++ [y]).length : Int) - 1).toNat = A'.length := by simp
   have hy : y ∈ xs := hA y (by simp)
   have gx : (((A' ++ [y]) ++ x :: (B ++ rest)).map encW2).getD (A' ++ [y]).length [] = encW2 x := by
    rw [List.map_append, List.map_cons]
    have := getD_mid ((A' ++ [y]).map encW2) (encW2 x) ((B ++ rest).map encW2) []
    rwa [List.length_map] at this
   have gy : (((A' ++ [y]) ++ x :: (B ++ rest)).map encW2).getD A'.length [] = encW2 y := by
    rw [List.append_assoc, List.map_append, List.singleton_append, List.map_cons]
    have := getD_mid (A'.map encW2) (encW2 y) ((x :: (B ++ rest)).map encW2) []
    rwa [List.length_map] at this
   have hcc := fun T' => hc x hxm y hy T'
   have hlt : (A' ++ [y]).length < xs.length := by omega
   have hlt2 : A'.length < xs.length := by simp at hlt; omega
   generalize hct : ((A' ++ [y]) ++ x :: (B ++ rest)).map encW2 = ct at *
   (repeat (first | refine gO rfl ?_ | ((first | refine gR ?_ | (with_reducible refine wM ?_ ?_) | ((with_reducible refine xS ?_); refine uD 4 zM21 zPCE zPCP 53 rfl (by kernel_rfl) ?_) | ((with_reducible refine xR ?_); refine uE 6 zM21 zPDE zPDP 53 rfl (by kernel_rfl) ?_)) <;> ((try with_reducible intro K1 hK1); simp only [go_sem, ↓reduceIte, reduceCtorEq, nA, nB, nC, nD, nE, nF, hd0, hTq, hcl, Int.toNat_natCast, hti, gx, gy, encW2] <;> and_intros <;> first | (apply hK1; clear hK1 K1) | (intros; first | omega | decide) | skip))))
   rotate_left 1
   ·rintro ⟨⟩
   refine (hcc _).mono ?_; rintro _ hz ⟨rfl, hh⟩; refine ⟨rfl, hK1 _ ?_⟩; clear hK1 K1; rw [hh]; clear hh hz
   (repeat (first | refine gO rfl ?_ | ((first | refine gR ?_ | (with_reducible refine wM ?_ ?_) | ((with_reducible refine xS ?_); refine uD 4 zM21 zPCE zPCP 53 rfl (by kernel_rfl) ?_) | ((with_reducible refine xR ?_); refine uE 6 zM21 zPDE zPDP 53 rfl (by kernel_rfl) ?_)) <;> ((try with_reducible intro K1 hK1); simp only [go_sem, ↓reduceIte, reduceCtorEq, nA, nB, nC, nD, nE, nF, hd0] <;> and_intros <;> first | (apply hK1; clear hK1 K1) | (intros; first | omega | decide) | skip))))
   refine awp_cond (t := _) rfl (fun h9 => ?_) (fun h9 => ?_)
   ·have h8 : cf x y < 0 := by simpa using h9
    have hs9 : ((A' ++ [y]).length : Int) - 1 = A'.length := by simp
    have e4 : (ct.set (A' ++ [y]).length (encW2 y)).set A'.length (encW2 x) = (A' ++ x :: (y :: B ++ rest)).map encW2 := by
     have h5 := set_mid ((A' ++ [y]).map encW2) (encW2 x) (encW2 y) ((B ++ rest).map encW2)
     have h6 := set_mid (A'.map encW2) (encW2 y) (encW2 x) ((encW2 y) :: (B ++ rest).map encW2)
     rw [List.length_map] at h5 h6
     rw [← hct, List.map_append, List.map_cons, h5, List.map_append, List.append_assoc]
     rw [show [y].map encW2 ++ encW2 y :: (B ++ rest).map encW2 = encW2 y :: (encW2 y :: (B ++ rest).map encW2) from rfl, h6]
     simp
    have g3 : (ct.set (A' ++ [y]).length (encW2 y)).getD A'.length [] = encW2 y := by
     have h5 := set_mid ((A' ++ [y]).map encW2) (encW2 x) (encW2 y) ((B ++ rest).map encW2)
     have h6 := getD_mid (A'.map encW2) (encW2 y) ((encW2 y) :: (B ++ rest).map encW2) []
     rw [List.length_map] at h5 h6
     rw [← hct, List.map_append, List.map_cons, h5, List.map_append, List.append_assoc]
     exact h6
    have hcl2 : (ct.set (A' ++ [y]).length (encW2 y)).length = xs.length := by rw [List.length_set, hcl]
    simp only [encW2] at e4 g3 hcl2
    (repeat (first | refine gO rfl ?_ | ((first | refine gR ?_ | (with_reducible refine wM ?_ ?_) | ((with_reducible refine xS ?_); refine uD 4 zM21 zPCE zPCP 53 rfl (by kernel_rfl) ?_) | ((with_reducible refine xR ?_); refine uE 6 zM21 zPDE zPDP 53 rfl (by kernel_rfl) ?_)) <;> ((try with_reducible intro K1 hK1); simp only [go_sem, ↓reduceIte, reduceCtorEq, nA, nB, nC, nD, nE, nF, hTq, hcl, hcl2, Int.toNat_natCast, hti, gx, gy, encW2, upd_upd] <;> and_intros <;> first | (apply hK1; clear hK1 K1) | (intros; first | omega | decide) | skip))))
    refine ⟨A'.length, by simp, A', y :: B, rfl, ?_, ?_, fun z hz => hA z (List.mem_append_left _ hz), ?_⟩
    ·rw [hR, List.reverse_append, List.reverse_singleton, List.singleton_append, insR, if_pos h8]; simp
    ·simp at hAB ⊢; omega
    ·simp only [g3, List.drop_succ_cons, List.drop_zero, e4, hs9]
     rfl
   ·have h8 : ¬ cf x y < 0 := by simpa using h9
    (repeat (first | refine gO rfl ?_ | ((first | refine gR ?_ | (with_reducible refine wM ?_ ?_) | ((with_reducible refine xS ?_); refine uD 4 zM21 zPCE zPCP 53 rfl (by kernel_rfl) ?_) | ((with_reducible refine xR ?_); refine uE 6 zM21 zPDE zPDP 53 rfl (by kernel_rfl) ?_)) <;> ((try with_reducible intro K1 hK1); simp only [go_sem, ↓reduceIte, reduceCtorEq, nA, nB, nC, nD, nE, nF] <;> and_intros <;> first | (apply hK1; clear hK1 K1) | (intros; first | omega | decide) | skip))))
    refine ⟨g - 1, by omega, i + 1, by omega, by omega, ?_⟩
    have e3 : (insS cf (xs.take (i + 1))).reverse ++ xs.drop (i + 1) = (A' ++ [y]) ++ x :: (B ++ rest) := by rw [hin, hR, hrs]; simp [insR, h8]
    rw [e3, hct]; rfl
 ·simp only [decide_eq_false_iff_not] at h1
  have e1 : (insS cf (xs.take i)).reverse ++ xs.drop i = sortI cf xs := by
   rw [List.drop_eq_nil_of_le (by omega), List.take_of_length_le (by omega), List.append_nil]; rfl
  rw [e1]
  (repeat (first | refine gO rfl ?_ | ((first | refine gR ?_ | (with_reducible refine wM ?_ ?_) | ((with_reducible refine xS ?_); refine uD 4 zM21 zPCE zPCP 53 rfl (by kernel_rfl) ?_) | ((with_reducible refine xR ?_); refine uE 6 zM21 zPDE zPDP 53 rfl (by kernel_rfl) ?_)) <;> ((try with_reducible intro K1 hK1); simp only [go_sem, ↓reduceIte, reduceCtorEq, nA, nB, nC, nD, nE, nF] <;> and_intros <;> first | (apply hK1; clear hK1 K1) | (intros; first | omega | decide | (simp_all <;> omega)) | skip))))
  simp only [Tryz.results228, go_sem, ↓reduceIte, reduceCtorEq, nA, nB, nC, nD, nE, nF]
  exact ⟨_, _, Weak.refl _, Hp.le.refl _, rfl, rfl⟩
theorem g_pdqW {f : Nat} {caps : List AV} (cf : Wnd → Wnd → Int) (k : Nat) (xs : List Wnd) (lim : Int) (h : Hp) (hT : h.T k = some (.cont 2 (xs.map encW2))) (hl : xs.length ≤ 12)
  (hc : ∀ x ∈ xs, ∀ y ∈ xs, ∀ T', ACalls Tryz.prog f ([encVW x, encVW y] ++ caps) ⟨h.H, T'⟩ (fun r h' => r = .v (.int .i64 (cf x y)) ∧ h' = ⟨h.H, T'⟩)) :
  ACalls Tryz.prog 193 [.arr 2 k xs.length, .v (.int .i64 0), .v (.int .i64 xs.length), .v (.int .i64 lim), .fn f caps] h (fun r h' => r = .tup [] ∧ h' = ⟨h.H, upd h.T k (some (.cont 2 ((sortI cf xs).map encW2)))⟩) := by
 have hd0 : decide (((xs.length : Int) - 0) ≤ 12) = true := by simp; omega
 have hi := g_insW cf k xs h hT (by omega) hc
 clear hc
 refine gE Tryz.func193 rfl (by kernel_rfl) 143 rfl fun c => ?_
 (repeat (first | refine gO rfl ?_ | ((first | refine gR ?_ | (with_reducible refine wM ?_ ?_) | ((with_reducible refine xS ?_); refine uD 17 zM21 zPEE zPEP 148 rfl (by kernel_rfl) ?_)) <;> ((try with_reducible intro K1 hK1); simp only [go_sem, ↓reduceIte, reduceCtorEq, nA, nB, nC, nD, nE, nF] <;> and_intros <;> first | (apply hK1; clear hK1 K1) | (intros; first | omega | decide | (simp_all <;> omega)) | skip))))
 refine awp_loopC (rl false [0, 5, 5, 2, 136]) 0 (fun g s => s = ⟨((.arr 2 k xs.length) :: (.v (.int .i64 0)) :: (.v (.int .i64 xs.length)) :: (.v (.int .i64 lim)) :: (.fn f caps) :: (jnk 5 ((.v (.bool true)) :: (.v (.bool true)) :: (jnk 136 [])))), [], h⟩) 1 rfl ?_
 rintro g _ rfl
 (repeat (first | refine gO rfl ?_ | ((first | refine gR ?_ | (with_reducible refine wM ?_ ?_) | ((with_reducible refine xS ?_); refine uD 17 zM21 zPEE zPEP 148 rfl (by kernel_rfl) ?_)) <;> ((try with_reducible intro K1 hK1); simp only [go_sem, ↓reduceIte, reduceCtorEq, nA, nB, nC, nD, nE, nF] <;> and_intros <;> first | (apply hK1; clear hK1 K1) | (intros; first | omega | decide) | skip))))
 refine awp_cond (t := _) rfl (fun _ => ?_) (fun h9 => by rw [hd0] at h9; cases h9)
 (repeat (first | refine gO rfl ?_ | ((first | refine gR ?_ | (with_reducible refine wM ?_ ?_) | ((with_reducible refine xS ?_); refine uD 17 zM21 zPEE zPEP 148 rfl (by kernel_rfl) ?_)) <;> ((try with_reducible intro K1 hK1); simp only [go_sem, ↓reduceIte, reduceCtorEq, nA, nB, nC, nD, nE, nF] <;> and_intros <;> first | (apply hK1; clear hK1 K1) | (intros; first | omega | decide) | skip))))
 refine hi.mono ?_
 rintro _ h2 ⟨rfl, rfl⟩
 refine hK1 _ ?_; clear hK1 K1
 (repeat (first | refine gO rfl ?_ | ((first | refine gR ?_ | (with_reducible refine wM ?_ ?_) | ((with_reducible refine xS ?_); refine uD 17 zM21 zPEE zPEP 148 rfl (by kernel_rfl) ?_)) <;> ((try with_reducible intro K1 hK1); simp only [go_sem, ↓reduceIte, reduceCtorEq, nA, nB, nC, nD, nE, nF] <;> and_intros <;> first | (apply hK1; clear hK1 K1) | (intros; first | omega | decide) | skip))))
 simp only [Tryz.results193, go_sem, ↓reduceIte, reduceCtorEq, nA, nB, nC, nD, nE, nF]
 exact ⟨_, _, Weak.refl _, Hp.le.refl _, rfl, rfl⟩
theorem g_srtW {f : Nat} {caps : List AV} (cf : Wnd → Wnd → Int) (k : Nat) (xs : List Wnd) (h : Hp) (hT : h.T k = some (.cont 2 (xs.map encW2))) (hl : xs.length ≤ 12)
  (hc : ∀ x ∈ xs, ∀ y ∈ xs, ∀ T', ACalls Tryz.prog f ([encVW x, encVW y] ++ caps) ⟨h.H, T'⟩ (fun r h' => r = .v (.int .i64 (cf x y)) ∧ h' = ⟨h.H, T'⟩)) :
  ACalls Tryz.prog 170 [.arr 2 k xs.length, .fn f caps] h (fun r h' => r = .tup [] ∧ h' = ⟨h.H, upd h.T k (some (.cont 2 ((sortI cf xs).map encW2)))⟩) := by
 have hwr : IntKind.u64.wrap (xs.length : Int) = xs.length := by simp [IntKind.wrap, IntKind.bits, IntKind.signed]; omega
 have hp := fun lim => g_pdqW cf k xs lim h hT hl hc
 have hbl := g_bitsLen xs.length h (by omega)
 clear hc
 refine gE Tryz.func170 rfl (by kernel_rfl) 12 rfl fun c => ?_
 (repeat (first | refine gO rfl ?_ | (refine gR fun K1 hK1 => ?_; simp only [go_sem, ↓reduceIte, reduceCtorEq, nA, nB, nC, nD, nE, nF, hwr] <;> and_intros <;> first | (apply hK1; clear hK1 K1) | (intros; first | omega | decide) | skip)))
 refine hbl.mono ?_
 rintro _ h2 ⟨n, rfl, rfl⟩
 refine hK1 _ ?_; clear hK1 K1
 (repeat (first | refine gO rfl ?_ | (refine gR fun K1 hK1 => ?_; simp only [go_sem, ↓reduceIte, reduceCtorEq, nA, nB, nC, nD, nE, nF] <;> and_intros <;> first | (apply hK1; clear hK1 K1) | (intros; first | omega | decide) | skip)))
 refine (hp _).mono ?_
 rintro _ h3 ⟨rfl, rfl⟩
 refine hK1 _ ?_; clear hK1 K1
 (repeat (first | refine gO rfl ?_ | (refine gR fun K1 hK1 => ?_; simp only [go_sem, ↓reduceIte, reduceCtorEq, nA, nB, nC, nD, nE, nF] <;> and_intros <;> first | (apply hK1; clear hK1 K1) | (intros; first | omega | decide) | skip)))
 simp only [Tryz.results170, go_sem, ↓reduceIte, reduceCtorEq, nA, nB, nC, nD, nE, nF]
 exact ⟨_, _, Weak.refl _, Hp.le.refl _, rfl, rfl⟩
def cmpWnd (x y : Wnd) : Int := x.1 - y.1
theorem insR_down (x : Wnd) : ∀ r : List Wnd, r.Pairwise (fun a b => b.1 ≤ a.1) → (insR cmpWnd r x).Pairwise (fun a b => b.1 ≤ a.1)
 | [], _ => by simp [insR]
 | y :: r, h => by
  have h1 := List.pairwise_cons.1 h
  rw [insR]
  split
  ·rename_i hc
   unfold cmpWnd at hc
   refine List.pairwise_cons.2 ⟨fun z hz => ?_, insR_down x r h1.2⟩
   rcases List.mem_cons.1 ((insR_perm cmpWnd r x).mem_iff.1 hz) with rfl | hz
   ·omega
   ·exact h1.1 z hz
  ·rename_i hc
   unfold cmpWnd at hc
   refine List.pairwise_cons.2 ⟨fun z hz => ?_, h⟩
   rcases List.mem_cons.1 hz with rfl | hz
   ·omega
   ·have := h1.1 z hz; omega
theorem foldI_down : ∀ (xs r : List Wnd), r.Pairwise (fun a b => b.1 ≤ a.1) → (xs.foldl (insR cmpWnd) r).Pairwise (fun a b => b.1 ≤ a.1)
 | [], r, h => h
 | x :: xs, r, h => foldI_down xs _ (insR_down x r h)
theorem sortI_up (xs : List Wnd) : (sortI cmpWnd xs).Pairwise (fun a b => a.1 ≤ b.1) := by
 unfold sortI insS
 rw [List.pairwise_reverse]
 exact foldI_down xs [] .nil
theorem g_cmpWnd (x y : Wnd) (hx : -1000000000000 ≤ x.1 ∧ x.1 ≤ 1000000000000) (hy : -1000000000000 ≤ y.1 ∧ y.1 ≤ 1000000000000) (h : Hp) : ACalls Tryz.prog 171 [encVW x, encVW y] h (fun r h' => r = .v (.int .i64 (cmpWnd x y)) ∧ h' = h) := by
 obtain ⟨a, b⟩ := x
 obtain ⟨a2, b2⟩ := y
 simp only at hx hy
 unfold encVW encW2 cmpWnd
 simp only
 refine gE Tryz.func171 rfl (by kernel_rfl) 8 rfl fun c => ?_
 (repeat (first | refine gO rfl ?_ | (refine gR fun K1 hK1 => ?_; simp only [go_sem, ↓reduceIte, reduceCtorEq, nA, nB, nC, nD, nE, nF] <;> and_intros <;> first | (apply hK1; clear hK1 K1) | (intros; first | omega | decide) | skip)))
 simp only [Tryz.results171, go_sem, ↓reduceIte, reduceCtorEq, nA, nB, nC, nD, nE, nF]
 exact ⟨_, _, Weak.refl _, Hp.le.refl _, rfl, rfl⟩
theorem g_covered (a b : Int) (k : Nat) (xs : List Wnd) (h : Hp) (hT : h.T k = some (.cont 2 (xs.map encW2))) (hl : xs.length ≤ 12) (hb : ∀ w ∈ xs, -1000000000000 ≤ w.1 ∧ w.1 ≤ 1000000000000) :
  ACalls Tryz.prog 124 [.agg [.v (.int .i64 a), .v (.int .i64 b)], .arr 2 k xs.length] h
   (fun r h' => r = .v (.bool (covB a b (sortI cmpWnd xs))) ∧ h' = ⟨h.H, upd h.T k (some (.cont 2 ((sortI cmpWnd xs).map encW2)))⟩) := by
 have hso := g_srtW (f := 171) (caps := []) cmpWnd k xs h hT hl fun x hx y hy T' => g_cmpWnd x y (hb x hx) (hb y hy) _
 have hlen := sortI_len cmpWnd xs
 refine gE Tryz.func124 rfl (by kernel_rfl) 30 rfl fun c => ?_
 (repeat (first | refine gO rfl ?_ | (refine gM zM24 fun K1 hK1 => ?_; simp only [go_sem, ↓reduceIte, reduceCtorEq, nA, nB, nC, nD, nE, nF] <;> and_intros <;> first | (apply hK1; clear hK1 K1) | (intros; first | omega | decide) | skip)))
 refine hso.mono ?_
 rintro _ _ ⟨rfl, rfl⟩; apply hK1; clear hK1 K1 hso
 generalize sortI cmpWnd xs = S at *
 rw [← hlen] at hl ⊢
 clear hlen hb hT
 (repeat (first | refine gO rfl ?_ | (refine gM zM24 fun K1 hK1 => ?_; simp only [go_sem, ↓reduceIte, reduceCtorEq, nA, nB, nC, nD, nE, nF] <;> and_intros <;> first | (apply hK1; clear hK1 K1) | (intros; first | omega | decide) | skip)))
 refine awp_loopC (rl false [2, 1, 6, 3, 20]) 1 (fun g s => ∃ (j : Nat) (a2 : Int), g + j = S.length ∧ covB a2 b (S.drop j) = covB a b S ∧
  s = ⟨(AV.junk :: AV.junk :: ((.loc 0 0) :: (jnk 6 ((.arr 2 k S.length) :: (.v (.int .i64 S.length)) :: (.v (.int .i64 j)) :: (jnk 20 []))))), [[.v (.int .i64 a2), .v (.int .i64 b)]], ⟨h.H, upd h.T k (some (.cont 2 (S.map encW2)))⟩⟩) S.length ⟨0, a, by omega, rfl, rfl⟩ ?_
 rintro g _ ⟨j, a2, hj, hinv, rfl⟩
 have hTq : upd h.T k (some (TO.cont 2 (S.map encW2))) k = some (TO.cont 2 (S.map encW2)) := upd_same _ _ _
 have hml : (S.map encW2).length = S.length := List.length_map _
 (repeat (first | refine gO rfl ?_ | (refine gM zM24 fun K1 hK1 => ?_; simp only [go_sem, ↓reduceIte, reduceCtorEq, nA, nB, nC, nD, nE, nF] <;> and_intros <;> first | (apply hK1; clear hK1 K1) | (intros; first | omega | decide) | skip)))
 refine awp_cond (t := _) rfl (fun h5 => ?_) (fun h5 => ?_)
 ·simp only [decide_eq_true_eq] at h5
  have hjl : j < S.length := by omega
  have gx : (S.map encW2).getD j [] = [.v (.int .i64 S[j].1), .v (.int .i64 S[j].2)] := by rw [List.getD_eq_getElem?_getD, List.getElem?_map, List.getElem?_eq_getElem hjl]; rfl
  rw [List.drop_eq_getElem_cons hjl, covB] at hinv
  generalize S[j] = w at *
  obtain ⟨w1, w2⟩ := w
  simp only at gx hinv
  (repeat (first | refine gO rfl ?_ | (refine gM zM24 fun K1 hK1 => ?_; simp only [go_sem, ↓reduceIte, reduceCtorEq, nA, nB, nC, nD, nE, nF, hTq, hml, Int.toNat_natCast, gx] <;> and_intros <;> first | (apply hK1; clear hK1 K1) | (intros; first | omega | decide) | skip)))
  by_cases hw : a2 < w1
  ·rw [if_pos hw] at hinv
   refine awp_cond (t := _) rfl (fun _ => ?_) (fun h6 => by simp [hw] at h6)
   (repeat (first | refine gO rfl ?_ | (refine gM zM24 fun K1 hK1 => ?_; simp only [go_sem, ↓reduceIte, reduceCtorEq, nA, nB, nC, nD, nE, nF] <;> and_intros <;> first | (apply hK1; clear hK1 K1) | (intros; first | omega | decide) | skip)))
   simp only [Tryz.results124, go_sem, ↓reduceIte, reduceCtorEq, nA, nB, nC, nD, nE, nF]
   exact ⟨_, _, Weak.refl _, Hp.le.refl _, by rw [← hinv], rfl⟩
  ·rw [if_neg hw] at hinv
   refine awp_cond (t := _) rfl (fun h6 => by simp [hw] at h6) (fun _ => ?_)
   (repeat (first | refine gO rfl ?_ | (refine gM zM24 fun K1 hK1 => ?_; simp only [go_sem, ↓reduceIte, reduceCtorEq, nA, nB, nC, nD, nE, nF] <;> and_intros <;> first | (apply hK1; clear hK1 K1) | (intros; first | omega | decide) | skip)))
   exact ⟨g - 1, by omega, j + 1, max a2 w2, by omega, hinv, rfl⟩
 ·simp only [decide_eq_false_iff_not] at h5
  have hjl : j = S.length := by omega
  subst hjl
  rw [List.drop_length, covB] at hinv
  (repeat (first | refine gO rfl ?_ | (refine gM zM24 fun K1 hK1 => ?_; simp only [go_sem, ↓reduceIte, reduceCtorEq, nA, nB, nC, nD, nE, nF] <;> and_intros <;> first | (apply hK1; clear hK1 K1) | (intros; first | omega | decide) | skip)))
  simp only [Tryz.results124, go_sem, ↓reduceIte, reduceCtorEq, nA, nB, nC, nD, nE, nF]
  exact ⟨_, _, Weak.refl _, Hp.le.refl _, by rw [← hinv], rfl⟩
def byP (p : Nat → Rt → Bool) : List Rt → Nat → List Wnd → List Wnd
  | [], _, o => o
  | r :: l, k, o => byP p l (k + 1) (if p k r = true then o ++ [(r.2.2.1, r.2.2.2.1)] else o)
theorem byP_mem (p : Nat → Rt → Bool) (w : Wnd) : ∀ (l : List Rt) (k : Nat) (o : List Wnd), w ∈ byP p l k o ↔ w ∈ o ∨ ∃ j r, l[j]? = some r ∧ p (k + j) r = true ∧ w = (r.2.2.1, r.2.2.2.1)
  | [], k, o => by simp [byP]
  | r :: l, k, o => by
    rw [byP, byP_mem p w l]
    constructor
    · rintro (h | ⟨j, s, h1, h2, h3⟩)
      · by_cases hp : p k r = true
        · rw [if_pos hp] at h
          rcases List.mem_append.1 h with h | h
          · exact .inl h
          · exact .inr ⟨0, r, rfl, hp, List.mem_singleton.1 h⟩
        · rw [if_neg hp] at h; exact .inl h
      · exact .inr ⟨j + 1, s, h1, by rw [show k + (j + 1) = k + 1 + j by omega]; exact h2, h3⟩
    · rintro (h | ⟨j, s, h1, h2, h3⟩)
      · left; split
        · exact List.mem_append.2 (.inl h)
        · exact h
      · cases j with
        | zero =>
          simp only [List.getElem?_cons_zero, Option.some.injEq] at h1
          subst h1
          rw [Nat.add_zero] at h2
          left; rw [if_pos h2, h3]; simp
        | succ j =>
          simp only [List.getElem?_cons_succ] at h1
          exact .inr ⟨j, s, h1, by rw [show k + 1 + j = k + (j + 1) by omega]; exact h2, h3⟩
theorem inTags_iff (tags l : List ByteArray) : inTags tags l = true ↔ ∀ t ∈ l, t ∈ tags := by
  unfold inTags
  rw [List.all_eq_true]
  refine forall_congr' fun t => forall_congr' fun _ => ?_
  exact memB_iff
def pR (ri : Rt) (i : Nat) (k : Nat) (r : Rt) : Bool := !decide (k = i) && (decide (r.1 = ri.1) && inTags ri.2.1 r.2.1)
def uselR (rs : List Rt) (ri : Rt) (i : Nat) : Bool := covB ri.2.2.1 ri.2.2.2.1 (sortI cmpWnd (byP (pR ri i) rs 0 []))
def pB (tags : List ByteArray) (item : ByteArray) (i : Nat) (k : Nat) (r : Rt) : Bool := !decide (k = i) && (r.2.2.2.2 && (decide (r.1 = item) && inTags tags r.2.1))
def uselB1 (rs : List Rt) (ri : Rt) (i : Nat) (r : Rt) : Bool := (r.2.2.2.2 || !decide (r.1 = ri.1)) || (decide (min r.2.2.2.1 ri.2.2.2.1 ≤ max r.2.2.1 ri.2.2.1) ||
  covB (max r.2.2.1 ri.2.2.1) (min r.2.2.2.1 ri.2.2.2.1) (sortI cmpWnd (byP (pB (onceS (r.2.1 ++ ri.2.1)) r.1 i) rs 0 [])))
def uselB (rs : List Rt) (ri : Rt) (i : Nat) : Bool := rs.all (uselB1 rs ri i)
def usel (rs : List Rt) (ri : Rt) (i : Nat) : Bool := if ri.2.2.2.2 = true then uselB rs ri i else uselR rs ri i
def uselL (rs : List Rt) : List Rt → Nat → List Int
  | [], _ => []
  | r :: l, k => if usel rs r k = true then (k : Int) :: uselL rs l (k + 1) else uselL rs l (k + 1)
theorem uselL_mem (rs : List Rt) (z : Int) : ∀ (l : List Rt) (k : Nat), z ∈ uselL rs l k → ∃ (j : Nat) (r : Rt), l[j]? = some r ∧ z = ((k + j : Nat) : Int) ∧ usel rs r (k + j) = true
  | [], _, h => by cases h
  | r :: l, k, h => by
    rw [uselL] at h
    by_cases hu : usel rs r k = true
    · rw [if_pos hu] at h
      rcases List.mem_cons.1 h with h | h
      · exact ⟨0, r, rfl, h, hu⟩
      · obtain ⟨j, s, h1, h2, h3⟩ := uselL_mem rs z l (k + 1) h
        exact ⟨j + 1, s, h1, by rw [h2]; congr 1; omega, by rw [show k + (j + 1) = k + 1 + j by omega]; exact h3⟩
    · rw [if_neg hu] at h
      obtain ⟨j, s, h1, h2, h3⟩ := uselL_mem rs z l (k + 1) h
      exact ⟨j + 1, s, h1, by rw [h2]; congr 1; omega, by rw [show k + (j + 1) = k + 1 + j by omega]; exact h3⟩
theorem cov_sorted (a b : Int) (W : List Wnd) (h : covB a b (sortI cmpWnd W) = true) (x : Int) (h1 : a ≤ x) (h2 : x < b) : ∃ w ∈ W, w.1 ≤ x ∧ x < w.2 := by
  obtain ⟨w, hw, h3⟩ := (covB_iff b _ a (sortI_up W)).1 h x h1 h2
  exact ⟨w, (sortI_perm cmpWnd W).mem_iff.1 hw, h3⟩
theorem hitR_iff (tags : List ByteArray) (item : ByteArray) (x : Int) (r : Rt) : hitR tags item x r = true ↔ r.1 = item ∧ (r.2.2.1 ≤ x ∧ x < r.2.2.2.1) ∧ ∀ t ∈ r.2.1, t ∈ tags := by
  unfold hitR hasR
  simp only [Bool.and_eq_true, decide_eq_true_eq, and_assoc, inTags_iff]
theorem mem_erase {α : Type} (l : List α) (i : Nat) (y : α) : y ∈ l.take i ++ l.drop (i + 1) ↔ ∃ k, k ≠ i ∧ l[k]? = some y := by
  rw [List.mem_append]
  constructor
  · rintro (h | h)
    · obtain ⟨k, hk⟩ := List.mem_iff_getElem?.1 h
      rw [List.getElem?_take] at hk
      split at hk
      · exact ⟨k, by omega, hk⟩
      · cases hk
    · obtain ⟨k, hk⟩ := List.mem_iff_getElem?.1 h
      rw [List.getElem?_drop] at hk
      exact ⟨i + 1 + k, by omega, hk⟩
  · rintro ⟨k, hne, hk⟩
    by_cases h : k < i
    · left
      refine List.mem_iff_getElem?.2 ⟨k, ?_⟩
      rw [List.getElem?_take, if_pos h]; exact hk
    · right
      refine List.mem_iff_getElem?.2 ⟨k - (i + 1), ?_⟩
      rw [List.getElem?_drop, show i + 1 + (k - (i + 1)) = k by omega]; exact hk
theorem can_go (rs : List Rt) (i : Nat) (ri : Rt) (hi : rs[i]? = some ri) (hu : usel rs ri i = true) (tags : List ByteArray) (item : ByteArray) (x : Int) : mayL tags item x (rs.take i ++ rs.drop (i + 1)) false = mayL tags item x rs false := by
  have hm : ∀ y, y ∈ rs.take i ++ rs.drop (i + 1) → y ∈ rs := fun y hy => by
    obtain ⟨k, _, hk⟩ := (mem_erase rs i y).1 hy
    exact List.mem_of_getElem? hk
  have hm2 : ∀ y, y ∈ rs → y = ri ∨ y ∈ rs.take i ++ rs.drop (i + 1) := fun y hy => by
    obtain ⟨k, hk⟩ := List.mem_iff_getElem?.1 hy
    by_cases e : k = i
    · subst e
      rw [hi] at hk
      exact .inl (Option.some.inj hk).symm
    · exact .inr ((mem_erase rs i y).2 ⟨k, e, hk⟩)
  have hri : ri ∈ rs := List.mem_of_getElem? hi
  rw [Bool.eq_iff_iff, mayL_iff, mayL_iff]
  simp only [Bool.false_eq_true, false_or]
  by_cases hh : hitR tags item x ri = true
  case neg =>
    constructor
    · rintro ⟨h1, r, hr, h2⟩
      refine ⟨fun s hs h3 => ?_, r, hm r hr, h2⟩
      rcases hm2 s hs with rfl | hs
      · exact absurd h3 hh
      · exact h1 s hs h3
    · rintro ⟨h1, r, hr, h2⟩
      refine ⟨fun s hs h3 => h1 s (hm s hs) h3, ?_⟩
      rcases hm2 r hr with rfl | hr
      · exact absurd h2 hh
      · exact ⟨r, hr, h2⟩
  case pos =>
    have hhi := (hitR_iff tags item x ri).1 hh
    unfold usel at hu
    cases hb : ri.2.2.2.2 with
    | true =>
      rw [hb, if_pos rfl] at hu
      unfold uselB at hu
      rw [List.all_eq_true] at hu
      constructor
      · rintro ⟨h1, r, hr, h2⟩
        exfalso
        have hnb := h1 r hr h2
        have hhr := (hitR_iff tags item x r).1 h2
        have hu2 := hu r (hm r hr)
        unfold uselB1 at hu2
        rw [hnb, decide_eq_true (hhr.1.trans hhi.1.symm), decide_eq_false (show ¬ min r.2.2.2.1 ri.2.2.2.1 ≤ max r.2.2.1 ri.2.2.1 by omega)] at hu2
        simp only [Bool.not_true, Bool.or_self, Bool.false_or] at hu2
        obtain ⟨w, hw, h3, h4⟩ := cov_sorted _ _ _ hu2 x (by omega) (by omega)
        rcases (byP_mem _ w rs 0 []).1 hw with h5 | ⟨j, s, h5, h6, h7⟩
        · cases h5
        · unfold pB at h6
          simp only [Bool.and_eq_true, Bool.not_eq_true', decide_eq_false_iff_not, decide_eq_true_eq, Nat.zero_add, inTags_iff] at h6
          obtain ⟨q1, q2, q3, q4⟩ := h6
          subst h7
          have hs : s ∈ rs.take i ++ rs.drop (i + 1) := (mem_erase rs i s).2 ⟨j, q1, h5⟩
          have hhs : hitR tags item x s = true := (hitR_iff tags item x s).2 ⟨q3.trans hhr.1, ⟨h3, h4⟩, fun t ht => by
            have h8 := (onceS_mem _ _).1 (q4 t ht)
            rcases List.mem_append.1 h8 with h8 | h8
            · exact hhr.2.2 t h8
            · exact hhi.2.2 t h8⟩
          have := h1 s hs hhs
          rw [q2] at this; cases this
      · rintro ⟨h1, _⟩
        have := h1 ri hri hh
        rw [hb] at this; cases this
    | false =>
      rw [hb, if_neg (by decide)] at hu
      unfold uselR at hu
      obtain ⟨w, hw, h3, h4⟩ := cov_sorted _ _ _ hu x hhi.2.1.1 hhi.2.1.2
      rcases (byP_mem _ w rs 0 []).1 hw with h5 | ⟨j, s, h5, h6, h7⟩
      · cases h5
      · unfold pR at h6
        simp only [Bool.and_eq_true, Bool.not_eq_true', decide_eq_false_iff_not, decide_eq_true_eq, Nat.zero_add, inTags_iff] at h6
        obtain ⟨q1, q3, q4⟩ := h6
        subst h7
        have hs : s ∈ rs.take i ++ rs.drop (i + 1) := (mem_erase rs i s).2 ⟨j, q1, h5⟩
        have hhs : hitR tags item x s = true := (hitR_iff tags item x s).2 ⟨q3.trans hhi.1, ⟨h3, h4⟩, fun t ht => hhi.2.2 t (q4 t ht)⟩
        constructor
        · rintro ⟨h1, _⟩
          refine ⟨fun y hy h8 => ?_, s, hm s hs, hhs⟩
          rcases hm2 y hy with rfl | hy
          · exact hb
          · exact h1 y hy h8
        · rintro ⟨h1, _⟩
          exact ⟨fun y hy h8 => h1 y (hm y hy) h8, s, hs, hhs⟩
abbrev zPFE : List Nat := [0, 1, 2, 3, 4, 5, 6, 7, 8, 9, 10, 11, 12, 13, 14, 15, 16, 17, 18, 19, 20]
abbrev zPFP : List (Nat × List Nat × List Nat) := [(21, [], [22])]
attribute [go_sem] zPFE zPFP
theorem byP_step (p : Nat → Rt → Bool) (rs : List Rt) (o : List Wnd) (j : Nat) (hj : j < rs.length) : byP p (rs.drop j) j o = byP p (rs.drop (j + 1)) (j + 1) (if p j rs[j] = true then o ++ [(rs[j].2.2.1, rs[j].2.2.2.1)] else o) := by
 rw [List.drop_eq_getElem_cons hj, byP]
theorem g_uselR (rs : List Rt) (i : Nat) (ri : Rt) (kk : Option Nat) (hi : rs[i]? = some ri) (hl : rs.length ≤ 12) (hok : ∀ r ∈ rs, RtOk r) (hs : ri.2.1.Pairwise fun a b => ltB a b = true) (h : Hp) :
  ACalls Tryz.prog 83 [.row 5 (rs.map encRt) kk, .v (.int .i64 i)] h (fun r h' => r = .v (.bool (uselR rs ri i)) ∧ h' = h) := by
 have hml : (rs.map encRt).length = rs.length := List.length_map _
 have hil : i < rs.length := (List.getElem?_eq_some_iff.1 hi).1
 have hri := hok ri (List.mem_of_getElem? hi)
 have gi : (rs.map encRt).getD i [] = encRt ri := by rw [List.getD_eq_getElem?_getD, List.getElem?_map, hi]; rfl
 clear hi
 obtain ⟨iti, tgi, fri, t2i, bbi⟩ := ri
 rw [show encRt (iti, tgi, fri, t2i, bbi) = [.v (.string iti), .row 1 (tgi.map encS) none, .v (.int .i64 fri), .v (.int .i64 t2i), .v (.bool bbi)] from rfl] at gi
 obtain ⟨_, ⟨hti, _⟩, _, _⟩ := hri
 simp only at hs hti
 refine gE Tryz.func83 rfl (by kernel_rfl) 49 rfl fun c => ?_
 (repeat (first | refine gQ rfl ?_ | ((first | refine gM zM25 ?_ | (with_reducible refine wM ?_ ?_) | ((with_reducible refine xS ?_); refine uD 5 zM25 zPFE zPFP 51 rfl (by kernel_rfl) ?_)) <;> ((try with_reducible intro K1 hK1); simp only [go_sem, ↓reduceIte, reduceCtorEq, nA, nB, nC, nD, nE, nF] <;> and_intros <;> first | (apply hK1; clear hK1 K1) | (intros; first | omega | decide | (simp_all <;> omega)) | skip))))
 refine awp_seq ?_
 refine awp_ownA 5 2 rfl ⟨rfl, rfl⟩ (fun k hk => ?_)
 replace hk : h.T k = none := hk
 (repeat (first | refine gO rfl ?_ | ((first | refine gM zM25 ?_ | (with_reducible refine wM ?_ ?_) | ((with_reducible refine xS ?_); refine uD 5 zM25 zPFE zPFP 51 rfl (by kernel_rfl) ?_)) <;> ((try with_reducible intro K1 hK1); simp only [go_sem, ↓reduceIte, reduceCtorEq, nA, nB, nC, nD, nE, nF, hml] <;> and_intros <;> first | (apply hK1; clear hK1 K1) | (intros; first | omega | decide) | skip))))
 refine awp_loopC (rl false [0, 2, 3, 1, 2, 3, 40]) 0 (fun g s => ∃ (j n : Nat) (ys : List Wnd), g + j = rs.length ∧ ys.length = n ∧ n ≤ j ∧ (∀ w ∈ ys, -1000000000000 ≤ w.1 ∧ w.1 ≤ 1000000000000) ∧ byP (pR (iti, tgi, fri, t2i, bbi) i) (rs.drop j) j ys = byP (pR (iti, tgi, fri, t2i, bbi) i) rs 0 [] ∧
  s = ⟨((.row 5 (rs.map encRt) kk) :: (.v (.int .i64 i)) :: (jnk 3 ((.arr 2 k n) :: AV.junk :: AV.junk :: ((.row 5 (rs.map encRt) kk) :: (.v (.int .i64 rs.length)) :: (.v (.int .i64 j)) :: (jnk 40 []))))), [], ⟨h.H, upd h.T k (some (.cont 2 (ys.map encW2)))⟩⟩) rs.length ⟨0, 0, [], by omega, rfl, by omega, by simp, rfl, rfl⟩ ?_
 rintro g _ ⟨j, n, ys, hj, hn, hnj, hys, hinv, rfl⟩
 have hTq : upd h.T k (some (TO.cont 2 (ys.map encW2))) k = some (TO.cont 2 (ys.map encW2)) := upd_same _ _ _
 have hyl : (ys.map encW2).length = n := by rw [List.length_map, hn]
 (repeat (first | refine gO rfl ?_ | ((first | refine gM zM25 ?_ | (with_reducible refine wM ?_ ?_) | ((with_reducible refine xS ?_); refine uD 5 zM25 zPFE zPFP 51 rfl (by kernel_rfl) ?_)) <;> ((try with_reducible intro K1 hK1); simp only [go_sem, ↓reduceIte, reduceCtorEq, nA, nB, nC, nD, nE, nF] <;> and_intros <;> first | (apply hK1; clear hK1 K1) | (intros; first | omega | decide) | skip))))
 refine awp_cond (t := _) rfl (fun h5 => ?_) (fun h5 => ?_)
 ·simp only [decide_eq_true_eq] at h5
  have hjl : j < rs.length := by omega
  have gx : (rs.map encRt).getD j [] = encRt rs[j] := by rw [List.getD_eq_getElem?_getD, List.getElem?_map, List.getElem?_eq_getElem hjl]; rfl
  have hro := hok _ (List.getElem_mem hjl)
  rw [byP_step _ rs ys j hjl] at hinv
  generalize rs[j] = r at *
  obtain ⟨it, tg, fr, t2, bb⟩ := r
  rw [show encRt (it, tg, fr, t2, bb) = [.v (.string it), .row 1 (tg.map encS) none, .v (.int .i64 fr), .v (.int .i64 t2), .v (.bool bb)] from rfl] at gx
  obtain ⟨hs1, ⟨hs2, hs3⟩, hs4, hs5⟩ := hro
  simp only at hs1 hs2 hs3 hs4 hs5
  have hW := g_within tg tgi none none ⟨h.H, upd h.T k (some (.cont 2 (ys.map encW2)))⟩ (by omega) (by omega) hs
  obtain ⟨x1, e1⟩ : ∃ c, ((j : Int) != (i : Int)) = c := ⟨_, rfl⟩
  obtain ⟨x2, e2⟩ : ∃ c, (it == iti) = c := ⟨_, rfl⟩
  have hap : pR (iti, tgi, fri, t2i, bbi) i j (it, tg, fr, t2, bb) = (x1 && (x2 && inTags tgi tg)) := by
   have q1 : (!decide (j = i)) = x1 := by rw [← e1, Bool.eq_iff_iff, Bool.not_eq_true', decide_eq_false_iff_not, bne_iff_ne]; omega
   have q2 : decide (it = iti) = x2 := by rw [← ba_beq, ← e2]
   unfold pR
   simp only [q1, q2]
  rw [hap] at hinv
  clear hap
  cases x1 with
  | false =>
   (repeat (first | refine gO rfl ?_ | ((first | refine gM zM25 ?_ | (with_reducible refine wM ?_ ?_) | ((with_reducible refine xS ?_); refine uD 5 zM25 zPFE zPFP 51 rfl (by kernel_rfl) ?_)) <;> ((try with_reducible intro K1 hK1); simp only [go_sem, ↓reduceIte, reduceCtorEq, nA, nB, nC, nD, nE, nF, hml, Int.toNat_natCast, gx, gi, e1, e2, Bool.not_true, Bool.not_false] <;> and_intros <;> first | (apply hK1; clear hK1 K1) | (intros; first | omega | decide) | skip))))
   refine awp_cond (t := _) rfl (fun h6 => by cases h6) (fun _ => ?_)
   (repeat (first | refine gO rfl ?_ | ((first | refine gM zM25 ?_ | (with_reducible refine wM ?_ ?_) | ((with_reducible refine xS ?_); refine uD 5 zM25 zPFE zPFP 51 rfl (by kernel_rfl) ?_)) <;> ((try with_reducible intro K1 hK1); simp only [go_sem, ↓reduceIte, reduceCtorEq, nA, nB, nC, nD, nE, nF] <;> and_intros <;> first | (apply hK1; clear hK1 K1) | (intros; first | omega | decide) | skip))))
   exact ⟨g - 1, by omega, j + 1, n, ys, by omega, hn, by omega, hys, hinv, rfl⟩
  | true =>
   cases x2 with
   | false =>
    (repeat (first | refine gO rfl ?_ | ((first | refine gM zM25 ?_ | (with_reducible refine wM ?_ ?_) | ((with_reducible refine xS ?_); refine uD 5 zM25 zPFE zPFP 51 rfl (by kernel_rfl) ?_)) <;> ((try with_reducible intro K1 hK1); simp only [go_sem, ↓reduceIte, reduceCtorEq, nA, nB, nC, nD, nE, nF, hml, Int.toNat_natCast, gx, gi, e1, e2, Bool.not_true, Bool.not_false] <;> and_intros <;> first | (apply hK1; clear hK1 K1) | (intros; first | omega | decide) | skip))))
    refine awp_cond (t := _) rfl (fun h6 => by cases h6) (fun _ => ?_)
    (repeat (first | refine gO rfl ?_ | ((first | refine gM zM25 ?_ | (with_reducible refine wM ?_ ?_) | ((with_reducible refine xS ?_); refine uD 5 zM25 zPFE zPFP 51 rfl (by kernel_rfl) ?_)) <;> ((try with_reducible intro K1 hK1); simp only [go_sem, ↓reduceIte, reduceCtorEq, nA, nB, nC, nD, nE, nF] <;> and_intros <;> first | (apply hK1; clear hK1 K1) | (intros; first | omega | decide) | skip))))
    exact ⟨g - 1, by omega, j + 1, n, ys, by omega, hn, by omega, hys, hinv, rfl⟩
   | true =>
    (repeat (first | refine gO rfl ?_ | ((first | refine gM zM25 ?_ | (with_reducible refine wM ?_ ?_) | ((with_reducible refine xS ?_); refine uD 5 zM25 zPFE zPFP 51 rfl (by kernel_rfl) ?_)) <;> ((try with_reducible intro K1 hK1); simp only [go_sem, ↓reduceIte, reduceCtorEq, nA, nB, nC, nD, nE, nF, hml, Int.toNat_natCast, gx, gi, e1, e2, Bool.not_true, Bool.not_false] <;> and_intros <;> first | (apply hK1; clear hK1 K1) | (intros; first | omega | decide) | skip))))
    rotate_left
    ·exact fun h => h.elim
    refine hW.mono ?_
    rintro _ hz ⟨rfl, hh⟩; refine ⟨rfl, ?_⟩; apply hK1; clear hK1 K1; rw [hh]; clear hh hz
    simp only [Bool.not_false, Bool.true_and] at hinv
    cases hb : inTags tgi tg with
    | false =>
     rw [hb] at hinv
     (repeat (first | refine gO rfl ?_ | ((first | refine gM zM25 ?_ | (with_reducible refine wM ?_ ?_) | ((with_reducible refine xS ?_); refine uD 5 zM25 zPFE zPFP 51 rfl (by kernel_rfl) ?_)) <;> ((try with_reducible intro K1 hK1); simp only [go_sem, ↓reduceIte, reduceCtorEq, nA, nB, nC, nD, nE, nF] <;> and_intros <;> first | (apply hK1; clear hK1 K1) | (intros; first | omega | decide) | skip))))
     refine awp_cond (t := _) rfl (fun h6 => by cases h6) (fun _ => ?_)
     (repeat (first | refine gO rfl ?_ | ((first | refine gM zM25 ?_ | (with_reducible refine wM ?_ ?_) | ((with_reducible refine xS ?_); refine uD 5 zM25 zPFE zPFP 51 rfl (by kernel_rfl) ?_)) <;> ((try with_reducible intro K1 hK1); simp only [go_sem, ↓reduceIte, reduceCtorEq, nA, nB, nC, nD, nE, nF] <;> and_intros <;> first | (apply hK1; clear hK1 K1) | (intros; first | omega | decide) | skip))))
     exact ⟨g - 1, by omega, j + 1, n, ys, by omega, hn, by omega, hys, hinv, rfl⟩
    | true =>
     rw [hb, if_pos rfl] at hinv
     (repeat (first | refine gO rfl ?_ | ((first | refine gM zM25 ?_ | (with_reducible refine wM ?_ ?_) | ((with_reducible refine xS ?_); refine uD 5 zM25 zPFE zPFP 51 rfl (by kernel_rfl) ?_)) <;> ((try with_reducible intro K1 hK1); simp only [go_sem, ↓reduceIte, reduceCtorEq, nA, nB, nC, nD, nE, nF] <;> and_intros <;> first | (apply hK1; clear hK1 K1) | (intros; first | omega | decide) | skip))))
     refine awp_cond (t := _) rfl (fun _ => ?_) (fun h6 => by cases h6)
     (repeat (first | refine gO rfl ?_ | ((first | refine gM zM25 ?_ | (with_reducible refine wM ?_ ?_) | ((with_reducible refine xS ?_); refine uD 5 zM25 zPFE zPFP 51 rfl (by kernel_rfl) ?_)) <;> ((try with_reducible intro K1 hK1); simp only [go_sem, ↓reduceIte, reduceCtorEq, nA, nB, nC, nD, nE, nF, hTq, hyl] <;> and_intros <;> first | (apply hK1; clear hK1 K1) | (intros; first | omega | decide) | skip))))
     refine ⟨g - 1, by omega, j + 1, n + 1, ys ++ [(fr, t2)], by omega, by simp [hn], by omega, fun w hw => ?_, hinv, ?_⟩
     ·rcases List.mem_append.1 hw with hw | hw
      ·exact hys w hw
      ·rw [List.mem_singleton.1 hw]; simp only; omega
     ·rw [List.map_append]
      (try simp only [upd_upd])
      rfl
 ·simp only [decide_eq_false_iff_not] at h5
  have hjl : j = rs.length := by omega
  subst hjl
  rw [List.drop_length, byP] at hinv
  subst hn
  (repeat (first | refine gO rfl ?_ | ((first | refine gM zM25 ?_ | (with_reducible refine wM ?_ ?_) | ((with_reducible refine xS ?_); refine uD 5 zM25 zPFE zPFP 51 rfl (by kernel_rfl) ?_)) <;> ((try with_reducible intro K1 hK1); simp only [go_sem, ↓reduceIte, reduceCtorEq, nA, nB, nC, nD, nE, nF, hml, Int.toNat_natCast, gi] <;> and_intros <;> first | (apply hK1; clear hK1 K1) | (intros; first | omega | decide) | skip))))
  refine (g_covered fri t2i k ys ⟨h.H, upd h.T k (some (.cont 2 (ys.map encW2)))⟩ hTq (by omega) hys).mono ?_; rintro _ hz ⟨rfl, hh⟩; apply hK1; clear hK1 K1; rw [hh]; clear hh hz
  (repeat (first | refine gO rfl ?_ | ((first | refine gM zM25 ?_ | (with_reducible refine wM ?_ ?_) | ((with_reducible refine xS ?_); refine uD 5 zM25 zPFE zPFP 51 rfl (by kernel_rfl) ?_)) <;> ((try with_reducible intro K1 hK1); simp only [go_sem, ↓reduceIte, reduceCtorEq, nA, nB, nC, nD, nE, nF] <;> and_intros <;> first | (apply hK1; clear hK1 K1) | (intros; first | omega | decide) | skip))))
  simp only [Tryz.results83, go_sem, ↓reduceIte, reduceCtorEq, nA, nB, nC, nD, nE, nF]
  refine ⟨_, h, Weak.refl _, ⟨fun _ => .inr rfl, fun t => ?_⟩, by unfold uselR; rw [← hinv], rfl⟩
  by_cases e : t = k
  ·subst e; exact .inl hk
  ·refine .inr ?_
   show h.T t = _
   simp only [upd_upd]
   rw [upd_other _ _ e]
theorem bl_lt : ∀ a b : List UInt8, Op.bytesLess a b = true → a < b
  | [], [], h => by simp [Op.bytesLess] at h
  | [], y :: b, _ => List.nil_lt_cons _ _
  | x :: a, [], h => by simp [Op.bytesLess] at h
  | x :: a, y :: b, h => by
    simp only [Op.bytesLess, Bool.or_eq_true, decide_eq_true_eq, Bool.and_eq_true, beq_iff_eq] at h
    rw [List.cons_lt_cons_iff]
    rcases h with h | ⟨rfl, h⟩
    · exact .inl h
    · exact .inr ⟨rfl, bl_lt a b h⟩
theorem bl_of_le {a b : List UInt8} (h : a ≤ b) (hn : a ≠ b) : Op.bytesLess a b = true := by
  cases e : Op.bytesLess a b with
  | true => rfl
  | false =>
    exfalso
    cases e2 : Op.bytesLess b a with
    | true => exact List.not_lt.2 h (bl_lt b a e2)
    | false => exact hn (bl_tot a b e e2)
theorem onceS_rise (l : List ByteArray) : (onceS l).Pairwise fun a b => ltB a b = true := by
  refine List.Pairwise.map _ (fun a b h => ?_) (onceL_ok (l.map (·.data.toList))).1
  unfold ltB
  rw [ByteArray.toList_eq, ByteArray.toList_eq]
  exact bl_of_le h.1 h.2
abbrev zPGE : List Nat := [0, 1, 2, 3, 4, 5, 6]
abbrev zPGP : List (Nat × List Nat × List Nat) := [(7, [], [8])]
abbrev zPHE : List Nat := [0, 1, 2, 3, 4, 5, 6, 7, 8, 9, 10, 11, 12, 13]
abbrev zPHP : List (Nat × List Nat × List Nat) := []
abbrev zPIE : List Nat := [0, 1, 2, 3, 4, 5, 6, 7, 8, 9, 10, 11]
abbrev zPIP : List (Nat × List Nat × List Nat) := [(12, [], []), (13, [], [])]
attribute [go_sem] zPGE zPGP zPHE zPHP zPIE zPIP
theorem upd_back {T : Nat → Option TO} {k : Nat} (hk : T k = none) : upd T k none = T := by
 funext t
 by_cases e : t = k
 ·subst e; rw [upd_same, hk]
 ·rw [upd_other _ _ e]
abbrev zPJE : List Nat := [0, 1, 2, 3, 4, 5, 6, 7, 8, 9, 10, 11]
abbrev zPJP : List (Nat × List Nat × List Nat) := []
abbrev zPKE : List Nat := [0, 1, 2, 3, 4, 5, 6, 7, 8, 9, 10, 11, 12, 13, 14, 15, 16, 17, 18, 19, 20]
abbrev zPKP : List (Nat × List Nat × List Nat) := [(22, [], [])]
abbrev zPLE : List Nat := [0, 1, 2, 3, 4, 5, 6]
abbrev zPLP : List (Nat × List Nat × List Nat) := [(7, [], [8])]
attribute [go_sem] zPJE zPJP zPKE zPKP zPLE zPLP
theorem g_uselB (rs : List Rt) (i : Nat) (ri : Rt) (kk : Option Nat) (hi : rs[i]? = some ri) (hl : rs.length ≤ 12) (hok : ∀ r ∈ rs, RtOk r) (h : Hp) :
  ACalls Tryz.prog 82 [.row 5 (rs.map encRt) kk, .v (.int .i64 i)] h (fun r h' => r = .v (.bool (uselB rs ri i)) ∧ h' = h) := by
 have hml : (rs.map encRt).length = rs.length := List.length_map _
 have hil : i < rs.length := (List.getElem?_eq_some_iff.1 hi).1
 have hri := hok ri (List.mem_of_getElem? hi)
 have gi : (rs.map encRt).getD i [] = encRt ri := by rw [List.getD_eq_getElem?_getD, List.getElem?_map, hi]; rfl
 clear hi
 obtain ⟨iti, tgi, fri, t2i, bbi⟩ := ri
 rw [show encRt (iti, tgi, fri, t2i, bbi) = [.v (.string iti), .row 1 (tgi.map encS) none, .v (.int .i64 fri), .v (.int .i64 t2i), .v (.bool bbi)] from rfl] at gi
 obtain ⟨_, ⟨hti, _⟩, hfi, hei⟩ := hri
 simp only at hti hfi hei
 unfold uselB
 refine gE Tryz.func82 rfl (by kernel_rfl) 100 rfl fun c => ?_
 (repeat (first | refine gO rfl ?_ | ((first | refine gM zM26 ?_ | (with_reducible refine wM ?_ ?_) | ((with_reducible refine xS ?_); refine uD 4 zM26 zPJE zPJP 102 rfl (by kernel_rfl) ?_) | ((with_reducible refine xS ?_); refine uF 5 zM26 21 zPKE zPKP 102 rfl (by kernel_rfl) ?_) | ((with_reducible refine xS ?_); refine uD 7 zM26 zPLE zPLP 102 rfl (by kernel_rfl) ?_)) <;> ((try with_reducible intro K1 hK1); simp only [go_sem, ↓reduceIte, reduceCtorEq, nA, nB, nC, nD, nE, nF, hml] <;> and_intros <;> first | (apply hK1; clear hK1 K1) | (intros; first | omega | decide) | skip))))
 refine awp_loopC (rl false [0, 2, 10, 3, 87]) 0 (fun g s => ∃ (j : Nat), g + j = rs.length ∧ (rs.drop j).all (uselB1 rs (iti, tgi, fri, t2i, bbi) i) = rs.all (uselB1 rs (iti, tgi, fri, t2i, bbi) i) ∧
  s = ⟨((.row 5 (rs.map encRt) kk) :: (.v (.int .i64 i)) :: (jnk 10 ((.row 5 (rs.map encRt) kk) :: (.v (.int .i64 rs.length)) :: (.v (.int .i64 j)) :: (jnk 87 [])))), [], h⟩) rs.length ⟨0, by omega, rfl, rfl⟩ ?_
 rintro g _ ⟨j, hj, hinv, rfl⟩
 (repeat (first | refine gO rfl ?_ | ((first | refine gM zM26 ?_ | (with_reducible refine wM ?_ ?_) | ((with_reducible refine xS ?_); refine uD 4 zM26 zPJE zPJP 102 rfl (by kernel_rfl) ?_) | ((with_reducible refine xS ?_); refine uF 5 zM26 21 zPKE zPKP 102 rfl (by kernel_rfl) ?_) | ((with_reducible refine xS ?_); refine uD 7 zM26 zPLE zPLP 102 rfl (by kernel_rfl) ?_)) <;> ((try with_reducible intro K1 hK1); simp only [go_sem, ↓reduceIte, reduceCtorEq, nA, nB, nC, nD, nE, nF] <;> and_intros <;> first | (apply hK1; clear hK1 K1) | (intros; first | omega | decide) | skip))))
 refine awp_cond (t := _) rfl (fun h5 => ?_) (fun h5 => ?_)
 ·simp only [decide_eq_true_eq] at h5
  have hjl : j < rs.length := by omega
  have gx : (rs.map encRt).getD j [] = encRt rs[j] := by rw [List.getD_eq_getElem?_getD, List.getElem?_map, List.getElem?_eq_getElem hjl]; rfl
  have hro := hok _ (List.getElem_mem hjl)
  rw [List.drop_eq_getElem_cons hjl, List.all_cons] at hinv
  generalize rs[j] = r at *
  obtain ⟨it, tg, fr, t2, bb⟩ := r
  rw [show encRt (it, tg, fr, t2, bb) = [.v (.string it), .row 1 (tg.map encS) none, .v (.int .i64 fr), .v (.int .i64 t2), .v (.bool bb)] from rfl] at gx
  obtain ⟨hs1, ⟨hs2, hs3⟩, hs4, hs5⟩ := hro
  simp only at hs1 hs2 hs3 hs4 hs5
  have hU := g_union tg tgi none none h (by omega)
  obtain ⟨tags, htg⟩ : ∃ tags, onceS (tg ++ tgi) = tags := ⟨_, rfl⟩
  have hso : tags.Pairwise fun a b => ltB a b = true := by rw [← htg]; exact onceS_rise _
  have htl : tags.length ≤ 6 := by have := onceS_len (tg ++ tgi); rw [htg, List.length_append] at this; omega
  rw [htg] at hU
  obtain ⟨x2, e2⟩ : ∃ c, (it == iti) = c := ⟨_, rfl⟩
  obtain ⟨x3, e3⟩ : ∃ c, decide (min t2 t2i ≤ max fr fri) = c := ⟨_, rfl⟩
  have hap : uselB1 rs (iti, tgi, fri, t2i, bbi) i (it, tg, fr, t2, bb) = ((bb || !x2) || (x3 || covB (max fr fri) (min t2 t2i) (sortI cmpWnd (byP (pB tags it i) rs 0 [])))) := by
   have q2 : decide (it = iti) = x2 := by rw [← ba_beq, ← e2]
   unfold uselB1
   simp only [q2, e3, htg]
  rw [hap] at hinv
  clear hap htg
  cases bb with
  | true =>
   (repeat (first | refine gO rfl ?_ | ((first | refine gM zM26 ?_ | (with_reducible refine wM ?_ ?_) | ((with_reducible refine xS ?_); refine uD 4 zM26 zPJE zPJP 102 rfl (by kernel_rfl) ?_) | ((with_reducible refine xS ?_); refine uF 5 zM26 21 zPKE zPKP 102 rfl (by kernel_rfl) ?_) | ((with_reducible refine xS ?_); refine uD 7 zM26 zPLE zPLP 102 rfl (by kernel_rfl) ?_)) <;> ((try with_reducible intro K1 hK1); simp only [go_sem, ↓reduceIte, reduceCtorEq, nA, nB, nC, nD, nE, nF, hml, Int.toNat_natCast, gx, gi, e2, Bool.not_true, Bool.not_false] <;> and_intros <;> first | (apply hK1; clear hK1 K1) | (intros; first | omega | decide) | skip))))
   refine awp_cond (t := _) rfl (fun _ => ?_) (fun h6 => by cases h6)
   (repeat (first | refine gO rfl ?_ | ((first | refine gM zM26 ?_ | (with_reducible refine wM ?_ ?_) | ((with_reducible refine xS ?_); refine uD 4 zM26 zPJE zPJP 102 rfl (by kernel_rfl) ?_) | ((with_reducible refine xS ?_); refine uF 5 zM26 21 zPKE zPKP 102 rfl (by kernel_rfl) ?_) | ((with_reducible refine xS ?_); refine uD 7 zM26 zPLE zPLP 102 rfl (by kernel_rfl) ?_)) <;> ((try with_reducible intro K1 hK1); simp only [go_sem, ↓reduceIte, reduceCtorEq, nA, nB, nC, nD, nE, nF] <;> and_intros <;> first | (apply hK1; clear hK1 K1) | (intros; first | omega | decide) | skip))))
   exact ⟨g - 1, by omega, j + 1, by omega, hinv, rfl⟩
  | false =>
   cases x2 with
   | false =>
    (repeat (first | refine gO rfl ?_ | ((first | refine gM zM26 ?_ | (with_reducible refine wM ?_ ?_) | ((with_reducible refine xS ?_); refine uD 4 zM26 zPJE zPJP 102 rfl (by kernel_rfl) ?_) | ((with_reducible refine xS ?_); refine uF 5 zM26 21 zPKE zPKP 102 rfl (by kernel_rfl) ?_) | ((with_reducible refine xS ?_); refine uD 7 zM26 zPLE zPLP 102 rfl (by kernel_rfl) ?_)) <;> ((try with_reducible intro K1 hK1); simp only [go_sem, ↓reduceIte, reduceCtorEq, nA, nB, nC, nD, nE, nF, hml, Int.toNat_natCast, gx, gi, e2, Bool.not_true, Bool.not_false] <;> and_intros <;> first | (apply hK1; clear hK1 K1) | (intros; first | omega | decide) | skip))))
    refine awp_cond (t := _) rfl (fun _ => ?_) (fun h6 => by cases h6)
    (repeat (first | refine gO rfl ?_ | ((first | refine gM zM26 ?_ | (with_reducible refine wM ?_ ?_) | ((with_reducible refine xS ?_); refine uD 4 zM26 zPJE zPJP 102 rfl (by kernel_rfl) ?_) | ((with_reducible refine xS ?_); refine uF 5 zM26 21 zPKE zPKP 102 rfl (by kernel_rfl) ?_) | ((with_reducible refine xS ?_); refine uD 7 zM26 zPLE zPLP 102 rfl (by kernel_rfl) ?_)) <;> ((try with_reducible intro K1 hK1); simp only [go_sem, ↓reduceIte, reduceCtorEq, nA, nB, nC, nD, nE, nF] <;> and_intros <;> first | (apply hK1; clear hK1 K1) | (intros; first | omega | decide) | skip))))
    exact ⟨g - 1, by omega, j + 1, by omega, hinv, rfl⟩
   | true =>
    (repeat (first | refine gO rfl ?_ | ((first | refine gM zM26 ?_ | (with_reducible refine wM ?_ ?_) | ((with_reducible refine xS ?_); refine uD 4 zM26 zPJE zPJP 102 rfl (by kernel_rfl) ?_) | ((with_reducible refine xS ?_); refine uF 5 zM26 21 zPKE zPKP 102 rfl (by kernel_rfl) ?_) | ((with_reducible refine xS ?_); refine uD 7 zM26 zPLE zPLP 102 rfl (by kernel_rfl) ?_)) <;> ((try with_reducible intro K1 hK1); simp only [go_sem, ↓reduceIte, reduceCtorEq, nA, nB, nC, nD, nE, nF, hml, Int.toNat_natCast, gx, gi, e2, Bool.not_true, Bool.not_false] <;> and_intros <;> first | (apply hK1; clear hK1 K1) | (intros; first | omega | decide) | skip))))
    refine awp_cond (t := _) rfl (fun h6 => by cases h6) (fun _ => ?_)
    (repeat (first | refine gO rfl ?_ | ((first | refine gM zM26 ?_ | (with_reducible refine wM ?_ ?_) | ((with_reducible refine xS ?_); refine uD 4 zM26 zPJE zPJP 102 rfl (by kernel_rfl) ?_) | ((with_reducible refine xS ?_); refine uF 5 zM26 21 zPKE zPKP 102 rfl (by kernel_rfl) ?_) | ((with_reducible refine xS ?_); refine uD 7 zM26 zPLE zPLP 102 rfl (by kernel_rfl) ?_)) <;> ((try with_reducible intro K1 hK1); simp only [go_sem, ↓reduceIte, reduceCtorEq, nA, nB, nC, nD, nE, nF, hml, Int.toNat_natCast, gx, gi, e2, e3, Bool.not_true, Bool.not_false] <;> and_intros <;> first | (apply hK1; clear hK1 K1) | (intros; first | omega | decide) | skip))))
    cases x3 with
    | true =>
     refine awp_cond (t := _) rfl (fun _ => ?_) (fun h6 => by cases h6)
     (repeat (first | refine gO rfl ?_ | ((first | refine gM zM26 ?_ | (with_reducible refine wM ?_ ?_) | ((with_reducible refine xS ?_); refine uD 4 zM26 zPJE zPJP 102 rfl (by kernel_rfl) ?_) | ((with_reducible refine xS ?_); refine uF 5 zM26 21 zPKE zPKP 102 rfl (by kernel_rfl) ?_) | ((with_reducible refine xS ?_); refine uD 7 zM26 zPLE zPLP 102 rfl (by kernel_rfl) ?_)) <;> ((try with_reducible intro K1 hK1); simp only [go_sem, ↓reduceIte, reduceCtorEq, nA, nB, nC, nD, nE, nF] <;> and_intros <;> first | (apply hK1; clear hK1 K1) | (intros; first | omega | decide) | skip))))
     exact ⟨g - 1, by omega, j + 1, by omega, hinv, rfl⟩
    | false =>
     simp only [Bool.not_true, Bool.or_self, Bool.false_or] at hinv
     refine awp_cond (t := _) rfl (fun h6 => by cases h6) (fun _ => ?_)
     (repeat (first | refine gQ rfl ?_ | ((first | refine gM zM26 ?_ | (with_reducible refine wM ?_ ?_) | ((with_reducible refine xS ?_); refine uD 4 zM26 zPJE zPJP 102 rfl (by kernel_rfl) ?_) | ((with_reducible refine xS ?_); refine uF 5 zM26 21 zPKE zPKP 102 rfl (by kernel_rfl) ?_) | ((with_reducible refine xS ?_); refine uD 7 zM26 zPLE zPLP 102 rfl (by kernel_rfl) ?_)) <;> ((try with_reducible intro K1 hK1); simp only [go_sem, ↓reduceIte, reduceCtorEq, nA, nB, nC, nD, nE, nF, hml, Int.toNat_natCast, gi] <;> and_intros <;> first | (apply hK1; clear hK1 K1) | (intros; first | omega | decide | (simp_all <;> omega)) | skip))))
     refine hU.mono ?_; rintro _ hz ⟨rfl, hh⟩; apply hK1; clear hK1 K1; rw [hh]; clear hh hz
     (repeat (first | refine gQ rfl ?_ | ((first | refine gM zM26 ?_ | (with_reducible refine wM ?_ ?_) | ((with_reducible refine xS ?_); refine uD 4 zM26 zPJE zPJP 102 rfl (by kernel_rfl) ?_) | ((with_reducible refine xS ?_); refine uF 5 zM26 21 zPKE zPKP 102 rfl (by kernel_rfl) ?_) | ((with_reducible refine xS ?_); refine uD 7 zM26 zPLE zPLP 102 rfl (by kernel_rfl) ?_)) <;> ((try with_reducible intro K1 hK1); simp only [go_sem, ↓reduceIte, reduceCtorEq, nA, nB, nC, nD, nE, nF] <;> and_intros <;> first | (apply hK1; clear hK1 K1) | (intros; first | omega | decide | (simp_all <;> omega)) | skip))))
     refine awp_seq ?_
     refine awp_ownA 9 2 rfl ⟨rfl, rfl⟩ (fun k hk => ?_)
     replace hk : h.T k = none := hk
     (repeat (first | refine gO rfl ?_ | ((first | refine gM zM26 ?_ | (with_reducible refine wM ?_ ?_) | ((with_reducible refine xS ?_); refine uD 4 zM26 zPJE zPJP 102 rfl (by kernel_rfl) ?_) | ((with_reducible refine xS ?_); refine uF 5 zM26 21 zPKE zPKP 102 rfl (by kernel_rfl) ?_) | ((with_reducible refine xS ?_); refine uD 7 zM26 zPLE zPLP 102 rfl (by kernel_rfl) ?_)) <;> ((try with_reducible intro K1 hK1); simp only [go_sem, ↓reduceIte, reduceCtorEq, nA, nB, nC, nD, nE, nF, hml] <;> and_intros <;> first | (apply hK1; clear hK1 K1) | (intros; first | omega | decide) | skip))))
     clear hU gx e2 e3
     generalize max fr fri = A at *
     generalize min t2 t2i = B at *
     refine awp_loopC (rl false [0, 2, 4, 4, 2, 3, 49, 3, 35]) 2 (fun g2 s => ∃ (m n : Nat) (ys : List Wnd), g2 + m = rs.length ∧ ys.length = n ∧ n ≤ m ∧ (∀ w ∈ ys, -1000000000000 ≤ w.1 ∧ w.1 ≤ 1000000000000) ∧ byP (pB tags it i) (rs.drop m) m ys = byP (pB tags it i) rs 0 [] ∧
      s = ⟨((.row 5 (rs.map encRt) kk) :: (.v (.int .i64 i)) :: (jnk 4 ((.loc 0 0) :: (.loc 1 0) :: (.row 1 (tags.map encS) none) :: (.arr 2 k n) :: AV.junk :: AV.junk :: ((.row 5 (rs.map encRt) kk) :: (.v (.int .i64 rs.length)) :: (.v (.int .i64 j)) :: (jnk 49 ((.row 5 (rs.map encRt) kk) :: (.v (.int .i64 rs.length)) :: (.v (.int .i64 m)) :: (jnk 35 []))))))), [[.v (.string it), .row 1 (tg.map encS) none, .v (.int .i64 fr), .v (.int .i64 t2), .v (.bool false)], [.v (.int .i64 A), .v (.int .i64 B)]], ⟨h.H, upd h.T k (some (.cont 2 (ys.map encW2)))⟩⟩) rs.length ⟨0, 0, [], by omega, rfl, by omega, by simp, rfl, rfl⟩ ?_
     rintro g2 _ ⟨m, n, ys, hm, hn, hnm, hys, hinv2, rfl⟩
     have hTq : upd h.T k (some (TO.cont 2 (ys.map encW2))) k = some (TO.cont 2 (ys.map encW2)) := upd_same _ _ _
     have hyl : (ys.map encW2).length = n := by rw [List.length_map, hn]
     (repeat (first | refine gO rfl ?_ | ((first | refine gM zM26 ?_ | (with_reducible refine wM ?_ ?_) | ((with_reducible refine xS ?_); refine uD 4 zM26 zPJE zPJP 102 rfl (by kernel_rfl) ?_) | ((with_reducible refine xS ?_); refine uF 5 zM26 21 zPKE zPKP 102 rfl (by kernel_rfl) ?_) | ((with_reducible refine xS ?_); refine uD 7 zM26 zPLE zPLP 102 rfl (by kernel_rfl) ?_)) <;> ((try with_reducible intro K1 hK1); simp only [go_sem, ↓reduceIte, reduceCtorEq, nA, nB, nC, nD, nE, nF] <;> and_intros <;> first | (apply hK1; clear hK1 K1) | (intros; first | omega | decide) | skip))))
     refine awp_cond (t := _) rfl (fun h7 => ?_) (fun h7 => ?_)
     ·simp only [decide_eq_true_eq] at h7
      have hmL : m < rs.length := by omega
      have gq : (rs.map encRt).getD m [] = encRt rs[m] := by rw [List.getD_eq_getElem?_getD, List.getElem?_map, List.getElem?_eq_getElem hmL]; rfl
      have hrq := hok _ (List.getElem_mem hmL)
      rw [byP_step _ rs ys m hmL] at hinv2
      generalize rs[m] = q at *
      obtain ⟨itq, tgq, frq, t2q, bbq⟩ := q
      rw [show encRt (itq, tgq, frq, t2q, bbq) = [.v (.string itq), .row 1 (tgq.map encS) none, .v (.int .i64 frq), .v (.int .i64 t2q), .v (.bool bbq)] from rfl] at gq
      obtain ⟨hq1, ⟨hq2, hq3⟩, hq4, hq5⟩ := hrq
      simp only at hq1 hq2 hq3 hq4 hq5
      have hW := g_within tgq tags none none ⟨h.H, upd h.T k (some (.cont 2 (ys.map encW2)))⟩ (by omega) (by omega) hso
      obtain ⟨x4, e4⟩ : ∃ c, ((m : Int) != (i : Int)) = c := ⟨_, rfl⟩
      obtain ⟨x5, e5⟩ : ∃ c, (itq == it) = c := ⟨_, rfl⟩
      have hap2 : pB tags it i m (itq, tgq, frq, t2q, bbq) = (x4 && (bbq && (x5 && inTags tags tgq))) := by
       have q1 : (!decide (m = i)) = x4 := by rw [← e4, Bool.eq_iff_iff, Bool.not_eq_true', decide_eq_false_iff_not, bne_iff_ne]; omega
       have q2 : decide (itq = it) = x5 := by rw [← ba_beq, ← e5]
       unfold pB
       simp only [q1, q2]
      rw [hap2] at hinv2
      clear hap2
      cases x4 with
      | false =>
       (repeat (first | refine gO rfl ?_ | ((first | refine gM zM26 ?_ | (with_reducible refine wM ?_ ?_) | ((with_reducible refine xS ?_); refine uD 4 zM26 zPJE zPJP 102 rfl (by kernel_rfl) ?_) | ((with_reducible refine xS ?_); refine uF 5 zM26 21 zPKE zPKP 102 rfl (by kernel_rfl) ?_) | ((with_reducible refine xS ?_); refine uD 7 zM26 zPLE zPLP 102 rfl (by kernel_rfl) ?_)) <;> ((try with_reducible intro K1 hK1); simp only [go_sem, ↓reduceIte, reduceCtorEq, nA, nB, nC, nD, nE, nF, hml, Int.toNat_natCast, gq, e4, e5] <;> and_intros <;> first | (apply hK1; clear hK1 K1) | (intros; first | omega | decide) | skip))))
       refine awp_cond (t := _) rfl (fun h6 => by cases h6) (fun _ => ?_)
       (repeat (first | refine gO rfl ?_ | ((first | refine gM zM26 ?_ | (with_reducible refine wM ?_ ?_) | ((with_reducible refine xS ?_); refine uD 4 zM26 zPJE zPJP 102 rfl (by kernel_rfl) ?_) | ((with_reducible refine xS ?_); refine uF 5 zM26 21 zPKE zPKP 102 rfl (by kernel_rfl) ?_) | ((with_reducible refine xS ?_); refine uD 7 zM26 zPLE zPLP 102 rfl (by kernel_rfl) ?_)) <;> ((try with_reducible intro K1 hK1); simp only [go_sem, ↓reduceIte, reduceCtorEq, nA, nB, nC, nD, nE, nF] <;> and_intros <;> first | (apply hK1; clear hK1 K1) | (intros; first | omega | decide) | skip))))
       exact ⟨g2 - 1, by omega, m + 1, n, ys, by omega, hn, by omega, hys, hinv2, rfl⟩
      | true =>
       cases bbq with
       | false =>
        (repeat (first | refine gO rfl ?_ | ((first | refine gM zM26 ?_ | (with_reducible refine wM ?_ ?_) | ((with_reducible refine xS ?_); refine uD 4 zM26 zPJE zPJP 102 rfl (by kernel_rfl) ?_) | ((with_reducible refine xS ?_); refine uF 5 zM26 21 zPKE zPKP 102 rfl (by kernel_rfl) ?_) | ((with_reducible refine xS ?_); refine uD 7 zM26 zPLE zPLP 102 rfl (by kernel_rfl) ?_)) <;> ((try with_reducible intro K1 hK1); simp only [go_sem, ↓reduceIte, reduceCtorEq, nA, nB, nC, nD, nE, nF, hml, Int.toNat_natCast, gq, e4, e5] <;> and_intros <;> first | (apply hK1; clear hK1 K1) | (intros; first | omega | decide) | skip))))
        refine awp_cond (t := _) rfl (fun h6 => by cases h6) (fun _ => ?_)
        (repeat (first | refine gO rfl ?_ | ((first | refine gM zM26 ?_ | (with_reducible refine wM ?_ ?_) | ((with_reducible refine xS ?_); refine uD 4 zM26 zPJE zPJP 102 rfl (by kernel_rfl) ?_) | ((with_reducible refine xS ?_); refine uF 5 zM26 21 zPKE zPKP 102 rfl (by kernel_rfl) ?_) | ((with_reducible refine xS ?_); refine uD 7 zM26 zPLE zPLP 102 rfl (by kernel_rfl) ?_)) <;> ((try with_reducible intro K1 hK1); simp only [go_sem, ↓reduceIte, reduceCtorEq, nA, nB, nC, nD, nE, nF] <;> and_intros <;> first | (apply hK1; clear hK1 K1) | (intros; first | omega | decide) | skip))))
        exact ⟨g2 - 1, by omega, m + 1, n, ys, by omega, hn, by omega, hys, hinv2, rfl⟩
       | true =>
        cases x5 with
        | false =>
         (repeat (first | refine gO rfl ?_ | ((first | refine gM zM26 ?_ | (with_reducible refine wM ?_ ?_) | ((with_reducible refine xS ?_); refine uD 4 zM26 zPJE zPJP 102 rfl (by kernel_rfl) ?_) | ((with_reducible refine xS ?_); refine uF 5 zM26 21 zPKE zPKP 102 rfl (by kernel_rfl) ?_) | ((with_reducible refine xS ?_); refine uD 7 zM26 zPLE zPLP 102 rfl (by kernel_rfl) ?_)) <;> ((try with_reducible intro K1 hK1); simp only [go_sem, ↓reduceIte, reduceCtorEq, nA, nB, nC, nD, nE, nF, hml, Int.toNat_natCast, gq, e4, e5] <;> and_intros <;> first | (apply hK1; clear hK1 K1) | (intros; first | omega | decide) | skip))))
         refine awp_cond (t := _) rfl (fun h6 => by cases h6) (fun _ => ?_)
         (repeat (first | refine gO rfl ?_ | ((first | refine gM zM26 ?_ | (with_reducible refine wM ?_ ?_) | ((with_reducible refine xS ?_); refine uD 4 zM26 zPJE zPJP 102 rfl (by kernel_rfl) ?_) | ((with_reducible refine xS ?_); refine uF 5 zM26 21 zPKE zPKP 102 rfl (by kernel_rfl) ?_) | ((with_reducible refine xS ?_); refine uD 7 zM26 zPLE zPLP 102 rfl (by kernel_rfl) ?_)) <;> ((try with_reducible intro K1 hK1); simp only [go_sem, ↓reduceIte, reduceCtorEq, nA, nB, nC, nD, nE, nF] <;> and_intros <;> first | (apply hK1; clear hK1 K1) | (intros; first | omega | decide) | skip))))
         exact ⟨g2 - 1, by omega, m + 1, n, ys, by omega, hn, by omega, hys, hinv2, rfl⟩
        | true =>
         (repeat (first | refine gO rfl ?_ | ((first | refine gM zM26 ?_ | (with_reducible refine wM ?_ ?_) | ((with_reducible refine xS ?_); refine uD 4 zM26 zPJE zPJP 102 rfl (by kernel_rfl) ?_) | ((with_reducible refine xS ?_); refine uF 5 zM26 21 zPKE zPKP 102 rfl (by kernel_rfl) ?_) | ((with_reducible refine xS ?_); refine uD 7 zM26 zPLE zPLP 102 rfl (by kernel_rfl) ?_)) <;> ((try with_reducible intro K1 hK1); simp only [go_sem, ↓reduceIte, reduceCtorEq, nA, nB, nC, nD, nE, nF, hml, Int.toNat_natCast, gq, e4, e5] <;> and_intros <;> first | (apply hK1; clear hK1 K1) | (intros; first | omega | decide) | skip))))
         rotate_left
         ·exact fun h => h.elim
         refine hW.mono ?_
         rintro _ hz ⟨rfl, hh⟩; refine ⟨rfl, ?_⟩; apply hK1; clear hK1 K1; rw [hh]; clear hh hz
         simp only [Bool.true_and] at hinv2
         cases hb : inTags tags tgq with
         | false =>
          rw [hb] at hinv2
          (repeat (first | refine gO rfl ?_ | ((first | refine gM zM26 ?_ | (with_reducible refine wM ?_ ?_) | ((with_reducible refine xS ?_); refine uD 4 zM26 zPJE zPJP 102 rfl (by kernel_rfl) ?_) | ((with_reducible refine xS ?_); refine uF 5 zM26 21 zPKE zPKP 102 rfl (by kernel_rfl) ?_) | ((with_reducible refine xS ?_); refine uD 7 zM26 zPLE zPLP 102 rfl (by kernel_rfl) ?_)) <;> ((try with_reducible intro K1 hK1); simp only [go_sem, ↓reduceIte, reduceCtorEq, nA, nB, nC, nD, nE, nF] <;> and_intros <;> first | (apply hK1; clear hK1 K1) | (intros; first | omega | decide) | skip))))
          refine awp_cond (t := _) rfl (fun h6 => by cases h6) (fun _ => ?_)
          (repeat (first | refine gO rfl ?_ | ((first | refine gM zM26 ?_ | (with_reducible refine wM ?_ ?_) | ((with_reducible refine xS ?_); refine uD 4 zM26 zPJE zPJP 102 rfl (by kernel_rfl) ?_) | ((with_reducible refine xS ?_); refine uF 5 zM26 21 zPKE zPKP 102 rfl (by kernel_rfl) ?_) | ((with_reducible refine xS ?_); refine uD 7 zM26 zPLE zPLP 102 rfl (by kernel_rfl) ?_)) <;> ((try with_reducible intro K1 hK1); simp only [go_sem, ↓reduceIte, reduceCtorEq, nA, nB, nC, nD, nE, nF] <;> and_intros <;> first | (apply hK1; clear hK1 K1) | (intros; first | omega | decide) | skip))))
          exact ⟨g2 - 1, by omega, m + 1, n, ys, by omega, hn, by omega, hys, hinv2, rfl⟩
         | true =>
          rw [hb, if_pos rfl] at hinv2
          (repeat (first | refine gO rfl ?_ | ((first | refine gM zM26 ?_ | (with_reducible refine wM ?_ ?_) | ((with_reducible refine xS ?_); refine uD 4 zM26 zPJE zPJP 102 rfl (by kernel_rfl) ?_) | ((with_reducible refine xS ?_); refine uF 5 zM26 21 zPKE zPKP 102 rfl (by kernel_rfl) ?_) | ((with_reducible refine xS ?_); refine uD 7 zM26 zPLE zPLP 102 rfl (by kernel_rfl) ?_)) <;> ((try with_reducible intro K1 hK1); simp only [go_sem, ↓reduceIte, reduceCtorEq, nA, nB, nC, nD, nE, nF] <;> and_intros <;> first | (apply hK1; clear hK1 K1) | (intros; first | omega | decide) | skip))))
          refine awp_cond (t := _) rfl (fun _ => ?_) (fun h6 => by cases h6)
          (repeat (first | refine gO rfl ?_ | ((first | refine gM zM26 ?_ | (with_reducible refine wM ?_ ?_) | ((with_reducible refine xS ?_); refine uD 4 zM26 zPJE zPJP 102 rfl (by kernel_rfl) ?_) | ((with_reducible refine xS ?_); refine uF 5 zM26 21 zPKE zPKP 102 rfl (by kernel_rfl) ?_) | ((with_reducible refine xS ?_); refine uD 7 zM26 zPLE zPLP 102 rfl (by kernel_rfl) ?_)) <;> ((try with_reducible intro K1 hK1); simp only [go_sem, ↓reduceIte, reduceCtorEq, nA, nB, nC, nD, nE, nF, hTq, hyl] <;> and_intros <;> first | (apply hK1; clear hK1 K1) | (intros; first | omega | decide) | skip))))
          refine ⟨g2 - 1, by omega, m + 1, n + 1, ys ++ [(frq, t2q)], by omega, by simp [hn], by omega, fun w hw => ?_, hinv2, ?_⟩
          ·rcases List.mem_append.1 hw with hw | hw
           ·exact hys w hw
           ·rw [List.mem_singleton.1 hw]; simp only; omega
          ·rw [List.map_append]
           (try simp only [upd_upd])
           rfl
     ·simp only [decide_eq_false_iff_not] at h7
      have hmL : m = rs.length := by omega
      subst hmL
      rw [List.drop_length, byP] at hinv2
      rw [← hinv2] at hinv
      clear hinv2
      subst hn
      (repeat (first | refine gO rfl ?_ | ((first | refine gM zM26 ?_ | (with_reducible refine wM ?_ ?_) | ((with_reducible refine xS ?_); refine uD 4 zM26 zPJE zPJP 102 rfl (by kernel_rfl) ?_) | ((with_reducible refine xS ?_); refine uF 5 zM26 21 zPKE zPKP 102 rfl (by kernel_rfl) ?_) | ((with_reducible refine xS ?_); refine uD 7 zM26 zPLE zPLP 102 rfl (by kernel_rfl) ?_)) <;> ((try with_reducible intro K1 hK1); simp only [go_sem, ↓reduceIte, reduceCtorEq, nA, nB, nC, nD, nE, nF] <;> and_intros <;> first | (apply hK1; clear hK1 K1) | (intros; first | omega | decide) | skip))))
      refine (g_covered A B k ys ⟨h.H, upd h.T k (some (.cont 2 (ys.map encW2)))⟩ hTq (by omega) hys).mono ?_; rintro _ hz ⟨rfl, hh⟩; apply hK1; clear hK1 K1; rw [hh]; clear hh hz
      (repeat (first | refine gO rfl ?_ | ((first | refine gM zM26 ?_ | (with_reducible refine wM ?_ ?_) | ((with_reducible refine xS ?_); refine uD 4 zM26 zPJE zPJP 102 rfl (by kernel_rfl) ?_) | ((with_reducible refine xS ?_); refine uF 5 zM26 21 zPKE zPKP 102 rfl (by kernel_rfl) ?_) | ((with_reducible refine xS ?_); refine uD 7 zM26 zPLE zPLP 102 rfl (by kernel_rfl) ?_)) <;> ((try with_reducible intro K1 hK1); simp only [go_sem, ↓reduceIte, reduceCtorEq, nA, nB, nC, nD, nE, nF] <;> and_intros <;> first | (apply hK1; clear hK1 K1) | (intros; first | omega | decide) | skip))))
      cases hcv : covB A B (sortI cmpWnd ys) with
      | false =>
       rw [hcv, Bool.false_and] at hinv
       refine awp_cond (t := _) rfl (fun _ => ?_) (fun h6 => by cases h6)
       (repeat (first | refine gO rfl ?_ | ((first | refine gM zM26 ?_ | (with_reducible refine wM ?_ ?_) | ((with_reducible refine xS ?_); refine uD 4 zM26 zPJE zPJP 102 rfl (by kernel_rfl) ?_) | ((with_reducible refine xS ?_); refine uF 5 zM26 21 zPKE zPKP 102 rfl (by kernel_rfl) ?_) | ((with_reducible refine xS ?_); refine uD 7 zM26 zPLE zPLP 102 rfl (by kernel_rfl) ?_)) <;> ((try with_reducible intro K1 hK1); simp only [go_sem, ↓reduceIte, reduceCtorEq, nA, nB, nC, nD, nE, nF] <;> and_intros <;> first | (apply hK1; clear hK1 K1) | (intros; first | omega | decide) | skip))))
       simp only [Tryz.results82, go_sem, ↓reduceIte, reduceCtorEq, nA, nB, nC, nD, nE, nF]
       refine ⟨_, h, Weak.refl _, ⟨fun _ => .inr rfl, fun t => ?_⟩, by rw [← hinv], rfl⟩
       by_cases e : t = k
       ·subst e; exact .inl hk
       ·exact .inr (by show h.T t = upd h.T k _ t; rw [upd_other _ _ e])
      | true =>
       rw [hcv, Bool.true_and] at hinv
       refine awp_cond (t := _) rfl (fun h6 => by cases h6) (fun _ => ?_)
       refine awp_frz 9 k 2 (xs := (sortI cmpWnd ys).map encW2) (by rw [List.length_map, sortI_len]; rfl) (upd_same _ _ _) (fun y hy => by obtain ⟨z, _, rfl⟩ := List.mem_map.1 hy; rfl) ?_
       (repeat (first | refine gO rfl ?_ | ((first | refine gM zM26 ?_ | (with_reducible refine wM ?_ ?_) | ((with_reducible refine xS ?_); refine uD 4 zM26 zPJE zPJP 102 rfl (by kernel_rfl) ?_) | ((with_reducible refine xS ?_); refine uF 5 zM26 21 zPKE zPKP 102 rfl (by kernel_rfl) ?_) | ((with_reducible refine xS ?_); refine uD 7 zM26 zPLE zPLP 102 rfl (by kernel_rfl) ?_)) <;> ((try with_reducible intro K1 hK1); simp only [go_sem, ↓reduceIte, reduceCtorEq, nA, nB, nC, nD, nE, nF] <;> and_intros <;> first | (apply hK1; clear hK1 K1) | (intros; first | omega | decide) | skip))))
       (try simp only [upd_upd])
       rw [upd_back hk]
       exact ⟨g - 1, by omega, j + 1, by omega, hinv, rfl⟩
 ·simp only [decide_eq_false_iff_not] at h5
  have hjl : j = rs.length := by omega
  subst hjl
  rw [List.drop_length] at hinv
  (repeat (first | refine gO rfl ?_ | ((first | refine gM zM26 ?_ | (with_reducible refine wM ?_ ?_) | ((with_reducible refine xS ?_); refine uD 4 zM26 zPJE zPJP 102 rfl (by kernel_rfl) ?_) | ((with_reducible refine xS ?_); refine uF 5 zM26 21 zPKE zPKP 102 rfl (by kernel_rfl) ?_) | ((with_reducible refine xS ?_); refine uD 7 zM26 zPLE zPLP 102 rfl (by kernel_rfl) ?_)) <;> ((try with_reducible intro K1 hK1); simp only [go_sem, ↓reduceIte, reduceCtorEq, nA, nB, nC, nD, nE, nF] <;> and_intros <;> first | (apply hK1; clear hK1 K1) | (intros; first | omega | decide) | skip))))
  simp only [Tryz.results82, go_sem, ↓reduceIte, reduceCtorEq, nA, nB, nC, nD, nE, nF]
  exact ⟨_, _, Weak.refl _, Hp.le.refl _, by rw [← hinv]; rfl, rfl⟩
theorem tags_rise {rs : List Rt} (h : rightsF rs = 0) : ∀ r ∈ rs, r.2.1.Pairwise fun a b => ltB a b = true := by
 induction rs with
 | nil => intro x hx; cases hx
 | cons r l ih =>
  rw [rightsF] at h
  split at h
  ·rename_i h1
   intro x hx
   rcases List.mem_cons.1 hx with rfl | hx
   ·unfold rightF at h1
    split at h1
    ·cases h1
    ·split at h1
     ·rename_i h2; exact (rise_sorted _ _ h2).1
     ·rename_i h2; exact absurd h1 h2
   ·exact ih h x hx
  ·rename_i h1; exact absurd h h1
theorem g_Useless (rs : List Rt) (kk : Option Nat) (hl : rs.length ≤ 12) (hok : ∀ r ∈ rs, RtOk r) (hf : rightsF rs = 0) (h : Hp) :
  ACalls Tryz.prog 30 [.row 5 (rs.map encRt) kk] h (fun r h' => r = .tup [.row 1 ((uselL rs rs 0).map encI) none, .v (.int .i64 0)] ∧ h' = h) := by
 have hml : (rs.map encRt).length = rs.length := List.length_map _
 have hts := tags_rise hf
 have hC := g_checkRights rs kk (by omega) hok h
 rw [hf] at hC
 refine gE Tryz.func30 rfl (by kernel_rfl) 42 rfl fun c => ?_
 (repeat (first | refine gO rfl ?_ | (refine gM zM25 fun K1 hK1 => ?_; simp only [go_sem, ↓reduceIte, reduceCtorEq, nA, nB, nC, nD, nE, nF, hml] <;> and_intros <;> first | (apply hK1; clear hK1 K1) | (intros; first | omega | decide) | skip)))
 refine hC.mono ?_; rintro _ hz ⟨rfl, hh⟩; apply hK1; clear hK1 K1; rw [hh]; clear hh hz
 (repeat (first | refine gO rfl ?_ | (refine gM zM25 fun K1 hK1 => ?_; simp only [go_sem, ↓reduceIte, reduceCtorEq, nA, nB, nC, nD, nE, nF] <;> and_intros <;> first | (apply hK1; clear hK1 K1) | (intros; first | omega | decide) | skip)))
 refine awp_cond (t := _) rfl (fun h6 => by cases h6) (fun _ => ?_)
 (repeat (first | refine gQ rfl ?_ | (refine gM zM25 fun K1 hK1 => ?_; simp only [go_sem, ↓reduceIte, reduceCtorEq, nA, nB, nC, nD, nE, nF] <;> and_intros <;> first | (apply hK1; clear hK1 K1) | (intros; first | omega | decide | (simp_all <;> omega)) | skip)))
 refine awp_seq ?_
 refine awp_ownA 5 1 rfl ⟨rfl, rfl⟩ (fun k hk => ?_)
 replace hk : h.T k = none := hk
 (repeat (first | refine gO rfl ?_ | (refine gM zM25 fun K1 hK1 => ?_; simp only [go_sem, ↓reduceIte, reduceCtorEq, nA, nB, nC, nD, nE, nF, hml] <;> and_intros <;> first | (apply hK1; clear hK1 K1) | (intros; first | omega | decide) | skip)))
 refine awp_loopC (rl false [0, 1, 4, 1, 7, 3, 27]) 0 (fun g s => ∃ (j n : Nat) (ys : List Int), g + j = rs.length ∧ ys.length = n ∧ n ≤ j ∧ ys ++ uselL rs (rs.drop j) j = uselL rs rs 0 ∧
  s = ⟨((.row 5 (rs.map encRt) kk) :: (jnk 4 ((.arr 1 k n) :: (jnk 7 ((.row 5 (rs.map encRt) kk) :: (.v (.int .i64 rs.length)) :: (.v (.int .i64 j)) :: (jnk 27 [])))))), [], ⟨h.H, upd h.T k (some (.cont 1 (ys.map encI)))⟩⟩) rs.length ⟨0, 0, [], by omega, rfl, by omega, rfl, rfl⟩ ?_
 rintro g _ ⟨j, n, ys, hj, hn, hnj, hinv, rfl⟩
 have hTq : upd h.T k (some (TO.cont 1 (ys.map encI))) k = some (TO.cont 1 (ys.map encI)) := upd_same _ _ _
 have hyl : (ys.map encI).length = n := by rw [List.length_map, hn]
 (repeat (first | refine gO rfl ?_ | (refine gM zM25 fun K1 hK1 => ?_; simp only [go_sem, ↓reduceIte, reduceCtorEq, nA, nB, nC, nD, nE, nF] <;> and_intros <;> first | (apply hK1; clear hK1 K1) | (intros; first | omega | decide) | skip)))
 refine awp_cond (t := _) rfl (fun h5 => ?_) (fun h5 => ?_)
 ·simp only [decide_eq_true_eq] at h5
  have hjl : j < rs.length := by omega
  have hje : rs[j]? = some rs[j] := List.getElem?_eq_getElem hjl
  have gx : (rs.map encRt).getD j [] = encRt rs[j] := by rw [List.getD_eq_getElem?_getD, List.getElem?_map, hje]; rfl
  have hro := hok _ (List.getElem_mem hjl)
  have hto := hts _ (List.getElem_mem hjl)
  rw [List.drop_eq_getElem_cons hjl, uselL] at hinv
  generalize rs[j] = r at *
  have hB := g_uselB rs j r kk hje hl hok ⟨h.H, upd h.T k (some (.cont 1 (ys.map encI)))⟩
  have hR := g_uselR rs j r kk hje hl hok hto ⟨h.H, upd h.T k (some (.cont 1 (ys.map encI)))⟩
  obtain ⟨it, tg, fr, t2, bb⟩ := r
  rw [show encRt (it, tg, fr, t2, bb) = [.v (.string it), .row 1 (tg.map encS) none, .v (.int .i64 fr), .v (.int .i64 t2), .v (.bool bb)] from rfl] at gx
  unfold usel at hinv
  cases bb with
  | true =>
   rw [if_pos rfl] at hinv
   (repeat (first | refine gO rfl ?_ | (refine gM zM25 fun K1 hK1 => ?_; simp only [go_sem, ↓reduceIte, reduceCtorEq, nA, nB, nC, nD, nE, nF, hml, Int.toNat_natCast, gx, Bool.not_true, Bool.not_false] <;> and_intros <;> first | (apply hK1; clear hK1 K1) | (intros; first | omega | decide) | skip)))
   rotate_left
   ·exact fun h => h.elim
   refine hB.mono ?_
   rintro _ hz ⟨rfl, hh⟩; refine ⟨rfl, ?_⟩; apply hK1; clear hK1 K1; rw [hh]; clear hh hz
   cases hb : uselB rs (it, tg, fr, t2, true) j with
   | true =>
    rw [hb, if_pos rfl] at hinv
    (repeat (first | refine gO rfl ?_ | (refine gM zM25 fun K1 hK1 => ?_; simp only [go_sem, ↓reduceIte, reduceCtorEq, nA, nB, nC, nD, nE, nF, Bool.not_true, Bool.not_false] <;> and_intros <;> first | (apply hK1; clear hK1 K1) | (intros; first | omega | decide) | skip)))
    refine awp_cond (t := _) rfl (fun _ => ?_) (fun h6 => by cases h6)
    (repeat (first | refine gO rfl ?_ | (refine gM zM25 fun K1 hK1 => ?_; simp only [go_sem, ↓reduceIte, reduceCtorEq, nA, nB, nC, nD, nE, nF, hTq, hyl] <;> and_intros <;> first | (apply hK1; clear hK1 K1) | (intros; first | omega | decide) | skip)))
    refine ⟨g - 1, by omega, j + 1, n + 1, ys ++ [(j : Int)], by omega, by simp [hn], by omega, by rw [← hinv, List.append_assoc]; rfl, ?_⟩
    rw [List.map_append]
    (try simp only [upd_upd])
    rfl
   | false =>
    rw [hb, if_neg (by decide)] at hinv
    (repeat (first | refine gO rfl ?_ | (refine gM zM25 fun K1 hK1 => ?_; simp only [go_sem, ↓reduceIte, reduceCtorEq, nA, nB, nC, nD, nE, nF, Bool.not_true, Bool.not_false] <;> and_intros <;> first | (apply hK1; clear hK1 K1) | (intros; first | omega | decide) | skip)))
    refine awp_cond (t := _) rfl (fun h6 => by cases h6) (fun _ => ?_)
    (repeat (first | refine gO rfl ?_ | (refine gM zM25 fun K1 hK1 => ?_; simp only [go_sem, ↓reduceIte, reduceCtorEq, nA, nB, nC, nD, nE, nF] <;> and_intros <;> first | (apply hK1; clear hK1 K1) | (intros; first | omega | decide) | skip)))
    exact ⟨g - 1, by omega, j + 1, n, ys, by omega, hn, by omega, hinv, rfl⟩
  | false =>
   rw [if_neg (show ¬ (false = true) by decide)] at hinv
   (repeat (first | refine gO rfl ?_ | (refine gM zM25 fun K1 hK1 => ?_; simp only [go_sem, ↓reduceIte, reduceCtorEq, nA, nB, nC, nD, nE, nF, hml, Int.toNat_natCast, gx, Bool.not_true, Bool.not_false] <;> and_intros <;> first | (apply hK1; clear hK1 K1) | (intros; first | omega | decide) | skip)))
   rotate_left
   ·exact fun h => h.elim
   refine hR.mono ?_
   rintro _ hz ⟨rfl, hh⟩; refine ⟨rfl, ?_⟩; apply hK1; clear hK1 K1; rw [hh]; clear hh hz
   cases hb : uselR rs (it, tg, fr, t2, false) j with
   | true =>
    rw [hb, if_pos rfl] at hinv
    (repeat (first | refine gO rfl ?_ | (refine gM zM25 fun K1 hK1 => ?_; simp only [go_sem, ↓reduceIte, reduceCtorEq, nA, nB, nC, nD, nE, nF, Bool.not_true, Bool.not_false] <;> and_intros <;> first | (apply hK1; clear hK1 K1) | (intros; first | omega | decide) | skip)))
    refine awp_cond (t := _) rfl (fun _ => ?_) (fun h6 => by cases h6)
    (repeat (first | refine gO rfl ?_ | (refine gM zM25 fun K1 hK1 => ?_; simp only [go_sem, ↓reduceIte, reduceCtorEq, nA, nB, nC, nD, nE, nF, hTq, hyl] <;> and_intros <;> first | (apply hK1; clear hK1 K1) | (intros; first | omega | decide) | skip)))
    refine ⟨g - 1, by omega, j + 1, n + 1, ys ++ [(j : Int)], by omega, by simp [hn], by omega, by rw [← hinv, List.append_assoc]; rfl, ?_⟩
    rw [List.map_append]
    (try simp only [upd_upd])
    rfl
   | false =>
    rw [hb, if_neg (by decide)] at hinv
    (repeat (first | refine gO rfl ?_ | (refine gM zM25 fun K1 hK1 => ?_; simp only [go_sem, ↓reduceIte, reduceCtorEq, nA, nB, nC, nD, nE, nF, Bool.not_true, Bool.not_false] <;> and_intros <;> first | (apply hK1; clear hK1 K1) | (intros; first | omega | decide) | skip)))
    refine awp_cond (t := _) rfl (fun h6 => by cases h6) (fun _ => ?_)
    (repeat (first | refine gO rfl ?_ | (refine gM zM25 fun K1 hK1 => ?_; simp only [go_sem, ↓reduceIte, reduceCtorEq, nA, nB, nC, nD, nE, nF] <;> and_intros <;> first | (apply hK1; clear hK1 K1) | (intros; first | omega | decide) | skip)))
    exact ⟨g - 1, by omega, j + 1, n, ys, by omega, hn, by omega, hinv, rfl⟩
 ·simp only [decide_eq_false_iff_not] at h5
  have hjl : j = rs.length := by omega
  subst hjl
  rw [List.drop_length, uselL, List.append_nil] at hinv
  subst hn
  refine awp_frz 5 k 1 (xs := ys.map encI) (by rw [List.length_map]; rfl) (upd_same _ _ _) (fun y hy => by obtain ⟨z, _, rfl⟩ := List.mem_map.1 hy; rfl) ?_
  (repeat (first | refine gO rfl ?_ | (refine gM zM25 fun K1 hK1 => ?_; simp only [go_sem, ↓reduceIte, reduceCtorEq, nA, nB, nC, nD, nE, nF] <;> and_intros <;> first | (apply hK1; clear hK1 K1) | (intros; first | omega | decide) | skip)))
  simp only [Tryz.results30, go_sem, ↓reduceIte, reduceCtorEq, nA, nB, nC, nD, nE, nF]
  refine ⟨_, h, Weak.refl _, ⟨fun _ => .inr rfl, fun t => ?_⟩, by rw [← hinv], rfl⟩
  by_cases e : t = k
  ·subst e; exact .inl hk
  ·exact .inr (by show h.T t = upd h.T k none t; rw [upd_other _ _ e])
open Go Go.RowKit Go.Sort Go.Lib Go.Proofs
theorem infoRt : (Tryz.prog.info? 106).map (fun i => i.size) = some 5 := by kernel_rfl
def zRt : List Value := [.string ⟨#[]⟩, .slice none 0 0, .int .i64 0, .int .i64 0, .bool false]
theorem zeroRt (w : World) : (zeroValue 106).run Tryz.prog w = .ok (.agg #[.string ⟨#[]⟩, .slice none 0 0, .int .i64 0, .int .i64 0, .bool false]) w := Tryz.zeroValue106 w
theorem run_clear_one {P : Program} (w : World) (t e ty : TypeId) (z : Value) (zs : List Value) (ht : P.underlying t = some (.slice e)) (hv : ∀ w, (zeroValue e).run P w = .ok z w) (hz : (Builtin.zeroCells z.cells 1).toList = zs) (h1 : ∀ v ∈ zs, v.oneCell' = true) (b o c : Nat)
  (hc : ∀ j, j < zs.length → (w.cell? ⟨b, o + j, none⟩).isSome = true) (hf : ∀ j, j < zs.length → w.frozen? ⟨b, o + j, none⟩ = false) :
  (Builtin.clear_ #[t] ty #[.slice (some ⟨b, o, none⟩) 1 c]).run P w = .ok (.tuple #[]) (w.setCells b o zs) := by
 have hst := run_storeCells_cells (P := P) b o zs 0 w (by simpa using hc) (by simpa using hf) h1
 simp only [Nat.add_zero] at hst
 simp [Builtin.clear_, run_underlying ht, hv, hz, hst]
theorem del_arr {α : Type} (d : Array α) (i j : Nat) (zs : List α) (hij : i ≤ j) (hj : j ≤ d.size) (hz : zs.length = j - i) :
  lay (lay d i (d.toList.drop j)) (i + (d.size - j)) zs = (d.toList.take i ++ d.toList.drop j ++ zs).toArray := by
 apply Array.ext_getElem?
 intro t
 have l1 : (d.toList.take i).length = i := by simp; omega
 have l2 : (d.toList.drop j).length = d.size - j := by simp
 rw [lay_get? _ _ _ _ (by rw [lay_size]; omega), lay_get? _ _ _ _ (by rw [l2]; omega), show (d.toList.take i ++ d.toList.drop j ++ zs).toArray[t]? = (d.toList.take i ++ d.toList.drop j ++ zs)[t]? from by simp]
 simp only [l2]
 by_cases c1 : t < i
 ·rw [if_neg (by omega), if_neg (by omega), List.append_assoc, List.getElem?_append_left (by omega), List.getElem?_take, if_pos c1, Array.getElem?_toList]
 ·by_cases c2 : t < i + (d.size - j)
  ·rw [if_neg (by omega), if_pos (by omega), List.getElem?_append_left (by simp; omega), List.getElem?_append_right (by omega), l1]
  ·rw [List.getElem?_append_right (by simp; omega)]
   simp only [List.length_append, l1, l2]
   by_cases c3 : t < d.size
   ·rw [if_pos (by omega)]
   ·rw [if_neg (by omega), if_neg (by omega), Array.getElem?_eq_none (by omega), List.getElem?_eq_none (by omega)]
set_option maxHeartbeats 4000000 in
set_option maxRecDepth 1000000 in
theorem del_walk (g c n i : Nat) (vs : List Value) (w : World) (hH : Holds (id : Value → Value) w g 0 vs.toArray) (hv : vs.length = n * 5) (h1 : ∀ u ∈ vs, u.oneCell' = true) (hnc : n ≤ c) (hcm : c ≤ 9223372036854775807) (hi : i < n) (hn : n ≤ 100000) :
  Calls Tryz.prog 59 #[.slice (some ⟨g, 0, none⟩) n c, .int .i64 i, .int .i64 (i + 1 : Nat)] w fun e w' => e = .returned (.slice (some ⟨g, 0, none⟩) (n - 1) c) ∧ ∃ q, w' = putRow id (Sort.ahead w q) g 0 (vs.take (i * 5) ++ vs.drop ((i + 1) * 5) ++ zRt).toArray := by
 obtain ⟨i0, hi0, hz1⟩ : ∃ i0, Tryz.prog.info? 106 = some i0 ∧ i0.size = 5 := by
  have h := infoRt
  cases h2 : Tryz.prog.info? 106 with
  | none => rw [h2] at h; cases h
  | some i0 => rw [h2] at h; exact ⟨i0, rfl, by simpa using h⟩
 have mixed : Tryz.prog.follows Departure.mixedOrders = true := by kernel_rfl
 have t0 := Tryz.underlying26
 obtain ⟨news, hnews⟩ : ∃ news, news = vs.drop ((i + 1) * 5) := ⟨_, rfl⟩
 have hds : vs.toArray.size = n * 5 := by simpa using hv
 have hlen : news.length = (n - (i + 1)) * 5 := by rw [hnews, List.length_drop, hv]; omega
 have hget : ∀ t, t < (n - (i + 1)) * 5 → news[t]? = some (vs.toArray[(i + 1) * 5 + t]!) := by
  intro t ht
  have h9 : (i + 1) * 5 + t < vs.length := by omega
  rw [hnews, List.getElem?_drop, List.getElem?_eq_getElem h9]
  simp [h9]
 obtain ⟨A, hA, hsrc⟩ : ∃ A : Addr, (if c = i + 1 then some (⟨g, 0, none⟩ : Addr) else some ⟨g, (i + 1) * 5, none⟩) = some A ∧ Hid (∀ t u, news[t]? = some u → w.drew.cell? (A.add t) = some u) := by
  by_cases h : c = i + 1
  ·refine ⟨⟨g, 0, none⟩, by simp [h], fun t u hu => ?_⟩
   have h0 : news.length = 0 := by rw [hlen]; omega
   rw [List.length_eq_zero_iff.1 h0] at hu
   simp at hu
  ·refine ⟨⟨g, (i + 1) * 5, none⟩, by simp [h], fun t u hu => ?_⟩
   have ht : t < (n - (i + 1)) * 5 := by
    have := (List.getElem?_eq_some_iff.1 hu).1
    rwa [hlen] at this
   rw [hget t ht] at hu
   rw [Addr.add_lit]
   have h3 := (hH ((i + 1) * 5 + t) (by omega)).1
   rw [Nat.zero_add] at h3
   exact h3.trans hu
 have s1 : Hid (news.length = (n - (i + 1)) * 5) := hlen
 have s2 : Hid (∀ u ∈ news, u.oneCell' = true) := by
  intro u hu
  rw [hnews] at hu
  exact h1 u (List.mem_of_mem_drop hu)
 have s3 : Hid (∀ t, t < news.length → (w.drew.cell? ⟨g, 0 + i * 5 + t, none⟩).isSome = true ∧ w.drew.frozen? ⟨g, 0 + i * 5 + t, none⟩ = false) := by
  intro t ht
  rw [hlen] at ht
  rw [Nat.add_assoc]
  exact ⟨by show (w.cell? _).isSome = true; rw [(hH (i * 5 + t) (by omega)).1]; rfl, (hH (i * 5 + t) (by omega)).2⟩
 obtain ⟨W1, hW1⟩ : ∃ W1, W1 = w.drew.setCells g (0 + i * 5) news := ⟨_, rfl⟩
 have hW1' : W1 = putRow id (Sort.ahead w 1) g 0 (lay vs.toArray (i * 5) news) := by
  have h4 := putRow_setCells (id : Value → Value) (Sort.ahead w 1) g 0 news vs.toArray (i * 5) (by rw [hlen, hds]; omega)
  rw [List.map_id, putRow_self id (Sort.ahead w 1) g 0 vs.toArray (holds_ahead id w 1 g 0 _ hH)] at h4
  rw [hW1, ← h4]; rfl
 have hH1 : Holds id W1 g 0 (lay vs.toArray (i * 5) news) := by rw [hW1']; exact holds_putRow id _ g 0 vs.toArray _ (holds_ahead id w 1 g 0 _ hH) (lay_size _ _ _)
 have hls : (lay vs.toArray (i * 5) news).size = n * 5 := by rw [lay_size, hds]
 have hcl : ∀ ty, (Builtin.clear_ #[26] ty #[.slice (some ⟨g, (i + (n - (i + 1))) * 5, none⟩) (n - (i + (n - (i + 1)))) (c - (i + (n - (i + 1))))]).run Tryz.prog W1 = .ok (.tuple #[]) (W1.setCells g ((n - 1) * 5) zRt) := fun ty => by
  have e1 : i + (n - (i + 1)) = n - 1 := by omega
  have e2 : n - (i + (n - (i + 1))) = 1 := by omega
  rw [e2, e1]
  refine run_clear_one W1 _ _ ty _ zRt t0 zeroRt (by rw [toList_zeroCells _ _ (by decide)]; rfl) (by intro v hv2; simp [zRt] at hv2; rcases hv2 with rfl | rfl | rfl | rfl | rfl <;> rfl) g ((n - 1) * 5) _ (fun t ht => ?_) (fun t ht => ?_)
  ·have ht5 : t < 5 := ht
   have h5 := (hH1 ((n - 1) * 5 + t) (by rw [hls]; omega)).1
   rw [Nat.zero_add] at h5
   rw [h5]; rfl
  ·have ht5 : t < 5 := ht
   have h5 := (hH1 ((n - 1) * 5 + t) (by rw [hls]; omega)).2
   rw [Nat.zero_add] at h5
   exact h5
 have X : Aside (W1 = putRow id (Sort.ahead w 1) g 0 (lay vs.toArray (i * 5) news)) := hW1'
 have hW : Hid (W1 = w.drew.setCells g (0 + i * 5) news) := hW1
 have hic : i ≤ c := by omega
 have hjc : i + 1 ≤ c := by omega
 have hne : ¬ (i = i + 1) := by omega
 have hneI : ((i : Int) == ((i + 1 : Nat) : Int)) = false := by simp; omega
 have hj1 : (0 : Int) ≤ (i : Int) + 1 := by omega
 have hj2 : (i : Int) + 1 ≤ (n : Int) := by omega
 have HN := Lib.hid hnews
 have HV := Lib.hid hv
 have HD := Lib.hid hds
 clear hW1 hW1' hH1 hH hget hnews hlen h1 hv hds hls
 go_enter Tryz.func59, Tryz.ntmps59
 go_wp2_with fail
 go_region_law_o (refine step_append_room rfl (.tmp 22) (.tmp 25) 26 rfl 106 i0 5 t0 hi0 hz1 g 0 i c (by simp [Act.eval, Act.put]) A (n - (i + 1)) (c - (i + 1)) news (by simp [Act.eval, Act.put]) s1.out hsrc.out s2.out (by omega) s3.out ?_; rw [← hW.out])
 go_wp2
 go_ret
 refine ⟨by rw [show n - 1 = i + (n - (i + 1)) by omega]; rfl, 1, ?_⟩
 have hds : vs.toArray.size = n * 5 := HD.out
 have h7 := putRow_setCells (id : Value → Value) (Sort.ahead w 1) g 0 zRt (lay vs.toArray (i * 5) news) ((n - 1) * 5) (by rw [lay_size, hds]; show (n - 1) * 5 + 5 ≤ n * 5; omega)
 rw [List.map_id, Nat.zero_add] at h7
 have hX : W1 = putRow id (Sort.ahead w 1) g 0 (lay vs.toArray (i * 5) news) := X
 rw [hX, h7, HN.out]
 have h8 := del_arr vs.toArray (i * 5) ((i + 1) * 5) zRt (by omega) (by rw [hds]; omega) (by show 5 = _; omega)
 rw [hds, show i * 5 + (n * 5 - (i + 1) * 5) = (n - 1) * 5 by omega] at h8
 rw [h8]
theorem holds_id {w : World} {g : Nat} {cur : Array Value} {e : TypeId} {ss : List Value} (hb : w.heap[g]? = some (.cells cur e (0, 0))) (ht : cur.toList.take ss.length = ss) : Holds (id : Value → Value) w g 0 ss.toArray := by
 intro j hj
 have hj' : j < ss.length := by simpa using hj
 refine ⟨?_, by simp [World.frozen?, hb]⟩
 have h1 : (cur.toList.take ss.length)[j]? = ss[j]? := by rw [ht]
 rw [List.getElem?_take_of_lt hj'] at h1
 simp only [World.cell?, hb, Nat.zero_add]
 simp only [Option.isSome_none, Bool.false_eq_true, if_false]
 rw [← Array.getElem?_toList, h1]
 simp [hj']
theorem heap_id {w : World} {g n : Nat} {os : Array Obj} {cur : Array Value} {e : TypeId} {fr : Nat × Nat} (d : Array Value) (hb : w.heap[g]? = some (.cells cur e fr)) :
  (grow (putRow id (Sort.ahead w n) g 0 d) os).heap[g]? = some (.cells (putCells id 0 d cur) e fr) := by
 have hg : g < w.heap.size := (Array.getElem?_eq_some_iff.1 hb).1
 show ((w.heap.modify g (onCells _)) ++ os)[g]? = _
 rw [Array.getElem?_append_left (by simpa using hg)]
 simp [Array.getElem?_modify, hb, onCells]
theorem take_id (cur : Array Value) (ts : List Value) (h : ts.length ≤ cur.size) : (putCells id 0 ts.toArray cur).toList.take ts.length = ts := by
 apply List.ext_getElem?
 intro j
 by_cases hj : j < ts.length
 ·rw [List.getElem?_take_of_lt hj, Array.getElem?_toList]
  simp [putCells, hj, show j < cur.size by omega]
 ·rw [List.getElem?_take_eq_none (by omega), List.getElem?_eq_none (by omega)]
theorem vs_three {vs : Array Value} (h : vs.size = 3) : vs = #[vs.getD 0 undef, vs.getD 1 undef, vs.getD 2 undef] := by
 apply Array.ext (by simpa using h)
 intro j hj hj'
 simp only [List.size_toArray, List.length_cons, List.length_nil] at hj'
 have hc : j = 0 ∨ j = 1 ∨ j = 2 := by omega
 rcases hc with rfl | rfl | rfl <;> simp [Array.getD, h]
theorem flat_take {α : Type} {z : Nat} : ∀ (xs : List (List α)) (i : Nat), (∀ x ∈ xs, x.length = z) → i ≤ xs.length → (xs.take i).flatten = xs.flatten.take (i * z)
 | [], i, _, h => by
  have : i = 0 := by simpa using h
  subst this; simp
 | x :: xs, 0, _, _ => by simp
 | x :: xs, i + 1, h, hi => by
  have hx := h x (by simp)
  have e1 : (i + 1) * z = x.length + i * z := by rw [hx, Nat.add_mul]; omega
  rw [List.take_succ_cons, List.flatten_cons, List.flatten_cons, flat_take xs i (fun y hy => h y (by simp [hy])) (by simpa using hi), e1]
  simp [List.take_append]
  rw [List.take_of_length_le (by omega)]
theorem flat_drop {α : Type} {z : Nat} : ∀ (xs : List (List α)) (i : Nat), (∀ x ∈ xs, x.length = z) → i ≤ xs.length → (xs.drop i).flatten = xs.flatten.drop (i * z)
 | [], i, _, h => by
  have : i = 0 := by simpa using h
  subst this; simp
 | x :: xs, 0, _, _ => by simp
 | x :: xs, i + 1, h, hi => by
  have hx := h x (by simp)
  have e1 : (i + 1) * z = x.length + i * z := by rw [hx, Nat.add_mul]; omega
  rw [List.drop_succ_cons, List.flatten_cons, flat_drop xs i (fun y hy => h y (by simp [hy])) (by simpa using hi), e1]
  simp [List.drop_append]
def zRtA : List AV := zRt.map AV.v
theorem g_delR (rows : List (List AV)) (k i : Nat) (h : Hp) (hT : h.T k = some (.cont 5 rows)) (hi : i < rows.length) (hb : rows.length ≤ 1000) :
  ACalls Tryz.prog 59 [.arr 5 k rows.length, .v (.int .i64 i), .v (.int .i64 ((i : Int) + 1))] h (fun r h' => r = .row 5 (rows.take i ++ rows.drop (i + 1)) none ∧ h' = { h with T := upd h.T k none }) := by
 refine acalls_mk (by kernel_rfl) fun G w vs hs hv ha => ?_
 have r0 := ha 0 (by simp)
 have r1 := ha 1 (by simp)
 have r2 := ha 2 (by simp)
 rw [vs_three hv]
 generalize vs.getD 0 undef = v at r0
 generalize vs.getD 1 undef = v1 at r1
 generalize vs.getD 2 undef = v2 at r2
 simp only [List.getElem_cons_zero] at r0
 simp only [List.getElem_cons_succ, List.getElem_cons_zero] at r1 r2
 cases r1
 cases r2
 cases r0 with
 | arr _ _ _ q m c ho =>
 obtain ⟨hknx, ⟨q', c', e2, _, _⟩, hm⟩ := ho
 rcases hs.tok k _ hT with ⟨_, e1⟩ | ⟨tt, cur, E, htl, htm, htp, hth, hts, htc, htcm, htf, htz, hzx, htr⟩
 ·rw [e1] at hi; simp at hi
 rw [htl] at hm
 obtain ⟨hxe, _⟩ := hm.2 htm.symm
 simp only [Value.slice.injEq] at hxe e2
 obtain ⟨rfl, rfl, rfl⟩ := hxe
 rw [htz] at hts
 have hle : rows.length ≤ tt.c := by rw [← htm]; exact htc
 have hfl := flatten_len hzx
 rw [hfl] at htr
 obtain ⟨cs, hcs⟩ : ∃ cs, cs = cur.toList.take (rows.length * 5) := ⟨_, rfl⟩
 rw [← hcs] at htr
 have hsz : rows.length * 5 ≤ cur.size := by rw [hts]; exact Nat.mul_le_mul_right _ hle
 have hcl : cs.length = rows.length * 5 := by
  have e1 := List.length_take (i := rows.length * 5) (l := cur.toList)
  have e2 : cur.toList.length = cur.size := by simp
  rw [hcs, e1, e2]; omega
 have hc1 : ∀ u ∈ cs, u.oneCell' = true := fun u hu => by
  obtain ⟨j, hj, rfl⟩ := List.mem_iff_getElem.1 hu
  exact (htr.2 j (by rw [hfl, ← hcl]; exact hj) hj).2
 have hH : Holds (id : Value → Value) w tt.g 0 cs.toArray := holds_id hth (by rw [hcl]; exact hcs.symm)
 have hmx : tt.c ≤ 9223372036854775807 := htcm
 have sm : Sim G [] ⟨[], [], h⟩ ⟨#[], []⟩ w := ⟨hs, Nat.le_refl _, fun t ht => by simp at ht, rfl, ⟨rfl, fun j b cs e => by simp at e, fun b hb => by simp at hb, List.nodup_nil⟩⟩
 have hwk := del_walk tt.g tt.c rows.length i cs w hH hcl hc1 hle hmx hi (by omega)
 rw [show ((i + 1 : Nat) : Int) = (i : Int) + 1 by omega] at hwk
 refine hwk.mono ?_
 rintro e w' ⟨rfl, n, rfl⟩
 obtain ⟨ys, hys⟩ : ∃ ys, ys = cs.take (i * 5) ++ cs.drop ((i + 1) * 5) ++ zRt := ⟨_, rfl⟩
 have hzl : zRt.length = 5 := rfl
 have hyl : ys.length = rows.length * 5 := by rw [hys, List.length_append, List.length_append, List.length_take, List.length_drop, hcl, hzl]; omega
 rw [← hys]
 have hg0 : grow (putRow id (Sort.ahead w n) tt.g 0 ys.toArray) #[] = putRow id (Sort.ahead w n) tt.g 0 ys.toArray := by
  unfold grow; rw [Array.append_empty]
 rw [← hg0]
 obtain ⟨xs, hxs⟩ : ∃ xs, xs = (rows.take i ++ rows.drop (i + 1)) ++ [zRtA] := ⟨_, rfl⟩
 have hxl : xs.length = rows.length := by rw [hxs]; simp; omega
 have hzd : ∀ x ∈ xs, x.length = 5 := fun x hx => by
  rw [hxs] at hx
  rcases List.mem_append.1 hx with hx | hx
  ·rcases List.mem_append.1 hx with hx | hx
   ·exact hzx x (List.mem_of_mem_take hx)
   ·exact hzx x (List.mem_of_mem_drop hx)
  ·rw [List.mem_singleton.1 hx]; rfl
 have hfd : xs.flatten.length = rows.length * 5 := by rw [flatten_len hzd, hxl]
 have hxf : xs.flatten = rows.flatten.take (i * 5) ++ rows.flatten.drop ((i + 1) * 5) ++ zRtA := by
  rw [hxs, List.flatten_append, List.flatten_append, flat_take rows i hzx (by omega), flat_drop rows (i + 1) hzx (by omega)]; simp
 have hrz : RepL G zRtA zRt := RepL.map_v G (by rfl)
 have hrep : RepL G xs.flatten ys := by
  rw [hxf, hys]
  exact ((htr.take _).append (htr.drop _)).append hrz
 have hh9 := heap_id (n := n) (os := #[]) ys.toArray hth
 obtain ⟨G', hG', s2, g2, f2⟩ := sm.setCont (k := k) (z := 5) (xs := xs) (B := tt.g) (c := tt.c) (arr := putCells id 0 ys.toArray cur) (E := E) hT (fun b hb' hne => put_block _ w tt.g n _ #[] b hb' hne) hh9 (by simp [putCells, hts])
  htf hzd (by rw [hfd, ← hyl, take_id cur ys (by rw [hyl]; exact hsz)]; exact hrep) (by rw [hxl]; exact hle) htcm (by rw [hxl]; omega) (.inr ⟨hxl.symm, rfl, tt, htl, rfl, rfl⟩) (.inr ⟨tt, htl, rfl⟩) rfl rfl rfl (put_size _ w tt.g n _ #[])
 obtain ⟨G2, hle2, hfr2, hs2, hfz⟩ := s2.hs.freeze (h2 := { h with T := upd h.T k none }) (fun j => j = k) rfl (fun j hj => by subst hj; exact upd_same _ _ _) (fun j hj => by show upd _ _ _ j = upd _ _ _ j; rw [upd_other _ _ hj, upd_other _ _ hj])
 have harr : Rep G' (.arr 5 k rows.length) (.slice (some ⟨tt.g, 0, none⟩) rows.length tt.c) := by
  refine .arr _ _ _ _ _ _ ⟨by rw [hG']; exact hknx, ⟨some ⟨tt.g, 0, none⟩, tt.c, rfl, hle, .inr ⟨tt.g, rfl⟩⟩, ?_⟩
  rw [hG']
  simp only [upd_same]
  exact ⟨by simp [hxl], fun _ => by simp⟩
 have hrow := hfz k 5 xs _ rfl (upd_same _ _ _) (by rw [hxl]; exact harr) _ rfl hzd fun us hus => hus.mono hle2
 rw [hxs] at hrow
 have hrow2 := Rep.cutRow hrow (by rw [← hxs, hxl])
 have hln : (rows.take i ++ rows.drop (i + 1)).length = rows.length - 1 := by simp; omega
 rw [hln] at hrow2
 exact ⟨_, rfl, _, _, G2, ⟨rfl, rfl⟩, g2.trans hle2, f2.trans hfr2, hs2, hrow2⟩
end Go.Proofs.YtmghfolmgmhabaaGreatDoor
