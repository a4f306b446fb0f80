/- Rights and guests that are made. -/
import Derived.Test.YtmghfolmgmhabaaGreatDoorM1
import Derived.Test.YtmghfolmgmhabaaGreatDoorAvRun
import Derived.Test.YtmghfolmgmhabaaGreatDoorAvFz
import Derived.Lib.SlicesCompact
import Derived.Test.YtmghfolmgmhabaaGreatDoorShelf
import Derived.Lib.OwnBridge
import Derived.Test.YtmghfolmgmhabaaGreatDoorAvApp2
import Derived.Test.YtmghfolmgmhabaaGreatDoorAvOld
namespace Go.Proofs.YtmghfolmgmhabaaGreatDoor
open Go
set_option linter.unusedVariables false
set_option linter.unusedSimpArgs false
open Nat renaming reduceAdd → nA, reduceSub → nB, reduceMul → nC, reduceLT → nD, reduceLeDiff → nE, reduceEqDiff → nF, reduceMod → nG, reduceDiv → nH, reducePow → nI
abbrev zM20 : Option Tmp → Nat := mdL [(5, 2)]
abbrev zM21 : Option Tmp → Nat := mdL []
abbrev zM22 : Option Tmp → Nat := mdL [(4, 1)]
abbrev zM23 : Option Tmp → Nat := mdL [(11, 1)]
abbrev zM24 : Option Tmp → Nat := mdL [(5, 1)]
abbrev zM25 : Option Tmp → Nat := mdL [(2, 1), (6, 1)]
attribute [go_sem] zM20 zM21 zM22 zM23 zM24 zM25
abbrev zPAE : List Nat := [0, 1, 2, 3, 4, 5, 6, 7, 8, 10, 11, 12, 13, 15, 16, 20, 21, 23, 24]
abbrev zPAP : List (Nat × List Nat × List Nat) := [(9, [13], []), (14, [], []), (17, [], [18]), (19, [], []), (22, [], []), (25, [], [26, 27, 28]), (29, [], [30, 31]), (32, [], [33, 34]), (35, [], [])]
attribute [go_sem] zPAE zPAP
set_option maxRecDepth 100000
set_option maxHeartbeats 8000000
def encG : List ByteArray → AV
 | [] => .v (.slice none 0 0)
 | x :: l => .row 1 ((x :: l).map encS) none
def encGr (l : List ByteArray) : AV := .row 1 (l.map encS) none
theorem weakG (l : List ByteArray) : Weak (encG l) (encGr l) := by
 cases l with
 | nil => exact Weak.nil 1 0 0 ⟨rfl, rfl⟩
 | cons x l => exact Weak.refl _
def encRx (r : Rt) : List AV := [.v (.string r.1), encG r.2.1, .v (.int .i64 r.2.2.1), .v (.int .i64 r.2.2.2.1), .v (.bool r.2.2.2.2)]
def encRt (r : Rt) : List AV := [.v (.string r.1), encGr r.2.1, .v (.int .i64 r.2.2.1), .v (.int .i64 r.2.2.2.1), .v (.bool r.2.2.2.2)]
structure TgOk (l : List ByteArray) : Prop where
 len : l.length ≤ 3
 sz : ∀ s ∈ l, s.size ≤ 4
structure RtOk (r : Rt) : Prop where
 it : r.1.size ≤ 2
 tg : TgOk r.2.1
 fr : -1 ≤ r.2.2.1 ∧ r.2.2.1 ≤ 1000000000000
 en : -1 ≤ r.2.2.2.1 ∧ r.2.2.2.1 ≤ 1000000000000
structure Rt2 (r : Rt) : Prop extends RtOk r where
 two : r.2.1.length ≤ 2
def cityT : ByteArray := ⟨#[99, 105, 116, 121]⟩
def mallT : ByteArray := ⟨#[109, 97, 108, 108]⟩
theorem tg_ok {l : List ByteArray} (h : l ∈ [[], [], [cityT], [mallT], [cityT, mallT]]) : TgOk l ∧ l.length ≤ 2 := by
 simp only [List.mem_cons, List.not_mem_nil, or_false] at h
 rcases h with rfl | rfl | rfl | rfl | rfl <;> refine ⟨⟨by decide, ?_⟩, by decide⟩ <;> decide
theorem g_tags (i : Nat) (l : List Int) (a : Int) (h : Hp) (hl : SOk l) (ha : 0 ≤ a ∧ a ≤ 1000000) :
  ACalls Tryz.prog 61 [.ptr i 0] (h.st i l a) (fun r h' => ∃ t, t ∈ [[], [], [cityT], [mallT], [cityT, mallT]] ∧ r = encG t ∧ h' = h.st i l (a + 1)) := by
 refine gE Tryz.func61 rfl (by kernel_rfl) 10 rfl fun c => ?_
 (repeat (first | refine gO rfl ?_ | (refine gR fun K1 hK1 => ?_; simp only [go_sem, ↓reduceIte, reduceCtorEq, nA, nB, nC, nD, nE, nF] <;> and_intros <;> first | (apply hK1; clear hK1 K1) | (intros; first | omega | decide) | skip)))
 refine (g_next i l a 5 h hl (by omega) (by omega)).mono ?_; rintro _ _ ⟨x, hx, rfl, rfl⟩; apply hK1; clear hK1 K1
 have h5 : x = 0 ∨ x = 1 ∨ x = 2 ∨ x = 3 ∨ x = 4 := by omega
 clear hx
 rcases h5 with rfl | rfl | rfl | rfl | rfl
 all_goals
  (repeat (first | refine gO rfl ?_ | (refine gR fun K1 hK1 => ?_; simp only [go_sem, ↓reduceIte, reduceCtorEq, nA, nB, nC, nD, nE, nF] <;> and_intros <;> first | (apply hK1; clear hK1 K1) | (intros; first | omega | decide | (simp_all <;> omega)) | skip)))
  simp only [Tryz.results61, go_sem, ↓reduceIte, reduceCtorEq, nA, nB, nC, nD, nE, nF]
 ·exact ⟨rfl, _, _, Weak.refl _, Hp.le.refl _, [], by simp, rfl, rfl⟩
 ·exact ⟨rfl, _, _, Weak.refl _, Hp.le.refl _, [], by simp, rfl, rfl⟩
 ·exact ⟨rfl, _, _, Weak.refl _, Hp.le.refl _, [cityT], by simp, rfl, rfl⟩
 ·exact ⟨rfl, _, _, Weak.refl _, Hp.le.refl _, [mallT], by simp, rfl, rfl⟩
 ·exact ⟨rfl, _, _, Weak.refl _, Hp.le.refl _, [cityT, mallT], by simp, rfl, rfl⟩
theorem g_cloneG (t : List ByteArray) (h : Hp) (hb : t.length ≤ 1000) : ACalls Tryz.prog 63 [encG t] h (fun r h' => t = [] ∧ r = .v (.slice none 0 0) ∧ h' = h ∨ ∃ q, t ≠ [] ∧ h.T q = none ∧ r = .row 1 (t.map encS) (some q) ∧ h' = ⟨h.H, upd h.T q (some (.tail t.length))⟩) := by
 cases t with
 | nil =>
  show ACalls _ _ [.v (.slice none 0 0)] _ _
  refine gE Tryz.func63 rfl (by kernel_rfl) 7 rfl fun c => ?_
  (repeat (first | refine gO rfl ?_ | (refine gM zM20 fun K1 hK1 => ?_; simp only [go_sem, ↓reduceIte, reduceCtorEq, nA, nB, nC, nD, nE, nF] <;> and_intros <;> first | (apply hK1; clear hK1 K1) | (intros; first | omega | decide | (simp_all <;> omega)) | skip)))
  refine awp_cond (t := _) rfl (fun _ => ?_) (fun h1 => by cases h1)
  (repeat (first | refine gO rfl ?_ | (refine gM zM20 fun K1 hK1 => ?_; simp only [go_sem, ↓reduceIte, reduceCtorEq, nA, nB, nC, nD, nE, nF] <;> and_intros <;> first | (apply hK1; clear hK1 K1) | (intros; first | omega | decide | (simp_all <;> omega)) | skip)))
  simp only [Tryz.results63, go_sem, ↓reduceIte, reduceCtorEq, nA, nB, nC, nD, nE, nF]
  exact ⟨_, _, Weak.refl _, Hp.le.refl _, .inl ⟨rfl, rfl⟩⟩
 | cons x xs =>
  have hml : (xs.map encS).length = xs.length := List.length_map _
  simp only [List.length_cons] at hb
  show ACalls _ _ [.row 1 (encS x :: xs.map encS) none] _ _
  refine gE Tryz.func63 rfl (by kernel_rfl) 7 rfl fun c => ?_
  (repeat (first | refine gO rfl ?_ | (refine gM zM20 fun K1 hK1 => ?_; simp only [go_sem, ↓reduceIte, reduceCtorEq, nA, nB, nC, nD, nE, nF] <;> and_intros <;> first | (apply hK1; clear hK1 K1) | (intros; first | omega | decide | (simp_all <;> omega)) | skip)))
  refine awp_cond (t := _) rfl (fun h1 => by cases h1) (fun _ => ?_)
  (repeat (first | refine gO rfl ?_ | (refine gM zM20 fun K1 hK1 => ?_; simp only [go_sem, ↓reduceIte, reduceCtorEq, nA, nB, nC, nD, nE, nF, hml] <;> and_intros <;> first | (apply hK1; clear hK1 K1) | (intros; first | omega | decide | (simp_all <;> omega)) | skip)))
  intro q hq
  and_intros <;> first | (refine hK1 _ ?_; clear hK1 K1) | exact .inl trivial | exact .inr rfl | exact .inr True.intro | exact True.intro | omega
  (repeat (first | refine gO rfl ?_ | (refine gM zM20 fun K1 hK1 => ?_; simp only [go_sem, ↓reduceIte, reduceCtorEq, nA, nB, nC, nD, nE, nF, hml] <;> and_intros <;> first | (apply hK1; clear hK1 K1) | (intros; first | omega | decide | (simp_all <;> omega)) | skip)))
  simp only [Tryz.results63, go_sem, ↓reduceIte, reduceCtorEq, nA, nB, nC, nD, nE, nF]
  exact ⟨_, _, Weak.refl _, Hp.le.refl _, .inr ⟨q, hq, rfl, rfl⟩⟩
structure RowsW (rows : List (List AV)) (ws : List Rt) : Prop where
 len : rows.length = ws.length
 wl : ∀ i, i < ws.length → WL (rows.getD i []) (encRt (ws.getD i default))
theorem wl_rx (r : Rt) : WL (encRx r) (encRt r) := WL.cons (Weak.refl _) (WL.cons (weakG _) (WL.refl _))
theorem RowsW.rx (ws : List Rt) : RowsW (ws.map encRx) ws := ⟨by simp, fun i hi => by rw [getD_enc encRx ws i default hi]; exact wl_rx _⟩
theorem RowsW.set {rows : List (List AV)} {ws : List Rt} (h : RowsW rows ws) (q : Nat) {cs : List AV} {r : Rt} (hc : WL cs (encRt r)) : RowsW (rows.set q cs) (ws.set q r) := ⟨by simp [h.len], fun i hi => by
 rw [List.length_set] at hi
 have hi2 : i < rows.length := by rw [h.len]; exact hi
 by_cases e : i = q
 ·subst e
  rw [List.getD_eq_getElem?_getD, List.getD_eq_getElem?_getD, List.getElem?_set_self hi, List.getElem?_set_self hi2]; exact hc
 ·have := h.wl i hi
  rw [List.getD_eq_getElem?_getD, List.getD_eq_getElem?_getD] at this ⊢
  rw [List.getElem?_set_ne (by omega), List.getElem?_set_ne (by omega)]; exact this⟩
theorem RowsW.weak {rows : List (List AV)} {ws : List Rt} (h : RowsW rows ws) (k : Option Nat) : Weak (.row 5 rows k) (.row 5 (ws.map encRt) k) :=
 Weak.rowE (by rw [h.len, List.length_map]) (fun y hy => by obtain ⟨x, _, rfl⟩ := List.mem_map.1 hy; rfl) fun i hi => by
  rw [h.len] at hi
  rw [getD_enc encRt ws i default hi]; exact h.wl i hi
theorem RowsW.five {rows : List (List AV)} {ws : List Rt} (h : RowsW rows ws) : ∀ y ∈ rows, y.length = 5 := fun y hy => by
 obtain ⟨i, hi, rfl⟩ := List.mem_iff_getElem.1 hy
 have := (h.wl i (by rw [← h.len]; exact hi)).1
 rw [List.getD_eq_getElem?_getD, List.getElem?_eq_getElem hi] at this
 exact this
theorem g_rights (i : Nat) (l : List Int) (a : Int) (N : Nat) (h : Hp) (hl : SOk l) (ha : 0 ≤ a ∧ a ≤ 100000) (hN : N ≤ 6) :
  ACalls Tryz.prog 8 [.ptr i 0, .v (.int .i64 N)] (h.st i l a) (fun r h' => ∃ (rs : List Rt) (a' : Int), rs.length = N ∧ (∀ x ∈ rs, RtOk x) ∧ (a ≤ a' ∧ a' ≤ a + 50) ∧ r = .row 5 (rs.map encRt) none ∧ h' = h.st i l a') := by
 refine gE Tryz.func8 rfl (by kernel_rfl) 93 rfl fun c => ?_
 (repeat (first | refine gQ rfl ?_ | ((first | refine gR ?_ | (with_reducible refine wM ?_ ?_) | ((with_reducible refine xR ?_); refine uE 11 zM21 zPAE zPAP 95 rfl (by kernel_rfl) ?_)) <;> ((try with_reducible intro K1 hK1); simp only [go_sem, ↓reduceIte, reduceCtorEq, nA, nB, nC, nD, nE, nF] <;> and_intros <;> first | (apply hK1; clear hK1 K1) | (intros; first | omega | decide | (simp_all <;> omega)) | skip))))
 refine awp_seq ?_
 refine awp_ownA 5 5 rfl ⟨rfl, rfl⟩ (fun k hk => ?_)
 replace hk : h.T k = none := hk
 (repeat (first | refine gO rfl ?_ | ((first | refine gR ?_ | (with_reducible refine wM ?_ ?_) | ((with_reducible refine xR ?_); refine uE 11 zM21 zPAE zPAP 95 rfl (by kernel_rfl) ?_)) <;> ((try with_reducible intro K1 hK1); simp only [go_sem, ↓reduceIte, reduceCtorEq, nA, nB, nC, nD, nE, nF] <;> and_intros <;> first | (apply hK1; clear hK1 K1) | (intros; first | omega | decide) | skip))))
 refine awp_loopC (rl false [0, 1, 4, 1, 2, 2, 85]) 0 (fun g s => ∃ (j : Nat) (ws : List Rt) (a' : Int), g + j = N ∧ ws.length = j ∧ (∀ x ∈ ws, Rt2 x) ∧ (a ≤ a' ∧ a' ≤ a + 5 * j) ∧
  s = ⟨((.ptr i 0) :: (jnk 4 ((.arr 5 k j) :: AV.junk :: AV.junk :: ((.v (.int .i64 N)) :: (.v (.int .i64 j)) :: (jnk 85 []))))), [], (Hp.mk h.H (upd h.T k (some (.cont 5 (ws.map encRx))))).st i l a'⟩) N ⟨0, [], a, by omega, rfl, by simp, by omega, rfl⟩ ?_
 rintro g _ ⟨j, ws, a1, hj, hwl, hwo, ha1, rfl⟩
 have hTq : ∀ a2, ((Hp.mk h.H (upd h.T k (some (.cont 5 (ws.map encRx))))).st i l a2).T k = some (TO.cont 5 (ws.map encRx)) := fun a2 => upd_same _ _ _
 have hlw : (ws.map encRx).length = j := by simpa using hwl
 have htt : ∀ a2 X, (Hp.mk ((Hp.mk h.H (upd h.T k (some (.cont 5 (ws.map encRx))))).st i l a2).H (upd ((Hp.mk h.H (upd h.T k (some (.cont 5 (ws.map encRx))))).st i l a2).T k X)) = (Hp.mk h.H (upd h.T k X)).st i l a2 := fun a2 X => by simp only [Hp.st, upd_upd]
 (repeat (first | refine gO rfl ?_ | ((first | refine gR ?_ | (with_reducible refine wM ?_ ?_) | ((with_reducible refine xR ?_); refine uE 11 zM21 zPAE zPAP 95 rfl (by kernel_rfl) ?_)) <;> ((try with_reducible intro K1 hK1); simp only [go_sem, ↓reduceIte, reduceCtorEq, nA, nB, nC, nD, nE, nF] <;> and_intros <;> first | (apply hK1; clear hK1 K1) | (intros; first | omega | decide) | skip))))
 refine awp_cond (t := _) rfl (fun h1 => ?_) (fun h1 => ?_)
 ·simp only [decide_eq_true_eq] at h1
  have hjl : j < N := by omega
  (repeat (first | refine gO rfl ?_ | ((first | refine gR ?_ | (with_reducible refine wM ?_ ?_) | ((with_reducible refine xR ?_); refine uE 11 zM21 zPAE zPAP 95 rfl (by kernel_rfl) ?_)) <;> ((try with_reducible intro K1 hK1); simp only [go_sem, ↓reduceIte, reduceCtorEq, nA, nB, nC, nD, nE, nF, hTq, hlw] <;> and_intros <;> first | (apply hK1; clear hK1 K1) | (intros; first | omega | decide) | skip))))
  refine (g_pick i l a1 [0, 0, 10, 30, 50] none _ hl (by omega) (by simp)).mono ?_; rintro _ _ ⟨x, hx, rfl, rfl⟩; apply hK1; clear hK1 K1
  simp only [List.mem_cons, List.not_mem_nil, or_false] at hx
  (repeat (first | refine gO rfl ?_ | ((first | refine gR ?_ | (with_reducible refine wM ?_ ?_) | ((with_reducible refine xR ?_); refine uE 11 zM21 zPAE zPAP 95 rfl (by kernel_rfl) ?_)) <;> ((try with_reducible intro K1 hK1); simp only [go_sem, ↓reduceIte, reduceCtorEq, nA, nB, nC, nD, nE, nF, hTq, hlw] <;> and_intros <;> first | (apply hK1; clear hK1 K1) | (intros; first | omega | decide) | skip))))
  refine (g_some i l (a1 + 1) [⟨#[105, 97]⟩, ⟨#[105, 97]⟩, ⟨#[105, 98]⟩, ⟨#[105, 99]⟩] none _ hl (by omega) (by simp)).mono ?_; rintro _ _ ⟨q, hq, rfl, rfl⟩; apply hK1; clear hK1 K1
  have hqs : q.size ≤ 2 := by
   simp only [List.mem_cons, List.not_mem_nil, or_false] at hq
   rcases hq with rfl | rfl | rfl | rfl <;> decide
  (repeat (first | refine gO rfl ?_ | ((first | refine gR ?_ | (with_reducible refine wM ?_ ?_) | ((with_reducible refine xR ?_); refine uE 11 zM21 zPAE zPAP 95 rfl (by kernel_rfl) ?_)) <;> ((try with_reducible intro K1 hK1); simp only [go_sem, ↓reduceIte, reduceCtorEq, nA, nB, nC, nD, nE, nF, hTq, hlw] <;> and_intros <;> first | (apply hK1; clear hK1 K1) | (intros; first | omega | decide) | skip))))
  refine (g_tags i l (a1 + 1 + 1) _ hl (by omega)).mono ?_; rintro _ _ ⟨tg, htg, rfl, rfl⟩; apply hK1; clear hK1 K1
  have htk := tg_ok htg
  cases tg with
  | nil =>
   unfold encG
   (repeat (first | refine gO rfl ?_ | ((first | refine gR ?_ | (with_reducible refine wM ?_ ?_) | ((with_reducible refine xR ?_); refine uE 11 zM21 zPAE zPAP 95 rfl (by kernel_rfl) ?_)) <;> ((try with_reducible intro K1 hK1); simp only [go_sem, ↓reduceIte, reduceCtorEq, nA, nB, nC, nD, nE, nF, hTq, hlw] <;> and_intros <;> first | (apply hK1; clear hK1 K1) | (intros; first | omega | decide) | skip))))
   refine (g_pick i l (a1 + 1 + 1 + 1) [1, 10, 20, 60, 1000] none _ hl (by omega) (by simp)).mono ?_; rintro _ _ ⟨y, hy, rfl, rfl⟩; apply hK1; clear hK1 K1
   simp only [List.mem_cons, List.not_mem_nil, or_false] at hy
   (repeat (first | refine gO rfl ?_ | ((first | refine gR ?_ | (with_reducible refine wM ?_ ?_) | ((with_reducible refine xR ?_); refine uE 11 zM21 zPAE zPAP 95 rfl (by kernel_rfl) ?_)) <;> ((try with_reducible intro K1 hK1); simp only [go_sem, ↓reduceIte, reduceCtorEq, nA, nB, nC, nD, nE, nF, hTq, hlw] <;> and_intros <;> first | (apply hK1; clear hK1 K1) | (intros; first | omega | decide) | skip))))
   refine (g_flip i l (a1 + 1 + 1 + 1 + 1) 3 _ hl (by omega) (by omega)).mono ?_; rintro _ _ ⟨bb, rfl, rfl⟩; apply hK1; clear hK1 K1
   (repeat (first | refine gO rfl ?_ | ((first | refine gR ?_ | (with_reducible refine wM ?_ ?_) | ((with_reducible refine xR ?_); refine uE 11 zM21 zPAE zPAP 95 rfl (by kernel_rfl) ?_)) <;> ((try with_reducible intro K1 hK1); simp only [go_sem, ↓reduceIte, reduceCtorEq, nA, nB, nC, nD, nE, nF, hTq, hlw, htt] <;> and_intros <;> first | (apply hK1; clear hK1 K1) | (intros; first | omega | decide) | skip))))
   refine ⟨g - 1, by omega, j + 1, ws ++ [(q, [], x, x + y, bb)], a1 + 1 + 1 + 1 + 1 + 1, by omega, by simp [hwl], fun z hz => ?_, by omega, ?_⟩
   ·rcases List.mem_append.1 hz with h9 | h9
    ·exact hwo z h9
    ·rw [List.mem_singleton.1 h9]
     exact ⟨⟨hqs, htk.1, ⟨by show _ ≤ x; omega, by show x ≤ _; omega⟩, ⟨by show _ ≤ x + y; omega, by show x + y ≤ _; omega⟩⟩, htk.2⟩
   ·rw [List.map_append]; rfl
  | cons t0 tg =>
   unfold encG
   (repeat (first | refine gO rfl ?_ | ((first | refine gR ?_ | (with_reducible refine wM ?_ ?_) | ((with_reducible refine xR ?_); refine uE 11 zM21 zPAE zPAP 95 rfl (by kernel_rfl) ?_)) <;> ((try with_reducible intro K1 hK1); simp only [go_sem, ↓reduceIte, reduceCtorEq, nA, nB, nC, nD, nE, nF, hTq, hlw] <;> and_intros <;> first | (apply hK1; clear hK1 K1) | (intros; first | omega | decide) | skip))))
   refine (g_pick i l (a1 + 1 + 1 + 1) [1, 10, 20, 60, 1000] none _ hl (by omega) (by simp)).mono ?_; rintro _ _ ⟨y, hy, rfl, rfl⟩; apply hK1; clear hK1 K1
   simp only [List.mem_cons, List.not_mem_nil, or_false] at hy
   (repeat (first | refine gO rfl ?_ | ((first | refine gR ?_ | (with_reducible refine wM ?_ ?_) | ((with_reducible refine xR ?_); refine uE 11 zM21 zPAE zPAP 95 rfl (by kernel_rfl) ?_)) <;> ((try with_reducible intro K1 hK1); simp only [go_sem, ↓reduceIte, reduceCtorEq, nA, nB, nC, nD, nE, nF, hTq, hlw] <;> and_intros <;> first | (apply hK1; clear hK1 K1) | (intros; first | omega | decide) | skip))))
   refine (g_flip i l (a1 + 1 + 1 + 1 + 1) 3 _ hl (by omega) (by omega)).mono ?_; rintro _ _ ⟨bb, rfl, rfl⟩; apply hK1; clear hK1 K1
   (repeat (first | refine gO rfl ?_ | ((first | refine gR ?_ | (with_reducible refine wM ?_ ?_) | ((with_reducible refine xR ?_); refine uE 11 zM21 zPAE zPAP 95 rfl (by kernel_rfl) ?_)) <;> ((try with_reducible intro K1 hK1); simp only [go_sem, ↓reduceIte, reduceCtorEq, nA, nB, nC, nD, nE, nF, hTq, hlw, htt] <;> and_intros <;> first | (apply hK1; clear hK1 K1) | (intros; first | omega | decide) | skip))))
   refine ⟨g - 1, by omega, j + 1, ws ++ [(q, t0 :: tg, x, x + y, bb)], a1 + 1 + 1 + 1 + 1 + 1, by omega, by simp [hwl], fun z hz => ?_, by omega, ?_⟩
   ·rcases List.mem_append.1 hz with h9 | h9
    ·exact hwo z h9
    ·rw [List.mem_singleton.1 h9]
     exact ⟨⟨hqs, htk.1, ⟨by show _ ≤ x; omega, by show x ≤ _; omega⟩, ⟨by show _ ≤ x + y; omega, by show x + y ≤ _; omega⟩⟩, htk.2⟩
   ·rw [List.map_append]; rfl
 ·simp only [decide_eq_false_iff_not] at h1
  obtain rfl : j = N := by omega
  clear hj h1
  (repeat (first | refine gQ rfl ?_ | ((first | refine gR ?_ | (with_reducible refine wM ?_ ?_) | ((with_reducible refine xR ?_); refine uE 11 zM21 zPAE zPAP 95 rfl (by kernel_rfl) ?_)) <;> ((try with_reducible intro K1 hK1); simp only [go_sem, ↓reduceIte, reduceCtorEq, nA, nB, nC, nD, nE, nF] <;> and_intros <;> first | (apply hK1; clear hK1 K1) | (intros; first | omega | decide | (simp_all <;> omega)) | skip))))
  refine awp_seqJ (rl false [0, 1, 4, 1, 89]) 0 (fun s => ∃ (ws2 : List Rt) (a2 : Int), ws2.length = j ∧ (∀ x ∈ ws2, Rt2 x) ∧ (a ≤ a2 ∧ a2 ≤ a + 32) ∧
   s = ⟨((.ptr i 0) :: (jnk 4 ((.arr 5 k j) :: (jnk 89 [])))), [], (Hp.mk h.H (upd h.T k (some (.cont 5 (ws2.map encRx))))).st i l a2⟩) ?_ ?_
  ·by_cases hn0 : j ≤ 1
   ·have hd0 : decide ((1 : Int) < (j : Int)) = false := by simp only [decide_eq_false_iff_not]; omega
    (repeat (first | refine gO rfl ?_ | ((first | refine gR ?_ | (with_reducible refine wM ?_ ?_) | ((with_reducible refine xR ?_); refine uE 11 zM21 zPAE zPAP 95 rfl (by kernel_rfl) ?_)) <;> ((try with_reducible intro K1 hK1); simp only [go_sem, ↓reduceIte, reduceCtorEq, nA, nB, nC, nD, nE, nF, hd0] <;> and_intros <;> first | (apply hK1; clear hK1 K1) | (intros; first | omega | decide) | skip))))
    refine awp_cond (t := _) rfl (fun h9 => by cases h9) (fun _ => ?_)
    (repeat (first | refine gO rfl ?_ | ((first | refine gR ?_ | (with_reducible refine wM ?_ ?_) | ((with_reducible refine xR ?_); refine uE 11 zM21 zPAE zPAP 95 rfl (by kernel_rfl) ?_)) <;> ((try with_reducible intro K1 hK1); simp only [go_sem, ↓reduceIte, reduceCtorEq, nA, nB, nC, nD, nE, nF] <;> and_intros <;> first | (apply hK1; clear hK1 K1) | (intros; first | omega | decide) | skip))))
    exact ⟨ws, a1, hwl, hwo, by omega, rfl⟩
   ·have hd0 : decide ((1 : Int) < (j : Int)) = true := by simp only [decide_eq_true_eq]; omega
    (repeat (first | refine gO rfl ?_ | ((first | refine gR ?_ | (with_reducible refine wM ?_ ?_) | ((with_reducible refine xR ?_); refine uE 11 zM21 zPAE zPAP 95 rfl (by kernel_rfl) ?_)) <;> ((try with_reducible intro K1 hK1); simp only [go_sem, ↓reduceIte, reduceCtorEq, nA, nB, nC, nD, nE, nF, hd0] <;> and_intros <;> first | (apply hK1; clear hK1 K1) | (intros; first | omega | decide) | skip))))
    rotate_left
    ·exact fun h => h.elim
    refine (g_flip i l a1 4 _ hl (by omega) (by omega)).mono ?_
    rintro _ _ ⟨bb, rfl, rfl⟩
    refine ⟨rfl, hK1 _ ?_⟩; clear hK1 K1
    (repeat (first | refine gO rfl ?_ | ((first | refine gR ?_ | (with_reducible refine wM ?_ ?_) | ((with_reducible refine xR ?_); refine uE 11 zM21 zPAE zPAP 95 rfl (by kernel_rfl) ?_)) <;> ((try with_reducible intro K1 hK1); simp only [go_sem, ↓reduceIte, reduceCtorEq, nA, nB, nC, nD, nE, nF, hd0] <;> and_intros <;> first | (apply hK1; clear hK1 K1) | (intros; first | omega | decide) | skip))))
    cases bb with
    | false =>
     refine awp_cond (t := _) rfl (fun h9 => by cases h9) (fun _ => ?_)
     (repeat (first | refine gO rfl ?_ | ((first | refine gR ?_ | (with_reducible refine wM ?_ ?_) | ((with_reducible refine xR ?_); refine uE 11 zM21 zPAE zPAP 95 rfl (by kernel_rfl) ?_)) <;> ((try with_reducible intro K1 hK1); simp only [go_sem, ↓reduceIte, reduceCtorEq, nA, nB, nC, nD, nE, nF] <;> and_intros <;> first | (apply hK1; clear hK1 K1) | (intros; first | omega | decide) | skip))))
     exact ⟨ws, a1 + 1, hwl, hwo, by omega, rfl⟩
    | true =>
     refine awp_cond (t := _) rfl (fun _ => ?_) (fun h9 => by cases h9)
     have tn1 : ((j : Int) - 1).toNat = j - 1 := by omega
     have hd5 : List.drop 5 ((ws.map encRx).getD (Int.toNat 0) []) = [] := by
      rw [show (ws.map encRx).getD (Int.toNat 0) [] = encRx (ws.getD 0 default) from getD_enc encRx ws 0 default (by omega)]; rfl
     have hqn : (j - 1) < ws.length := by omega
     have hqm : (j - 1) < (ws.map encRx).length := by simpa using hqn
     have gq : (ws.map encRx).getD (j - 1) [] = encRx (ws.getD (j - 1) default) := getD_enc encRx ws (j - 1) default hqn
     have hwq := hwo _ (show ws.getD (j - 1) default ∈ ws by rw [List.getD_eq_getElem?_getD, List.getElem?_eq_getElem hqn]; exact List.getElem_mem hqn)
     obtain ⟨⟨zi, zt, zf, zo, zb⟩, hz⟩ : ∃ z, ws.getD (j - 1) default = z := ⟨_, rfl⟩
     rw [hz] at gq hwq
     cases zt with
     | nil =>
      have hge : (encRx (zi, [], zf, zo, zb)) = [.v (.string zi), encG [], .v (.int .i64 zf), .v (.int .i64 zo), .v (.bool zb)] := rfl
      rw [hge] at gq
      unfold encG at gq
      (repeat (first | refine gO rfl ?_ | ((first | refine gR ?_ | (with_reducible refine wM ?_ ?_) | ((with_reducible refine xR ?_); refine uE 11 zM21 zPAE zPAP 95 rfl (by kernel_rfl) ?_)) <;> ((try with_reducible intro K1 hK1); simp only [go_sem, ↓reduceIte, reduceCtorEq, nA, nB, nC, nD, nE, nF, Int.toNat_natCast, hTq, hlw, gq, tn1, hd5, htt] <;> and_intros <;> first | (apply hK1; clear hK1 K1) | (intros; first | omega | decide) | skip))))
      refine ⟨ws.set 0 (zi, [], zf, zo, zb), a1 + 1, by rw [List.length_set, hwl], fun u hu => ?_, by omega, ?_⟩
      ·rcases List.mem_or_eq_of_mem_set hu with h9 | rfl
       ·exact hwo u h9
       ·exact hwq
      ·rw [show (ws.set 0 (zi, [], zf, zo, zb)).map encRx = (ws.map encRx).set 0 (encRx (zi, [], zf, zo, zb)) from List.map_set]; rfl
     | cons z0 zt =>
      have hge : (encRx (zi, (z0 :: zt), zf, zo, zb)) = [.v (.string zi), encG (z0 :: zt), .v (.int .i64 zf), .v (.int .i64 zo), .v (.bool zb)] := rfl
      rw [hge] at gq
      unfold encG at gq
      (repeat (first | refine gO rfl ?_ | ((first | refine gR ?_ | (with_reducible refine wM ?_ ?_) | ((with_reducible refine xR ?_); refine uE 11 zM21 zPAE zPAP 95 rfl (by kernel_rfl) ?_)) <;> ((try with_reducible intro K1 hK1); simp only [go_sem, ↓reduceIte, reduceCtorEq, nA, nB, nC, nD, nE, nF, Int.toNat_natCast, hTq, hlw, gq, tn1, hd5, htt] <;> and_intros <;> first | (apply hK1; clear hK1 K1) | (intros; first | omega | decide) | skip))))
      refine ⟨ws.set 0 (zi, (z0 :: zt), zf, zo, zb), a1 + 1, by rw [List.length_set, hwl], fun u hu => ?_, by omega, ?_⟩
      ·rcases List.mem_or_eq_of_mem_set hu with h9 | rfl
       ·exact hwo u h9
       ·exact hwq
      ·rw [show (ws.set 0 (zi, (z0 :: zt), zf, zo, zb)).map encRx = (ws.map encRx).set 0 (encRx (zi, (z0 :: zt), zf, zo, zb)) from List.map_set]; rfl
  rintro _ ⟨ws, a1, hwl, hwo, ha1, rfl⟩
  have hTq : ∀ a2, ((Hp.mk h.H (upd h.T k (some (.cont 5 (ws.map encRx))))).st i l a2).T k = some (TO.cont 5 (ws.map encRx)) := fun a2 => upd_same _ _ _
  have hlw : (ws.map encRx).length = j := by simpa using hwl
  have hTk : ∀ X t, h.T t = none ∨ upd h.T k X t = h.T t := fun X t => by
   by_cases e : t = k
   ·subst e; exact .inl hk
   ·exact .inr (upd_other _ _ e)
  have htt : ∀ a2 X, (Hp.mk ((Hp.mk h.H (upd h.T k (some (.cont 5 (ws.map encRx))))).st i l a2).H (upd ((Hp.mk h.H (upd h.T k (some (.cont 5 (ws.map encRx))))).st i l a2).T k X)) = (Hp.mk h.H (upd h.T k X)).st i l a2 := fun a2 X => by simp only [Hp.st, upd_upd]
  refine awp_seqJ (rl false [5, 1, 89]) 0 (fun s => ∃ (rows : List (List AV)) (ws2 : List Rt) (a2 : Int) (T' : Nat → Option TO), RowsW rows ws2 ∧ ws2.length = j ∧ (∀ x ∈ ws2, RtOk x) ∧ (a ≤ a2 ∧ a2 ≤ a + 50) ∧ (∀ t, h.T t = none ∨ T' t = h.T t) ∧ T' k = some (.cont 5 rows) ∧
   s = ⟨((jnk 5 ((.arr 5 k j) :: (jnk 89 [])))), [], ⟨(h.st i l a2).H, T'⟩⟩) ?_ ?_
  ·by_cases hn0 : j = 0
   ·have hd0 : decide ((0 : Int) < (j : Int)) = false := by simp only [decide_eq_false_iff_not]; omega
    (repeat (first | refine gO rfl ?_ | ((first | refine gR ?_ | (with_reducible refine wM ?_ ?_) | ((with_reducible refine xR ?_); refine uE 11 zM21 zPAE zPAP 95 rfl (by kernel_rfl) ?_)) <;> ((try with_reducible intro K1 hK1); simp only [go_sem, ↓reduceIte, reduceCtorEq, nA, nB, nC, nD, nE, nF, hd0] <;> and_intros <;> first | (apply hK1; clear hK1 K1) | (intros; first | omega | decide) | skip))))
    refine awp_cond (t := _) rfl (fun h9 => by cases h9) (fun _ => ?_)
    (repeat (first | refine gO rfl ?_ | ((first | refine gR ?_ | (with_reducible refine wM ?_ ?_) | ((with_reducible refine xR ?_); refine uE 11 zM21 zPAE zPAP 95 rfl (by kernel_rfl) ?_)) <;> ((try with_reducible intro K1 hK1); simp only [go_sem, ↓reduceIte, reduceCtorEq, nA, nB, nC, nD, nE, nF] <;> and_intros <;> first | (apply hK1; clear hK1 K1) | (intros; first | omega | decide) | skip))))
    exact ⟨ws.map encRx, ws, a1, _, RowsW.rx ws, hwl, fun x hx => (hwo x hx).toRtOk, by omega, hTk _, upd_same _ _ _, rfl⟩
   ·have hd0 : decide ((0 : Int) < (j : Int)) = true := by simp only [decide_eq_true_eq]; omega
    (repeat (first | refine gO rfl ?_ | ((first | refine gR ?_ | (with_reducible refine wM ?_ ?_) | ((with_reducible refine xR ?_); refine uE 11 zM21 zPAE zPAP 95 rfl (by kernel_rfl) ?_)) <;> ((try with_reducible intro K1 hK1); simp only [go_sem, ↓reduceIte, reduceCtorEq, nA, nB, nC, nD, nE, nF, hd0] <;> and_intros <;> first | (apply hK1; clear hK1 K1) | (intros; first | omega | decide) | skip))))
    rotate_left
    ·exact fun h => h.elim
    refine (g_flip i l a1 15 _ hl (by omega) (by omega)).mono ?_
    rintro _ _ ⟨bb, rfl, rfl⟩
    refine ⟨rfl, hK1 _ ?_⟩; clear hK1 K1
    (repeat (first | refine gO rfl ?_ | ((first | refine gR ?_ | (with_reducible refine wM ?_ ?_) | ((with_reducible refine xR ?_); refine uE 11 zM21 zPAE zPAP 95 rfl (by kernel_rfl) ?_)) <;> ((try with_reducible intro K1 hK1); simp only [go_sem, ↓reduceIte, reduceCtorEq, nA, nB, nC, nD, nE, nF, hd0] <;> and_intros <;> first | (apply hK1; clear hK1 K1) | (intros; first | omega | decide) | skip))))
    cases bb with
    | false =>
     refine awp_cond (t := _) rfl (fun h9 => by cases h9) (fun _ => ?_)
     (repeat (first | refine gO rfl ?_ | ((first | refine gR ?_ | (with_reducible refine wM ?_ ?_) | ((with_reducible refine xR ?_); refine uE 11 zM21 zPAE zPAP 95 rfl (by kernel_rfl) ?_)) <;> ((try with_reducible intro K1 hK1); simp only [go_sem, ↓reduceIte, reduceCtorEq, nA, nB, nC, nD, nE, nF] <;> and_intros <;> first | (apply hK1; clear hK1 K1) | (intros; first | omega | decide) | skip))))
     exact ⟨ws.map encRx, ws, a1 + 1, _, RowsW.rx ws, hwl, fun x hx => (hwo x hx).toRtOk, by omega, hTk _, upd_same _ _ _, rfl⟩
    | true =>
     refine awp_cond (t := _) rfl (fun _ => ?_) (fun h9 => by cases h9)
     (repeat (first | refine gO rfl ?_ | ((first | refine gR ?_ | (with_reducible refine wM ?_ ?_) | ((with_reducible refine xR ?_); refine uE 11 zM21 zPAE zPAP 95 rfl (by kernel_rfl) ?_)) <;> ((try with_reducible intro K1 hK1); simp only [go_sem, ↓reduceIte, reduceCtorEq, nA, nB, nC, nD, nE, nF] <;> and_intros <;> first | (apply hK1; clear hK1 K1) | (intros; first | omega | decide) | skip))))
     refine (g_next i l (a1 + 1) j _ hl (by omega) (by omega)).mono ?_; rintro _ _ ⟨x, hx, rfl, rfl⟩; apply hK1; clear hK1 K1
     obtain ⟨q, rfl⟩ : ∃ q : Nat, x = q := ⟨x.toNat, by omega⟩
     have hqn : q < ws.length := by omega
     have hqm : q < (ws.map encRx).length := by simpa using hqn
     have gq : (ws.map encRx).getD q [] = encRx (ws.getD q default) := getD_enc encRx ws q default hqn
     have hwq := hwo _ (show ws.getD q default ∈ ws by rw [List.getD_eq_getElem?_getD, List.getElem?_eq_getElem hqn]; exact List.getElem_mem hqn)
     have hgs : ∀ A, ((ws.map encRx).set q A).getD q [] = A := fun A => by rw [List.getD_eq_getElem?_getD, List.getElem?_set_self hqm]; rfl
     have hss : ∀ A B, ((ws.map encRx).set q A).set q B = (ws.map encRx).set q B := fun A B => List.set_set _
     have hsl : ∀ A, ((ws.map encRx).set q A).length = j := fun A => by rw [List.length_set, List.length_map, hwl]
     have hqq : q < j := by omega
     obtain ⟨⟨zi, zt, zf, zo, zb⟩, hz⟩ : ∃ z, ws.getD q default = z := ⟨_, rfl⟩
     rw [hz] at gq hwq
     have hge : (encRx (zi, zt, zf, zo, zb)) = [.v (.string zi), encG zt, .v (.int .i64 zf), .v (.int .i64 zo), .v (.bool zb)] := rfl
     have hcl := fun h => g_cloneG zt h (by have := hwq.tg.len; simp only at this; omega)
     rw [hge] at gq
     cases zt with
     | nil =>
      unfold encG at gq hcl
      (repeat (first | refine gO rfl ?_ | ((first | refine gR ?_ | (with_reducible refine wM ?_ ?_) | ((with_reducible refine xR ?_); refine uE 11 zM21 zPAE zPAP 95 rfl (by kernel_rfl) ?_)) <;> ((try with_reducible intro K1 hK1); simp only [go_sem, ↓reduceIte, reduceCtorEq, nA, nB, nC, nD, nE, nF, Int.toNat_natCast, hTq, hlw, gq, hqq] <;> and_intros <;> first | (apply hK1; clear hK1 K1) | (intros; first | omega | decide) | skip))))
      refine (g_some i l (a1 + 1 + 1) [zi, ⟨#[]⟩] none _ hl (by omega) (by simp)).mono ?_; rintro _ _ ⟨y1, hy1, rfl, rfl⟩; apply hK1; clear hK1 K1
      (repeat (first | refine gO rfl ?_ | ((first | refine gR ?_ | (with_reducible refine wM ?_ ?_) | ((with_reducible refine xR ?_); refine uE 11 zM21 zPAE zPAP 95 rfl (by kernel_rfl) ?_)) <;> ((try with_reducible intro K1 hK1); simp only [go_sem, ↓reduceIte, reduceCtorEq, nA, nB, nC, nD, nE, nF, Int.toNat_natCast, hTq, hlw, gq, hqq] <;> and_intros <;> first | (apply hK1; clear hK1 K1) | (intros; first | omega | decide) | skip))))
      all_goals try with_reducible rfl
      (repeat (first | refine gO rfl ?_ | ((first | refine gR ?_ | (with_reducible refine wM ?_ ?_) | ((with_reducible refine xR ?_); refine uE 11 zM21 zPAE zPAP 95 rfl (by kernel_rfl) ?_)) <;> ((try with_reducible intro K1 hK1); simp only [go_sem, ↓reduceIte, reduceCtorEq, nA, nB, nC, nD, nE, nF, Int.toNat_natCast, hTq, hlw, gq, hqq] <;> and_intros <;> first | (apply hK1; clear hK1 K1) | (intros; first | omega | decide) | skip))))
      all_goals try with_reducible rfl
      (repeat (first | refine gO rfl ?_ | ((first | refine gR ?_ | (with_reducible refine wM ?_ ?_) | ((with_reducible refine xR ?_); refine uE 11 zM21 zPAE zPAP 95 rfl (by kernel_rfl) ?_)) <;> ((try with_reducible intro K1 hK1); simp only [go_sem, ↓reduceIte, reduceCtorEq, nA, nB, nC, nD, nE, nF, Int.toNat_natCast, hTq, hlw, gq, hqq] <;> and_intros <;> first | (apply hK1; clear hK1 K1) | (intros; first | omega | decide) | skip))))
      all_goals try with_reducible rfl
      (repeat (first | refine gO rfl ?_ | ((first | refine gR ?_ | (with_reducible refine wM ?_ ?_) | ((with_reducible refine xR ?_); refine uE 11 zM21 zPAE zPAP 95 rfl (by kernel_rfl) ?_)) <;> ((try with_reducible intro K1 hK1); simp only [go_sem, ↓reduceIte, reduceCtorEq, nA, nB, nC, nD, nE, nF, Int.toNat_natCast, hTq, hlw, gq, hqq] <;> and_intros <;> first | (apply hK1; clear hK1 K1) | (intros; first | omega | decide) | skip))))
      refine (hcl _).mono ?_
      rintro _ _ (⟨_, rfl, rfl⟩ | ⟨q2, hne, _⟩)
      rotate_left
      ·exact absurd rfl hne
      refine hK1 _ ?_; clear hK1 K1
      (repeat (first | refine gO rfl ?_ | ((first | refine gR ?_ | (with_reducible refine wM ?_ ?_) | ((with_reducible refine xR ?_); refine uE 11 zM21 zPAE zPAP 95 rfl (by kernel_rfl) ?_)) <;> ((try with_reducible intro K1 hK1); simp only [go_sem, ↓reduceIte, reduceCtorEq, nA, nB, nC, nD, nE, nF, Int.toNat_natCast, hTq, hlw, gq, hqq] <;> and_intros <;> first | (apply hK1; clear hK1 K1) | (intros; first | omega | decide) | skip))))
      refine (g_some i l (a1 + 1 + 1 + 1) [cityT, ⟨#[65]⟩] none _ hl (by omega) (by simp)).mono ?_; rintro _ _ ⟨y2, hy2, rfl, rfl⟩; apply hK1; clear hK1 K1
      (repeat (first | refine gO rfl ?_ | ((first | refine gR ?_ | (with_reducible refine wM ?_ ?_) | ((with_reducible refine xR ?_); refine uE 11 zM21 zPAE zPAP 95 rfl (by kernel_rfl) ?_)) <;> ((try with_reducible intro K1 hK1); simp only [go_sem, ↓reduceIte, reduceCtorEq, nA, nB, nC, nD, nE, nF, Int.toNat_natCast, hTq, hlw, gq, hqq] <;> and_intros <;> first | (apply hK1; clear hK1 K1) | (intros; first | omega | decide) | skip))))
      intro q2 hq2
      replace hq2 : upd h.T k (some (.cont 5 (ws.map encRx))) q2 = none := hq2
      have hkq : k ≠ q2 := by rintro rfl; rw [upd_same] at hq2; cases hq2
      have hq3 : h.T q2 = none := (upd_other _ _ (Ne.symm hkq)).symm.trans hq2
      obtain ⟨Tz, hTz⟩ : ∃ Tz, upd (upd h.T k (some (.cont 5 (ws.map encRx)))) q2 (some (.tail 1)) = Tz := ⟨_, rfl⟩
      have hTzk : Tz k = some (.cont 5 (ws.map encRx)) := by rw [← hTz, upd_other _ _ hkq, upd_same]
      have hTzo : ∀ X t, h.T t = none ∨ upd Tz k X t = h.T t := fun X t => by
       by_cases e : t = k
       ·subst e; exact .inl hk
       ·by_cases e2 : t = q2
        ·subst e2; exact .inl hq3
        ·exact .inr (by rw [← hTz, upd_other _ _ e, upd_other _ _ e2, upd_other _ _ e])
      have heq : (⟨((Hp.mk h.H (upd h.T k (some (.cont 5 (ws.map encRx))))).st i l (a1 + 1 + 1 + 1 + 1)).H, upd ((Hp.mk h.H (upd h.T k (some (.cont 5 (ws.map encRx))))).st i l (a1 + 1 + 1 + 1 + 1)).T q2 (some (.tail 1))⟩ : Hp) = (Hp.mk h.H Tz).st i l (a1 + 1 + 1 + 1 + 1) := by rw [← hTz]; rfl
      rw [heq]
      refine hK1 _ ?_; clear hK1 K1
      clear hTq htt
      have hTz1 : ∀ a2, ((Hp.mk h.H Tz).st i l a2).T k = some (TO.cont 5 (ws.map encRx)) := fun _ => hTzk
      have hTs : ∀ A a2, ((Hp.mk h.H (upd Tz k (some (.cont 5 ((ws.map encRx).set q A))))).st i l a2).T k = some (TO.cont 5 ((ws.map encRx).set q A)) := fun A a2 => upd_same _ _ _
      have htz : ∀ a2 X, (Hp.mk ((Hp.mk h.H Tz).st i l a2).H (upd ((Hp.mk h.H Tz).st i l a2).T k X)) = (Hp.mk h.H (upd Tz k X)).st i l a2 := fun a2 X => rfl
      have htz2 : ∀ A a2 X, (Hp.mk ((Hp.mk h.H (upd Tz k (some (.cont 5 ((ws.map encRx).set q A))))).st i l a2).H (upd ((Hp.mk h.H (upd Tz k (some (.cont 5 ((ws.map encRx).set q A))))).st i l a2).T k X)) = (Hp.mk h.H (upd Tz k X)).st i l a2 := fun A a2 X => by simp only [Hp.st, upd_upd]
      (repeat (first | refine gO rfl ?_ | ((first | refine gR ?_ | (with_reducible refine wM ?_ ?_) | ((with_reducible refine xR ?_); refine uE 11 zM21 zPAE zPAP 95 rfl (by kernel_rfl) ?_)) <;> ((try with_reducible intro K1 hK1); simp only [go_sem, ↓reduceIte, reduceCtorEq, nA, nB, nC, nD, nE, nF, Int.toNat_natCast, hTz1, hlw, gq, hqq] <;> and_intros <;> first | (apply hK1; clear hK1 K1) | (intros; first | omega | decide) | skip))))
      refine (g_pick i l (a1 + 1 + 1 + 1 + 1) [0, -1, 5] none ⟨h.H, Tz⟩ hl (by omega) (by simp)).mono ?_; rintro _ _ ⟨y3, hy3, rfl, rfl⟩; apply hK1; clear hK1 K1
      (repeat (first | refine gO rfl ?_ | ((first | refine gR ?_ | (with_reducible refine wM ?_ ?_) | ((with_reducible refine xR ?_); refine uE 11 zM21 zPAE zPAP 95 rfl (by kernel_rfl) ?_)) <;> ((try with_reducible intro K1 hK1); simp only [go_sem, ↓reduceIte, reduceCtorEq, nA, nB, nC, nD, nE, nF, Int.toNat_natCast, hTz1, hlw, gq, hqq] <;> and_intros <;> first | (apply hK1; clear hK1 K1) | (intros; first | omega | decide) | skip))))
      refine (g_pick i l (a1 + 1 + 1 + 1 + 1 + 1) [5, 50, 345686400001] none ⟨h.H, Tz⟩ hl (by omega) (by simp)).mono ?_; rintro _ _ ⟨y4, hy4, rfl, rfl⟩; apply hK1; clear hK1 K1
      (repeat (first | refine gO rfl ?_ | ((first | refine gR ?_ | (with_reducible refine wM ?_ ?_) | ((with_reducible refine xR ?_); refine uE 11 zM21 zPAE zPAP 95 rfl (by kernel_rfl) ?_)) <;> ((try with_reducible intro K1 hK1); simp only [go_sem, ↓reduceIte, reduceCtorEq, nA, nB, nC, nD, nE, nF, Int.toNat_natCast, hTz1, hlw, gq, hqq, hgs, hss, hsl, hTs, htz, htz2] <;> and_intros <;> first | (apply hK1; clear hK1 K1) | (intros; first | omega | decide) | skip))))
      refine ⟨_, ws.set q (y1, [y2], y3, y4, zb), _, _, (RowsW.rx ws).set q (r := (y1, [y2], y3, y4, zb)) (WL.cons (Weak.refl _) (WL.cons (Weak.row _ _ _) (WL.refl _))), by rw [List.length_set, hwl], fun u hu => ?_, ?_, hTzo _, upd_same _ _ _, rfl⟩
      ·rcases List.mem_or_eq_of_mem_set hu with h9 | rfl
       ·exact (hwo u h9).toRtOk
       ·obtain ⟨⟨w1, ⟨w2, w5⟩, w3, w4⟩, w6⟩ := hwq
        simp only [List.mem_cons, List.not_mem_nil, or_false] at hy1 hy2 hy3 hy4
        refine ⟨?_, ⟨?_, ?_⟩, by show _ ≤ y3 ∧ y3 ≤ _; omega, by show _ ≤ y4 ∧ y4 ≤ _; omega⟩
        ·rcases hy1 with rfl | rfl
         ·exact w1
         ·show (⟨#[]⟩ : ByteArray).size ≤ 2; decide
        ·show 1 ≤ 3; omega
        ·intro s hs
         have hy2s : y2.size ≤ 4 := by rcases hy2 with rfl | rfl <;> decide
         rw [List.mem_singleton.1 hs]; exact hy2s
      ·omega
     | cons z0 zt =>
      unfold encG at gq hcl
      (repeat (first | refine gO rfl ?_ | ((first | refine gR ?_ | (with_reducible refine wM ?_ ?_) | ((with_reducible refine xR ?_); refine uE 11 zM21 zPAE zPAP 95 rfl (by kernel_rfl) ?_)) <;> ((try with_reducible intro K1 hK1); simp only [go_sem, ↓reduceIte, reduceCtorEq, nA, nB, nC, nD, nE, nF, Int.toNat_natCast, hTq, hlw, gq, hqq] <;> and_intros <;> first | (apply hK1; clear hK1 K1) | (intros; first | omega | decide) | skip))))
      refine (g_some i l (a1 + 1 + 1) [zi, ⟨#[]⟩] none _ hl (by omega) (by simp)).mono ?_; rintro _ _ ⟨y1, hy1, rfl, rfl⟩; apply hK1; clear hK1 K1
      (repeat (first | refine gO rfl ?_ | ((first | refine gR ?_ | (with_reducible refine wM ?_ ?_) | ((with_reducible refine xR ?_); refine uE 11 zM21 zPAE zPAP 95 rfl (by kernel_rfl) ?_)) <;> ((try with_reducible intro K1 hK1); simp only [go_sem, ↓reduceIte, reduceCtorEq, nA, nB, nC, nD, nE, nF, Int.toNat_natCast, hTq, hlw, gq, hqq] <;> and_intros <;> first | (apply hK1; clear hK1 K1) | (intros; first | omega | decide) | skip))))
      all_goals try with_reducible rfl
      (repeat (first | refine gO rfl ?_ | ((first | refine gR ?_ | (with_reducible refine wM ?_ ?_) | ((with_reducible refine xR ?_); refine uE 11 zM21 zPAE zPAP 95 rfl (by kernel_rfl) ?_)) <;> ((try with_reducible intro K1 hK1); simp only [go_sem, ↓reduceIte, reduceCtorEq, nA, nB, nC, nD, nE, nF, Int.toNat_natCast, hTq, hlw, gq, hqq] <;> and_intros <;> first | (apply hK1; clear hK1 K1) | (intros; first | omega | decide) | skip))))
      all_goals try with_reducible rfl
      (repeat (first | refine gO rfl ?_ | ((first | refine gR ?_ | (with_reducible refine wM ?_ ?_) | ((with_reducible refine xR ?_); refine uE 11 zM21 zPAE zPAP 95 rfl (by kernel_rfl) ?_)) <;> ((try with_reducible intro K1 hK1); simp only [go_sem, ↓reduceIte, reduceCtorEq, nA, nB, nC, nD, nE, nF, Int.toNat_natCast, hTq, hlw, gq, hqq] <;> and_intros <;> first | (apply hK1; clear hK1 K1) | (intros; first | omega | decide) | skip))))
      all_goals try with_reducible rfl
      (repeat (first | refine gO rfl ?_ | ((first | refine gR ?_ | (with_reducible refine wM ?_ ?_) | ((with_reducible refine xR ?_); refine uE 11 zM21 zPAE zPAP 95 rfl (by kernel_rfl) ?_)) <;> ((try with_reducible intro K1 hK1); simp only [go_sem, ↓reduceIte, reduceCtorEq, nA, nB, nC, nD, nE, nF, Int.toNat_natCast, hTq, hlw, gq, hqq] <;> and_intros <;> first | (apply hK1; clear hK1 K1) | (intros; first | omega | decide) | skip))))
      refine (hcl _).mono ?_
      rintro _ _ (⟨hne, _⟩ | ⟨q2, _, hq2, rfl, rfl⟩)
      ·exact absurd hne (by simp)
      refine hK1 _ ?_; clear hK1 K1
      (repeat (first | refine gO rfl ?_ | ((first | refine gR ?_ | (with_reducible refine wM ?_ ?_) | ((with_reducible refine xR ?_); refine uE 11 zM21 zPAE zPAP 95 rfl (by kernel_rfl) ?_)) <;> ((try with_reducible intro K1 hK1); simp only [go_sem, ↓reduceIte, reduceCtorEq, nA, nB, nC, nD, nE, nF, Int.toNat_natCast, hTq, hlw, gq, hqq] <;> and_intros <;> first | (apply hK1; clear hK1 K1) | (intros; first | omega | decide) | skip))))
      have hkq : k ≠ q2 := by rintro rfl; have h9 : upd h.T k (some (TO.cont 5 (ws.map encRx))) k = none := hq2; rw [upd_same] at h9; cases h9
      have hq3 : h.T q2 = none := (upd_other _ _ (Ne.symm hkq)).symm.trans hq2
      have hmz : (encS z0 :: zt.map encS).length = zt.length + 1 := by simp
      have hzl : zt.length ≤ 1 := by have := hwq.two; simp only [List.length_cons] at this; omega
      have hT2 : ∀ a2, ((Hp.mk h.H (upd (upd h.T k (some (.cont 5 (ws.map encRx)))) q2 (some (.tail (zt.length + 1))))).st i l a2).T q2 = some (.tail (zt.length + 1)) := fun _ => upd_same _ _ _
      refine (g_some i l (a1 + 1 + 1 + 1) [cityT, ⟨#[65]⟩] none ⟨h.H, upd (upd h.T k (some (.cont 5 (ws.map encRx)))) q2 (some (.tail (z0 :: zt).length))⟩ hl (by omega) (by simp)).mono ?_; rintro _ _ ⟨y2, hy2, rfl, rfl⟩; apply hK1; clear hK1 K1
      (repeat (first | refine gO rfl ?_ | ((first | refine gR ?_ | (with_reducible refine wM ?_ ?_) | ((with_reducible refine xR ?_); refine uE 11 zM21 zPAE zPAP 95 rfl (by kernel_rfl) ?_)) <;> ((try with_reducible intro K1 hK1); simp only [go_sem, ↓reduceIte, reduceCtorEq, nA, nB, nC, nD, nE, nF, Int.toNat_natCast, hTq, hlw, gq, hqq, hT2, hmz, List.length_map, List.length_cons, List.length_nil] <;> and_intros <;> first | (apply hK1; clear hK1 K1) | (intros; first | omega | decide) | skip))))
      obtain ⟨Tz, hTz⟩ : ∃ Tz, upd (upd h.T k (some (.cont 5 (ws.map encRx)))) q2 (some (.tail (zt.length + 1 + 1))) = Tz := ⟨_, rfl⟩
      have hTzk : Tz k = some (.cont 5 (ws.map encRx)) := by rw [← hTz, upd_other _ _ hkq, upd_same]
      have hTzo : ∀ X t, h.T t = none ∨ upd Tz k X t = h.T t := fun X t => by
       by_cases e : t = k
       ·subst e; exact .inl hk
       ·by_cases e2 : t = q2
        ·subst e2; exact .inl hq3
        ·exact .inr (by rw [← hTz, upd_other _ _ e, upd_other _ _ e2, upd_other _ _ e])
      have heq : (⟨((Hp.mk h.H (upd (upd h.T k (some (.cont 5 (ws.map encRx)))) q2 (some (.tail (zt.length + 1))))).st i l (a1 + 1 + 1 + 1 + 1)).H, upd ((Hp.mk h.H (upd (upd h.T k (some (.cont 5 (ws.map encRx)))) q2 (some (.tail (zt.length + 1))))).st i l (a1 + 1 + 1 + 1 + 1)).T q2 (some (.tail (zt.length + 1 + 1)))⟩ : Hp) = (Hp.mk h.H Tz).st i l (a1 + 1 + 1 + 1 + 1) := by rw [← hTz]; simp only [Hp.st, upd_upd]
      rw [heq]
      clear hTq htt
      have hTz1 : ∀ a2, ((Hp.mk h.H Tz).st i l a2).T k = some (TO.cont 5 (ws.map encRx)) := fun _ => hTzk
      have hTs : ∀ A a2, ((Hp.mk h.H (upd Tz k (some (.cont 5 ((ws.map encRx).set q A))))).st i l a2).T k = some (TO.cont 5 ((ws.map encRx).set q A)) := fun A a2 => upd_same _ _ _
      have htz : ∀ a2 X, (Hp.mk ((Hp.mk h.H Tz).st i l a2).H (upd ((Hp.mk h.H Tz).st i l a2).T k X)) = (Hp.mk h.H (upd Tz k X)).st i l a2 := fun a2 X => rfl
      have htz2 : ∀ A a2 X, (Hp.mk ((Hp.mk h.H (upd Tz k (some (.cont 5 ((ws.map encRx).set q A))))).st i l a2).H (upd ((Hp.mk h.H (upd Tz k (some (.cont 5 ((ws.map encRx).set q A))))).st i l a2).T k X)) = (Hp.mk h.H (upd Tz k X)).st i l a2 := fun A a2 X => by simp only [Hp.st, upd_upd]
      refine (g_pick i l (a1 + 1 + 1 + 1 + 1) [0, -1, 5] none ⟨h.H, Tz⟩ hl (by omega) (by simp)).mono ?_; rintro _ _ ⟨y3, hy3, rfl, rfl⟩; apply hK1; clear hK1 K1
      (repeat (first | refine gO rfl ?_ | ((first | refine gR ?_ | (with_reducible refine wM ?_ ?_) | ((with_reducible refine xR ?_); refine uE 11 zM21 zPAE zPAP 95 rfl (by kernel_rfl) ?_)) <;> ((try with_reducible intro K1 hK1); simp only [go_sem, ↓reduceIte, reduceCtorEq, nA, nB, nC, nD, nE, nF, Int.toNat_natCast, hTz1, hlw, gq, hqq] <;> and_intros <;> first | (apply hK1; clear hK1 K1) | (intros; first | omega | decide) | skip))))
      refine (g_pick i l (a1 + 1 + 1 + 1 + 1 + 1) [5, 50, 345686400001] none ⟨h.H, Tz⟩ hl (by omega) (by simp)).mono ?_; rintro _ _ ⟨y4, hy4, rfl, rfl⟩; apply hK1; clear hK1 K1
      (repeat (first | refine gO rfl ?_ | ((first | refine gR ?_ | (with_reducible refine wM ?_ ?_) | ((with_reducible refine xR ?_); refine uE 11 zM21 zPAE zPAP 95 rfl (by kernel_rfl) ?_)) <;> ((try with_reducible intro K1 hK1); simp only [go_sem, ↓reduceIte, reduceCtorEq, nA, nB, nC, nD, nE, nF, Int.toNat_natCast, hTz1, hlw, gq, hqq, hgs, hss, hsl, hTs, htz, htz2] <;> and_intros <;> first | (apply hK1; clear hK1 K1) | (intros; first | omega | decide) | skip))))
      refine ⟨_, ws.set q (y1, z0 :: (zt ++ [y2]), y3, y4, zb), _, _, (RowsW.rx ws).set q (r := (y1, z0 :: (zt ++ [y2]), y3, y4, zb)) (WL.cons (Weak.refl _) (WL.cons (show Weak (.row 1 (encS z0 :: (zt.map encS ++ [[.v (.string y2)]])) (some q2)) (encGr (z0 :: (zt ++ [y2]))) from by unfold encGr; rw [List.map_cons, List.map_append]; exact Weak.row _ _ _) (WL.refl _))), by rw [List.length_set, hwl], fun u hu => ?_, ?_, hTzo _, upd_same _ _ _, rfl⟩
      ·rcases List.mem_or_eq_of_mem_set hu with h9 | rfl
       ·exact (hwo u h9).toRtOk
       ·obtain ⟨⟨w1, ⟨w2, w5⟩, w3, w4⟩, w6⟩ := hwq
        simp only [List.mem_cons, List.not_mem_nil, or_false] at hy1 hy2 hy3 hy4
        refine ⟨?_, ⟨?_, ?_⟩, by show _ ≤ y3 ∧ y3 ≤ _; omega, by show _ ≤ y4 ∧ y4 ≤ _; omega⟩
        ·rcases hy1 with rfl | rfl
         ·exact w1
         ·show (⟨#[]⟩ : ByteArray).size ≤ 2; decide
        ·show (z0 :: (zt ++ [y2])).length ≤ 3
         have e9 : (z0 :: (zt ++ [y2])).length = zt.length + 2 := by simp
         have e8 : zt.length ≤ 1 := hzl
         rw [e9]; omega
        ·intro s hs
         have hy2s : y2.size ≤ 4 := by rcases hy2 with rfl | rfl <;> decide
         rcases List.mem_cons.1 hs with rfl | hs
         ·exact w5 _ (by simp)
         ·rcases List.mem_append.1 hs with hs | hs
          ·exact w5 _ (by simp [hs])
          ·rw [List.mem_singleton.1 hs]; exact hy2s
      ·omega
  rintro _ ⟨rows, ws2, a2, T', hrw, hwl2, hwo2, ha2, hT', hTk', rfl⟩
  refine awp_frz 5 k 5 (xs := rows) (by rw [hrw.len, hwl2]; rfl) hTk' hrw.five ?_
  (repeat (first | refine gO rfl ?_ | ((first | refine gR ?_ | (with_reducible refine wM ?_ ?_) | ((with_reducible refine xR ?_); refine uE 11 zM21 zPAE zPAP 95 rfl (by kernel_rfl) ?_)) <;> ((try with_reducible intro K1 hK1); simp only [go_sem, ↓reduceIte, reduceCtorEq, nA, nB, nC, nD, nE, nF] <;> and_intros <;> first | (apply hK1; clear hK1 K1) | (intros; first | omega | decide) | skip))))
  simp only [Tryz.results8, go_sem, ↓reduceIte, reduceCtorEq, nA, nB, nC, nD, nE, nF]
  refine ⟨_, h.st i l a2, hrw.weak none, ⟨fun _ => .inr rfl, fun t => ?_⟩, ws2, a2, by omega, hwo2, by omega, rfl, rfl⟩
  by_cases e : t = k
  ·subst e; exact .inl hk
  ·rcases hT' t with h9 | h9
   ·exact .inl h9
   ·exact .inr (by show (h.st i l a2).T t = upd T' k none t; rw [upd_other _ _ e]; exact h9.symm)
def wndF (a b : Int) : Int := if 0 ≤ a ∧ a < b ∧ b ≤ 345686400000 then 0 else 1
theorem wndF_of {a b : Int} {x1 x2 x3 : Bool} (e1 : decide (0 ≤ a) = x1) (e2 : decide (a < b) = x2) (e3 : decide (b ≤ 345686400000) = x3) : wndF a b = bif (x1 && (x2 && x3)) then 0 else 1 := by
 subst e1; subst e2; subst e3
 unfold wndF
 by_cases h1 : 0 ≤ a <;> by_cases h2 : a < b <;> by_cases h3 : b ≤ 345686400000 <;> simp [h1, h2, h3]
def rightF (r : Rt) : Int := if keyB r.1 = false then 5 else if riseF r.2.1 none = 0 then wndF r.2.2.1 r.2.2.2.1 else riseF r.2.1 none
def rightsF : List Rt → Int
 | [] => 0
 | r :: l => if rightF r = 0 then rightsF l else rightF r
theorem g_isWindow (a b : Int) (h : Hp) : ACalls Tryz.prog 68 [.agg [.v (.int .i64 a), .v (.int .i64 b)]] h (fun r h' => r = .v (.bool (decide (wndF a b = 0))) ∧ h' = h) := by
 obtain ⟨x1, e1⟩ : ∃ x, decide (0 ≤ a) = x := ⟨_, rfl⟩
 obtain ⟨x2, e2⟩ : ∃ x, decide (a < b) = x := ⟨_, rfl⟩
 obtain ⟨x3, e3⟩ : ∃ x, decide (b ≤ 345686400000) = x := ⟨_, rfl⟩
 have hw := wndF_of e1 e2 e3
 refine gE Tryz.func68 rfl (by kernel_rfl) 17 rfl fun c => ?_
 cases x1 <;> cases x2 <;> cases x3
 all_goals
  (repeat (first | refine gO rfl ?_ | (refine gR fun K1 hK1 => ?_; simp only [go_sem, ↓reduceIte, reduceCtorEq, nA, nB, nC, nD, nE, nF, e1, e2, e3] <;> and_intros <;> first | (apply hK1; clear hK1 K1) | (intros; first | omega | decide) | skip)))
  simp only [Tryz.results68, go_sem, ↓reduceIte, reduceCtorEq, nA, nB, nC, nD, nE, nF]
  exact ⟨_, _, Weak.refl _, Hp.le.refl _, by rw [hw]; rfl, rfl⟩
theorem g_checkRights (rs : List Rt) (kk : Option Nat) (hl : rs.length ≤ 500) (hok : ∀ r ∈ rs, RtOk r) (h : Hp) :
  ACalls Tryz.prog 14 [.row 5 (rs.map encRt) kk] h (fun r h' => r = .v (.int .i64 (rightsF rs)) ∧ h' = h) := by
 have hml : (rs.map encRt).length = rs.length := List.length_map _
 refine gE Tryz.func14 rfl (by kernel_rfl) 29 rfl fun c => ?_
 (repeat (first | refine gO rfl ?_ | (refine gM zM22 fun K1 hK1 => ?_; simp only [go_sem, ↓reduceIte, reduceCtorEq, nA, nB, nC, nD, nE, nF, hml] <;> and_intros <;> first | (apply hK1; clear hK1 K1) | (intros; first | omega | decide) | skip)))
 refine awp_cond (t := _) rfl (fun h5 => absurd (of_decide_eq_true h5) (by omega)) (fun _ => ?_)
 (repeat (first | refine gO rfl ?_ | (refine gM zM22 fun K1 hK1 => ?_; simp only [go_sem, ↓reduceIte, reduceCtorEq, nA, nB, nC, nD, nE, nF, hml] <;> and_intros <;> first | (apply hK1; clear hK1 K1) | (intros; first | omega | decide) | skip)))
 refine awp_loopC (rl false [9, 3, 18]) 0 (fun g s => ∃ (j : Nat), g + j = rs.length ∧ rightsF (rs.drop j) = rightsF rs ∧
  s = ⟨((jnk 9 ((.row 5 (rs.map encRt) kk) :: (.v (.int .i64 rs.length)) :: (.v (.int .i64 j)) :: (jnk 18 [])))), [], h⟩) rs.length ⟨0, by omega, rfl, rfl⟩ ?_
 rintro g _ ⟨j, hj, hinv, rfl⟩
 (repeat (first | refine gO rfl ?_ | (refine gM zM22 fun K1 hK1 => ?_; simp only [go_sem, ↓reduceIte, reduceCtorEq, nA, nB, nC, nD, nE, nF] <;> and_intros <;> first | (apply hK1; clear hK1 K1) | (intros; first | omega | decide) | skip)))
 refine awp_cond (t := _) rfl (fun h5 => ?_) (fun h5 => ?_)
 ·simp only [decide_eq_true_eq] at h5
  have hjl : j < rs.length := by omega
  have gx : (rs.map encRt).getD j [] = encRt rs[j] := by rw [List.getD_eq_getElem?_getD, List.getElem?_map, List.getElem?_eq_getElem hjl]; rfl
  have hro := hok _ (List.getElem_mem hjl)
  rw [List.drop_eq_getElem_cons hjl, rightsF] at hinv
  generalize rs[j] = r at *
  obtain ⟨it, tg, fr, t2, bb⟩ := r
  rw [show encRt (it, tg, fr, t2, bb) = [.v (.string it), .row 1 (tg.map encS) none, .v (.int .i64 fr), .v (.int .i64 t2), .v (.bool bb)] from rfl] at gx
  obtain ⟨hs1, ⟨hs2, hs3⟩, hs4, hs5⟩ := hro
  simp only at hs1 hs2 hs3 hs4 hs5
  have hK := a_isKey it (by omega) h
  have hT := g_tagsF tg none (by omega) (fun s hs => by have := hs3 s hs; omega) h
  have hrf : rightF (it, tg, fr, t2, bb) = if keyB it = false then 5 else if riseF tg none = 0 then wndF fr t2 else riseF tg none := rfl
  (repeat (first | refine gO rfl ?_ | (refine gM zM22 fun K1 hK1 => ?_; simp only [go_sem, ↓reduceIte, reduceCtorEq, nA, nB, nC, nD, nE, nF, hml, Int.toNat_natCast, gx] <;> and_intros <;> first | (apply hK1; clear hK1 K1) | (intros; first | omega | decide) | skip)))
  refine hK.mono ?_; rintro _ hz ⟨rfl, hh⟩; apply hK1; clear hK1 K1; rw [hh]; clear hh hz
  cases hk : keyB it with
  | false =>
   rw [hk, if_pos rfl] at hrf
   (repeat (first | refine gO rfl ?_ | (refine gM zM22 fun K1 hK1 => ?_; simp only [go_sem, ↓reduceIte, reduceCtorEq, nA, nB, nC, nD, nE, nF, hk, Bool.not_false] <;> and_intros <;> first | (apply hK1; clear hK1 K1) | (intros; first | omega | decide) | skip)))
   refine awp_cond (t := _) rfl (fun _ => ?_) (fun h6 => by cases h6)
   (repeat (first | refine gO rfl ?_ | (refine gM zM22 fun K1 hK1 => ?_; simp only [go_sem, ↓reduceIte, reduceCtorEq, nA, nB, nC, nD, nE, nF] <;> and_intros <;> first | (apply hK1; clear hK1 K1) | (intros; first | omega | decide) | skip)))
   simp only [Tryz.results14, go_sem, ↓reduceIte, reduceCtorEq, nA, nB, nC, nD, nE, nF]
   refine ⟨_, _, Weak.refl _, Hp.le.refl _, ?_, rfl⟩
   rw [hrf, if_neg (by decide)] at hinv
   rw [← hinv]
  | true =>
   rw [hk, if_neg (by decide)] at hrf
   (repeat (first | refine gO rfl ?_ | (refine gM zM22 fun K1 hK1 => ?_; simp only [go_sem, ↓reduceIte, reduceCtorEq, nA, nB, nC, nD, nE, nF, hk, Bool.not_true] <;> and_intros <;> first | (apply hK1; clear hK1 K1) | (intros; first | omega | decide) | skip)))
   refine awp_cond (t := _) rfl (fun h6 => by cases h6) (fun _ => ?_)
   (repeat (first | refine gO rfl ?_ | (refine gM zM22 fun K1 hK1 => ?_; simp only [go_sem, ↓reduceIte, reduceCtorEq, nA, nB, nC, nD, nE, nF] <;> and_intros <;> first | (apply hK1; clear hK1 K1) | (intros; first | omega | decide) | skip)))
   refine hT.mono ?_; rintro _ hz ⟨rfl, hh⟩; apply hK1; clear hK1 K1; rw [hh]; clear hh hz
   (repeat (first | refine gO rfl ?_ | (refine gM zM22 fun K1 hK1 => ?_; simp only [go_sem, ↓reduceIte, reduceCtorEq, nA, nB, nC, nD, nE, nF] <;> and_intros <;> first | (apply hK1; clear hK1 K1) | (intros; first | omega | decide) | skip)))
   by_cases hz : riseF tg none = 0
   ·rw [if_pos hz] at hrf
    refine awp_cond (t := _) rfl (fun h6 => by rw [hz] at h6; cases h6) (fun _ => ?_)
    obtain ⟨x1, e1⟩ : ∃ x, decide (0 ≤ fr) = x := ⟨_, rfl⟩
    obtain ⟨x2, e2⟩ : ∃ x, decide (fr < t2) = x := ⟨_, rfl⟩
    obtain ⟨x3, e3⟩ : ∃ x, decide (t2 ≤ 345686400000) = x := ⟨_, rfl⟩
    have n1 : decide (fr < 0) = !x1 := by rw [← e1, ← decide_not]; exact decide_eq_decide.2 (by omega)
    have n2 : decide (t2 ≤ fr) = !x2 := by rw [← e2, ← decide_not]; exact decide_eq_decide.2 (by omega)
    have n3 : decide (345686400000 < t2) = !x3 := by rw [← e3, ← decide_not]; exact decide_eq_decide.2 (by omega)
    have hw := wndF_of e1 e2 e3
    clear e1 e2 e3
    cases x1 <;> cases x2 <;> cases x3
    all_goals
     simp only [Bool.and_true, Bool.and_false, Bool.false_and, Bool.and_self, cond_true, cond_false] at hw
     (repeat (first | refine gO rfl ?_ | (refine gM zM22 fun K1 hK1 => ?_; simp only [go_sem, ↓reduceIte, reduceCtorEq, nA, nB, nC, nD, nE, nF, n1, n2, n3, Bool.not_true, Bool.not_false] <;> and_intros <;> first | (apply hK1; clear hK1 K1) | (intros; first | omega | decide) | skip)))
     refine (g_isWindow fr t2 h).mono ?_; rintro _ hz ⟨rfl, hh⟩; apply hK1; clear hK1 K1; rw [hh]; clear hh hz; rw [hw]; (repeat (first | refine gO rfl ?_ | (refine gM zM22 fun K1 hK1 => ?_; simp only [go_sem, ↓reduceIte, reduceCtorEq, nA, nB, nC, nD, nE, nF] <;> and_intros <;> first | (apply hK1; clear hK1 K1) | (intros; first | omega | decide) | skip)))
     refine awp_cond (t := _) rfl (fun h6 => ?_) (fun h6 => ?_)
     all_goals try (exfalso; cases h6; done)
    rotate_right
    ·(repeat (first | refine gO rfl ?_ | (refine gM zM22 fun K1 hK1 => ?_; simp only [go_sem, ↓reduceIte, reduceCtorEq, nA, nB, nC, nD, nE, nF] <;> and_intros <;> first | (apply hK1; clear hK1 K1) | (intros; first | omega | decide) | skip)))
     rw [hrf, if_pos hw] at hinv
     exact ⟨g - 1, by omega, j + 1, by omega, hinv, rfl⟩
    all_goals
     (repeat (first | refine gO rfl ?_ | (refine gM zM22 fun K1 hK1 => ?_; simp only [go_sem, ↓reduceIte, reduceCtorEq, nA, nB, nC, nD, nE, nF] <;> and_intros <;> first | (apply hK1; clear hK1 K1) | (intros; first | omega | decide) | skip)))
     simp only [Tryz.results14, go_sem, ↓reduceIte, reduceCtorEq, nA, nB, nC, nD, nE, nF]
     refine ⟨_, _, Weak.refl _, Hp.le.refl _, ?_, rfl⟩
     rw [hrf, if_neg (by rw [hw]; decide), hw] at hinv
     rw [← hinv]
   ·rw [if_neg hz] at hrf
    refine awp_cond (t := _) rfl (fun _ => ?_) (fun h6 => absurd h6 (by simpa using hz))
    (repeat (first | refine gO rfl ?_ | (refine gM zM22 fun K1 hK1 => ?_; simp only [go_sem, ↓reduceIte, reduceCtorEq, nA, nB, nC, nD, nE, nF] <;> and_intros <;> first | (apply hK1; clear hK1 K1) | (intros; first | omega | decide) | skip)))
    simp only [Tryz.results14, go_sem, ↓reduceIte, reduceCtorEq, nA, nB, nC, nD, nE, nF]
    refine ⟨_, _, Weak.refl _, Hp.le.refl _, ?_, rfl⟩
    rw [hrf, if_neg hz] at hinv
    rw [← hinv]
 ·simp only [decide_eq_false_iff_not] at h5
  have hjl : j = rs.length := by omega
  subst hjl
  rw [List.drop_length, rightsF] at hinv
  (repeat (first | refine gO rfl ?_ | (refine gM zM22 fun K1 hK1 => ?_; simp only [go_sem, ↓reduceIte, reduceCtorEq, nA, nB, nC, nD, nE, nF] <;> and_intros <;> first | (apply hK1; clear hK1 K1) | (intros; first | omega | decide) | skip)))
  simp only [Tryz.results14, go_sem, ↓reduceIte, reduceCtorEq, nA, nB, nC, nD, nE, nF]
  exact ⟨_, _, Weak.refl _, Hp.le.refl _, by rw [← hinv], rfl⟩
theorem g_rightsFault (rs : List Rt) (kk : Option Nat) (hl : rs.length ≤ 500) (hok : ∀ r ∈ rs, RtOk r) (h : Hp) :
  ACalls Tryz.prog 13 [.row 5 (rs.map encRt) kk] h (fun r h' => r = .v (.int .i64 (rightsF rs)) ∧ h' = h) := by
 have hml : (rs.map encRt).length = rs.length := List.length_map _
 refine gE Tryz.func13 rfl (by kernel_rfl) 44 rfl fun c => ?_
 (repeat (first | refine gO rfl ?_ | (refine gM zM22 fun K1 hK1 => ?_; simp only [go_sem, ↓reduceIte, reduceCtorEq, nA, nB, nC, nD, nE, nF, hml] <;> and_intros <;> first | (apply hK1; clear hK1 K1) | (intros; first | omega | decide) | skip)))
 refine awp_cond (t := _) rfl (fun h5 => absurd (of_decide_eq_true h5) (by omega)) (fun _ => ?_)
 (repeat (first | refine gO rfl ?_ | (refine gM zM22 fun K1 hK1 => ?_; simp only [go_sem, ↓reduceIte, reduceCtorEq, nA, nB, nC, nD, nE, nF, hml] <;> and_intros <;> first | (apply hK1; clear hK1 K1) | (intros; first | omega | decide) | skip)))
 refine awp_loopC (rl false [9, 3, 33]) 0 (fun g s => ∃ (j : Nat), g + j = rs.length ∧ rightsF (rs.drop j) = rightsF rs ∧
  s = ⟨((jnk 9 ((.row 5 (rs.map encRt) kk) :: (.v (.int .i64 rs.length)) :: (.v (.int .i64 j)) :: (jnk 33 [])))), [], h⟩) rs.length ⟨0, by omega, rfl, rfl⟩ ?_
 rintro g _ ⟨j, hj, hinv, rfl⟩
 (repeat (first | refine gO rfl ?_ | (refine gM zM22 fun K1 hK1 => ?_; simp only [go_sem, ↓reduceIte, reduceCtorEq, nA, nB, nC, nD, nE, nF] <;> and_intros <;> first | (apply hK1; clear hK1 K1) | (intros; first | omega | decide) | skip)))
 refine awp_cond (t := _) rfl (fun h5 => ?_) (fun h5 => ?_)
 ·simp only [decide_eq_true_eq] at h5
  have hjl : j < rs.length := by omega
  have gx : (rs.map encRt).getD j [] = encRt rs[j] := by rw [List.getD_eq_getElem?_getD, List.getElem?_map, List.getElem?_eq_getElem hjl]; rfl
  have hro := hok _ (List.getElem_mem hjl)
  rw [List.drop_eq_getElem_cons hjl, rightsF] at hinv
  generalize rs[j] = r at *
  obtain ⟨it, tg, fr, t2, bb⟩ := r
  rw [show encRt (it, tg, fr, t2, bb) = [.v (.string it), .row 1 (tg.map encS) none, .v (.int .i64 fr), .v (.int .i64 t2), .v (.bool bb)] from rfl] at gx
  obtain ⟨hs1, ⟨hs2, hs3⟩, hs4, hs5⟩ := hro
  simp only at hs1 hs2 hs3 hs4 hs5
  have hK := a_key it (by omega) h
  have hT := g_keysF tg none 20 (by omega) (fun s hs => by have := hs3 s hs; omega) h
  have hrf : rightF (it, tg, fr, t2, bb) = if keyB it = false then 5 else if riseF tg none = 0 then wndF fr t2 else riseF tg none := rfl
  (repeat (first | refine gO rfl ?_ | (refine gM zM22 fun K1 hK1 => ?_; simp only [go_sem, ↓reduceIte, reduceCtorEq, nA, nB, nC, nD, nE, nF, hml, Int.toNat_natCast, gx] <;> and_intros <;> first | (apply hK1; clear hK1 K1) | (intros; first | omega | decide) | skip)))
  refine hK.mono ?_; rintro _ hz ⟨rfl, hh⟩; apply hK1; clear hK1 K1; rw [hh]; clear hh hz
  cases hk : keyB it with
  | false =>
   rw [hk, if_pos rfl] at hrf
   (repeat (first | refine gO rfl ?_ | (refine gM zM22 fun K1 hK1 => ?_; simp only [go_sem, ↓reduceIte, reduceCtorEq, nA, nB, nC, nD, nE, nF, hk, Bool.not_false] <;> and_intros <;> first | (apply hK1; clear hK1 K1) | (intros; first | omega | decide) | skip)))
   refine awp_cond (t := _) rfl (fun _ => ?_) (fun h6 => by cases h6)
   (repeat (first | refine gO rfl ?_ | (refine gM zM22 fun K1 hK1 => ?_; simp only [go_sem, ↓reduceIte, reduceCtorEq, nA, nB, nC, nD, nE, nF] <;> and_intros <;> first | (apply hK1; clear hK1 K1) | (intros; first | omega | decide) | skip)))
   simp only [Tryz.results13, go_sem, ↓reduceIte, reduceCtorEq, nA, nB, nC, nD, nE, nF]
   refine ⟨_, _, Weak.refl _, Hp.le.refl _, ?_, rfl⟩
   rw [hrf, if_neg (by decide)] at hinv
   rw [← hinv]
  | true =>
   rw [hk, if_neg (by decide)] at hrf
   (repeat (first | refine gO rfl ?_ | (refine gM zM22 fun K1 hK1 => ?_; simp only [go_sem, ↓reduceIte, reduceCtorEq, nA, nB, nC, nD, nE, nF, hk, Bool.not_true] <;> and_intros <;> first | (apply hK1; clear hK1 K1) | (intros; first | omega | decide) | skip)))
   refine awp_cond (t := _) rfl (fun h6 => by cases h6) (fun _ => ?_)
   (repeat (first | refine gO rfl ?_ | (refine gM zM22 fun K1 hK1 => ?_; simp only [go_sem, ↓reduceIte, reduceCtorEq, nA, nB, nC, nD, nE, nF] <;> and_intros <;> first | (apply hK1; clear hK1 K1) | (intros; first | omega | decide) | skip)))
   refine hT.mono ?_; rintro _ hz ⟨rfl, hh⟩; apply hK1; clear hK1 K1; rw [hh]; clear hh hz
   (repeat (first | refine gO rfl ?_ | (refine gM zM22 fun K1 hK1 => ?_; simp only [go_sem, ↓reduceIte, reduceCtorEq, nA, nB, nC, nD, nE, nF] <;> and_intros <;> first | (apply hK1; clear hK1 K1) | (intros; first | omega | decide) | skip)))
   by_cases hz : riseF tg none = 0
   ·rw [if_pos hz] at hrf
    refine awp_cond (t := _) rfl (fun h6 => by rw [hz] at h6; cases h6) (fun _ => ?_)
    obtain ⟨x1, e1⟩ : ∃ x, decide (0 ≤ fr) = x := ⟨_, rfl⟩
    obtain ⟨x2, e2⟩ : ∃ x, decide (fr < t2) = x := ⟨_, rfl⟩
    obtain ⟨x3, e3⟩ : ∃ x, decide (t2 ≤ 345686400000) = x := ⟨_, rfl⟩
    have n1 : decide (fr < 0) = !x1 := by rw [← e1, ← decide_not]; exact decide_eq_decide.2 (by omega)
    have n2 : decide (t2 ≤ fr) = !x2 := by rw [← e2, ← decide_not]; exact decide_eq_decide.2 (by omega)
    have n3 : decide (345686400000 < t2) = !x3 := by rw [← e3, ← decide_not]; exact decide_eq_decide.2 (by omega)
    have hw := wndF_of e1 e2 e3
    clear e1 e2 e3
    cases x1 <;> cases x2 <;> cases x3
    all_goals
     simp only [Bool.and_true, Bool.and_false, Bool.false_and, Bool.and_self, cond_true, cond_false] at hw
     (repeat (first | refine gO rfl ?_ | (refine gM zM22 fun K1 hK1 => ?_; simp only [go_sem, ↓reduceIte, reduceCtorEq, nA, nB, nC, nD, nE, nF, n1, n2, n3, Bool.not_true, Bool.not_false] <;> and_intros <;> first | (apply hK1; clear hK1 K1) | (intros; first | omega | decide) | skip)))
     skip
     refine awp_cond (t := _) rfl (fun h6 => ?_) (fun h6 => ?_)
     all_goals try (exfalso; cases h6; done)
    rotate_right
    ·(repeat (first | refine gO rfl ?_ | (refine gM zM22 fun K1 hK1 => ?_; simp only [go_sem, ↓reduceIte, reduceCtorEq, nA, nB, nC, nD, nE, nF] <;> and_intros <;> first | (apply hK1; clear hK1 K1) | (intros; first | omega | decide) | skip)))
     rw [hrf, if_pos hw] at hinv
     exact ⟨g - 1, by omega, j + 1, by omega, hinv, rfl⟩
    all_goals
     (repeat (first | refine gO rfl ?_ | (refine gM zM22 fun K1 hK1 => ?_; simp only [go_sem, ↓reduceIte, reduceCtorEq, nA, nB, nC, nD, nE, nF] <;> and_intros <;> first | (apply hK1; clear hK1 K1) | (intros; first | omega | decide) | skip)))
     simp only [Tryz.results13, go_sem, ↓reduceIte, reduceCtorEq, nA, nB, nC, nD, nE, nF]
     refine ⟨_, _, Weak.refl _, Hp.le.refl _, ?_, rfl⟩
     rw [hrf, if_neg (by rw [hw]; decide), hw] at hinv
     rw [← hinv]
   ·rw [if_neg hz] at hrf
    refine awp_cond (t := _) rfl (fun _ => ?_) (fun h6 => absurd h6 (by simpa using hz))
    (repeat (first | refine gO rfl ?_ | (refine gM zM22 fun K1 hK1 => ?_; simp only [go_sem, ↓reduceIte, reduceCtorEq, nA, nB, nC, nD, nE, nF] <;> and_intros <;> first | (apply hK1; clear hK1 K1) | (intros; first | omega | decide) | skip)))
    simp only [Tryz.results13, go_sem, ↓reduceIte, reduceCtorEq, nA, nB, nC, nD, nE, nF]
    refine ⟨_, _, Weak.refl _, Hp.le.refl _, ?_, rfl⟩
    rw [hrf, if_neg hz] at hinv
    rw [← hinv]
 ·simp only [decide_eq_false_iff_not] at h5
  have hjl : j = rs.length := by omega
  subst hjl
  rw [List.drop_length, rightsF] at hinv
  (repeat (first | refine gO rfl ?_ | (refine gM zM22 fun K1 hK1 => ?_; simp only [go_sem, ↓reduceIte, reduceCtorEq, nA, nB, nC, nD, nE, nF] <;> and_intros <;> first | (apply hK1; clear hK1 K1) | (intros; first | omega | decide) | skip)))
  simp only [Tryz.results13, go_sem, ↓reduceIte, reduceCtorEq, nA, nB, nC, nD, nE, nF]
  exact ⟨_, _, Weak.refl _, Hp.le.refl _, by rw [← hinv], rfl⟩
theorem g_in (x lo hi : Int) (h : Hp) : ACalls Tryz.prog 74 [.v (.int .i64 x), .v (.int .i64 lo), .v (.int .i64 hi)] h (fun r h' => r = .v (.bool (decide (lo ≤ x) && decide (x ≤ hi))) ∧ h' = h) := by
 obtain ⟨x1, e1⟩ : ∃ b, decide (lo ≤ x) = b := ⟨_, rfl⟩
 obtain ⟨x2, e2⟩ : ∃ b, decide (x ≤ hi) = b := ⟨_, rfl⟩
 rw [e1, e2]
 refine gE Tryz.func74 rfl (by kernel_rfl) 12 rfl fun c => ?_
 cases x1 <;> cases x2
 all_goals
  (repeat (first | refine gO rfl ?_ | (refine gR fun K1 hK1 => ?_; simp only [go_sem, ↓reduceIte, reduceCtorEq, nA, nB, nC, nD, nE, nF, e1, e2] <;> and_intros <;> first | (apply hK1; clear hK1 K1) | (intros; first | omega | decide) | skip)))
  simp only [Tryz.results74, go_sem, ↓reduceIte, reduceCtorEq, nA, nB, nC, nD, nE, nF]
  exact ⟨_, _, Weak.refl _, Hp.le.refl _, rfl, rfl⟩
structure Gu where
 key : ByteArray
 scr : ByteArray
 zone : Int
 tags : List ByteArray
def encGu (p : Gu) : List AV := [.v (.string p.key), .v (.string p.scr), .v (.int .i64 p.zone), encGr p.tags]
structure GuOk (p : Gu) : Prop where
 key : p.key.size ≤ 4
 scr : keyB p.scr = true
 scs : p.scr.size ≤ 4
 tg : TgOk p.tags
def momF (a : Int) : Int := if 0 ≤ a ∧ a ≤ 345686399999 then 0 else 1
def guF (p : Gu) : Int := if keyB p.key = false then 5 else if -1440 ≤ p.zone ∧ p.zone ≤ 1440 then riseF p.tags none else 1
theorem momF_of {a : Int} {x1 x2 : Bool} (e1 : decide (0 ≤ a) = x1) (e2 : decide (a ≤ 345686399999) = x2) : momF a = bif (x1 && x2) then 0 else 1 := by
 subst e1; subst e2
 unfold momF
 by_cases h1 : 0 ≤ a <;> by_cases h2 : a ≤ 345686399999 <;> simp [h1, h2]
theorem g_momFault (a : Int) (h : Hp) : ACalls Tryz.prog 20 [.v (.int .i64 a)] h (fun r h' => r = .v (.int .i64 (momF a)) ∧ h' = h) := by
 have hm := momF_of (a := a) rfl rfl
 refine gE Tryz.func20 rfl (by kernel_rfl) 5 rfl fun c => ?_
 (repeat (first | refine gO rfl ?_ | (refine gR fun K1 hK1 => ?_; simp only [go_sem, ↓reduceIte, reduceCtorEq, nA, nB, nC, nD, nE, nF] <;> and_intros <;> first | (apply hK1; clear hK1 K1) | (intros; first | omega | decide) | skip)))
 refine (g_in a 0 345686399999 h).mono ?_; rintro _ hz ⟨rfl, hh⟩; apply hK1; clear hK1 K1; rw [hh]; clear hh hz
 (repeat (first | refine gO rfl ?_ | (refine gR fun K1 hK1 => ?_; simp only [go_sem, ↓reduceIte, reduceCtorEq, nA, nB, nC, nD, nE, nF] <;> and_intros <;> first | (apply hK1; clear hK1 K1) | (intros; first | omega | decide) | skip)))
 generalize (decide (0 ≤ a) && decide (a ≤ 345686399999)) = b at *
 cases b with
 | false =>
  refine awp_cond (t := _) rfl (fun _ => ?_) (fun h6 => by cases h6)
  (repeat (first | refine gO rfl ?_ | (refine gR fun K1 hK1 => ?_; simp only [go_sem, ↓reduceIte, reduceCtorEq, nA, nB, nC, nD, nE, nF] <;> and_intros <;> first | (apply hK1; clear hK1 K1) | (intros; first | omega | decide) | skip)))
  simp only [Tryz.results20, go_sem, ↓reduceIte, reduceCtorEq, nA, nB, nC, nD, nE, nF]
  exact ⟨_, _, Weak.refl _, Hp.le.refl _, by rw [hm]; rfl, rfl⟩
 | true =>
  refine awp_cond (t := _) rfl (fun h6 => by cases h6) (fun _ => ?_)
  (repeat (first | refine gO rfl ?_ | (refine gR fun K1 hK1 => ?_; simp only [go_sem, ↓reduceIte, reduceCtorEq, nA, nB, nC, nD, nE, nF] <;> and_intros <;> first | (apply hK1; clear hK1 K1) | (intros; first | omega | decide) | skip)))
  simp only [Tryz.results20, go_sem, ↓reduceIte, reduceCtorEq, nA, nB, nC, nD, nE, nF]
  exact ⟨_, _, Weak.refl _, Hp.le.refl _, by rw [hm]; rfl, rfl⟩
theorem g_isMoment (a : Int) (h : Hp) : ACalls Tryz.prog 87 [.v (.int .i64 a)] h (fun r h' => r = .v (.bool (decide (momF a = 0))) ∧ h' = h) := by
 obtain ⟨x1, e1⟩ : ∃ b, decide (0 ≤ a) = b := ⟨_, rfl⟩
 obtain ⟨x2, e2⟩ : ∃ b, decide (a < 345686400000) = b := ⟨_, rfl⟩
 have hm := momF_of (a := a) (x2 := x2) e1 (by rw [← e2]; exact decide_eq_decide.2 (by omega))
 refine gE Tryz.func87 rfl (by kernel_rfl) 8 rfl fun c => ?_
 cases x1 <;> cases x2
 all_goals
  (repeat (first | refine gO rfl ?_ | (refine gR fun K1 hK1 => ?_; simp only [go_sem, ↓reduceIte, reduceCtorEq, nA, nB, nC, nD, nE, nF, e1, e2] <;> and_intros <;> first | (apply hK1; clear hK1 K1) | (intros; first | omega | decide) | skip)))
  simp only [Tryz.results87, go_sem, ↓reduceIte, reduceCtorEq, nA, nB, nC, nD, nE, nF]
  exact ⟨_, _, Weak.refl _, Hp.le.refl _, by rw [hm]; rfl, rfl⟩
theorem g_playerR (p : Gu) (hp : GuOk p) (h : Hp) : ACalls Tryz.prog 18 [.agg (encGu p)] h (fun r h' => r = .v (.int .i64 (guF p)) ∧ h' = h) := by
 obtain ⟨key, scr, zone, tags⟩ := p
 obtain ⟨h1, h2, h3, ⟨h4, h5⟩⟩ := hp
 simp only at h1 h2 h3 h4 h5
 have hk1 := a_key key (by omega) h
 have hk2 := a_key scr (by omega) h
 rw [h2] at hk2
 have hT := g_keysF tags none 20 (by omega) (fun s hs => by have := h5 s hs; omega) h
 have hI := g_in zone (-1440) 1440 h
 unfold encGu encGr guF
 simp only
 refine gE Tryz.func18 rfl (by kernel_rfl) 21 rfl fun c => ?_
 (repeat (first | refine gO rfl ?_ | (refine gR fun K1 hK1 => ?_; simp only [go_sem, ↓reduceIte, reduceCtorEq, nA, nB, nC, nD, nE, nF] <;> and_intros <;> first | (apply hK1; clear hK1 K1) | (intros; first | omega | decide) | skip)))
 refine hk1.mono ?_; rintro _ hz ⟨rfl, hh⟩; apply hK1; clear hK1 K1; rw [hh]; clear hh hz
 cases hk : keyB key with
 | false =>
  (repeat (first | refine gO rfl ?_ | (refine gR fun K1 hK1 => ?_; simp only [go_sem, ↓reduceIte, reduceCtorEq, nA, nB, nC, nD, nE, nF, hk, Bool.not_false] <;> and_intros <;> first | (apply hK1; clear hK1 K1) | (intros; first | omega | decide) | skip)))
  refine awp_cond (t := _) rfl (fun _ => ?_) (fun h6 => by cases h6)
  (repeat (first | refine gO rfl ?_ | (refine gR fun K1 hK1 => ?_; simp only [go_sem, ↓reduceIte, reduceCtorEq, nA, nB, nC, nD, nE, nF] <;> and_intros <;> first | (apply hK1; clear hK1 K1) | (intros; first | omega | decide) | skip)))
  simp only [Tryz.results18, go_sem, ↓reduceIte, reduceCtorEq, nA, nB, nC, nD, nE, nF]
  exact ⟨_, _, Weak.refl _, Hp.le.refl _, rfl, rfl⟩
 | true =>
  (repeat (first | refine gO rfl ?_ | (refine gR fun K1 hK1 => ?_; simp only [go_sem, ↓reduceIte, reduceCtorEq, nA, nB, nC, nD, nE, nF, hk, Bool.not_true] <;> and_intros <;> first | (apply hK1; clear hK1 K1) | (intros; first | omega | decide) | skip)))
  rotate_left
  ·exact fun h => h.elim
  refine hk2.mono ?_
  rintro _ hz ⟨rfl, hh⟩; refine ⟨rfl, ?_⟩; apply hK1; clear hK1 K1; rw [hh]; clear hh hz
  (repeat (first | refine gO rfl ?_ | (refine gR fun K1 hK1 => ?_; simp only [go_sem, ↓reduceIte, reduceCtorEq, nA, nB, nC, nD, nE, nF, Bool.not_true] <;> and_intros <;> first | (apply hK1; clear hK1 K1) | (intros; first | omega | decide) | skip)))
  refine awp_cond (t := _) rfl (fun h6 => by cases h6) (fun _ => ?_)
  (repeat (first | refine gO rfl ?_ | (refine gR fun K1 hK1 => ?_; simp only [go_sem, ↓reduceIte, reduceCtorEq, nA, nB, nC, nD, nE, nF] <;> and_intros <;> first | (apply hK1; clear hK1 K1) | (intros; first | omega | decide) | skip)))
  refine hI.mono ?_; rintro _ hz ⟨rfl, hh⟩; apply hK1; clear hK1 K1; rw [hh]; clear hh hz
  (repeat (first | refine gO rfl ?_ | (refine gR fun K1 hK1 => ?_; simp only [go_sem, ↓reduceIte, reduceCtorEq, nA, nB, nC, nD, nE, nF] <;> and_intros <;> first | (apply hK1; clear hK1 K1) | (intros; first | omega | decide) | skip)))
  by_cases hz : -1440 ≤ zone ∧ zone ≤ 1440
  ·refine awp_cond (t := _) rfl (fun h6 => by simp [hz.1, hz.2] at h6) (fun _ => ?_)
   (repeat (first | refine gO rfl ?_ | (refine gR fun K1 hK1 => ?_; simp only [go_sem, ↓reduceIte, reduceCtorEq, nA, nB, nC, nD, nE, nF] <;> and_intros <;> first | (apply hK1; clear hK1 K1) | (intros; first | omega | decide) | skip)))
   refine hT.mono ?_; rintro _ hz ⟨rfl, hh⟩; apply hK1; clear hK1 K1; rw [hh]; clear hh hz
   (repeat (first | refine gO rfl ?_ | (refine gR fun K1 hK1 => ?_; simp only [go_sem, ↓reduceIte, reduceCtorEq, nA, nB, nC, nD, nE, nF] <;> and_intros <;> first | (apply hK1; clear hK1 K1) | (intros; first | omega | decide) | skip)))
   simp only [Tryz.results18, go_sem, ↓reduceIte, reduceCtorEq, nA, nB, nC, nD, nE, nF]
   exact ⟨_, _, Weak.refl _, Hp.le.refl _, by simp [hz], rfl⟩
  ·refine awp_cond (t := _) rfl (fun _ => ?_) (fun h6 => ?_)
   ·(repeat (first | refine gO rfl ?_ | (refine gR fun K1 hK1 => ?_; simp only [go_sem, ↓reduceIte, reduceCtorEq, nA, nB, nC, nD, nE, nF] <;> and_intros <;> first | (apply hK1; clear hK1 K1) | (intros; first | omega | decide) | skip)))
    simp only [Tryz.results18, go_sem, ↓reduceIte, reduceCtorEq, nA, nB, nC, nD, nE, nF]
    exact ⟨_, _, Weak.refl _, Hp.le.refl _, by simp [hz], rfl⟩
   ·exfalso
    simp only [Bool.not_eq_false', Bool.and_eq_true, decide_eq_true_eq] at h6
    exact hz h6
theorem g_playerF (p : Gu) (hp : GuOk p) (h : Hp) : ACalls Tryz.prog 112 [.agg (encGu p)] h (fun r h' => r = .v (.int .i64 (guF p)) ∧ h' = h) := by
 obtain ⟨key, scr, zone, tags⟩ := p
 obtain ⟨h1, h2, h3, ⟨h4, h5⟩⟩ := hp
 simp only at h1 h2 h3 h4 h5
 have hk1 := a_isKey key (by omega) h
 have hk2 := a_isKey scr (by omega) h
 rw [h2] at hk2
 have hT := g_tagsF tags none (by omega) (fun s hs => by have := h5 s hs; omega) h
 have hI := a_outside zone (-1440) 1440 h
 unfold encGu encGr guF
 simp only
 refine gE Tryz.func112 rfl (by kernel_rfl) 18 rfl fun c => ?_
 (repeat (first | refine gO rfl ?_ | (refine gR fun K1 hK1 => ?_; simp only [go_sem, ↓reduceIte, reduceCtorEq, nA, nB, nC, nD, nE, nF] <;> and_intros <;> first | (apply hK1; clear hK1 K1) | (intros; first | omega | decide) | skip)))
 refine hk1.mono ?_; rintro _ hz ⟨rfl, hh⟩; apply hK1; clear hK1 K1; rw [hh]; clear hh hz
 cases hk : keyB key with
 | false =>
  (repeat (first | refine gO rfl ?_ | (refine gR fun K1 hK1 => ?_; simp only [go_sem, ↓reduceIte, reduceCtorEq, nA, nB, nC, nD, nE, nF, hk, Bool.not_false] <;> and_intros <;> first | (apply hK1; clear hK1 K1) | (intros; first | omega | decide) | skip)))
  refine awp_cond (t := _) rfl (fun _ => ?_) (fun h6 => by cases h6)
  (repeat (first | refine gO rfl ?_ | (refine gR fun K1 hK1 => ?_; simp only [go_sem, ↓reduceIte, reduceCtorEq, nA, nB, nC, nD, nE, nF] <;> and_intros <;> first | (apply hK1; clear hK1 K1) | (intros; first | omega | decide) | skip)))
  simp only [Tryz.results112, go_sem, ↓reduceIte, reduceCtorEq, nA, nB, nC, nD, nE, nF]
  exact ⟨_, _, Weak.refl _, Hp.le.refl _, rfl, rfl⟩
 | true =>
  (repeat (first | refine gO rfl ?_ | (refine gR fun K1 hK1 => ?_; simp only [go_sem, ↓reduceIte, reduceCtorEq, nA, nB, nC, nD, nE, nF, hk, Bool.not_true] <;> and_intros <;> first | (apply hK1; clear hK1 K1) | (intros; first | omega | decide) | skip)))
  rotate_left
  ·exact fun h => h.elim
  refine hk2.mono ?_
  rintro _ hz ⟨rfl, hh⟩; refine ⟨rfl, ?_⟩; apply hK1; clear hK1 K1; rw [hh]; clear hh hz
  (repeat (first | refine gO rfl ?_ | (refine gR fun K1 hK1 => ?_; simp only [go_sem, ↓reduceIte, reduceCtorEq, nA, nB, nC, nD, nE, nF, Bool.not_true] <;> and_intros <;> first | (apply hK1; clear hK1 K1) | (intros; first | omega | decide) | skip)))
  refine awp_cond (t := _) rfl (fun h6 => by cases h6) (fun _ => ?_)
  (repeat (first | refine gO rfl ?_ | (refine gR fun K1 hK1 => ?_; simp only [go_sem, ↓reduceIte, reduceCtorEq, nA, nB, nC, nD, nE, nF] <;> and_intros <;> first | (apply hK1; clear hK1 K1) | (intros; first | omega | decide) | skip)))
  refine hI.mono ?_; rintro _ hz ⟨rfl, hh⟩; apply hK1; clear hK1 K1; rw [hh]; clear hh hz
  (repeat (first | refine gO rfl ?_ | (refine gR fun K1 hK1 => ?_; simp only [go_sem, ↓reduceIte, reduceCtorEq, nA, nB, nC, nD, nE, nF] <;> and_intros <;> first | (apply hK1; clear hK1 K1) | (intros; first | omega | decide) | skip)))
  by_cases hz : -1440 ≤ zone ∧ zone ≤ 1440
  ·refine awp_cond (t := _) rfl (fun h6 => ?_) (fun _ => ?_)
   ·exfalso
    simp only [Bool.or_eq_true, decide_eq_true_eq] at h6
    omega
   (repeat (first | refine gO rfl ?_ | (refine gR fun K1 hK1 => ?_; simp only [go_sem, ↓reduceIte, reduceCtorEq, nA, nB, nC, nD, nE, nF] <;> and_intros <;> first | (apply hK1; clear hK1 K1) | (intros; first | omega | decide) | skip)))
   refine hT.mono ?_; rintro _ hz ⟨rfl, hh⟩; apply hK1; clear hK1 K1; rw [hh]; clear hh hz
   (repeat (first | refine gO rfl ?_ | (refine gR fun K1 hK1 => ?_; simp only [go_sem, ↓reduceIte, reduceCtorEq, nA, nB, nC, nD, nE, nF] <;> and_intros <;> first | (apply hK1; clear hK1 K1) | (intros; first | omega | decide) | skip)))
   simp only [Tryz.results112, go_sem, ↓reduceIte, reduceCtorEq, nA, nB, nC, nD, nE, nF]
   exact ⟨_, _, Weak.refl _, Hp.le.refl _, by simp [hz], rfl⟩
  ·refine awp_cond (t := _) rfl (fun _ => ?_) (fun h6 => ?_)
   ·(repeat (first | refine gO rfl ?_ | (refine gR fun K1 hK1 => ?_; simp only [go_sem, ↓reduceIte, reduceCtorEq, nA, nB, nC, nD, nE, nF] <;> and_intros <;> first | (apply hK1; clear hK1 K1) | (intros; first | omega | decide) | skip)))
    simp only [Tryz.results112, go_sem, ↓reduceIte, reduceCtorEq, nA, nB, nC, nD, nE, nF]
    exact ⟨_, _, Weak.refl _, Hp.le.refl _, by simp [hz], rfl⟩
   ·exfalso
    simp only [Bool.or_eq_false_iff, decide_eq_false_iff_not] at h6
    omega
theorem weak2 {a a' b b' : AV} (h : Weak a a') (k : Weak b b') : ∀ j, (hj : j < ([a, b] : List AV).length) → (hk : j < ([a', b'] : List AV).length) → Weak ([a, b][j]) ([a', b'][j])
 | 0, _, _ => h
 | 1, _, _ => k
 | j + 2, hj, _ => absurd hj (by simp)
theorem g_indexS (ns : List ByteArray) (x : ByteArray) (h : Hp) (hl : ns.length ≤ 100000) : ACalls Tryz.prog 130 [.row 1 (ns.map encS) none, .v (.string x)] h (fun r h' => ∃ i : Int, r = .v (.int .i64 i) ∧ h' = h ∧ decide (0 ≤ i) = (ns.any fun y => x == y)) := by
 have hml : (ns.map encS).length = ns.length := List.length_map _
 refine gE Tryz.func130 rfl (by kernel_rfl) 17 rfl fun c => ?_
 (repeat (first | refine gO rfl ?_ | (refine gR fun K1 hK1 => ?_; simp only [go_sem, ↓reduceIte, reduceCtorEq, nA, nB, nC, nD, nE, nF, hml] <;> and_intros <;> first | (apply hK1; clear hK1 K1) | (intros; first | omega | decide | (simp_all <;> omega)) | skip)))
 refine awp_loopC (rl false [0, 2, 5, 2, 10]) 0 (fun g s => ∃ j : Nat, g + j = ns.length ∧ ((ns.drop j).any fun y => x == y) = (ns.any fun y => x == y) ∧
  s = ⟨((.row 1 (ns.map encS) none) :: (.v (.string x)) :: (jnk 5 ((.v (.int .i64 ns.length)) :: (.v (.int .i64 j)) :: (jnk 10 [])))), [], h⟩) ns.length ⟨0, by omega, rfl, rfl⟩ ?_
 rintro g _ ⟨j, hj, hd, rfl⟩
 (repeat (first | refine gO rfl ?_ | (refine gR fun K1 hK1 => ?_; simp only [go_sem, ↓reduceIte, reduceCtorEq, nA, nB, nC, nD, nE, nF] <;> and_intros <;> first | (apply hK1; clear hK1 K1) | (intros; first | omega | decide) | skip)))
 refine awp_cond (t := _) rfl (fun h1 => ?_) (fun h1 => ?_)
 ·simp only [decide_eq_true_eq] at h1
  have hjl : j < ns.length := by omega
  have gx : (ns.map encS).getD j [] = encS (ns.getD j default) := getD_enc encS ns j default hjl
  have hdc := drop_at' ns j default hjl
  rw [hdc, List.any_cons] at hd
  generalize ns.getD j default = y at *
  (repeat (first | refine gO rfl ?_ | (refine gR fun K1 hK1 => ?_; simp only [go_sem, ↓reduceIte, reduceCtorEq, nA, nB, nC, nD, nE, nF, hml, Int.toNat_natCast, gx, encS] <;> and_intros <;> first | (apply hK1; clear hK1 K1) | (intros; first | omega | decide) | skip)))
  refine awp_cond (t := _) rfl (fun h2 => ?_) (fun h2 => ?_)
  ·(repeat (first | refine gO rfl ?_ | (refine gR fun K1 hK1 => ?_; simp only [go_sem, ↓reduceIte, reduceCtorEq, nA, nB, nC, nD, nE, nF] <;> and_intros <;> first | (apply hK1; clear hK1 K1) | (intros; first | omega | decide) | skip)))
   simp only [Tryz.results130, go_sem, ↓reduceIte, reduceCtorEq, nA, nB, nC, nD, nE, nF]
   refine ⟨_, _, Weak.refl _, Hp.le.refl _, j, rfl, rfl, ?_⟩
   rw [← hd, h2]; simp
  ·(repeat (first | refine gO rfl ?_ | (refine gR fun K1 hK1 => ?_; simp only [go_sem, ↓reduceIte, reduceCtorEq, nA, nB, nC, nD, nE, nF] <;> and_intros <;> first | (apply hK1; clear hK1 K1) | (intros; first | omega | decide) | skip)))
   refine ⟨g - 1, by omega, j + 1, by omega, ?_, rfl⟩
   rw [← hd, h2, Bool.false_or]
 ·simp only [decide_eq_false_iff_not] at h1
  have hjl : j = ns.length := by omega
  subst hjl
  rw [List.drop_length] at hd
  (repeat (first | refine gO rfl ?_ | (refine gR fun K1 hK1 => ?_; simp only [go_sem, ↓reduceIte, reduceCtorEq, nA, nB, nC, nD, nE, nF] <;> and_intros <;> first | (apply hK1; clear hK1 K1) | (intros; first | omega | decide) | skip)))
  simp only [Tryz.results130, go_sem, ↓reduceIte, reduceCtorEq, nA, nB, nC, nD, nE, nF]
  exact ⟨_, _, Weak.refl _, Hp.le.refl _, -1, rfl, rfl, by rw [← hd]; rfl⟩
theorem g_hasS (ns : List ByteArray) (x : ByteArray) (k : Option Nat) (h : Hp) (hl : ns.length ≤ 100000) : ACalls Tryz.prog 95 [.row 1 (ns.map encS) k, .v (.string x)] h (fun r h' => r = .v (.bool (ns.any fun y => x == y)) ∧ h' = h) := by
 have h1 := fun h => (g_indexS ns x h hl).weakArgs (args' := [.row 1 (ns.map encS) k, .v (.string x)]) rfl (weak2 (Weak.row _ _ _) (Weak.refl _))
 generalize ns.map encS = rw0 at *
 refine gE Tryz.func95 rfl (by kernel_rfl) 7 rfl fun c => ?_
 (repeat (first | refine gO rfl ?_ | (refine gR fun K1 hK1 => ?_; simp only [go_sem, ↓reduceIte, reduceCtorEq, nA, nB, nC, nD, nE, nF] <;> and_intros <;> first | (apply hK1; clear hK1 K1) | (intros; first | omega | decide | (simp_all <;> omega)) | skip)))
 refine (h1 _).mono ?_
 rintro _ _ ⟨i, rfl, rfl, hi⟩
 refine hK1 _ ?_; clear hK1 K1
 rw [← hi]
 (repeat (first | refine gO rfl ?_ | (refine gR fun K1 hK1 => ?_; simp only [go_sem, ↓reduceIte, reduceCtorEq, nA, nB, nC, nD, nE, nF] <;> and_intros <;> first | (apply hK1; clear hK1 K1) | (intros; first | omega | decide | (simp_all <;> omega)) | skip)))
 simp only [Tryz.results95, go_sem, ↓reduceIte, reduceCtorEq, nA, nB, nC, nD, nE, nF]
 exact ⟨_, _, Weak.refl _, Hp.le.refl _, rfl, rfl⟩
theorem g_nanS (s : ByteArray) (h : Hp) : ACalls Tryz.prog 185 [.v (.string s)] h (fun r h' => r = .v (.bool false) ∧ h' = h) := by
 refine gE Tryz.func185 rfl (by kernel_rfl) 5 rfl fun c => ?_
 (repeat (first | refine gO rfl ?_ | (refine gR fun K1 hK1 => ?_; simp only [go_sem, ↓reduceIte, reduceCtorEq, nA, nB, nC, nD, nE, nF] <;> and_intros <;> first | (apply hK1; clear hK1 K1) | (intros; first | omega | decide) | skip)))
 simp only [Tryz.results185, go_sem, ↓reduceIte, reduceCtorEq, nA, nB, nC, nD, nE, nF]
 have e : (s == s) = true := by rw [ba_beq]; simp
 have e2 : AV.v (.bool (!(s == s))) = AV.v (.bool false) := by rw [e]; rfl
 exact ⟨_, _, Weak.refl _, Hp.le.refl _, e2, rfl⟩
theorem g_nanC (s : ByteArray) (h : Hp) : ACalls Tryz.prog 222 [.v (.string s)] h (fun r h' => r = .v (.bool false) ∧ h' = h) := by
 refine gE Tryz.func222 rfl (by kernel_rfl) 5 rfl fun c => ?_
 (repeat (first | refine gO rfl ?_ | (refine gR fun K1 hK1 => ?_; simp only [go_sem, ↓reduceIte, reduceCtorEq, nA, nB, nC, nD, nE, nF] <;> and_intros <;> first | (apply hK1; clear hK1 K1) | (intros; first | omega | decide) | skip)))
 simp only [Tryz.results222, go_sem, ↓reduceIte, reduceCtorEq, nA, nB, nC, nD, nE, nF]
 have e : (s == s) = true := by rw [ba_beq]; simp
 have e2 : AV.v (.bool (!(s == s))) = AV.v (.bool false) := by rw [e]; rfl
 exact ⟨_, _, Weak.refl _, Hp.le.refl _, e2, rfl⟩
theorem g_lessS (a b : ByteArray) (h : Hp) : ACalls Tryz.prog 184 [.v (.string a), .v (.string b)] h (fun r h' => r = .v (.bool (ltB a b)) ∧ h' = h) := by
 refine gE Tryz.func184 rfl (by kernel_rfl) 15 rfl fun c => ?_
 (repeat (first | refine gO rfl ?_ | (refine gR fun K1 hK1 => ?_; simp only [go_sem, ↓reduceIte, reduceCtorEq, nA, nB, nC, nD, nE, nF] <;> and_intros <;> first | (apply hK1; clear hK1 K1) | (intros; first | omega | decide) | skip)))
 refine (g_nanC a h).mono ?_; rintro _ hz ⟨rfl, hh⟩; apply hK1; clear hK1 K1; rw [hh]; clear hh hz
 (repeat (first | refine gO rfl ?_ | (refine gR fun K1 hK1 => ?_; simp only [go_sem, ↓reduceIte, reduceCtorEq, nA, nB, nC, nD, nE, nF] <;> and_intros <;> first | (apply hK1; clear hK1 K1) | (intros; first | omega | decide) | skip)))
 simp only [Tryz.results184, go_sem, ↓reduceIte, reduceCtorEq, nA, nB, nC, nD, nE, nF]
 exact ⟨_, _, Weak.refl _, Hp.le.refl _, rfl, rfl⟩
def sAt (l : List ByteArray) (i : Nat) : ByteArray := l.getD i ⟨#[]⟩
theorem sAt_lt {l : List ByteArray} (hs : l.Pairwise fun a b => ltB a b = true) {i j : Nat} (hij : i < j) (hj : j < l.length) : ltB (sAt l i) (sAt l j) = true := by
 have h := List.pairwise_iff_getElem.1 hs i j (by omega) hj hij
 unfold sAt
 rw [List.getD_eq_getElem?_getD, List.getD_eq_getElem?_getD, List.getElem?_eq_getElem hj, List.getElem?_eq_getElem (show i < l.length by omega)]
 exact h
theorem sAt_mem {l : List ByteArray} {i : Nat} (h : i < l.length) : sAt l i ∈ l := by
 unfold sAt
 rw [List.getD_eq_getElem?_getD, List.getElem?_eq_getElem h]; exact List.getElem_mem h
theorem mem_sAt {l : List ByteArray} {x : ByteArray} (h : x ∈ l) : ∃ i, i < l.length ∧ sAt l i = x := by
 obtain ⟨i, hi, e⟩ := List.mem_iff_getElem.1 h
 refine ⟨i, hi, ?_⟩
 unfold sAt
 rw [List.getD_eq_getElem?_getD, List.getElem?_eq_getElem hi]; exact e
def memB (tags : List ByteArray) (t : ByteArray) : Bool := tags.any fun s => decide (s = t)
theorem memB_iff {l : List ByteArray} {x : ByteArray} : memB l x = true ↔ x ∈ l := by
 unfold memB
 simp
theorem g_bs (l : List ByteArray) (x : ByteArray) (kk : Option Nat) (h : Hp) (hl : l.length ≤ 1000) (hs : l.Pairwise fun a b => ltB a b = true) :
  ACalls Tryz.prog 150 [.row 1 (l.map encS) kk, .v (.string x)] h
   (fun r h' => (∃ i : Int, r = .tup [.v (.int .i64 i), .v (.bool (memB l x))]) ∧ h' = h) := by
 have hml : (l.map encS).length = l.length := List.length_map _
 have hw1 : ∀ a b : Nat, a + b ≤ 10000 → IntKind.u64.wrap ((a : Int) + (b : Int)) = (a : Int) + (b : Int) := fun a b h => by
  show ((a : Int) + (b : Int)) % (2 ^ 64) = _
  omega
 have hw2 : ∀ x : Int, x / 2 ^ min (Int.toNat 1) 64 = x / 2 := fun x => rfl
 refine gE Tryz.func150 rfl (by kernel_rfl) 52 rfl fun c => ?_
 (repeat (first | refine gO rfl ?_ | (refine gR fun K1 hK1 => ?_; simp only [go_sem, ↓reduceIte, reduceCtorEq, nA, nB, nC, nD, nE, nF, hml] <;> and_intros <;> first | (apply hK1; clear hK1 K1) | (intros; first | omega | decide | (simp_all <;> omega)) | skip)))
 refine awp_loopC (rl false [0, 2, 4, 3, 45]) 0 (fun g s => ∃ i j : Nat, g + i = j ∧ j ≤ l.length ∧ (∀ k, k < i → ltB (sAt l k) x = true) ∧ (∀ k, j ≤ k → k < l.length → ltB (sAt l k) x = false) ∧
  s = ⟨((.row 1 (l.map encS) kk) :: (.v (.string x)) :: (jnk 4 ((.v (.int .i64 l.length)) :: (.v (.int .i64 i)) :: (.v (.int .i64 j)) :: (jnk 45 [])))), [], h⟩) l.length ⟨0, l.length, by omega, Nat.le_refl _, fun k hk => by omega, fun k h1 h2 => by omega, rfl⟩ ?_
 rintro g _ ⟨i, j, hg, hj, hi1, hj1, rfl⟩
 (repeat (first | refine gO rfl ?_ | (refine gR fun K1 hK1 => ?_; simp only [go_sem, ↓reduceIte, reduceCtorEq, nA, nB, nC, nD, nE, nF] <;> and_intros <;> first | (apply hK1; clear hK1 K1) | (intros; first | omega | decide) | skip)))
 refine awp_cond (t := _) rfl (fun h1 => ?_) (fun h1 => ?_)
 ·simp only [decide_eq_true_eq] at h1
  have hij : i < j := by omega
  obtain ⟨m, hm⟩ : ∃ m : Nat, m = (i + j) / 2 := ⟨_, rfl⟩
  have hm3 : ((i : Int) + (j : Int)) / 2 = (m : Int) := by omega
  have hmj : m < j := by omega
  have him : i ≤ m := by omega
  have hw := hw1 i j (by omega)
  have gx : (l.map encS).getD m [] = [.v (.string (sAt l m))] := row_strD l m (by omega)
  have hc := g_lessS (sAt l m) x
  clear hm
  (repeat (first | refine gO rfl ?_ | (refine gR fun K1 hK1 => ?_; simp only [go_sem, ↓reduceIte, reduceCtorEq, nA, nB, nC, nD, nE, nF, hw, hw2, hm3, hml, Int.toNat_natCast, gx] <;> and_intros <;> first | (apply hK1; clear hK1 K1) | (intros; first | omega | decide) | skip)))
  refine hc h |>.mono ?_
  rintro _ hz ⟨rfl, hh⟩; apply hK1; clear hK1 K1; rw [hh]; clear hh hz
  (repeat (first | refine gO rfl ?_ | (refine gR fun K1 hK1 => ?_; simp only [go_sem, ↓reduceIte, reduceCtorEq, nA, nB, nC, nD, nE, nF] <;> and_intros <;> first | (apply hK1; clear hK1 K1) | (intros; first | omega | decide) | skip)))
  refine awp_cond (t := _) rfl (fun h2 => ?_) (fun h2 => ?_)
  ·(repeat (first | refine gO rfl ?_ | (refine gR fun K1 hK1 => ?_; simp only [go_sem, ↓reduceIte, reduceCtorEq, nA, nB, nC, nD, nE, nF] <;> and_intros <;> first | (apply hK1; clear hK1 K1) | (intros; first | omega | decide) | skip)))
   refine ⟨g - (m + 1 - i), by omega, m + 1, j, by omega, hj, fun k hk => ?_, hj1, rfl⟩
   by_cases hkm : k = m
   ·rw [hkm]; exact h2
   ·exact ltB_trans (sAt_lt hs (show k < m by omega) (by omega)) h2
  ·(repeat (first | refine gO rfl ?_ | (refine gR fun K1 hK1 => ?_; simp only [go_sem, ↓reduceIte, reduceCtorEq, nA, nB, nC, nD, nE, nF] <;> and_intros <;> first | (apply hK1; clear hK1 K1) | (intros; first | omega | decide) | skip)))
   refine ⟨g - (j - m), by omega, i, m, by omega, by omega, hi1, fun k hk1 hk2 => ?_, rfl⟩
   by_cases hkm : k = m
   ·rw [hkm]; exact h2
   ·cases h4 : ltB (sAt l k) x with
    | false => rfl
    | true => rw [ltB_trans (sAt_lt hs (show m < k by omega) hk2) h4] at h2; cases h2
 ·simp only [decide_eq_false_iff_not] at h1
  have hij : i = j := by omega
  subst hij
  by_cases h2 : i < l.length
  ·have h2d : ((i : Int) < (l.length : Int)) := by omega
   have gx : (l.map encS).getD i [] = [.v (.string (sAt l i))] := row_strD l i h2
   by_cases h3 : sAt l i = x
   ·have h3b : (sAt l i == x) = true := by rw [ba_beq, h3]; simp
    (repeat (first | refine gO rfl ?_ | (refine gR fun K1 hK1 => ?_; simp only [go_sem, ↓reduceIte, reduceCtorEq, nA, nB, nC, nD, nE, nF, hml, Int.toNat_natCast, gx, h2d, decide_true, h3b] <;> and_intros <;> first | (apply hK1; clear hK1 K1) | (intros; first | omega | decide) | skip)))
    simp only [Tryz.results150, go_sem, ↓reduceIte, reduceCtorEq, nA, nB, nC, nD, nE, nF]
    have hmb : memB l x = true := memB_iff.2 (by rw [← h3]; exact sAt_mem h2)
    exact ⟨_, _, Weak.refl _, Hp.le.refl _, ⟨i, by rw [hmb]⟩, rfl⟩
   ·have h3b : (sAt l i == x) = false := by rw [ba_beq]; exact decide_eq_false h3
    have hmb : memB l x = false := by
     cases hm : memB l x with
     | false => rfl
     | true =>
      exfalso
      obtain ⟨k, hk, e⟩ := mem_sAt (memB_iff.1 hm)
      rcases Nat.lt_trichotomy k i with h5 | h5 | h5
      ·have := hi1 k h5; rw [e, ltB_irr] at this; cases this
      ·subst h5; exact h3 e
      ·have h6 := sAt_lt hs h5 hk
       rw [e, hj1 i (Nat.le_refl _) h2] at h6; cases h6
    (repeat (first | refine gO rfl ?_ | (refine gR fun K1 hK1 => ?_; simp only [go_sem, ↓reduceIte, reduceCtorEq, nA, nB, nC, nD, nE, nF, hml, Int.toNat_natCast, gx, h2d, decide_true, h3b] <;> and_intros <;> first | (apply hK1; clear hK1 K1) | (intros; first | omega | decide) | skip)))
    rotate_left
    ·exact fun h => h.elim
    refine (g_nanS (sAt l i) h).mono ?_
    rintro _ hz ⟨rfl, hh⟩; refine ⟨rfl, ?_⟩; apply hK1; clear hK1 K1; rw [hh]; clear hh hz
    (repeat (first | refine gO rfl ?_ | (refine gR fun K1 hK1 => ?_; simp only [go_sem, ↓reduceIte, reduceCtorEq, nA, nB, nC, nD, nE, nF] <;> and_intros <;> first | (apply hK1; clear hK1 K1) | (intros; first | omega | decide) | skip)))
    simp only [Tryz.results150, go_sem, ↓reduceIte, reduceCtorEq, nA, nB, nC, nD, nE, nF]
    exact ⟨_, _, Weak.refl _, Hp.le.refl _, ⟨i, by rw [hmb]⟩, rfl⟩
  ·have h2d : ((i : Int) < (l.length : Int)) = False := eq_false (by omega)
   have hmb : memB l x = false := by
    cases hm : memB l x with
    | false => rfl
    | true =>
     exfalso
     obtain ⟨k, hk, e⟩ := mem_sAt (memB_iff.1 hm)
     have := hi1 k (by omega); rw [e, ltB_irr] at this; cases this
   have gx : (l.map encS).getD i [] = [] := by rw [List.getD_eq_getElem?_getD, List.getElem?_eq_none (by omega)]; rfl
   (repeat (first | refine gO rfl ?_ | (refine gR fun K1 hK1 => ?_; simp only [go_sem, ↓reduceIte, reduceCtorEq, nA, nB, nC, nD, nE, nF, h2d, decide_false, Int.toNat_natCast, gx, List.getD_nil] <;> and_intros <;> first | (apply hK1; clear hK1 K1) | (intros; first | omega | decide) | skip)))
   refine ⟨.v (.bool false), rfl, rfl, ?_⟩
   ((simp only [go_sem, ↓reduceIte, reduceCtorEq, nA, nB, nC, nD, nE, nF, h2d]; (try and_intros); all_goals first | (refine hK1 _ ?_; clear hK1 K1) | (intros; first | omega | decide | (simp_all <;> omega)) | skip))
   (repeat (first | refine gO rfl ?_ | (refine gR fun K1 hK1 => ?_; simp only [go_sem, ↓reduceIte, reduceCtorEq, nA, nB, nC, nD, nE, nF] <;> and_intros <;> first | (apply hK1; clear hK1 K1) | (intros; first | omega | decide) | skip)))
   simp only [Tryz.results150, go_sem, ↓reduceIte, reduceCtorEq, nA, nB, nC, nD, nE, nF]
   exact ⟨_, _, Weak.refl _, Hp.le.refl _, ⟨i, by rw [hmb]⟩, rfl⟩
theorem inTags_step (tags l : List ByteArray) (j : Nat) (hj : j < l.length) : inTags tags (l.drop j) = (memB tags l[j] && inTags tags (l.drop (j + 1))) := by
 rw [List.drop_eq_getElem_cons hj]; rfl
theorem g_within (l tags : List ByteArray) (kk kt : Option Nat) (h : Hp) (hl : l.length ≤ 1000) (ht : tags.length ≤ 1000) (hs : tags.Pairwise fun a b => ltB a b = true) :
  ACalls Tryz.prog 113 [.row 1 (l.map encS) kk, .row 1 (tags.map encS) kt] h (fun r h' => r = .v (.bool (inTags tags l)) ∧ h' = h) := by
 have hml : (l.map encS).length = l.length := List.length_map _
 refine gE Tryz.func113 rfl (by kernel_rfl) 22 rfl fun c => ?_
 (repeat (first | refine gO rfl ?_ | (refine gR fun K1 hK1 => ?_; simp only [go_sem, ↓reduceIte, reduceCtorEq, nA, nB, nC, nD, nE, nF, hml] <;> and_intros <;> first | (apply hK1; clear hK1 K1) | (intros; first | omega | decide) | skip)))
 refine awp_loopC (rl false [1, 1, 7, 3, 12]) 0 (fun g s => ∃ (j : Nat), g + j = l.length ∧ inTags tags (l.drop j) = inTags tags l ∧
  s = ⟨(AV.junk :: ((.row 1 (tags.map encS) kt) :: (jnk 7 ((.row 1 (l.map encS) kk) :: (.v (.int .i64 l.length)) :: (.v (.int .i64 j)) :: (jnk 12 []))))), [], h⟩) l.length ⟨0, by omega, rfl, rfl⟩ ?_
 rintro g _ ⟨j, hj, hinv, rfl⟩
 (repeat (first | refine gO rfl ?_ | (refine gR fun K1 hK1 => ?_; simp only [go_sem, ↓reduceIte, reduceCtorEq, nA, nB, nC, nD, nE, nF] <;> and_intros <;> first | (apply hK1; clear hK1 K1) | (intros; first | omega | decide) | skip)))
 refine awp_cond (t := _) rfl (fun h5 => ?_) (fun h5 => ?_)
 ·simp only [decide_eq_true_eq] at h5
  have hjl : j < l.length := by omega
  have gx := row_str l j hjl
  rw [inTags_step tags l j hjl] at hinv
  have hb := g_bs tags l[j] kt h ht hs
  generalize l[j] = x at *
  (repeat (first | refine gO rfl ?_ | (refine gR fun K1 hK1 => ?_; simp only [go_sem, ↓reduceIte, reduceCtorEq, nA, nB, nC, nD, nE, nF, hml, Int.toNat_natCast, gx] <;> and_intros <;> first | (apply hK1; clear hK1 K1) | (intros; first | omega | decide) | skip)))
  refine hb.mono ?_
  rintro _ _ ⟨⟨i, rfl⟩, rfl⟩; apply hK1; clear hK1 K1
  (repeat (first | refine gO rfl ?_ | (refine gR fun K1 hK1 => ?_; simp only [go_sem, ↓reduceIte, reduceCtorEq, nA, nB, nC, nD, nE, nF] <;> and_intros <;> first | (apply hK1; clear hK1 K1) | (intros; first | omega | decide) | skip)))
  cases hm : memB tags x with
  | false =>
   refine awp_cond (t := _) rfl (fun _ => ?_) (fun h6 => by simp [hm] at h6)
   (repeat (first | refine gO rfl ?_ | (refine gR fun K1 hK1 => ?_; simp only [go_sem, ↓reduceIte, reduceCtorEq, nA, nB, nC, nD, nE, nF] <;> and_intros <;> first | (apply hK1; clear hK1 K1) | (intros; first | omega | decide) | skip)))
   simp only [Tryz.results113, go_sem, ↓reduceIte, reduceCtorEq, nA, nB, nC, nD, nE, nF]
   rw [hm, Bool.false_and] at hinv
   exact ⟨_, _, Weak.refl _, Hp.le.refl _, by rw [← hinv], rfl⟩
  | true =>
   refine awp_cond (t := _) rfl (fun h6 => by simp [hm] at h6) (fun _ => ?_)
   (repeat (first | refine gO rfl ?_ | (refine gR fun K1 hK1 => ?_; simp only [go_sem, ↓reduceIte, reduceCtorEq, nA, nB, nC, nD, nE, nF] <;> and_intros <;> first | (apply hK1; clear hK1 K1) | (intros; first | omega | decide) | skip)))
   rw [hm, Bool.true_and] at hinv
   exact ⟨g - 1, by omega, j + 1, by omega, hinv, rfl⟩
 ·simp only [decide_eq_false_iff_not] at h5
  have hjl : j = l.length := by omega
  subst hjl
  rw [List.drop_length] at hinv
  (repeat (first | refine gO rfl ?_ | (refine gR fun K1 hK1 => ?_; simp only [go_sem, ↓reduceIte, reduceCtorEq, nA, nB, nC, nD, nE, nF] <;> and_intros <;> first | (apply hK1; clear hK1 K1) | (intros; first | omega | decide) | skip)))
  simp only [Tryz.results113, go_sem, ↓reduceIte, reduceCtorEq, nA, nB, nC, nD, nE, nF]
  exact ⟨_, _, Weak.refl _, Hp.le.refl _, by rw [← hinv]; rfl, rfl⟩
theorem g_idxStr (fid : Nat) (caps : List AV) (W : List ByteArray) (p : ByteArray → Bool) (kk : Option Nat) (hl : W.length ≤ 100000) (h : Hp) (step : ∀ l ∈ W, ACalls Tryz.prog fid (.v (.string l) :: caps) h (fun r h'' => r = .v (.bool (p l)) ∧ h'' = h)) :
  ACalls Tryz.prog 151 [.row 1 (W.map encS) kk, .fn fid caps] h (fun r h' => ∃ i : Int, r = .v (.int .i64 i) ∧ decide (0 ≤ i) = W.any p ∧ h' = h) := by
 have hll : (W.map encS).length = W.length := List.length_map _
 refine gE Tryz.func151 rfl (by kernel_rfl) 17 rfl fun c => ?_
 (repeat (first | refine gO rfl ?_ | (refine gR fun K1 hK1 => ?_; simp only [go_sem, ↓reduceIte, reduceCtorEq, nA, nB, nC, nD, nE, nF, hll] <;> and_intros <;> first | (apply hK1; clear hK1 K1) | (intros; first | omega | decide | (simp_all <;> omega)) | skip)))
 refine awp_loopC (rl false [0, 2, 5, 2, 10]) 0 (fun g s => ∃ (j : Nat), g + j = W.length ∧ (W.take j).any p = false ∧ s = ⟨((.row 1 (W.map encS) kk) :: (.fn fid caps) :: (jnk 5 ((.v (.int .i64 W.length)) :: (.v (.int .i64 j)) :: (jnk 10 [])))), [], h⟩) W.length ⟨0, by omega, rfl, rfl⟩ ?_
 rintro g _ ⟨j, hj, hno, rfl⟩
 (repeat (first | refine gO rfl ?_ | (refine gR fun K1 hK1 => ?_; simp only [go_sem, ↓reduceIte, reduceCtorEq, nA, nB, nC, nD, nE, nF] <;> and_intros <;> first | (apply hK1; clear hK1 K1) | (intros; first | omega | decide | (simp_all <;> omega)) | skip)))
 refine awp_cond (t := _) rfl (fun h5 => ?_) (fun h5 => ?_)
 ·simp only [decide_eq_true_eq] at h5
  have hjk : j < W.length := by omega
  have hg := row_str W j hjk
  have st := step W[j] (List.getElem_mem _)
  have hta : (W.take (j + 1)).any p = ((W.take j).any p || p W[j]) := by rw [List.take_succ_eq_append_getElem hjk, List.any_append]; simp
  (repeat (first | refine gO rfl ?_ | (refine gR fun K1 hK1 => ?_; simp only [go_sem, ↓reduceIte, reduceCtorEq, nA, nB, nC, nD, nE, nF, Int.toNat_natCast, hg, hll] <;> and_intros <;> first | (apply hK1; clear hK1 K1) | (intros; first | omega | decide | (simp_all <;> omega)) | skip)))
  refine st.mono ?_; rintro _ hz ⟨rfl, hh⟩; apply hK1; clear hK1 K1; rw [hh]; clear hh hz
  (repeat (first | refine gO rfl ?_ | (refine gR fun K1 hK1 => ?_; simp only [go_sem, ↓reduceIte, reduceCtorEq, nA, nB, nC, nD, nE, nF] <;> and_intros <;> first | (apply hK1; clear hK1 K1) | (intros; first | omega | decide) | skip)))
  refine awp_cond (t := _) rfl (fun h6 => ?_) (fun h6 => ?_)
  ·(repeat (first | refine gO rfl ?_ | (refine gR fun K1 hK1 => ?_; simp only [go_sem, ↓reduceIte, reduceCtorEq, nA, nB, nC, nD, nE, nF] <;> and_intros <;> first | (apply hK1; clear hK1 K1) | (intros; first | omega | decide) | skip)))
   simp only [Tryz.results151, go_sem, ↓reduceIte, reduceCtorEq, nA, nB, nC, nD, nE, nF]
   refine ⟨_, _, Weak.refl _, Hp.le.refl _, (j : Int), rfl, ?_, rfl⟩
   rw [h6, Bool.or_true] at hta
   have e : W.any p = ((W.take (j + 1)).any p || (W.drop (j + 1)).any p) := by rw [← List.any_append, List.take_append_drop]
   rw [e, hta, Bool.true_or]
   exact decide_eq_true (by omega)
  ·(repeat (first | refine gO rfl ?_ | (refine gR fun K1 hK1 => ?_; simp only [go_sem, ↓reduceIte, reduceCtorEq, nA, nB, nC, nD, nE, nF] <;> and_intros <;> first | (apply hK1; clear hK1 K1) | (intros; first | omega | decide | (simp_all <;> omega)) | skip)))
   exact ⟨g - 1, by omega, j + 1, by omega, by rw [hta, hno, h6]; rfl, rfl⟩
 ·simp only [decide_eq_false_iff_not] at h5
  have hjk : j = W.length := by omega
  subst hjk
  rw [List.take_length] at hno
  (repeat (first | refine gO rfl ?_ | (refine gR fun K1 hK1 => ?_; simp only [go_sem, ↓reduceIte, reduceCtorEq, nA, nB, nC, nD, nE, nF] <;> and_intros <;> first | (apply hK1; clear hK1 K1) | (intros; first | omega | decide | (simp_all <;> omega)) | skip)))
  simp only [Tryz.results151, go_sem, ↓reduceIte, reduceCtorEq, nA, nB, nC, nD, nE, nF]
  exact ⟨_, _, Weak.refl _, Hp.le.refl _, -1, rfl, by rw [hno]; rfl, rfl⟩
theorem g_anyStr (fid : Nat) (caps : List AV) (W : List ByteArray) (p : ByteArray → Bool) (kk : Option Nat) (hl : W.length ≤ 100000) (h : Hp) (step : ∀ l ∈ W, ACalls Tryz.prog fid (.v (.string l) :: caps) h (fun r h'' => r = .v (.bool (p l)) ∧ h'' = h)) :
  ACalls Tryz.prog 114 [.row 1 (W.map encS) kk, .fn fid caps] h (fun r h' => r = .v (.bool (W.any p)) ∧ h' = h) := by
 refine gE Tryz.func114 rfl (by kernel_rfl) 7 rfl fun c => ?_
 (repeat (first | refine gO rfl ?_ | (refine gR fun K1 hK1 => ?_; simp only [go_sem, ↓reduceIte, reduceCtorEq, nA, nB, nC, nD, nE, nF] <;> and_intros <;> first | (apply hK1; clear hK1 K1) | (intros; first | omega | decide | (simp_all <;> omega)) | skip)))
 refine (g_idxStr fid caps W p kk hl h step).mono ?_
 rintro _ h2 ⟨i, rfl, hi, hg2⟩; apply hK1; clear hK1 K1
 (repeat (first | refine gO rfl ?_ | (refine gR fun K1 hK1 => ?_; simp only [go_sem, ↓reduceIte, reduceCtorEq, nA, nB, nC, nD, nE, nF, hi] <;> and_intros <;> first | (apply hK1; clear hK1 K1) | (intros; first | omega | decide) | skip)))
 simp only [Tryz.results114, go_sem, ↓reduceIte, reduceCtorEq, nA, nB, nC, nD, nE, nF]
 exact ⟨_, _, Weak.refl _, Hp.le.refl _, by simp [hi], hg2⟩
theorem g_with1 (tags : List ByteArray) (x : ByteArray) (kt : Option Nat) (ht : tags.length ≤ 1000) (h : Hp) :
  ACalls Tryz.prog 115 [.v (.string x), .ref [.row 1 (tags.map encS) kt] 0] h (fun r h' => r = .v (.bool (!memB tags x)) ∧ h' = h) := by
 refine gE Tryz.func115 rfl (by kernel_rfl) 6 rfl fun c => ?_
 (repeat (first | refine gO rfl ?_ | (refine gR fun K1 hK1 => ?_; simp only [go_sem, ↓reduceIte, reduceCtorEq, nA, nB, nC, nD, nE, nF] <;> and_intros <;> first | (apply hK1; clear hK1 K1) | (intros; first | omega | decide) | skip)))
 refine (g_hasS tags x kt h (by omega)).mono ?_; rintro _ hz ⟨rfl, hh⟩; apply hK1; clear hK1 K1; rw [hh]; clear hh hz
 (repeat (first | refine gO rfl ?_ | (refine gR fun K1 hK1 => ?_; simp only [go_sem, ↓reduceIte, reduceCtorEq, nA, nB, nC, nD, nE, nF] <;> and_intros <;> first | (apply hK1; clear hK1 K1) | (intros; first | omega | decide) | skip)))
 simp only [Tryz.results115, go_sem, ↓reduceIte, reduceCtorEq, nA, nB, nC, nD, nE, nF]
 have e : (tags.any fun y => x == y) = memB tags x := by
  unfold memB
  refine congrArg (fun f => tags.any f) (funext fun y => ?_)
  rw [ba_beq]; exact decide_eq_decide.2 ⟨Eq.symm, Eq.symm⟩
 exact ⟨_, _, Weak.refl _, Hp.le.refl _, by rw [e], rfl⟩
theorem g_withinR (l tags : List ByteArray) (kk kt : Option Nat) (h : Hp) (hl : l.length ≤ 1000) (ht : tags.length ≤ 1000) :
  ACalls Tryz.prog 76 [.row 1 (l.map encS) kk, .row 1 (tags.map encS) kt] h (fun r h' => r = .v (.bool (inTags tags l)) ∧ h' = h) := by
 refine gE Tryz.func76 rfl (by kernel_rfl) 7 rfl fun c => ?_
 (repeat (first | refine gO rfl ?_ | (refine gR fun K1 hK1 => ?_; simp only [go_sem, ↓reduceIte, reduceCtorEq, nA, nB, nC, nD, nE, nF] <;> and_intros <;> first | (apply hK1; clear hK1 K1) | (intros; first | omega | decide) | skip)))
 refine (g_anyStr _ [.ref [.row 1 (tags.map encS) kt] 0] l (fun x => !memB tags x) kk (by omega) h (fun x _ => g_with1 tags x kt ht h)).mono ?_; rintro _ hz ⟨rfl, hh⟩; apply hK1; clear hK1 K1; rw [hh]; clear hh hz
 (repeat (first | refine gO rfl ?_ | (refine gR fun K1 hK1 => ?_; simp only [go_sem, ↓reduceIte, reduceCtorEq, nA, nB, nC, nD, nE, nF] <;> and_intros <;> first | (apply hK1; clear hK1 K1) | (intros; first | omega | decide) | skip)))
 simp only [Tryz.results76, go_sem, ↓reduceIte, reduceCtorEq, nA, nB, nC, nD, nE, nF]
 have e : (!(l.any fun x => !memB tags x)) = inTags tags l := by
  unfold inTags
  rw [List.any_eq_not_all_not]
  simp only [Bool.not_not]
  rfl
 exact ⟨_, _, Weak.refl _, Hp.le.refl _, by rw [e], rfl⟩
theorem g_hasW (a b x : Int) (h : Hp) : ACalls Tryz.prog 75 [.agg [.v (.int .i64 a), .v (.int .i64 b)], .v (.int .i64 x)] h (fun r h' => r = .v (.bool (decide (a ≤ x) && decide (x < b))) ∧ h' = h) := by
 obtain ⟨x1, e1⟩ : ∃ c, decide (a ≤ x) = c := ⟨_, rfl⟩
 obtain ⟨x2, e2⟩ : ∃ c, decide (x < b) = c := ⟨_, rfl⟩
 rw [e1, e2]
 refine gE Tryz.func75 rfl (by kernel_rfl) 13 rfl fun c => ?_
 cases x1 <;> cases x2
 all_goals
  (repeat (first | refine gO rfl ?_ | (refine gR fun K1 hK1 => ?_; simp only [go_sem, ↓reduceIte, reduceCtorEq, nA, nB, nC, nD, nE, nF, e1, e2] <;> and_intros <;> first | (apply hK1; clear hK1 K1) | (intros; first | omega | decide) | skip)))
  simp only [Tryz.results75, go_sem, ↓reduceIte, reduceCtorEq, nA, nB, nC, nD, nE, nF]
  exact ⟨_, _, Weak.refl _, Hp.le.refl _, rfl, rfl⟩
theorem mayL_step (tags : List ByteArray) (item : ByteArray) (x : Int) (rs : List Rt) (o : Bool) (j : Nat) (hj : j < rs.length) : mayL tags item x (rs.drop j) o = if hitR tags item x rs[j] = true then (if rs[j].2.2.2.2 = true then false else mayL tags item x (rs.drop (j + 1)) true) else mayL tags item x (rs.drop (j + 1)) o := by
 rw [List.drop_eq_getElem_cons hj, mayL]
theorem g_mayRT (rs : List Rt) (p : Gu) (item : ByteArray) (x : Int) (kk : Option Nat) (hl : rs.length ≤ 500) (hok : ∀ r ∈ rs, RtOk r) (h4 : p.tags.length ≤ 1000) (h : Hp) :
  ACalls Tryz.prog 22 [.row 5 (rs.map encRt) kk, .agg (encGu p), .v (.string item), .v (.int .i64 x)] h (fun r h' => r = .v (.bool (mayL p.tags item x rs false)) ∧ h' = h) := by
 obtain ⟨key, scr, zone, tags⟩ := p
 simp only at h4
 unfold encGu encGr
 simp only
 have hml : (rs.map encRt).length = rs.length := List.length_map _
 refine gE Tryz.func22 rfl (by kernel_rfl) 35 rfl fun c => ?_
 (repeat (first | refine gO rfl ?_ | (refine gM zM23 fun K1 hK1 => ?_; simp only [go_sem, ↓reduceIte, reduceCtorEq, nA, nB, nC, nD, nE, nF, hml] <;> and_intros <;> first | (apply hK1; clear hK1 K1) | (intros; first | omega | decide) | skip)))
 refine awp_loopC (rl false [2, 2, 1, 1, 3, 1, 2, 3, 24]) 0 (fun g s => ∃ (j : Nat) (o : Bool), g + j = rs.length ∧ mayL tags item x (rs.drop j) o = mayL tags item x rs false ∧
  s = ⟨(AV.junk :: AV.junk :: ((.v (.string item)) :: (.v (.int .i64 x)) :: AV.junk :: ((.ref [.v (.string key), .v (.string scr), .v (.int .i64 zone), .row 1 (tags.map encS) none] 0) :: (jnk 3 ((.v (.bool o)) :: AV.junk :: AV.junk :: ((.row 5 (rs.map encRt) kk) :: (.v (.int .i64 rs.length)) :: (.v (.int .i64 j)) :: (jnk 24 []))))))), [], h⟩) rs.length ⟨0, false, by omega, rfl, rfl⟩ ?_
 rintro g _ ⟨j, o, hj, hinv, rfl⟩
 (repeat (first | refine gO rfl ?_ | (refine gM zM23 fun K1 hK1 => ?_; simp only [go_sem, ↓reduceIte, reduceCtorEq, nA, nB, nC, nD, nE, nF] <;> and_intros <;> first | (apply hK1; clear hK1 K1) | (intros; first | omega | decide) | skip)))
 refine awp_cond (t := _) rfl (fun h5 => ?_) (fun h5 => ?_)
 ·simp only [decide_eq_true_eq] at h5
  have hjl : j < rs.length := by omega
  have gx : (rs.map encRt).getD j [] = encRt rs[j] := by rw [List.getD_eq_getElem?_getD, List.getElem?_map, List.getElem?_eq_getElem hjl]; rfl
  have hro := hok _ (List.getElem_mem hjl)
  rw [mayL_step tags item x rs o j hjl] at hinv
  generalize rs[j] = r at *
  obtain ⟨it, tg, fr, t2, bb⟩ := r
  rw [show encRt (it, tg, fr, t2, bb) = [.v (.string it), .row 1 (tg.map encS) none, .v (.int .i64 fr), .v (.int .i64 t2), .v (.bool bb)] from rfl] at gx
  obtain ⟨hs1, ⟨hs2, hs3⟩, hs4, hs5⟩ := hro
  simp only at hs1 hs2 hs3 hs4 hs5
  obtain ⟨x1, e1⟩ : ∃ c, (it == item) = c := ⟨_, rfl⟩
  obtain ⟨x2, e2⟩ : ∃ c, decide (fr ≤ x) = c := ⟨_, rfl⟩
  obtain ⟨x3, e3⟩ : ∃ c, decide (x < t2) = c := ⟨_, rfl⟩
  have hit : hitR tags item x (it, tg, fr, t2, bb) = (x1 && (x2 && x3) && inTags tags tg) := by
   unfold hitR hasR
   rw [← ba_beq]
   simp only [e1, e2, e3]
  rw [hit] at hinv
  have hW := g_withinR tg tags none none h (by omega) (by omega)
  have hH := g_hasW fr t2 x h
  rw [e2, e3] at hH
  cases x1 with
  | false =>
   (repeat (first | refine gO rfl ?_ | (refine gM zM23 fun K1 hK1 => ?_; simp only [go_sem, ↓reduceIte, reduceCtorEq, nA, nB, nC, nD, nE, nF, hml, Int.toNat_natCast, gx, e1] <;> and_intros <;> first | (apply hK1; clear hK1 K1) | (intros; first | omega | decide) | skip)))
   refine awp_cond (t := _) rfl (fun h6 => by cases h6) (fun _ => ?_)
   (repeat (first | refine gO rfl ?_ | (refine gM zM23 fun K1 hK1 => ?_; simp only [go_sem, ↓reduceIte, reduceCtorEq, nA, nB, nC, nD, nE, nF] <;> and_intros <;> first | (apply hK1; clear hK1 K1) | (intros; first | omega | decide) | skip)))
   exact ⟨g - 1, by omega, j + 1, o, by omega, hinv, rfl⟩
  | true =>
   (repeat (first | refine gO rfl ?_ | (refine gM zM23 fun K1 hK1 => ?_; simp only [go_sem, ↓reduceIte, reduceCtorEq, nA, nB, nC, nD, nE, nF, hml, Int.toNat_natCast, gx, e1] <;> and_intros <;> first | (apply hK1; clear hK1 K1) | (intros; first | omega | decide) | skip)))
   rotate_left
   ·exact fun h => h.elim
   refine hH.mono ?_
   rintro _ hz ⟨rfl, hh⟩; refine ⟨rfl, ?_⟩; apply hK1; clear hK1 K1; rw [hh]; clear hh hz
   cases hc : (x2 && x3) with
   | false =>
    rw [hc] at hinv
    (repeat (first | refine gO rfl ?_ | (refine gM zM23 fun K1 hK1 => ?_; simp only [go_sem, ↓reduceIte, reduceCtorEq, nA, nB, nC, nD, nE, nF, hml] <;> and_intros <;> first | (apply hK1; clear hK1 K1) | (intros; first | omega | decide) | skip)))
    refine awp_cond (t := _) rfl (fun h6 => by cases h6) (fun _ => ?_)
    (repeat (first | refine gO rfl ?_ | (refine gM zM23 fun K1 hK1 => ?_; simp only [go_sem, ↓reduceIte, reduceCtorEq, nA, nB, nC, nD, nE, nF] <;> and_intros <;> first | (apply hK1; clear hK1 K1) | (intros; first | omega | decide) | skip)))
    exact ⟨g - 1, by omega, j + 1, o, by omega, hinv, rfl⟩
   | true =>
    rw [hc] at hinv
    (repeat (first | refine gO rfl ?_ | (refine gM zM23 fun K1 hK1 => ?_; simp only [go_sem, ↓reduceIte, reduceCtorEq, nA, nB, nC, nD, nE, nF, hml] <;> and_intros <;> first | (apply hK1; clear hK1 K1) | (intros; first | omega | decide) | skip)))
    rotate_left
    ·exact fun h => h.elim
    refine hW.mono ?_
    rintro _ hz ⟨rfl, hh⟩; refine ⟨rfl, ?_⟩; apply hK1; clear hK1 K1; rw [hh]; clear hh hz
    (repeat (first | refine gO rfl ?_ | (refine gM zM23 fun K1 hK1 => ?_; simp only [go_sem, ↓reduceIte, reduceCtorEq, nA, nB, nC, nD, nE, nF, hml] <;> and_intros <;> first | (apply hK1; clear hK1 K1) | (intros; first | omega | decide) | skip)))
    simp only [Bool.true_and] at hinv
    cases hb : inTags tags tg with
    | false =>
     rw [hb] at hinv
     refine awp_cond (t := _) rfl (fun h6 => by cases h6) (fun _ => ?_)
     (repeat (first | refine gO rfl ?_ | (refine gM zM23 fun K1 hK1 => ?_; simp only [go_sem, ↓reduceIte, reduceCtorEq, nA, nB, nC, nD, nE, nF] <;> and_intros <;> first | (apply hK1; clear hK1 K1) | (intros; first | omega | decide) | skip)))
     exact ⟨g - 1, by omega, j + 1, o, by omega, hinv, rfl⟩
    | true =>
     rw [hb, if_pos rfl] at hinv
     refine awp_cond (t := _) rfl (fun _ => ?_) (fun h6 => by cases h6)
     (repeat (first | refine gO rfl ?_ | (refine gM zM23 fun K1 hK1 => ?_; simp only [go_sem, ↓reduceIte, reduceCtorEq, nA, nB, nC, nD, nE, nF] <;> and_intros <;> first | (apply hK1; clear hK1 K1) | (intros; first | omega | decide) | skip)))
     cases bb with
     | true =>
      refine awp_cond (t := _) rfl (fun _ => ?_) (fun h6 => by cases h6)
      (repeat (first | refine gO rfl ?_ | (refine gM zM23 fun K1 hK1 => ?_; simp only [go_sem, ↓reduceIte, reduceCtorEq, nA, nB, nC, nD, nE, nF] <;> and_intros <;> first | (apply hK1; clear hK1 K1) | (intros; first | omega | decide) | skip)))
      simp only [Tryz.results22, go_sem, ↓reduceIte, reduceCtorEq, nA, nB, nC, nD, nE, nF]
      exact ⟨_, _, Weak.refl _, Hp.le.refl _, by rw [← hinv]; rfl, rfl⟩
     | false =>
      refine awp_cond (t := _) rfl (fun h6 => by cases h6) (fun _ => ?_)
      (repeat (first | refine gO rfl ?_ | (refine gM zM23 fun K1 hK1 => ?_; simp only [go_sem, ↓reduceIte, reduceCtorEq, nA, nB, nC, nD, nE, nF] <;> and_intros <;> first | (apply hK1; clear hK1 K1) | (intros; first | omega | decide) | skip)))
      exact ⟨g - 1, by omega, j + 1, true, by omega, hinv, rfl⟩
 ·skip
  simp only [decide_eq_false_iff_not] at h5
  have hjl : j = rs.length := by omega
  subst hjl
  rw [List.drop_length, mayL] at hinv
  (repeat (first | refine gO rfl ?_ | (refine gM zM23 fun K1 hK1 => ?_; simp only [go_sem, ↓reduceIte, reduceCtorEq, nA, nB, nC, nD, nE, nF] <;> and_intros <;> first | (apply hK1; clear hK1 K1) | (intros; first | omega | decide) | skip)))
  simp only [Tryz.results22, go_sem, ↓reduceIte, reduceCtorEq, nA, nB, nC, nD, nE, nF]
  exact ⟨_, _, Weak.refl _, Hp.le.refl _, by rw [← hinv], rfl⟩
theorem g_mayR (rs : List Rt) (p : Gu) (item : ByteArray) (x : Int) (kk : Option Nat) (hl : rs.length ≤ 500) (hok : ∀ r ∈ rs, RtOk r) (hp : GuOk p) (h : Hp) :
  ACalls Tryz.prog 22 [.row 5 (rs.map encRt) kk, .agg (encGu p), .v (.string item), .v (.int .i64 x)] h (fun r h' => r = .v (.bool (mayL p.tags item x rs false)) ∧ h' = h) :=
 g_mayRT rs p item x kk hl hok (by have := hp.tg.len; omega) h
theorem guF_tags {p : Gu} (h : guF p = 0) : p.tags.Pairwise fun a b => ltB a b = true := by
 unfold guF at h
 split at h
 ·cases h
 ·split at h
  ·exact (rise_sorted _ _ h).1
  ·cases h
open Go Go.Lib
def onceI (l : List Int) : List Int := compact (l.mergeSort fun x y => decide (x ≤ y))
theorem comp_upI (d : Array Int) (hs : ∀ i j, i ≤ j → j < d.size → d[i]! ≤ d[j]!) : ∀ m, m ≤ d.size →
    (compactUpTo d m).Pairwise (fun x y => x ≤ y ∧ x ≠ y) ∧ ∀ x, x ∈ compactUpTo d m ↔ ∃ j, j < m ∧ d[j]! = x
  | 0, _ => ⟨by simp [compactUpTo], by simp [compactUpTo]⟩
  | m + 1, hm => by
    obtain ⟨h1, h2⟩ := comp_upI d hs m (by omega)
    rw [compactUpTo_succ]
    cases hk : keeps d m with
    | true =>
      simp only [if_true]
      refine ⟨List.pairwise_append.2 ⟨h1, by simp, fun x hx y hy => ?_⟩, fun x => ?_⟩
      · simp only [List.mem_singleton] at hy
        subst hy
        obtain ⟨j, hj, rfl⟩ := (h2 x).1 hx
        refine ⟨hs j m (by omega) (by omega), fun e => ?_⟩
        simp only [keeps, decide_eq_true_eq] at hk
        rcases hk with hk | hk
        · omega
        · have a1 := hs j (m - 1) (by omega) (by omega)
          have a2 := hs (m - 1) m (by omega) (by omega)
          rw [e] at a1
          exact hk (Int.le_antisymm a1 a2)
      · rw [List.mem_append, h2 x, List.mem_singleton]
        constructor
        · rintro (⟨j, hj, e⟩ | rfl)
          · exact ⟨j, by omega, e⟩
          · exact ⟨m, by omega, rfl⟩
        · rintro ⟨j, hj, e⟩
          by_cases hjm : j = m
          · subst hjm; exact .inr e.symm
          · exact .inl ⟨j, by omega, e⟩
    | false =>
      simp only [Bool.false_eq_true, if_false, List.append_nil]
      refine ⟨h1, fun x => ?_⟩
      rw [h2 x]
      simp only [keeps, decide_eq_false_iff_not, not_or, ne_eq, Decidable.not_not] at hk
      constructor
      · rintro ⟨j, hj, e⟩; exact ⟨j, by omega, e⟩
      · rintro ⟨j, hj, e⟩
        by_cases hjm : j = m
        · subst hjm; exact ⟨j - 1, by omega, by rw [← e, hk.2]⟩
        · exact ⟨j, by omega, e⟩
theorem onceI_ok (l : List Int) : SU (onceI l) l := by
  have hp := List.pairwise_mergeSort (le := fun x y : Int => decide (x ≤ y)) (fun a b c h1 h2 => by simp only [decide_eq_true_eq] at *; omega) (fun a b => by simp only [Bool.or_eq_true, decide_eq_true_eq]; omega) l
  have hm := List.mergeSort_perm l fun x y => decide (x ≤ y)
  unfold onceI
  generalize (l.mergeSort fun x y => decide (x ≤ y)) = zs at hp hm ⊢
  have hs : ∀ i j, i ≤ j → j < zs.toArray.size → zs.toArray[i]! ≤ zs.toArray[j]! := fun i j hij hj => by
    have hj' : j < zs.length := by simpa using hj
    have e1 : zs.toArray[i]! = zs[i] := by simp [getElem!_pos, show i < zs.length by omega]
    have e2 : zs.toArray[j]! = zs[j] := by simp [getElem!_pos, hj']
    rw [e1, e2]
    by_cases e : i = j
    · subst e; exact Int.le_refl _
    · have := List.pairwise_iff_getElem.1 hp i j (by omega) hj' (by omega)
      simpa using this
  obtain ⟨h1, h2⟩ := comp_upI zs.toArray hs zs.length (by simp)
  refine ⟨h1.imp (fun h => by omega), fun x => ?_⟩
  show x ∈ compactUpTo zs.toArray zs.length ↔ _
  rw [h2 x, ← hm.mem_iff]
  constructor
  · rintro ⟨j, hj, rfl⟩
    have e2 : zs.toArray[j]! = zs[j] := by simp [getElem!_pos, hj]
    rw [e2]; exact List.getElem_mem hj
  · intro hx
    obtain ⟨j, hj, e⟩ := List.getElem_of_mem hx
    exact ⟨j, hj, by rw [← e]; simp [getElem!_pos, hj]⟩
theorem onceI_len (l : List Int) : (onceI l).length ≤ l.length := by
  unfold onceI
  have h : ∀ zs : List Int, (compact zs).length ≤ zs.length := fun zs => by
    unfold compact compactUpTo
    rw [List.length_map]
    exact Nat.le_trans (List.length_filter_le _ _) (by simp)
  exact Nat.le_trans (h _) (by simp)
def edgA (item : ByteArray) (fr t2 : Int) (r : Rt) : List Int := [r.2.2.1, r.2.2.2.1].filter fun n => decide (r.1 = item) && (decide (fr < n) && decide (n < t2))
def cuts0 (item : ByteArray) (fr t2 : Int) (l : List Rt) : List Int := [fr, t2] ++ l.flatMap (edgA item fr t2)
theorem cuts0_mem (item : ByteArray) (fr t2 : Int) (l : List Rt) (x : Int) : x ∈ cuts0 item fr t2 l ↔ x ∈ cutsP item fr t2 l := by
  unfold cuts0 cutsP edgA
  simp only [List.mem_append, List.mem_flatMap, List.mem_filter, Bool.and_eq_true, decide_eq_true_eq]
  refine or_congr Iff.rfl ⟨?_, ?_⟩
  · rintro ⟨r, h1, h2, h3, h4⟩; exact ⟨⟨r, ⟨h1, h3⟩, h2⟩, h4⟩
  · rintro ⟨⟨r, ⟨h1, h3⟩, h2⟩, h4⟩; exact ⟨r, h1, h2, h3, h4⟩
theorem cuts0_len (item : ByteArray) (fr t2 : Int) (l : List Rt) : (cuts0 item fr t2 l).length ≤ 2 + 2 * l.length := by
  unfold cuts0
  rw [List.length_append]
  have h : ∀ l : List Rt, (l.flatMap (edgA item fr t2)).length ≤ 2 * l.length := fun l => by
    induction l with
    | nil => simp
    | cons r l ih =>
      rw [List.flatMap_cons, List.length_append, List.length_cons]
      have : (edgA item fr t2 r).length ≤ 2 := List.length_filter_le _ _
      omega
  have := h l
  simp only [List.length_cons, List.length_nil]
  omega
theorem edgesL_len (l : List Rt) : (edgesL l).length = 2 * l.length := by
  unfold edgesL
  induction l with
  | nil => rfl
  | cons r l ih => rw [List.flatMap_cons, List.length_append, ih, List.length_cons]; simp only [List.length_cons, List.length_nil]; omega
def timesP (tags : List ByteArray) (item : ByteArray) (fr t2 : Int) (l : List Rt) : List Wnd := runsW (fun x => mayL tags item x l false) (onceI (cuts0 item fr t2 l)) []
def timesR (tags : List ByteArray) (item : ByteArray) (fr t2 : Int) (l : List Rt) : List Wnd := runsW (fun x => mayL tags item x l false) (onceI (cutsR fr t2 (onceI (edgesL l)))) []
theorem timesRP (tags : List ByteArray) (item : ByteArray) (fr t2 : Int) (l : List Rt) (h : fr ≤ t2) : timesR tags item fr t2 l = timesP tags item fr t2 l := by
  have h1 := onceI_ok (cuts0 item fr t2 l)
  exact times_same tags item fr t2 l h ⟨h1.1, fun x => (h1.2 x).trans (cuts0_mem item fr t2 l x)⟩ (onceI_ok (edgesL l)).2 (onceI_ok _)
open Go Go.RowKit Go.Sort Go.Lib Go.Proofs
set_option maxHeartbeats 4000000
theorem repL_vals {α : Type} {G : Gh} (f : α → List Value) {us : List Value} (l : List α) (h : RepL G (l.map fun x => (f x).map AV.v).flatten us) : us = l.flatMap f := by
 have e : (l.map fun x => (f x).map AV.v).flatten = (l.flatMap f).map AV.v := by
  clear h
  induction l with
  | nil => rfl
  | cons x q ih => simp [ih]
 rw [e] at h
 obtain ⟨h1, h2⟩ := h
 apply List.ext_getElem (by simpa using h1)
 intro j a b
 have h3 := (h2 j (by simpa using b) a).1
 simp only [List.getElem_map] at h3 ⊢
 generalize us[j] = y at h3
 cases h3; rfl
theorem repL_vals_mk {α : Type} (G : Gh) (f : α → List Value) (h1 : ∀ x, ∀ v ∈ f x, v.oneCell' = true) (l : List α) : RepL G (l.map fun x => (f x).map AV.v).flatten (l.flatMap f) := by
 have e : (l.map fun x => (f x).map AV.v).flatten = (l.flatMap f).map AV.v := by
  induction l with
  | nil => rfl
  | cons x q ih => simp [ih]
 rw [e]
 refine ⟨by simp, fun j a b => ?_⟩
 have hv : ((l.flatMap f)[j]'(by simpa using a)).oneCell' = true := by
  obtain ⟨x, _, hx⟩ := List.mem_flatMap.1 (List.getElem_mem (show j < (l.flatMap f).length by simpa using a))
  exact h1 x _ hx
 simp only [List.getElem_map]
 exact ⟨.v _ hv, hv⟩
theorem vs_one {vs : Array Value} (h : vs.size = 1) : vs = #[vs.getD 0 undef] := by
 apply Array.ext (by simpa using h)
 intro j hj hj'
 simp only [List.size_toArray, List.length_cons, List.length_nil] at hj'
 have hc : j = 0 := by omega
 subst hc; simp [Array.getD, h]
def ivV (x : Int) : List Value := [.int .i64 x]
theorem iV_map (l : List Int) : l.map encI = l.map fun x => (ivV x).map AV.v := rfl
theorem iV_flat (l : List Int) : l.flatMap ivV = l.map (Value.int .i64) := by
 induction l with
 | nil => rfl
 | cons x q ih => rw [List.flatMap_cons, ih]; rfl
theorem iV_one (x : Int) : ∀ v ∈ ivV x, v.oneCell' = true := by
 intro v hv
 simp [ivV] at hv
 subst hv; rfl
theorem put_block {α : Type} [Inhabited α] (enc : α → Value) (w : World) (g q : Nat) (d : Array α) (os : Array Obj) (b : Nat) (hb : b < w.heap.size) (hne : b ≠ g) : (grow (putRow enc (Sort.ahead w q) g 0 d) os).heap[b]? = w.heap[b]? := by
 show ((w.heap.modify g (onCells _)) ++ os)[b]? = _
 rw [Array.getElem?_append_left (by simpa using hb), Array.getElem?_modify, if_neg (Ne.symm hne)]
theorem put_size {α : Type} [Inhabited α] (enc : α → Value) (w : World) (g q : Nat) (d : Array α) (os : Array Obj) : w.heap.size ≤ (grow (putRow enc (Sort.ahead w q) g 0 d) os).heap.size := by
 simp [grow, putRow, mapBlock, Sort.ahead]
theorem bel_grow (w : World) (os : Array Obj) : Below w.heap.size w (grow w os) :=
 ⟨rfl, rfl, rfl, by simp [grow], fun k hk => by show (w.heap ++ os)[k]? = _; rw [Array.getElem?_append_left hk]⟩
theorem own_bel {w w' : World} {b size n : Nat} {e : TypeId} {v : Value} {xs : List Value} (h : w.ownsRow b e size v n xs) (hb : Below w.heap.size w w') : w'.ownsRow b e size v n xs := by
 obtain ⟨h1, h2⟩ := h
 refine ⟨h1, ?_⟩
 rcases h2 with h2 | ⟨g, c, cur, e1, e2, e3, e4⟩
 ·exact .inl h2
 ·exact .inr ⟨g, c, cur, e1, e2, (hb.block g (Array.getElem?_eq_some_iff.1 e3).1).trans e3, e4⟩
theorem g_sortI (k : Nat) (l : List Int) (h : Hp) (hT : h.T k = some (.cont 1 (l.map encI))) (h0 : 0 < l.length) (hb : l.length ≤ 100000) :
  ACalls Tryz.prog 78 [.arr 1 k l.length] h (fun r h' => r = .tup [] ∧ h' = { h with T := upd h.T k (some (.cont 1 ((l.mergeSort fun x y => decide (x ≤ y)).map encI))) }) := by
 refine acalls_mk (by kernel_rfl) fun G w vs hs hv ha => ?_
 have r0 := ha 0 (by simp)
 rw [vs_one hv]
 generalize vs.getD 0 undef = v at r0
 simp only [List.getElem_cons_zero] at r0
 rw [iV_map] at hT
 have hml : (l.map fun x => (ivV x).map AV.v).length = l.length := by simp
 cases r0 with
 | arr _ _ _ q m c ho =>
 obtain ⟨hknx, ⟨q', c', e2, _, _⟩, hm⟩ := ho
 rcases hs.tok k _ hT with ⟨_, e1⟩ | ⟨tt, cur, E, htl, htm, htp, hth, hts, htc, htcm, htf, htz, hzx, htr⟩
 ·rw [e1] at hml; simp at hml; omega
 rw [htl] at hm
 obtain ⟨hxe, _⟩ := hm.2 (by rw [htm, hml])
 simp only [Value.slice.injEq] at hxe e2
 obtain ⟨rfl, rfl, rfl⟩ := hxe
 have hfl : (l.map fun x => (ivV x).map AV.v).flatten.length = l.length * 1 := by rw [flatten_len hzx, hml]
 rw [hfl] at htr
 have hcs := repL_vals ivV l htr
 rw [htz] at hts
 have hle : l.length ≤ tt.c := by rw [← hml, ← htm]; exact htc
 have hown : w.ownsRow 0 E 1 (.slice (some ⟨tt.g, 0, none⟩) l.length tt.c) l.length (l.map (Value.int .i64)) := by
  refine ⟨by simp, .inr ⟨tt.g, tt.c, cur, rfl, Nat.zero_le _, hth, hle, htcm, hts, ?_⟩⟩
  rw [← iV_flat]
  exact hcs
 have hblk : tt.g < w.heap.size := (Array.getElem?_eq_some_iff.1 hth).1
 obtain ⟨g4, c4, hv4, _, _, hnc4, _, _, hH⟩ := holds_of_ownsRow hown (by simp)
 simp only [Value.slice.injEq, Option.some.injEq, Addr.mk.injEq, and_true, true_and] at hv4
 obtain ⟨rfl, rfl⟩ := hv4
 have sm : Sim G [] ⟨[], [], h⟩ ⟨#[], []⟩ w := ⟨hs, Nat.le_refl _, fun t ht => by simp at ht, rfl, ⟨rfl, fun j b cs e => by simp at e, fun b hb => by simp at hb, List.nodup_nil⟩⟩
 refine (Tryz.slices_Sort_int tt.g 0 tt.c l w hH hblk (by omega)).mono ?_
 rintro e w' ⟨rfl, n, os, rfl⟩
 obtain ⟨ts, hts2⟩ : ∃ ts, ts = l.mergeSort fun x y => decide (x ≤ y) := ⟨_, rfl⟩
 rw [← hts2]
 have htl2 : ts.length = l.length := by rw [hts2, List.length_mergeSort]
 have own2 := own_bel (ownsRow_putRow (q := n) (k := l.length) hown htl2 (Nat.le_refl _)) (bel_grow (putRow (Value.int .i64) (Sort.ahead w n) tt.g 0 ts.toArray) os)
 rw [List.take_of_length_le (by omega)] at own2
 rcases own2.2 with ⟨h9, _⟩ | ⟨g9, c9, cur9, hv9, _, hh9, _, _, hsz9, hx9⟩
 ·cases h9
 simp only [Value.slice.injEq, Option.some.injEq, Addr.mk.injEq] at hv9
 obtain ⟨⟨rfl, _, _⟩, _, rfl⟩ := hv9
 have hzd : ∀ x ∈ ts.map fun x => (ivV x).map AV.v, x.length = 1 := fun x hx => by obtain ⟨y, _, rfl⟩ := List.mem_map.1 hx; rfl
 have hfd : (ts.map fun x => (ivV x).map AV.v).flatten.length = l.length := by rw [flatten_len hzd, List.length_map, htl2, Nat.mul_one]
 obtain ⟨G', rfl, s2, g2, f2⟩ := sm.setCont (k := k) (z := 1) (xs := ts.map fun x => (ivV x).map AV.v) (B := tt.g) (c := tt.c) (arr := cur9) (E := E) hT (fun b hb' hne => put_block _ w tt.g n _ os b hb' hne) hh9 hsz9
  htf hzd (by rw [hfd, show List.take l.length cur9.toList = List.take (l.length * 1) cur9.toList by rw [Nat.mul_one], hx9, ← iV_flat]; exact repL_vals_mk G ivV iV_one _) (by rw [List.length_map, htl2]; exact hle) htcm (by rw [List.length_map, htl2]; exact h0) (.inr ⟨by rw [hml, List.length_map, htl2], rfl, tt, htl, rfl, rfl⟩) (.inr ⟨tt, htl, rfl⟩) rfl rfl rfl (put_size _ w tt.g n _ os)
 rw [← iV_map] at s2 f2 g2
 exact ⟨_, rfl, .tup [], _, _, ⟨rfl, rfl⟩, g2, f2, s2.hs, .tup [] #[] (fun _ => undef) rfl (fun j hj => by simp at hj) (fun j hj => by simp at hj)⟩
theorem Rep.cutRow {G : Gh} {xs ys : List (List AV)} {z : Nat} {a : Option Addr} {n c : Nat} (h : Rep G (.row z (xs ++ ys) none) (.slice a n c)) (hn : n = (xs ++ ys).length) : Rep G (.row z xs none) (.slice a xs.length c) := by
 rcases Rep.row_inv h with ⟨a', e1, e⟩ | ⟨g, o, c', us, e1, hc, hz, hru, hu⟩
 ·have e3 : xs = [] := (List.append_eq_nil_iff.1 e).1
  subst e3
  simp only [Value.slice.injEq] at e1
  obtain ⟨rfl, _, rfl⟩ := e1
  exact Rep.nilA _ _
 ·simp only [Value.slice.injEq] at e1
  obtain ⟨rfl, _, rfl⟩ := e1
  have h1 := hru.take xs.flatten.length
  rw [List.flatten_append, List.take_left] at h1
  refine Rep.row_mk (us := us.take xs.flatten.length) (by simp at hc; omega) (fun y hy => hz y (by simp [hy])) h1 fun j y hy => ?_
  rw [List.getElem?_take] at hy
  split at hy
  ·exact hu j y hy
  ·cases hy
theorem g_compI (k : Nat) (l : List Int) (h : Hp) (hT : h.T k = some (.cont 1 (l.map encI))) (h0 : 0 < l.length) (hb : l.length ≤ 100000) :
  ACalls Tryz.prog 79 [.arr 1 k l.length] h (fun r h' => r = .row 1 ((Lib.compact l).map encI) none ∧ h' = { h with T := upd h.T k none }) := by
 refine acalls_mk (by kernel_rfl) fun G w vs hs hv ha => ?_
 have r0 := ha 0 (by simp)
 rw [vs_one hv]
 generalize vs.getD 0 undef = v at r0
 simp only [List.getElem_cons_zero] at r0
 rw [iV_map] at hT
 have hml : (l.map fun x => (ivV x).map AV.v).length = l.length := by simp
 cases r0 with
 | arr _ _ _ q m c ho =>
 obtain ⟨hknx, ⟨q', c', e2, _, _⟩, hm⟩ := ho
 rcases hs.tok k _ hT with ⟨_, e1⟩ | ⟨tt, cur, E, htl, htm, htp, hth, hts, htc, htcm, htf, htz, hzx, htr⟩
 ·rw [e1] at hml; simp at hml; omega
 rw [htl] at hm
 obtain ⟨hxe, _⟩ := hm.2 (by rw [htm, hml])
 simp only [Value.slice.injEq] at hxe e2
 obtain ⟨rfl, rfl, rfl⟩ := hxe
 have hfl : (l.map fun x => (ivV x).map AV.v).flatten.length = l.length * 1 := by rw [flatten_len hzx, hml]
 rw [hfl] at htr
 have hcs := repL_vals ivV l htr
 rw [htz] at hts
 have hle : l.length ≤ tt.c := by rw [← hml, ← htm]; exact htc
 have hown : w.ownsRow 0 E 1 (.slice (some ⟨tt.g, 0, none⟩) l.length tt.c) l.length (l.map (Value.int .i64)) := by
  refine ⟨by simp, .inr ⟨tt.g, tt.c, cur, rfl, Nat.zero_le _, hth, hle, htcm, hts, ?_⟩⟩
  rw [← iV_flat]
  exact hcs
 have hblk : tt.g < w.heap.size := (Array.getElem?_eq_some_iff.1 hth).1
 obtain ⟨g4, c4, hv4, _, _, hnc4, _, _, hH⟩ := holds_of_ownsRow hown (by simp)
 simp only [Value.slice.injEq, Option.some.injEq, Addr.mk.injEq, and_true, true_and] at hv4
 obtain ⟨rfl, rfl⟩ := hv4
 have sm : Sim G [] ⟨[], [], h⟩ ⟨#[], []⟩ w := ⟨hs, Nat.le_refl _, fun t ht => by simp at ht, rfl, ⟨rfl, fun j b cs e => by simp at e, fun b hb => by simp at hb, List.nodup_nil⟩⟩
 refine (Tryz.slices_Compact_int tt.g 0 tt.c l w hH (by omega) hle).mono ?_
 rintro e w' ⟨rfl, n, rfl⟩
 have hcl := Lib.compact_length_le l
 obtain ⟨cs, hcs2⟩ : ∃ cs, cs = Lib.compact l := ⟨_, rfl⟩
 rw [← hcs2] at hcl ⊢
 obtain ⟨ts, hts2⟩ : ∃ ts, ts = cs ++ List.replicate (l.length - cs.length) (0 : Int) := ⟨_, rfl⟩
 rw [← hts2]
 have htl2 : ts.length = l.length := by rw [hts2]; simp; omega
 have own2 := own_bel (ownsRow_putRow (q := n) (k := l.length) hown htl2 (Nat.le_refl _)) (bel_grow (putRow (Value.int .i64) (Sort.ahead w n) tt.g 0 ts.toArray) #[])
 rw [List.take_of_length_le (by omega)] at own2
 have hg0 : grow (putRow (Value.int .i64) (Sort.ahead w n) tt.g 0 ts.toArray) #[] = putRow (Value.int .i64) (Sort.ahead w n) tt.g 0 ts.toArray := by
  unfold grow; rw [Array.append_empty]
 rw [← hg0]
 rcases own2.2 with ⟨h9, _⟩ | ⟨g9, c9, cur9, hv9, _, hh9, _, _, hsz9, hx9⟩
 ·cases h9
 simp only [Value.slice.injEq, Option.some.injEq, Addr.mk.injEq] at hv9
 obtain ⟨⟨rfl, _, _⟩, _, rfl⟩ := hv9
 have hzd : ∀ x ∈ ts.map fun x => (ivV x).map AV.v, x.length = 1 := fun x hx => by obtain ⟨y, _, rfl⟩ := List.mem_map.1 hx; rfl
 have hfd : (ts.map fun x => (ivV x).map AV.v).flatten.length = l.length := by rw [flatten_len hzd, List.length_map, htl2, Nat.mul_one]
 obtain ⟨G', hG', s2, g2, f2⟩ := sm.setCont (k := k) (z := 1) (xs := ts.map fun x => (ivV x).map AV.v) (B := tt.g) (c := tt.c) (arr := cur9) (E := E) hT (fun b hb' hne => put_block _ w tt.g n _ #[] b hb' hne) hh9 hsz9
  htf hzd (by rw [hfd, show List.take l.length cur9.toList = List.take (l.length * 1) cur9.toList by rw [Nat.mul_one], hx9, ← iV_flat]; exact repL_vals_mk G ivV iV_one _) (by rw [List.length_map, htl2]; exact hle) htcm (by rw [List.length_map, htl2]; exact h0) (.inr ⟨by rw [hml, List.length_map, htl2], rfl, tt, htl, rfl, rfl⟩) (.inr ⟨tt, htl, rfl⟩) rfl rfl rfl (put_size _ w tt.g n _ #[])
 obtain ⟨G2, hle2, hfr2, hs2, hfz⟩ := s2.hs.freeze (h2 := { h with T := upd h.T k none }) (fun j => j = k) rfl (fun j hj => by subst hj; exact upd_same _ _ _) (fun j hj => by show upd _ _ _ j = upd _ _ _ j; rw [upd_other _ _ hj, upd_other _ _ hj])
 have harr : Rep G' (.arr 1 k l.length) (.slice (some ⟨tt.g, 0, none⟩) l.length tt.c) := by
  refine .arr _ _ _ _ _ _ ⟨by rw [hG']; exact hknx, ⟨some ⟨tt.g, 0, none⟩, tt.c, rfl, hle, .inr ⟨tt.g, rfl⟩⟩, ?_⟩
  rw [hG']
  simp only [upd_same]
  exact ⟨by simp [htl2], fun _ => by simp⟩
 have hrow := hfz k 1 (ts.map fun x => (ivV x).map AV.v) _ rfl (upd_same _ _ _) (by rw [List.length_map, htl2]; exact harr) _ rfl hzd fun us hus => hus.mono hle2
 rw [hts2, List.map_append] at hrow
 have hrow2 := Rep.cutRow hrow (by rw [← List.map_append, ← hts2, List.length_map, htl2])
 rw [List.length_map] at hrow2
 exact ⟨_, rfl, _, _, G2, ⟨rfl, rfl⟩, g2.trans hle2, f2.trans hfr2, hs2, hrow2⟩
theorem g_sortI0 (k : Nat) (h : Hp) (hT : h.T k = some (.cont 1 [])) : ACalls Tryz.prog 78 [.arr 1 k 0] h (fun r h' => r = .tup [] ∧ h' = h) := by
 refine acalls_mk (by kernel_rfl) fun G w vs hs hv ha => ?_
 have r0 := ha 0 (by simp)
 rw [vs_one hv]
 generalize vs.getD 0 undef = v at r0
 simp only [List.getElem_cons_zero] at r0
 cases r0 with
 | arr _ _ _ q m c ho =>
 obtain ⟨_, ⟨q', c', e2, _, _⟩, _⟩ := ho
 simp only [Value.slice.injEq] at e2
 obtain ⟨rfl, rfl, rfl⟩ := e2
 refine (Tryz.slices_Sort_int_none q c w).mono ?_
 rintro e w' ⟨rfl, rfl⟩
 exact ⟨_, rfl, .tup [], h, G, ⟨rfl, rfl⟩, GLe.refl _, Fr.refl _ _ _, hs, .tup [] #[] (fun _ => undef) rfl (fun j hj => by simp at hj) (fun j hj => by simp at hj)⟩
theorem g_compI0 (k : Nat) (h : Hp) (hT : h.T k = some (.cont 1 [])) : ACalls Tryz.prog 79 [.arr 1 k 0] h (fun r h' => r = .row 1 [] none ∧ h' = h) := by
 refine acalls_mk (by kernel_rfl) fun G w vs hs hv ha => ?_
 have r0 := ha 0 (by simp)
 rw [vs_one hv]
 generalize vs.getD 0 undef = v at r0
 simp only [List.getElem_cons_zero] at r0
 cases r0 with
 | arr _ _ _ q m c ho =>
 obtain ⟨_, ⟨q', c', e2, _, _⟩, hm⟩ := ho
 simp only [Value.slice.injEq] at e2
 obtain ⟨rfl, rfl, rfl⟩ := e2
 rcases hs.tok k _ hT with ⟨e0, e1⟩ | ⟨tt, cur, E, htl, htm, htp, _⟩
 ·rw [e0] at hm
  obtain ⟨_, a, e3⟩ := hm
  simp only [Value.slice.injEq] at e3
  obtain ⟨_, _, rfl⟩ := e3
  refine (Tryz.slices_Compact_int_empty q 0 w).mono ?_
  rintro e w' ⟨rfl, rfl⟩
  exact ⟨_, rfl, _, h, G, ⟨rfl, rfl⟩, GLe.refl _, Fr.refl _ _ _, hs, Rep.nilA _ _⟩
 ·have hm0 : tt.m = 0 := by simpa using htm
  rw [htl] at hm
  obtain ⟨e3, _⟩ := hm.2 hm0.symm
  simp only [Value.slice.injEq] at e3
  obtain ⟨rfl, _, rfl⟩ := e3
  refine (Tryz.slices_Compact_int_empty _ tt.c w).mono ?_
  rintro e w' ⟨rfl, rfl⟩
  exact ⟨_, rfl, _, h, G, ⟨rfl, rfl⟩, GLe.refl _, Fr.refl _ _ _, hs, Rep.row_mk (xs := []) (us := []) (Nat.zero_le _) (fun y hy => by cases hy) (RepL.nil _) (fun j y hy => by simp at hy)⟩
abbrev zPBE : List Nat := [0, 1, 2, 3, 4, 5, 6, 7, 8]
abbrev zPBP : List (Nat × List Nat × List Nat) := []
attribute [go_sem] zPBE zPBP
set_option maxHeartbeats 8000000
theorem edgesL_take (rs : List Rt) (j : Nat) (hj : j < rs.length) : edgesL (rs.take (j + 1)) = edgesL (rs.take j) ++ [rs[j].2.2.1, rs[j].2.2.2.1] := by
 unfold edgesL
 rw [List.take_succ_eq_append_getElem hj, List.flatMap_append]; rfl
theorem g_edges (rs : List Rt) (kk : Option Nat) (hl : rs.length ≤ 500) (h : Hp) :
  ACalls Tryz.prog 77 [.row 5 (rs.map encRt) kk] h (fun r h' => r = .row 1 ((onceI (edgesL rs)).map encI) none ∧ h' = h) := by
 have hml : (rs.map encRt).length = rs.length := List.length_map _
 refine gE Tryz.func77 rfl (by kernel_rfl) 25 rfl fun c => ?_
 (repeat (first | refine gQ rfl ?_ | (refine gM zM24 fun K1 hK1 => ?_; simp only [go_sem, ↓reduceIte, reduceCtorEq, nA, nB, nC, nD, nE, nF] <;> and_intros <;> first | (apply hK1; clear hK1 K1) | (intros; first | omega | decide | (simp_all <;> omega)) | skip)))
 refine awp_seq ?_
 refine awp_ownA 3 1 rfl ⟨rfl, rfl⟩ (fun k hk => ?_)
 replace hk : h.T k = none := hk
 (repeat (first | refine gO rfl ?_ | (refine gM zM24 fun K1 hK1 => ?_; simp only [go_sem, ↓reduceIte, reduceCtorEq, nA, nB, nC, nD, nE, nF, hml] <;> and_intros <;> first | (apply hK1; clear hK1 K1) | (intros; first | omega | decide) | skip)))
 refine awp_loopC (rl false [3, 1, 2, 3, 17]) 0 (fun g s => ∃ (j : Nat), g + j = rs.length ∧
  s = ⟨((jnk 3 ((.arr 1 k (2 * j)) :: AV.junk :: AV.junk :: ((.row 5 (rs.map encRt) kk) :: (.v (.int .i64 rs.length)) :: (.v (.int .i64 j)) :: (jnk 17 []))))), [], ⟨h.H, upd h.T k (some (.cont 1 ((edgesL (rs.take j)).map encI)))⟩⟩) rs.length ⟨0, by omega, rfl⟩ ?_
 rintro g _ ⟨j, hj, rfl⟩
 have hTq : upd h.T k (some (TO.cont 1 ((edgesL (rs.take j)).map encI))) k = some (TO.cont 1 ((edgesL (rs.take j)).map encI)) := upd_same _ _ _
 have hlj : (edgesL (rs.take j)).length = 2 * j := by rw [edgesL_len, List.length_take]; omega
 have hle : ((edgesL (rs.take j)).map encI).length = 2 * j := by rw [List.length_map, hlj]
 (repeat (first | refine gO rfl ?_ | (refine gM zM24 fun K1 hK1 => ?_; simp only [go_sem, ↓reduceIte, reduceCtorEq, nA, nB, nC, nD, nE, nF] <;> and_intros <;> first | (apply hK1; clear hK1 K1) | (intros; first | omega | decide) | skip)))
 refine awp_cond (t := _) rfl (fun h5 => ?_) (fun h5 => ?_)
 ·simp only [decide_eq_true_eq] at h5
  have hjl : j < rs.length := by omega
  have gx : (rs.map encRt).getD j [] = encRt rs[j] := by rw [List.getD_eq_getElem?_getD, List.getElem?_map, List.getElem?_eq_getElem hjl]; rfl
  have het := edgesL_take rs j hjl
  generalize rs[j] = r at *
  obtain ⟨it, tg, fr, t2, bb⟩ := r
  rw [show encRt (it, tg, fr, t2, bb) = [.v (.string it), .row 1 (tg.map encS) none, .v (.int .i64 fr), .v (.int .i64 t2), .v (.bool bb)] from rfl] at gx
  (repeat (first | refine gO rfl ?_ | (refine gM zM24 fun K1 hK1 => ?_; simp only [go_sem, ↓reduceIte, reduceCtorEq, nA, nB, nC, nD, nE, nF, hml, Int.toNat_natCast, gx, hTq, hle] <;> and_intros <;> first | (apply hK1; clear hK1 K1) | (intros; first | omega | decide) | skip)))
  refine ⟨g - 1, by omega, j + 1, by omega, ?_⟩
  rw [het, List.map_append]
  simp only [upd_upd]
  rfl
 ·simp only [decide_eq_false_iff_not] at h5
  have hjl : j = rs.length := by omega
  subst hjl
  rw [List.take_length] at hTq hlj hle ⊢
  obtain ⟨E, hE⟩ : ∃ E, edgesL rs = E := ⟨_, rfl⟩
  rw [hE] at hTq hlj hle ⊢
  rw [← hlj]
  have hEl : E.length ≤ 1000 := by omega
  have hTf : ∀ t, h.T t = none ∨ upd (upd h.T k (some (TO.cont 1 (E.map encI)))) k none t = h.T t := fun t => by
   by_cases e : t = k
   ·subst e; exact .inl hk
   ·exact .inr (by rw [upd_other _ _ e, upd_other _ _ e])
  by_cases h0 : 0 < E.length
  ·(repeat (first | refine gO rfl ?_ | (refine gM zM24 fun K1 hK1 => ?_; simp only [go_sem, ↓reduceIte, reduceCtorEq, nA, nB, nC, nD, nE, nF] <;> and_intros <;> first | (apply hK1; clear hK1 K1) | (intros; first | omega | decide) | skip)))
   refine (g_sortI k E ⟨h.H, upd h.T k (some (.cont 1 (E.map encI)))⟩ hTq h0 (by omega)).mono ?_; rintro _ hz ⟨rfl, hh⟩; apply hK1; clear hK1 K1; rw [hh]; clear hh hz
   (repeat (first | refine gO rfl ?_ | (refine gM zM24 fun K1 hK1 => ?_; simp only [go_sem, ↓reduceIte, reduceCtorEq, nA, nB, nC, nD, nE, nF] <;> and_intros <;> first | (apply hK1; clear hK1 K1) | (intros; first | omega | decide) | skip)))
   obtain ⟨S, hS⟩ : ∃ S, E.mergeSort (fun x y => decide (x ≤ y)) = S := ⟨_, rfl⟩
   have hSl : S.length = E.length := by rw [← hS, List.length_mergeSort]
   rw [hS, ← hSl]
   have hc := g_compI k S ⟨h.H, upd h.T k (some (.cont 1 (S.map encI)))⟩ (upd_same _ _ _) (by omega) (by omega)
   refine hc.mono ?_; rintro _ hz ⟨rfl, hh⟩; apply hK1; clear hK1 K1; rw [hh]; clear hh hz
   (repeat (first | refine gO rfl ?_ | (refine gM zM24 fun K1 hK1 => ?_; simp only [go_sem, ↓reduceIte, reduceCtorEq, nA, nB, nC, nD, nE, nF] <;> and_intros <;> first | (apply hK1; clear hK1 K1) | (intros; first | omega | decide) | skip)))
   simp only [Tryz.results77, go_sem, ↓reduceIte, reduceCtorEq, nA, nB, nC, nD, nE, nF]
   refine ⟨_, h, Weak.refl _, ⟨fun _ => .inr rfl, fun t => ?_⟩, by rw [← hS]; rfl, rfl⟩
   by_cases e : t = k
   ·subst e; exact .inl hk
   ·refine .inr ?_
    show h.T t = _
    simp only [upd_upd]
    rw [upd_other _ _ e]
  ·have hE0 : E = [] := List.eq_nil_of_length_eq_zero (by omega)
   subst hE0
   (repeat (first | refine gO rfl ?_ | (refine gM zM24 fun K1 hK1 => ?_; simp only [go_sem, ↓reduceIte, reduceCtorEq, nA, nB, nC, nD, nE, nF] <;> and_intros <;> first | (apply hK1; clear hK1 K1) | (intros; first | omega | decide) | skip)))
   refine (g_sortI0 k ⟨h.H, upd h.T k (some (.cont 1 []))⟩ (upd_same _ _ _)).mono ?_; rintro _ hz ⟨rfl, hh⟩; apply hK1; clear hK1 K1; rw [hh]; clear hh hz
   (repeat (first | refine gO rfl ?_ | (refine gM zM24 fun K1 hK1 => ?_; simp only [go_sem, ↓reduceIte, reduceCtorEq, nA, nB, nC, nD, nE, nF] <;> and_intros <;> first | (apply hK1; clear hK1 K1) | (intros; first | omega | decide) | skip)))
   refine (g_compI0 k ⟨h.H, upd h.T k (some (.cont 1 []))⟩ (upd_same _ _ _)).mono ?_; rintro _ hz ⟨rfl, hh⟩; apply hK1; clear hK1 K1; rw [hh]; clear hh hz
   (repeat (first | refine gO rfl ?_ | (refine gM zM24 fun K1 hK1 => ?_; simp only [go_sem, ↓reduceIte, reduceCtorEq, nA, nB, nC, nD, nE, nF] <;> and_intros <;> first | (apply hK1; clear hK1 K1) | (intros; first | omega | decide) | skip)))
   simp only [Tryz.results77, go_sem, ↓reduceIte, reduceCtorEq, nA, nB, nC, nD, nE, nF]
   refine ⟨_, h, Weak.refl _, ⟨fun _ => .inr rfl, fun t => ?_⟩, by simp [onceI, Lib.compact, Lib.compactUpTo], rfl⟩
   by_cases e : t = k
   ·subst e; exact .inl hk
   ·exact .inr (by show h.T t = upd h.T k _ t; rw [upd_other _ _ e])
def encW2 (w : Wnd) : List AV := [.v (.int .i64 w.1), .v (.int .i64 w.2)]
theorem in_selfW (x : Int) : (x != x) = false := by simp
theorem i_selfW (x : Int) : (x == x) = true := by simp
structure RunOk (f : Int → Bool) (lo c : Int) (acc : List Wnd) : Prop where
  cov : ∀ x, lo ≤ x → x < c → ((∃ w ∈ acc, w.1 ≤ x ∧ x < w.2) ↔ f x = true)
  bd : ∀ w ∈ acc, lo ≤ w.1 ∧ w.1 < w.2 ∧ w.2 ≤ c
  up : acc.Pairwise fun v w => v.2 < w.2
  stop : ∀ w ∈ acc, w.2 < c → f w.2 = false
theorem RunOk.no {f : Int → Bool} {lo c d : Int} {acc : List Wnd} (h : RunOk f lo c acc) (hcd : c < d) (hf : ∀ x, c ≤ x → x < d → f x = f c) (hc : f c = false) : RunOk f lo d acc where
  cov x h1 h2 := by
    by_cases h3 : x < c
    · exact h.cov x h1 h3
    · rw [hf x (by omega) h2, hc]
      constructor
      · rintro ⟨w, hw, _, h5⟩
        have := h.bd w hw; omega
      · intro h4; cases h4
  bd w hw := by have := h.bd w hw; omega
  up := h.up
  stop w hw h1 := by
    have h2 := h.bd w hw
    by_cases h3 : w.2 < c
    · exact h.stop w hw h3
    · rw [show w.2 = c by omega]; exact hc
theorem RunOk.yes {f : Int → Bool} {lo c d : Int} {acc : List Wnd} (h : RunOk f lo c acc) (hlo : lo ≤ c) (hcd : c < d) (hf : ∀ x, c ≤ x → x < d → f x = f c) (hc : f c = true) : RunOk f lo d (pushW acc c d) := by
  rcases List.eq_nil_or_concat acc with e | ⟨acc', w, e⟩
  · subst e
    have e2 : pushW [] c d = [(c, d)] := rfl
    rw [e2]
    refine ⟨fun x h1 h2 => ?_, fun w hw => ?_, by simp, fun w hw h1 => ?_⟩
    · by_cases h3 : x < c
      · have h4 := h.cov x h1 h3
        rw [← h4]
        constructor
        · rintro ⟨w, hw, h5, _⟩
          rw [List.mem_singleton.1 hw] at h5
          simp only at h5; omega
        · rintro ⟨w, hw, _⟩; cases hw
      · rw [hf x (by omega) h2, hc]
        exact ⟨fun _ => rfl, fun _ => ⟨(c, d), by simp, by simp only; omega, by simp only; omega⟩⟩
    · rw [List.mem_singleton.1 hw]
      simp only; omega
    · rw [List.mem_singleton.1 hw] at h1
      simp only at h1; omega
  · rw [List.concat_eq_append] at e
    subst e
    have hup := List.pairwise_append.1 h.up
    have hw := h.bd w (by simp)
    have hpw : pushW (acc' ++ [w]) c d = if w.2 = c then acc' ++ [(w.1, d)] else acc' ++ [w] ++ [(c, d)] := by
      unfold pushW
      rw [List.getLast?_append]
      simp
    rw [hpw]
    by_cases hwc : w.2 = c
    · rw [if_pos hwc]
      refine ⟨fun x h1 h2 => ?_, fun v hv => ?_, ?_, fun v hv h1 => ?_⟩
      · by_cases h3 : x < c
        · rw [← h.cov x h1 h3]
          constructor
          · rintro ⟨v, hv, h4, h5⟩
            rcases List.mem_append.1 hv with hv | hv
            · exact ⟨v, by simp [hv], h4, h5⟩
            · rw [List.mem_singleton.1 hv] at h4
              exact ⟨w, by simp, h4, by omega⟩
          · rintro ⟨v, hv, h4, h5⟩
            rcases List.mem_append.1 hv with hv | hv
            · exact ⟨v, by simp [hv], h4, h5⟩
            · rw [List.mem_singleton.1 hv] at h4 h5
              exact ⟨(w.1, d), by simp, h4, by simp only; omega⟩
        · rw [hf x (by omega) h2, hc]
          exact ⟨fun _ => rfl, fun _ => ⟨(w.1, d), by simp, by simp only; omega, by simp only; omega⟩⟩
      · rcases List.mem_append.1 hv with hv | hv
        · have := h.bd v (by simp [hv]); omega
        · rw [List.mem_singleton.1 hv]; simp only; omega
      · refine List.pairwise_append.2 ⟨hup.1, by simp, fun v hv u hu => ?_⟩
        have := hup.2.2 v hv w (by simp)
        rw [List.mem_singleton.1 hu]; simp only; omega
      · rcases List.mem_append.1 hv with hv | hv
        · have := hup.2.2 v hv w (by simp)
          exact h.stop v (by simp [hv]) (by omega)
        · rw [List.mem_singleton.1 hv] at h1
          simp only at h1; omega
    · rw [if_neg hwc]
      have hall : ∀ v ∈ acc' ++ [w], v.2 < c := fun v hv => by
        have h1 := h.bd v hv
        rcases List.mem_append.1 hv with hv | hv
        · have := hup.2.2 v hv w (by simp); omega
        · rw [List.mem_singleton.1 hv] at h1 ⊢; omega
      refine ⟨fun x h1 h2 => ?_, fun v hv => ?_, ?_, fun v hv h1 => ?_⟩
      · by_cases h3 : x < c
        · rw [← h.cov x h1 h3]
          constructor
          · rintro ⟨v, hv, h4, h5⟩
            rcases List.mem_append.1 hv with hv | hv
            · exact ⟨v, hv, h4, h5⟩
            · rw [List.mem_singleton.1 hv] at h4
              simp only at h4; omega
          · rintro ⟨v, hv, h4, h5⟩
            exact ⟨v, List.mem_append.2 (.inl hv), h4, h5⟩
        · rw [hf x (by omega) h2, hc]
          exact ⟨fun _ => rfl, fun _ => ⟨(c, d), by simp, by simp only; omega, by simp only; omega⟩⟩
      · rcases List.mem_append.1 hv with hv | hv
        · have := h.bd v hv; omega
        · rw [List.mem_singleton.1 hv]; simp only; omega
      · refine List.pairwise_append.2 ⟨h.up, by simp, fun v hv u hu => ?_⟩
        have := hall v hv
        rw [List.mem_singleton.1 hu]; simp only; omega
      · rcases List.mem_append.1 hv with hv | hv
        · exact h.stop v hv (hall v hv)
        · rw [List.mem_singleton.1 hv] at h1
          simp only at h1; omega
theorem runs_ok (f : Int → Bool) (lo : Int) : ∀ (P : List Int) (c : Int) (acc : List Wnd), P.Pairwise (· < ·) → P.head? = some c → lo ≤ c → RunOk f lo c acc →
    (∀ i (h : i + 1 < P.length) x, P[i] ≤ x → x < P[i + 1] → f x = f P[i]) → ∃ e, P.getLast? = some e ∧ RunOk f lo e (runsW f P acc)
  | [], c, acc, _, h, _, _, _ => by cases h
  | [a], c, acc, _, h, _, hr, _ => by
    simp only [List.head?_cons, Option.some.injEq] at h
    subst h
    exact ⟨a, rfl, hr⟩
  | a :: b :: P, c, acc, hp, h, hlo, hr, hf => by
    simp only [List.head?_cons, Option.some.injEq] at h
    subst h
    have hp1 := List.pairwise_cons.1 hp
    have hab := hp1.1 b (by simp)
    have hf0 : ∀ x, a ≤ x → x < b → f x = f a := fun x h1 h2 => hf 0 (by simp) x h1 h2
    have hr2 : RunOk f lo b (if f a then pushW acc a b else acc) := by
      cases hfa : f a with
      | true => rw [if_pos rfl]; exact hr.yes hlo hab hf0 hfa
      | false => rw [if_neg (by decide)]; exact hr.no hab hf0 hfa
    obtain ⟨e, h1, h2⟩ := runs_ok f lo (b :: P) b _ hp1.2 rfl (by omega) hr2 fun i hi x h1 h2 => hf (i + 1) (by simp at hi ⊢; omega) x h1 h2
    exact ⟨e, by rw [← h1]; simp, h2⟩
theorem timesP_ok (tags : List ByteArray) (item : ByteArray) (fr t2 : Int) (l : List Rt) (h : fr ≤ t2) : RunOk (fun x => mayL tags item x l false) fr t2 (timesP tags item fr t2 l) := by
  have hok := onceI_ok (cuts0 item fr t2 l)
  have hm : ∀ x, x ∈ onceI (cuts0 item fr t2 l) ↔ x ∈ cutsP item fr t2 l := fun x => (hok.2 x).trans (cuts0_mem item fr t2 l x)
  have mP : ∀ x, x ∈ cutsP item fr t2 l ↔ x = fr ∨ x = t2 ∨ ((∃ r ∈ l, r.1 = item ∧ (x = r.2.2.1 ∨ x = r.2.2.2.1)) ∧ fr < x ∧ x < t2) := fun x => by
    unfold cutsP
    simp only [List.mem_append, List.mem_cons, List.not_mem_nil, or_false, List.mem_filter, List.mem_flatMap, Bool.and_eq_true, decide_eq_true_eq, or_assoc]
    constructor
    · rintro (h | h | ⟨⟨r, ⟨h1, h2⟩, h3⟩, h4⟩)
      · exact .inl h
      · exact .inr (.inl h)
      · exact .inr (.inr ⟨⟨r, h1, h2, h3⟩, h4⟩)
    · rintro (h | h | ⟨⟨r, h1, h2, h3⟩, h4⟩)
      · exact .inl h
      · exact .inr (.inl h)
      · exact .inr (.inr ⟨⟨r, ⟨h1, h2⟩, h3⟩, h4⟩)
  have bP : ∀ x ∈ onceI (cuts0 item fr t2 l), fr ≤ x ∧ x ≤ t2 := fun x hx => by
    rcases (mP x).1 ((hm x).1 hx) with e | e | ⟨_, e⟩ <;> omega
  have hhd : (onceI (cuts0 item fr t2 l)).head? = some fr := SU.head (S := onceI (cuts0 item fr t2 l)) ⟨hok.1, fun _ => Iff.rfl⟩ ((hm fr).2 ((mP fr).2 (.inl rfl))) fun x hx => (bP x hx).1
  have hls : (onceI (cuts0 item fr t2 l)).getLast? = some t2 := SU.last (S := onceI (cuts0 item fr t2 l)) ⟨hok.1, fun _ => Iff.rfl⟩ ((hm t2).2 ((mP t2).2 (.inr (.inl rfl)))) fun x hx => (bP x hx).2
  unfold timesP
  generalize hP : onceI (cuts0 item fr t2 l) = P at hok hm bP hhd hls
  have hf : ∀ i (hi : i + 1 < P.length) x, P[i] ≤ x → x < P[i + 1] → mayL tags item x l false = mayL tags item P[i] l false := by
    intro i hi x h1 h2
    refine (may_same tags item P[i] x l false fun r hr he => ?_).symm
    have hi2 : i < P.length := by omega
    have b1 := bP P[i] (List.getElem_mem _)
    have b2 := bP P[i + 1] (List.getElem_mem _)
    have key : ∀ n, n = r.2.2.1 ∨ n = r.2.2.2.1 → ¬ (P[i] < n ∧ n ≤ x) := fun n hn hc => by
      have hmem : n ∈ P := (hm n).2 ((mP n).2 (.inr (.inr ⟨⟨r, hr, he, hn⟩, by omega, by omega⟩)))
      obtain ⟨k, hk, e⟩ := List.mem_iff_getElem.1 hmem
      have hpw := List.pairwise_iff_getElem.1 hok.1
      rcases Nat.lt_trichotomy k i with h5 | h5 | h5
      · have := hpw k i hk hi2 h5; omega
      · subst h5; omega
      · by_cases h6 : k = i + 1
        · subst h6; omega
        · have := hpw (i + 1) k hi hk (by omega); omega
    have k1 := key r.2.2.1 (.inl rfl)
    have k2 := key r.2.2.2.1 (.inr rfl)
    unfold hasR
    rw [decide_eq_decide.2 (show r.2.2.1 ≤ P[i] ↔ r.2.2.1 ≤ x by omega), decide_eq_decide.2 (show P[i] < r.2.2.2.1 ↔ x < r.2.2.2.1 by omega)]
  obtain ⟨e, h1, h2⟩ := runs_ok (fun x => mayL tags item x l false) fr P fr [] hok.1 hhd (Int.le_refl _) ⟨fun x h1 h2 => by omega, by simp, by simp, by simp⟩ hf
  rw [h1] at hls
  simp only [Option.some.injEq] at hls
  subst hls
  exact h2
def covB (a b : Int) : List Wnd → Bool
  | [] => decide (b ≤ a)
  | w :: l => if a < w.1 then decide (b ≤ a) else covB (max a w.2) b l
theorem covB_iff (b : Int) : ∀ (S : List Wnd) (a : Int), S.Pairwise (fun v w => v.1 ≤ w.1) → (covB a b S = true ↔ ∀ x, a ≤ x → x < b → ∃ w ∈ S, w.1 ≤ x ∧ x < w.2)
  | [], a, _ => by
    unfold covB
    rw [decide_eq_true_eq]
    constructor
    · intro h x h1 h2; omega
    · intro h
      by_cases hab : b ≤ a
      · exact hab
      · obtain ⟨w, hw, _⟩ := h a (Int.le_refl _) (by omega); cases hw
  | w :: l, a, hp => by
    have hp1 := List.pairwise_cons.1 hp
    unfold covB
    by_cases h1 : a < w.1
    · rw [if_pos h1, decide_eq_true_eq]
      constructor
      · intro h x h2 h3; omega
      · intro h
        by_cases hab : b ≤ a
        · exact hab
        · obtain ⟨v, hv, h2, _⟩ := h a (Int.le_refl _) (by omega)
          rcases List.mem_cons.1 hv with rfl | hv
          · omega
          · have := hp1.1 v hv; omega
    · rw [if_neg h1, covB_iff b l _ hp1.2]
      constructor
      · intro h x h2 h3
        by_cases h4 : x < max a w.2
        · exact ⟨w, by simp, by omega, by omega⟩
        · obtain ⟨v, hv, h5⟩ := h x (by omega) h3
          exact ⟨v, by simp [hv], h5⟩
      · intro h x h2 h3
        obtain ⟨v, hv, h5, h6⟩ := h x (by omega) h3
        rcases List.mem_cons.1 hv with rfl | hv
        · omega
        · exact ⟨v, hv, h5, h6⟩
def appl (tags : List ByteArray) (item : ByteArray) (a b : Int) (r : Rt) : Bool := decide (r.1 = item) && (decide (r.2.2.1 < b) && (decide (a < r.2.2.2.1) && inTags tags r.2.1))
def byL (tags : List ByteArray) (item : ByteArray) (a b : Int) : List Rt → List Wnd → Option (List Wnd)
  | [], o => some o
  | r :: l, o => if appl tags item a b r = true then (if r.2.2.2.2 = true then none else byL tags item a b l (o ++ [(r.2.2.1, r.2.2.2.1)])) else byL tags item a b l o
theorem mayL_iff (tags : List ByteArray) (item : ByteArray) (x : Int) : ∀ (l : List Rt) (o : Bool), mayL tags item x l o = true ↔ (∀ r ∈ l, hitR tags item x r = true → r.2.2.2.2 = false) ∧ (o = true ∨ ∃ r ∈ l, hitR tags item x r = true)
  | [], o => by simp [mayL]
  | r :: l, o => by
    rw [mayL]
    by_cases h1 : hitR tags item x r = true
    · rw [if_pos h1]
      cases h2 : r.2.2.2.2 with
      | true =>
        rw [if_pos rfl]
        constructor
        · intro h; cases h
        · rintro ⟨h3, _⟩
          have := h3 r (by simp) h1
          rw [h2] at this; cases this
      | false =>
        rw [if_neg (by decide), mayL_iff tags item x l true]
        constructor
        · rintro ⟨h3, _⟩
          exact ⟨fun s hs hh => by
            rcases List.mem_cons.1 hs with rfl | hs
            · exact h2
            · exact h3 s hs hh, .inr ⟨r, by simp, h1⟩⟩
        · rintro ⟨h3, _⟩
          exact ⟨fun s hs hh => h3 s (by simp [hs]) hh, .inl rfl⟩
    · rw [if_neg h1, mayL_iff tags item x l o]
      constructor
      · rintro ⟨h3, h4⟩
        refine ⟨fun s hs hh => ?_, h4.imp id fun ⟨s, hs, hh⟩ => ⟨s, by simp [hs], hh⟩⟩
        rcases List.mem_cons.1 hs with rfl | hs
        · exact absurd hh h1
        · exact h3 s hs hh
      · rintro ⟨h3, h4⟩
        refine ⟨fun s hs hh => h3 s (by simp [hs]) hh, h4.imp id ?_⟩
        rintro ⟨s, hs, hh⟩
        rcases List.mem_cons.1 hs with rfl | hs
        · exact absurd hh h1
        · exact ⟨s, hs, hh⟩
theorem byL_none (tags : List ByteArray) (item : ByteArray) (a b : Int) : ∀ (l : List Rt) (o : List Wnd), byL tags item a b l o = none → ∃ r ∈ l, appl tags item a b r = true ∧ r.2.2.2.2 = true
  | [], o, h => by cases h
  | r :: l, o, h => by
    rw [byL] at h
    by_cases h1 : appl tags item a b r = true
    · rw [if_pos h1] at h
      cases h2 : r.2.2.2.2 with
      | true => exact ⟨r, by simp, h1, h2⟩
      | false =>
        rw [h2, if_neg (by decide)] at h
        obtain ⟨s, hs, h3⟩ := byL_none tags item a b l _ h
        exact ⟨s, by simp [hs], h3⟩
    · rw [if_neg h1] at h
      obtain ⟨s, hs, h3⟩ := byL_none tags item a b l _ h
      exact ⟨s, by simp [hs], h3⟩
theorem byL_some (tags : List ByteArray) (item : ByteArray) (a b : Int) : ∀ (l : List Rt) (o S : List Wnd), byL tags item a b l o = some S → (∀ r ∈ l, appl tags item a b r = true → r.2.2.2.2 = false) ∧ ∀ w, w ∈ S ↔ w ∈ o ∨ ∃ r ∈ l, appl tags item a b r = true ∧ w = (r.2.2.1, r.2.2.2.1)
  | [], o, S, h => by
    have h1 : o = S := by simpa [byL] using h
    subst h1
    exact ⟨by simp, by simp⟩
  | r :: l, o, S, h => by
    rw [byL] at h
    by_cases h1 : appl tags item a b r = true
    · rw [if_pos h1] at h
      cases h2 : r.2.2.2.2 with
      | true => rw [h2, if_pos rfl] at h; cases h
      | false =>
        rw [h2, if_neg (by decide)] at h
        obtain ⟨h3, h4⟩ := byL_some tags item a b l _ S h
        refine ⟨fun s hs hh => ?_, fun w => ?_⟩
        · rcases List.mem_cons.1 hs with rfl | hs
          · exact h2
          · exact h3 s hs hh
        · rw [h4 w]
          constructor
          · rintro (h5 | ⟨s, hs, h5⟩)
            · rcases List.mem_append.1 h5 with h5 | h5
              · exact .inl h5
              · exact .inr ⟨r, by simp, h1, List.mem_singleton.1 h5⟩
            · exact .inr ⟨s, by simp [hs], h5⟩
          · rintro (h5 | ⟨s, hs, h5⟩)
            · exact .inl (by simp [h5])
            · rcases List.mem_cons.1 hs with rfl | hs
              · exact .inl (by simp [h5.2])
              · exact .inr ⟨s, hs, h5⟩
    · rw [if_neg h1] at h
      obtain ⟨h3, h4⟩ := byL_some tags item a b l _ S h
      refine ⟨fun s hs hh => ?_, fun w => ?_⟩
      · rcases List.mem_cons.1 hs with rfl | hs
        · exact absurd hh h1
        · exact h3 s hs hh
      · rw [h4 w]
        refine or_congr Iff.rfl ⟨?_, ?_⟩
        · rintro ⟨s, hs, h5⟩; exact ⟨s, by simp [hs], h5⟩
        · rintro ⟨s, hs, h5⟩
          rcases List.mem_cons.1 hs with rfl | hs
          · exact absurd h5.1 h1
          · exact ⟨s, hs, h5⟩
theorem whole_iff (tags : List ByteArray) (item : ByteArray) (a b : Int) (l : List Rt) (hab : a < b) (hw : ∀ r ∈ l, r.2.2.1 < r.2.2.2.1) (B : Bool)
    (hB : (byL tags item a b l [] = none ∧ B = false) ∨ ∃ S S', byL tags item a b l [] = some S ∧ S'.Perm S ∧ S'.Pairwise (fun v w => v.1 ≤ w.1) ∧ B = covB a b S') :
    B = true ↔ ∀ x, a ≤ x → x < b → mayL tags item x l false = true := by
  have hh : ∀ r x, hitR tags item x r = true ↔ r.1 = item ∧ (r.2.2.1 ≤ x ∧ x < r.2.2.2.1) ∧ inTags tags r.2.1 = true := fun r x => by
    unfold hitR hasR
    simp only [Bool.and_eq_true, decide_eq_true_eq, and_assoc]
  have ha : ∀ r, appl tags item a b r = true ↔ r.1 = item ∧ r.2.2.1 < b ∧ a < r.2.2.2.1 ∧ inTags tags r.2.1 = true := fun r => by
    unfold appl
    simp only [Bool.and_eq_true, decide_eq_true_eq]
  rcases hB with ⟨h1, rfl⟩ | ⟨S, S', h1, hp, hs, rfl⟩
  · obtain ⟨r, hr, h2, h3⟩ := byL_none tags item a b l [] h1
    have h4 := (ha r).1 h2
    have h5 := hw r hr
    constructor
    · intro h; cases h
    · intro h
      have h6 := (mayL_iff tags item (max a r.2.2.1) l false).1 (h (max a r.2.2.1) (by omega) (by omega))
      have h7 := h6.1 r hr ((hh r _).2 ⟨h4.1, by omega, h4.2.2.2⟩)
      rw [h3] at h7; cases h7
  · obtain ⟨h2, h3⟩ := byL_some tags item a b l [] S h1
    rw [covB_iff b S' a hs]
    constructor
    · intro h x h4 h5
      rw [mayL_iff]
      refine ⟨fun r hr h6 => ?_, .inr ?_⟩
      · have h7 := (hh r x).1 h6
        exact h2 r hr ((ha r).2 ⟨h7.1, by omega, by omega, h7.2.2⟩)
      · obtain ⟨w, hw1, h6, h7⟩ := h x h4 h5
        rcases (h3 w).1 (hp.mem_iff.1 hw1) with h8 | ⟨r, hr, h8, rfl⟩
        · cases h8
        · have h9 := (ha r).1 h8
          exact ⟨r, hr, (hh r x).2 ⟨h9.1, ⟨h6, h7⟩, h9.2.2.2⟩⟩
    · intro h x h4 h5
      obtain ⟨_, h6⟩ := (mayL_iff tags item x l false).1 (h x h4 h5)
      rcases h6 with h6 | ⟨r, hr, h6⟩
      · cases h6
      · have h7 := (hh r x).1 h6
        exact ⟨(r.2.2.1, r.2.2.2.1), hp.mem_iff.2 ((h3 _).2 (.inr ⟨r, hr, (ha r).2 ⟨h7.1, by omega, by omega, h7.2.2⟩, rfl⟩)), h7.2.1.1, h7.2.1.2⟩
abbrev zPCE : List Nat := [0, 1, 2, 3, 4, 5, 6, 7, 8, 9, 10, 11, 12, 13]
abbrev zPCP : List (Nat × List Nat × List Nat) := [(14, [], [15, 16])]
abbrev zPDE : List Nat := [0, 1, 2, 3, 4, 5, 6, 7, 8, 9, 10, 11, 12, 13, 14]
abbrev zPDP : List (Nat × List Nat × List Nat) := [(15, [], [16]), (17, [], [])]
abbrev zPEE : List Nat := [0, 1, 2, 3, 4, 5, 6, 7, 8, 9, 10, 11, 12]
abbrev zPEP : List (Nat × List Nat × List Nat) := [(13, [], [14, 15, 16])]
attribute [go_sem] zPCE zPCP zPDE zPDP zPEE zPEP
theorem drop_at {α : Type} (l : List α) (j : Nat) (d : α) (h : j < l.length) : l.drop j = l.getD j d :: l.drop (j + 1) := drop_at' l j d h
theorem take_snoc {α : Type} (l : List α) (j : Nat) (d : α) (h : j < l.length) : l.take (j + 1) = l.take j ++ [l.getD j d] := by
 rw [List.take_succ_eq_append_getElem h, List.getD_eq_getElem?_getD, List.getElem?_eq_getElem h]; rfl
def encVW (x : Wnd) : AV := .agg (encW2 x)
theorem g_insW {f : Nat} {caps : List AV} (cf : Wnd → Wnd → Int) (k : Nat) (xs : List Wnd) (h : Hp) (hT : h.T k = some (.cont 2 (xs.map encW2))) (hl : xs.length ≤ 1000)
  (hc : ∀ x ∈ xs, ∀ y ∈ xs, ∀ T', ACalls Tryz.prog f ([encVW x, encVW y] ++ caps) ⟨h.H, T'⟩ (fun r h' => r = .v (.int .i64 (cf x y)) ∧ h' = ⟨h.H, T'⟩)) :
  ACalls Tryz.prog 228 [.arr 2 k xs.length, .v (.int .i64 0), .v (.int .i64 xs.length), .fn f caps] h (fun r h' => r = .tup [] ∧ h' = ⟨h.H, upd h.T k (some (.cont 2 ((sortI cf xs).map encW2)))⟩) := by
 refine gE Tryz.func228 rfl (by kernel_rfl) 49 rfl fun c => ?_
 (repeat (first | refine gO rfl ?_ | ((first | refine gR ?_ | (with_reducible refine wM ?_ ?_) | ((with_reducible refine xS ?_); refine uD 4 zM21 zPCE zPCP 53 rfl (by kernel_rfl) ?_) | ((with_reducible refine xR ?_); refine uE 6 zM21 zPDE zPDP 53 rfl (by kernel_rfl) ?_)) <;> ((try with_reducible intro K1 hK1); simp only [go_sem, ↓reduceIte, reduceCtorEq, nA, nB, nC, nD, nE, nF] <;> and_intros <;> first | (apply hK1; clear hK1 K1) | (intros; first | omega | decide | (simp_all <;> omega)) | skip))))
 refine awp_loopC (rl false [0, 4, 4, 1, 44]) 0 (fun g s => ∃ i : Nat, 1 ≤ i ∧ g + i = xs.length + 1 ∧
  s = ⟨((.arr 2 k xs.length) :: (.v (.int .i64 0)) :: (.v (.int .i64 xs.length)) :: (.fn f caps) :: (jnk 4 ((.v (.int .i64 i)) :: (jnk 44 [])))), [], ⟨h.H, upd h.T k (some (.cont 2 (((insS cf (xs.take i)).reverse ++ xs.drop i).map encW2)))⟩⟩) xs.length
  ⟨1, by omega, by omega, ?_⟩ ?_
 ·have e1 : (insS cf (xs.take 1)).reverse ++ xs.drop 1 = xs := by cases xs <;> simp [insS, insR]
  have e2 : upd h.T k (some (TO.cont 2 (xs.map encW2))) = h.T := by
   funext q
   by_cases e : q = k
   ·rw [e, upd_same, hT]
   ·rw [upd_other _ _ e]
  rw [e1, e2]; rfl
 rintro g _ ⟨i, hi1, hi, rfl⟩
 (repeat (first | refine gO rfl ?_ | ((first | refine gR ?_ | (with_reducible refine wM ?_ ?_) | ((with_reducible refine xS ?_); refine uD 4 zM21 zPCE zPCP 53 rfl (by kernel_rfl) ?_) | ((with_reducible refine xR ?_); refine uE 6 zM21 zPDE zPDP 53 rfl (by kernel_rfl) ?_)) <;> ((try with_reducible intro K1 hK1); simp only [go_sem, ↓reduceIte, reduceCtorEq, nA, nB, nC, nD, nE, nF] <;> and_intros <;> first | (apply hK1; clear hK1 K1) | (intros; first | omega | decide | (simp_all <;> omega)) | skip))))
 refine awp_cond (t := _) rfl (fun h1 => ?_) (fun h1 => ?_)
 ·simp only [decide_eq_true_eq] at h1
  have hil : i < xs.length := by omega
  have hdr : xs.drop i = xs.getD i default :: xs.drop (i + 1) := drop_at xs i default hil
  have htk : xs.take (i + 1) = xs.take i ++ [xs.getD i default] := take_snoc xs i default hil
  have hxm : xs.getD i default ∈ xs := by
   rw [List.getD_eq_getElem?_getD, List.getElem?_eq_getElem hil]; exact List.getElem_mem _
  have hpl : (insS cf (xs.take i)).length = i := by rw [insS_len, List.length_take]; omega
  have hpm : ∀ z ∈ (insS cf (xs.take i)).reverse, z ∈ xs := fun z hz => List.mem_of_mem_take ((insS_perm cf (xs.take i)).mem_iff.1 (List.mem_reverse.1 hz))
  have hin : insS cf (xs.take (i + 1)) = insR cf (insS cf (xs.take i)) (xs.getD i default) := by rw [htk, insS_snoc]
  rw [hdr]
  generalize xs.getD i default = x at hxm hin ⊢
  generalize insS cf (xs.take i) = R at hpl hpm hin ⊢
  generalize hrs : xs.drop (i + 1) = rest
  clear hdr htk
  (repeat (first | refine gO rfl ?_ | ((first | refine gR ?_ | (with_reducible refine wM ?_ ?_) | ((with_reducible refine xS ?_); refine uD 4 zM21 zPCE zPCP 53 rfl (by kernel_rfl) ?_) | ((with_reducible refine xR ?_); refine uE 6 zM21 zPDE zPDP 53 rfl (by kernel_rfl) ?_)) <;> ((try with_reducible intro K1 hK1); simp only [go_sem, ↓reduceIte, reduceCtorEq, nA, nB, nC, nD, nE, nF] <;> and_intros <;> first | (apply hK1; clear hK1 K1) | (intros; first | omega | decide | (simp_all <;> omega)) | skip))))
  refine awp_loopC (rl false [0, 4, 4, 2, 43]) 0 (fun g2 s => ∃ (A B : List Wnd), g2 = A.length ∧ insR cf R x = B.reverse ++ insR cf A.reverse x ∧ A.length + B.length = i ∧ (∀ z ∈ A, z ∈ xs) ∧
   s = ⟨((.arr 2 k xs.length) :: (.v (.int .i64 0)) :: (.v (.int .i64 xs.length)) :: (.fn f caps) :: (jnk 4 ((.v (.int .i64 i)) :: (.v (.int .i64 A.length)) :: (jnk 43 [])))), [], ⟨h.H, upd h.T k (some (.cont 2 ((A ++ x :: (B ++ rest)).map encW2)))⟩⟩) i
   ⟨R.reverse, [], by rw [List.length_reverse, hpl], by rw [List.reverse_reverse]; rfl, by rw [List.length_reverse, hpl]; rfl, hpm, by rw [List.length_reverse, hpl]; rfl⟩ ?_
  rintro g2 _ ⟨A, B, rfl, hR, hAB, hA, rfl⟩
  have hTq : ∀ X, upd h.T k (some (TO.cont 2 X)) k = some (.cont 2 X) := fun X => upd_same _ _ _
  have hcl : ((A ++ x :: (B ++ rest)).map encW2).length = xs.length := by
   have h9 := congrArg List.length hrs
   rw [List.length_drop] at h9
   simp; omega
  by_cases h0 : A.length = 0
  ·have hd0 : decide (0 < (A.length : Int)) = false := by simp [h0]
   have hA0 : A = [] := List.eq_nil_of_length_eq_zero h0
   clear hc
   (repeat (first | refine gO rfl ?_ | ((first | refine gR ?_ | (with_reducible refine wM ?_ ?_) | ((with_reducible refine xS ?_); refine uD 4 zM21 zPCE zPCP 53 rfl (by kernel_rfl) ?_) | ((with_reducible refine xR ?_); refine uE 6 zM21 zPDE zPDP 53 rfl (by kernel_rfl) ?_)) <;> ((try with_reducible intro K1 hK1); simp only [go_sem, ↓reduceIte, reduceCtorEq, nA, nB, nC, nD, nE, nF, hd0] <;> and_intros <;> first | (apply hK1; clear hK1 K1) | (intros; first | omega | decide | (simp_all <;> omega)) | skip))))
   refine ⟨.v (.bool false), rfl, hK1 _ ?_⟩; clear hK1 K1
   (repeat (first | refine gO rfl ?_ | ((first | refine gR ?_ | (with_reducible refine wM ?_ ?_) | ((with_reducible refine xS ?_); refine uD 4 zM21 zPCE zPCP 53 rfl (by kernel_rfl) ?_) | ((with_reducible refine xR ?_); refine uE 6 zM21 zPDE zPDP 53 rfl (by kernel_rfl) ?_)) <;> ((try with_reducible intro K1 hK1); simp only [go_sem, ↓reduceIte, reduceCtorEq, nA, nB, nC, nD, nE, nF, hd0] <;> and_intros <;> first | (apply hK1; clear hK1 K1) | (intros; first | omega | decide | (simp_all <;> omega)) | skip))))
   refine awp_cond (t := _) rfl (fun h9 => by cases h9) (fun _ => ?_)
   (repeat (first | refine gO rfl ?_ | ((first | refine gR ?_ | (with_reducible refine wM ?_ ?_) | ((with_reducible refine xS ?_); refine uD 4 zM21 zPCE zPCP 53 rfl (by kernel_rfl) ?_) | ((with_reducible refine xR ?_); refine uE 6 zM21 zPDE zPDP 53 rfl (by kernel_rfl) ?_)) <;> ((try with_reducible intro K1 hK1); simp only [go_sem, ↓reduceIte, reduceCtorEq, nA, nB, nC, nD, nE, nF] <;> and_intros <;> first | (apply hK1; clear hK1 K1) | (intros; first | omega | decide | (simp_all <;> omega)) | skip))))
   refine ⟨g - 1, by omega, i + 1, by omega, by omega, ?_⟩
   subst hA0
   have e3 : (insS cf (xs.take (i + 1))).reverse ++ xs.drop (i + 1) = x :: (B ++ rest) := by rw [hin, hR, hrs]; simp [insR]
   rw [e3]; rfl
  ·obtain ⟨A', y, rfl⟩ : ∃ A' y, A = A' ++ [y] := by
    rcases List.eq_nil_or_concat A with rfl | ⟨A', y, e⟩
    ·exact absurd rfl h0
    ·exact ⟨A', y, by rw [e, List.concat_eq_append]⟩
   have hd0 : decide (0 < ((A' ++ [y]).length : Int)) = true := by simp
   have hti : (((A' ++ [y]).length : Int) - 1).toNat = A'.length := by simp
   have hy : y ∈ xs := hA y (by simp)
   have gx : (((A' ++ [y]) ++ x :: (B ++ rest)).map encW2).getD (A' ++ [y]).length [] = encW2 x := by
    rw [List.map_append, List.map_cons]
    have := getD_mid ((A' ++ [y]).map encW2) (encW2 x) ((B ++ rest).map encW2) []
    rwa [List.length_map] at this
   have gy : (((A' ++ [y]) ++ x :: (B ++ rest)).map encW2).getD A'.length [] = encW2 y := by
    rw [List.append_assoc, List.map_append, List.singleton_append, List.map_cons]
    have := getD_mid (A'.map encW2) (encW2 y) ((x :: (B ++ rest)).map encW2) []
    rwa [List.length_map] at this
   have hcc := fun T' => hc x hxm y hy T'
   have hlt : (A' ++ [y]).length < xs.length := by omega
   have hlt2 : A'.length < xs.length := by simp at hlt; omega
   generalize hct : ((A' ++ [y]) ++ x :: (B ++ rest)).map encW2 = ct at *
   (repeat (first | refine gO rfl ?_ | ((first | refine gR ?_ | (with_reducible refine wM ?_ ?_) | ((with_reducible refine xS ?_); refine uD 4 zM21 zPCE zPCP 53 rfl (by kernel_rfl) ?_) | ((with_reducible refine xR ?_); refine uE 6 zM21 zPDE zPDP 53 rfl (by kernel_rfl) ?_)) <;> ((try with_reducible intro K1 hK1); simp only [go_sem, ↓reduceIte, reduceCtorEq, nA, nB, nC, nD, nE, nF, hd0, hTq, hcl, Int.toNat_natCast, hti, gx, gy, encW2] <;> and_intros <;> first | (apply hK1; clear hK1 K1) | (intros; first | omega | decide) | skip))))
   rotate_left 1
   ·rintro ⟨⟩
   refine (hcc _).mono ?_; rintro _ hz ⟨rfl, hh⟩; refine ⟨rfl, hK1 _ ?_⟩; clear hK1 K1; rw [hh]; clear hh hz
   (repeat (first | refine gO rfl ?_ | ((first | refine gR ?_ | (with_reducible refine wM ?_ ?_) | ((with_reducible refine xS ?_); refine uD 4 zM21 zPCE zPCP 53 rfl (by kernel_rfl) ?_) | ((with_reducible refine xR ?_); refine uE 6 zM21 zPDE zPDP 53 rfl (by kernel_rfl) ?_)) <;> ((try with_reducible intro K1 hK1); simp only [go_sem, ↓reduceIte, reduceCtorEq, nA, nB, nC, nD, nE, nF, hd0] <;> and_intros <;> first | (apply hK1; clear hK1 K1) | (intros; first | omega | decide) | skip))))
   refine awp_cond (t := _) rfl (fun h9 => ?_) (fun h9 => ?_)
   ·have h8 : cf x y < 0 := by simpa using h9
    have hs9 : ((A' ++ [y]).length : Int) - 1 = A'.length := by simp
    have e4 : (ct.set (A' ++ [y]).length (encW2 y)).set A'.length (encW2 x) = (A' ++ x :: (y :: B ++ rest)).map encW2 := by
     have h5 := set_mid ((A' ++ [y]).map encW2) (encW2 x) (encW2 y) ((B ++ rest).map encW2)
     have h6 := set_mid (A'.map encW2) (encW2 y) (encW2 x) ((encW2 y) :: (B ++ rest).map encW2)
     rw [List.length_map] at h5 h6
     rw [← hct, List.map_append, List.map_cons, h5, List.map_append, List.append_assoc]
     rw [show [y].map encW2 ++ encW2 y :: (B ++ rest).map encW2 = encW2 y :: (encW2 y :: (B ++ rest).map encW2) from rfl, h6]
     simp
    have g3 : (ct.set (A' ++ [y]).length (encW2 y)).getD A'.length [] = encW2 y := by
     have h5 := set_mid ((A' ++ [y]).map encW2) (encW2 x) (encW2 y) ((B ++ rest).map encW2)
     have h6 := getD_mid (A'.map encW2) (encW2 y) ((encW2 y) :: (B ++ rest).map encW2) []
     rw [List.length_map] at h5 h6
     rw [← hct, List.map_append, List.map_cons, h5, List.map_append, List.append_assoc]
     exact h6
    have hcl2 : (ct.set (A' ++ [y]).length (encW2 y)).length = xs.length := by rw [List.length_set, hcl]
    simp only [encW2] at e4 g3 hcl2
    (repeat (first | refine gO rfl ?_ | ((first | refine gR ?_ | (with_reducible refine wM ?_ ?_) | ((with_reducible refine xS ?_); refine uD 4 zM21 zPCE zPCP 53 rfl (by kernel_rfl) ?_) | ((with_reducible refine xR ?_); refine uE 6 zM21 zPDE zPDP 53 rfl (by kernel_rfl) ?_)) <;> ((try with_reducible intro K1 hK1); simp only [go_sem, ↓reduceIte, reduceCtorEq, nA, nB, nC, nD, nE, nF, hTq, hcl, hcl2, Int.toNat_natCast, hti, gx, gy, encW2, upd_upd] <;> and_intros <;> first | (apply hK1; clear hK1 K1) | (intros; first | omega | decide) | skip))))
    refine ⟨A'.length, by simp, A', y :: B, rfl, ?_, ?_, fun z hz => hA z (List.mem_append_left _ hz), ?_⟩
    ·rw [hR, List.reverse_append, List.reverse_singleton, List.singleton_append, insR, if_pos h8]; simp
    ·simp at hAB ⊢; omega
    ·simp only [g3, List.drop_succ_cons, List.drop_zero, e4, hs9]
     rfl
   ·have h8 : ¬ cf x y < 0 := by simpa using h9
    (repeat (first | refine gO rfl ?_ | ((first | refine gR ?_ | (with_reducible refine wM ?_ ?_) | ((with_reducible refine xS ?_); refine uD 4 zM21 zPCE zPCP 53 rfl (by kernel_rfl) ?_) | ((with_reducible refine xR ?_); refine uE 6 zM21 zPDE zPDP 53 rfl (by kernel_rfl) ?_)) <;> ((try with_reducible intro K1 hK1); simp only [go_sem, ↓reduceIte, reduceCtorEq, nA, nB, nC, nD, nE, nF] <;> and_intros <;> first | (apply hK1; clear hK1 K1) | (intros; first | omega | decide) | skip))))
    refine ⟨g - 1, by omega, i + 1, by omega, by omega, ?_⟩
    have e3 : (insS cf (xs.take (i + 1))).reverse ++ xs.drop (i + 1) = (A' ++ [y]) ++ x :: (B ++ rest) := by rw [hin, hR, hrs]; simp [insR, h8]
    rw [e3, hct]; rfl
 ·simp only [decide_eq_false_iff_not] at h1
  have e1 : (insS cf (xs.take i)).reverse ++ xs.drop i = sortI cf xs := by
   rw [List.drop_eq_nil_of_le (by omega), List.take_of_length_le (by omega), List.append_nil]; rfl
  rw [e1]
  (repeat (first | refine gO rfl ?_ | ((first | refine gR ?_ | (with_reducible refine wM ?_ ?_) | ((with_reducible refine xS ?_); refine uD 4 zM21 zPCE zPCP 53 rfl (by kernel_rfl) ?_) | ((with_reducible refine xR ?_); refine uE 6 zM21 zPDE zPDP 53 rfl (by kernel_rfl) ?_)) <;> ((try with_reducible intro K1 hK1); simp only [go_sem, ↓reduceIte, reduceCtorEq, nA, nB, nC, nD, nE, nF] <;> and_intros <;> first | (apply hK1; clear hK1 K1) | (intros; first | omega | decide | (simp_all <;> omega)) | skip))))
  simp only [Tryz.results228, go_sem, ↓reduceIte, reduceCtorEq, nA, nB, nC, nD, nE, nF]
  exact ⟨_, _, Weak.refl _, Hp.le.refl _, rfl, rfl⟩
theorem g_pdqW {f : Nat} {caps : List AV} (cf : Wnd → Wnd → Int) (k : Nat) (xs : List Wnd) (lim : Int) (h : Hp) (hT : h.T k = some (.cont 2 (xs.map encW2))) (hl : xs.length ≤ 12)
  (hc : ∀ x ∈ xs, ∀ y ∈ xs, ∀ T', ACalls Tryz.prog f ([encVW x, encVW y] ++ caps) ⟨h.H, T'⟩ (fun r h' => r = .v (.int .i64 (cf x y)) ∧ h' = ⟨h.H, T'⟩)) :
  ACalls Tryz.prog 193 [.arr 2 k xs.length, .v (.int .i64 0), .v (.int .i64 xs.length), .v (.int .i64 lim), .fn f caps] h (fun r h' => r = .tup [] ∧ h' = ⟨h.H, upd h.T k (some (.cont 2 ((sortI cf xs).map encW2)))⟩) := by
 have hd0 : decide (((xs.length : Int) - 0) ≤ 12) = true := by simp; omega
 have hi := g_insW cf k xs h hT (by omega) hc
 clear hc
 refine gE Tryz.func193 rfl (by kernel_rfl) 143 rfl fun c => ?_
 (repeat (first | refine gO rfl ?_ | ((first | refine gR ?_ | (with_reducible refine wM ?_ ?_) | ((with_reducible refine xS ?_); refine uD 17 zM21 zPEE zPEP 148 rfl (by kernel_rfl) ?_)) <;> ((try with_reducible intro K1 hK1); simp only [go_sem, ↓reduceIte, reduceCtorEq, nA, nB, nC, nD, nE, nF] <;> and_intros <;> first | (apply hK1; clear hK1 K1) | (intros; first | omega | decide | (simp_all <;> omega)) | skip))))
 refine awp_loopC (rl false [0, 5, 5, 2, 136]) 0 (fun g s => s = ⟨((.arr 2 k xs.length) :: (.v (.int .i64 0)) :: (.v (.int .i64 xs.length)) :: (.v (.int .i64 lim)) :: (.fn f caps) :: (jnk 5 ((.v (.bool true)) :: (.v (.bool true)) :: (jnk 136 [])))), [], h⟩) 1 rfl ?_
 rintro g _ rfl
 (repeat (first | refine gO rfl ?_ | ((first | refine gR ?_ | (with_reducible refine wM ?_ ?_) | ((with_reducible refine xS ?_); refine uD 17 zM21 zPEE zPEP 148 rfl (by kernel_rfl) ?_)) <;> ((try with_reducible intro K1 hK1); simp only [go_sem, ↓reduceIte, reduceCtorEq, nA, nB, nC, nD, nE, nF] <;> and_intros <;> first | (apply hK1; clear hK1 K1) | (intros; first | omega | decide) | skip))))
 refine awp_cond (t := _) rfl (fun _ => ?_) (fun h9 => by rw [hd0] at h9; cases h9)
 (repeat (first | refine gO rfl ?_ | ((first | refine gR ?_ | (with_reducible refine wM ?_ ?_) | ((with_reducible refine xS ?_); refine uD 17 zM21 zPEE zPEP 148 rfl (by kernel_rfl) ?_)) <;> ((try with_reducible intro K1 hK1); simp only [go_sem, ↓reduceIte, reduceCtorEq, nA, nB, nC, nD, nE, nF] <;> and_intros <;> first | (apply hK1; clear hK1 K1) | (intros; first | omega | decide) | skip))))
 refine hi.mono ?_
 rintro _ h2 ⟨rfl, rfl⟩
 refine hK1 _ ?_; clear hK1 K1
 (repeat (first | refine gO rfl ?_ | ((first | refine gR ?_ | (with_reducible refine wM ?_ ?_) | ((with_reducible refine xS ?_); refine uD 17 zM21 zPEE zPEP 148 rfl (by kernel_rfl) ?_)) <;> ((try with_reducible intro K1 hK1); simp only [go_sem, ↓reduceIte, reduceCtorEq, nA, nB, nC, nD, nE, nF] <;> and_intros <;> first | (apply hK1; clear hK1 K1) | (intros; first | omega | decide) | skip))))
 simp only [Tryz.results193, go_sem, ↓reduceIte, reduceCtorEq, nA, nB, nC, nD, nE, nF]
 exact ⟨_, _, Weak.refl _, Hp.le.refl _, rfl, rfl⟩
theorem g_srtW {f : Nat} {caps : List AV} (cf : Wnd → Wnd → Int) (k : Nat) (xs : List Wnd) (h : Hp) (hT : h.T k = some (.cont 2 (xs.map encW2))) (hl : xs.length ≤ 12)
  (hc : ∀ x ∈ xs, ∀ y ∈ xs, ∀ T', ACalls Tryz.prog f ([encVW x, encVW y] ++ caps) ⟨h.H, T'⟩ (fun r h' => r = .v (.int .i64 (cf x y)) ∧ h' = ⟨h.H, T'⟩)) :
  ACalls Tryz.prog 170 [.arr 2 k xs.length, .fn f caps] h (fun r h' => r = .tup [] ∧ h' = ⟨h.H, upd h.T k (some (.cont 2 ((sortI cf xs).map encW2)))⟩) := by
 have hwr : IntKind.u64.wrap (xs.length : Int) = xs.length := by simp [IntKind.wrap, IntKind.bits, IntKind.signed]; omega
 have hp := fun lim => g_pdqW cf k xs lim h hT hl hc
 have hbl := g_bitsLen xs.length h (by omega)
 clear hc
 refine gE Tryz.func170 rfl (by kernel_rfl) 12 rfl fun c => ?_
 (repeat (first | refine gO rfl ?_ | (refine gR fun K1 hK1 => ?_; simp only [go_sem, ↓reduceIte, reduceCtorEq, nA, nB, nC, nD, nE, nF, hwr] <;> and_intros <;> first | (apply hK1; clear hK1 K1) | (intros; first | omega | decide) | skip)))
 refine hbl.mono ?_
 rintro _ h2 ⟨n, rfl, rfl⟩
 refine hK1 _ ?_; clear hK1 K1
 (repeat (first | refine gO rfl ?_ | (refine gR fun K1 hK1 => ?_; simp only [go_sem, ↓reduceIte, reduceCtorEq, nA, nB, nC, nD, nE, nF] <;> and_intros <;> first | (apply hK1; clear hK1 K1) | (intros; first | omega | decide) | skip)))
 refine (hp _).mono ?_
 rintro _ h3 ⟨rfl, rfl⟩
 refine hK1 _ ?_; clear hK1 K1
 (repeat (first | refine gO rfl ?_ | (refine gR fun K1 hK1 => ?_; simp only [go_sem, ↓reduceIte, reduceCtorEq, nA, nB, nC, nD, nE, nF] <;> and_intros <;> first | (apply hK1; clear hK1 K1) | (intros; first | omega | decide) | skip)))
 simp only [Tryz.results170, go_sem, ↓reduceIte, reduceCtorEq, nA, nB, nC, nD, nE, nF]
 exact ⟨_, _, Weak.refl _, Hp.le.refl _, rfl, rfl⟩
def cmpWnd (x y : Wnd) : Int := x.1 - y.1
theorem insR_down (x : Wnd) : ∀ r : List Wnd, r.Pairwise (fun a b => b.1 ≤ a.1) → (insR cmpWnd r x).Pairwise (fun a b => b.1 ≤ a.1)
 | [], _ => by simp [insR]
 | y :: r, h => by
  have h1 := List.pairwise_cons.1 h
  rw [insR]
  split
  ·rename_i hc
   unfold cmpWnd at hc
   refine List.pairwise_cons.2 ⟨fun z hz => ?_, insR_down x r h1.2⟩
   rcases List.mem_cons.1 ((insR_perm cmpWnd r x).mem_iff.1 hz) with rfl | hz
   ·omega
   ·exact h1.1 z hz
  ·rename_i hc
   unfold cmpWnd at hc
   refine List.pairwise_cons.2 ⟨fun z hz => ?_, h⟩
   rcases List.mem_cons.1 hz with rfl | hz
   ·omega
   ·have := h1.1 z hz; omega
theorem foldI_down : ∀ (xs r : List Wnd), r.Pairwise (fun a b => b.1 ≤ a.1) → (xs.foldl (insR cmpWnd) r).Pairwise (fun a b => b.1 ≤ a.1)
 | [], r, h => h
 | x :: xs, r, h => foldI_down xs _ (insR_down x r h)
theorem sortI_up (xs : List Wnd) : (sortI cmpWnd xs).Pairwise (fun a b => a.1 ≤ b.1) := by
 unfold sortI insS
 rw [List.pairwise_reverse]
 exact foldI_down xs [] .nil
theorem g_cmpWnd (x y : Wnd) (hx : -1000000000000 ≤ x.1 ∧ x.1 ≤ 1000000000000) (hy : -1000000000000 ≤ y.1 ∧ y.1 ≤ 1000000000000) (h : Hp) : ACalls Tryz.prog 171 [encVW x, encVW y] h (fun r h' => r = .v (.int .i64 (cmpWnd x y)) ∧ h' = h) := by
 obtain ⟨a, b⟩ := x
 obtain ⟨a2, b2⟩ := y
 simp only at hx hy
 unfold encVW encW2 cmpWnd
 simp only
 refine gE Tryz.func171 rfl (by kernel_rfl) 8 rfl fun c => ?_
 (repeat (first | refine gO rfl ?_ | (refine gR fun K1 hK1 => ?_; simp only [go_sem, ↓reduceIte, reduceCtorEq, nA, nB, nC, nD, nE, nF] <;> and_intros <;> first | (apply hK1; clear hK1 K1) | (intros; first | omega | decide) | skip)))
 simp only [Tryz.results171, go_sem, ↓reduceIte, reduceCtorEq, nA, nB, nC, nD, nE, nF]
 exact ⟨_, _, Weak.refl _, Hp.le.refl _, rfl, rfl⟩
theorem g_covered (a b : Int) (k : Nat) (xs : List Wnd) (h : Hp) (hT : h.T k = some (.cont 2 (xs.map encW2))) (hl : xs.length ≤ 12) (hb : ∀ w ∈ xs, -1000000000000 ≤ w.1 ∧ w.1 ≤ 1000000000000) :
  ACalls Tryz.prog 124 [.agg [.v (.int .i64 a), .v (.int .i64 b)], .arr 2 k xs.length] h
   (fun r h' => r = .v (.bool (covB a b (sortI cmpWnd xs))) ∧ h' = ⟨h.H, upd h.T k (some (.cont 2 ((sortI cmpWnd xs).map encW2)))⟩) := by
 have hso := g_srtW (f := 171) (caps := []) cmpWnd k xs h hT hl fun x hx y hy T' => g_cmpWnd x y (hb x hx) (hb y hy) _
 have hlen := sortI_len cmpWnd xs
 refine gE Tryz.func124 rfl (by kernel_rfl) 30 rfl fun c => ?_
 (repeat (first | refine gO rfl ?_ | (refine gM zM25 fun K1 hK1 => ?_; simp only [go_sem, ↓reduceIte, reduceCtorEq, nA, nB, nC, nD, nE, nF] <;> and_intros <;> first | (apply hK1; clear hK1 K1) | (intros; first | omega | decide) | skip)))
 refine hso.mono ?_
 rintro _ _ ⟨rfl, rfl⟩; apply hK1; clear hK1 K1 hso
 generalize sortI cmpWnd xs = S at *
 rw [← hlen] at hl ⊢
 clear hlen hb hT
 (repeat (first | refine gO rfl ?_ | (refine gM zM25 fun K1 hK1 => ?_; simp only [go_sem, ↓reduceIte, reduceCtorEq, nA, nB, nC, nD, nE, nF] <;> and_intros <;> first | (apply hK1; clear hK1 K1) | (intros; first | omega | decide) | skip)))
 refine awp_loopC (rl false [2, 1, 6, 3, 20]) 1 (fun g s => ∃ (j : Nat) (a2 : Int), g + j = S.length ∧ covB a2 b (S.drop j) = covB a b S ∧
  s = ⟨(AV.junk :: AV.junk :: ((.loc 0 0) :: (jnk 6 ((.arr 2 k S.length) :: (.v (.int .i64 S.length)) :: (.v (.int .i64 j)) :: (jnk 20 []))))), [[.v (.int .i64 a2), .v (.int .i64 b)]], ⟨h.H, upd h.T k (some (.cont 2 (S.map encW2)))⟩⟩) S.length ⟨0, a, by omega, rfl, rfl⟩ ?_
 rintro g _ ⟨j, a2, hj, hinv, rfl⟩
 have hTq : upd h.T k (some (TO.cont 2 (S.map encW2))) k = some (TO.cont 2 (S.map encW2)) := upd_same _ _ _
 have hml : (S.map encW2).length = S.length := List.length_map _
 (repeat (first | refine gO rfl ?_ | (refine gM zM25 fun K1 hK1 => ?_; simp only [go_sem, ↓reduceIte, reduceCtorEq, nA, nB, nC, nD, nE, nF] <;> and_intros <;> first | (apply hK1; clear hK1 K1) | (intros; first | omega | decide) | skip)))
 refine awp_cond (t := _) rfl (fun h5 => ?_) (fun h5 => ?_)
 ·simp only [decide_eq_true_eq] at h5
  have hjl : j < S.length := by omega
  have gx : (S.map encW2).getD j [] = [.v (.int .i64 S[j].1), .v (.int .i64 S[j].2)] := by rw [List.getD_eq_getElem?_getD, List.getElem?_map, List.getElem?_eq_getElem hjl]; rfl
  rw [List.drop_eq_getElem_cons hjl, covB] at hinv
  generalize S[j] = w at *
  obtain ⟨w1, w2⟩ := w
  simp only at gx hinv
  (repeat (first | refine gO rfl ?_ | (refine gM zM25 fun K1 hK1 => ?_; simp only [go_sem, ↓reduceIte, reduceCtorEq, nA, nB, nC, nD, nE, nF, hTq, hml, Int.toNat_natCast, gx] <;> and_intros <;> first | (apply hK1; clear hK1 K1) | (intros; first | omega | decide) | skip)))
  by_cases hw : a2 < w1
  ·rw [if_pos hw] at hinv
   refine awp_cond (t := _) rfl (fun _ => ?_) (fun h6 => by simp [hw] at h6)
   (repeat (first | refine gO rfl ?_ | (refine gM zM25 fun K1 hK1 => ?_; simp only [go_sem, ↓reduceIte, reduceCtorEq, nA, nB, nC, nD, nE, nF] <;> and_intros <;> first | (apply hK1; clear hK1 K1) | (intros; first | omega | decide) | skip)))
   simp only [Tryz.results124, go_sem, ↓reduceIte, reduceCtorEq, nA, nB, nC, nD, nE, nF]
   exact ⟨_, _, Weak.refl _, Hp.le.refl _, by rw [← hinv], rfl⟩
  ·rw [if_neg hw] at hinv
   refine awp_cond (t := _) rfl (fun h6 => by simp [hw] at h6) (fun _ => ?_)
   (repeat (first | refine gO rfl ?_ | (refine gM zM25 fun K1 hK1 => ?_; simp only [go_sem, ↓reduceIte, reduceCtorEq, nA, nB, nC, nD, nE, nF] <;> and_intros <;> first | (apply hK1; clear hK1 K1) | (intros; first | omega | decide) | skip)))
   exact ⟨g - 1, by omega, j + 1, max a2 w2, by omega, hinv, rfl⟩
 ·simp only [decide_eq_false_iff_not] at h5
  have hjl : j = S.length := by omega
  subst hjl
  rw [List.drop_length, covB] at hinv
  (repeat (first | refine gO rfl ?_ | (refine gM zM25 fun K1 hK1 => ?_; simp only [go_sem, ↓reduceIte, reduceCtorEq, nA, nB, nC, nD, nE, nF] <;> and_intros <;> first | (apply hK1; clear hK1 K1) | (intros; first | omega | decide) | skip)))
  simp only [Tryz.results124, go_sem, ↓reduceIte, reduceCtorEq, nA, nB, nC, nD, nE, nF]
  exact ⟨_, _, Weak.refl _, Hp.le.refl _, by rw [← hinv], rfl⟩
def wholeV (tags : List ByteArray) (item : ByteArray) (a b : Int) (rs : List Rt) : Bool := match byL tags item a b rs [] with
 | none => false
 | some S => covB a b (sortI cmpWnd S)
theorem wholeV_iff (tags : List ByteArray) (item : ByteArray) (a b : Int) (l : List Rt) (hab : a < b) (hw : ∀ r ∈ l, r.2.2.1 < r.2.2.2.1) : wholeV tags item a b l = true ↔ ∀ x, a ≤ x → x < b → mayL tags item x l false = true := by
 refine whole_iff tags item a b l hab hw _ ?_
 unfold wholeV
 cases h : byL tags item a b l [] with
 | none => exact .inl ⟨rfl, rfl⟩
 | some S => exact .inr ⟨S, sortI cmpWnd S, rfl, sortI_perm _ _, sortI_up S, rfl⟩
theorem byL_step (tags : List ByteArray) (item : ByteArray) (a b : Int) (rs : List Rt) (o : List Wnd) (j : Nat) (hj : j < rs.length) : byL tags item a b (rs.drop j) o = if appl tags item a b rs[j] = true then (if rs[j].2.2.2.2 = true then none else byL tags item a b (rs.drop (j + 1)) (o ++ [(rs[j].2.2.1, rs[j].2.2.2.1)])) else byL tags item a b (rs.drop (j + 1)) o := by
 rw [List.drop_eq_getElem_cons hj, byL]
theorem g_whole (rs : List Rt) (p : Gu) (item : ByteArray) (a b : Int) (kk : Option Nat) (hl : rs.length ≤ 12) (hok : ∀ r ∈ rs, RtOk r) (hp : GuOk p) (hs : p.tags.Pairwise fun a b => ltB a b = true) (h : Hp) :
  ACalls Tryz.prog 88 [.row 5 (rs.map encRt) kk, .agg (encGu p), .v (.string item), .agg [.v (.int .i64 a), .v (.int .i64 b)]] h (fun r h' => r = .v (.bool (wholeV p.tags item a b rs)) ∧ h' = h) := by
 obtain ⟨key, scr, zone, tags⟩ := p
 obtain ⟨_, _, _, ⟨h4, _⟩⟩ := hp
 simp only at h4 hs
 unfold encGu encGr
 simp only
 have hml : (rs.map encRt).length = rs.length := List.length_map _
 refine gE Tryz.func88 rfl (by kernel_rfl) 53 rfl fun c => ?_
 (repeat (first | refine gQ rfl ?_ | (refine gM zM23 fun K1 hK1 => ?_; simp only [go_sem, ↓reduceIte, reduceCtorEq, nA, nB, nC, nD, nE, nF] <;> and_intros <;> first | (apply hK1; clear hK1 K1) | (intros; first | omega | decide | (simp_all <;> omega)) | skip)))
 refine awp_seq ?_
 refine awp_ownA 9 2 rfl ⟨rfl, rfl⟩ (fun k hk => ?_)
 replace hk : h.T k = none := hk
 (repeat (first | refine gO rfl ?_ | (refine gM zM23 fun K1 hK1 => ?_; simp only [go_sem, ↓reduceIte, reduceCtorEq, nA, nB, nC, nD, nE, nF, hml] <;> and_intros <;> first | (apply hK1; clear hK1 K1) | (intros; first | omega | decide) | skip)))
 refine awp_loopC (rl false [2, 1, 2, 1, 1, 1, 1, 1, 2, 3, 42]) 0 (fun g s => ∃ (j n : Nat) (ys : List Wnd), g + j = rs.length ∧ ys.length = n ∧ n ≤ j ∧ (∀ w ∈ ys, -1000000000000 ≤ w.1 ∧ w.1 ≤ 1000000000000) ∧ byL tags item a b (rs.drop j) ys = byL tags item a b rs [] ∧
  s = ⟨(AV.junk :: AV.junk :: ((.v (.string item)) :: AV.junk :: AV.junk :: ((.ref [.v (.string key), .v (.string scr), .v (.int .i64 zone), .row 1 (tags.map encS) none] 0) :: AV.junk :: ((.ref [.v (.int .i64 a), .v (.int .i64 b)] 0) :: AV.junk :: ((.arr 2 k n) :: AV.junk :: AV.junk :: ((.row 5 (rs.map encRt) kk) :: (.v (.int .i64 rs.length)) :: (.v (.int .i64 j)) :: (jnk 42 []))))))), [], ⟨h.H, upd h.T k (some (.cont 2 (ys.map encW2)))⟩⟩) rs.length ⟨0, 0, [], by omega, rfl, by omega, by simp, rfl, rfl⟩ ?_
 rintro g _ ⟨j, n, ys, hj, hn, hnj, hys, hinv, rfl⟩
 have hTq : upd h.T k (some (TO.cont 2 (ys.map encW2))) k = some (TO.cont 2 (ys.map encW2)) := upd_same _ _ _
 have hyl : (ys.map encW2).length = n := by rw [List.length_map, hn]
 (repeat (first | refine gO rfl ?_ | (refine gM zM23 fun K1 hK1 => ?_; simp only [go_sem, ↓reduceIte, reduceCtorEq, nA, nB, nC, nD, nE, nF] <;> and_intros <;> first | (apply hK1; clear hK1 K1) | (intros; first | omega | decide) | skip)))
 refine awp_cond (t := _) rfl (fun h5 => ?_) (fun h5 => ?_)
 ·simp only [decide_eq_true_eq] at h5
  have hjl : j < rs.length := by omega
  have gx : (rs.map encRt).getD j [] = encRt rs[j] := by rw [List.getD_eq_getElem?_getD, List.getElem?_map, List.getElem?_eq_getElem hjl]; rfl
  have hro := hok _ (List.getElem_mem hjl)
  rw [byL_step tags item a b rs ys j hjl] at hinv
  generalize rs[j] = r at *
  obtain ⟨it, tg, fr, t2, bb⟩ := r
  rw [show encRt (it, tg, fr, t2, bb) = [.v (.string it), .row 1 (tg.map encS) none, .v (.int .i64 fr), .v (.int .i64 t2), .v (.bool bb)] from rfl] at gx
  obtain ⟨hs1, ⟨hs2, hs3⟩, hs4, hs5⟩ := hro
  simp only at hs1 hs2 hs3 hs4 hs5
  have hW := g_within tg tags none none ⟨h.H, upd h.T k (some (.cont 2 (ys.map encW2)))⟩ (by omega) (by omega) hs
  obtain ⟨x1, e1⟩ : ∃ c, (it == item) = c := ⟨_, rfl⟩
  obtain ⟨x2, e2⟩ : ∃ c, decide (b ≤ fr) = c := ⟨_, rfl⟩
  obtain ⟨x3, e3⟩ : ∃ c, decide (t2 ≤ a) = c := ⟨_, rfl⟩
  have hap : appl tags item a b (it, tg, fr, t2, bb) = (x1 && (!x2 && (!x3 && inTags tags tg))) := by
   have q1 : decide (it = item) = x1 := by rw [← ba_beq, ← e1]
   have q2 : decide (fr < b) = !x2 := by rw [← e2, ← decide_not]; exact decide_eq_decide.2 (by omega)
   have q3 : decide (a < t2) = !x3 := by rw [← e3, ← decide_not]; exact decide_eq_decide.2 (by omega)
   unfold appl
   simp only [q1, q2, q3]
  rw [hap] at hinv
  clear hap
  cases x1 with
  | false =>
   (repeat (first | refine gO rfl ?_ | (refine gM zM23 fun K1 hK1 => ?_; simp only [go_sem, ↓reduceIte, reduceCtorEq, nA, nB, nC, nD, nE, nF, hml, Int.toNat_natCast, gx, e1, e2, e3, Bool.not_true, Bool.not_false] <;> and_intros <;> first | (apply hK1; clear hK1 K1) | (intros; first | omega | decide) | skip)))
   refine awp_cond (t := _) rfl (fun _ => ?_) (fun h6 => by cases h6)
   (repeat (first | refine gO rfl ?_ | (refine gM zM23 fun K1 hK1 => ?_; simp only [go_sem, ↓reduceIte, reduceCtorEq, nA, nB, nC, nD, nE, nF] <;> and_intros <;> first | (apply hK1; clear hK1 K1) | (intros; first | omega | decide) | skip)))
   exact ⟨g - 1, by omega, j + 1, n, ys, by omega, hn, by omega, hys, hinv, rfl⟩
  | true =>
   cases x2 with
   | true =>
    (repeat (first | refine gO rfl ?_ | (refine gM zM23 fun K1 hK1 => ?_; simp only [go_sem, ↓reduceIte, reduceCtorEq, nA, nB, nC, nD, nE, nF, hml, Int.toNat_natCast, gx, e1, e2, e3, Bool.not_true, Bool.not_false] <;> and_intros <;> first | (apply hK1; clear hK1 K1) | (intros; first | omega | decide) | skip)))
    refine awp_cond (t := _) rfl (fun _ => ?_) (fun h6 => by cases h6)
    (repeat (first | refine gO rfl ?_ | (refine gM zM23 fun K1 hK1 => ?_; simp only [go_sem, ↓reduceIte, reduceCtorEq, nA, nB, nC, nD, nE, nF] <;> and_intros <;> first | (apply hK1; clear hK1 K1) | (intros; first | omega | decide) | skip)))
    exact ⟨g - 1, by omega, j + 1, n, ys, by omega, hn, by omega, hys, hinv, rfl⟩
   | false =>
    cases x3 with
    | true =>
     (repeat (first | refine gO rfl ?_ | (refine gM zM23 fun K1 hK1 => ?_; simp only [go_sem, ↓reduceIte, reduceCtorEq, nA, nB, nC, nD, nE, nF, hml, Int.toNat_natCast, gx, e1, e2, e3, Bool.not_true, Bool.not_false] <;> and_intros <;> first | (apply hK1; clear hK1 K1) | (intros; first | omega | decide) | skip)))
     refine awp_cond (t := _) rfl (fun _ => ?_) (fun h6 => by cases h6)
     (repeat (first | refine gO rfl ?_ | (refine gM zM23 fun K1 hK1 => ?_; simp only [go_sem, ↓reduceIte, reduceCtorEq, nA, nB, nC, nD, nE, nF] <;> and_intros <;> first | (apply hK1; clear hK1 K1) | (intros; first | omega | decide) | skip)))
     exact ⟨g - 1, by omega, j + 1, n, ys, by omega, hn, by omega, hys, hinv, rfl⟩
    | false =>
     (repeat (first | refine gO rfl ?_ | (refine gM zM23 fun K1 hK1 => ?_; simp only [go_sem, ↓reduceIte, reduceCtorEq, nA, nB, nC, nD, nE, nF, hml, Int.toNat_natCast, gx, e1, e2, e3, Bool.not_true, Bool.not_false] <;> and_intros <;> first | (apply hK1; clear hK1 K1) | (intros; first | omega | decide) | skip)))
     rotate_left
     ·exact fun h => h.elim
     refine hW.mono ?_
     rintro _ hz ⟨rfl, hh⟩; refine ⟨rfl, ?_⟩; apply hK1; clear hK1 K1; rw [hh]; clear hh hz
     simp only [Bool.not_false, Bool.true_and] at hinv
     cases hb : inTags tags tg with
     | false =>
      rw [hb] at hinv
      (repeat (first | refine gO rfl ?_ | (refine gM zM23 fun K1 hK1 => ?_; simp only [go_sem, ↓reduceIte, reduceCtorEq, nA, nB, nC, nD, nE, nF, Bool.not_false] <;> and_intros <;> first | (apply hK1; clear hK1 K1) | (intros; first | omega | decide) | skip)))
      refine awp_cond (t := _) rfl (fun _ => ?_) (fun h6 => by cases h6)
      (repeat (first | refine gO rfl ?_ | (refine gM zM23 fun K1 hK1 => ?_; simp only [go_sem, ↓reduceIte, reduceCtorEq, nA, nB, nC, nD, nE, nF] <;> and_intros <;> first | (apply hK1; clear hK1 K1) | (intros; first | omega | decide) | skip)))
      exact ⟨g - 1, by omega, j + 1, n, ys, by omega, hn, by omega, hys, hinv, rfl⟩
     | true =>
      rw [hb, if_pos rfl] at hinv
      (repeat (first | refine gO rfl ?_ | (refine gM zM23 fun K1 hK1 => ?_; simp only [go_sem, ↓reduceIte, reduceCtorEq, nA, nB, nC, nD, nE, nF, Bool.not_true] <;> and_intros <;> first | (apply hK1; clear hK1 K1) | (intros; first | omega | decide) | skip)))
      refine awp_cond (t := _) rfl (fun h6 => by cases h6) (fun _ => ?_)
      (repeat (first | refine gO rfl ?_ | (refine gM zM23 fun K1 hK1 => ?_; simp only [go_sem, ↓reduceIte, reduceCtorEq, nA, nB, nC, nD, nE, nF] <;> and_intros <;> first | (apply hK1; clear hK1 K1) | (intros; first | omega | decide) | skip)))
      cases bb with
      | true =>
       rw [if_pos rfl] at hinv
       refine awp_cond (t := _) rfl (fun _ => ?_) (fun h6 => by cases h6)
       (repeat (first | refine gO rfl ?_ | (refine gM zM23 fun K1 hK1 => ?_; simp only [go_sem, ↓reduceIte, reduceCtorEq, nA, nB, nC, nD, nE, nF] <;> and_intros <;> first | (apply hK1; clear hK1 K1) | (intros; first | omega | decide) | skip)))
       simp only [Tryz.results88, go_sem, ↓reduceIte, reduceCtorEq, nA, nB, nC, nD, nE, nF]
       refine ⟨_, h, Weak.refl _, ⟨fun _ => .inr rfl, fun t => ?_⟩, by unfold wholeV; rw [← hinv], rfl⟩
       by_cases e : t = k
       ·subst e; exact .inl hk
       ·exact .inr (by show h.T t = upd h.T k _ t; rw [upd_other _ _ e])
      | false =>
       rw [if_neg (by decide)] at hinv
       refine awp_cond (t := _) rfl (fun h6 => by cases h6) (fun _ => ?_)
       (repeat (first | refine gO rfl ?_ | (refine gM zM23 fun K1 hK1 => ?_; simp only [go_sem, ↓reduceIte, reduceCtorEq, nA, nB, nC, nD, nE, nF, hTq, hyl] <;> and_intros <;> first | (apply hK1; clear hK1 K1) | (intros; first | omega | decide) | skip)))
       refine ⟨g - 1, by omega, j + 1, n + 1, ys ++ [(fr, t2)], by omega, by simp [hn], by omega, fun w hw => ?_, hinv, ?_⟩
       ·rcases List.mem_append.1 hw with hw | hw
        ·exact hys w hw
        ·rw [List.mem_singleton.1 hw]; simp only; omega
       ·rw [List.map_append]
        (try simp only [upd_upd])
        rfl
 ·simp only [decide_eq_false_iff_not] at h5
  have hjl : j = rs.length := by omega
  subst hjl
  rw [List.drop_length, byL] at hinv
  subst hn
  (repeat (first | refine gO rfl ?_ | (refine gM zM23 fun K1 hK1 => ?_; simp only [go_sem, ↓reduceIte, reduceCtorEq, nA, nB, nC, nD, nE, nF] <;> and_intros <;> first | (apply hK1; clear hK1 K1) | (intros; first | omega | decide) | skip)))
  refine (g_covered a b k ys ⟨h.H, upd h.T k (some (.cont 2 (ys.map encW2)))⟩ hTq (by omega) hys).mono ?_; rintro _ hz ⟨rfl, hh⟩; apply hK1; clear hK1 K1; rw [hh]; clear hh hz
  (repeat (first | refine gO rfl ?_ | (refine gM zM23 fun K1 hK1 => ?_; simp only [go_sem, ↓reduceIte, reduceCtorEq, nA, nB, nC, nD, nE, nF] <;> and_intros <;> first | (apply hK1; clear hK1 K1) | (intros; first | omega | decide) | skip)))
  simp only [Tryz.results88, go_sem, ↓reduceIte, reduceCtorEq, nA, nB, nC, nD, nE, nF]
  refine ⟨_, h, Weak.refl _, ⟨fun _ => .inr rfl, fun t => ?_⟩, by unfold wholeV; rw [← hinv], rfl⟩
  by_cases e : t = k
  ·subst e; exact .inl hk
  ·refine .inr ?_
   show h.T t = _
   simp only [upd_upd]
   rw [upd_other _ _ e]
abbrev zPFE : List Nat := [0, 1, 2, 3, 4, 5, 6]
abbrev zPFP : List (Nat × List Nat × List Nat) := [(7, [], [8])]
abbrev zPGE : List Nat := [0, 1, 2, 3, 4, 5, 6, 7, 8, 9, 10, 11, 12, 13]
abbrev zPGP : List (Nat × List Nat × List Nat) := []
abbrev zPHE : List Nat := [0, 1, 2, 3, 4, 5, 6, 7, 8, 9, 10, 11]
abbrev zPHP : List (Nat × List Nat × List Nat) := [(12, [], []), (13, [], [])]
attribute [go_sem] zPFE zPFP zPGE zPGP zPHE zPHP
theorem runs_at (f : Int → Bool) (P : List Int) (acc : List Wnd) (i : Nat) (hi : i + 1 < P.length) : runsW f (P.drop i) acc = runsW f (P.drop (i + 1)) (if f P[i] then pushW acc P[i] P[i + 1] else acc) := by
 rw [List.drop_eq_getElem_cons (show i < P.length by omega), List.drop_eq_getElem_cons hi, runsW]
theorem runs_end (f : Int → Bool) (P : List Int) (acc : List Wnd) (i : Nat) (hi : i + 1 = P.length) : runsW f (P.drop i) acc = acc := by
 rw [List.drop_eq_getElem_cons (show i < P.length by omega), List.drop_of_length_le (by omega)]; rfl
theorem upd_back {T : Nat → Option TO} {k : Nat} (hk : T k = none) : upd T k none = T := by
 funext t
 by_cases e : t = k
 ·subst e; rw [upd_same, hk]
 ·rw [upd_other _ _ e]
end Go.Proofs.YtmghfolmgmhabaaGreatDoor
