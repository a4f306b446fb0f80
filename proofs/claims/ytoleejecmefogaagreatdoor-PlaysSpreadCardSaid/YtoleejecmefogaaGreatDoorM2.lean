/- signref1.runner.pass. -/
import Derived.Test.YtoleejecmefogaaGreatDoorM1
import Derived.Test.YtoleejecmefogaaGreatDoorAvRun
import Derived.Lib.SlicesCompact
import Derived.Sort.KeysCollected
import Derived.Test.YtoleejecmefogaaGreatDoorShelf
import Derived.Lib.OwnBridge
import Derived.Lib.Hide
import Derived.Test.YtoleejecmefogaaGreatDoorAvOld
import Derived.Shelf.SlIter.Nil
import Derived.Shelf.SortM.Plain
import Derived.Shelf.SortM.SortNone
import Derived.Ground.GgzProg
import Derived.Ground.SlgmProg
import Derived.Test.YtoleejecmefogaaGreatDoorProg
namespace Go.Proofs.YtoleejecmefogaaGreatDoor
open Go
set_option linter.unusedVariables false
set_option linter.unusedSimpArgs false
open Nat renaming reduceAdd → nA, reduceSub → nB, reduceMul → nC, reduceLT → nD, reduceLeDiff → nE, reduceEqDiff → nF, reduceMod → nG, reduceDiv → nH, reducePow → nI
abbrev zM20 : Option Tmp → Nat := mdL []
abbrev zM21 : Option Tmp → Nat := mdL [(8, 1)]
abbrev zM22 : Option Tmp → Nat := mdL [(3, 2)]
abbrev zM23 : Option Tmp → Nat := mdL [(2, 1), (6, 1), (8, 1), (12, 2)]
abbrev zM24 : Option Tmp → Nat := mdL [(5, 2)]
abbrev zM25 : Option Tmp → Nat := mdL [(2, 1)]
abbrev zM26 : Option Tmp → Nat := mdL [(6, 1)]
abbrev zM27 : Option Tmp → Nat := mdL [(1, 1)]
abbrev zM28 : Option Tmp → Nat := mdL [(5, 1)]
abbrev zK20 : Nat := 9905787658939656716169610695
abbrev zK21 : Nat := 154742654650856545879597411
abbrev zK22 : Nat := 171031419293486646490912486693274495
attribute [go_sem] zM20 zM21 zM22 zM23 zM24 zM25 zM26 zM27 zM28 zK20 zK21 zK22
abbrev zPEE : List Nat := [0, 1, 2, 3, 4, 5, 6, 7, 8, 9, 10, 11, 12, 13, 14, 15]
abbrev zPEP : List (Nat × List Nat × List Nat) := [(16, [], [17]), (18, [], [])]
abbrev zPFE : List Nat := [0, 1, 2, 3, 4, 5, 6, 7, 8, 9, 10, 11]
abbrev zPFP : List (Nat × List Nat × List Nat) := []
attribute [go_sem] zPEE zPEP zPFE zPFP
set_option maxRecDepth 100000
set_option maxHeartbeats 8000000
def encN (j : Nat) : List AV := [.v (.int .i64 (j : Int))]
theorem upd_none {α : Type} {f : Nat → Option α} {q : Nat} {x : Option α} (h : f q = none) : upd (upd f q x) q none = f := by
 funext j
 by_cases hj : j = q
 ·subst hj; rw [upd_same, h]
 ·rw [upd_other _ _ hj, upd_other _ _ hj]
def PRes (d : Nat) (t : LT) (a : AT) (s : PS) (h : Hp) (o k : Nat) (out : List (ByteArray × Int)) (r : AV) (h' : Hp) : Prop :=
 if out.length + (passU d t s).2.length ≤ 5000 then r = .v (.bool true) ∧ RAt XR h' d t a (passU d t s).1 ∧ OutAt h' o k [] (out ++ (passU d t s).2) ∧ FrP a o k h h' else r = .v (.bool false)
def PassJ (d : Nat) (kind : Int) (item : ByteArray) (long many : Int) (kids : List LT) (shares : List Int) (i c0 : Nat) (az : List AT) (p : Int) (cs : List Int) (ks : List PS) (h : Hp) (o k : Nat) (out : List (ByteArray × Int)) (s : St) : Prop :=
 ∃ hb v h1, RAt XR hb (d + 1) (.mk kind item long many kids shares) (.mk i c0 az) (.mk p cs ks) ∧ OutAt hb o k [] (out ++ if kind = 1 then [(item, long)] else []) ∧ FrP (.mk i c0 az) o k h hb ∧
  (v.noLoc = true ∧ Weak v (.row 1 ((idxL kind p many kids.length (nextF shares p cs)).map encN) none) ∧ Hp.le hb h1 ∨ ∃ q, v = .arr 1 q (idxL kind p many kids.length (nextF shares p cs)).length ∧ hb.T q = none ∧ h1 = { hb with T := upd hb.T q (some (.cont 1 ((idxL kind p many kids.length (nextF shares p cs)).map encN))) }) ∧
  s = ⟨((.ptr i 0) :: (.ptr o 0) :: (.v (.int .i64 5000)) :: (jnk 4 ((v) :: (jnk 109 [])))), [], h1⟩
theorem g_passR : ∀ (d : Nat) (t : LT) (a : AT) (s : PS) (h : Hp) (o k : Nat) (out : List (ByteArray × Int)), VL d t → RAt XR h d t a s → Sep d a → PSB d t s out.length → OutAt h o k [] out → o ∉ idsT a → out.length ≤ 5000 →
  ACalls Tryz.prog 135 [.ptr a.id 0, .ptr o 0, .v (.int .i64 5000)] h (PRes d t a s h o k out)
 | 0, _, _, _, _, _, _, _, hv, _, _, _, _, _, _ => hv.elim
 | d + 1, .mk kind item long many kids shares, .mk i c0 az, .mk p cs ks, h, o, k, out, hv, hR, hS, hB, hO, ho, hout => by
  have hfit := hR.fits
  have hkt := hR.tokNe hO.2
  obtain ⟨v1, v2, v3, v4, v5, v6, v7, v8⟩ := id hv
  obtain ⟨⟨K, hH, hK⟩, hT, ⟨l1, l2, l3, l4⟩, hkids⟩ := id hR
  have hH0 : h.H i = some (.cells [.v (.int .i64 kind), .v (.string item), .v (.int .i64 long), .v (.int .i64 many), .row 6 (kids.map encL) none, .row 1 (shares.map encI) none, K, .v (.int .i64 p), .arr 1 c0 kids.length]) := hH
  have hT0 : h.T c0 = some (.cont 1 (cs.map encI)) := hT
  have hO1 : h.H o = some (.cells [.row 2 (out.map encStep) (some k)]) := hO.1
  have hO2 : h.T k = some (.tail out.length) := hO.2
  have hpn : 0 ≤ p ∧ p ≤ 5000 := by have := hB.1; omega
  have hcn : ∀ x ∈ cs, 0 ≤ x ∧ x ≤ 1000000 := fun x hx => by have := hB.2.1 x hx; omega
  have hfr0 : FrP (.mk i c0 az) o k h h := ⟨fun _ _ _ => rfl, fun _ _ _ => rfl⟩
  show ACalls Tryz.prog 135 [.ptr i 0, .ptr o 0, .v (.int .i64 5000)] h _
  refine gE Tryz.func135 rfl (by kernel_rfl) 114 rfl fun c => ?_
  (repeat (first | refine gQ rfl ?_ | ((first | ((with_reducible refine yS ?_); refine awp_keep zK20 100 (kS ?_)) | ((with_reducible refine yR ?_); refine awp_keep zK20 100 (kR ?_)) | refine gR ?_ | (with_reducible refine wM ?_ ?_) | ((with_reducible refine xR ?_); refine awp_keep zK20 100 (uE 4 zM20 zPEE zPEP 117 rfl (by kernel_rfl) ?_)) | ((with_reducible refine xR ?_); refine awp_keep zK20 100 (uE 12 zM20 zPFE zPFP 117 rfl (by kernel_rfl) ?_))) <;> ((try with_reducible intro K1 hK1); simp only [go_sem, ↓reduceIte, reduceCtorEq, nA, nB, nC, nD, nE, nF, hH0, nG, nH, nI] <;> and_intros <;> first | (apply hK1; clear hK1 K1) | (intros; first | omega | decide | (simp_all <;> omega)) | skip))))
  refine awp_seq ?_
  refine awp_join (rl false [0, 3, 4, 1, 109]) 0 (fun s => PassJ d kind item long many kids shares i c0 az p cs ks h o k out s) ?_ ?_
  ·have hkz : kind ≠ 1 → ∃ tk, K = .row 1 (az.map fun a => [.ptr a.id 0]) tk := fun h1 => by
    rcases hK with ⟨rfl, _⟩ | h2
    ·simp at l3; exact absurd (List.eq_nil_of_length_eq_zero l3.symm) (v3 h1)
    ·exact h2
   rcases (show kind = 1 ∨ kind = 2 ∨ kind = 3 ∨ kind = 4 ∨ kind = 5 by omega) with rfl | rfl | rfl | rfl | rfl
   ·(repeat (first | refine gO rfl ?_ | ((first | ((with_reducible refine yS ?_); refine awp_keep zK20 100 (kS ?_)) | ((with_reducible refine yR ?_); refine awp_keep zK20 100 (kR ?_)) | refine gR ?_ | (with_reducible refine wM ?_ ?_) | ((with_reducible refine xR ?_); refine awp_keep zK20 100 (uE 4 zM20 zPEE zPEP 117 rfl (by kernel_rfl) ?_)) | ((with_reducible refine xR ?_); refine awp_keep zK20 100 (uE 12 zM20 zPFE zPFP 117 rfl (by kernel_rfl) ?_))) <;> ((try with_reducible intro K1 hK1); simp only [go_sem, ↓reduceIte, reduceCtorEq, nA, nB, nC, nD, nE, nF, hH0, nG, nH, nI] <;> and_intros <;> first | (apply hK1; clear hK1 K1) | (intros; first | omega | decide | (simp_all <;> omega)) | skip))))
    refine awp_cond (t := _) rfl (fun _ => ?_) (fun h1 => by cases h1)
    (repeat (first | refine gO rfl ?_ | ((first | ((with_reducible refine yS ?_); refine awp_keep zK20 100 (kS ?_)) | ((with_reducible refine yR ?_); refine awp_keep zK20 100 (kR ?_)) | refine gR ?_ | (with_reducible refine wM ?_ ?_) | ((with_reducible refine xR ?_); refine awp_keep zK20 100 (uE 4 zM20 zPEE zPEP 117 rfl (by kernel_rfl) ?_)) | ((with_reducible refine xR ?_); refine awp_keep zK20 100 (uE 12 zM20 zPFE zPFP 117 rfl (by kernel_rfl) ?_))) <;> ((try with_reducible intro K1 hK1); simp only [go_sem, ↓reduceIte, reduceCtorEq, nA, nB, nC, nD, nE, nF, hH0, hO1, hO2, nG, nH, nI] <;> and_intros <;> first | (apply hK1; clear hK1 K1) | (intros; first | omega | decide | (simp_all <;> omega)) | skip))))
    refine ⟨{ H := upd h.H o (some (.cells [.row 2 (out.map encStep ++ [[.v (.string item), .v (.int .i64 long)]]) (some k)])), T := upd h.T k (some (.tail (out.length + 1))) }, .v (.slice none 0 0), _, hR.frame (fun x hx => upd_other _ _ (fun e => by subst e; exact ho hx)) (fun x hx => upd_other _ _ (fun e => by subst e; exact hkt hx)), ⟨?_, ?_⟩, ⟨fun x _ hx => upd_other _ _ hx, fun x _ hx => upd_other _ _ hx⟩, .inl ⟨rfl, Weak.nil 1 0 0 ⟨rfl, rfl⟩, Hp.le.refl _⟩, rfl⟩
    ·rw [show (out ++ if (1 : Int) = 1 then [(item, long)] else []).map encStep = out.map encStep ++ [[.v (.string item), .v (.int .i64 long)]] by simp [encStep]]
     exact upd_same _ _ _
    ·rw [show (out ++ if (1 : Int) = 1 then [(item, long)] else []).length = out.length + 1 by simp]
     exact upd_same _ _ _
   ·obtain ⟨tk, rfl⟩ := hkz (by omega)
    have hO' : OutAt h o k [] (out ++ if (2 : Int) = 1 then [(item, long)] else []) := by simpa using hO
    (repeat (first | refine gO rfl ?_ | ((first | ((with_reducible refine yS ?_); refine awp_keep zK20 100 (kS ?_)) | ((with_reducible refine yR ?_); refine awp_keep zK20 100 (kR ?_)) | refine gR ?_ | (with_reducible refine wM ?_ ?_) | ((with_reducible refine xR ?_); refine awp_keep zK20 100 (uE 4 zM20 zPEE zPEP 117 rfl (by kernel_rfl) ?_)) | ((with_reducible refine xR ?_); refine awp_keep zK20 100 (uE 12 zM20 zPFE zPFP 117 rfl (by kernel_rfl) ?_))) <;> ((try with_reducible intro K1 hK1); simp only [go_sem, ↓reduceIte, reduceCtorEq, nA, nB, nC, nD, nE, nF, hH0, nG, nH, nI] <;> and_intros <;> first | (apply hK1; clear hK1 K1) | (intros; first | omega | decide | (simp_all <;> omega)) | skip))))
    refine awp_cond (t := _) rfl (fun h1 => by cases h1) (fun _ => ?_)
    (repeat (first | refine gO rfl ?_ | ((first | ((with_reducible refine yS ?_); refine awp_keep zK20 100 (kS ?_)) | ((with_reducible refine yR ?_); refine awp_keep zK20 100 (kR ?_)) | refine gR ?_ | (with_reducible refine wM ?_ ?_) | ((with_reducible refine xR ?_); refine awp_keep zK20 100 (uE 4 zM20 zPEE zPEP 117 rfl (by kernel_rfl) ?_)) | ((with_reducible refine xR ?_); refine awp_keep zK20 100 (uE 12 zM20 zPFE zPFP 117 rfl (by kernel_rfl) ?_))) <;> ((try with_reducible intro K1 hK1); simp only [go_sem, ↓reduceIte, reduceCtorEq, nA, nB, nC, nD, nE, nF, hH0, nG, nH, nI] <;> and_intros <;> first | (apply hK1; clear hK1 K1) | (intros; first | omega | decide | (simp_all <;> omega)) | skip))))
    refine awp_cond (t := _) rfl (fun _ => ?_) (fun h1 => by cases h1)
    (repeat (first | refine gO rfl ?_ | ((first | ((with_reducible refine yS ?_); refine awp_keep zK20 100 (kS ?_)) | ((with_reducible refine yR ?_); refine awp_keep zK20 100 (kR ?_)) | refine gR ?_ | (with_reducible refine wM ?_ ?_) | ((with_reducible refine xR ?_); refine awp_keep zK20 100 (uE 4 zM20 zPEE zPEP 117 rfl (by kernel_rfl) ?_)) | ((with_reducible refine xR ?_); refine awp_keep zK20 100 (uE 12 zM20 zPFE zPFP 117 rfl (by kernel_rfl) ?_))) <;> ((try with_reducible intro K1 hK1); simp only [go_sem, ↓reduceIte, reduceCtorEq, nA, nB, nC, nD, nE, nF, hH0, nG, nH, nI] <;> and_intros <;> first | (apply hK1; clear hK1 K1) | (intros; first | omega | decide | (simp_all <;> omega)) | skip))))
    refine awp_own 7 1 rfl ⟨rfl, rfl⟩ (fun q hq => ?_)
    simp only [List.set_cons_zero, List.set_cons_succ]
    replace hq : h.T q = none := hq
    refine awp_loopC (rl false [0, 3, 4, 1, 34, 2, 73]) 0 (fun g s => ∃ j : Nat, g + j = kids.length ∧ s = ⟨((.ptr i 0) :: (.ptr o 0) :: (.v (.int .i64 5000)) :: (jnk 4 ((.row 1 ((List.range j).map encN) (some q)) :: (jnk 34 ((.v (.int .i64 kids.length)) :: (.v (.int .i64 j)) :: (jnk 73 [])))))), [], { h with T := upd h.T q (some (.tail j)) }⟩) kids.length ⟨0, by omega, by rw [← l3]; rfl⟩ ?_
    rintro g _ ⟨j, hj, rfl⟩
    (repeat (first | refine gO rfl ?_ | ((first | ((with_reducible refine yS ?_); refine awp_keep zK20 100 (kS ?_)) | ((with_reducible refine yR ?_); refine awp_keep zK20 100 (kR ?_)) | refine gR ?_ | (with_reducible refine wM ?_ ?_) | ((with_reducible refine xR ?_); refine awp_keep zK20 100 (uE 4 zM20 zPEE zPEP 117 rfl (by kernel_rfl) ?_)) | ((with_reducible refine xR ?_); refine awp_keep zK20 100 (uE 12 zM20 zPFE zPFP 117 rfl (by kernel_rfl) ?_))) <;> ((try with_reducible intro K1 hK1); simp only [go_sem, ↓reduceIte, reduceCtorEq, nA, nB, nC, nD, nE, nF, nG, nH, nI] <;> and_intros <;> first | (apply hK1; clear hK1 K1) | (intros; first | omega | decide | (simp_all <;> omega)) | skip))))
    refine awp_cond (t := _) rfl (fun h1 => ?_) (fun h1 => ?_)
    ·simp only [decide_eq_true_eq] at h1
     (repeat (first | refine gO rfl ?_ | ((first | ((with_reducible refine yS ?_); refine awp_keep zK20 100 (kS ?_)) | ((with_reducible refine yR ?_); refine awp_keep zK20 100 (kR ?_)) | refine gR ?_ | (with_reducible refine wM ?_ ?_) | ((with_reducible refine xR ?_); refine awp_keep zK20 100 (uE 4 zM20 zPEE zPEP 117 rfl (by kernel_rfl) ?_)) | ((with_reducible refine xR ?_); refine awp_keep zK20 100 (uE 12 zM20 zPFE zPFP 117 rfl (by kernel_rfl) ?_))) <;> ((try with_reducible intro K1 hK1); simp only [go_sem, ↓reduceIte, reduceCtorEq, nA, nB, nC, nD, nE, nF, List.length_range, nG, nH, nI] <;> and_intros <;> first | (apply hK1; clear hK1 K1) | (intros; first | omega | decide | (simp_all <;> omega)) | skip))))
     refine ⟨g - 1, by omega, j + 1, by omega, ?_⟩
     rw [List.range_succ, List.map_append]; rfl
    ·simp only [decide_eq_false_iff_not] at h1
     have hjk : j = kids.length := by omega
     (repeat (first | refine gO rfl ?_ | ((first | ((with_reducible refine yS ?_); refine awp_keep zK20 100 (kS ?_)) | ((with_reducible refine yR ?_); refine awp_keep zK20 100 (kR ?_)) | refine gR ?_ | (with_reducible refine wM ?_ ?_) | ((with_reducible refine xR ?_); refine awp_keep zK20 100 (uE 4 zM20 zPEE zPEP 117 rfl (by kernel_rfl) ?_)) | ((with_reducible refine xR ?_); refine awp_keep zK20 100 (uE 12 zM20 zPFE zPFP 117 rfl (by kernel_rfl) ?_))) <;> ((try with_reducible intro K1 hK1); simp only [go_sem, ↓reduceIte, reduceCtorEq, nA, nB, nC, nD, nE, nF, nG, nH, nI] <;> and_intros <;> first | (apply hK1; clear hK1 K1) | (intros; first | omega | decide | (simp_all <;> omega)) | skip))))
     have hix : idxL 2 p many kids.length (nextF shares p cs) = List.range kids.length := by simp [idxL]
     refine ⟨h, .row 1 ((List.range kids.length).map encN) (some q), { h with T := upd h.T q (some (.tail kids.length)) }, hR, hO', hfr0, .inl ⟨rfl, by rw [hix]; exact Weak.row _ _ _, ⟨fun _ => .inr rfl, fun x => ?_⟩⟩, by rw [hjk]; rfl⟩
     by_cases hx : x = q
     ·subst hx; exact .inl hq
     ·exact .inr (upd_other _ _ hx).symm
   ·obtain ⟨tk, rfl⟩ := hkz (by omega)
    have hO' : OutAt h o k [] (out ++ if (3 : Int) = 1 then [(item, long)] else []) := by simpa using hO
    (repeat (first | refine gO rfl ?_ | ((first | ((with_reducible refine yS ?_); refine awp_keep zK20 100 (kS ?_)) | ((with_reducible refine yR ?_); refine awp_keep zK20 100 (kR ?_)) | refine gR ?_ | (with_reducible refine wM ?_ ?_) | ((with_reducible refine xR ?_); refine awp_keep zK20 100 (uE 4 zM20 zPEE zPEP 117 rfl (by kernel_rfl) ?_)) | ((with_reducible refine xR ?_); refine awp_keep zK20 100 (uE 12 zM20 zPFE zPFP 117 rfl (by kernel_rfl) ?_))) <;> ((try with_reducible intro K1 hK1); simp only [go_sem, ↓reduceIte, reduceCtorEq, nA, nB, nC, nD, nE, nF, hH0, nG, nH, nI] <;> and_intros <;> first | (apply hK1; clear hK1 K1) | (intros; first | omega | decide | (simp_all <;> omega)) | skip))))
    refine awp_cond (t := _) rfl (fun h1 => by cases h1) (fun _ => ?_)
    (repeat (first | refine gO rfl ?_ | ((first | ((with_reducible refine yS ?_); refine awp_keep zK20 100 (kS ?_)) | ((with_reducible refine yR ?_); refine awp_keep zK20 100 (kR ?_)) | refine gR ?_ | (with_reducible refine wM ?_ ?_) | ((with_reducible refine xR ?_); refine awp_keep zK20 100 (uE 4 zM20 zPEE zPEP 117 rfl (by kernel_rfl) ?_)) | ((with_reducible refine xR ?_); refine awp_keep zK20 100 (uE 12 zM20 zPFE zPFP 117 rfl (by kernel_rfl) ?_))) <;> ((try with_reducible intro K1 hK1); simp only [go_sem, ↓reduceIte, reduceCtorEq, nA, nB, nC, nD, nE, nF, hH0, nG, nH, nI] <;> and_intros <;> first | (apply hK1; clear hK1 K1) | (intros; first | omega | decide | (simp_all <;> omega)) | skip))))
    refine awp_cond (t := _) rfl (fun h1 => by cases h1) (fun _ => ?_)
    (repeat (first | refine gO rfl ?_ | ((first | ((with_reducible refine yS ?_); refine awp_keep zK20 100 (kS ?_)) | ((with_reducible refine yR ?_); refine awp_keep zK20 100 (kR ?_)) | refine gR ?_ | (with_reducible refine wM ?_ ?_) | ((with_reducible refine xR ?_); refine awp_keep zK20 100 (uE 4 zM20 zPEE zPEP 117 rfl (by kernel_rfl) ?_)) | ((with_reducible refine xR ?_); refine awp_keep zK20 100 (uE 12 zM20 zPFE zPFP 117 rfl (by kernel_rfl) ?_))) <;> ((try with_reducible intro K1 hK1); simp only [go_sem, ↓reduceIte, reduceCtorEq, nA, nB, nC, nD, nE, nF, hH0, nG, nH, nI] <;> and_intros <;> first | (apply hK1; clear hK1 K1) | (intros; first | omega | decide | (simp_all <;> omega)) | skip))))
    refine awp_cond (t := _) rfl (fun _ => ?_) (fun h1 => by cases h1)
    have hnk : 0 < kids.length := List.length_pos_iff.2 (v3 (by omega))
    have htm := Int.tmod_lt_of_pos p (show (0 : Int) < kids.length by omega)
    have htn := Int.tmod_nonneg (kids.length : Int) hpn.1
    have hzl : az.length = kids.length := l3
    (repeat (first | refine gO rfl ?_ | ((first | ((with_reducible refine yS ?_); refine awp_keep zK20 100 (kS ?_)) | ((with_reducible refine yR ?_); refine awp_keep zK20 100 (kR ?_)) | refine gR ?_ | (with_reducible refine wM ?_ ?_) | ((with_reducible refine xR ?_); refine awp_keep zK20 100 (uE 4 zM20 zPEE zPEP 117 rfl (by kernel_rfl) ?_)) | ((with_reducible refine xR ?_); refine awp_keep zK20 100 (uE 12 zM20 zPFE zPFP 117 rfl (by kernel_rfl) ?_))) <;> ((try with_reducible intro K1 hK1); simp only [go_sem, ↓reduceIte, reduceCtorEq, nA, nB, nC, nD, nE, nF, hH0, hzl, nG, nH, nI] <;> and_intros <;> first | (apply hK1; clear hK1 K1) | (intros; first | omega | decide | (simp_all <;> omega)) | skip))))
    have hix : idxL 3 p many kids.length (nextF shares p cs) = [(p.tmod kids.length).toNat] := by simp [idxL]
    refine ⟨h, .row 1 [[.v (.int .i64 (p.tmod kids.length))]] none, h, hR, hO', hfr0, .inl ⟨rfl, ?_, Hp.le.refl _⟩, rfl⟩
    rw [hix, List.map_cons, List.map_nil, encN, Int.toNat_of_nonneg htn]
    exact Weak.refl _
   ·obtain ⟨tk, rfl⟩ := hkz (by omega)
    have hO' : OutAt h o k [] (out ++ if (4 : Int) = 1 then [(item, long)] else []) := by simpa using hO
    (repeat (first | refine gO rfl ?_ | ((first | ((with_reducible refine yS ?_); refine awp_keep zK20 100 (kS ?_)) | ((with_reducible refine yR ?_); refine awp_keep zK20 100 (kR ?_)) | refine gR ?_ | (with_reducible refine wM ?_ ?_) | ((with_reducible refine xR ?_); refine awp_keep zK20 100 (uE 4 zM20 zPEE zPEP 117 rfl (by kernel_rfl) ?_)) | ((with_reducible refine xR ?_); refine awp_keep zK20 100 (uE 12 zM20 zPFE zPFP 117 rfl (by kernel_rfl) ?_))) <;> ((try with_reducible intro K1 hK1); simp only [go_sem, ↓reduceIte, reduceCtorEq, nA, nB, nC, nD, nE, nF, hH0, nG, nH, nI] <;> and_intros <;> first | (apply hK1; clear hK1 K1) | (intros; first | omega | decide | (simp_all <;> omega)) | skip))))
    refine awp_cond (t := _) rfl (fun h1 => by cases h1) (fun _ => ?_)
    (repeat (first | refine gO rfl ?_ | ((first | ((with_reducible refine yS ?_); refine awp_keep zK20 100 (kS ?_)) | ((with_reducible refine yR ?_); refine awp_keep zK20 100 (kR ?_)) | refine gR ?_ | (with_reducible refine wM ?_ ?_) | ((with_reducible refine xR ?_); refine awp_keep zK20 100 (uE 4 zM20 zPEE zPEP 117 rfl (by kernel_rfl) ?_)) | ((with_reducible refine xR ?_); refine awp_keep zK20 100 (uE 12 zM20 zPFE zPFP 117 rfl (by kernel_rfl) ?_))) <;> ((try with_reducible intro K1 hK1); simp only [go_sem, ↓reduceIte, reduceCtorEq, nA, nB, nC, nD, nE, nF, hH0, nG, nH, nI] <;> and_intros <;> first | (apply hK1; clear hK1 K1) | (intros; first | omega | decide | (simp_all <;> omega)) | skip))))
    refine awp_cond (t := _) rfl (fun h1 => by cases h1) (fun _ => ?_)
    (repeat (first | refine gO rfl ?_ | ((first | ((with_reducible refine yS ?_); refine awp_keep zK20 100 (kS ?_)) | ((with_reducible refine yR ?_); refine awp_keep zK20 100 (kR ?_)) | refine gR ?_ | (with_reducible refine wM ?_ ?_) | ((with_reducible refine xR ?_); refine awp_keep zK20 100 (uE 4 zM20 zPEE zPEP 117 rfl (by kernel_rfl) ?_)) | ((with_reducible refine xR ?_); refine awp_keep zK20 100 (uE 12 zM20 zPFE zPFP 117 rfl (by kernel_rfl) ?_))) <;> ((try with_reducible intro K1 hK1); simp only [go_sem, ↓reduceIte, reduceCtorEq, nA, nB, nC, nD, nE, nF, hH0, nG, nH, nI] <;> and_intros <;> first | (apply hK1; clear hK1 K1) | (intros; first | omega | decide | (simp_all <;> omega)) | skip))))
    refine awp_cond (t := _) rfl (fun h1 => by cases h1) (fun _ => ?_)
    (repeat (first | refine gO rfl ?_ | ((first | ((with_reducible refine yS ?_); refine awp_keep zK20 100 (kS ?_)) | ((with_reducible refine yR ?_); refine awp_keep zK20 100 (kR ?_)) | refine gR ?_ | (with_reducible refine wM ?_ ?_) | ((with_reducible refine xR ?_); refine awp_keep zK20 100 (uE 4 zM20 zPEE zPEP 117 rfl (by kernel_rfl) ?_)) | ((with_reducible refine xR ?_); refine awp_keep zK20 100 (uE 12 zM20 zPFE zPFP 117 rfl (by kernel_rfl) ?_))) <;> ((try with_reducible intro K1 hK1); simp only [go_sem, ↓reduceIte, reduceCtorEq, nA, nB, nC, nD, nE, nF, hH0, nG, nH, nI] <;> and_intros <;> first | (apply hK1; clear hK1 K1) | (intros; first | omega | decide | (simp_all <;> omega)) | skip))))
    refine awp_cond (t := _) rfl (fun _ => ?_) (fun h1 => by cases h1)
    have hsl := v5 rfl
    rw [← hsl] at hH0
    (repeat (first | refine gO rfl ?_ | ((first | ((with_reducible refine yS ?_); refine awp_keep zK20 100 (kS ?_)) | ((with_reducible refine yR ?_); refine awp_keep zK20 100 (kR ?_)) | refine gR ?_ | (with_reducible refine wM ?_ ?_) | ((with_reducible refine xR ?_); refine awp_keep zK20 100 (uE 4 zM20 zPEE zPEP 117 rfl (by kernel_rfl) ?_)) | ((with_reducible refine xR ?_); refine awp_keep zK20 100 (uE 12 zM20 zPFE zPFP 117 rfl (by kernel_rfl) ?_))) <;> ((try with_reducible intro K1 hK1); simp only [go_sem, ↓reduceIte, reduceCtorEq, nA, nB, nC, nD, nE, nF, hH0, nG, nH, nI] <;> and_intros <;> first | (apply hK1; clear hK1 K1) | (intros; first | omega | decide | (simp_all <;> omega)) | skip))))
    refine (g_next46 4 item long many (.row 6 (kids.map encL) none) shares (.row 1 (az.map fun a => [.ptr a.id 0]) tk) p i c0 cs h hH0 hT0 (by omega) (by omega) v6 (by omega) hcn).mono ?_; rintro _ hz ⟨rfl, hh⟩; apply hK1; clear hK1 K1; rw [hh]; clear hh hz
    (repeat (first | refine gO rfl ?_ | ((first | ((with_reducible refine yS ?_); refine awp_keep zK20 100 (kS ?_)) | ((with_reducible refine yR ?_); refine awp_keep zK20 100 (kR ?_)) | refine gR ?_ | (with_reducible refine wM ?_ ?_) | ((with_reducible refine xR ?_); refine awp_keep zK20 100 (uE 4 zM20 zPEE zPEP 117 rfl (by kernel_rfl) ?_)) | ((with_reducible refine xR ?_); refine awp_keep zK20 100 (uE 12 zM20 zPFE zPFP 117 rfl (by kernel_rfl) ?_))) <;> ((try with_reducible intro K1 hK1); simp only [go_sem, ↓reduceIte, reduceCtorEq, nA, nB, nC, nD, nE, nF, nG, nH, nI] <;> and_intros <;> first | (apply hK1; clear hK1 K1) | (intros; first | omega | decide | (simp_all <;> omega)) | skip))))
    have hix : idxL 4 p many kids.length (nextF shares p cs) = [nextF shares p cs] := by simp [idxL]
    exact ⟨h, .row 1 [[.v (.int .i64 (nextF shares p cs))]] none, h, hR, hO', hfr0, .inl ⟨rfl, by rw [hix]; exact Weak.refl _, Hp.le.refl _⟩, rfl⟩
   ·obtain ⟨tk, rfl⟩ := hkz (by omega)
    have hO' : OutAt h o k [] (out ++ if (5 : Int) = 1 then [(item, long)] else []) := by simpa using hO
    (repeat (first | refine gO rfl ?_ | ((first | ((with_reducible refine yS ?_); refine awp_keep zK20 100 (kS ?_)) | ((with_reducible refine yR ?_); refine awp_keep zK20 100 (kR ?_)) | refine gR ?_ | (with_reducible refine wM ?_ ?_) | ((with_reducible refine xR ?_); refine awp_keep zK20 100 (uE 4 zM20 zPEE zPEP 117 rfl (by kernel_rfl) ?_)) | ((with_reducible refine xR ?_); refine awp_keep zK20 100 (uE 12 zM20 zPFE zPFP 117 rfl (by kernel_rfl) ?_))) <;> ((try with_reducible intro K1 hK1); simp only [go_sem, ↓reduceIte, reduceCtorEq, nA, nB, nC, nD, nE, nF, hH0, nG, nH, nI] <;> and_intros <;> first | (apply hK1; clear hK1 K1) | (intros; first | omega | decide | (simp_all <;> omega)) | skip))))
    refine awp_cond (t := _) rfl (fun h1 => by cases h1) (fun _ => ?_)
    (repeat (first | refine gO rfl ?_ | ((first | ((with_reducible refine yS ?_); refine awp_keep zK20 100 (kS ?_)) | ((with_reducible refine yR ?_); refine awp_keep zK20 100 (kR ?_)) | refine gR ?_ | (with_reducible refine wM ?_ ?_) | ((with_reducible refine xR ?_); refine awp_keep zK20 100 (uE 4 zM20 zPEE zPEP 117 rfl (by kernel_rfl) ?_)) | ((with_reducible refine xR ?_); refine awp_keep zK20 100 (uE 12 zM20 zPFE zPFP 117 rfl (by kernel_rfl) ?_))) <;> ((try with_reducible intro K1 hK1); simp only [go_sem, ↓reduceIte, reduceCtorEq, nA, nB, nC, nD, nE, nF, hH0, nG, nH, nI] <;> and_intros <;> first | (apply hK1; clear hK1 K1) | (intros; first | omega | decide | (simp_all <;> omega)) | skip))))
    refine awp_cond (t := _) rfl (fun h1 => by cases h1) (fun _ => ?_)
    (repeat (first | refine gO rfl ?_ | ((first | ((with_reducible refine yS ?_); refine awp_keep zK20 100 (kS ?_)) | ((with_reducible refine yR ?_); refine awp_keep zK20 100 (kR ?_)) | refine gR ?_ | (with_reducible refine wM ?_ ?_) | ((with_reducible refine xR ?_); refine awp_keep zK20 100 (uE 4 zM20 zPEE zPEP 117 rfl (by kernel_rfl) ?_)) | ((with_reducible refine xR ?_); refine awp_keep zK20 100 (uE 12 zM20 zPFE zPFP 117 rfl (by kernel_rfl) ?_))) <;> ((try with_reducible intro K1 hK1); simp only [go_sem, ↓reduceIte, reduceCtorEq, nA, nB, nC, nD, nE, nF, hH0, nG, nH, nI] <;> and_intros <;> first | (apply hK1; clear hK1 K1) | (intros; first | omega | decide | (simp_all <;> omega)) | skip))))
    refine awp_cond (t := _) rfl (fun h1 => by cases h1) (fun _ => ?_)
    (repeat (first | refine gO rfl ?_ | ((first | ((with_reducible refine yS ?_); refine awp_keep zK20 100 (kS ?_)) | ((with_reducible refine yR ?_); refine awp_keep zK20 100 (kR ?_)) | refine gR ?_ | (with_reducible refine wM ?_ ?_) | ((with_reducible refine xR ?_); refine awp_keep zK20 100 (uE 4 zM20 zPEE zPEP 117 rfl (by kernel_rfl) ?_)) | ((with_reducible refine xR ?_); refine awp_keep zK20 100 (uE 12 zM20 zPFE zPFP 117 rfl (by kernel_rfl) ?_))) <;> ((try with_reducible intro K1 hK1); simp only [go_sem, ↓reduceIte, reduceCtorEq, nA, nB, nC, nD, nE, nF, hH0, nG, nH, nI] <;> and_intros <;> first | (apply hK1; clear hK1 K1) | (intros; first | omega | decide | (simp_all <;> omega)) | skip))))
    refine awp_cond (t := _) rfl (fun h1 => by cases h1) (fun _ => ?_)
    (repeat (first | refine gO rfl ?_ | ((first | ((with_reducible refine yS ?_); refine awp_keep zK20 100 (kS ?_)) | ((with_reducible refine yR ?_); refine awp_keep zK20 100 (kR ?_)) | refine gR ?_ | (with_reducible refine wM ?_ ?_) | ((with_reducible refine xR ?_); refine awp_keep zK20 100 (uE 4 zM20 zPEE zPEP 117 rfl (by kernel_rfl) ?_)) | ((with_reducible refine xR ?_); refine awp_keep zK20 100 (uE 12 zM20 zPFE zPFP 117 rfl (by kernel_rfl) ?_))) <;> ((try with_reducible intro K1 hK1); simp only [go_sem, ↓reduceIte, reduceCtorEq, nA, nB, nC, nD, nE, nF, hH0, nG, nH, nI] <;> and_intros <;> first | (apply hK1; clear hK1 K1) | (intros; first | omega | decide | (simp_all <;> omega)) | skip))))
    refine awp_cond (t := _) rfl (fun _ => ?_) (fun h1 => by cases h1)
    have hm5 := v4 rfl
    (repeat (first | refine gO rfl ?_ | ((first | ((with_reducible refine yS ?_); refine awp_keep zK20 100 (kS ?_)) | ((with_reducible refine yR ?_); refine awp_keep zK20 100 (kR ?_)) | refine gR ?_ | (with_reducible refine wM ?_ ?_) | ((with_reducible refine xR ?_); refine awp_keep zK20 100 (uE 4 zM20 zPEE zPEP 117 rfl (by kernel_rfl) ?_)) | ((with_reducible refine xR ?_); refine awp_keep zK20 100 (uE 12 zM20 zPFE zPFP 117 rfl (by kernel_rfl) ?_))) <;> ((try with_reducible intro K1 hK1); simp only [go_sem, ↓reduceIte, reduceCtorEq, nA, nB, nC, nD, nE, nF, hH0, nG, nH, nI] <;> and_intros <;> first | (apply hK1; clear hK1 K1) | (intros; first | omega | decide | (simp_all <;> omega)) | skip))))
    intro q hq
    refine hK1 _ ?_; clear hK1 K1
    (repeat (first | refine gO rfl ?_ | ((first | ((with_reducible refine yS ?_); refine awp_keep zK20 100 (kS ?_)) | ((with_reducible refine yR ?_); refine awp_keep zK20 100 (kR ?_)) | refine gR ?_ | (with_reducible refine wM ?_ ?_) | ((with_reducible refine xR ?_); refine awp_keep zK20 100 (uE 4 zM20 zPEE zPEP 117 rfl (by kernel_rfl) ?_)) | ((with_reducible refine xR ?_); refine awp_keep zK20 100 (uE 12 zM20 zPFE zPFP 117 rfl (by kernel_rfl) ?_))) <;> ((try with_reducible intro K1 hK1); simp only [go_sem, ↓reduceIte, reduceCtorEq, nA, nB, nC, nD, nE, nF, hH0, nG, nH, nI] <;> and_intros <;> first | (apply hK1; clear hK1 K1) | (intros; first | omega | decide | (simp_all <;> omega)) | skip))))
    have hix : idxL 5 p many kids.length (nextF shares p cs) = List.replicate many.toNat 0 := by simp [idxL]
    refine ⟨h, .arr 1 q many.toNat, _, hR, hO', hfr0, .inr ⟨q, by rw [hix, List.length_replicate], hq, rfl⟩, ?_⟩
    rw [hix, List.map_replicate]; rfl
  ·rintro _ ⟨hb, v, h1, hRb, hOb, hFb, hv7, rfl⟩
   have hidx := idxL_lt (many := many) (nx := nextF shares p cs) v1 (fun h => List.length_pos_iff.2 (v3 h)) (fun h4 => by rw [← v5 h4]; exact bestTo_lt _ _ (by rw [v5 h4]; exact List.length_pos_iff.2 (v3 (by omega)))) hpn.1
   have hLn : (idxL kind p many kids.length (nextF shares p cs)).length ≤ 1000 := by
    unfold idxL
    split
    ·simp
    ·split
     ·simp; omega
     ·split
      ·simp
      ·split
       ·simp
       ·have := v4 (by omega); simp; omega
   have hL1 : (idxL kind p many kids.length (nextF shares p cs)).length ≠ 0 → kind ≠ 1 := fun h hk => h (by unfold idxL; rw [if_pos hk]; rfl)
   have hPS := passU_succ d kind item long many kids shares p cs ks
   generalize idxL kind p many kids.length (nextF shares p cs) = L at *
   have hzl : ∀ y ∈ L.map encN, y.length = 1 := fun y hy => by obtain ⟨x, _, rfl⟩ := List.mem_map.1 hy; rfl
   refine awp_via (fun s => s = ⟨((.ptr i 0) :: (.ptr o 0) :: (.v (.int .i64 5000)) :: (jnk 4 ((.row 1 (L.map encN) none) :: (jnk 109 [])))), [], hb⟩) ?_ ?_
   rotate_left
   ·intro main
    rcases hv7 with ⟨hn, hw, hle⟩ | ⟨q, rfl, hq, rfl⟩
    ·exact awp_less hle (awp_weakS 7 rfl hn hw (main _ rfl))
    ·refine awp_frz 7 q 1 (xs := L.map encN) (by rw [List.length_map]; rfl) (upd_same _ _ _) hzl (main _ ?_)
     simp only [upd_none hq]
     rfl
   rintro _ rfl
   clear hv7 h1 v
   (repeat (first | refine gQ rfl ?_ | ((first | ((with_reducible refine yS ?_); refine awp_keep zK20 100 (kS ?_)) | ((with_reducible refine yR ?_); refine awp_keep zK20 100 (kR ?_)) | refine gR ?_ | (with_reducible refine wM ?_ ?_) | ((with_reducible refine xR ?_); refine awp_keep zK20 100 (uE 4 zM20 zPEE zPEP 117 rfl (by kernel_rfl) ?_)) | ((with_reducible refine xR ?_); refine awp_keep zK20 100 (uE 12 zM20 zPFE zPFP 117 rfl (by kernel_rfl) ?_))) <;> ((try with_reducible intro K1 hK1); simp only [go_sem, ↓reduceIte, reduceCtorEq, nA, nB, nC, nD, nE, nF, nG, nH, nI] <;> and_intros <;> first | (apply hK1; clear hK1 K1) | (intros; first | omega | decide | (simp_all <;> omega)) | skip))))
   refine awp_seq ?_
   (repeat (first | refine gO rfl ?_ | ((first | ((with_reducible refine yS ?_); refine awp_keep zK20 100 (kS ?_)) | ((with_reducible refine yR ?_); refine awp_keep zK20 100 (kR ?_)) | refine gR ?_ | (with_reducible refine wM ?_ ?_) | ((with_reducible refine xR ?_); refine awp_keep zK20 100 (uE 4 zM20 zPEE zPEP 117 rfl (by kernel_rfl) ?_)) | ((with_reducible refine xR ?_); refine awp_keep zK20 100 (uE 12 zM20 zPFE zPFP 117 rfl (by kernel_rfl) ?_))) <;> ((try with_reducible intro K1 hK1); simp only [go_sem, ↓reduceIte, reduceCtorEq, nA, nB, nC, nD, nE, nF, nG, nH, nI] <;> and_intros <;> first | (apply hK1; clear hK1 K1) | (intros; first | omega | decide | (simp_all <;> omega)) | skip))))
   refine awp_loopC (rl false [0, 3, 74, 3, 37]) 0 (fun g s => ∃ (j : Nat) (h1 : Hp) (acc : (List Int × List PS) × List (ByteArray × Int)), g + j = L.length ∧ acc = (L.take j).foldl (stepU (passU d) kids) ((cs, ks), if kind = 1 then [(item, long)] else []) ∧
    RAt XR h1 (d + 1) (.mk kind item long many kids shares) (.mk i c0 az) (.mk p acc.1.1 acc.1.2) ∧ OutAt h1 o k [] (out ++ acc.2) ∧ FrP (.mk i c0 az) o k h h1 ∧ FOk d kids (out.length + acc.2.length) acc.1 ∧ (L.length ≠ 0 → out.length + acc.2.length ≤ 5000) ∧ out.length + acc.2.length ≤ 5001 ∧
    s = ⟨((.ptr i 0) :: (.ptr o 0) :: (.v (.int .i64 5000)) :: (jnk 74 ((.row 1 (L.map encN) none) :: (.v (.int .i64 L.length)) :: (.v (.int .i64 j)) :: (jnk 37 [])))), [], h1⟩) L.length ⟨0, hb, ((cs, ks), if kind = 1 then [(item, long)] else []), by omega, rfl, hRb, hOb, hFb, ⟨⟨l2, l4⟩, fun x hx => ?_, fun j hj => (hB.2.2 j hj).mono ?_⟩, fun h => ?_, ?_, rfl⟩ ?_
   ·have := hB.2.1 x hx; simp only []; omega
   ·simp only []; omega
   ·rw [if_neg (hL1 h)]; simp; omega
   ·simp only []; split <;> simp <;> omega
   rintro g _ ⟨j, h1, acc, hj, hacc, hR1, hO1', hF1, hFk, hl5, hl6, rfl⟩
   (repeat (first | refine gO rfl ?_ | ((first | ((with_reducible refine yS ?_); refine awp_keep zK20 100 (kS ?_)) | ((with_reducible refine yR ?_); refine awp_keep zK20 100 (kR ?_)) | refine gR ?_ | (with_reducible refine wM ?_ ?_) | ((with_reducible refine xR ?_); refine awp_keep zK20 100 (uE 4 zM20 zPEE zPEP 117 rfl (by kernel_rfl) ?_)) | ((with_reducible refine xR ?_); refine awp_keep zK20 100 (uE 12 zM20 zPFE zPFP 117 rfl (by kernel_rfl) ?_))) <;> ((try with_reducible intro K1 hK1); simp only [go_sem, ↓reduceIte, reduceCtorEq, nA, nB, nC, nD, nE, nF, nG, nH, nI] <;> and_intros <;> first | (apply hK1; clear hK1 K1) | (intros; first | omega | decide | (simp_all <;> omega)) | skip))))
   refine awp_cond (t := _) rfl (fun h2 => ?_) (fun h2 => ?_)
   ·simp only [decide_eq_true_eq] at h2
    have hjL : j < L.length := by omega
    have hgL : (L.map encN).getD j [] = encN (L.getD j 0) := getD_enc encN L j 0 hjL
    have hx := hidx _ (getD_mem' L j 0 hjL)
    have hsplit : L.take (j + 1) = L.take j ++ [L.getD j 0] := by rw [List.take_add_one, List.getD_eq_getElem?_getD, List.getElem?_eq_getElem hjL]; rfl
    generalize L.getD j 0 = x at hgL hx hsplit
    obtain ⟨⟨K1', hH1, hK1'⟩, hT1, ⟨m1, m2, m3, m4⟩, hk1⟩ := id hR1
    obtain ⟨tk, rfl⟩ : ∃ tk, K1' = .row 1 (az.map fun a => [.ptr a.id 0]) tk := by
     rcases hK1' with ⟨rfl, _⟩ | h9
     ·simp at m3; omega
     ·exact h9
    have hH10 : h1.H i = some (.cells [.v (.int .i64 kind), .v (.string item), .v (.int .i64 long), .v (.int .i64 many), .row 6 (kids.map encL) none, .row 1 (shares.map encI) none, .row 1 (az.map fun a => [.ptr a.id 0]) tk, .v (.int .i64 p), .arr 1 c0 kids.length]) := hH1
    have hgz : (az.map fun a : AT => [AV.ptr a.id 0]).getD x [] = [.ptr (az.getD x default).id 0] := getD_enc (fun a : AT => [AV.ptr a.id 0]) az x default (by omega)
    have ho5 := hl5 (by omega)
    have hSx := hS x (by omega)
    (repeat (first | refine gO rfl ?_ | ((first | ((with_reducible refine yS ?_); refine awp_keep zK20 100 (kS ?_)) | ((with_reducible refine yR ?_); refine awp_keep zK20 100 (kR ?_)) | refine gR ?_ | (with_reducible refine wM ?_ ?_) | ((with_reducible refine xR ?_); refine awp_keep zK20 100 (uE 4 zM20 zPEE zPEP 117 rfl (by kernel_rfl) ?_)) | ((with_reducible refine xR ?_); refine awp_keep zK20 100 (uE 12 zM20 zPFE zPFP 117 rfl (by kernel_rfl) ?_))) <;> ((try with_reducible intro K1 hK1); simp only [go_sem, ↓reduceIte, reduceCtorEq, nA, nB, nC, nD, nE, nF, Int.toNat_natCast, hgL, encN, hH10, hgz, m3, nG, nH, nI] <;> and_intros <;> first | (apply hK1; clear hK1 K1) | (intros; first | omega | decide | (simp_all <;> omega)) | skip))))
    refine (g_passR d (kids.getD x default) (az.getD x default) (acc.1.2.getD x default) h1 o k (out ++ acc.2) (v8 _ (getD_mem' kids x default hx)) (hk1 x hx) hSx.1.2.2 (by rw [List.length_append]; exact_mod_cast hFk.2.2 x hx) hO1' (fun h => ho (idsT_kid (by omega) h)) (by rw [List.length_append]; exact ho5)).mono ?_
    intro r h3 hres
    have hpo := passU_ok d (kids.getD x default) (acc.1.2.getD x default) (out.length + acc.2.length) (v8 _ (getD_mem' kids x default hx)) (hk1 x hx).fits (by omega) (hFk.2.2 x hx)
    unfold PRes at hres
    split at hres
    ·rename_i hle
     obtain ⟨rfl, hR3, hO3, hF3⟩ := hres
     have hkt1 := hR1.tokNe hO1'.2
     have hoi : i ≠ o := fun e => ho (by rw [idsT_eq, e]; simp)
     have hck : c0 ≠ k := fun e => hkt1 (by rw [toksT_eq, e]; simp)
     have hH3 := (hF3.1 i hSx.1.1 hoi).trans hH10
     have hT3 : h3.T c0 = some (.cont 1 (acc.1.1.map encI)) := (hF3.2 c0 hSx.1.2.1 hck).trans hT1
     have hgc : (acc.1.1.map encI).getD x [] = encI (acc.1.1.getD x 0) := getD_enc encI acc.1.1 x 0 (by omega)
     have hcb := hFk.2.1 _ (getD_mem' acc.1.1 x 0 (by omega))
     refine hK1 _ ?_; clear hK1 K1
     (repeat (first | refine gO rfl ?_ | ((first | ((with_reducible refine yS ?_); refine awp_keep zK20 100 (kS ?_)) | ((with_reducible refine yR ?_); refine awp_keep zK20 100 (kR ?_)) | refine gR ?_ | (with_reducible refine wM ?_ ?_) | ((with_reducible refine xR ?_); refine awp_keep zK20 100 (uE 4 zM20 zPEE zPEP 117 rfl (by kernel_rfl) ?_)) | ((with_reducible refine xR ?_); refine awp_keep zK20 100 (uE 12 zM20 zPFE zPFP 117 rfl (by kernel_rfl) ?_))) <;> ((try with_reducible intro K1 hK1); simp only [go_sem, ↓reduceIte, reduceCtorEq, nA, nB, nC, nD, nE, nF, nG, nH, nI] <;> and_intros <;> first | (apply hK1; clear hK1 K1) | (intros; first | omega | decide | (simp_all <;> omega)) | skip))))
     refine awp_cond (t := _) rfl (fun h => by cases h) (fun _ => ?_)
     (repeat (first | refine gO rfl ?_ | ((first | ((with_reducible refine yS ?_); refine awp_keep zK20 100 (kS ?_)) | ((with_reducible refine yR ?_); refine awp_keep zK20 100 (kR ?_)) | refine gR ?_ | (with_reducible refine wM ?_ ?_) | ((with_reducible refine xR ?_); refine awp_keep zK20 100 (uE 4 zM20 zPEE zPEP 117 rfl (by kernel_rfl) ?_)) | ((with_reducible refine xR ?_); refine awp_keep zK20 100 (uE 12 zM20 zPFE zPFP 117 rfl (by kernel_rfl) ?_))) <;> ((try with_reducible intro K1 hK1); simp only [go_sem, ↓reduceIte, reduceCtorEq, nA, nB, nC, nD, nE, nF, hH3, hT3, m2, hgc, Int.toNat_natCast, encI, nG, nH, nI] <;> and_intros <;> first | (apply hK1; clear hK1 K1) | (intros; first | omega | decide | (simp_all <;> omega)) | skip))))
     obtain ⟨s1, s2⟩ := stepU_ok (f := passU d) hFk hx rfl hpo.1 hpo.2.1
     rw [List.length_append] at hle
     refine ⟨g - 1, by omega, j + 1, { h3 with T := upd h3.T c0 (some (.cont 1 ((acc.1.1.set x (acc.1.1.getD x 0 + 1)).map encI))) }, stepU (passU d) kids acc x, by omega, by rw [hsplit, List.foldl_append, ← hacc]; rfl, ?_, ⟨?_, ?_⟩, hF1.trans ⟨fun y hy hyo => (hF3.kid (i := i) (c := c0) (by omega)).1 y hy hyo, fun y hy hyk => (upd_other _ _ (fun e => hy (by rw [toksT_eq, e]; simp))).trans ((hF3.kid (i := i) (c := c0) (by omega)).2 y hy hyk)⟩, ?_, fun _ => by rw [s2]; omega, by rw [s2]; omega, ?_⟩
     ·exact (hR1.kid hS ho hkt1 hx hR3 hF3).count hS (cs' := acc.1.1.set x (acc.1.1.getD x 0 + 1)) (by simp) (by simp [XR]; omega)
     ·rw [show (stepU (passU d) kids acc x).2 = acc.2 ++ (passU d (kids.getD x default) (acc.1.2.getD x default)).2 from rfl, ← List.append_assoc]
      exact hO3.1
     ·rw [show (stepU (passU d) kids acc x).2 = acc.2 ++ (passU d (kids.getD x default) (acc.1.2.getD x default)).2 from rfl, ← List.append_assoc]
      exact (upd_other _ _ (fun e => hck e.symm)).trans hO3.2
     ·rw [s2]
      have e5 : ((out.length : Int) + ((acc.2.length + (passU d (kids.getD x default) (acc.1.2.getD x default)).2.length : Nat) : Int)) = out.length + acc.2.length + (passU d (kids.getD x default) (acc.1.2.getD x default)).2.length := by omega
      rw [e5]; exact s1
     ·rw [List.map_set]; rfl
    ·rename_i hle
     subst hres
     refine hK1 _ ?_; clear hK1 K1
     (repeat (first | refine gO rfl ?_ | ((first | ((with_reducible refine yS ?_); refine awp_keep zK20 100 (kS ?_)) | ((with_reducible refine yR ?_); refine awp_keep zK20 100 (kR ?_)) | refine gR ?_ | (with_reducible refine wM ?_ ?_) | ((with_reducible refine xR ?_); refine awp_keep zK20 100 (uE 4 zM20 zPEE zPEP 117 rfl (by kernel_rfl) ?_)) | ((with_reducible refine xR ?_); refine awp_keep zK20 100 (uE 12 zM20 zPFE zPFP 117 rfl (by kernel_rfl) ?_))) <;> ((try with_reducible intro K1 hK1); simp only [go_sem, ↓reduceIte, reduceCtorEq, nA, nB, nC, nD, nE, nF, nG, nH, nI] <;> and_intros <;> first | (apply hK1; clear hK1 K1) | (intros; first | omega | decide | (simp_all <;> omega)) | skip))))
     refine awp_cond (t := _) rfl (fun _ => ?_) (fun h => by cases h)
     (repeat (first | refine gO rfl ?_ | ((first | ((with_reducible refine yS ?_); refine awp_keep zK20 100 (kS ?_)) | ((with_reducible refine yR ?_); refine awp_keep zK20 100 (kR ?_)) | refine gR ?_ | (with_reducible refine wM ?_ ?_) | ((with_reducible refine xR ?_); refine awp_keep zK20 100 (uE 4 zM20 zPEE zPEP 117 rfl (by kernel_rfl) ?_)) | ((with_reducible refine xR ?_); refine awp_keep zK20 100 (uE 12 zM20 zPFE zPFP 117 rfl (by kernel_rfl) ?_))) <;> ((try with_reducible intro K1 hK1); simp only [go_sem, ↓reduceIte, reduceCtorEq, nA, nB, nC, nD, nE, nF, nG, nH, nI] <;> and_intros <;> first | (apply hK1; clear hK1 K1) | (intros; first | omega | decide | (simp_all <;> omega)) | skip))))
     simp only [Tryz.results135, go_sem, ↓reduceIte, reduceCtorEq, nA, nB, nC, nD, nE, nF]
     refine ⟨_, _, Weak.refl _, Hp.le.refl _, ?_⟩
     have hmo := fold_mono (f := passU d) (kids := kids) (L.drop (j + 1)) ((L.take (j + 1)).foldl (stepU (passU d) kids) ((cs, ks), if kind = 1 then [(item, long)] else []))
     rw [← List.foldl_append, List.take_append_drop, hsplit, List.foldl_append, ← hacc] at hmo
     have e6 : ([x].foldl (stepU (passU d) kids) acc).2.length = acc.2.length + (passU d (kids.getD x default) (acc.1.2.getD x default)).2.length := by simp [stepU]
     rw [e6] at hmo
     rw [List.length_append] at hle
     unfold PRes
     rw [hPS, if_neg (by simp only []; omega)]
   ·simp only [decide_eq_false_iff_not] at h2
    have hjL : j = L.length := by omega
    subst hjL
    rw [List.take_length] at hacc
    obtain ⟨⟨K1', hH1, hK1'⟩, hT1, ⟨m1, m2, m3, m4⟩, hk1⟩ := id hR1
    have hH10 : h1.H i = some (.cells [.v (.int .i64 kind), .v (.string item), .v (.int .i64 long), .v (.int .i64 many), .row 6 (kids.map encL) none, .row 1 (shares.map encI) none, K1', .v (.int .i64 p), .arr 1 c0 kids.length]) := hH1
    have hoi : o ≠ i := fun e => ho (by rw [idsT_eq, e]; simp)
    have hHo : ∀ y, upd h1.H i y o = some (.cells [.row 2 ((out ++ acc.2).map encStep) (some k)]) := fun y => (upd_other _ _ hoi).trans hO1'.1
    (repeat (first | refine gO rfl ?_ | ((first | ((with_reducible refine yS ?_); refine awp_keep zK20 100 (kS ?_)) | ((with_reducible refine yR ?_); refine awp_keep zK20 100 (kR ?_)) | refine gR ?_ | (with_reducible refine wM ?_ ?_) | ((with_reducible refine xR ?_); refine awp_keep zK20 100 (uE 4 zM20 zPEE zPEP 117 rfl (by kernel_rfl) ?_)) | ((with_reducible refine xR ?_); refine awp_keep zK20 100 (uE 12 zM20 zPFE zPFP 117 rfl (by kernel_rfl) ?_))) <;> ((try with_reducible intro K1 hK1); simp only [go_sem, ↓reduceIte, reduceCtorEq, nA, nB, nC, nD, nE, nF, hH10, hHo, nG, nH, nI] <;> and_intros <;> first | (apply hK1; clear hK1 K1) | (intros; first | omega | decide | (simp_all <;> omega)) | skip))))
    simp only [Tryz.results135, go_sem, ↓reduceIte, reduceCtorEq, nA, nB, nC, nD, nE, nF]
    refine ⟨_, _, Weak.refl _, Hp.le.refl _, ?_⟩
    unfold PRes
    rw [hPS, ← hacc]
    have e9 : (out ++ acc.2).length = out.length + acc.2.length := List.length_append
    show (if out.length + acc.2.length ≤ 5000 then _ else _)
    split
    ·rename_i hle
     refine ⟨by simp only [AV.v.injEq, Value.bool.injEq, decide_eq_true_eq]; omega, hR1.hadOne hS hK1', ⟨hHo _, hO1'.2⟩, hF1.trans ⟨fun y hy _ => upd_other _ _ (fun e => hy (by rw [idsT_eq, e]; simp)), fun _ _ _ => rfl⟩⟩
    ·rename_i hle
     simp only [AV.v.injEq, Value.bool.injEq, decide_eq_false_iff_not]
     omega
def PassRel (d : Nat) (t : LT) (s : PS) (out : List (ByteArray × Int)) (s' : PS) (out' : List (ByteArray × Int)) : Prop :=
 (5000 < out.length → s' = s ∧ out' = out) ∧ (out.length ≤ 5000 → out.length + (passU d t s).2.length ≤ 5000 → s' = (passU d t s).1 ∧ out' = out ++ (passU d t s).2) ∧
 (out.length ≤ 5000 → 5000 < out.length + (passU d t s).2.length → out'.length = 5001 ∧ PSB d t s' 5001)
def RunR (d : Nat) (kids : List LT) (out : List (ByteArray × Int)) (acc : (List Int × List PS) × List (ByteArray × Int)) (cs : List Int) (ks : List PS) (out' : List (ByteArray × Int)) : Prop :=
 FOk d kids out'.length (cs, ks) ∧ out'.length ≤ 5001 ∧ (out.length + acc.2.length ≤ 5000 → (cs, ks) = acc.1 ∧ out' = out ++ acc.2) ∧ (5000 < out.length + acc.2.length → out'.length = 5001)
theorem set_getD {α : Type} (l : List α) (x : Nat) (d : α) : l.set x (l.getD x d) = l := by
 by_cases h : x < l.length
 ·rw [List.getD_eq_getElem?_getD, List.getElem?_eq_getElem h]; simp
 ·rw [List.set_eq_of_length_le (by omega)]
theorem RunR.step {d : Nat} {kids : List LT} {out : List (ByteArray × Int)} {acc : (List Int × List PS) × List (ByteArray × Int)} {cs : List Int} {ks : List PS} {out' : List (ByteArray × Int)} (hR : RunR d kids out acc cs ks out') {x : Nat} (hx : x < kids.length)
  (hv : VL d (kids.getD x default)) (hf : Fits d (kids.getD x default) (ks.getD x default)) {s'' : PS} {out'' : List (ByteArray × Int)} (hp : PassRel d (kids.getD x default) (ks.getD x default) out' s'' out'') :
  RunR d kids out (stepU (passU d) kids acc x) (if out.length + acc.2.length ≤ 5000 then cs.set x (cs.getD x 0 + 1) else cs) (ks.set x s'') out'' := by
 obtain ⟨h1, h2, h3, h4⟩ := hR
 obtain ⟨p1, p2, p3⟩ := hp
 obtain ⟨⟨f1, f2⟩, f3, f4⟩ := id h1
 have hpo := passU_ok d (kids.getD x default) (ks.getD x default) out'.length hv hf (by omega) (f4 x hx)
 by_cases hex : out.length + acc.2.length ≤ 5000
 ·rw [if_pos hex]
  obtain ⟨e1, e2⟩ := h3 hex
  have e3 : acc.1.1 = cs := by rw [← e1]
  have e4 : acc.1.2 = ks := by rw [← e1]
  have e5 : out'.length = out.length + acc.2.length := by rw [e2, List.length_append]
  have hst : (stepU (passU d) kids acc x).1 = (cs.set x (cs.getD x 0 + 1), ks.set x (passU d (kids.getD x default) (ks.getD x default)).1) := by simp only [stepU, e3, e4]
  have hs2 : (stepU (passU d) kids acc x).2 = acc.2 ++ (passU d (kids.getD x default) (ks.getD x default)).2 := by simp only [stepU, e4]
  by_cases hk : out'.length + (passU d (kids.getD x default) (ks.getD x default)).2.length ≤ 5000
  ·obtain ⟨rfl, rfl⟩ := p2 (by omega) hk
   have hh : FOk d kids out'.length acc.1 := by rw [← e1]; exact h1
   obtain ⟨s1, s2⟩ := stepU_ok (f := passU d) (a := acc) hh hx (by rw [e4]) hpo.1 (by rw [e4]; exact hpo.2.1)
   rw [hst] at s1
   refine ⟨by rw [List.length_append]; exact_mod_cast s1, by rw [List.length_append]; omega, fun _ => ⟨hst.symm, by rw [hs2, e2, List.append_assoc]⟩, fun h => ?_⟩
   rw [hs2, List.length_append] at h; omega
  ·obtain ⟨q1, q2⟩ := p3 (by omega) (by omega)
   have q1' : (out''.length : Int) = 5001 := by omega
   refine ⟨⟨⟨by simpa using f1, by simpa using f2⟩, fun y hy => ?_, fun j hj => ?_⟩, by omega, fun h => ?_, fun _ => q1⟩
   ·rw [q1']
    rcases mem_set_or hy with h | h
    ·have := f3 y h; omega
    ·have := f3 _ (getD_mem' cs x 0 (show x < cs.length from by have : cs.length = kids.length := f1; omega)); omega
   ·rw [q1']
    show PSB d (kids.getD j default) ((ks.set x s'').getD j default) 5001
    by_cases hxj : x = j
    ·subst hxj; rw [getD_setS _ _ _ _ (by have : ks.length = kids.length := f2; omega)]; exact q2
    ·rw [getD_setN _ _ _ _ _ hxj]; exact (f4 j hj).mono (by omega)
   ·rw [hs2, List.length_append] at h; omega
 ·rw [if_neg hex]
  have e5 := h4 (by omega)
  obtain ⟨rfl, rfl⟩ := p1 (by omega)
  rw [set_getD]
  have hs2 : acc.2.length ≤ (stepU (passU d) kids acc x).2.length := by simp [stepU]
  exact ⟨h1, h2, fun h => by omega, fun _ => e5⟩
def oEx : List AV := [.v (.int .i64 5000)]
def St2 (d : Nat) (t : LT) (kids : List LT) (a : AT) (p : Int) (h : Hp) (o k : Nat) (out : List (ByteArray × Int)) (acc : (List Int × List PS) × List (ByteArray × Int)) (h1 : Hp) (cs : List Int) (ks : List PS) (out' : List (ByteArray × Int)) : Prop :=
 RAt XP h1 (d + 1) t a (.mk p cs ks) ∧ OutAt h1 o k oEx out' ∧ FrP a o k h h1 ∧ RunR d kids out acc cs ks out'
def PRp (d : Nat) (t : LT) (a : AT) (s : PS) (h : Hp) (o k : Nat) (out : List (ByteArray × Int)) (r : AV) (h' : Hp) : Prop :=
 r = .tup [] ∧ ∃ s' out', RAt XP h' d t a s' ∧ OutAt h' o k oEx out' ∧ FrP a o k h h' ∧ PassRel d t s out s' out'
theorem RAt.counts {h : Hp} {d : Nat} {kind : Int} {item : ByteArray} {long many : Int} {kids : List LT} {shares : List Int} {a : AT} {p : Int} {cs cs' : List Int} {ks : List PS} (h4 : kind ≠ 4) (hl : cs'.length = cs.length)
  (hR : RAt XP h (d + 1) (.mk kind item long many kids shares) a (.mk p cs ks)) : RAt XP h (d + 1) (.mk kind item long many kids shares) a (.mk p cs' ks) := by
 cases a with
 | mk i c az =>
  obtain ⟨h1, h2, ⟨l1, l2, l3, l4⟩, h5⟩ := hR
  have e : XP.cf kind cs' = XP.cf kind cs := by simp only [XP, if_neg h4, hl]
  exact ⟨h1, by rw [e]; exact h2, ⟨by rw [e]; exact l1, by omega, l3, l4⟩, h5⟩
theorem St2.next {d : Nat} {kind : Int} {item : ByteArray} {long many : Int} {kids : List LT} {shares : List Int} {i c : Nat} {az : List AT} {p : Int} {h : Hp} {o k : Nat} {out : List (ByteArray × Int)} {acc : (List Int × List PS) × List (ByteArray × Int)} {h1 : Hp} {cs : List Int} {ks : List PS} {out' : List (ByteArray × Int)}
  (hs : St2 d (.mk kind item long many kids shares) kids (.mk i c az) p h o k out acc h1 cs ks out') (h4 : kind ≠ 4) (hS : Sep (d + 1) (.mk i c az)) (ho : o ∉ idsT (.mk i c az)) {x : Nat} (hx : x < kids.length) (hv : VL d (kids.getD x default))
  {r : AV} {h3 : Hp} (hp : PRp d (kids.getD x default) (az.getD x default) (ks.getD x default) h1 o k out' r h3) : ∃ cs' ks' out'', St2 d (.mk kind item long many kids shares) kids (.mk i c az) p h o k out (stepU (passU d) kids acc x) h3 cs' ks' out'' := by
 obtain ⟨g1, g2, g3, g4⟩ := hs
 obtain ⟨rfl, s', out'', r1, r2, r3, r4⟩ := hp
 obtain ⟨_, _, ⟨l1, l2, l3, l4⟩, hk⟩ := id g1
 have hkt := g1.tokNe g2.2
 refine ⟨if out.length + acc.2.length ≤ 5000 then cs.set x (cs.getD x 0 + 1) else cs, ks.set x s', out'', (g1.kid hS ho hkt hx r1 r3).counts h4 (by split <;> simp), r2, g3.trans (r3.kid (by omega)), g4.step hx hv (hk x hx).fits r4⟩
theorem St2.ask {d : Nat} {kind : Int} {item : ByteArray} {long many : Int} {kids : List LT} {shares : List Int} {i c : Nat} {az : List AT} {p : Int} {h : Hp} {o k : Nat} {out : List (ByteArray × Int)} {acc : (List Int × List PS) × List (ByteArray × Int)} {h1 : Hp} {cs : List Int} {ks : List PS} {out' : List (ByteArray × Int)}
  (hs : St2 d (.mk kind item long many kids shares) kids (.mk i c az) p h o k out acc h1 cs ks out') (hS : Sep (d + 1) (.mk i c az)) (ho : o ∉ idsT (.mk i c az)) {x : Nat} (hx : x < kids.length) :
  RAt XP h1 d (kids.getD x default) (az.getD x default) (ks.getD x default) ∧ Sep d (az.getD x default) ∧ PSB d (kids.getD x default) (ks.getD x default) out'.length ∧ OutAt h1 o k oEx out' ∧ o ∉ idsT (az.getD x default) ∧ out'.length ≤ 5001 := by
 obtain ⟨g1, g2, g3, g4⟩ := hs
 obtain ⟨_, _, ⟨l1, l2, l3, l4⟩, hk⟩ := id g1
 exact ⟨hk x hx, (hS x (by omega)).1.2.2, g4.1.2.2 x hx, g2, fun hh => ho (idsT_kid (by omega) hh), g4.2.1⟩
theorem St2.cells {d : Nat} {kind : Int} {item : ByteArray} {long many : Int} {kids : List LT} {shares : List Int} {i c : Nat} {az : List AT} {p : Int} {h : Hp} {o k : Nat} {out : List (ByteArray × Int)} {acc : (List Int × List PS) × List (ByteArray × Int)} {h1 : Hp} {cs : List Int} {ks : List PS} {out' : List (ByteArray × Int)}
  (hs : St2 d (.mk kind item long many kids shares) kids (.mk i c az) p h o k out acc h1 cs ks out') (hne : kids ≠ []) : (∃ tk, h1.H i = some (.cells [.v (.int .i64 kind), .v (.string item), .v (.int .i64 long), .v (.int .i64 many), .row 6 (kids.map encL) none, .row 1 (shares.map encI) none, .row 1 (az.map fun a => [.ptr a.id 0]) tk, .v (.int .i64 p), .arr 1 c kids.length, .v (.int .i64 shares.sum)])) ∧ az.length = kids.length := by
 obtain ⟨⟨⟨K, h1, hK⟩, _, ⟨l1, l2, l3, l4⟩, _⟩, _⟩ := hs
 refine ⟨?_, l3⟩
 rcases hK with ⟨rfl, _⟩ | ⟨tk, rfl⟩
 ·simp at l3; exact absurd (List.eq_nil_of_length_eq_zero l3.symm) hne
 ·exact ⟨tk, h1⟩
abbrev zPGE : List Nat := [0, 1, 2, 3, 4, 5, 6, 7, 8, 9, 10, 11, 12, 13, 14, 15, 16]
abbrev zPGP : List (Nat × List Nat × List Nat) := [(17, [], [18, 19]), (20, [], [])]
abbrev zPHE : List Nat := [0, 1, 2, 3, 4, 5, 6, 7, 8, 9, 10, 11, 12, 13, 14, 15, 16]
abbrev zPHP : List (Nat × List Nat × List Nat) := [(17, [], [])]
attribute [go_sem] zPGE zPGP zPHE zPHP
def PassJp (d : Nat) (kind : Int) (item : ByteArray) (long many : Int) (kids : List LT) (shares : List Int) (i c0 : Nat) (az : List AT) (p : Int) (cs : List Int) (ks : List PS) (h : Hp) (o k : Nat) (out : List (ByteArray × Int)) (s : St) : Prop :=
 ∃ h1 cs' ks' out', St2 d (.mk kind item long many kids shares) kids (.mk i c0 az) p h o k out ((idxL kind p many kids.length (nextF shares p cs)).foldl (stepU (passU d) kids) ((cs, ks), if kind = 1 then [(item, long)] else [])) h1 cs' ks' out' ∧
  s = ⟨((.ptr i 0) :: (.ptr o 0) :: (jnk 114 [])), [], h1⟩
theorem g_passP : ∀ (d : Nat) (t : LT) (a : AT) (s : PS) (h : Hp) (o k : Nat) (out : List (ByteArray × Int)), VL d t → RAt XP h d t a s → Sep d a → PSB d t s out.length → OutAt h o k oEx out → o ∉ idsT a → out.length ≤ 5001 →
  ACalls Tryz.prog 132 [.ptr a.id 0, .ptr o 0] h (PRp d t a s h o k out)
 | 0, _, _, _, _, _, _, _, hv, _, _, _, _, _, _ => hv.elim
 | d + 1, .mk kind item long many kids shares, .mk i c0 az, .mk p cs ks, h, o, k, out, hv, hR, hS, hB, hO, ho, hout => by
  have hfit := hR.fits
  have hkt := hR.tokNe hO.2
  obtain ⟨v1, v2, v3, v4, v5, v6, v7, v8⟩ := id hv
  obtain ⟨⟨K, hH, hK⟩, hT, ⟨l1, l2, l3, l4⟩, hkids⟩ := id hR
  have hH0 : h.H i = some (.cells [.v (.int .i64 kind), .v (.string item), .v (.int .i64 long), .v (.int .i64 many), .row 6 (kids.map encL) none, .row 1 (shares.map encI) none, K, .v (.int .i64 p), .arr 1 c0 kids.length, .v (.int .i64 shares.sum)]) := hH
  have hO1 : h.H o = some (.cells [.row 2 (out.map encStep) (some k), .v (.int .i64 5000)]) := hO.1
  have hO2 : h.T k = some (.tail out.length) := hO.2
  have hfr0 : FrP (.mk i c0 az) o k h h := ⟨fun _ _ _ => rfl, fun _ _ _ => rfl⟩
  show ACalls Tryz.prog 132 [.ptr i 0, .ptr o 0] h _
  refine gE Tryz.func132 rfl (by kernel_rfl) 114 rfl fun c => ?_
  (repeat (first | refine gO rfl ?_ | ((first | ((with_reducible refine yS ?_); refine awp_keep zK21 100 (kS ?_)) | ((with_reducible refine yR ?_); refine awp_keep zK21 100 (kR ?_)) | refine gR ?_ | (with_reducible refine wM ?_ ?_) | ((with_reducible refine xR ?_); refine awp_keep zK21 100 (uE 7 zM20 zPGE zPGP 116 rfl (by kernel_rfl) ?_)) | ((with_reducible refine xR ?_); refine awp_keep zK21 100 (uE 15 zM20 zPHE zPHP 116 rfl (by kernel_rfl) ?_))) <;> ((try with_reducible intro K1 hK1); simp only [go_sem, ↓reduceIte, reduceCtorEq, nA, nB, nC, nD, nE, nF, nG, nH, nI] <;> and_intros <;> first | (apply hK1; clear hK1 K1) | (intros; first | omega | decide | (simp_all <;> omega)) | skip))))
  refine (g_full28 o k h out hO).mono ?_; rintro _ hz ⟨rfl, hh⟩; apply hK1; clear hK1 K1; rw [hh]; clear hh hz
  (repeat (first | refine gO rfl ?_ | ((first | ((with_reducible refine yS ?_); refine awp_keep zK21 100 (kS ?_)) | ((with_reducible refine yR ?_); refine awp_keep zK21 100 (kR ?_)) | refine gR ?_ | (with_reducible refine wM ?_ ?_) | ((with_reducible refine xR ?_); refine awp_keep zK21 100 (uE 7 zM20 zPGE zPGP 116 rfl (by kernel_rfl) ?_)) | ((with_reducible refine xR ?_); refine awp_keep zK21 100 (uE 15 zM20 zPHE zPHP 116 rfl (by kernel_rfl) ?_))) <;> ((try with_reducible intro K1 hK1); simp only [go_sem, ↓reduceIte, reduceCtorEq, nA, nB, nC, nD, nE, nF, nG, nH, nI] <;> and_intros <;> first | (apply hK1; clear hK1 K1) | (intros; first | omega | decide | (simp_all <;> omega)) | skip))))
  refine awp_cond (t := _) rfl (fun hf => ?_) (fun hf => ?_)
  ·(repeat (first | refine gO rfl ?_ | ((first | ((with_reducible refine yS ?_); refine awp_keep zK21 100 (kS ?_)) | ((with_reducible refine yR ?_); refine awp_keep zK21 100 (kR ?_)) | refine gR ?_ | (with_reducible refine wM ?_ ?_) | ((with_reducible refine xR ?_); refine awp_keep zK21 100 (uE 7 zM20 zPGE zPGP 116 rfl (by kernel_rfl) ?_)) | ((with_reducible refine xR ?_); refine awp_keep zK21 100 (uE 15 zM20 zPHE zPHP 116 rfl (by kernel_rfl) ?_))) <;> ((try with_reducible intro K1 hK1); simp only [go_sem, ↓reduceIte, reduceCtorEq, nA, nB, nC, nD, nE, nF, nG, nH, nI] <;> and_intros <;> first | (apply hK1; clear hK1 K1) | (intros; first | omega | decide | (simp_all <;> omega)) | skip))))
   simp only [Tryz.results132, go_sem, ↓reduceIte, reduceCtorEq, nA, nB, nC, nD, nE, nF]
   simp only [decide_eq_true_eq] at hf
   exact ⟨_, _, Weak.refl _, Hp.le.refl _, rfl, _, out, hR, hO, hfr0, fun _ => ⟨rfl, rfl⟩, fun h => by omega, fun h => by omega⟩
  simp only [decide_eq_false_iff_not] at hf
  have hpn : 0 ≤ p ∧ p ≤ 5000 := by have := hB.1; omega
  have hcn : ∀ x ∈ cs, 0 ≤ x ∧ x ≤ 1000000 := fun x hx => by have := hB.2.1 x hx; omega
  (repeat (first | refine gQ rfl ?_ | ((first | ((with_reducible refine yS ?_); refine awp_keep zK21 100 (kS ?_)) | ((with_reducible refine yR ?_); refine awp_keep zK21 100 (kR ?_)) | refine gR ?_ | (with_reducible refine wM ?_ ?_) | ((with_reducible refine xR ?_); refine awp_keep zK21 100 (uE 7 zM20 zPGE zPGP 116 rfl (by kernel_rfl) ?_)) | ((with_reducible refine xR ?_); refine awp_keep zK21 100 (uE 15 zM20 zPHE zPHP 116 rfl (by kernel_rfl) ?_))) <;> ((try with_reducible intro K1 hK1); simp only [go_sem, ↓reduceIte, reduceCtorEq, nA, nB, nC, nD, nE, nF, hH0, nG, nH, nI] <;> and_intros <;> first | (apply hK1; clear hK1 K1) | (intros; first | omega | decide | (simp_all <;> omega)) | skip))))
  refine awp_seq ?_
  refine awp_join (rl false [0, 2, 114]) 0 (fun s => PassJp d kind item long many kids shares i c0 az p cs ks h o k out s) ?_ ?_
  ·rcases (show kind = 1 ∨ kind = 2 ∨ kind = 3 ∨ kind = 4 ∨ kind = 5 by omega) with rfl | rfl | rfl | rfl | rfl
   ·(repeat (first | refine gO rfl ?_ | ((first | ((with_reducible refine yS ?_); refine awp_keep zK21 100 (kS ?_)) | ((with_reducible refine yR ?_); refine awp_keep zK21 100 (kR ?_)) | refine gR ?_ | (with_reducible refine wM ?_ ?_) | ((with_reducible refine xR ?_); refine awp_keep zK21 100 (uE 7 zM20 zPGE zPGP 116 rfl (by kernel_rfl) ?_)) | ((with_reducible refine xR ?_); refine awp_keep zK21 100 (uE 15 zM20 zPHE zPHP 116 rfl (by kernel_rfl) ?_))) <;> ((try with_reducible intro K1 hK1); simp only [go_sem, ↓reduceIte, reduceCtorEq, nA, nB, nC, nD, nE, nF, hH0, nG, nH, nI] <;> and_intros <;> first | (apply hK1; clear hK1 K1) | (intros; first | omega | decide | (simp_all <;> omega)) | skip))))
    refine awp_cond (t := _) rfl (fun _ => ?_) (fun h1 => by cases h1)
    (repeat (first | refine gO rfl ?_ | ((first | ((with_reducible refine yS ?_); refine awp_keep zK21 100 (kS ?_)) | ((with_reducible refine yR ?_); refine awp_keep zK21 100 (kR ?_)) | refine gR ?_ | (with_reducible refine wM ?_ ?_) | ((with_reducible refine xR ?_); refine awp_keep zK21 100 (uE 7 zM20 zPGE zPGP 116 rfl (by kernel_rfl) ?_)) | ((with_reducible refine xR ?_); refine awp_keep zK21 100 (uE 15 zM20 zPHE zPHP 116 rfl (by kernel_rfl) ?_))) <;> ((try with_reducible intro K1 hK1); simp only [go_sem, ↓reduceIte, reduceCtorEq, nA, nB, nC, nD, nE, nF, hH0, hO1, hO2, nG, nH, nI] <;> and_intros <;> first | (apply hK1; clear hK1 K1) | (intros; first | omega | decide | (simp_all <;> omega)) | skip))))
    have hix : idxL 1 p many kids.length (nextF shares p cs) = [] := by simp [idxL]
    refine ⟨{ H := upd h.H o (some (.cells [.row 2 (out.map encStep ++ [[.v (.string item), .v (.int .i64 long)]]) (some k), .v (.int .i64 5000)])), T := upd h.T k (some (.tail (out.length + 1))) }, cs, ks, out ++ [(item, long)], ⟨hR.frame (fun x hx => upd_other _ _ (fun e => by subst e; exact ho hx)) (fun x hx => upd_other _ _ (fun e => by subst e; exact hkt hx)), ⟨?_, ?_⟩, ⟨fun x _ hx => upd_other _ _ hx, fun x _ hx => upd_other _ _ hx⟩, ?_⟩, rfl⟩
    ·rw [show (out ++ [(item, long)]).map encStep = out.map encStep ++ [[.v (.string item), .v (.int .i64 long)]] by simp [encStep]]
     exact upd_same _ _ _
    ·rw [show (out ++ [(item, long)]).length = out.length + 1 by simp]
     exact upd_same _ _ _
    ·rw [hix]
     have e7 : (out ++ [(item, long)]).length = out.length + 1 := by simp
     refine ⟨⟨⟨l2, l4⟩, fun x hx => ?_, fun j hj => (hB.2.2 j hj).mono (by omega)⟩, by omega, fun _ => ⟨rfl, by simp⟩, fun h => ?_⟩
     ·have := hB.2.1 x hx; omega
     ·simp at h; omega
   ·have hs0 : St2 d (.mk 2 item long many kids shares) kids (.mk i c0 az) p h o k out ((cs, ks), []) h cs ks out := ⟨hR, hO, hfr0, ⟨⟨l2, l4⟩, hB.2.1, hB.2.2⟩, by omega, fun _ => ⟨rfl, by simp⟩, fun h => by simp only [List.length_nil] at h; omega⟩
    obtain ⟨⟨tk, hC0⟩, hz0⟩ := hs0.cells (v3 (by omega))
    have hKe := hH0.symm.trans hC0
    simp only [Option.some.injEq, AO.cells.injEq, List.cons.injEq, true_and, and_true] at hKe
    subst hKe
    (repeat (first | refine gO rfl ?_ | ((first | ((with_reducible refine yS ?_); refine awp_keep zK21 100 (kS ?_)) | ((with_reducible refine yR ?_); refine awp_keep zK21 100 (kR ?_)) | refine gR ?_ | (with_reducible refine wM ?_ ?_) | ((with_reducible refine xR ?_); refine awp_keep zK21 100 (uE 7 zM20 zPGE zPGP 116 rfl (by kernel_rfl) ?_)) | ((with_reducible refine xR ?_); refine awp_keep zK21 100 (uE 15 zM20 zPHE zPHP 116 rfl (by kernel_rfl) ?_))) <;> ((try with_reducible intro K1 hK1); simp only [go_sem, ↓reduceIte, reduceCtorEq, nA, nB, nC, nD, nE, nF, hH0, nG, nH, nI] <;> and_intros <;> first | (apply hK1; clear hK1 K1) | (intros; first | omega | decide | (simp_all <;> omega)) | skip))))
    refine awp_cond (t := _) rfl (fun h1 => by cases h1) (fun _ => ?_)
    (repeat (first | refine gO rfl ?_ | ((first | ((with_reducible refine yS ?_); refine awp_keep zK21 100 (kS ?_)) | ((with_reducible refine yR ?_); refine awp_keep zK21 100 (kR ?_)) | refine gR ?_ | (with_reducible refine wM ?_ ?_) | ((with_reducible refine xR ?_); refine awp_keep zK21 100 (uE 7 zM20 zPGE zPGP 116 rfl (by kernel_rfl) ?_)) | ((with_reducible refine xR ?_); refine awp_keep zK21 100 (uE 15 zM20 zPHE zPHP 116 rfl (by kernel_rfl) ?_))) <;> ((try with_reducible intro K1 hK1); simp only [go_sem, ↓reduceIte, reduceCtorEq, nA, nB, nC, nD, nE, nF, hH0, nG, nH, nI] <;> and_intros <;> first | (apply hK1; clear hK1 K1) | (intros; first | omega | decide | (simp_all <;> omega)) | skip))))
    refine awp_cond (t := _) rfl (fun _ => ?_) (fun h1 => by cases h1)
    (repeat (first | refine gO rfl ?_ | ((first | ((with_reducible refine yS ?_); refine awp_keep zK21 100 (kS ?_)) | ((with_reducible refine yR ?_); refine awp_keep zK21 100 (kR ?_)) | refine gR ?_ | (with_reducible refine wM ?_ ?_) | ((with_reducible refine xR ?_); refine awp_keep zK21 100 (uE 7 zM20 zPGE zPGP 116 rfl (by kernel_rfl) ?_)) | ((with_reducible refine xR ?_); refine awp_keep zK21 100 (uE 15 zM20 zPHE zPHP 116 rfl (by kernel_rfl) ?_))) <;> ((try with_reducible intro K1 hK1); simp only [go_sem, ↓reduceIte, reduceCtorEq, nA, nB, nC, nD, nE, nF, hH0, nG, nH, nI] <;> and_intros <;> first | (apply hK1; clear hK1 K1) | (intros; first | omega | decide | (simp_all <;> omega)) | skip))))
    have hix : idxL 2 p many kids.length (nextF shares p cs) = List.range kids.length := by simp [idxL]
    refine awp_loopC (rl false [0, 2, 55, 3, 56]) 0 (fun g s => ∃ (j : Nat) (h1 : Hp) (cs' : List Int) (ks' : List PS) (out' : List (ByteArray × Int)), g + j = kids.length ∧ St2 d (.mk 2 item long many kids shares) kids (.mk i c0 az) p h o k out ((List.range j).foldl (stepU (passU d) kids) ((cs, ks), [])) h1 cs' ks' out' ∧
     s = ⟨((.ptr i 0) :: (.ptr o 0) :: (jnk 55 ((.row 1 (az.map fun a => [.ptr a.id 0]) tk) :: (.v (.int .i64 kids.length)) :: (.v (.int .i64 j)) :: (jnk 56 [])))), [], h1⟩) kids.length ⟨0, h, cs, ks, out, by omega, hs0, by rw [← hz0]; rfl⟩ ?_
    rintro g _ ⟨j, h1, cs', ks', out', hj, hs, rfl⟩
    (repeat (first | refine gO rfl ?_ | ((first | ((with_reducible refine yS ?_); refine awp_keep zK21 100 (kS ?_)) | ((with_reducible refine yR ?_); refine awp_keep zK21 100 (kR ?_)) | refine gR ?_ | (with_reducible refine wM ?_ ?_) | ((with_reducible refine xR ?_); refine awp_keep zK21 100 (uE 7 zM20 zPGE zPGP 116 rfl (by kernel_rfl) ?_)) | ((with_reducible refine xR ?_); refine awp_keep zK21 100 (uE 15 zM20 zPHE zPHP 116 rfl (by kernel_rfl) ?_))) <;> ((try with_reducible intro K1 hK1); simp only [go_sem, ↓reduceIte, reduceCtorEq, nA, nB, nC, nD, nE, nF, nG, nH, nI] <;> and_intros <;> first | (apply hK1; clear hK1 K1) | (intros; first | omega | decide | (simp_all <;> omega)) | skip))))
    refine awp_cond (t := _) rfl (fun h2 => ?_) (fun h2 => ?_)
    ·simp only [decide_eq_true_eq] at h2
     have hx : j < kids.length := by omega
     have hgz : (az.map fun a : AT => [AV.ptr a.id 0]).getD j [] = [.ptr (az.getD j default).id 0] := getD_enc (fun a : AT => [AV.ptr a.id 0]) az j default (by omega)
     obtain ⟨a1, a2, a3, a4, a5, a6⟩ := hs.ask hS ho hx
     (repeat (first | refine gO rfl ?_ | ((first | ((with_reducible refine yS ?_); refine awp_keep zK21 100 (kS ?_)) | ((with_reducible refine yR ?_); refine awp_keep zK21 100 (kR ?_)) | refine gR ?_ | (with_reducible refine wM ?_ ?_) | ((with_reducible refine xR ?_); refine awp_keep zK21 100 (uE 7 zM20 zPGE zPGP 116 rfl (by kernel_rfl) ?_)) | ((with_reducible refine xR ?_); refine awp_keep zK21 100 (uE 15 zM20 zPHE zPHP 116 rfl (by kernel_rfl) ?_))) <;> ((try with_reducible intro K1 hK1); simp only [go_sem, ↓reduceIte, reduceCtorEq, nA, nB, nC, nD, nE, nF, Int.toNat_natCast, hgz, hz0, nG, nH, nI] <;> and_intros <;> first | (apply hK1; clear hK1 K1) | (intros; first | omega | decide | (simp_all <;> omega)) | skip))))
     refine (g_passP d _ _ _ h1 o k out' (v8 _ (getD_mem' kids j default hx)) a1 a2 a3 a4 a5 a6).mono ?_
     intro r h3 hres
     obtain ⟨cs2, ks2, out2, hs2⟩ := hs.next (by omega) hS ho hx (v8 _ (getD_mem' kids j default hx)) hres
     obtain ⟨rfl, _⟩ := hres
     refine hK1 _ ?_; clear hK1 K1
     (repeat (first | refine gO rfl ?_ | ((first | ((with_reducible refine yS ?_); refine awp_keep zK21 100 (kS ?_)) | ((with_reducible refine yR ?_); refine awp_keep zK21 100 (kR ?_)) | refine gR ?_ | (with_reducible refine wM ?_ ?_) | ((with_reducible refine xR ?_); refine awp_keep zK21 100 (uE 7 zM20 zPGE zPGP 116 rfl (by kernel_rfl) ?_)) | ((with_reducible refine xR ?_); refine awp_keep zK21 100 (uE 15 zM20 zPHE zPHP 116 rfl (by kernel_rfl) ?_))) <;> ((try with_reducible intro K1 hK1); simp only [go_sem, ↓reduceIte, reduceCtorEq, nA, nB, nC, nD, nE, nF, nG, nH, nI] <;> and_intros <;> first | (apply hK1; clear hK1 K1) | (intros; first | omega | decide | (simp_all <;> omega)) | skip))))
     exact ⟨g - 1, by omega, j + 1, h3, cs2, ks2, out2, by omega, by rw [List.range_succ, List.foldl_append]; exact hs2, rfl⟩
    ·simp only [decide_eq_false_iff_not] at h2
     have hjk : j = kids.length := by omega
     subst hjk
     (repeat (first | refine gO rfl ?_ | ((first | ((with_reducible refine yS ?_); refine awp_keep zK21 100 (kS ?_)) | ((with_reducible refine yR ?_); refine awp_keep zK21 100 (kR ?_)) | refine gR ?_ | (with_reducible refine wM ?_ ?_) | ((with_reducible refine xR ?_); refine awp_keep zK21 100 (uE 7 zM20 zPGE zPGP 116 rfl (by kernel_rfl) ?_)) | ((with_reducible refine xR ?_); refine awp_keep zK21 100 (uE 15 zM20 zPHE zPHP 116 rfl (by kernel_rfl) ?_))) <;> ((try with_reducible intro K1 hK1); simp only [go_sem, ↓reduceIte, reduceCtorEq, nA, nB, nC, nD, nE, nF, nG, nH, nI] <;> and_intros <;> first | (apply hK1; clear hK1 K1) | (intros; first | omega | decide | (simp_all <;> omega)) | skip))))
     exact ⟨h1, cs', ks', out', by rw [hix]; exact hs, rfl⟩
   ·have hs0 : St2 d (.mk 3 item long many kids shares) kids (.mk i c0 az) p h o k out ((cs, ks), []) h cs ks out := ⟨hR, hO, hfr0, ⟨⟨l2, l4⟩, hB.2.1, hB.2.2⟩, by omega, fun _ => ⟨rfl, by simp⟩, fun h => by simp only [List.length_nil] at h; omega⟩
    obtain ⟨⟨tk, hC0⟩, hz0⟩ := hs0.cells (v3 (by omega))
    have hKe := hH0.symm.trans hC0
    simp only [Option.some.injEq, AO.cells.injEq, List.cons.injEq, true_and, and_true] at hKe
    subst hKe
    (repeat (first | refine gO rfl ?_ | ((first | ((with_reducible refine yS ?_); refine awp_keep zK21 100 (kS ?_)) | ((with_reducible refine yR ?_); refine awp_keep zK21 100 (kR ?_)) | refine gR ?_ | (with_reducible refine wM ?_ ?_) | ((with_reducible refine xR ?_); refine awp_keep zK21 100 (uE 7 zM20 zPGE zPGP 116 rfl (by kernel_rfl) ?_)) | ((with_reducible refine xR ?_); refine awp_keep zK21 100 (uE 15 zM20 zPHE zPHP 116 rfl (by kernel_rfl) ?_))) <;> ((try with_reducible intro K1 hK1); simp only [go_sem, ↓reduceIte, reduceCtorEq, nA, nB, nC, nD, nE, nF, hH0, nG, nH, nI] <;> and_intros <;> first | (apply hK1; clear hK1 K1) | (intros; first | omega | decide | (simp_all <;> omega)) | skip))))
    refine awp_cond (t := _) rfl (fun h1 => by cases h1) (fun _ => ?_)
    (repeat (first | refine gO rfl ?_ | ((first | ((with_reducible refine yS ?_); refine awp_keep zK21 100 (kS ?_)) | ((with_reducible refine yR ?_); refine awp_keep zK21 100 (kR ?_)) | refine gR ?_ | (with_reducible refine wM ?_ ?_) | ((with_reducible refine xR ?_); refine awp_keep zK21 100 (uE 7 zM20 zPGE zPGP 116 rfl (by kernel_rfl) ?_)) | ((with_reducible refine xR ?_); refine awp_keep zK21 100 (uE 15 zM20 zPHE zPHP 116 rfl (by kernel_rfl) ?_))) <;> ((try with_reducible intro K1 hK1); simp only [go_sem, ↓reduceIte, reduceCtorEq, nA, nB, nC, nD, nE, nF, hH0, nG, nH, nI] <;> and_intros <;> first | (apply hK1; clear hK1 K1) | (intros; first | omega | decide | (simp_all <;> omega)) | skip))))
    refine awp_cond (t := _) rfl (fun h1 => by cases h1) (fun _ => ?_)
    (repeat (first | refine gO rfl ?_ | ((first | ((with_reducible refine yS ?_); refine awp_keep zK21 100 (kS ?_)) | ((with_reducible refine yR ?_); refine awp_keep zK21 100 (kR ?_)) | refine gR ?_ | (with_reducible refine wM ?_ ?_) | ((with_reducible refine xR ?_); refine awp_keep zK21 100 (uE 7 zM20 zPGE zPGP 116 rfl (by kernel_rfl) ?_)) | ((with_reducible refine xR ?_); refine awp_keep zK21 100 (uE 15 zM20 zPHE zPHP 116 rfl (by kernel_rfl) ?_))) <;> ((try with_reducible intro K1 hK1); simp only [go_sem, ↓reduceIte, reduceCtorEq, nA, nB, nC, nD, nE, nF, hH0, nG, nH, nI] <;> and_intros <;> first | (apply hK1; clear hK1 K1) | (intros; first | omega | decide | (simp_all <;> omega)) | skip))))
    refine awp_cond (t := _) rfl (fun _ => ?_) (fun h1 => by cases h1)
    have hnk : 0 < kids.length := List.length_pos_iff.2 (v3 (by omega))
    have htm := Int.tmod_lt_of_pos p (show (0 : Int) < kids.length by omega)
    have htn := Int.tmod_nonneg (kids.length : Int) hpn.1
    have hix : idxL 3 p many kids.length (nextF shares p cs) = [(p.tmod kids.length).toNat] := by simp [idxL]
    have hx : (p.tmod kids.length).toNat < kids.length := by omega
    have hgz : (az.map fun a : AT => [AV.ptr a.id 0]).getD (p.tmod kids.length).toNat [] = [.ptr (az.getD (p.tmod kids.length).toNat default).id 0] := getD_enc (fun a : AT => [AV.ptr a.id 0]) az _ default (by omega)
    obtain ⟨a1, a2, a3, a4, a5, a6⟩ := hs0.ask hS ho hx
    (repeat (first | refine gO rfl ?_ | ((first | ((with_reducible refine yS ?_); refine awp_keep zK21 100 (kS ?_)) | ((with_reducible refine yR ?_); refine awp_keep zK21 100 (kR ?_)) | refine gR ?_ | (with_reducible refine wM ?_ ?_) | ((with_reducible refine xR ?_); refine awp_keep zK21 100 (uE 7 zM20 zPGE zPGP 116 rfl (by kernel_rfl) ?_)) | ((with_reducible refine xR ?_); refine awp_keep zK21 100 (uE 15 zM20 zPHE zPHP 116 rfl (by kernel_rfl) ?_))) <;> ((try with_reducible intro K1 hK1); simp only [go_sem, ↓reduceIte, reduceCtorEq, nA, nB, nC, nD, nE, nF, hH0, hz0, hgz, nG, nH, nI] <;> and_intros <;> first | (apply hK1; clear hK1 K1) | (intros; first | omega | decide | (simp_all <;> omega)) | skip))))
    refine (g_passP d _ _ _ h o k out (v8 _ (getD_mem' kids _ default hx)) a1 a2 a3 a4 a5 a6).mono ?_
    intro r h3 hres
    obtain ⟨cs2, ks2, out2, hs2⟩ := hs0.next (by omega) hS ho hx (v8 _ (getD_mem' kids _ default hx)) hres
    obtain ⟨rfl, _⟩ := hres
    refine hK1 _ ?_; clear hK1 K1
    (repeat (first | refine gO rfl ?_ | ((first | ((with_reducible refine yS ?_); refine awp_keep zK21 100 (kS ?_)) | ((with_reducible refine yR ?_); refine awp_keep zK21 100 (kR ?_)) | refine gR ?_ | (with_reducible refine wM ?_ ?_) | ((with_reducible refine xR ?_); refine awp_keep zK21 100 (uE 7 zM20 zPGE zPGP 116 rfl (by kernel_rfl) ?_)) | ((with_reducible refine xR ?_); refine awp_keep zK21 100 (uE 15 zM20 zPHE zPHP 116 rfl (by kernel_rfl) ?_))) <;> ((try with_reducible intro K1 hK1); simp only [go_sem, ↓reduceIte, reduceCtorEq, nA, nB, nC, nD, nE, nF, nG, nH, nI] <;> and_intros <;> first | (apply hK1; clear hK1 K1) | (intros; first | omega | decide | (simp_all <;> omega)) | skip))))
    exact ⟨h3, cs2, ks2, out2, by rw [hix]; exact hs2, rfl⟩
   ·have hs0 : St2 d (.mk 4 item long many kids shares) kids (.mk i c0 az) p h o k out ((cs, ks), []) h cs ks out := ⟨hR, hO, hfr0, ⟨⟨l2, l4⟩, hB.2.1, hB.2.2⟩, by omega, fun _ => ⟨rfl, by simp⟩, fun h => by simp only [List.length_nil] at h; omega⟩
    obtain ⟨⟨tk, hC0⟩, hz0⟩ := hs0.cells (v3 (by omega))
    have hKe := hH0.symm.trans hC0
    simp only [Option.some.injEq, AO.cells.injEq, List.cons.injEq, true_and, and_true] at hKe
    subst hKe
    (repeat (first | refine gO rfl ?_ | ((first | ((with_reducible refine yS ?_); refine awp_keep zK21 100 (kS ?_)) | ((with_reducible refine yR ?_); refine awp_keep zK21 100 (kR ?_)) | refine gR ?_ | (with_reducible refine wM ?_ ?_) | ((with_reducible refine xR ?_); refine awp_keep zK21 100 (uE 7 zM20 zPGE zPGP 116 rfl (by kernel_rfl) ?_)) | ((with_reducible refine xR ?_); refine awp_keep zK21 100 (uE 15 zM20 zPHE zPHP 116 rfl (by kernel_rfl) ?_))) <;> ((try with_reducible intro K1 hK1); simp only [go_sem, ↓reduceIte, reduceCtorEq, nA, nB, nC, nD, nE, nF, hH0, nG, nH, nI] <;> and_intros <;> first | (apply hK1; clear hK1 K1) | (intros; first | omega | decide | (simp_all <;> omega)) | skip))))
    refine awp_cond (t := _) rfl (fun h1 => by cases h1) (fun _ => ?_)
    (repeat (first | refine gO rfl ?_ | ((first | ((with_reducible refine yS ?_); refine awp_keep zK21 100 (kS ?_)) | ((with_reducible refine yR ?_); refine awp_keep zK21 100 (kR ?_)) | refine gR ?_ | (with_reducible refine wM ?_ ?_) | ((with_reducible refine xR ?_); refine awp_keep zK21 100 (uE 7 zM20 zPGE zPGP 116 rfl (by kernel_rfl) ?_)) | ((with_reducible refine xR ?_); refine awp_keep zK21 100 (uE 15 zM20 zPHE zPHP 116 rfl (by kernel_rfl) ?_))) <;> ((try with_reducible intro K1 hK1); simp only [go_sem, ↓reduceIte, reduceCtorEq, nA, nB, nC, nD, nE, nF, hH0, nG, nH, nI] <;> and_intros <;> first | (apply hK1; clear hK1 K1) | (intros; first | omega | decide | (simp_all <;> omega)) | skip))))
    refine awp_cond (t := _) rfl (fun h1 => by cases h1) (fun _ => ?_)
    (repeat (first | refine gO rfl ?_ | ((first | ((with_reducible refine yS ?_); refine awp_keep zK21 100 (kS ?_)) | ((with_reducible refine yR ?_); refine awp_keep zK21 100 (kR ?_)) | refine gR ?_ | (with_reducible refine wM ?_ ?_) | ((with_reducible refine xR ?_); refine awp_keep zK21 100 (uE 7 zM20 zPGE zPGP 116 rfl (by kernel_rfl) ?_)) | ((with_reducible refine xR ?_); refine awp_keep zK21 100 (uE 15 zM20 zPHE zPHP 116 rfl (by kernel_rfl) ?_))) <;> ((try with_reducible intro K1 hK1); simp only [go_sem, ↓reduceIte, reduceCtorEq, nA, nB, nC, nD, nE, nF, hH0, nG, nH, nI] <;> and_intros <;> first | (apply hK1; clear hK1 K1) | (intros; first | omega | decide | (simp_all <;> omega)) | skip))))
    refine awp_cond (t := _) rfl (fun h1 => by cases h1) (fun _ => ?_)
    (repeat (first | refine gO rfl ?_ | ((first | ((with_reducible refine yS ?_); refine awp_keep zK21 100 (kS ?_)) | ((with_reducible refine yR ?_); refine awp_keep zK21 100 (kR ?_)) | refine gR ?_ | (with_reducible refine wM ?_ ?_) | ((with_reducible refine xR ?_); refine awp_keep zK21 100 (uE 7 zM20 zPGE zPGP 116 rfl (by kernel_rfl) ?_)) | ((with_reducible refine xR ?_); refine awp_keep zK21 100 (uE 15 zM20 zPHE zPHP 116 rfl (by kernel_rfl) ?_))) <;> ((try with_reducible intro K1 hK1); simp only [go_sem, ↓reduceIte, reduceCtorEq, nA, nB, nC, nD, nE, nF, hH0, nG, nH, nI] <;> and_intros <;> first | (apply hK1; clear hK1 K1) | (intros; first | omega | decide | (simp_all <;> omega)) | skip))))
    refine awp_cond (t := _) rfl (fun _ => ?_) (fun h1 => by cases h1)
    have hsl := v5 rfl
    have hnk : 0 < kids.length := List.length_pos_iff.2 (v3 (by omega))
    have hx : nextF shares p cs < kids.length := by rw [← hsl]; exact bestTo_lt _ _ (by omega)
    have hix : idxL 4 p many kids.length (nextF shares p cs) = [nextF shares p cs] := by simp [idxL]
    have hT0 : h.T c0 = some (.cont 1 (cs.map encI)) := hT
    have hH4 := hH0
    rw [← hsl] at hH4
    (repeat (first | refine gO rfl ?_ | ((first | ((with_reducible refine yS ?_); refine awp_keep zK21 100 (kS ?_)) | ((with_reducible refine yR ?_); refine awp_keep zK21 100 (kR ?_)) | refine gR ?_ | (with_reducible refine wM ?_ ?_) | ((with_reducible refine xR ?_); refine awp_keep zK21 100 (uE 7 zM20 zPGE zPGP 116 rfl (by kernel_rfl) ?_)) | ((with_reducible refine xR ?_); refine awp_keep zK21 100 (uE 15 zM20 zPHE zPHP 116 rfl (by kernel_rfl) ?_))) <;> ((try with_reducible intro K1 hK1); simp only [go_sem, ↓reduceIte, reduceCtorEq, nA, nB, nC, nD, nE, nF, nG, nH, nI] <;> and_intros <;> first | (apply hK1; clear hK1 K1) | (intros; first | omega | decide | (simp_all <;> omega)) | skip))))
    refine (g_behind45 4 item long many (.row 6 (kids.map encL) none) shares (.row 1 (az.map fun a => [.ptr a.id 0]) tk) p i c0 cs h hH4 hT0 (by omega) (by omega) v6 (by omega) hcn).mono ?_; rintro _ hz ⟨rfl, hh⟩; apply hK1; clear hK1 K1; rw [hh]; clear hh hz
    have hcl : cs.length = kids.length := l2
    have hgc : (cs.map encI).getD (nextF shares p cs) [] = encI (cs.getD (nextF shares p cs) 0) := getD_enc encI cs _ 0 (by omega)
    have hcb := hcn _ (getD_mem' cs (nextF shares p cs) 0 (by omega))
    have hgz : (az.map fun a : AT => [AV.ptr a.id 0]).getD (nextF shares p cs) [] = [.ptr (az.getD (nextF shares p cs) default).id 0] := getD_enc (fun a : AT => [AV.ptr a.id 0]) az _ default (by omega)
    generalize hxe : nextF shares p cs = x at *
    (repeat (first | refine gO rfl ?_ | ((first | ((with_reducible refine yS ?_); refine awp_keep zK21 100 (kS ?_)) | ((with_reducible refine yR ?_); refine awp_keep zK21 100 (kR ?_)) | refine gR ?_ | (with_reducible refine wM ?_ ?_) | ((with_reducible refine xR ?_); refine awp_keep zK21 100 (uE 7 zM20 zPGE zPGP 116 rfl (by kernel_rfl) ?_)) | ((with_reducible refine xR ?_); refine awp_keep zK21 100 (uE 15 zM20 zPHE zPHP 116 rfl (by kernel_rfl) ?_))) <;> ((try with_reducible intro K1 hK1); simp only [go_sem, ↓reduceIte, reduceCtorEq, nA, nB, nC, nD, nE, nF, hH0, hT0, hcl, hgc, hz0, hgz, Int.toNat_natCast, encI, nG, nH, nI] <;> and_intros <;> first | (apply hK1; clear hK1 K1) | (intros; first | omega | decide | (simp_all <;> omega)) | skip))))
    have hck : c0 ≠ k := fun e => hkt (by rw [toksT_eq, e]; simp)
    have hR4 := hR.count hS (cs' := cs.set x (cs.getD x 0 + 1)) (by simp) (by simp [XP]; omega)
    rw [show XP.cf 4 (cs.set x (cs.getD x 0 + 1)) = cs.set x (cs.getD x 0 + 1) from rfl, List.map_set] at hR4
    have hO4 : OutAt { h with T := upd h.T c0 (some (.cont 1 ((cs.map encI).set x (encI (cs.getD x 0 + 1))))) } o k oEx out := ⟨hO.1, (upd_other _ _ (fun e => hck e.symm)).trans hO.2⟩
    have hk4 := hR4.2.2.2 x hx
    have hF4 : FrP (.mk i c0 az) o k h { h with T := upd h.T c0 (some (.cont 1 ((cs.map encI).set x (encI (cs.getD x 0 + 1))))) } := ⟨fun _ _ _ => rfl, fun y hy _ => upd_other _ _ (fun e => hy (by rw [toksT_eq, e]; simp))⟩
    refine (g_passP d _ _ _ _ o k out (v8 _ (getD_mem' kids x default hx)) hk4 (hS x (by omega)).1.2.2 (hB.2.2 x hx) hO4 (fun hh => ho (idsT_kid (by omega) hh)) hout).mono ?_
    rintro r h3 ⟨rfl, s', out2, r1, r2, r3, r4⟩
    refine hK1 _ ?_; clear hK1 K1
    (repeat (first | refine gO rfl ?_ | ((first | ((with_reducible refine yS ?_); refine awp_keep zK21 100 (kS ?_)) | ((with_reducible refine yR ?_); refine awp_keep zK21 100 (kR ?_)) | refine gR ?_ | (with_reducible refine wM ?_ ?_) | ((with_reducible refine xR ?_); refine awp_keep zK21 100 (uE 7 zM20 zPGE zPGP 116 rfl (by kernel_rfl) ?_)) | ((with_reducible refine xR ?_); refine awp_keep zK21 100 (uE 15 zM20 zPHE zPHP 116 rfl (by kernel_rfl) ?_))) <;> ((try with_reducible intro K1 hK1); simp only [go_sem, ↓reduceIte, reduceCtorEq, nA, nB, nC, nD, nE, nF, nG, nH, nI] <;> and_intros <;> first | (apply hK1; clear hK1 K1) | (intros; first | omega | decide | (simp_all <;> omega)) | skip))))
    have hst := hs0.2.2.2.step hx (v8 _ (getD_mem' kids x default hx)) hk4.fits r4
    rw [if_pos (by simp only [List.length_nil]; omega)] at hst
    exact ⟨h3, _, _, out2, ⟨hR4.kid hS ho (hR4.tokNe hO4.2) hx r1 r3, r2, hF4.trans (r3.kid (by omega)), by rw [hxe, hix]; exact hst⟩, rfl⟩
   ·have hs0 : St2 d (.mk 5 item long many kids shares) kids (.mk i c0 az) p h o k out ((cs, ks), []) h cs ks out := ⟨hR, hO, hfr0, ⟨⟨l2, l4⟩, hB.2.1, hB.2.2⟩, by omega, fun _ => ⟨rfl, by simp⟩, fun h => by simp only [List.length_nil] at h; omega⟩
    obtain ⟨⟨tk, hC0⟩, hz0⟩ := hs0.cells (v3 (by omega))
    have hKe := hH0.symm.trans hC0
    simp only [Option.some.injEq, AO.cells.injEq, List.cons.injEq, true_and, and_true] at hKe
    subst hKe
    (repeat (first | refine gO rfl ?_ | ((first | ((with_reducible refine yS ?_); refine awp_keep zK21 100 (kS ?_)) | ((with_reducible refine yR ?_); refine awp_keep zK21 100 (kR ?_)) | refine gR ?_ | (with_reducible refine wM ?_ ?_) | ((with_reducible refine xR ?_); refine awp_keep zK21 100 (uE 7 zM20 zPGE zPGP 116 rfl (by kernel_rfl) ?_)) | ((with_reducible refine xR ?_); refine awp_keep zK21 100 (uE 15 zM20 zPHE zPHP 116 rfl (by kernel_rfl) ?_))) <;> ((try with_reducible intro K1 hK1); simp only [go_sem, ↓reduceIte, reduceCtorEq, nA, nB, nC, nD, nE, nF, hH0, nG, nH, nI] <;> and_intros <;> first | (apply hK1; clear hK1 K1) | (intros; first | omega | decide | (simp_all <;> omega)) | skip))))
    refine awp_cond (t := _) rfl (fun h1 => by cases h1) (fun _ => ?_)
    (repeat (first | refine gO rfl ?_ | ((first | ((with_reducible refine yS ?_); refine awp_keep zK21 100 (kS ?_)) | ((with_reducible refine yR ?_); refine awp_keep zK21 100 (kR ?_)) | refine gR ?_ | (with_reducible refine wM ?_ ?_) | ((with_reducible refine xR ?_); refine awp_keep zK21 100 (uE 7 zM20 zPGE zPGP 116 rfl (by kernel_rfl) ?_)) | ((with_reducible refine xR ?_); refine awp_keep zK21 100 (uE 15 zM20 zPHE zPHP 116 rfl (by kernel_rfl) ?_))) <;> ((try with_reducible intro K1 hK1); simp only [go_sem, ↓reduceIte, reduceCtorEq, nA, nB, nC, nD, nE, nF, hH0, nG, nH, nI] <;> and_intros <;> first | (apply hK1; clear hK1 K1) | (intros; first | omega | decide | (simp_all <;> omega)) | skip))))
    refine awp_cond (t := _) rfl (fun h1 => by cases h1) (fun _ => ?_)
    (repeat (first | refine gO rfl ?_ | ((first | ((with_reducible refine yS ?_); refine awp_keep zK21 100 (kS ?_)) | ((with_reducible refine yR ?_); refine awp_keep zK21 100 (kR ?_)) | refine gR ?_ | (with_reducible refine wM ?_ ?_) | ((with_reducible refine xR ?_); refine awp_keep zK21 100 (uE 7 zM20 zPGE zPGP 116 rfl (by kernel_rfl) ?_)) | ((with_reducible refine xR ?_); refine awp_keep zK21 100 (uE 15 zM20 zPHE zPHP 116 rfl (by kernel_rfl) ?_))) <;> ((try with_reducible intro K1 hK1); simp only [go_sem, ↓reduceIte, reduceCtorEq, nA, nB, nC, nD, nE, nF, hH0, nG, nH, nI] <;> and_intros <;> first | (apply hK1; clear hK1 K1) | (intros; first | omega | decide | (simp_all <;> omega)) | skip))))
    refine awp_cond (t := _) rfl (fun h1 => by cases h1) (fun _ => ?_)
    (repeat (first | refine gO rfl ?_ | ((first | ((with_reducible refine yS ?_); refine awp_keep zK21 100 (kS ?_)) | ((with_reducible refine yR ?_); refine awp_keep zK21 100 (kR ?_)) | refine gR ?_ | (with_reducible refine wM ?_ ?_) | ((with_reducible refine xR ?_); refine awp_keep zK21 100 (uE 7 zM20 zPGE zPGP 116 rfl (by kernel_rfl) ?_)) | ((with_reducible refine xR ?_); refine awp_keep zK21 100 (uE 15 zM20 zPHE zPHP 116 rfl (by kernel_rfl) ?_))) <;> ((try with_reducible intro K1 hK1); simp only [go_sem, ↓reduceIte, reduceCtorEq, nA, nB, nC, nD, nE, nF, hH0, nG, nH, nI] <;> and_intros <;> first | (apply hK1; clear hK1 K1) | (intros; first | omega | decide | (simp_all <;> omega)) | skip))))
    refine awp_cond (t := _) rfl (fun h1 => by cases h1) (fun _ => ?_)
    have hm5 := v4 rfl
    have hx : 0 < kids.length := by omega
    (repeat (first | refine gO rfl ?_ | ((first | ((with_reducible refine yS ?_); refine awp_keep zK21 100 (kS ?_)) | ((with_reducible refine yR ?_); refine awp_keep zK21 100 (kR ?_)) | refine gR ?_ | (with_reducible refine wM ?_ ?_) | ((with_reducible refine xR ?_); refine awp_keep zK21 100 (uE 7 zM20 zPGE zPGP 116 rfl (by kernel_rfl) ?_)) | ((with_reducible refine xR ?_); refine awp_keep zK21 100 (uE 15 zM20 zPHE zPHP 116 rfl (by kernel_rfl) ?_))) <;> ((try with_reducible intro K1 hK1); simp only [go_sem, ↓reduceIte, reduceCtorEq, nA, nB, nC, nD, nE, nF, hH0, nG, nH, nI] <;> and_intros <;> first | (apply hK1; clear hK1 K1) | (intros; first | omega | decide | (simp_all <;> omega)) | skip))))
    have hix : idxL 5 p many kids.length (nextF shares p cs) = List.replicate many.toNat 0 := by simp [idxL]
    refine awp_loopC (rl false [0, 2, 16, 2, 96]) 0 (fun g s => ∃ (j : Nat) (h1 : Hp) (cs' : List Int) (ks' : List PS) (out' : List (ByteArray × Int)), g + j = many.toNat ∧ St2 d (.mk 5 item long many kids shares) kids (.mk i c0 az) p h o k out ((List.replicate j 0).foldl (stepU (passU d) kids) ((cs, ks), [])) h1 cs' ks' out' ∧
     s = ⟨((.ptr i 0) :: (.ptr o 0) :: (jnk 16 ((.v (.int .i64 many)) :: (.v (.int .i64 j)) :: (jnk 96 [])))), [], h1⟩) many.toNat ⟨0, h, cs, ks, out, by omega, hs0, rfl⟩ ?_
    rintro g _ ⟨j, h1, cs', ks', out', hj, hs, rfl⟩
    (repeat (first | refine gO rfl ?_ | ((first | ((with_reducible refine yS ?_); refine awp_keep zK21 100 (kS ?_)) | ((with_reducible refine yR ?_); refine awp_keep zK21 100 (kR ?_)) | refine gR ?_ | (with_reducible refine wM ?_ ?_) | ((with_reducible refine xR ?_); refine awp_keep zK21 100 (uE 7 zM20 zPGE zPGP 116 rfl (by kernel_rfl) ?_)) | ((with_reducible refine xR ?_); refine awp_keep zK21 100 (uE 15 zM20 zPHE zPHP 116 rfl (by kernel_rfl) ?_))) <;> ((try with_reducible intro K1 hK1); simp only [go_sem, ↓reduceIte, reduceCtorEq, nA, nB, nC, nD, nE, nF, nG, nH, nI] <;> and_intros <;> first | (apply hK1; clear hK1 K1) | (intros; first | omega | decide | (simp_all <;> omega)) | skip))))
    refine awp_cond (t := _) rfl (fun h2 => ?_) (fun h2 => ?_)
    ·simp only [decide_eq_true_eq] at h2
     have hgz : (az.map fun a : AT => [AV.ptr a.id 0]).getD 0 [] = [.ptr (az.getD 0 default).id 0] := getD_enc (fun a : AT => [AV.ptr a.id 0]) az 0 default (by omega)
     obtain ⟨a1, a2, a3, a4, a5, a6⟩ := hs.ask hS ho hx
     obtain ⟨⟨tk1, hC1⟩, _⟩ := hs.cells (v3 (by omega))
     have hgz0 : ∀ tz, (az.map fun a : AT => [AV.ptr a.id 0]).getD (Int.toNat 0) tz = (az.map fun a : AT => [AV.ptr a.id 0]).getD 0 tz := fun _ => rfl
     (repeat (first | refine gO rfl ?_ | ((first | ((with_reducible refine yS ?_); refine awp_keep zK21 100 (kS ?_)) | ((with_reducible refine yR ?_); refine awp_keep zK21 100 (kR ?_)) | refine gR ?_ | (with_reducible refine wM ?_ ?_) | ((with_reducible refine xR ?_); refine awp_keep zK21 100 (uE 7 zM20 zPGE zPGP 116 rfl (by kernel_rfl) ?_)) | ((with_reducible refine xR ?_); refine awp_keep zK21 100 (uE 15 zM20 zPHE zPHP 116 rfl (by kernel_rfl) ?_))) <;> ((try with_reducible intro K1 hK1); simp only [go_sem, ↓reduceIte, reduceCtorEq, nA, nB, nC, nD, nE, nF, hC1, hgz0, hgz, hz0, nG, nH, nI] <;> and_intros <;> first | (apply hK1; clear hK1 K1) | (intros; first | omega | decide | (simp_all <;> omega)) | skip))))
     refine (g_passP d _ _ _ h1 o k out' (v8 _ (getD_mem' kids 0 default hx)) a1 a2 a3 a4 a5 a6).mono ?_
     intro r h3 hres
     obtain ⟨cs2, ks2, out2, hs2⟩ := hs.next (by omega) hS ho hx (v8 _ (getD_mem' kids 0 default hx)) hres
     obtain ⟨rfl, _⟩ := hres
     refine hK1 _ ?_; clear hK1 K1
     (repeat (first | refine gO rfl ?_ | ((first | ((with_reducible refine yS ?_); refine awp_keep zK21 100 (kS ?_)) | ((with_reducible refine yR ?_); refine awp_keep zK21 100 (kR ?_)) | refine gR ?_ | (with_reducible refine wM ?_ ?_) | ((with_reducible refine xR ?_); refine awp_keep zK21 100 (uE 7 zM20 zPGE zPGP 116 rfl (by kernel_rfl) ?_)) | ((with_reducible refine xR ?_); refine awp_keep zK21 100 (uE 15 zM20 zPHE zPHP 116 rfl (by kernel_rfl) ?_))) <;> ((try with_reducible intro K1 hK1); simp only [go_sem, ↓reduceIte, reduceCtorEq, nA, nB, nC, nD, nE, nF, nG, nH, nI] <;> and_intros <;> first | (apply hK1; clear hK1 K1) | (intros; first | omega | decide | (simp_all <;> omega)) | skip))))
     exact ⟨g - 1, by omega, j + 1, h3, cs2, ks2, out2, by omega, by rw [List.replicate_succ', List.foldl_append]; exact hs2, rfl⟩
    ·simp only [decide_eq_false_iff_not] at h2
     have hjk : j = many.toNat := by omega
     subst hjk
     (repeat (first | refine gO rfl ?_ | ((first | ((with_reducible refine yS ?_); refine awp_keep zK21 100 (kS ?_)) | ((with_reducible refine yR ?_); refine awp_keep zK21 100 (kR ?_)) | refine gR ?_ | (with_reducible refine wM ?_ ?_) | ((with_reducible refine xR ?_); refine awp_keep zK21 100 (uE 7 zM20 zPGE zPGP 116 rfl (by kernel_rfl) ?_)) | ((with_reducible refine xR ?_); refine awp_keep zK21 100 (uE 15 zM20 zPHE zPHP 116 rfl (by kernel_rfl) ?_))) <;> ((try with_reducible intro K1 hK1); simp only [go_sem, ↓reduceIte, reduceCtorEq, nA, nB, nC, nD, nE, nF, nG, nH, nI] <;> and_intros <;> first | (apply hK1; clear hK1 K1) | (intros; first | omega | decide | (simp_all <;> omega)) | skip))))
     exact ⟨h1, cs', ks', out', by rw [hix]; exact hs, rfl⟩
  ·rintro _ ⟨h1, cs', ks', out', ⟨g1, g2, g3, g4⟩, rfl⟩
   obtain ⟨⟨K1', hH1, hK1'⟩, hT1, ⟨m1, m2, m3, m4⟩, hk1⟩ := id g1
   have hH10 : h1.H i = some (.cells [.v (.int .i64 kind), .v (.string item), .v (.int .i64 long), .v (.int .i64 many), .row 6 (kids.map encL) none, .row 1 (shares.map encI) none, K1', .v (.int .i64 p), .arr 1 c0 kids.length, .v (.int .i64 shares.sum)]) := hH1
   have hoi : o ≠ i := fun e => ho (by rw [idsT_eq, e]; simp)
   have hPS := passU_succ d kind item long many kids shares p cs ks
   have hpo := passU_ok (d + 1) _ _ out.length hv hfit (by omega) hB
   generalize (idxL kind p many kids.length (nextF shares p cs)).foldl (stepU (passU d) kids) ((cs, ks), if kind = 1 then [(item, long)] else []) = acc at *
   (repeat (first | refine gO rfl ?_ | ((first | ((with_reducible refine yS ?_); refine awp_keep zK21 100 (kS ?_)) | ((with_reducible refine yR ?_); refine awp_keep zK21 100 (kR ?_)) | refine gR ?_ | (with_reducible refine wM ?_ ?_) | ((with_reducible refine xR ?_); refine awp_keep zK21 100 (uE 7 zM20 zPGE zPGP 116 rfl (by kernel_rfl) ?_)) | ((with_reducible refine xR ?_); refine awp_keep zK21 100 (uE 15 zM20 zPHE zPHP 116 rfl (by kernel_rfl) ?_))) <;> ((try with_reducible intro K1 hK1); simp only [go_sem, ↓reduceIte, reduceCtorEq, nA, nB, nC, nD, nE, nF, hH10, nG, nH, nI] <;> and_intros <;> first | (apply hK1; clear hK1 K1) | (intros; first | omega | decide | (simp_all <;> omega)) | skip))))
   simp only [retQ, Tryz.results132, resV, resL]
   refine ⟨_, _, Weak.refl _, Hp.le.refl _, rfl, .mk (p + 1) cs' ks', out', g1.hadOne hS hK1', ⟨(upd_other _ _ hoi).trans g2.1, g2.2⟩, g3.trans ⟨fun y hy _ => upd_other _ _ (fun e => hy (by rw [idsT_eq, e]; simp)), fun _ _ _ => rfl⟩, fun h => by omega, fun _ hle => ?_, fun _ hlt => ?_⟩
   ·rw [hPS] at hle ⊢
    obtain ⟨e1, e2⟩ := g4.2.2.1 hle
    have e3 : acc.1.1 = cs' := by rw [← e1]
    have e4 : acc.1.2 = ks' := by rw [← e1]
    exact ⟨by rw [e3, e4], e2⟩
   ·rw [hPS] at hlt
    have e5 := g4.2.2.2 hlt
    refine ⟨e5, ⟨by omega, ?_, ?_⟩⟩
    ·have := g4.1.2.1; rw [e5] at this; exact this
    ·have := g4.1.2.2; rw [e5] at this; exact this
abbrev zPIE : List Nat := [0, 1, 2, 3, 4, 5, 6, 7, 8, 9, 10, 11]
abbrev zPIP : List (Nat × List Nat × List Nat) := []
attribute [go_sem] zPIE zPIP
theorem a_in2 (x lo hi : Int) (h : Hp) : ACalls Tryz.prog 87 [.v (.int .i64 x), .v (.int .i64 lo), .v (.int .i64 hi)] h (fun r h' => r = .v (.bool (!outB x lo hi)) ∧ h' = h) :=
 (a_in x lo hi h).mono fun r h' ⟨e, e2⟩ => ⟨by rw [e, outB]; congr 2; rw [Bool.eq_iff_iff]; simp, e2⟩
theorem g_share40 (x : Int) (h : Hp) : ACalls Tryz.prog 121 [.v (.int .i64 x)] h (fun r h' => r = .v (.bool (outB x 1 1000)) ∧ h' = h) := by
 refine gE Tryz.func121 rfl (by kernel_rfl) 5 rfl fun c => ?_
 (repeat (first | refine gO rfl ?_ | (refine gR fun K1 hK1 => ?_; simp only [go_sem, ↓reduceIte, reduceCtorEq, nA, nB, nC, nD, nE, nF] <;> and_intros <;> first | (apply hK1; clear hK1 K1) | (intros; first | omega | decide | (simp_all <;> omega)) | skip)))
 refine (a_in2 x 1 1000 h).mono ?_; rintro _ hz ⟨rfl, hh⟩; apply hK1; clear hK1 K1; rw [hh]; clear hh hz
 (repeat (first | refine gO rfl ?_ | (refine gR fun K1 hK1 => ?_; simp only [go_sem, ↓reduceIte, reduceCtorEq, nA, nB, nC, nD, nE, nF] <;> and_intros <;> first | (apply hK1; clear hK1 K1) | (intros; first | omega | decide | (simp_all <;> omega)) | skip)))
 simp only [Tryz.results121, go_sem, ↓reduceIte, reduceCtorEq, nA, nB, nC, nD, nE, nF]
 exact ⟨_, _, Weak.refl _, Hp.le.refl _, by simp, rfl⟩
theorem g_shares (l : List Int) (hl : l.length ≤ 1000) (h : Hp) : ACalls Tryz.prog 120 [.row 1 (l.map encI) none, .fn 121 []] h (fun r h' => r = .v (.bool (l.any fun n => outB n 1 1000)) ∧ h' = h) := by
 refine (g_contains39 121 [] l (by omega) (fun j h' => h' = h ∧ (l.take j).any (fun n => outB n 1 1000) = false) (fun j h' => h' = h ∧ outB (l.getD j 0) 1 1000 = true) h ⟨rfl, rfl⟩ ?_).mono ?_
 ·rintro j h' hj ⟨rfl, hI⟩
  refine (g_share40 _ _).mono ?_
  rintro _ h2 ⟨rfl, hh⟩
  refine ⟨_, rfl, fun hb => ⟨hh, hb⟩, fun hb => ⟨hh, ?_⟩⟩
  rw [List.any_eq_false] at hI ⊢
  intro x hx
  rw [List.take_add_one, List.getElem?_eq_getElem hj] at hx
  rcases List.mem_append.1 hx with hx | hx
  ·exact hI x hx
  ·rw [List.getD_eq_getElem?_getD, List.getElem?_eq_getElem hj] at hb
   simp at hx hb
   rw [hx]; simpa using hb
 ·rintro _ h' (⟨j, hj, rfl, hh, hb⟩ | ⟨rfl, hh, hI⟩)
  ·exact ⟨by rw [List.any_eq_true.2 ⟨_, getD_mem' l j 0 hj, hb⟩], hh⟩
  ·rw [List.take_length] at hI
   exact ⟨by rw [hI], hh⟩
theorem g_part22 : ∀ (d : Nat) (t : LT) (h : Hp), KC d t → ACalls Tryz.prog 67 [.agg (encL t)] h (fun r h' => r = .v (.int .i64 (partF t)) ∧ h' = h)
 | 0, _, _, hb => hb.elim
 | d + 1, .mk kind item long many kids shares, h0, hb => by
  obtain ⟨b1, b2, b3, b4, b5, b6, b7, b8⟩ := hb
  simp only [encL_eq]
  refine gE Tryz.func67 rfl (by kernel_rfl) 119 rfl fun c => ?_
  (repeat (first | refine gQ rfl ?_ | ((first | ((with_reducible refine yS ?_); refine awp_keep zK22 100 (uS zM21 ?_)) | ((with_reducible refine yR ?_); refine awp_keep zK22 100 (uR zM21 ?_)) | refine gM zM21 ?_ | (with_reducible refine wM ?_ ?_) | ((with_reducible refine xS ?_); refine awp_keep zK22 100 (uD 1 zM21 zPIE zPIP 120 rfl (by kernel_rfl) ?_))) <;> ((try with_reducible intro K1 hK1); simp only [go_sem, ↓reduceIte, reduceCtorEq, nA, nB, nC, nD, nE, nF, nG, nH, nI] <;> and_intros <;> first | (apply hK1; clear hK1 K1) | (intros; first | omega | decide | (simp_all <;> omega)) | skip))))
  refine awp_seq ?_
  refine awp_join (rl false [1, 1, 118]) 0 (fun s => partF (.mk kind item long many kids shares) = firstNZ (kids.map partF) ∧ s = ⟨(AV.junk :: ((.ref [.v (.int .i64 kind), .v (.string item), .v (.int .i64 long), .v (.int .i64 many), .row 6 (kids.map encL) none, .row 1 (shares.map encI) none] 0) :: (jnk 118 []))), [], h0⟩) ?_ ?_
  ·(repeat (first | refine gO rfl ?_ | ((first | ((with_reducible refine yS ?_); refine awp_keep zK22 100 (uS zM21 ?_)) | ((with_reducible refine yR ?_); refine awp_keep zK22 100 (uR zM21 ?_)) | refine gM zM21 ?_ | (with_reducible refine wM ?_ ?_) | ((with_reducible refine xS ?_); refine awp_keep zK22 100 (uD 1 zM21 zPIE zPIP 120 rfl (by kernel_rfl) ?_))) <;> ((try with_reducible intro K1 hK1); simp only [go_sem, ↓reduceIte, reduceCtorEq, nA, nB, nC, nD, nE, nF, nG, nH, nI] <;> and_intros <;> first | (apply hK1; clear hK1 K1) | (intros; first | omega | decide | (simp_all <;> omega)) | skip))))
   refine (a_in2 kind 1 5 _).mono ?_; rintro _ hz ⟨rfl, hh⟩; apply hK1; clear hK1 K1; rw [hh]; clear hh hz
   (repeat (first | refine gO rfl ?_ | ((first | ((with_reducible refine yS ?_); refine awp_keep zK22 100 (uS zM21 ?_)) | ((with_reducible refine yR ?_); refine awp_keep zK22 100 (uR zM21 ?_)) | refine gM zM21 ?_ | (with_reducible refine wM ?_ ?_) | ((with_reducible refine xS ?_); refine awp_keep zK22 100 (uD 1 zM21 zPIE zPIP 120 rfl (by kernel_rfl) ?_))) <;> ((try with_reducible intro K1 hK1); simp only [go_sem, ↓reduceIte, reduceCtorEq, nA, nB, nC, nD, nE, nF, nG, nH, nI] <;> and_intros <;> first | (apply hK1; clear hK1 K1) | (intros; first | omega | decide | (simp_all <;> omega)) | skip))))
   refine awp_cond (t := _) rfl (fun h1 => ?_) (fun h1 => ?_)
   ·(repeat (first | refine gO rfl ?_ | ((first | ((with_reducible refine yS ?_); refine awp_keep zK22 100 (uS zM21 ?_)) | ((with_reducible refine yR ?_); refine awp_keep zK22 100 (uR zM21 ?_)) | refine gM zM21 ?_ | (with_reducible refine wM ?_ ?_) | ((with_reducible refine xS ?_); refine awp_keep zK22 100 (uD 1 zM21 zPIE zPIP 120 rfl (by kernel_rfl) ?_))) <;> ((try with_reducible intro K1 hK1); simp only [go_sem, ↓reduceIte, reduceCtorEq, nA, nB, nC, nD, nE, nF, nG, nH, nI] <;> and_intros <;> first | (apply hK1; clear hK1 K1) | (intros; first | omega | decide | (simp_all <;> omega)) | skip))))
    simp only [Tryz.results67, go_sem, ↓reduceIte, reduceCtorEq, nA, nB, nC, nD, nE, nF]
    exact ⟨_, _, Weak.refl _, Hp.le.refl _, by rw [partF_eq, h1]; rfl, rfl⟩
   have hgt : decide ((0 : Int) < shares.length) = ((shares.length : Int) != 0) := by rw [Bool.eq_iff_iff]; simp only [decide_eq_true_eq, bne_iff_ne, ne_eq]; omega
   have key : ∀ q1 q4 q5 : Bool, (kind == 1) = q1 → (kind == 4) = q4 → (kind == 5) = q5 → (q1 && q4) = false → (q1 && q5) = false → (q4 && q5) = false → (q1 = true ∧ q4 = false ∧ q5 = false ∨ q1 = false ∧ q4 = true ∧ q5 = false ∨ q1 = false ∧ q4 = false ∧ q5 = true ∨ q1 = false ∧ q4 = false ∧ q5 = false) := by intro q1 q4 q5 _ _ _; cases q1 <;> cases q4 <;> cases q5 <;> simp
   rcases key _ _ _ rfl rfl rfl (by simp; omega) (by simp; omega) (by simp; omega) with ⟨e1, e4, e5⟩ | ⟨e1, e4, e5⟩ | ⟨e1, e4, e5⟩ | ⟨e1, e4, e5⟩ <;> clear key <;> (repeat' (first | refine gO rfl ?_ | ((first | ((with_reducible refine yS ?_); refine awp_keep zK22 100 (uS zM21 ?_)) | ((with_reducible refine yR ?_); refine awp_keep zK22 100 (uR zM21 ?_)) | refine gM zM21 ?_ | (with_reducible refine wM ?_ ?_) | ((with_reducible refine xS ?_); refine awp_keep zK22 100 (uD 1 zM21 zPIE zPIP 120 rfl (by kernel_rfl) ?_))) <;> ((try with_reducible intro K1 hK1); simp only [go_sem, ↓reduceIte, reduceCtorEq, nA, nB, nC, nD, nE, nF, e1, e4, e5, hgt, nG, nH, nI] <;> and_intros <;> first | (apply hK1; clear hK1 K1) | (intros; first | omega | decide | (simp_all <;> omega)) | skip)) | (refine awp_cond (t := _) rfl (fun hcnd => ?_) (fun hcnd => ?_) <;> first | (cases hcnd; done) | (simp only [hcnd]) | skip)))
   all_goals first | (simp only [Tryz.results67, go_sem, ↓reduceIte, reduceCtorEq, nA, nB, nC, nD, nE, nF]; exact ⟨_, _, Weak.refl _, Hp.le.refl _, by rw [partF_eq, h1, show formB kind item long many kids.length shares.length = true from (by clear b1 b2 b3 b4 b5 b6 b7 b8 c; simp only [formB, bne, Bool.not_eq_true', Bool.not_eq_false'] at *; simp only [*, Bool.not_true, Bool.not_false, Bool.false_and, Bool.true_and, Bool.and_false, Bool.and_true, Bool.false_or, Bool.true_or, Bool.or_true, Bool.or_false])]; rfl, rfl⟩) | skip
   ·have hF : formB kind item long many kids.length shares.length = false := by clear hK1 K1; clear b1 b2 b3 b4 b5 b6 b7 b8 c; simp only [formB, bne, Bool.not_eq_true', Bool.not_eq_false'] at *; simp only [*, Bool.not_true, Bool.not_false, Bool.false_and, Bool.true_and, Bool.and_false, Bool.and_true, Bool.false_or, Bool.true_or, Bool.or_true, Bool.or_false]
    refine (a_key item (by omega) _).mono ?_; rintro _ hz ⟨rfl, hh⟩; refine ⟨rfl, hK1 _ ?_⟩; clear hK1 K1; rw [hh]; clear hh hz
    (repeat (first | refine gO rfl ?_ | ((first | ((with_reducible refine yS ?_); refine awp_keep zK22 100 (uS zM21 ?_)) | ((with_reducible refine yR ?_); refine awp_keep zK22 100 (uR zM21 ?_)) | refine gM zM21 ?_ | (with_reducible refine wM ?_ ?_) | ((with_reducible refine xS ?_); refine awp_keep zK22 100 (uD 1 zM21 zPIE zPIP 120 rfl (by kernel_rfl) ?_))) <;> ((try with_reducible intro K1 hK1); simp only [go_sem, ↓reduceIte, reduceCtorEq, nA, nB, nC, nD, nE, nF, e1, e4, e5, nG, nH, nI] <;> and_intros <;> first | (apply hK1; clear hK1 K1) | (intros; first | omega | decide | (simp_all <;> omega)) | skip))))
    refine awp_cond (t := _) rfl (fun h3 => ?_) (fun h3 => ?_)
    ·(repeat (first | refine gO rfl ?_ | ((first | ((with_reducible refine yS ?_); refine awp_keep zK22 100 (uS zM21 ?_)) | ((with_reducible refine yR ?_); refine awp_keep zK22 100 (uR zM21 ?_)) | refine gM zM21 ?_ | (with_reducible refine wM ?_ ?_) | ((with_reducible refine xS ?_); refine awp_keep zK22 100 (uD 1 zM21 zPIE zPIP 120 rfl (by kernel_rfl) ?_))) <;> ((try with_reducible intro K1 hK1); simp only [go_sem, ↓reduceIte, reduceCtorEq, nA, nB, nC, nD, nE, nF, e1, e4, e5, nG, nH, nI] <;> and_intros <;> first | (apply hK1; clear hK1 K1) | (intros; first | omega | decide | (simp_all <;> omega)) | skip))))
     simp only [Tryz.results67, go_sem, ↓reduceIte, reduceCtorEq, nA, nB, nC, nD, nE, nF]
     exact ⟨_, _, Weak.refl _, Hp.le.refl _, by rw [partF_eq, h1, hF, e1, h3]; rfl, rfl⟩
    ·(repeat (first | refine gO rfl ?_ | ((first | ((with_reducible refine yS ?_); refine awp_keep zK22 100 (uS zM21 ?_)) | ((with_reducible refine yR ?_); refine awp_keep zK22 100 (uR zM21 ?_)) | refine gM zM21 ?_ | (with_reducible refine wM ?_ ?_) | ((with_reducible refine xS ?_); refine awp_keep zK22 100 (uD 1 zM21 zPIE zPIP 120 rfl (by kernel_rfl) ?_))) <;> ((try with_reducible intro K1 hK1); simp only [go_sem, ↓reduceIte, reduceCtorEq, nA, nB, nC, nD, nE, nF, e1, e4, e5, nG, nH, nI] <;> and_intros <;> first | (apply hK1; clear hK1 K1) | (intros; first | omega | decide | (simp_all <;> omega)) | skip))))
     refine (a_in2 long 1 3600000 _).mono ?_; rintro _ hz ⟨rfl, hh⟩; refine ⟨rfl, hK1 _ ?_⟩; clear hK1 K1; rw [hh]; clear hh hz
     (repeat (first | refine gO rfl ?_ | ((first | ((with_reducible refine yS ?_); refine awp_keep zK22 100 (uS zM21 ?_)) | ((with_reducible refine yR ?_); refine awp_keep zK22 100 (uR zM21 ?_)) | refine gM zM21 ?_ | (with_reducible refine wM ?_ ?_) | ((with_reducible refine xS ?_); refine awp_keep zK22 100 (uD 1 zM21 zPIE zPIP 120 rfl (by kernel_rfl) ?_))) <;> ((try with_reducible intro K1 hK1); simp only [go_sem, ↓reduceIte, reduceCtorEq, nA, nB, nC, nD, nE, nF, e1, e4, e5, nG, nH, nI] <;> and_intros <;> first | (apply hK1; clear hK1 K1) | (intros; first | omega | decide | (simp_all <;> omega)) | skip))))
     refine awp_cond (t := _) rfl (fun h4 => ?_) (fun h4 => ?_)
     ·(repeat (first | refine gO rfl ?_ | ((first | ((with_reducible refine yS ?_); refine awp_keep zK22 100 (uS zM21 ?_)) | ((with_reducible refine yR ?_); refine awp_keep zK22 100 (uR zM21 ?_)) | refine gM zM21 ?_ | (with_reducible refine wM ?_ ?_) | ((with_reducible refine xS ?_); refine awp_keep zK22 100 (uD 1 zM21 zPIE zPIP 120 rfl (by kernel_rfl) ?_))) <;> ((try with_reducible intro K1 hK1); simp only [go_sem, ↓reduceIte, reduceCtorEq, nA, nB, nC, nD, nE, nF, e1, e4, e5, nG, nH, nI] <;> and_intros <;> first | (apply hK1; clear hK1 K1) | (intros; first | omega | decide | (simp_all <;> omega)) | skip))))
      refine awp_cond (t := _) rfl (fun _ => ?_) (fun h => by rw [h4] at h; cases h)
      (repeat (first | refine gO rfl ?_ | ((first | ((with_reducible refine yS ?_); refine awp_keep zK22 100 (uS zM21 ?_)) | ((with_reducible refine yR ?_); refine awp_keep zK22 100 (uR zM21 ?_)) | refine gM zM21 ?_ | (with_reducible refine wM ?_ ?_) | ((with_reducible refine xS ?_); refine awp_keep zK22 100 (uD 1 zM21 zPIE zPIP 120 rfl (by kernel_rfl) ?_))) <;> ((try with_reducible intro K1 hK1); simp only [go_sem, ↓reduceIte, reduceCtorEq, nA, nB, nC, nD, nE, nF, e1, e4, e5, nG, nH, nI] <;> and_intros <;> first | (apply hK1; clear hK1 K1) | (intros; first | omega | decide | (simp_all <;> omega)) | skip))))
      simp only [Tryz.results67, go_sem, ↓reduceIte, reduceCtorEq, nA, nB, nC, nD, nE, nF]
      exact ⟨_, _, Weak.refl _, Hp.le.refl _, by rw [partF_eq, h1, hF, e1, h3, h4]; rfl, rfl⟩
     ·(repeat (first | refine gO rfl ?_ | ((first | ((with_reducible refine yS ?_); refine awp_keep zK22 100 (uS zM21 ?_)) | ((with_reducible refine yR ?_); refine awp_keep zK22 100 (uR zM21 ?_)) | refine gM zM21 ?_ | (with_reducible refine wM ?_ ?_) | ((with_reducible refine xS ?_); refine awp_keep zK22 100 (uD 1 zM21 zPIE zPIP 120 rfl (by kernel_rfl) ?_))) <;> ((try with_reducible intro K1 hK1); simp only [go_sem, ↓reduceIte, reduceCtorEq, nA, nB, nC, nD, nE, nF, e1, e4, e5, nG, nH, nI] <;> and_intros <;> first | (apply hK1; clear hK1 K1) | (intros; first | omega | decide | (simp_all <;> omega)) | skip))))
      refine ⟨.v (.bool false), rfl, True.intro, hK1 _ ?_⟩; clear hK1 K1
      (repeat (first | refine gO rfl ?_ | ((first | ((with_reducible refine yS ?_); refine awp_keep zK22 100 (uS zM21 ?_)) | ((with_reducible refine yR ?_); refine awp_keep zK22 100 (uR zM21 ?_)) | refine gM zM21 ?_ | (with_reducible refine wM ?_ ?_) | ((with_reducible refine xS ?_); refine awp_keep zK22 100 (uD 1 zM21 zPIE zPIP 120 rfl (by kernel_rfl) ?_))) <;> ((try with_reducible intro K1 hK1); simp only [go_sem, ↓reduceIte, reduceCtorEq, nA, nB, nC, nD, nE, nF, e1, e4, e5, nG, nH, nI] <;> and_intros <;> first | (apply hK1; clear hK1 K1) | (intros; first | omega | decide | (simp_all <;> omega)) | skip))))
      refine awp_cond (t := _) rfl (fun h => by cases h) (fun _ => ?_)
      (repeat (first | refine gO rfl ?_ | ((first | ((with_reducible refine yS ?_); refine awp_keep zK22 100 (uS zM21 ?_)) | ((with_reducible refine yR ?_); refine awp_keep zK22 100 (uR zM21 ?_)) | refine gM zM21 ?_ | (with_reducible refine wM ?_ ?_) | ((with_reducible refine xS ?_); refine awp_keep zK22 100 (uD 1 zM21 zPIE zPIP 120 rfl (by kernel_rfl) ?_))) <;> ((try with_reducible intro K1 hK1); simp only [go_sem, ↓reduceIte, reduceCtorEq, nA, nB, nC, nD, nE, nF, e1, e4, e5, nG, nH, nI] <;> and_intros <;> first | (apply hK1; clear hK1 K1) | (intros; first | omega | decide | (simp_all <;> omega)) | skip))))
      refine (g_shares shares (by omega) _).mono ?_; rintro _ hz ⟨rfl, hh⟩; apply hK1; clear hK1 K1; rw [hh]; clear hh hz
      (repeat (first | refine gO rfl ?_ | ((first | ((with_reducible refine yS ?_); refine awp_keep zK22 100 (uS zM21 ?_)) | ((with_reducible refine yR ?_); refine awp_keep zK22 100 (uR zM21 ?_)) | refine gM zM21 ?_ | (with_reducible refine wM ?_ ?_) | ((with_reducible refine xS ?_); refine awp_keep zK22 100 (uD 1 zM21 zPIE zPIP 120 rfl (by kernel_rfl) ?_))) <;> ((try with_reducible intro K1 hK1); simp only [go_sem, ↓reduceIte, reduceCtorEq, nA, nB, nC, nD, nE, nF, nG, nH, nI] <;> and_intros <;> first | (apply hK1; clear hK1 K1) | (intros; first | omega | decide | (simp_all <;> omega)) | skip))))
      refine awp_cond (t := _) rfl (fun h6 => ?_) (fun h6 => ?_)
      ·(repeat (first | refine gO rfl ?_ | ((first | ((with_reducible refine yS ?_); refine awp_keep zK22 100 (uS zM21 ?_)) | ((with_reducible refine yR ?_); refine awp_keep zK22 100 (uR zM21 ?_)) | refine gM zM21 ?_ | (with_reducible refine wM ?_ ?_) | ((with_reducible refine xS ?_); refine awp_keep zK22 100 (uD 1 zM21 zPIE zPIP 120 rfl (by kernel_rfl) ?_))) <;> ((try with_reducible intro K1 hK1); simp only [go_sem, ↓reduceIte, reduceCtorEq, nA, nB, nC, nD, nE, nF, nG, nH, nI] <;> and_intros <;> first | (apply hK1; clear hK1 K1) | (intros; first | omega | decide | (simp_all <;> omega)) | skip))))
       simp only [Tryz.results67, go_sem, ↓reduceIte, reduceCtorEq, nA, nB, nC, nD, nE, nF]
       exact ⟨_, _, Weak.refl _, Hp.le.refl _, by rw [partF_eq, h1, hF, e1, h3, h4, e5, h6]; rfl, rfl⟩
      ·(repeat (first | refine gO rfl ?_ | ((first | ((with_reducible refine yS ?_); refine awp_keep zK22 100 (uS zM21 ?_)) | ((with_reducible refine yR ?_); refine awp_keep zK22 100 (uR zM21 ?_)) | refine gM zM21 ?_ | (with_reducible refine wM ?_ ?_) | ((with_reducible refine xS ?_); refine awp_keep zK22 100 (uD 1 zM21 zPIE zPIP 120 rfl (by kernel_rfl) ?_))) <;> ((try with_reducible intro K1 hK1); simp only [go_sem, ↓reduceIte, reduceCtorEq, nA, nB, nC, nD, nE, nF, nG, nH, nI] <;> and_intros <;> first | (apply hK1; clear hK1 K1) | (intros; first | omega | decide | (simp_all <;> omega)) | skip))))
       exact ⟨by rw [partF_eq, h1, hF, e1, h3, h4, e5, h6]; rfl, rfl⟩
   ·have hF : formB kind item long many kids.length shares.length = false := by clear hK1 K1; clear b1 b2 b3 b4 b5 b6 b7 b8 c; simp only [formB, bne, Bool.not_eq_true', Bool.not_eq_false'] at *; simp only [*, Bool.not_true, Bool.not_false, Bool.false_and, Bool.true_and, Bool.and_false, Bool.and_true, Bool.false_or, Bool.true_or, Bool.or_true, Bool.or_false]
    refine ⟨.v (.bool false), rfl, True.intro, hK1 _ ?_⟩; clear hK1 K1
    (repeat (first | refine gO rfl ?_ | ((first | ((with_reducible refine yS ?_); refine awp_keep zK22 100 (uS zM21 ?_)) | ((with_reducible refine yR ?_); refine awp_keep zK22 100 (uR zM21 ?_)) | refine gM zM21 ?_ | (with_reducible refine wM ?_ ?_) | ((with_reducible refine xS ?_); refine awp_keep zK22 100 (uD 1 zM21 zPIE zPIP 120 rfl (by kernel_rfl) ?_))) <;> ((try with_reducible intro K1 hK1); simp only [go_sem, ↓reduceIte, reduceCtorEq, nA, nB, nC, nD, nE, nF, e1, e4, e5, nG, nH, nI] <;> and_intros <;> first | (apply hK1; clear hK1 K1) | (intros; first | omega | decide | (simp_all <;> omega)) | skip))))
    refine awp_cond (t := _) rfl (fun h => by cases h) (fun _ => ?_)
    (repeat (first | refine gO rfl ?_ | ((first | ((with_reducible refine yS ?_); refine awp_keep zK22 100 (uS zM21 ?_)) | ((with_reducible refine yR ?_); refine awp_keep zK22 100 (uR zM21 ?_)) | refine gM zM21 ?_ | (with_reducible refine wM ?_ ?_) | ((with_reducible refine xS ?_); refine awp_keep zK22 100 (uD 1 zM21 zPIE zPIP 120 rfl (by kernel_rfl) ?_))) <;> ((try with_reducible intro K1 hK1); simp only [go_sem, ↓reduceIte, reduceCtorEq, nA, nB, nC, nD, nE, nF, e1, e4, e5, nG, nH, nI] <;> and_intros <;> first | (apply hK1; clear hK1 K1) | (intros; first | omega | decide | (simp_all <;> omega)) | skip))))
    refine ⟨.v (.bool false), rfl, True.intro, hK1 _ ?_⟩; clear hK1 K1
    (repeat (first | refine gO rfl ?_ | ((first | ((with_reducible refine yS ?_); refine awp_keep zK22 100 (uS zM21 ?_)) | ((with_reducible refine yR ?_); refine awp_keep zK22 100 (uR zM21 ?_)) | refine gM zM21 ?_ | (with_reducible refine wM ?_ ?_) | ((with_reducible refine xS ?_); refine awp_keep zK22 100 (uD 1 zM21 zPIE zPIP 120 rfl (by kernel_rfl) ?_))) <;> ((try with_reducible intro K1 hK1); simp only [go_sem, ↓reduceIte, reduceCtorEq, nA, nB, nC, nD, nE, nF, e1, e4, e5, nG, nH, nI] <;> and_intros <;> first | (apply hK1; clear hK1 K1) | (intros; first | omega | decide | (simp_all <;> omega)) | skip))))
    refine awp_cond (t := _) rfl (fun h => by cases h) (fun _ => ?_)
    (repeat (first | refine gO rfl ?_ | ((first | ((with_reducible refine yS ?_); refine awp_keep zK22 100 (uS zM21 ?_)) | ((with_reducible refine yR ?_); refine awp_keep zK22 100 (uR zM21 ?_)) | refine gM zM21 ?_ | (with_reducible refine wM ?_ ?_) | ((with_reducible refine xS ?_); refine awp_keep zK22 100 (uD 1 zM21 zPIE zPIP 120 rfl (by kernel_rfl) ?_))) <;> ((try with_reducible intro K1 hK1); simp only [go_sem, ↓reduceIte, reduceCtorEq, nA, nB, nC, nD, nE, nF, e1, e4, e5, nG, nH, nI] <;> and_intros <;> first | (apply hK1; clear hK1 K1) | (intros; first | omega | decide | (simp_all <;> omega)) | skip))))
    refine ⟨.v (.bool false), rfl, True.intro, hK1 _ ?_⟩; clear hK1 K1
    (repeat (first | refine gO rfl ?_ | ((first | ((with_reducible refine yS ?_); refine awp_keep zK22 100 (uS zM21 ?_)) | ((with_reducible refine yR ?_); refine awp_keep zK22 100 (uR zM21 ?_)) | refine gM zM21 ?_ | (with_reducible refine wM ?_ ?_) | ((with_reducible refine xS ?_); refine awp_keep zK22 100 (uD 1 zM21 zPIE zPIP 120 rfl (by kernel_rfl) ?_))) <;> ((try with_reducible intro K1 hK1); simp only [go_sem, ↓reduceIte, reduceCtorEq, nA, nB, nC, nD, nE, nF, e1, e4, e5, nG, nH, nI] <;> and_intros <;> first | (apply hK1; clear hK1 K1) | (intros; first | omega | decide | (simp_all <;> omega)) | skip))))
    refine awp_cond (t := _) rfl (fun h => by cases h) (fun _ => ?_)
    (repeat (first | refine gO rfl ?_ | ((first | ((with_reducible refine yS ?_); refine awp_keep zK22 100 (uS zM21 ?_)) | ((with_reducible refine yR ?_); refine awp_keep zK22 100 (uR zM21 ?_)) | refine gM zM21 ?_ | (with_reducible refine wM ?_ ?_) | ((with_reducible refine xS ?_); refine awp_keep zK22 100 (uD 1 zM21 zPIE zPIP 120 rfl (by kernel_rfl) ?_))) <;> ((try with_reducible intro K1 hK1); simp only [go_sem, ↓reduceIte, reduceCtorEq, nA, nB, nC, nD, nE, nF, e1, e4, e5, nG, nH, nI] <;> and_intros <;> first | (apply hK1; clear hK1 K1) | (intros; first | omega | decide | (simp_all <;> omega)) | skip))))
    refine (g_shares shares (by omega) _).mono ?_; rintro _ hz ⟨rfl, hh⟩; apply hK1; clear hK1 K1; rw [hh]; clear hh hz
    (repeat (first | refine gO rfl ?_ | ((first | ((with_reducible refine yS ?_); refine awp_keep zK22 100 (uS zM21 ?_)) | ((with_reducible refine yR ?_); refine awp_keep zK22 100 (uR zM21 ?_)) | refine gM zM21 ?_ | (with_reducible refine wM ?_ ?_) | ((with_reducible refine xS ?_); refine awp_keep zK22 100 (uD 1 zM21 zPIE zPIP 120 rfl (by kernel_rfl) ?_))) <;> ((try with_reducible intro K1 hK1); simp only [go_sem, ↓reduceIte, reduceCtorEq, nA, nB, nC, nD, nE, nF, nG, nH, nI] <;> and_intros <;> first | (apply hK1; clear hK1 K1) | (intros; first | omega | decide | (simp_all <;> omega)) | skip))))
    refine awp_cond (t := _) rfl (fun h6 => ?_) (fun h6 => ?_)
    ·(repeat (first | refine gO rfl ?_ | ((first | ((with_reducible refine yS ?_); refine awp_keep zK22 100 (uS zM21 ?_)) | ((with_reducible refine yR ?_); refine awp_keep zK22 100 (uR zM21 ?_)) | refine gM zM21 ?_ | (with_reducible refine wM ?_ ?_) | ((with_reducible refine xS ?_); refine awp_keep zK22 100 (uD 1 zM21 zPIE zPIP 120 rfl (by kernel_rfl) ?_))) <;> ((try with_reducible intro K1 hK1); simp only [go_sem, ↓reduceIte, reduceCtorEq, nA, nB, nC, nD, nE, nF, nG, nH, nI] <;> and_intros <;> first | (apply hK1; clear hK1 K1) | (intros; first | omega | decide | (simp_all <;> omega)) | skip))))
     simp only [Tryz.results67, go_sem, ↓reduceIte, reduceCtorEq, nA, nB, nC, nD, nE, nF]
     exact ⟨_, _, Weak.refl _, Hp.le.refl _, by rw [partF_eq, h1, hF, e1, e5, h6]; rfl, rfl⟩
    ·(repeat (first | refine gO rfl ?_ | ((first | ((with_reducible refine yS ?_); refine awp_keep zK22 100 (uS zM21 ?_)) | ((with_reducible refine yR ?_); refine awp_keep zK22 100 (uR zM21 ?_)) | refine gM zM21 ?_ | (with_reducible refine wM ?_ ?_) | ((with_reducible refine xS ?_); refine awp_keep zK22 100 (uD 1 zM21 zPIE zPIP 120 rfl (by kernel_rfl) ?_))) <;> ((try with_reducible intro K1 hK1); simp only [go_sem, ↓reduceIte, reduceCtorEq, nA, nB, nC, nD, nE, nF, nG, nH, nI] <;> and_intros <;> first | (apply hK1; clear hK1 K1) | (intros; first | omega | decide | (simp_all <;> omega)) | skip))))
     exact ⟨by rw [partF_eq, h1, hF, e1, e5, h6]; rfl, rfl⟩
   ·have hF : formB kind item long many kids.length shares.length = false := by clear hK1 K1; clear b1 b2 b3 b4 b5 b6 b7 b8 c; simp only [formB, bne, Bool.not_eq_true', Bool.not_eq_false'] at *; simp only [*, Bool.not_true, Bool.not_false, Bool.false_and, Bool.true_and, Bool.and_false, Bool.and_true, Bool.false_or, Bool.true_or, Bool.or_true, Bool.or_false]
    refine ⟨.v (.bool false), rfl, True.intro, hK1 _ ?_⟩; clear hK1 K1
    (repeat (first | refine gO rfl ?_ | ((first | ((with_reducible refine yS ?_); refine awp_keep zK22 100 (uS zM21 ?_)) | ((with_reducible refine yR ?_); refine awp_keep zK22 100 (uR zM21 ?_)) | refine gM zM21 ?_ | (with_reducible refine wM ?_ ?_) | ((with_reducible refine xS ?_); refine awp_keep zK22 100 (uD 1 zM21 zPIE zPIP 120 rfl (by kernel_rfl) ?_))) <;> ((try with_reducible intro K1 hK1); simp only [go_sem, ↓reduceIte, reduceCtorEq, nA, nB, nC, nD, nE, nF, e1, e4, e5, nG, nH, nI] <;> and_intros <;> first | (apply hK1; clear hK1 K1) | (intros; first | omega | decide | (simp_all <;> omega)) | skip))))
    refine awp_cond (t := _) rfl (fun h => by cases h) (fun _ => ?_)
    (repeat (first | refine gO rfl ?_ | ((first | ((with_reducible refine yS ?_); refine awp_keep zK22 100 (uS zM21 ?_)) | ((with_reducible refine yR ?_); refine awp_keep zK22 100 (uR zM21 ?_)) | refine gM zM21 ?_ | (with_reducible refine wM ?_ ?_) | ((with_reducible refine xS ?_); refine awp_keep zK22 100 (uD 1 zM21 zPIE zPIP 120 rfl (by kernel_rfl) ?_))) <;> ((try with_reducible intro K1 hK1); simp only [go_sem, ↓reduceIte, reduceCtorEq, nA, nB, nC, nD, nE, nF, e1, e4, e5, nG, nH, nI] <;> and_intros <;> first | (apply hK1; clear hK1 K1) | (intros; first | omega | decide | (simp_all <;> omega)) | skip))))
    refine ⟨.v (.bool false), rfl, True.intro, hK1 _ ?_⟩; clear hK1 K1
    (repeat (first | refine gO rfl ?_ | ((first | ((with_reducible refine yS ?_); refine awp_keep zK22 100 (uS zM21 ?_)) | ((with_reducible refine yR ?_); refine awp_keep zK22 100 (uR zM21 ?_)) | refine gM zM21 ?_ | (with_reducible refine wM ?_ ?_) | ((with_reducible refine xS ?_); refine awp_keep zK22 100 (uD 1 zM21 zPIE zPIP 120 rfl (by kernel_rfl) ?_))) <;> ((try with_reducible intro K1 hK1); simp only [go_sem, ↓reduceIte, reduceCtorEq, nA, nB, nC, nD, nE, nF, e1, e4, e5, nG, nH, nI] <;> and_intros <;> first | (apply hK1; clear hK1 K1) | (intros; first | omega | decide | (simp_all <;> omega)) | skip))))
    refine awp_cond (t := _) rfl (fun h => by cases h) (fun _ => ?_)
    (repeat (first | refine gO rfl ?_ | ((first | ((with_reducible refine yS ?_); refine awp_keep zK22 100 (uS zM21 ?_)) | ((with_reducible refine yR ?_); refine awp_keep zK22 100 (uR zM21 ?_)) | refine gM zM21 ?_ | (with_reducible refine wM ?_ ?_) | ((with_reducible refine xS ?_); refine awp_keep zK22 100 (uD 1 zM21 zPIE zPIP 120 rfl (by kernel_rfl) ?_))) <;> ((try with_reducible intro K1 hK1); simp only [go_sem, ↓reduceIte, reduceCtorEq, nA, nB, nC, nD, nE, nF, e1, e4, e5, nG, nH, nI] <;> and_intros <;> first | (apply hK1; clear hK1 K1) | (intros; first | omega | decide | (simp_all <;> omega)) | skip))))
    refine (a_in2 many 1 100 _).mono ?_; rintro _ hz ⟨rfl, hh⟩; refine ⟨rfl, hK1 _ ?_⟩; clear hK1 K1; rw [hh]; clear hh hz
    (repeat (first | refine gO rfl ?_ | ((first | ((with_reducible refine yS ?_); refine awp_keep zK22 100 (uS zM21 ?_)) | ((with_reducible refine yR ?_); refine awp_keep zK22 100 (uR zM21 ?_)) | refine gM zM21 ?_ | (with_reducible refine wM ?_ ?_) | ((with_reducible refine xS ?_); refine awp_keep zK22 100 (uD 1 zM21 zPIE zPIP 120 rfl (by kernel_rfl) ?_))) <;> ((try with_reducible intro K1 hK1); simp only [go_sem, ↓reduceIte, reduceCtorEq, nA, nB, nC, nD, nE, nF, e1, e4, e5, nG, nH, nI] <;> and_intros <;> first | (apply hK1; clear hK1 K1) | (intros; first | omega | decide | (simp_all <;> omega)) | skip))))
    refine awp_cond (t := _) rfl (fun h4 => ?_) (fun h4 => ?_)
    ·(repeat (first | refine gO rfl ?_ | ((first | ((with_reducible refine yS ?_); refine awp_keep zK22 100 (uS zM21 ?_)) | ((with_reducible refine yR ?_); refine awp_keep zK22 100 (uR zM21 ?_)) | refine gM zM21 ?_ | (with_reducible refine wM ?_ ?_) | ((with_reducible refine xS ?_); refine awp_keep zK22 100 (uD 1 zM21 zPIE zPIP 120 rfl (by kernel_rfl) ?_))) <;> ((try with_reducible intro K1 hK1); simp only [go_sem, ↓reduceIte, reduceCtorEq, nA, nB, nC, nD, nE, nF, e1, e4, e5, nG, nH, nI] <;> and_intros <;> first | (apply hK1; clear hK1 K1) | (intros; first | omega | decide | (simp_all <;> omega)) | skip))))
     simp only [Tryz.results67, go_sem, ↓reduceIte, reduceCtorEq, nA, nB, nC, nD, nE, nF]
     exact ⟨_, _, Weak.refl _, Hp.le.refl _, by rw [partF_eq, h1, hF, e1, e5, h4]; rfl, rfl⟩
    ·(repeat (first | refine gO rfl ?_ | ((first | ((with_reducible refine yS ?_); refine awp_keep zK22 100 (uS zM21 ?_)) | ((with_reducible refine yR ?_); refine awp_keep zK22 100 (uR zM21 ?_)) | refine gM zM21 ?_ | (with_reducible refine wM ?_ ?_) | ((with_reducible refine xS ?_); refine awp_keep zK22 100 (uD 1 zM21 zPIE zPIP 120 rfl (by kernel_rfl) ?_))) <;> ((try with_reducible intro K1 hK1); simp only [go_sem, ↓reduceIte, reduceCtorEq, nA, nB, nC, nD, nE, nF, e1, e4, e5, nG, nH, nI] <;> and_intros <;> first | (apply hK1; clear hK1 K1) | (intros; first | omega | decide | (simp_all <;> omega)) | skip))))
     refine (g_shares shares (by omega) _).mono ?_; rintro _ hz ⟨rfl, hh⟩; apply hK1; clear hK1 K1; rw [hh]; clear hh hz
     (repeat (first | refine gO rfl ?_ | ((first | ((with_reducible refine yS ?_); refine awp_keep zK22 100 (uS zM21 ?_)) | ((with_reducible refine yR ?_); refine awp_keep zK22 100 (uR zM21 ?_)) | refine gM zM21 ?_ | (with_reducible refine wM ?_ ?_) | ((with_reducible refine xS ?_); refine awp_keep zK22 100 (uD 1 zM21 zPIE zPIP 120 rfl (by kernel_rfl) ?_))) <;> ((try with_reducible intro K1 hK1); simp only [go_sem, ↓reduceIte, reduceCtorEq, nA, nB, nC, nD, nE, nF, nG, nH, nI] <;> and_intros <;> first | (apply hK1; clear hK1 K1) | (intros; first | omega | decide | (simp_all <;> omega)) | skip))))
     refine awp_cond (t := _) rfl (fun h6 => ?_) (fun h6 => ?_)
     ·(repeat (first | refine gO rfl ?_ | ((first | ((with_reducible refine yS ?_); refine awp_keep zK22 100 (uS zM21 ?_)) | ((with_reducible refine yR ?_); refine awp_keep zK22 100 (uR zM21 ?_)) | refine gM zM21 ?_ | (with_reducible refine wM ?_ ?_) | ((with_reducible refine xS ?_); refine awp_keep zK22 100 (uD 1 zM21 zPIE zPIP 120 rfl (by kernel_rfl) ?_))) <;> ((try with_reducible intro K1 hK1); simp only [go_sem, ↓reduceIte, reduceCtorEq, nA, nB, nC, nD, nE, nF, nG, nH, nI] <;> and_intros <;> first | (apply hK1; clear hK1 K1) | (intros; first | omega | decide | (simp_all <;> omega)) | skip))))
      simp only [Tryz.results67, go_sem, ↓reduceIte, reduceCtorEq, nA, nB, nC, nD, nE, nF]
      exact ⟨_, _, Weak.refl _, Hp.le.refl _, by rw [partF_eq, h1, hF, e1, e5, h4, h6]; rfl, rfl⟩
     ·(repeat (first | refine gO rfl ?_ | ((first | ((with_reducible refine yS ?_); refine awp_keep zK22 100 (uS zM21 ?_)) | ((with_reducible refine yR ?_); refine awp_keep zK22 100 (uR zM21 ?_)) | refine gM zM21 ?_ | (with_reducible refine wM ?_ ?_) | ((with_reducible refine xS ?_); refine awp_keep zK22 100 (uD 1 zM21 zPIE zPIP 120 rfl (by kernel_rfl) ?_))) <;> ((try with_reducible intro K1 hK1); simp only [go_sem, ↓reduceIte, reduceCtorEq, nA, nB, nC, nD, nE, nF, nG, nH, nI] <;> and_intros <;> first | (apply hK1; clear hK1 K1) | (intros; first | omega | decide | (simp_all <;> omega)) | skip))))
      exact ⟨by rw [partF_eq, h1, hF, e1, e5, h4, h6]; rfl, rfl⟩
   ·have hF : formB kind item long many kids.length shares.length = false := by clear hK1 K1; clear b1 b2 b3 b4 b5 b6 b7 b8 c; simp only [formB, bne, Bool.not_eq_true', Bool.not_eq_false'] at *; simp only [*, Bool.not_true, Bool.not_false, Bool.false_and, Bool.true_and, Bool.and_false, Bool.and_true, Bool.false_or, Bool.true_or, Bool.or_true, Bool.or_false]
    refine ⟨.v (.bool false), rfl, True.intro, hK1 _ ?_⟩; clear hK1 K1
    (repeat (first | refine gO rfl ?_ | ((first | ((with_reducible refine yS ?_); refine awp_keep zK22 100 (uS zM21 ?_)) | ((with_reducible refine yR ?_); refine awp_keep zK22 100 (uR zM21 ?_)) | refine gM zM21 ?_ | (with_reducible refine wM ?_ ?_) | ((with_reducible refine xS ?_); refine awp_keep zK22 100 (uD 1 zM21 zPIE zPIP 120 rfl (by kernel_rfl) ?_))) <;> ((try with_reducible intro K1 hK1); simp only [go_sem, ↓reduceIte, reduceCtorEq, nA, nB, nC, nD, nE, nF, e1, e4, e5, nG, nH, nI] <;> and_intros <;> first | (apply hK1; clear hK1 K1) | (intros; first | omega | decide | (simp_all <;> omega)) | skip))))
    refine awp_cond (t := _) rfl (fun h => by cases h) (fun _ => ?_)
    (repeat (first | refine gO rfl ?_ | ((first | ((with_reducible refine yS ?_); refine awp_keep zK22 100 (uS zM21 ?_)) | ((with_reducible refine yR ?_); refine awp_keep zK22 100 (uR zM21 ?_)) | refine gM zM21 ?_ | (with_reducible refine wM ?_ ?_) | ((with_reducible refine xS ?_); refine awp_keep zK22 100 (uD 1 zM21 zPIE zPIP 120 rfl (by kernel_rfl) ?_))) <;> ((try with_reducible intro K1 hK1); simp only [go_sem, ↓reduceIte, reduceCtorEq, nA, nB, nC, nD, nE, nF, e1, e4, e5, nG, nH, nI] <;> and_intros <;> first | (apply hK1; clear hK1 K1) | (intros; first | omega | decide | (simp_all <;> omega)) | skip))))
    refine ⟨.v (.bool false), rfl, True.intro, hK1 _ ?_⟩; clear hK1 K1
    (repeat (first | refine gO rfl ?_ | ((first | ((with_reducible refine yS ?_); refine awp_keep zK22 100 (uS zM21 ?_)) | ((with_reducible refine yR ?_); refine awp_keep zK22 100 (uR zM21 ?_)) | refine gM zM21 ?_ | (with_reducible refine wM ?_ ?_) | ((with_reducible refine xS ?_); refine awp_keep zK22 100 (uD 1 zM21 zPIE zPIP 120 rfl (by kernel_rfl) ?_))) <;> ((try with_reducible intro K1 hK1); simp only [go_sem, ↓reduceIte, reduceCtorEq, nA, nB, nC, nD, nE, nF, e1, e4, e5, nG, nH, nI] <;> and_intros <;> first | (apply hK1; clear hK1 K1) | (intros; first | omega | decide | (simp_all <;> omega)) | skip))))
    refine awp_cond (t := _) rfl (fun h => by cases h) (fun _ => ?_)
    (repeat (first | refine gO rfl ?_ | ((first | ((with_reducible refine yS ?_); refine awp_keep zK22 100 (uS zM21 ?_)) | ((with_reducible refine yR ?_); refine awp_keep zK22 100 (uR zM21 ?_)) | refine gM zM21 ?_ | (with_reducible refine wM ?_ ?_) | ((with_reducible refine xS ?_); refine awp_keep zK22 100 (uD 1 zM21 zPIE zPIP 120 rfl (by kernel_rfl) ?_))) <;> ((try with_reducible intro K1 hK1); simp only [go_sem, ↓reduceIte, reduceCtorEq, nA, nB, nC, nD, nE, nF, e1, e4, e5, nG, nH, nI] <;> and_intros <;> first | (apply hK1; clear hK1 K1) | (intros; first | omega | decide | (simp_all <;> omega)) | skip))))
    refine ⟨.v (.bool false), rfl, True.intro, hK1 _ ?_⟩; clear hK1 K1
    (repeat (first | refine gO rfl ?_ | ((first | ((with_reducible refine yS ?_); refine awp_keep zK22 100 (uS zM21 ?_)) | ((with_reducible refine yR ?_); refine awp_keep zK22 100 (uR zM21 ?_)) | refine gM zM21 ?_ | (with_reducible refine wM ?_ ?_) | ((with_reducible refine xS ?_); refine awp_keep zK22 100 (uD 1 zM21 zPIE zPIP 120 rfl (by kernel_rfl) ?_))) <;> ((try with_reducible intro K1 hK1); simp only [go_sem, ↓reduceIte, reduceCtorEq, nA, nB, nC, nD, nE, nF, e1, e4, e5, nG, nH, nI] <;> and_intros <;> first | (apply hK1; clear hK1 K1) | (intros; first | omega | decide | (simp_all <;> omega)) | skip))))
    refine awp_cond (t := _) rfl (fun h => by cases h) (fun _ => ?_)
    (repeat (first | refine gO rfl ?_ | ((first | ((with_reducible refine yS ?_); refine awp_keep zK22 100 (uS zM21 ?_)) | ((with_reducible refine yR ?_); refine awp_keep zK22 100 (uR zM21 ?_)) | refine gM zM21 ?_ | (with_reducible refine wM ?_ ?_) | ((with_reducible refine xS ?_); refine awp_keep zK22 100 (uD 1 zM21 zPIE zPIP 120 rfl (by kernel_rfl) ?_))) <;> ((try with_reducible intro K1 hK1); simp only [go_sem, ↓reduceIte, reduceCtorEq, nA, nB, nC, nD, nE, nF, e1, e4, e5, nG, nH, nI] <;> and_intros <;> first | (apply hK1; clear hK1 K1) | (intros; first | omega | decide | (simp_all <;> omega)) | skip))))
    refine (g_shares shares (by omega) _).mono ?_; rintro _ hz ⟨rfl, hh⟩; apply hK1; clear hK1 K1; rw [hh]; clear hh hz
    (repeat (first | refine gO rfl ?_ | ((first | ((with_reducible refine yS ?_); refine awp_keep zK22 100 (uS zM21 ?_)) | ((with_reducible refine yR ?_); refine awp_keep zK22 100 (uR zM21 ?_)) | refine gM zM21 ?_ | (with_reducible refine wM ?_ ?_) | ((with_reducible refine xS ?_); refine awp_keep zK22 100 (uD 1 zM21 zPIE zPIP 120 rfl (by kernel_rfl) ?_))) <;> ((try with_reducible intro K1 hK1); simp only [go_sem, ↓reduceIte, reduceCtorEq, nA, nB, nC, nD, nE, nF, nG, nH, nI] <;> and_intros <;> first | (apply hK1; clear hK1 K1) | (intros; first | omega | decide | (simp_all <;> omega)) | skip))))
    refine awp_cond (t := _) rfl (fun h6 => ?_) (fun h6 => ?_)
    ·(repeat (first | refine gO rfl ?_ | ((first | ((with_reducible refine yS ?_); refine awp_keep zK22 100 (uS zM21 ?_)) | ((with_reducible refine yR ?_); refine awp_keep zK22 100 (uR zM21 ?_)) | refine gM zM21 ?_ | (with_reducible refine wM ?_ ?_) | ((with_reducible refine xS ?_); refine awp_keep zK22 100 (uD 1 zM21 zPIE zPIP 120 rfl (by kernel_rfl) ?_))) <;> ((try with_reducible intro K1 hK1); simp only [go_sem, ↓reduceIte, reduceCtorEq, nA, nB, nC, nD, nE, nF, nG, nH, nI] <;> and_intros <;> first | (apply hK1; clear hK1 K1) | (intros; first | omega | decide | (simp_all <;> omega)) | skip))))
     simp only [Tryz.results67, go_sem, ↓reduceIte, reduceCtorEq, nA, nB, nC, nD, nE, nF]
     exact ⟨_, _, Weak.refl _, Hp.le.refl _, by rw [partF_eq, h1, hF, e1, e5, h6]; rfl, rfl⟩
    ·(repeat (first | refine gO rfl ?_ | ((first | ((with_reducible refine yS ?_); refine awp_keep zK22 100 (uS zM21 ?_)) | ((with_reducible refine yR ?_); refine awp_keep zK22 100 (uR zM21 ?_)) | refine gM zM21 ?_ | (with_reducible refine wM ?_ ?_) | ((with_reducible refine xS ?_); refine awp_keep zK22 100 (uD 1 zM21 zPIE zPIP 120 rfl (by kernel_rfl) ?_))) <;> ((try with_reducible intro K1 hK1); simp only [go_sem, ↓reduceIte, reduceCtorEq, nA, nB, nC, nD, nE, nF, nG, nH, nI] <;> and_intros <;> first | (apply hK1; clear hK1 K1) | (intros; first | omega | decide | (simp_all <;> omega)) | skip))))
     exact ⟨by rw [partF_eq, h1, hF, e1, e5, h6]; rfl, rfl⟩
  ·rintro _ ⟨hpf, rfl⟩
   (repeat (first | refine gO rfl ?_ | ((first | ((with_reducible refine yS ?_); refine awp_keep zK22 100 (uS zM21 ?_)) | ((with_reducible refine yR ?_); refine awp_keep zK22 100 (uR zM21 ?_)) | refine gM zM21 ?_ | (with_reducible refine wM ?_ ?_) | ((with_reducible refine xS ?_); refine awp_keep zK22 100 (uD 1 zM21 zPIE zPIP 120 rfl (by kernel_rfl) ?_))) <;> ((try with_reducible intro K1 hK1); simp only [go_sem, ↓reduceIte, reduceCtorEq, nA, nB, nC, nD, nE, nF, nG, nH, nI] <;> and_intros <;> first | (apply hK1; clear hK1 K1) | (intros; first | omega | decide | (simp_all <;> omega)) | skip))))
   refine awp_loopC (rl false [108, 3, 9]) 0 (fun g s => ∃ j : Nat, g + j = kids.length ∧ firstNZ ((kids.map partF).take j) = 0 ∧
    s = ⟨((jnk 108 ((.row 6 (kids.map encL) none) :: (.v (.int .i64 kids.length)) :: (.v (.int .i64 j)) :: (jnk 9 [])))), [], h0⟩) kids.length ⟨0, by omega, rfl, rfl⟩ ?_
   rintro g _ ⟨j, hj, hnz, rfl⟩
   (repeat (first | refine gO rfl ?_ | ((first | ((with_reducible refine yS ?_); refine awp_keep zK22 100 (uS zM21 ?_)) | ((with_reducible refine yR ?_); refine awp_keep zK22 100 (uR zM21 ?_)) | refine gM zM21 ?_ | (with_reducible refine wM ?_ ?_) | ((with_reducible refine xS ?_); refine awp_keep zK22 100 (uD 1 zM21 zPIE zPIP 120 rfl (by kernel_rfl) ?_))) <;> ((try with_reducible intro K1 hK1); simp only [go_sem, ↓reduceIte, reduceCtorEq, nA, nB, nC, nD, nE, nF, nG, nH, nI] <;> and_intros <;> first | (apply hK1; clear hK1 K1) | (intros; first | omega | decide | (simp_all <;> omega)) | skip))))
   refine awp_cond (t := _) rfl (fun h6 => ?_) (fun h6 => ?_)
   ·simp only [decide_eq_true_eq] at h6
    have hjk : j < kids.length := by omega
    have hg : (kids.map encL).getD j [] = encL (kids.getD j default) := getD_enc encL kids j default hjk
    have hmem := getD_mem' kids j default hjk
    have hbt := b8 _ hmem
    have hgp : (kids.map partF)[j]? = some (partF (kids.getD j default)) := by rw [List.getElem?_map, List.getElem?_eq_getElem hjk, List.getD_eq_getElem?_getD, List.getElem?_eq_getElem hjk]; rfl
    have e1 : (kids.map partF).take (j + 1) = (kids.map partF).take j ++ [partF (kids.getD j default)] := by rw [List.take_add_one, hgp]; rfl
    generalize kids.getD j default = t2 at hg hmem hbt hgp e1
    have hlen := encL_len t2
    have htk : List.take 6 (encL t2) = encL t2 := List.take_of_length_le (Nat.le_of_eq hlen)
    have hdr : List.drop 6 (encL t2) = [] := List.drop_of_length_le (Nat.le_of_eq hlen)
    (repeat (first | refine gO rfl ?_ | ((first | ((with_reducible refine yS ?_); refine awp_keep zK22 100 (uS zM21 ?_)) | ((with_reducible refine yR ?_); refine awp_keep zK22 100 (uR zM21 ?_)) | refine gM zM21 ?_ | (with_reducible refine wM ?_ ?_) | ((with_reducible refine xS ?_); refine awp_keep zK22 100 (uD 1 zM21 zPIE zPIP 120 rfl (by kernel_rfl) ?_))) <;> ((try with_reducible intro K1 hK1); simp only [go_sem, ↓reduceIte, reduceCtorEq, nA, nB, nC, nD, nE, nF, Int.toNat_natCast, hg, hlen, htk, hdr, nG, nH, nI] <;> and_intros <;> first | (apply hK1; clear hK1 K1) | (intros; first | omega | decide | (simp_all <;> omega)) | skip))))
    refine (g_part22 d t2 h0 hbt).mono ?_; rintro _ hz ⟨rfl, hh⟩; apply hK1; clear hK1 K1; rw [hh]; clear hh hz
    (repeat (first | refine gO rfl ?_ | ((first | ((with_reducible refine yS ?_); refine awp_keep zK22 100 (uS zM21 ?_)) | ((with_reducible refine yR ?_); refine awp_keep zK22 100 (uR zM21 ?_)) | refine gM zM21 ?_ | (with_reducible refine wM ?_ ?_) | ((with_reducible refine xS ?_); refine awp_keep zK22 100 (uD 1 zM21 zPIE zPIP 120 rfl (by kernel_rfl) ?_))) <;> ((try with_reducible intro K1 hK1); simp only [go_sem, ↓reduceIte, reduceCtorEq, nA, nB, nC, nD, nE, nF, nG, nH, nI] <;> and_intros <;> first | (apply hK1; clear hK1 K1) | (intros; first | omega | decide | (simp_all <;> omega)) | skip))))
    refine awp_cond (t := _) rfl (fun h7 => ?_) (fun h7 => ?_)
    ·(repeat (first | refine gO rfl ?_ | ((first | ((with_reducible refine yS ?_); refine awp_keep zK22 100 (uS zM21 ?_)) | ((with_reducible refine yR ?_); refine awp_keep zK22 100 (uR zM21 ?_)) | refine gM zM21 ?_ | (with_reducible refine wM ?_ ?_) | ((with_reducible refine xS ?_); refine awp_keep zK22 100 (uD 1 zM21 zPIE zPIP 120 rfl (by kernel_rfl) ?_))) <;> ((try with_reducible intro K1 hK1); simp only [go_sem, ↓reduceIte, reduceCtorEq, nA, nB, nC, nD, nE, nF, nG, nH, nI] <;> and_intros <;> first | (apply hK1; clear hK1 K1) | (intros; first | omega | decide | (simp_all <;> omega)) | skip))))
     simp only [Tryz.results67, go_sem, ↓reduceIte, reduceCtorEq, nA, nB, nC, nD, nE, nF]
     exact ⟨_, _, Weak.refl _, Hp.le.refl _, by rw [hpf, firstNZ_pre _ j _ hgp (by simpa using h7) hnz], rfl⟩
    ·(repeat (first | refine gO rfl ?_ | ((first | ((with_reducible refine yS ?_); refine awp_keep zK22 100 (uS zM21 ?_)) | ((with_reducible refine yR ?_); refine awp_keep zK22 100 (uR zM21 ?_)) | refine gM zM21 ?_ | (with_reducible refine wM ?_ ?_) | ((with_reducible refine xS ?_); refine awp_keep zK22 100 (uD 1 zM21 zPIE zPIP 120 rfl (by kernel_rfl) ?_))) <;> ((try with_reducible intro K1 hK1); simp only [go_sem, ↓reduceIte, reduceCtorEq, nA, nB, nC, nD, nE, nF, nG, nH, nI] <;> and_intros <;> first | (apply hK1; clear hK1 K1) | (intros; first | omega | decide | (simp_all <;> omega)) | skip))))
     refine ⟨g - 1, by omega, j + 1, by omega, ?_, rfl⟩
     rw [e1, firstNZ_app, if_pos hnz]
     simpa using h7
   ·simp only [decide_eq_false_iff_not] at h6
    have hjk : j = kids.length := by omega
    rw [List.take_of_length_le (by simp; omega)] at hnz
    (repeat (first | refine gO rfl ?_ | ((first | ((with_reducible refine yS ?_); refine awp_keep zK22 100 (uS zM21 ?_)) | ((with_reducible refine yR ?_); refine awp_keep zK22 100 (uR zM21 ?_)) | refine gM zM21 ?_ | (with_reducible refine wM ?_ ?_) | ((with_reducible refine xS ?_); refine awp_keep zK22 100 (uD 1 zM21 zPIE zPIP 120 rfl (by kernel_rfl) ?_))) <;> ((try with_reducible intro K1 hK1); simp only [go_sem, ↓reduceIte, reduceCtorEq, nA, nB, nC, nD, nE, nF, nG, nH, nI] <;> and_intros <;> first | (apply hK1; clear hK1 K1) | (intros; first | omega | decide | (simp_all <;> omega)) | skip))))
    simp only [Tryz.results67, go_sem, ↓reduceIte, reduceCtorEq, nA, nB, nC, nD, nE, nF]
    exact ⟨_, _, Weak.refl _, Hp.le.refl _, by rw [hpf, hnz], rfl⟩
def oMany (m : Int) : AO := .cells [.v (.int .i64 m)]
theorem sum_take_le (kids : List LT) (f : LT → Int) (hf : ∀ x ∈ kids, 0 ≤ f x) (j : Nat) : ((kids.take j).map f).sum ≤ (kids.map f).sum := by
 have e : (kids.map f).sum = ((kids.take j).map f).sum + ((kids.drop j).map f).sum := by rw [← List.sum_append, ← List.map_append, List.take_append_drop]
 have : ∀ l : List LT, (∀ x ∈ l, 0 ≤ f x) → 0 ≤ (l.map f).sum := fun l => by
  induction l with
  | nil => simp
  | cons x l ih => intro h; have h1 := h x (by simp); have h2 := ih fun y hy => h y (by simp [hy]); simp only [List.map_cons, List.sum_cons]; omega
 have := this (kids.drop j) fun x hx => hf x (List.mem_of_mem_drop hx)
 omega
theorem max_take (kids : List LT) (f : LT → Int) : ∀ (j : Nat) (_ : j < kids.length), f (kids.getD j default) ≤ (kids.map f).foldl max 0 := by
 have key : ∀ (l : List LT) (a : Int) (j : Nat), j < l.length → a ≤ (l.map f).foldl max a ∧ f (l.getD j default) ≤ (l.map f).foldl max a := by
  intro l
  induction l with
  | nil => intro a j h; simp at h
  | cons x l ih =>
   intro a j h
   simp only [List.map_cons, List.foldl_cons]
   have mono : ∀ (l : List Int) (a : Int), a ≤ l.foldl max a := fun l => by
    induction l with
    | nil => intro a; exact Int.le_refl _
    | cons y l ih => intro a; have := ih (max a y); simp only [List.foldl_cons]; omega
   cases j with
   | zero => have := mono (l.map f) (max a (f x)); simp only [List.getD_cons_zero]; omega
   | succ j => have := ih (max a (f x)) j (by simpa using h); simp only [List.getD_cons_succ]; omega
 exact fun j hj => (key kids 0 j hj).2
def LargeR (t : LT) (deep m : Int) (h : Hp) (i : Nat) (r : AV) (h' : Hp) : Prop :=
 ∃ (b : Bool) (m' : Int), r = .v (.bool b) ∧ h' = { h with H := upd h.H i (some (oMany m')) } ∧ (b = true → 200 < m + manyF t ∨ 12 < deep + deepF t - 1) ∧ (b = false → m + manyF t ≤ 200 ∧ deep + deepF t - 1 ≤ 12 ∧ m' = m + manyF t)
theorem g_large : ∀ (d : Nat) (t : LT) (h : Hp) (i : Nat) (m deep : Int), KC d t → manyF t ≤ 1000000000000000 ∧ d ≤ 1000 → (0 ≤ m ∧ m ≤ 200) → (0 ≤ deep ∧ deep ≤ 1000) → h.H i = some (oMany m) →
  ACalls Tryz.prog 127 [.ptr i 0, .agg (encL t), .v (.int .i64 deep)] h (LargeR t deep m h i)
 | 0, _, _, _, _, _, hb, _, _, _, _ => hb.elim
 | d + 1, t, h, i, m, deep, hb, hd, hm, hdp, hi => by
  cases t with
  | mk kind item long many kids shares =>
  obtain ⟨b1, b2, b3, b4, b5, b6, b7, b8⟩ := id hb
  have hi' : h.H i = some (.cells [.v (.int .i64 m)]) := hi
  have hpos : ∀ x ∈ kids, 1 ≤ manyF x ∧ 1 ≤ deepF x := fun x hx => by have := size_bd d x (b8 x hx); omega
  refine gE Tryz.func127 rfl (by kernel_rfl) 24 rfl fun c => ?_
  rw [encL_eq]
  (repeat (first | refine gO rfl ?_ | (refine gR fun K1 hK1 => ?_; simp only [go_sem, ↓reduceIte, reduceCtorEq, nA, nB, nC, nD, nE, nF, hi'] <;> and_intros <;> first | (apply hK1; clear hK1 K1) | (intros; first | omega | decide | (simp_all <;> omega)) | skip)))
  refine awp_cond (t := _) rfl (fun h1 => ?_) (fun h1 => ?_)
  ·(repeat (first | refine gO rfl ?_ | (refine gR fun K1 hK1 => ?_; simp only [go_sem, ↓reduceIte, reduceCtorEq, nA, nB, nC, nD, nE, nF, hi'] <;> and_intros <;> first | (apply hK1; clear hK1 K1) | (intros; first | omega | decide | (simp_all <;> omega)) | skip)))
   simp only [Tryz.results127, go_sem, ↓reduceIte, reduceCtorEq, nA, nB, nC, nD, nE, nF]
   simp only [Bool.or_eq_true, decide_eq_true_eq] at h1
   have hs := sum_bd manyF 0 (Int.le_refl _) ([] : List LT) (by simp)
   have hd1 := size_bd (d + 1) _ hb
   refine ⟨_, _, Weak.refl _, Hp.le.refl _, true, m + 1, rfl, rfl, fun _ => ?_, fun h => by cases h⟩
   rw [manyF_eq, deepF_eq] at *
   have h2 := sum_take_le kids manyF (fun x hx => by have := hpos x hx; omega) 0
   have h3 := max_bd deepF 1000 kids 0 (by omega) fun x hx => by have := size_bd d x (b8 x hx); omega
   simp only [List.take_zero, List.map_nil, List.sum_nil] at h2
   omega
  ·(repeat (first | refine gO rfl ?_ | (refine gR fun K1 hK1 => ?_; simp only [go_sem, ↓reduceIte, reduceCtorEq, nA, nB, nC, nD, nE, nF, hi'] <;> and_intros <;> first | (apply hK1; clear hK1 K1) | (intros; first | omega | decide | (simp_all <;> omega)) | skip)))
   simp only [Bool.or_eq_false_iff, decide_eq_false_iff_not] at h1
   refine (g_contains41 172 [.ref [.ptr i 0] 0, .ref [.v (.int .i64 deep)] 0] (kids.map encL) (fun j hj => ?_) (by simp; omega)
    (fun j h' => h' = { h with H := upd h.H i (some (oMany (m + 1 + ((kids.take j).map manyF).sum))) } ∧ m + 1 + ((kids.take j).map manyF).sum ≤ 200 ∧ (((kids.take j).map deepF).foldl max 0 + deep ≤ 12))
    (fun j h' => ∃ m', h' = { h with H := upd h.H i (some (oMany m')) } ∧ (200 < m + 1 + ((kids.take (j + 1)).map manyF).sum ∨ 12 < deep + deepF (kids.getD j default)))
    _ ⟨by simp; rfl, by simp; omega, by simp; omega⟩ ?_).mono ?_
   ·have hj' : j < kids.length := by simpa using hj
    rw [show (kids.map encL).getD j [] = encL (kids.getD j default) from getD_enc encL kids j default hj']
    exact encL_len _
   ·rintro j h' hj ⟨rfl, hs1, hs2⟩
    have hjk : j < kids.length := by simpa using hj
    rw [show (kids.map encL).getD j [] = encL (kids.getD j default) from getD_enc encL kids j default hjk]
    have hmem := getD_mem' kids j default hjk
    have e1 := take_succ_map manyF kids j hjk
    have e2 := take_succ_map deepF kids j hjk
    have hbt := b8 _ hmem
    have hp2 := hpos _ hmem
    have h0 := many_take (kids := kids) (fun x hx => by have := hpos x hx; omega) j
    have hmk := many_kid (kids := kids) (fun x hx => by have := hpos x hx; omega) hmem
    have hd1 := hd.1
    rw [manyF_eq] at hd1
    rw [e1, List.sum_append]
    have hl42 : ∀ t2, KC d t2 → manyF t2 ≤ 1000000000000000 → ACalls Tryz.prog 172 [aggOf (encL t2), .ref [.ptr i 0] 0, .ref [.v (.int .i64 deep)] 0] { h with H := upd h.H i (some (oMany (m + 1 + ((kids.take j).map manyF).sum))) } (LargeR t2 (deep + 1) (m + 1 + ((kids.take j).map manyF).sum) h i) := fun t2 ht2 hm2 => by
     have hlen := encL_len t2
     have htk : List.take 6 (encL t2) = encL t2 := List.take_of_length_le (Nat.le_of_eq hlen)
     unfold aggOf
     refine gE Tryz.func172 rfl (by kernel_rfl) 7 rfl fun c => ?_
     (repeat (first | refine gO rfl ?_ | (refine gR fun K1 hK1 => ?_; simp only [go_sem, ↓reduceIte, reduceCtorEq, nA, nB, nC, nD, nE, nF, hlen, htk] <;> and_intros <;> first | (apply hK1; clear hK1 K1) | (intros; first | omega | decide | (simp_all <;> omega)) | skip)))
     refine (g_large d t2 _ i _ (deep + 1) ht2 ⟨hm2, by omega⟩ (by omega) (by omega) (upd_same _ _ _)).mono ?_
     rintro _ _ ⟨b, m', rfl, rfl, hb1, hb2⟩
     refine hK1 _ ?_; clear hK1 K1
     (repeat (first | refine gO rfl ?_ | (refine gR fun K1 hK1 => ?_; simp only [go_sem, ↓reduceIte, reduceCtorEq, nA, nB, nC, nD, nE, nF] <;> and_intros <;> first | (apply hK1; clear hK1 K1) | (intros; first | omega | decide | (simp_all <;> omega)) | skip)))
     simp only [Tryz.results172, go_sem, ↓reduceIte, reduceCtorEq, nA, nB, nC, nD, nE, nF]
     exact ⟨_, _, Weak.refl _, Hp.le.refl _, b, m', rfl, by simp only [upd_upd], hb1, hb2⟩
    refine (hl42 _ hbt (by omega)).mono ?_
    rintro _ _ ⟨b, m', rfl, rfl, hb1, hb2⟩
    refine ⟨b, rfl, fun hb => ⟨m', rfl, ?_⟩, fun hb => ?_⟩
    ·have := hb1 hb
     simp only [List.sum_cons, List.sum_nil]
     omega
    ·obtain ⟨h6, h7, rfl⟩ := hb2 hb
     rw [e2, List.foldl_append]
     simp only [List.sum_cons, List.sum_nil, List.foldl_cons, List.foldl_nil, Int.add_zero]
     exact ⟨by rw [Int.add_assoc (m + 1)], by omega, by omega⟩
   ·rintro _ h' (⟨j, hj, rfl, m', rfl, hP⟩ | ⟨rfl, rfl, hs1, hs2⟩)
    ·have hjk : j < kids.length := by simpa using hj
     refine hK1 _ ?_; clear hK1 K1
     (repeat (first | refine gO rfl ?_ | (refine gR fun K1 hK1 => ?_; simp only [go_sem, ↓reduceIte, reduceCtorEq, nA, nB, nC, nD, nE, nF] <;> and_intros <;> first | (apply hK1; clear hK1 K1) | (intros; first | omega | decide | (simp_all <;> omega)) | skip)))
     simp only [Tryz.results127, go_sem, ↓reduceIte, reduceCtorEq, nA, nB, nC, nD, nE, nF]
     refine ⟨_, _, Weak.refl _, Hp.le.refl _, true, m', rfl, rfl, fun _ => ?_, fun h => by cases h⟩
     rw [manyF_eq, deepF_eq]
     have h2 := sum_take_le kids manyF (fun x hx => by have := hpos x hx; omega) (j + 1)
     have h3 := max_take kids deepF j hjk
     omega
    ·refine hK1 _ ?_; clear hK1 K1
     (repeat (first | refine gO rfl ?_ | (refine gR fun K1 hK1 => ?_; simp only [go_sem, ↓reduceIte, reduceCtorEq, nA, nB, nC, nD, nE, nF] <;> and_intros <;> first | (apply hK1; clear hK1 K1) | (intros; first | omega | decide | (simp_all <;> omega)) | skip)))
     simp only [Tryz.results127, go_sem, ↓reduceIte, reduceCtorEq, nA, nB, nC, nD, nE, nF]
     simp only [List.length_map, List.take_length] at hs1 hs2 ⊢
     refine ⟨_, _, Weak.refl _, Hp.le.refl _, false, _, rfl, rfl, fun h => (by cases h), fun _ => ?_⟩
     rw [manyF_eq, deepF_eq]
     omega
def faultF (t : LT) : Int := if 200 < manyF t ∨ 12 < deepF t then 2 else partF t
theorem g_fault6 (d : Nat) (t : LT) (h0 : Hp) (hb : KC d t) (hd : manyF t ≤ 1000000000000000 ∧ d ≤ 1000) : ACalls Tryz.prog 10 [.agg (encL t)] h0 (fun r h' => r = .v (.int .i64 (faultF t)) ∧ h' = h0) := by
 have hlen := encL_len t
 have htk : List.take 6 (encL t) = encL t := List.take_of_length_le (Nat.le_of_eq hlen)
 refine gE Tryz.func10 rfl (by kernel_rfl) 17 rfl fun c => ?_
 (repeat (first | refine gO rfl ?_ | (refine gR fun K1 hK1 => ?_; simp only [go_sem, ↓reduceIte, reduceCtorEq, nA, nB, nC, nD, nE, nF, hlen, htk] <;> and_intros <;> first | (apply hK1; clear hK1 K1) | (intros; first | omega | decide | (simp_all <;> omega)) | skip)))
 refine (g_size d t h0 hb hd).mono ?_; rintro _ hz ⟨rfl, hh⟩; apply hK1; clear hK1 K1; rw [hh]; clear hh hz
 (repeat (first | refine gO rfl ?_ | (refine gR fun K1 hK1 => ?_; simp only [go_sem, ↓reduceIte, reduceCtorEq, nA, nB, nC, nD, nE, nF, hlen, htk] <;> and_intros <;> first | (apply hK1; clear hK1 K1) | (intros; first | omega | decide | (simp_all <;> omega)) | skip)))
 refine awp_cond (t := _) rfl (fun h1 => ?_) (fun h1 => ?_)
 ·(repeat (first | refine gO rfl ?_ | (refine gR fun K1 hK1 => ?_; simp only [go_sem, ↓reduceIte, reduceCtorEq, nA, nB, nC, nD, nE, nF, hlen, htk] <;> and_intros <;> first | (apply hK1; clear hK1 K1) | (intros; first | omega | decide | (simp_all <;> omega)) | skip)))
  simp only [Tryz.results10, go_sem, ↓reduceIte, reduceCtorEq, nA, nB, nC, nD, nE, nF]
  exact ⟨_, _, Weak.refl _, Hp.le.refl _, by rw [faultF, if_pos (by simpa using h1)], rfl⟩
 ·(repeat (first | refine gO rfl ?_ | (refine gR fun K1 hK1 => ?_; simp only [go_sem, ↓reduceIte, reduceCtorEq, nA, nB, nC, nD, nE, nF, hlen, htk] <;> and_intros <;> first | (apply hK1; clear hK1 K1) | (intros; first | omega | decide | (simp_all <;> omega)) | skip)))
  refine (g_part22 d t h0 hb).mono ?_; rintro _ hz ⟨rfl, hh⟩; apply hK1; clear hK1 K1; rw [hh]; clear hh hz
  (repeat (first | refine gO rfl ?_ | (refine gR fun K1 hK1 => ?_; simp only [go_sem, ↓reduceIte, reduceCtorEq, nA, nB, nC, nD, nE, nF] <;> and_intros <;> first | (apply hK1; clear hK1 K1) | (intros; first | omega | decide | (simp_all <;> omega)) | skip)))
  simp only [Tryz.results10, go_sem, ↓reduceIte, reduceCtorEq, nA, nB, nC, nD, nE, nF]
  exact ⟨_, _, Weak.refl _, Hp.le.refl _, by rw [faultF, if_neg (by simp at h1; omega)], rfl⟩
theorem g_check7 (d : Nat) (t : LT) (h0 : Hp) (hb : KC d t) (hd : manyF t ≤ 1000000000000000 ∧ d ≤ 1000) : ACalls Tryz.prog 70 [.agg (encL t)] h0 (fun r h' => r = .v (.int .i64 (faultF t)) ∧ h' = h0) := by
 have hlen := encL_len t
 have htk : List.take 6 (encL t) = encL t := List.take_of_length_le (Nat.le_of_eq hlen)
 have hz := size_bd d t hb
 refine gE Tryz.func70 rfl (by kernel_rfl) 8 rfl fun c => ?_
 (repeat (first | refine gO rfl ?_ | (refine gM zM22 fun K1 hK1 => ?_; simp only [go_sem, ↓reduceIte, reduceCtorEq, nA, nB, nC, nD, nE, nF, hlen, htk] <;> and_intros <;> first | (apply hK1; clear hK1 K1) | (intros; first | omega | decide | (simp_all <;> omega)) | skip)))
 intro i hi
 and_intros <;> first | (refine hK1 _ ?_; clear hK1 K1) | exact .inl trivial | exact .inr rfl | exact .inr True.intro | exact True.intro | omega
 (repeat (first | refine gO rfl ?_ | (refine gM zM22 fun K1 hK1 => ?_; simp only [go_sem, ↓reduceIte, reduceCtorEq, nA, nB, nC, nD, nE, nF, hlen, htk] <;> and_intros <;> first | (apply hK1; clear hK1 K1) | (intros; first | omega | decide | (simp_all <;> omega)) | skip)))
 refine (g_large d t _ i 0 1 hb hd (by omega) (by omega) (upd_same _ _ _)).mono ?_
 rintro _ _ ⟨b, m', rfl, rfl, hb1, hb2⟩
 refine hK1 _ ?_; clear hK1 K1
 (repeat (first | refine gO rfl ?_ | (refine gM zM22 fun K1 hK1 => ?_; simp only [go_sem, ↓reduceIte, reduceCtorEq, nA, nB, nC, nD, nE, nF, hlen, htk] <;> and_intros <;> first | (apply hK1; clear hK1 K1) | (intros; first | omega | decide | (simp_all <;> omega)) | skip)))
 have hle : Hp.le h0 { H := upd h0.H i (some (oMany m')), T := h0.T } := ⟨fun j => by
  by_cases hj : j = i
  ·rw [hj]; exact .inl hi
  ·exact .inr (upd_other _ _ hj).symm, fun _ => .inr rfl⟩
 refine awp_cond (t := _) rfl (fun h1 => ?_) (fun h1 => ?_)
 ·(repeat (first | refine gO rfl ?_ | (refine gM zM22 fun K1 hK1 => ?_; simp only [go_sem, ↓reduceIte, reduceCtorEq, nA, nB, nC, nD, nE, nF, hlen, htk] <;> and_intros <;> first | (apply hK1; clear hK1 K1) | (intros; first | omega | decide | (simp_all <;> omega)) | skip)))
  simp only [Tryz.results70, go_sem, ↓reduceIte, reduceCtorEq, nA, nB, nC, nD, nE, nF]
  exact ⟨_, h0, Weak.refl _, by simpa using hle, by rw [faultF, if_pos (by have := hb1 h1; omega)], rfl⟩
 ·(repeat (first | refine gO rfl ?_ | (refine gM zM22 fun K1 hK1 => ?_; simp only [go_sem, ↓reduceIte, reduceCtorEq, nA, nB, nC, nD, nE, nF, hlen, htk] <;> and_intros <;> first | (apply hK1; clear hK1 K1) | (intros; first | omega | decide | (simp_all <;> omega)) | skip)))
  refine (g_part24 d t _ hb).mono ?_; rintro _ hz ⟨rfl, hh⟩; apply hK1; clear hK1 K1; rw [hh]; clear hh hz
  (repeat (first | refine gO rfl ?_ | (refine gM zM22 fun K1 hK1 => ?_; simp only [go_sem, ↓reduceIte, reduceCtorEq, nA, nB, nC, nD, nE, nF] <;> and_intros <;> first | (apply hK1; clear hK1 K1) | (intros; first | omega | decide | (simp_all <;> omega)) | skip)))
  simp only [Tryz.results70, go_sem, ↓reduceIte, reduceCtorEq, nA, nB, nC, nD, nE, nF]
  exact ⟨_, h0, Weak.refl _, by simpa using hle, by rw [faultF, if_neg (by have := hb2 h1; omega)], rfl⟩
abbrev zPJE : List Nat := [0, 1, 2, 3, 4]
abbrev zPJP : List (Nat × List Nat × List Nat) := []
attribute [go_sem] zPJE zPJP
noncomputable def roundC (d : Nat) (t : LT) : List AV := [.v (.int .i64 (roundN d t : Nat)), .row 2 ((roundS d t).map encStep) none, .v (.int .i64 ((roundS d t).map (·.2)).sum)]
theorem roundS_some {d : Nat} {t : LT} {N : Nat} (h : RoundIs d t N) : roundS d t = (passesU d t N).2 ∧ roundE d t = 0 ∧ roundN d t = N := by
 have e := roundN_some h
 have h1 := h.1.1
 exact ⟨by rw [roundS, if_neg (by omega), e], by rw [roundE, if_neg (by omega)], e⟩
theorem roundS_none {d : Nat} {t : LT} (e : roundN d t = 0) : roundS d t = [] ∧ roundE d t = 2 := ⟨by rw [roundS, if_pos e], by rw [roundE, if_pos e]⟩
theorem roundC_none {d : Nat} {t : LT} (e : roundN d t = 0) : roundC d t = [.v (.int .i64 0), .row 2 [] none, .v (.int .i64 0)] := by
 rw [roundC, e, (roundS_none e).1]; rfl
theorem passesU_len (d : Nat) (t : LT) (j : Nat) : (passesU d t (j + 1)).2.length = (passesU d t j).2.length + (passU d t (passesU d t j).1).2.length := by simp only [passesU, List.length_append]
theorem sum_bdS (xs : List (ByteArray × Int)) (h : ∀ x ∈ xs, 1 ≤ x.2 ∧ x.2 ≤ 3600000) : 0 ≤ (xs.map (·.2)).sum ∧ (xs.map (·.2)).sum ≤ xs.length * 3600000 := by
 induction xs with
 | nil => simp
 | cons y l ih => have := h y (by simp); have := ih fun z hz => h z (by simp [hz]); simp only [List.map_cons, List.sum_cons, List.length_cons]; omega
theorem Weak.tup3 {a a' b b' c c' : AV} (ha : Weak a a') (hb : Weak b b') (hc : Weak c c') : Weak (.tup [a, b, c]) (.tup [a', b', c']) := fun G v hr => by
 cases hr with
 | tup _ vs u hl hu hr =>
  refine .tup _ vs u (by simpa using hl) (fun j hj => hu j (by simpa using hj)) (fun j hj => ?_)
  rcases j with _ | _ | _ | j
  ·exact ha G _ (hr 0 (by simp))
  ·exact hb G _ (hr 1 (by simp))
  ·exact hc G _ (hr 2 (by simp))
  ·simp only [List.length_cons, List.length_nil] at hj; omega
theorem g_roundP (d : Nat) (t : LT) (h : Hp) (hb : KC d t) (hv : VL d t) (hil : IL d t) : ACalls Tryz.prog 75 [.agg (encL t)] h (fun r _ => r = .tup [.agg (roundC d t), .v (.int .i64 (roundE d t))]) := by
 have hlen := encL_len t
 have htk : List.take 6 (encL t) = encL t := List.take_of_length_le (Nat.le_of_eq hlen)
 have hdk : List.drop 6 (encL t) = [] := List.drop_of_length_le (Nat.le_of_eq hlen)
 refine gE Tryz.func75 rfl (by kernel_rfl) 56 rfl fun c => ?_
 (repeat (first | refine gQ rfl ?_ | (refine gM zM23 fun K1 hK1 => ?_; simp only [go_sem, ↓reduceIte, reduceCtorEq, nA, nB, nC, nD, nE, nF, hlen, htk, hdk] <;> and_intros <;> first | (apply hK1; clear hK1 K1) | (intros; first | omega | decide | (simp_all <;> omega)) | skip)))
 refine (g_newPart d t h hb).mono ?_
 rintro _ h1 ⟨a, rfl, hR, hS, hn1, hn2, hk1, hk2⟩
 refine hK1 _ ?_; clear hK1 K1
 first | refine gO rfl ?_ | (refine gM zM23 fun K1 hK1 => ?_; simp only [go_sem, ↓reduceIte, reduceCtorEq, nA, nB, nC, nD, nE, nF] <;> and_intros <;> first | (apply hK1; clear hK1 K1) | (intros; first | omega | decide | (simp_all <;> omega)) | skip)
 intro o ho
 refine hK1 _ ?_; clear hK1 K1
 refine vRem_nil ?_
 refine awp_ownPtr (cs := [.v (.slice none 0 0), .v (.int .i64 5000)]) o 0 2 (upd_same _ _ _) rfl (fun k hk => ?_)
 simp only [List.set_cons_zero, upd_upd]
 replace hk : h1.T k = none := hk
 replace ho : h1.H o = none := ho
 have hoa : o ∉ idsT a := fun hx => hR.ne.1 o hx ho
 have hka : k ∉ toksT a := fun hx => hR.ne.2 k hx hk
 have hok := passesU_ok d t hv
 (repeat (first | refine gQ rfl ?_ | (refine gM zM23 fun K1 hK1 => ?_; simp only [go_sem, ↓reduceIte, reduceCtorEq, nA, nB, nC, nD, nE, nF] <;> and_intros <;> first | (apply hK1; clear hK1 K1) | (intros; first | omega | decide | (simp_all <;> omega)) | skip)))
 refine awp_seq ?_
 refine awp_block ?_
 refine awp_loopC (rl false [2, 1, 1, 3, 50]) 2 (fun g s => ∃ (j : Nat) (h2 : Hp), g + j = 5001 ∧ (passesU d t j).2.length ≤ 5000 ∧ (∀ n, 1 ≤ n → n < j → homeF d t (passesU d t n).1 = false) ∧ RAt XP h2 d t a (passesU d t j).1 ∧ OutAt h2 o k oEx (passesU d t j).2 ∧
  s = ⟨(AV.junk :: AV.junk :: ((.loc 0 0) :: AV.junk :: ((.ptr a.id 0) :: (.ptr o 0) :: (.loc 1 0) :: (jnk 50 [])))), [[.v (.int .i64 0), .v (.slice none 0 0), .v (.int .i64 0)], [.v (.int .i64 j), .v (.slice none 0 0), .v (.int .i64 0)]], h2⟩) 5001 ⟨0, _, by omega, by simp [passesU], fun n h1 h2 => by omega, hR.frame (fun i hi => upd_other _ _ (fun e => hoa (by subst e; exact hi))) (fun c hc => upd_other _ _ (fun e => hka (by subst e; exact hc))), ⟨upd_same _ _ _, upd_same _ _ _⟩, rfl⟩ ?_
 rintro g _ ⟨j, h2, hj, hlj, hnh, hR2, hO2, rfl⟩
 have hj5 : j ≤ 5000 := by have := (hok j).2.2; omega
 (repeat (first | refine gQ rfl ?_ | (refine gM zM23 fun K1 hK1 => ?_; simp only [go_sem, ↓reduceIte, reduceCtorEq, nA, nB, nC, nD, nE, nF] <;> and_intros <;> first | (apply hK1; clear hK1 K1) | (intros; first | omega | decide | (simp_all <;> omega)) | skip)))
 refine awp_seq ?_
 refine awp_join (rl false [2, 1, 1, 3, 50]) 2 (fun s => (∀ n, 1 ≤ n → n ≤ j → homeF d t (passesU d t n).1 = false) ∧ s = ⟨(AV.junk :: AV.junk :: ((.loc 0 0) :: AV.junk :: ((.ptr a.id 0) :: (.ptr o 0) :: (.loc 1 0) :: (jnk 50 [])))), [[.v (.int .i64 0), .v (.slice none 0 0), .v (.int .i64 0)], [.v (.int .i64 j), .v (.slice none 0 0), .v (.int .i64 0)]], h2⟩) ?_ ?_
 ·by_cases hj0 : j = 0
  ·have e0 : ((j : Int) == 0) = true := by simp; omega
   (repeat (first | refine gO rfl ?_ | (refine gM zM23 fun K1 hK1 => ?_; simp only [go_sem, ↓reduceIte, reduceCtorEq, nA, nB, nC, nD, nE, nF, e0] <;> and_intros <;> first | (apply hK1; clear hK1 K1) | (intros; first | omega | decide | (simp_all <;> omega)) | skip)))
   refine ⟨.v (.bool true), rfl, hK1 _ ?_⟩; clear hK1 K1
   (repeat (first | refine gO rfl ?_ | (refine gM zM23 fun K1 hK1 => ?_; simp only [go_sem, ↓reduceIte, reduceCtorEq, nA, nB, nC, nD, nE, nF, e0] <;> and_intros <;> first | (apply hK1; clear hK1 K1) | (intros; first | omega | decide | (simp_all <;> omega)) | skip)))
   refine awp_cond (t := _) rfl (fun _ => ?_) (fun h => by cases h)
   (repeat (first | refine gO rfl ?_ | (refine gM zM23 fun K1 hK1 => ?_; simp only [go_sem, ↓reduceIte, reduceCtorEq, nA, nB, nC, nD, nE, nF] <;> and_intros <;> first | (apply hK1; clear hK1 K1) | (intros; first | omega | decide | (simp_all <;> omega)) | skip)))
   exact ⟨fun n h1 h2 => by omega, rfl⟩
  ·have e0 : ((j : Int) == 0) = false := by simp; omega
   (repeat (first | refine gO rfl ?_ | (refine gM zM23 fun K1 hK1 => ?_; simp only [go_sem, ↓reduceIte, reduceCtorEq, nA, nB, nC, nD, nE, nF, e0] <;> and_intros <;> first | (apply hK1; clear hK1 K1) | (intros; first | omega | decide | (simp_all <;> omega)) | skip)))
   refine (g_beginsG d t a _ h2 hv hR2 ((hok j).1.mono (by omega))).mono ?_; rintro _ hz ⟨rfl, hh⟩; refine ⟨rfl, hK1 _ ?_⟩; clear hK1 K1; rw [hh]; clear hh hz
   (repeat (first | refine gO rfl ?_ | (refine gM zM23 fun K1 hK1 => ?_; simp only [go_sem, ↓reduceIte, reduceCtorEq, nA, nB, nC, nD, nE, nF, e0] <;> and_intros <;> first | (apply hK1; clear hK1 K1) | (intros; first | omega | decide | (simp_all <;> omega)) | skip)))
   cases eh : homeF d t (passesU d t j).1 with
   | true =>
    have hri : RoundIs d t j := ⟨by omega, hlj, eh, hnh⟩
    obtain ⟨r1, r2, r3⟩ := roundS_some hri
    have hlong := passes_long hil j
    have hO20 : h2.H o = some (.cells [.row 2 ((passesU d t j).2.map encStep) (some k), .v (.int .i64 5000)]) := hO2.1
    have hrc : roundC d t = [.v (.int .i64 j), .row 2 ((passesU d t j).2.map encStep) none, .v (.int .i64 ((passesU d t j).2.map (·.2)).sum)] := by rw [roundC, r1, r3]
    rw [hrc, r2]
    refine awp_cond (t := _) rfl (fun h => by cases h) (fun _ => ?_)
    generalize (passesU d t j).2 = xs at *
    (repeat (first | refine gQ rfl ?_ | (refine gM zM23 fun K1 hK1 => ?_; simp only [go_sem, ↓reduceIte, reduceCtorEq, nA, nB, nC, nD, nE, nF, hO20] <;> and_intros <;> first | (apply hK1; clear hK1 K1) | (intros; first | omega | decide | (simp_all <;> omega)) | skip)))
    refine awp_seq ?_
    (repeat (first | refine gO rfl ?_ | (refine gM zM23 fun K1 hK1 => ?_; simp only [go_sem, ↓reduceIte, reduceCtorEq, nA, nB, nC, nD, nE, nF] <;> and_intros <;> first | (apply hK1; clear hK1 K1) | (intros; first | omega | decide | (simp_all <;> omega)) | skip)))
    refine awp_loopC (rl false [2, 1, 3, 1, 36, 3, 11]) 2 (fun g s => ∃ m : Nat, g + m = xs.length ∧ s = ⟨(AV.junk :: AV.junk :: ((.loc 0 0) :: (jnk 3 ((.loc 1 0) :: (jnk 36 ((.row 2 (xs.map encStep) (some k)) :: (.v (.int .i64 xs.length)) :: (.v (.int .i64 m)) :: (jnk 11 []))))))),
     [[.v (.int .i64 0), .v (.slice none 0 0), .v (.int .i64 0)], [.v (.int .i64 j), .row 2 (xs.map encStep) (some k), .v (.int .i64 ((xs.map (·.2)).take m).sum)]], h2⟩) xs.length ⟨0, by omega, rfl⟩ ?_
    rintro g2 _ ⟨m, hm, rfl⟩
    have hsb : 0 ≤ ((xs.map (·.2)).take m).sum ∧ ((xs.map (·.2)).take m).sum ≤ 5000 * 3600000 := by
     have h9 := sum_bdS (xs.take m) fun x hx => hlong x (List.mem_of_mem_take hx)
     rw [← List.map_take]
     have h10 : ((xs.take m).length : Int) ≤ 5000 := by simp; omega
     omega
    (repeat (first | refine gO rfl ?_ | (refine gM zM23 fun K1 hK1 => ?_; simp only [go_sem, ↓reduceIte, reduceCtorEq, nA, nB, nC, nD, nE, nF] <;> and_intros <;> first | (apply hK1; clear hK1 K1) | (intros; first | omega | decide | (simp_all <;> omega)) | skip)))
    refine awp_cond (t := _) rfl (fun h9 => ?_) (fun h9 => ?_)
    ·simp only [decide_eq_true_eq] at h9
     have hmx : m < xs.length := by omega
     have hgx : (xs.map encStep).getD m [] = encStep (xs.getD m default) := getD_enc encStep xs m default hmx
     have hxb := hlong _ (getD_mem' xs m default hmx)
     have e9 : ((xs.map (·.2)).take (m + 1)).sum = ((xs.map (·.2)).take m).sum + (xs.getD m default).2 := by
      rw [sum_take_succ _ _ (by simpa using hmx)]
      congr 1
      rw [List.getD_eq_getElem?_getD, List.getD_eq_getElem?_getD, List.getElem?_map, List.getElem?_eq_getElem hmx]; rfl
     generalize xs.getD m default = y at hgx hxb e9
     (repeat (first | refine gO rfl ?_ | (refine gM zM23 fun K1 hK1 => ?_; simp only [go_sem, ↓reduceIte, reduceCtorEq, nA, nB, nC, nD, nE, nF, Int.toNat_natCast, hgx, encStep] <;> and_intros <;> first | (apply hK1; clear hK1 K1) | (intros; first | omega | decide | (simp_all <;> omega)) | skip)))
     refine ⟨g2 - 1, by omega, m + 1, by omega, ?_⟩
     rw [e9]; rfl
    ·simp only [decide_eq_false_iff_not] at h9
     have hmx : m = xs.length := by omega
     rw [List.take_of_length_le (by simp; omega)] at hsb ⊢
     (repeat (first | refine gO rfl ?_ | (refine gM zM23 fun K1 hK1 => ?_; simp only [go_sem, ↓reduceIte, reduceCtorEq, nA, nB, nC, nD, nE, nF] <;> and_intros <;> first | (apply hK1; clear hK1 K1) | (intros; first | omega | decide | (simp_all <;> omega)) | skip)))
     simp only [Tryz.results75, go_sem, ↓reduceIte, reduceCtorEq, nA, nB, nC, nD, nE, nF]
     refine ⟨_, _, Weak.tup1 (Weak.agg (.cons (Weak.refl _) (.cons (Weak.row _ _ _) (.cons (Weak.refl _) .nil)))) (Weak.refl _), Hp.le.refl _, rfl⟩
   | false =>
    refine awp_cond (t := _) rfl (fun _ => ?_) (fun h => by cases h)
    (repeat (first | refine gO rfl ?_ | (refine gM zM23 fun K1 hK1 => ?_; simp only [go_sem, ↓reduceIte, reduceCtorEq, nA, nB, nC, nD, nE, nF] <;> and_intros <;> first | (apply hK1; clear hK1 K1) | (intros; first | omega | decide | (simp_all <;> omega)) | skip)))
    exact ⟨fun n h1 h2 => by
     by_cases e : n = j
     ·rw [e]; exact eh
     ·exact hnh n h1 (by omega), rfl⟩
 ·rintro _ ⟨hnh2, rfl⟩
  (repeat (first | refine gO rfl ?_ | (refine gM zM23 fun K1 hK1 => ?_; simp only [go_sem, ↓reduceIte, reduceCtorEq, nA, nB, nC, nD, nE, nF] <;> and_intros <;> first | (apply hK1; clear hK1 K1) | (intros; first | omega | decide | (simp_all <;> omega)) | skip)))
  refine (g_passP d t a _ h2 o k _ hv hR2 hS (hok j).1 hO2 hoa (by omega)).mono ?_
  rintro r h6 ⟨rfl, s2, out2, hR6, hO6, _, q1, q2, q3⟩
  have e5 := passesU_len d t j
  refine hK1 _ ?_; clear hK1 K1
  (repeat (first | refine gO rfl ?_ | (refine gM zM23 fun K1 hK1 => ?_; simp only [go_sem, ↓reduceIte, reduceCtorEq, nA, nB, nC, nD, nE, nF] <;> and_intros <;> first | (apply hK1; clear hK1 K1) | (intros; first | omega | decide | (simp_all <;> omega)) | skip)))
  refine (g_full28 o k h6 _ hO6).mono ?_; rintro _ hz ⟨rfl, hh⟩; apply hK1; clear hK1 K1; rw [hh]; clear hh hz
  by_cases hl6 : (passesU d t (j + 1)).2.length ≤ 5000
  ·obtain ⟨rfl, rfl⟩ := q2 hlj (by omega)
   have hj6 : j + 1 ≤ 5000 := by have := (hok (j + 1)).2.2; omega
   have hnf : decide ((5000 : Int) < ((passesU d t j).2 ++ (passU d t (passesU d t j).1).2).length) = false := by simp only [decide_eq_false_iff_not, List.length_append]; omega
   have hnf2 : decide ((5000 : Int) < (j : Int) + 1) = false := by simp only [decide_eq_false_iff_not]; omega
   (repeat (first | refine gO rfl ?_ | (refine gM zM23 fun K1 hK1 => ?_; simp only [go_sem, ↓reduceIte, reduceCtorEq, nA, nB, nC, nD, nE, nF, hnf, hnf2] <;> and_intros <;> first | (apply hK1; clear hK1 K1) | (intros; first | omega | decide | (simp_all <;> omega)) | skip)))
   refine awp_cond (t := _) rfl (fun h => by cases h) (fun _ => ?_)
   (repeat (first | refine gO rfl ?_ | (refine gM zM23 fun K1 hK1 => ?_; simp only [go_sem, ↓reduceIte, reduceCtorEq, nA, nB, nC, nD, nE, nF] <;> and_intros <;> first | (apply hK1; clear hK1 K1) | (intros; first | omega | decide | (simp_all <;> omega)) | skip)))
   exact ⟨g - 1, by omega, j + 1, h6, by omega, hl6, fun n h1 h2 => hnh2 n h1 (by omega), hR6, hO6, rfl⟩
  ·obtain ⟨z1, _⟩ := q3 hlj (by omega)
   have hr0 : roundN d t = 0 := round_long (j := j) (by omega) hnh2
   have hnf : decide ((5000 : Int) < out2.length) = true := by simp only [decide_eq_true_eq]; omega
   rw [roundC_none hr0, (roundS_none hr0).2]
   (repeat (first | refine gO rfl ?_ | (refine gM zM23 fun K1 hK1 => ?_; simp only [go_sem, ↓reduceIte, reduceCtorEq, nA, nB, nC, nD, nE, nF, hnf] <;> and_intros <;> first | (apply hK1; clear hK1 K1) | (intros; first | omega | decide | (simp_all <;> omega)) | skip)))
   refine awp_cond (t := _) rfl (fun _ => ?_) (fun h => by cases h)
   (repeat (first | refine gO rfl ?_ | (refine gM zM23 fun K1 hK1 => ?_; simp only [go_sem, ↓reduceIte, reduceCtorEq, nA, nB, nC, nD, nE, nF] <;> and_intros <;> first | (apply hK1; clear hK1 K1) | (intros; first | omega | decide | (simp_all <;> omega)) | skip)))
   simp only [Tryz.results75, go_sem, ↓reduceIte, reduceCtorEq, nA, nB, nC, nD, nE, nF]
   refine ⟨_, _, Weak.tup1 (Weak.agg (.cons (Weak.refl _) (.cons (Weak.nil 2 0 0 ⟨rfl, rfl⟩) (.cons (Weak.refl _) .nil)))) (Weak.refl _), Hp.le.refl _, rfl⟩
theorem g_roundR (d : Nat) (t : LT) (h : Hp) (hb : KC d t) (hv : VL d t) : ACalls Tryz.prog 76 [.agg (encL t)] h (fun r _ => r = .tup [.v (.int .i64 (roundN d t : Nat)), .row 2 ((roundS d t).map encStep) none, .v (.int .i64 (roundE d t))]) := by
 have hlen := encL_len t
 have htk : List.take 6 (encL t) = encL t := List.take_of_length_le (Nat.le_of_eq hlen)
 have hdk : List.drop 6 (encL t) = [] := List.drop_of_length_le (Nat.le_of_eq hlen)
 refine gE Tryz.func76 rfl (by kernel_rfl) 20 rfl fun c => ?_
 (repeat (first | refine gQ rfl ?_ | ((first | refine gM zM24 ?_ | (with_reducible refine wM ?_ ?_) | ((with_reducible refine xS ?_); refine uD 9 zM24 zPJE zPJP 21 rfl (by kernel_rfl) ?_)) <;> ((try with_reducible intro K1 hK1); simp only [go_sem, ↓reduceIte, reduceCtorEq, nA, nB, nC, nD, nE, nF, hlen, htk, hdk] <;> and_intros <;> first | (apply hK1; clear hK1 K1) | (intros; first | omega | decide | (simp_all <;> omega)) | skip))))
 intro o ho
 refine hK1 _ ?_; clear hK1 K1
 refine vRem_nil ?_
 refine awp_ownPtr (cs := [.v (.slice none 0 0)]) o 0 2 (upd_same _ _ _) rfl (fun k hk => ?_)
 simp only [List.set_cons_zero, upd_upd]
 replace hk : h.T k = none := hk
 (repeat (first | refine gQ rfl ?_ | ((first | refine gM zM24 ?_ | (with_reducible refine wM ?_ ?_) | ((with_reducible refine xS ?_); refine uD 9 zM24 zPJE zPJP 21 rfl (by kernel_rfl) ?_)) <;> ((try with_reducible intro K1 hK1); simp only [go_sem, ↓reduceIte, reduceCtorEq, nA, nB, nC, nD, nE, nF, hlen, htk, hdk] <;> and_intros <;> first | (apply hK1; clear hK1 K1) | (intros; first | omega | decide | (simp_all <;> omega)) | skip))))
 refine (g_newRunner d t _ hb).mono ?_
 rintro _ h1 ⟨a, rfl, hR, hS, hn1, hn2, hk1, hk2⟩
 refine hK1 _ ?_; clear hK1 K1
 have hoa : o ∉ idsT a := fun hx => by have := hn1 o hx; rw [show (_ : Hp).H o = _ from upd_same h.H o _] at this; cases this
 have hH1 : h1.H o = some (.cells [.row 2 [] (some k)]) := (hk1 o (by rw [show (_ : Hp).H o = _ from upd_same h.H o _]; simp)).trans (upd_same _ _ _)
 have hT1 : h1.T k = some (.tail 0) := (hk2 k (by rw [show (_ : Hp).T k = _ from upd_same h.T k _]; simp)).trans (upd_same _ _ _)
 have hO1 : OutAt h1 o k [] [] := ⟨hH1, hT1⟩
 have hok := passesU_ok d t hv
 (repeat (first | refine gQ rfl ?_ | ((first | refine gM zM24 ?_ | (with_reducible refine wM ?_ ?_) | ((with_reducible refine xS ?_); refine uD 9 zM24 zPJE zPJP 21 rfl (by kernel_rfl) ?_)) <;> ((try with_reducible intro K1 hK1); simp only [go_sem, ↓reduceIte, reduceCtorEq, nA, nB, nC, nD, nE, nF] <;> and_intros <;> first | (apply hK1; clear hK1 K1) | (intros; first | omega | decide | (simp_all <;> omega)) | skip))))
 refine awp_seq ?_
 (repeat (first | refine gO rfl ?_ | ((first | refine gM zM24 ?_ | (with_reducible refine wM ?_ ?_) | ((with_reducible refine xS ?_); refine uD 9 zM24 zPJE zPJP 21 rfl (by kernel_rfl) ?_)) <;> ((try with_reducible intro K1 hK1); simp only [go_sem, ↓reduceIte, reduceCtorEq, nA, nB, nC, nD, nE, nF] <;> and_intros <;> first | (apply hK1; clear hK1 K1) | (intros; first | omega | decide | (simp_all <;> omega)) | skip))))
 refine awp_loopC (rl false [5, 3, 13]) 0 (fun g s => ∃ (j : Nat) (h2 : Hp), g + j = 5000 ∧ (passesU d t j).2.length ≤ 5000 ∧ (∀ n, 1 ≤ n → n ≤ j → homeF d t (passesU d t n).1 = false) ∧ RAt XR h2 d t a (passesU d t j).1 ∧ OutAt h2 o k [] (passesU d t j).2 ∧
  s = ⟨((jnk 5 ((.ptr o 0) :: (.ptr a.id 0) :: (.v (.int .i64 ((j : Int) + 1))) :: (jnk 13 [])))), [], h2⟩) 5000 ⟨0, h1, by omega, by simp [passesU], fun n h1 h2 => by omega, hR, hO1, rfl⟩ ?_
 rintro g _ ⟨j, h2, hj, hlj, hnh, hR2, hO2, rfl⟩
 have hj5 : j ≤ 5000 := by omega
 have e5 := passesU_len d t j
 (repeat (first | refine gO rfl ?_ | ((first | refine gM zM24 ?_ | (with_reducible refine wM ?_ ?_) | ((with_reducible refine xS ?_); refine uD 9 zM24 zPJE zPJP 21 rfl (by kernel_rfl) ?_)) <;> ((try with_reducible intro K1 hK1); simp only [go_sem, ↓reduceIte, reduceCtorEq, nA, nB, nC, nD, nE, nF] <;> and_intros <;> first | (apply hK1; clear hK1 K1) | (intros; first | omega | decide | (simp_all <;> omega)) | skip))))
 refine awp_cond (t := _) rfl (fun h3 => ?_) (fun h3 => ?_)
 ·simp only [decide_eq_true_eq] at h3
  (repeat (first | refine gO rfl ?_ | ((first | refine gM zM24 ?_ | (with_reducible refine wM ?_ ?_) | ((with_reducible refine xS ?_); refine uD 9 zM24 zPJE zPJP 21 rfl (by kernel_rfl) ?_)) <;> ((try with_reducible intro K1 hK1); simp only [go_sem, ↓reduceIte, reduceCtorEq, nA, nB, nC, nD, nE, nF] <;> and_intros <;> first | (apply hK1; clear hK1 K1) | (intros; first | omega | decide | (simp_all <;> omega)) | skip))))
  refine (g_passR d t a _ h2 o k _ hv hR2 hS (hok j).1 hO2 hoa hlj).mono ?_
  intro r h4 hres
  unfold PRes at hres
  split at hres
  ·rename_i hle
   obtain ⟨rfl, hR4, hO4, _⟩ := hres
   have hl6 : (passesU d t (j + 1)).2.length ≤ 5000 := by omega
   refine hK1 _ ?_; clear hK1 K1
   (repeat (first | refine gO rfl ?_ | ((first | refine gM zM24 ?_ | (with_reducible refine wM ?_ ?_) | ((with_reducible refine xS ?_); refine uD 9 zM24 zPJE zPJP 21 rfl (by kernel_rfl) ?_)) <;> ((try with_reducible intro K1 hK1); simp only [go_sem, ↓reduceIte, reduceCtorEq, nA, nB, nC, nD, nE, nF] <;> and_intros <;> first | (apply hK1; clear hK1 K1) | (intros; first | omega | decide | (simp_all <;> omega)) | skip))))
   refine awp_cond (t := _) rfl (fun h => by cases h) (fun _ => ?_)
   (repeat (first | refine gO rfl ?_ | ((first | refine gM zM24 ?_ | (with_reducible refine wM ?_ ?_) | ((with_reducible refine xS ?_); refine uD 9 zM24 zPJE zPJP 21 rfl (by kernel_rfl) ?_)) <;> ((try with_reducible intro K1 hK1); simp only [go_sem, ↓reduceIte, reduceCtorEq, nA, nB, nC, nD, nE, nF] <;> and_intros <;> first | (apply hK1; clear hK1 K1) | (intros; first | omega | decide | (simp_all <;> omega)) | skip))))
   refine (g_homeG d t a (passesU d t (j + 1)).1 h4 hv hR4 ((hok (j + 1)).1.mono (by omega))).mono ?_; rintro _ hz ⟨rfl, hh⟩; apply hK1; clear hK1 K1; rw [hh]; clear hh hz
   (repeat (first | refine gO rfl ?_ | ((first | refine gM zM24 ?_ | (with_reducible refine wM ?_ ?_) | ((with_reducible refine xS ?_); refine uD 9 zM24 zPJE zPJP 21 rfl (by kernel_rfl) ?_)) <;> ((try with_reducible intro K1 hK1); simp only [go_sem, ↓reduceIte, reduceCtorEq, nA, nB, nC, nD, nE, nF] <;> and_intros <;> first | (apply hK1; clear hK1 K1) | (intros; first | omega | decide | (simp_all <;> omega)) | skip))))
   cases eh : homeF d t (passesU d t (j + 1)).1 with
   | true =>
    have hri : RoundIs d t (j + 1) := ⟨by omega, hl6, eh, fun n h1 h2 => hnh n h1 (by omega)⟩
    obtain ⟨r1, r2, r3⟩ := roundS_some hri
    have hO40 : h4.H o = some (.cells [.row 2 ((passesU d t (j + 1)).2.map encStep) (some k)]) := hO4.1
    rw [r1, r2, r3]
    refine awp_cond (t := _) rfl (fun _ => ?_) (fun h => by cases h)
    (repeat (first | refine gO rfl ?_ | ((first | refine gM zM24 ?_ | (with_reducible refine wM ?_ ?_) | ((with_reducible refine xS ?_); refine uD 9 zM24 zPJE zPJP 21 rfl (by kernel_rfl) ?_)) <;> ((try with_reducible intro K1 hK1); simp only [go_sem, ↓reduceIte, reduceCtorEq, nA, nB, nC, nD, nE, nF, hO40] <;> and_intros <;> first | (apply hK1; clear hK1 K1) | (intros; first | omega | decide | (simp_all <;> omega)) | skip))))
    simp only [Tryz.results76, go_sem, ↓reduceIte, reduceCtorEq, nA, nB, nC, nD, nE, nF]
    exact ⟨_, _, Weak.tup3 (Weak.refl _) (Weak.row _ _ _) (Weak.refl _), Hp.le.refl _, rfl⟩
   | false =>
    refine awp_cond (t := _) rfl (fun h => by cases h) (fun _ => ?_)
    (repeat (first | refine gO rfl ?_ | ((first | refine gM zM24 ?_ | (with_reducible refine wM ?_ ?_) | ((with_reducible refine xS ?_); refine uD 9 zM24 zPJE zPJP 21 rfl (by kernel_rfl) ?_)) <;> ((try with_reducible intro K1 hK1); simp only [go_sem, ↓reduceIte, reduceCtorEq, nA, nB, nC, nD, nE, nF] <;> and_intros <;> first | (apply hK1; clear hK1 K1) | (intros; first | omega | decide | (simp_all <;> omega)) | skip))))
    exact ⟨g - 1, by omega, j + 1, h4, by omega, hl6, fun n h1 h2 => by
     by_cases e : n = j + 1
     ·rw [e]; exact eh
     ·exact hnh n h1 (by omega), hR4, hO4, rfl⟩
  ·rename_i hle
   subst hres
   have hr0 : roundN d t = 0 := round_long (j := j) (by omega) hnh
   refine hK1 _ ?_; clear hK1 K1
   rw [(roundS_none hr0).1, (roundS_none hr0).2, hr0]
   (repeat (first | refine gO rfl ?_ | ((first | refine gM zM24 ?_ | (with_reducible refine wM ?_ ?_) | ((with_reducible refine xS ?_); refine uD 9 zM24 zPJE zPJP 21 rfl (by kernel_rfl) ?_)) <;> ((try with_reducible intro K1 hK1); simp only [go_sem, ↓reduceIte, reduceCtorEq, nA, nB, nC, nD, nE, nF] <;> and_intros <;> first | (apply hK1; clear hK1 K1) | (intros; first | omega | decide | (simp_all <;> omega)) | skip))))
   refine awp_cond (t := _) rfl (fun _ => ?_) (fun h => by cases h)
   (repeat (first | refine gO rfl ?_ | ((first | refine gM zM24 ?_ | (with_reducible refine wM ?_ ?_) | ((with_reducible refine xS ?_); refine uD 9 zM24 zPJE zPJP 21 rfl (by kernel_rfl) ?_)) <;> ((try with_reducible intro K1 hK1); simp only [go_sem, ↓reduceIte, reduceCtorEq, nA, nB, nC, nD, nE, nF] <;> and_intros <;> first | (apply hK1; clear hK1 K1) | (intros; first | omega | decide | (simp_all <;> omega)) | skip))))
   simp only [Tryz.results76, go_sem, ↓reduceIte, reduceCtorEq, nA, nB, nC, nD, nE, nF]
   exact ⟨_, _, Weak.tup3 (Weak.refl _) (Weak.nil 2 0 0 ⟨rfl, rfl⟩) (Weak.refl _), Hp.le.refl _, rfl⟩
 ·simp only [decide_eq_false_iff_not] at h3
  have hj9 : j = 5000 := by omega
  have hr0 : roundN d t = 0 := round_long (j := j) (by have := (hok (j + 1)).2.2; omega) hnh
  rw [(roundS_none hr0).1, (roundS_none hr0).2, hr0]
  (repeat (first | refine gO rfl ?_ | ((first | refine gM zM24 ?_ | (with_reducible refine wM ?_ ?_) | ((with_reducible refine xS ?_); refine uD 9 zM24 zPJE zPJP 21 rfl (by kernel_rfl) ?_)) <;> ((try with_reducible intro K1 hK1); simp only [go_sem, ↓reduceIte, reduceCtorEq, nA, nB, nC, nD, nE, nF] <;> and_intros <;> first | (apply hK1; clear hK1 K1) | (intros; first | omega | decide | (simp_all <;> omega)) | skip))))
  simp only [Tryz.results76, go_sem, ↓reduceIte, reduceCtorEq, nA, nB, nC, nD, nE, nF]
  exact ⟨_, _, Weak.tup3 (Weak.refl _) (Weak.nil 2 0 0 ⟨rfl, rfl⟩) (Weak.refl _), Hp.le.refl _, rfl⟩
abbrev zPKE : List Nat := [0, 1, 2, 3, 4, 5, 6, 7, 8, 9, 10, 11, 12, 13, 14]
abbrev zPKP : List (Nat × List Nat × List Nat) := []
abbrev zPLE : List Nat := [0, 1, 2, 3, 4, 5, 6, 7]
abbrev zPLP : List (Nat × List Nat × List Nat) := []
abbrev zPME : List Nat := [0, 1, 2, 3, 4, 5, 6, 7, 8, 9, 10, 11, 12, 13, 14]
abbrev zPMP : List (Nat × List Nat × List Nat) := []
attribute [go_sem] zPKE zPKP zPLE zPLP zPME zPMP
theorem part_of_fault {t : LT} (h : faultF t = 0) : partF t = 0 := by
 unfold faultF at h
 split at h
 ·cases h
 ·exact h
noncomputable def rdE (d : Nat) (t : LT) : Int := if faultF t = 0 then roundE d t else faultF t
noncomputable def rdN (d : Nat) (t : LT) : Nat := if faultF t = 0 then roundN d t else 0
noncomputable def rdS (d : Nat) (t : LT) : List (ByteArray × Int) := if faultF t = 0 then roundS d t else []
theorem g_rounded (d : Nat) (t : LT) (h : Hp) (hb : KC d t) (hd : manyF t ≤ 1000000000000000 ∧ d ≤ 1000) : ACalls Tryz.prog 15 [.agg (encL t)] h (fun r _ => r = .tup [.v (.int .i64 (rdN d t : Nat)), .row 2 ((rdS d t).map encStep) none, .v (.int .i64 (rdE d t))]) := by
 have hlen := encL_len t
 have htk : List.take 6 (encL t) = encL t := List.take_of_length_le (Nat.le_of_eq hlen)
 have hdk : List.drop 6 (encL t) = [] := List.drop_of_length_le (Nat.le_of_eq hlen)
 unfold rdE rdN rdS
 refine gE Tryz.func15 rfl (by kernel_rfl) 15 rfl fun c => ?_
 (repeat (first | refine gO rfl ?_ | (refine gR fun K1 hK1 => ?_; simp only [go_sem, ↓reduceIte, reduceCtorEq, nA, nB, nC, nD, nE, nF, hlen, htk, hdk] <;> and_intros <;> first | (apply hK1; clear hK1 K1) | (intros; first | omega | decide | (simp_all <;> omega)) | skip)))
 refine (g_fault6 d t h hb hd).mono ?_; rintro _ hz ⟨rfl, hh⟩; apply hK1; clear hK1 K1; rw [hh]; clear hh hz
 (repeat (first | refine gO rfl ?_ | (refine gR fun K1 hK1 => ?_; simp only [go_sem, ↓reduceIte, reduceCtorEq, nA, nB, nC, nD, nE, nF, hlen, htk, hdk] <;> and_intros <;> first | (apply hK1; clear hK1 K1) | (intros; first | omega | decide | (simp_all <;> omega)) | skip)))
 by_cases hf : faultF t = 0
 ·have hv := vl_of d t hb (part_of_fault hf)
  rw [if_pos hf, if_pos hf, if_pos hf]
  refine awp_cond (t := _) rfl (fun h9 => by simp [hf] at h9) (fun _ => ?_)
  (repeat (first | refine gO rfl ?_ | (refine gR fun K1 hK1 => ?_; simp only [go_sem, ↓reduceIte, reduceCtorEq, nA, nB, nC, nD, nE, nF, hlen, htk, hdk] <;> and_intros <;> first | (apply hK1; clear hK1 K1) | (intros; first | omega | decide | (simp_all <;> omega)) | skip)))
  refine (g_roundR d t h hb hv).mono ?_
  rintro _ h2 rfl
  refine hK1 _ ?_; clear hK1 K1
  (repeat (first | refine gO rfl ?_ | (refine gR fun K1 hK1 => ?_; simp only [go_sem, ↓reduceIte, reduceCtorEq, nA, nB, nC, nD, nE, nF] <;> and_intros <;> first | (apply hK1; clear hK1 K1) | (intros; first | omega | decide | (simp_all <;> omega)) | skip)))
  simp only [Tryz.results15, go_sem, ↓reduceIte, reduceCtorEq, nA, nB, nC, nD, nE, nF]
  exact ⟨_, _, Weak.refl _, Hp.le.refl _, rfl⟩
 ·rw [if_neg hf, if_neg hf, if_neg hf]
  refine awp_cond (t := _) rfl (fun _ => ?_) (fun h9 => by simp [hf] at h9)
  (repeat (first | refine gO rfl ?_ | (refine gR fun K1 hK1 => ?_; simp only [go_sem, ↓reduceIte, reduceCtorEq, nA, nB, nC, nD, nE, nF] <;> and_intros <;> first | (apply hK1; clear hK1 K1) | (intros; first | omega | decide | (simp_all <;> omega)) | skip)))
  simp only [Tryz.results15, go_sem, ↓reduceIte, reduceCtorEq, nA, nB, nC, nD, nE, nF]
  exact ⟨_, _, Weak.tup3 (Weak.refl _) (Weak.nil 2 0 0 ⟨rfl, rfl⟩) (Weak.refl _), Hp.le.refl _, rfl⟩
abbrev zPNE : List Nat := [0, 1, 2, 3, 4, 5, 6, 7, 8, 9, 10]
abbrev zPNP : List (Nat × List Nat × List Nat) := []
attribute [go_sem] zPNE zPNP
noncomputable def rdC (d : Nat) (t : LT) : List AV := [.v (.int .i64 (rdN d t : Nat)), .row 2 ((rdS d t).map encStep) none, .v (.int .i64 ((rdS d t).map (·.2)).sum)]
theorem g_checked (d : Nat) (t : LT) (h : Hp) (hb : KC d t) (hd : manyF t ≤ 1000000000000000 ∧ d ≤ 1000) : ACalls Tryz.prog 77 [.agg (encL t)] h (fun r _ => r = .tup [.agg (rdC d t), .v (.int .i64 (rdE d t))]) := by
 have hlen := encL_len t
 have htk : List.take 6 (encL t) = encL t := List.take_of_length_le (Nat.le_of_eq hlen)
 have hdk : List.drop 6 (encL t) = [] := List.drop_of_length_le (Nat.le_of_eq hlen)
 unfold rdC rdE rdN rdS
 refine gE Tryz.func77 rfl (by kernel_rfl) 14 rfl fun c => ?_
 (repeat (first | refine gO rfl ?_ | (refine gM zM25 fun K1 hK1 => ?_; simp only [go_sem, ↓reduceIte, reduceCtorEq, nA, nB, nC, nD, nE, nF, hlen, htk, hdk] <;> and_intros <;> first | (apply hK1; clear hK1 K1) | (intros; first | omega | decide | (simp_all <;> omega)) | skip)))
 refine (g_check7 d t h hb hd).mono ?_; rintro _ hz ⟨rfl, hh⟩; apply hK1; clear hK1 K1; rw [hh]; clear hh hz
 (repeat (first | refine gO rfl ?_ | (refine gM zM25 fun K1 hK1 => ?_; simp only [go_sem, ↓reduceIte, reduceCtorEq, nA, nB, nC, nD, nE, nF, hlen, htk, hdk] <;> and_intros <;> first | (apply hK1; clear hK1 K1) | (intros; first | omega | decide | (simp_all <;> omega)) | skip)))
 by_cases hf : faultF t = 0
 ·have hv := vl_of d t hb (part_of_fault hf)
  simp only [if_pos hf]
  refine awp_cond (t := _) rfl (fun h9 => by simp [hf] at h9) (fun _ => ?_)
  (repeat (first | refine gO rfl ?_ | (refine gM zM25 fun K1 hK1 => ?_; simp only [go_sem, ↓reduceIte, reduceCtorEq, nA, nB, nC, nD, nE, nF, hlen, htk, hdk] <;> and_intros <;> first | (apply hK1; clear hK1 K1) | (intros; first | omega | decide | (simp_all <;> omega)) | skip)))
  refine (g_roundP d t h hb hv (il_of d t (part_of_fault hf))).mono ?_
  rintro _ h2 rfl
  refine hK1 _ ?_; clear hK1 K1
  (repeat (first | refine gO rfl ?_ | (refine gM zM25 fun K1 hK1 => ?_; simp only [go_sem, ↓reduceIte, reduceCtorEq, nA, nB, nC, nD, nE, nF, roundC] <;> and_intros <;> first | (apply hK1; clear hK1 K1) | (intros; first | omega | decide | (simp_all <;> omega)) | skip)))
  simp only [Tryz.results77, go_sem, ↓reduceIte, reduceCtorEq, nA, nB, nC, nD, nE, nF]
  exact ⟨_, _, Weak.refl _, Hp.le.refl _, rfl⟩
 ·simp only [if_neg hf]
  refine awp_cond (t := _) rfl (fun _ => ?_) (fun h9 => by simp [hf] at h9)
  (repeat (first | refine gO rfl ?_ | (refine gM zM25 fun K1 hK1 => ?_; simp only [go_sem, ↓reduceIte, reduceCtorEq, nA, nB, nC, nD, nE, nF] <;> and_intros <;> first | (apply hK1; clear hK1 K1) | (intros; first | omega | decide | (simp_all <;> omega)) | skip)))
  simp only [Tryz.results77, go_sem, ↓reduceIte, reduceCtorEq, nA, nB, nC, nD, nE, nF]
  exact ⟨_, _, Weak.tup1 (Weak.agg (.cons (Weak.refl _) (.cons (Weak.nil 2 0 0 ⟨rfl, rfl⟩) (.cons (Weak.refl _) .nil)))) (Weak.refl _), Hp.le.refl _, rfl⟩
theorem rd_bad {d : Nat} {t : LT} (h : rdE d t ≠ 0) : rdS d t = [] ∧ rdN d t = 0 := by
 unfold rdE at h
 unfold rdS rdN
 by_cases hf : faultF t = 0
 ·rw [if_pos hf] at h
  rw [if_pos hf, if_pos hf]
  unfold roundE at h
  unfold roundS
  split at h
  ·rename_i e; rw [if_pos e, e]; exact ⟨rfl, rfl⟩
  ·exact absurd rfl h
 ·rw [if_neg hf, if_neg hf]; exact ⟨rfl, rfl⟩
theorem g_RoundG (d : Nat) (t : LT) (h : Hp) (hb : KC d t) (hd : manyF t ≤ 1000000000000000 ∧ d ≤ 1000) : ACalls Tryz.prog 21 [.agg (encL t)] h (fun r _ => r = .tup [.v (.int .i64 (rdN d t : Nat)), .v (.int .i64 (rdS d t).length), .v (.int .i64 ((rdS d t).map (·.2)).sum), .v (.int .i64 (rdE d t))]) := by
 have hlen := encL_len t
 have htk : List.take 6 (encL t) = encL t := List.take_of_length_le (Nat.le_of_eq hlen)
 have hdk : List.drop 6 (encL t) = [] := List.drop_of_length_le (Nat.le_of_eq hlen)
 have hbad := rd_bad (d := d) (t := t)
 have hck := g_checked d t h hb hd
 unfold rdC at hck
 generalize rdS d t = xs at *
 generalize rdN d t = n at *
 generalize rdE d t = e at *
 generalize hs : (xs.map (·.2)).sum = s at *
 refine gE Tryz.func21 rfl (by kernel_rfl) 21 rfl fun c => ?_
 (repeat (first | refine gO rfl ?_ | ((first | refine gM zM26 ?_ | (with_reducible refine wM ?_ ?_) | ((with_reducible refine xS ?_); refine uD 4 zM26 zPNE zPNP 22 rfl (by kernel_rfl) ?_)) <;> ((try with_reducible intro K1 hK1); simp only [go_sem, ↓reduceIte, reduceCtorEq, nA, nB, nC, nD, nE, nF, hlen, htk, hdk] <;> and_intros <;> first | (apply hK1; clear hK1 K1) | (intros; first | omega | decide | (simp_all <;> omega)) | skip))))
 refine hck.mono ?_
 rintro _ h2 rfl
 refine hK1 _ ?_; clear hK1 K1
 (repeat (first | refine gO rfl ?_ | ((first | refine gM zM26 ?_ | (with_reducible refine wM ?_ ?_) | ((with_reducible refine xS ?_); refine uD 4 zM26 zPNE zPNP 22 rfl (by kernel_rfl) ?_)) <;> ((try with_reducible intro K1 hK1); simp only [go_sem, ↓reduceIte, reduceCtorEq, nA, nB, nC, nD, nE, nF] <;> and_intros <;> first | (apply hK1; clear hK1 K1) | (intros; first | omega | decide | (simp_all <;> omega)) | skip))))
 by_cases he : e = 0
 ·subst he
  refine awp_cond (t := _) rfl (fun h9 => by simp at h9) (fun _ => ?_)
  (repeat (first | refine gO rfl ?_ | ((first | refine gM zM26 ?_ | (with_reducible refine wM ?_ ?_) | ((with_reducible refine xS ?_); refine uD 4 zM26 zPNE zPNP 22 rfl (by kernel_rfl) ?_)) <;> ((try with_reducible intro K1 hK1); simp only [go_sem, ↓reduceIte, reduceCtorEq, nA, nB, nC, nD, nE, nF] <;> and_intros <;> first | (apply hK1; clear hK1 K1) | (intros; first | omega | decide | (simp_all <;> omega)) | skip))))
  simp only [Tryz.results21, go_sem, ↓reduceIte, reduceCtorEq, nA, nB, nC, nD, nE, nF]
  exact ⟨_, _, Weak.refl _, Hp.le.refl _, rfl⟩
 ·obtain ⟨rfl, rfl⟩ := hbad he
  subst hs
  refine awp_cond (t := _) rfl (fun _ => ?_) (fun h9 => by simp [he] at h9)
  (repeat (first | refine gO rfl ?_ | ((first | refine gM zM26 ?_ | (with_reducible refine wM ?_ ?_) | ((with_reducible refine xS ?_); refine uD 4 zM26 zPNE zPNP 22 rfl (by kernel_rfl) ?_)) <;> ((try with_reducible intro K1 hK1); simp only [go_sem, ↓reduceIte, reduceCtorEq, nA, nB, nC, nD, nE, nF] <;> and_intros <;> first | (apply hK1; clear hK1 K1) | (intros; first | omega | decide | (simp_all <;> omega)) | skip))))
  simp only [Tryz.results21, go_sem, ↓reduceIte, reduceCtorEq, nA, nB, nC, nD, nE, nF]
  exact ⟨_, _, Weak.refl _, Hp.le.refl _, rfl⟩
theorem encX_weakL : ∀ (d : Nat) (t : LT), LC d t → ∀ (G : Gh) (us : List Value), RepL G (encX t) us → RepL G (encL t) us
 | 0, _, h => h.elim
 | d + 1, .mk kind item long many kids shares, hb => fun G us hu => by
  obtain ⟨b1, b2, b3, b4, b5, b6, b7, b8⟩ := hb
  rw [encX_eq] at hu
  rw [encL_eq]
  refine hu.of6 (fun _ h => h) (fun _ h => h) (fun _ h => h) (fun _ h => h) (fun x h => ?_) (fun x h => ?_)
  ·have hz : ∀ y ∈ kids.map encX, y.length = 6 := fun y hy => by obtain ⟨t, _, rfl⟩ := List.mem_map.1 hy; exact encX_len t
   have hz' : ∀ y ∈ kids.map encL, y.length = 6 := fun y hy => by obtain ⟨t, _, rfl⟩ := List.mem_map.1 hy; exact encL_len t
   have key : Rep G (.row 6 (kids.map encX) none) x := by
    cases kids with
    | nil => exact Weak.nil 6 0 0 ⟨rfl, rfl⟩ G x h
    | cons y ys => exact h
   refine key.rowFlat (GLe.refl G) (by simp) hz' (RepL.flat (by simp) hz fun i a b us2 h2 => ?_)
   simp only [List.length_map] at a
   simp only [List.getElem_map] at h2 ⊢
   exact encX_weakL d _ (b8 _ (List.getElem_mem _)) G us2 h2
  ·cases shares with
   | nil => exact Weak.nil 1 0 0 ⟨rfl, rfl⟩ G x h
   | cons y ys => exact h
theorem encX_weak (d : Nat) (t : LT) (hb : LC d t) : Weak (.agg (encX t)) (.agg (encL t)) := fun G v hr => by
 obtain ⟨vs, rfl, hvs⟩ := RepL.of_agg hr
 exact (encX_weakL d t hb G vs hvs).agg
def tA : LT := .mk 1 ⟨#[97]⟩ 5 0 [] []
def tB : LT := .mk 1 ⟨#[98]⟩ 7 0 [] []
def tL : LT := .mk 3 ⟨#[]⟩ 0 0 [tA, tB] []
theorem g_loopedG (h : Hp) : ACalls Tryz.prog 17 [] h (fun r _ => r = .v (.bool true)) := by
 have hLC : LC 2 tL := by
  refine ⟨by unfold NB; omega, by decide, by unfold NB; omega, by unfold NB; omega, by decide, by decide, by simp, fun k hk => ?_⟩
  simp only [List.mem_cons, List.not_mem_nil, or_false] at hk
  rcases hk with rfl | rfl
  ·exact ⟨by unfold NB; omega, by decide, by unfold NB; omega, by unfold NB; omega, by decide, by decide, by simp, by simp⟩
  ·exact ⟨by unfold NB; omega, by decide, by unfold NB; omega, by unfold NB; omega, by decide, by decide, by simp, by simp⟩
 have hm : manyF tL = 3 := by simp [tL, tA, tB, manyF_eq]
 have hf : faultF tL = 0 := by
  have h2 : deepF tL = 2 := by simp [tL, tA, tB, deepF_eq]; rfl
  have ha : partF tA = 0 := by rw [tA, partF_eq]; rfl
  have hb : partF tB = 0 := by rw [tB, partF_eq]; rfl
  have h3 : partF tL = 0 := by
   rw [tL, partF_eq, List.map_cons, List.map_cons, List.map_nil, ha, hb]; rfl
  rw [faultF, hm, h2, h3]; rfl
 have hps0 : ps0 tL = .mk 0 [0, 0] [.mk 0 [] [], .mk 0 [] []] := by simp [tL, tA, tB, ps0_eq]
 have hp1 : passesU 2 tL 1 = (.mk 1 [1, 0] [.mk 1 [] [], .mk 0 [] []], [(⟨#[97]⟩, 5)]) := by
  show ((passU 2 tL (ps0 tL)).1, [] ++ (passU 2 tL (ps0 tL)).2) = _
  rw [hps0]; rfl
 have hp2 : passesU 2 tL 2 = (.mk 2 [1, 1] [.mk 1 [] [], .mk 1 [] []], [(⟨#[97]⟩, 5), (⟨#[98]⟩, 7)]) := by
  show ((passU 2 tL (passesU 2 tL 1).1).1, (passesU 2 tL 1).2 ++ (passU 2 tL (passesU 2 tL 1).1).2) = _
  rw [hp1]; rfl
 have hri : RoundIs 2 tL 2 := ⟨by omega, by rw [hp2]; simp, by rw [hp2]; rfl, fun n h1 h2 => by
  have e : n = 1 := by omega
  rw [e, hp1]; rfl⟩
 obtain ⟨r1, r2, r3⟩ := roundS_some hri
 have hp := g_RoundG 2 tL h hLC.kc (by omega)
 rw [show rdN 2 tL = 2 by rw [rdN, if_pos hf, r3], show rdS 2 tL = [(⟨#[97]⟩, 5), (⟨#[98]⟩, 7)] by rw [rdS, if_pos hf, r1, hp2], show rdE 2 tL = 0 by rw [rdE, if_pos hf, r2]] at hp
 have hpX := hp.weakArgs (args' := [.agg (encX tL)]) rfl (fun j a b => by
  simp only [List.length_cons, List.length_nil, Nat.zero_add, Nat.lt_one_iff] at a
  subst a
  exact encX_weak 2 tL hLC)
 have he : encX tL = [.v (.int .i64 3), .v (.string ⟨#[]⟩), .v (.int .i64 0), .v (.int .i64 0), .row 6 [[.v (.int .i64 1), .v (.string ⟨#[97]⟩), .v (.int .i64 5), .v (.int .i64 0), .v (.slice none 0 0), .v (.slice none 0 0)], [.v (.int .i64 1), .v (.string ⟨#[98]⟩), .v (.int .i64 7), .v (.int .i64 0), .v (.slice none 0 0), .v (.slice none 0 0)]] none, .v (.slice none 0 0)] := by
  simp [tL, tA, tB, encX_eq, nilOr]
 rw [he] at hpX
 refine gE Tryz.func17 rfl (by kernel_rfl) 31 rfl fun c => ?_
 (repeat (first | refine gO rfl ?_ | (refine gM zM27 fun K1 hK1 => ?_; simp only [go_sem, ↓reduceIte, reduceCtorEq, nA, nB, nC, nD, nE, nF] <;> and_intros <;> first | (apply hK1; clear hK1 K1) | (intros; first | omega | decide | (simp_all <;> omega)) | skip)))
 refine hpX.mono ?_
 rintro _ h2 rfl
 refine hK1 _ ?_; clear hK1 K1
 (repeat (first | refine gO rfl ?_ | (refine gM zM27 fun K1 hK1 => ?_; simp only [go_sem, ↓reduceIte, reduceCtorEq, nA, nB, nC, nD, nE, nF] <;> and_intros <;> first | (apply hK1; clear hK1 K1) | (intros; first | omega | decide | (simp_all <;> omega)) | skip)))
 simp only [Tryz.results17, go_sem, ↓reduceIte, reduceCtorEq, nA, nB, nC, nD, nE, nF]
 exact ⟨_, _, Weak.refl _, Hp.le.refl _, rfl⟩
def sumL (xs : List (ByteArray × Int)) : Int := (xs.map (·.2)).sum
def Pos (xs : List (ByteArray × Int)) : Prop := ∀ x ∈ xs, 1 ≤ x.2 ∧ x.2 ≤ 3600000
open Go Go.Lib
def onceL (l : List (List UInt8)) : List (List UInt8) := compact (l.mergeSort fun x y => decide (x ≤ y))
def onceS (l : List ByteArray) : List ByteArray := (onceL (l.map (·.data.toList))).map fun l => ⟨l.toArray⟩
theorem leT : ∀ a b c : List UInt8, decide (a ≤ b) = true → decide (b ≤ c) = true → decide (a ≤ c) = true := fun a b c h1 h2 => by
 simp only [decide_eq_true_eq] at *; exact List.le_trans h1 h2
theorem leO : ∀ a b : List UInt8, (decide (a ≤ b) || decide (b ≤ a)) = true := fun a b => by
 simp only [Bool.or_eq_true, decide_eq_true_eq]; exact List.le_total a b
theorem comp_up (d : Array (List UInt8)) (hs : ∀ i j, i ≤ j → j < d.size → d[i]! ≤ d[j]!) : ∀ m, m ≤ d.size →
  (compactUpTo d m).Pairwise (fun x y => x ≤ y ∧ x ≠ y) ∧ ∀ x, x ∈ compactUpTo d m ↔ ∃ j, j < m ∧ d[j]! = x
 | 0, _ => ⟨by simp [compactUpTo], by simp [compactUpTo]⟩
 | m + 1, hm => by
  obtain ⟨h1, h2⟩ := comp_up d hs m (by omega)
  rw [compactUpTo_succ]
  cases hk : keeps d m with
  | true =>
   simp only [if_true]
   refine ⟨List.pairwise_append.2 ⟨h1, by simp, fun x hx y hy => ?_⟩, fun x => ?_⟩
   ·simp only [List.mem_singleton] at hy
    subst hy
    obtain ⟨j, hj, rfl⟩ := (h2 x).1 hx
    refine ⟨hs j m (by omega) (by omega), fun e => ?_⟩
    simp only [keeps, decide_eq_true_eq] at hk
    rcases hk with hk | hk
    ·omega
    ·have a1 := hs j (m - 1) (by omega) (by omega)
     have a2 := hs (m - 1) m (by omega) (by omega)
     rw [e] at a1
     exact hk (List.le_antisymm a1 a2)
   ·rw [List.mem_append, h2 x, List.mem_singleton]
    constructor
    ·rintro (⟨j, hj, e⟩ | rfl)
     ·exact ⟨j, by omega, e⟩
     ·exact ⟨m, by omega, rfl⟩
    ·rintro ⟨j, hj, e⟩
     by_cases hjm : j = m
     ·subst hjm; exact .inr e.symm
     ·exact .inl ⟨j, by omega, e⟩
  | false =>
   simp only [Bool.false_eq_true, if_false, List.append_nil]
   refine ⟨h1, fun x => ?_⟩
   rw [h2 x]
   simp only [keeps, decide_eq_false_iff_not, not_or, ne_eq, Decidable.not_not] at hk
   constructor
   ·rintro ⟨j, hj, e⟩; exact ⟨j, by omega, e⟩
   ·rintro ⟨j, hj, e⟩
    by_cases hjm : j = m
    ·subst hjm; exact ⟨j - 1, by omega, by rw [← e, hk.2]⟩
    ·exact ⟨j, by omega, e⟩
theorem onceL_ok (l : List (List UInt8)) : (onceL l).Pairwise (fun x y => x ≤ y ∧ x ≠ y) ∧ ∀ x, x ∈ onceL l ↔ x ∈ l := by
 have hp := List.pairwise_mergeSort leT leO l
 have hm := List.mergeSort_perm l fun x y => decide (x ≤ y)
 unfold onceL
 generalize (l.mergeSort fun x y => decide (x ≤ y)) = zs at hp hm ⊢
 have hs : ∀ i j, i ≤ j → j < zs.toArray.size → zs.toArray[i]! ≤ zs.toArray[j]! := fun i j hij hj => by
  have hj' : j < zs.length := by simpa using hj
  have e1 : zs.toArray[i]! = zs[i] := by simp [getElem!_pos, show i < zs.length by omega]
  have e2 : zs.toArray[j]! = zs[j] := by simp [getElem!_pos, hj']
  rw [e1, e2]
  by_cases e : i = j
  ·subst e; exact List.le_refl _
  ·have := List.pairwise_iff_getElem.1 hp i j (by omega) hj' (by omega)
   simpa using this
 obtain ⟨h1, h2⟩ := comp_up zs.toArray hs zs.length (by simp)
 refine ⟨h1, fun x => ?_⟩
 show x ∈ compactUpTo zs.toArray zs.length ↔ _
 rw [h2 x, ← hm.mem_iff]
 constructor
 ·rintro ⟨j, hj, rfl⟩
  have e2 : zs.toArray[j]! = zs[j] := by simp [getElem!_pos, hj]
  rw [e2]; exact List.getElem_mem hj
 ·intro hx
  obtain ⟨j, hj, e⟩ := List.getElem_of_mem hx
  exact ⟨j, hj, by rw [← e]; simp [getElem!_pos, hj]⟩
theorem keys_once {ks l : List (List UInt8)} (hn : ks.Nodup) (hm : ∀ x, x ∈ ks ↔ x ∈ l) : (ks.mergeSort fun x y => decide (x ≤ y)) = onceL l := by
 obtain ⟨h1, h2⟩ := onceL_ok l
 have hp := List.pairwise_mergeSort leT leO ks
 have hk := List.mergeSort_perm ks fun x y => decide (x ≤ y)
 have hnd : (onceL l).Nodup := h1.imp fun h => h.2
 have hperm : (ks.mergeSort fun x y => decide (x ≤ y)).Perm (onceL l) := (List.perm_ext_iff_of_nodup (hk.nodup_iff.2 hn) hnd).2 fun x => by rw [hk.mem_iff, hm x, h2 x]
 refine List.Perm.eq_of_pairwise (le := fun a b => decide (a ≤ b) = true) (fun a b _ _ h1 h2 => ?_) hp (h1.imp fun h => by simpa using h.1) hperm
 simp only [decide_eq_true_eq] at h1 h2
 exact List.le_antisymm h1 h2
theorem onceS_mem (l : List ByteArray) (x : ByteArray) : x ∈ onceS l ↔ x ∈ l := by
 rw [onceS, List.mem_map]
 constructor
 ·rintro ⟨y, hy, rfl⟩
  obtain ⟨z, hz, rfl⟩ := List.mem_map.1 (((onceL_ok _).2 y).1 hy)
  exact hz
 ·intro hx
  exact ⟨x.data.toList, ((onceL_ok _).2 _).2 (List.mem_map.2 ⟨x, hx, rfl⟩), rfl⟩
theorem nodup_len {α : Type} [DecidableEq α] : ∀ (l m : List α), l.Nodup → (∀ x ∈ l, x ∈ m) → l.length ≤ m.length
 | [], _, _, _ => by simp
 | x :: l, m, hn, h => by
  have hx := h x (by simp)
  have := nodup_len l (m.erase x) (List.nodup_cons.1 hn).2 fun y hy => (List.mem_erase_of_ne (fun e => by subst e; exact (List.nodup_cons.1 hn).1 hy)).2 (h y (by simp [hy]))
  rw [List.length_erase_of_mem hx] at this
  have := List.length_pos_of_mem hx
  simp only [List.length_cons]; omega
theorem onceS_len (l : List ByteArray) : (onceS l).length ≤ l.length := by
 have h : (onceL (l.map (·.data.toList))).length ≤ (l.map (·.data.toList)).length := nodup_len _ _ ((onceL_ok _).1.imp fun h => h.2) fun x hx => ((onceL_ok _).2 x).1 hx
 simpa [onceS] using h
def cntF (xs : List (ByteArray × Int)) (k : ByteArray) : Nat := (xs.filter fun x => x.1 == k).length
def longF (xs : List (ByteArray × Int)) (k : ByteArray) : Int := ((xs.filter fun x => x.1 == k).map (·.2)).sum
theorem cntF_le (xs : List (ByteArray × Int)) (k : ByteArray) : cntF xs k ≤ xs.length := List.length_filter_le _ _
theorem take_at (xs : List (ByteArray × Int)) (j : Nat) (h : j < xs.length) : xs.take (j + 1) = xs.take j ++ [xs.getD j default] := by
 rw [List.take_add_one, List.getElem?_eq_getElem h, List.getD_eq_getElem?_getD, List.getElem?_eq_getElem h]; rfl
theorem drop_at {α : Type} (l : List α) (j : Nat) (d : α) (h : j < l.length) : l.drop j = l.getD j d :: l.drop (j + 1) := by
 rw [List.drop_eq_getElem_cons h, List.getD_eq_getElem?_getD, List.getElem?_eq_getElem h]; rfl
theorem cntF_yes {xs : List (ByteArray × Int)} {j : Nat} (h : j < xs.length) {k : ByteArray} (e : (xs.getD j default).1 = k) : cntF (xs.take (j + 1)) k = cntF (xs.take j) k + 1 := by
 have hb : ((xs.getD j default).1 == k) = true := by rw [ba_beq]; simp only [decide_eq_true_eq]; exact e
 rw [take_at xs j h, cntF, cntF, List.filter_append, List.length_append, List.filter_cons_of_pos (p := fun x : ByteArray × Int => x.1 == k) hb]; simp
theorem cntF_no {xs : List (ByteArray × Int)} {j : Nat} (h : j < xs.length) {k : ByteArray} (e : (xs.getD j default).1 ≠ k) : cntF (xs.take (j + 1)) k = cntF (xs.take j) k := by
 have hb : ¬ ((xs.getD j default).1 == k) = true := by rw [ba_beq]; simp only [decide_eq_true_eq]; exact e
 rw [take_at xs j h, cntF, cntF, List.filter_append, List.length_append, List.filter_cons_of_neg (p := fun x : ByteArray × Int => x.1 == k) hb]; simp
theorem longF_no {xs : List (ByteArray × Int)} {j : Nat} (h : j < xs.length) {k : ByteArray} (e : (xs.getD j default).1 ≠ k) : longF (xs.take (j + 1)) k = longF (xs.take j) k := by
 have hb : ¬ ((xs.getD j default).1 == k) = true := by rw [ba_beq]; simp only [decide_eq_true_eq]; exact e
 rw [take_at xs j h, longF, longF, List.filter_append, List.map_append, List.sum_append, List.filter_cons_of_neg (p := fun x : ByteArray × Int => x.1 == k) hb]; simp
theorem cntF_pos {xs : List (ByteArray × Int)} {k : ByteArray} (h : k ∈ xs.map (·.1)) : 1 ≤ cntF xs k := by
 obtain ⟨x, hx, rfl⟩ := List.mem_map.1 h
 exact List.length_pos_of_mem (List.mem_filter.2 ⟨hx, by rw [ba_beq]; simp⟩)
theorem longF_zero {xs : List (ByteArray × Int)} {k : ByteArray} (h : k ∉ xs.map (·.1)) : longF xs k = 0 ∧ cntF xs k = 0 := by
 have e : (xs.filter fun x => x.1 == k) = [] := List.filter_eq_nil_iff.2 fun x hx hb => h (List.mem_map.2 ⟨x, hx, by rw [ba_beq] at hb; simpa using hb⟩)
 rw [longF, cntF, e]; exact ⟨rfl, rfl⟩
def ptrsL (f : ByteArray → Nat) (ks : List ByteArray) : List (ByteArray × AV) := ks.map fun k => (k, .ptr (f k) 0)
theorem mget_ptrs (f : ByteArray → Nat) : ∀ (ks : List ByteArray) (k : ByteArray), (k ∈ ks → mget k (ptrsL f ks) = some (.ptr (f k) 0)) ∧ (k ∉ ks → mget k (ptrsL f ks) = none)
 | [], k => ⟨fun h => by simp at h, fun _ => rfl⟩
 | q :: ks, k => by
  have ih := mget_ptrs f ks k
  simp only [ptrsL, List.map_cons, mget] at ih ⊢
  by_cases e : q = k
  ·subst e; simp
  ·rw [if_neg e]
   refine ⟨fun h => ih.1 ?_, fun h => ih.2 ?_⟩
   ·rcases List.mem_cons.1 h with h | h
    ·exact absurd h.symm e
    ·exact h
   ·exact fun h' => h (List.mem_cons_of_mem _ h')
theorem mset_ptrs {f : ByteArray → Nat} : ∀ {ks : List ByteArray} {k : ByteArray} (_ : k ∉ ks) (x : AV), mset k x (ptrsL f ks) = ptrsL f ks ++ [(k, x)]
 | [], k, _, x => rfl
 | q :: ks, k, h, x => by
  simp only [List.mem_cons, not_or] at h
  have ih := mset_ptrs (f := f) h.2 x
  simp only [ptrsL, List.map_cons, mset] at ih ⊢
  rw [if_neg (Ne.symm h.1), ih]; rfl
def tCell (xs : List (ByteArray × Int)) (k : ByteArray) : List AV := [.v (.int .i64 (cntF xs k)), .v (.int .i64 (longF xs k))]
structure TalI (h : Hp) (m : Nat) (ys : List (ByteArray × Int)) (S : List ByteArray) (ks : List ByteArray) (f : ByteArray → Nat) : Prop where
 nd : ks.Nodup
 mem : ∀ k, k ∈ ks ↔ k ∈ S
 map : h.H m = some (.map (ptrsL f ks))
 cell : ∀ k ∈ ks, h.H (f k) = some (.cells (tCell ys k))
 ne : ∀ k ∈ ks, f k ≠ m
 inj : ∀ k ∈ ks, ∀ q ∈ ks, f k = f q → k = q
theorem TalI.nil {h : Hp} {m : Nat} (hm : h.H m = some (.map [])) : TalI h m [] [] [] (fun _ => 0) :=
 ⟨by simp, by simp, hm, by simp, by simp, by simp⟩
theorem TalI.same {h : Hp} {m : Nat} {ys : List (ByteArray × Int)} {S ks : List ByteArray} {f : ByteArray → Nat} (t : TalI h m ys S ks f) {q : ByteArray} (hq : q ∈ ks) : TalI h m ys (S ++ [q]) ks f :=
 ⟨t.nd, fun k => by
  rw [List.mem_append, ← t.mem k, List.mem_singleton]
  exact ⟨.inl, fun h => h.elim id fun e => by rw [e]; exact hq⟩, t.map, t.cell, t.ne, t.inj⟩
theorem TalI.more {h h' : Hp} {m j : Nat} {xs : List (ByteArray × Int)} {S ks : List ByteArray} {f : ByteArray → Nat} (t : TalI h m (xs.take j) S ks f) (hj : j < xs.length) {q : ByteArray} (e : (xs.getD j default).1 = q) (hk : q ∈ ks)
  (e1 : h'.H (f q) = some (.cells (tCell (xs.take (j + 1)) q))) (e2 : ∀ i, i ≠ f q → h'.H i = h.H i) : TalI h' m (xs.take (j + 1)) S ks f where
 nd := t.nd
 mem := t.mem
 map := by rw [e2 m (Ne.symm (t.ne _ hk))]; exact t.map
 cell k hk' := by
  by_cases h : k = q
  ·rw [h]; exact e1
  ·rw [e2 _ (fun e' => h (t.inj _ hk' _ hk e')), t.cell k hk', tCell, tCell, cntF_no hj (by rw [e]; exact Ne.symm h), longF_no hj (by rw [e]; exact Ne.symm h)]
 ne := t.ne
 inj := t.inj
theorem TalI.born {h h' : Hp} {m i : Nat} {ys : List (ByteArray × Int)} {S ks : List ByteArray} {f : ByteArray → Nat} (t : TalI h m ys S ks f) {q : ByteArray} (hk : q ∉ ks) (hi : h.H i = none)
  (e0 : h'.H m = some (.map (ptrsL f ks ++ [(q, .ptr i 0)]))) (e1 : h'.H i = some (.cells (tCell ys q))) (e2 : ∀ n, n ≠ i → n ≠ m → h'.H n = h.H n) :
  TalI h' m ys (S ++ [q]) (ks ++ [q]) (fun k => if k = q then i else f k) := by
 have hfi : ∀ k ∈ ks, f k ≠ i := fun k hk' e => by have := t.cell k hk'; rw [e, hi] at this; cases this
 have him : i ≠ m := fun e => by rw [e, t.map] at hi; cases hi
 have hne : ∀ k ∈ ks, k ≠ q := fun k hk' e => hk (e ▸ hk')
 have hpl : ptrsL (fun k => if k = q then i else f k) ks = ptrsL f ks := List.map_congr_left fun k hk' => by simp only [if_neg (hne k hk')]
 refine ⟨?_, fun k => ?_, ?_, fun k hk' => ?_, fun k hk' => ?_, fun k hk' p hp e => ?_⟩
 ·rw [List.nodup_append]
  exact ⟨t.nd, by simp, fun a ha b hb e => by simp only [List.mem_singleton] at hb; exact hk (by rw [← hb, ← e]; exact ha)⟩
 ·rw [List.mem_append, List.mem_append, ← t.mem k]
 ·rw [e0]
  have : ptrsL (fun k => if k = q then i else f k) (ks ++ [q]) = ptrsL f ks ++ [(q, .ptr i 0)] := by
   rw [← hpl]; simp [ptrsL]
  rw [this]
 ·rcases List.mem_append.1 hk' with h1 | h1
  ·have hn := hne k h1
   simp only [if_neg hn]
   rw [e2 _ (hfi k h1) (t.ne k h1), t.cell k h1]
  ·simp only [List.mem_singleton] at h1
   subst h1; simp only [if_true]; exact e1
 ·rcases List.mem_append.1 hk' with h1 | h1
  ·simp only [if_neg (hne k h1)]; exact t.ne k h1
  ·simp only [List.mem_singleton] at h1; subst h1; simp only [if_true]; exact him
 ·rcases List.mem_append.1 hk' with h1 | h1 <;> rcases List.mem_append.1 hp with h2 | h2
  ·simp only [if_neg (hne k h1), if_neg (hne p h2)] at e; exact t.inj k h1 p h2 e
  ·simp only [List.mem_singleton] at h2
   simp only [if_neg (hne k h1), h2, if_true] at e; exact absurd e (hfi k h1)
  ·simp only [List.mem_singleton] at h1
   simp only [if_neg (hne p h2), h1, if_true] at e; exact absurd e.symm (hfi p h2)
  ·simp only [List.mem_singleton] at h1 h2; rw [h1, h2]
def nm (xs : List (ByteArray × Int)) (i : Nat) : ByteArray := (xs.getD i default).1
def laF (xs : List (ByteArray × Int)) (k : ByteArray) : Nat → Nat
 | 0 => 0
 | j + 1 => if nm xs j = k then j else laF xs k j
def fiF (xs : List (ByteArray × Int)) (k : ByteArray) : Nat → Nat
 | 0 => 0
 | j + 1 => if nm xs j = k ∧ cntF (xs.take j) k = 0 then j else fiF xs k j
def apF (xs : List (ByteArray × Int)) (k : ByteArray) : Nat → Int
 | 0 => 0
 | j + 1 => if nm xs j = k then (if cntF (xs.take j) k = 0 then (xs.length : Int) - 1 else min (apF xs k j) ((j : Int) - laF xs k j - 1)) else apF xs k j
def nearA (xs : List (ByteArray × Int)) (k : ByteArray) : Int := min (apF xs k xs.length) ((fiF xs k xs.length : Int) + xs.length - laF xs k xs.length - 1)
def ndF (xs : List (ByteArray × Int)) (k : ByteArray) (i : Nat) : Nat := ((List.range xs.length).find? fun e => nm xs ((i + (e + 1)) % xs.length) == k).getD 0 + 1
def refA (xs : List (ByteArray × Int)) (k : ByteArray) : Nat → Int
 | 0 => xs.length
 | i + 1 => if nm xs i = k then min (refA xs k i) ((ndF xs k i : Int) - 1) else refA xs k i
theorem nd_of {xs : List (ByteArray × Int)} {k : ByteArray} {i d : Nat} (h1 : 1 ≤ d) (h2 : d ≤ xs.length) (h3 : nm xs ((i + d) % xs.length) = k) (h4 : ∀ e, 1 ≤ e → e < d → nm xs ((i + e) % xs.length) ≠ k) : ndF xs k i = d := by
 have : (List.range xs.length).find? (fun e => nm xs ((i + (e + 1)) % xs.length) == k) = some (d - 1) := by
  rw [List.find?_range_eq_some]
  refine ⟨?_, by simp; omega, fun e he => ?_⟩
  ·rw [show d - 1 + 1 = d by omega, h3, ba_beq]; simp
  ·rw [ba_beq]; simp [h4 (e + 1) (by omega) (by omega)]
 rw [ndF, this]; simp; omega
theorem refA_skip {xs : List (ByteArray × Int)} {k : ByteArray} {i j : Nat} (h : i ≤ j) (hn : ∀ e, i ≤ e → e < j → nm xs e ≠ k) : refA xs k j = refA xs k i := by
 induction j with
 | zero =>
  obtain rfl : i = 0 := by omega
  rfl
 | succ j ih =>
  by_cases e : i = j + 1
  ·rw [e]
  ·rw [refA, if_neg (hn j (by omega) (by omega))]
   exact ih (by omega) fun e h1 h2 => hn e h1 (by omega)
structure NearI (xs : List (ByteArray × Int)) (k : ByteArray) (j : Nat) : Prop where
 lt : laF xs k j < j
 la : nm xs (laF xs k j) = k
 none : ∀ e, laF xs k j < e → e < j → nm xs e ≠ k
 fi : fiF xs k j ≤ laF xs k j
 fk : nm xs (fiF xs k j) = k
 fn : ∀ e, e < fiF xs k j → nm xs e ≠ k
 ap : apF xs k j = min ((xs.length : Int) - 1) (refA xs k (laF xs k j))
theorem near_inv {xs : List (ByteArray × Int)} {k : ByteArray} : ∀ {j : Nat}, j ≤ xs.length → (cntF (xs.take j) k ≠ 0 → NearI xs k j) ∧ (cntF (xs.take j) k = 0 → ∀ e, e < j → nm xs e ≠ k)
 | 0, _ => ⟨fun h => by simp [cntF] at h, fun _ e he => by omega⟩
 | j + 1, hj => by
  obtain ⟨i1, i2⟩ := near_inv (xs := xs) (k := k) (j := j) (by omega)
  have hjl : j < xs.length := by omega
  by_cases hk : nm xs j = k
  ·have hc := cntF_yes hjl hk
   refine ⟨fun _ => ?_, fun h => by omega⟩
   have el : laF xs k (j + 1) = j := by rw [laF, if_pos hk]
   by_cases h0 : cntF (xs.take j) k = 0
   ·have ef : fiF xs k (j + 1) = j := by rw [fiF, if_pos ⟨hk, h0⟩]
    have hno := i2 h0
    refine ⟨by omega, by rw [el]; exact hk, fun e a b => by omega, by omega, by rw [ef]; exact hk, fun e he => hno e (by omega), ?_⟩
    rw [el, apF, if_pos hk, if_pos h0, refA_skip (Nat.zero_le j) (fun e _ he => hno e he), refA]; omega
   ·obtain ⟨q1, q2, q3, q4, q5, q6, q7⟩ := i1 h0
    have ef : fiF xs k (j + 1) = fiF xs k j := by rw [fiF, if_neg (fun h => h0 h.2)]
    refine ⟨by omega, by rw [el]; exact hk, fun e a b => by omega, by omega, by rw [ef]; exact q5, fun e he => q6 e (by omega), ?_⟩
    rw [el, apF, if_pos hk, if_neg h0, q7]
    have hnd : ndF xs k (laF xs k j) = j - laF xs k j := by
     refine nd_of (by omega) (by omega) ?_ fun e a b => ?_
     ·rw [show laF xs k j + (j - laF xs k j) = j by omega, Nat.mod_eq_of_lt hjl]; exact hk
     ·rw [Nat.mod_eq_of_lt (by omega)]; exact q3 _ (by omega) (by omega)
    rw [refA_skip (i := laF xs k j + 1) (by omega) (fun e a b => q3 e (by omega) b), refA, if_pos q2, hnd]
    omega
  ·have hc := cntF_no hjl hk
   have el : laF xs k (j + 1) = laF xs k j := by rw [laF, if_neg hk]
   have ef : fiF xs k (j + 1) = fiF xs k j := by rw [fiF, if_neg (fun h => hk h.1)]
   have ea : apF xs k (j + 1) = apF xs k j := by rw [apF, if_neg hk]
   rw [hc]
   refine ⟨fun h => ?_, fun h e he => ?_⟩
   ·obtain ⟨q1, q2, q3, q4, q5, q6, q7⟩ := i1 h
    refine ⟨by omega, by rw [el]; exact q2, fun e a b => ?_, by omega, by rw [ef]; exact q5, fun e he => q6 e (by omega), by rw [ea, el]; exact q7⟩
    by_cases e9 : e = j
    ·rw [e9]; exact hk
    ·exact q3 e (by omega) (by omega)
   ·by_cases e9 : e = j
    ·rw [e9]; exact hk
    ·exact i2 h e (by omega)
theorem near_eq {xs : List (ByteArray × Int)} {k : ByteArray} (hk : k ∈ xs.map (·.1)) : nearA xs k = refA xs k xs.length := by
 have hc := cntF_pos hk
 obtain ⟨q1, q2, q3, q4, q5, q6, q7⟩ := (near_inv (xs := xs) (k := k) (Nat.le_refl _)).1 (by rw [List.take_length]; omega)
 have hnd : ndF xs k (laF xs k xs.length) = fiF xs k xs.length + xs.length - laF xs k xs.length := by
  refine nd_of (by omega) (by omega) ?_ fun e a b => ?_
  ·rw [show laF xs k xs.length + (fiF xs k xs.length + xs.length - laF xs k xs.length) = fiF xs k xs.length + xs.length by omega, Nat.add_mod_right, Nat.mod_eq_of_lt (by omega)]; exact q5
  ·by_cases h : laF xs k xs.length + e < xs.length
   ·rw [Nat.mod_eq_of_lt h]; exact q3 _ (by omega) h
   ·obtain ⟨f, hf⟩ : ∃ f, laF xs k xs.length + e = f + xs.length := ⟨laF xs k xs.length + e - xs.length, by omega⟩
    rw [hf, Nat.add_mod_right, Nat.mod_eq_of_lt (by omega)]
    exact q6 f (by omega)
 rw [nearA, q7, refA_skip (i := laF xs k xs.length + 1) (by omega) (fun e a b => q3 e (by omega) b), refA, if_pos q2, hnd]
 omega
def encNr (xs : List (ByteArray × Int)) (k : ByteArray) : List AV := [.v (.string k), .v (.int .i64 (cntF xs k)), .v (.int .i64 (nearA xs k))]
def nearR (xs : List (ByteArray × Int)) : List (List AV) := (onceS (xs.map (·.1))).map (encNr xs)
theorem nearR_nil : nearR [] = [] := by simp [nearR, onceS, onceL, Lib.compact, Lib.compactUpTo]
def intsL (f : ByteArray → Int) (ks : List ByteArray) : List (ByteArray × AV) := ks.map fun k => (k, .v (.int .i64 (f k)))
theorem mget_ints (f : ByteArray → Int) : ∀ {ks : List ByteArray} {k : ByteArray}, k ∈ ks → mget k (intsL f ks) = some (.v (.int .i64 (f k)))
 | [], k, h => by simp at h
 | q :: ks, k, h => by
  simp only [intsL, List.map_cons, mget]
  by_cases e : q = k
  ·subst e; simp
  ·rw [if_neg e]
   rcases List.mem_cons.1 h with h | h
   ·exact absurd h.symm e
   ·exact mget_ints f h
theorem mset_ints {f : ByteArray → Int} : ∀ {ks : List ByteArray} {k : ByteArray} (_ : k ∉ ks) (x : AV), mset k x (intsL f ks) = intsL f ks ++ [(k, x)]
 | [], k, _, x => rfl
 | q :: ks, k, h, x => by
  simp only [List.mem_cons, not_or] at h
  have ih := mset_ints (f := f) h.2 x
  simp only [intsL, List.map_cons, mset] at ih ⊢
  rw [if_neg (Ne.symm h.1), ih]; rfl
theorem mset_ints_old {f : ByteArray → Int} {y : Int} : ∀ {ks : List ByteArray} {k : ByteArray} (_ : k ∈ ks) (_ : ks.Nodup), mset k (.v (.int .i64 y)) (intsL f ks) = intsL (fun q => if q = k then y else f q) ks
 | [], k, h, _ => by simp at h
 | q :: ks, k, h, hn => by
  have hq := (List.nodup_cons.1 hn).1
  simp only [intsL, List.map_cons, mset]
  by_cases e : q = k
  ·subst e
   rw [if_pos rfl, if_pos rfl]
   congr 1
   exact List.map_congr_left fun x hx => by rw [if_neg (fun e => hq (by rw [← e]; exact hx))]
  ·rw [if_neg e, if_neg e]
   rcases List.mem_cons.1 h with h | h
   ·exact absurd h.symm e
   ·have ih := mset_ints_old (f := f) (y := y) h (List.nodup_cons.1 hn).2
    simp only [intsL] at ih
    rw [ih]
def nCell (xs : List (ByteArray × Int)) (j : Nat) (k : ByteArray) : List AV := [.v (.string k), .v (.int .i64 (cntF (xs.take j) k)), .v (.int .i64 (apF xs k j))]
structure NrI (h : Hp) (m1 m2 m3 : Nat) (xs : List (ByteArray × Int)) (j : Nat) (ks : List ByteArray) (p : ByteArray → Nat) : Prop where
 nd : ks.Nodup
 mem : ∀ k, k ∈ ks ↔ k ∈ (xs.take j).map (·.1)
 a1 : h.H m1 = some (.map (intsL (fun k => fiF xs k j) ks))
 a2 : h.H m2 = some (.map (intsL (fun k => laF xs k j) ks))
 a3 : h.H m3 = some (.map (ptrsL p ks))
 cell : ∀ k ∈ ks, h.H (p k) = some (.cells (nCell xs j k))
 ne : ∀ k ∈ ks, p k ≠ m1 ∧ p k ≠ m2 ∧ p k ≠ m3
 inj : ∀ k ∈ ks, ∀ q ∈ ks, p k = p q → k = q
theorem cnt_mem {xs : List (ByteArray × Int)} {k : ByteArray} : k ∈ xs.map (·.1) ↔ cntF xs k ≠ 0 := by
 constructor
 ·intro h; have := cntF_pos h; omega
 ·intro h
  by_cases e : k ∈ xs.map (·.1)
  ·exact e
  ·exact absurd (longF_zero e).2 h
theorem names_succ {xs : List (ByteArray × Int)} {j : Nat} (hj : j < xs.length) : (xs.take (j + 1)).map (·.1) = (xs.take j).map (·.1) ++ [nm xs j] := by rw [take_at xs j hj]; simp [nm]
theorem NrI.more {h h' : Hp} {m1 m2 m3 j : Nat} {xs : List (ByteArray × Int)} {ks : List ByteArray} {p : ByteArray → Nat} (t : NrI h m1 m2 m3 xs j ks p) (hm12 : m1 ≠ m2) (hm23 : m3 ≠ m2) (hj : j < xs.length) {q : ByteArray} (hq : nm xs j = q) (hk : q ∈ ks)
  (e2 : h'.H m2 = some (.map (mset q (.v (.int .i64 j)) (intsL (fun k => laF xs k j) ks))))
  (e1 : h'.H (p q) = some (.cells [.v (.string q), .v (.int .i64 ((cntF (xs.take j) q : Int) + 1)), .v (.int .i64 (min (apF xs q j) ((j : Int) - laF xs q j - 1)))])) (e0 : ∀ i, i ≠ p q → i ≠ m2 → h'.H i = h.H i) : NrI h' m1 m2 m3 xs (j + 1) ks p := by
 have hc : cntF (xs.take j) q ≠ 0 := cnt_mem.1 ((t.mem q).1 hk)
 have hnq := t.ne q hk
 refine ⟨t.nd, fun k => ?_, ?_, ?_, ?_, fun k hk' => ?_, t.ne, t.inj⟩
 ·rw [names_succ hj, List.mem_append, ← t.mem k, List.mem_singleton, hq]
  exact ⟨.inl, fun h => h.elim id fun e => by rw [e]; exact hk⟩
 ·rw [e0 m1 (Ne.symm hnq.1) hm12, t.a1]
  congr 2
  refine List.map_congr_left fun k _ => ?_
  have : fiF xs k (j + 1) = fiF xs k j := by
   rw [fiF, if_neg (fun h => ?_)]
   have : k = q := by rw [← hq]; exact h.1.symm
   rw [this] at h; exact hc h.2
  simp only [this]
 ·rw [e2, mset_ints_old hk t.nd]
  congr 2
  refine List.map_congr_left fun k _ => ?_
  have e9 : laF xs k (j + 1) = if nm xs j = k then j else laF xs k j := rfl
  show (k, AV.v (.int .i64 (if k = q then (j : Int) else (laF xs k j : Int)))) = (k, AV.v (.int .i64 ((laF xs k (j + 1) : Nat) : Int)))
  rw [e9, hq]
  by_cases e : k = q
  ·rw [if_pos e, if_pos e.symm]
  ·rw [if_neg e, if_neg (Ne.symm e)]
 ·rw [e0 m3 (Ne.symm hnq.2.2) hm23]; exact t.a3
 ·by_cases e : k = q
  ·subst e
   rw [e1, nCell, cntF_yes hj (show (xs.getD j default).1 = k from hq), apF, hq, if_pos rfl, if_neg hc]; rfl
  ·have hne : nm xs j ≠ k := by rw [hq]; exact Ne.symm e
   have hnk := t.ne k hk'
   rw [e0 _ (fun e' => e (t.inj k hk' q hk e')) hnk.2.1, t.cell k hk', nCell, nCell, cntF_no hj (show (xs.getD j default).1 ≠ k from hne), apF, if_neg hne]
theorem NrI.born {h h' : Hp} {m1 m2 m3 j i : Nat} {xs : List (ByteArray × Int)} {ks : List ByteArray} {p : ByteArray → Nat} (t : NrI h m1 m2 m3 xs j ks p) (hj : j < xs.length) {q : ByteArray} (hq : nm xs j = q) (hk : q ∉ ks) (hi : h.H i = none)
  (e1 : h'.H m1 = some (.map (mset q (.v (.int .i64 j)) (intsL (fun k => fiF xs k j) ks)))) (e2 : h'.H m2 = some (.map (mset q (.v (.int .i64 j)) (intsL (fun k => laF xs k j) ks)))) (e3 : h'.H m3 = some (.map (mset q (.ptr i 0) (ptrsL p ks))))
  (e4 : h'.H i = some (.cells [.v (.string q), .v (.int .i64 1), .v (.int .i64 ((xs.length : Int) - 1))])) (e0 : ∀ n, n ≠ i → n ≠ m1 → n ≠ m2 → n ≠ m3 → h'.H n = h.H n) : NrI h' m1 m2 m3 xs (j + 1) (ks ++ [q]) (fun k => if k = q then i else p k) := by
 have hc : cntF (xs.take j) q = 0 := by
  by_cases e : cntF (xs.take j) q = 0
  ·exact e
  ·exact absurd ((t.mem q).2 (cnt_mem.2 e)) hk
 have hi1 : i ≠ m1 := fun e => by rw [e, t.a1] at hi; cases hi
 have hi2 : i ≠ m2 := fun e => by rw [e, t.a2] at hi; cases hi
 have hi3 : i ≠ m3 := fun e => by rw [e, t.a3] at hi; cases hi
 have hpi : ∀ k ∈ ks, p k ≠ i := fun k hk' e => by have := t.cell k hk'; rw [e, hi] at this; cases this
 have hne : ∀ k ∈ ks, k ≠ q := fun k hk' e => hk (e ▸ hk')
 have hl : ∀ k ∈ ks, laF xs k (j + 1) = laF xs k j := fun k hk' => by rw [laF, hq, if_neg (Ne.symm (hne k hk'))]
 have hf : ∀ k ∈ ks, fiF xs k (j + 1) = fiF xs k j := fun k hk' => by rw [fiF, hq, if_neg (fun h => hne k hk' h.1.symm)]
 refine ⟨?_, fun k => ?_, ?_, ?_, ?_, fun k hk' => ?_, fun k hk' => ?_, fun k hk' u hu e => ?_⟩
 ·rw [List.nodup_append]
  exact ⟨t.nd, by simp, fun a ha b hb e => by simp only [List.mem_singleton] at hb; exact hk (by rw [← hb, ← e]; exact ha)⟩
 ·rw [names_succ hj, List.mem_append, List.mem_append, ← t.mem k, hq]
 ·rw [e1, mset_ints hk, intsL, intsL, List.map_append]
  have : (ks.map fun k => (k, AV.v (.int .i64 (fiF xs k j : Int)))) = ks.map fun k => (k, AV.v (.int .i64 (fiF xs k (j + 1) : Int))) := List.map_congr_left fun k hk' => by rw [hf k hk']
  rw [this]
  simp only [List.map_cons, List.map_nil, fiF, hq, hc, and_self, if_true]
 ·rw [e2, mset_ints hk, intsL, intsL, List.map_append]
  have : (ks.map fun k => (k, AV.v (.int .i64 (laF xs k j : Int)))) = ks.map fun k => (k, AV.v (.int .i64 (laF xs k (j + 1) : Int))) := List.map_congr_left fun k hk' => by rw [hl k hk']
  rw [this]
  simp only [List.map_cons, List.map_nil, laF, hq, if_true]
 ·rw [e3, mset_ptrs hk, ptrsL, ptrsL, List.map_append]
  have : (ks.map fun k => (k, AV.ptr (p k) 0)) = ks.map fun k => (k, AV.ptr (if k = q then i else p k) 0) := List.map_congr_left fun k hk' => by rw [if_neg (hne k hk')]
  rw [this]
  simp only [List.map_cons, List.map_nil, if_true]
 ·rcases List.mem_append.1 hk' with h1 | h1
  ·have hn := hne k h1
   have hnk := t.ne k h1
   simp only [if_neg hn]
   have hnm : nm xs j ≠ k := by rw [hq]; exact Ne.symm hn
   rw [e0 _ (hpi k h1) hnk.1 hnk.2.1 hnk.2.2, t.cell k h1, nCell, nCell, cntF_no hj (show (xs.getD j default).1 ≠ k from hnm), apF, if_neg hnm]
  ·simp only [List.mem_singleton] at h1
   subst h1
   simp only [if_true]
   rw [e4, nCell, cntF_yes hj (show (xs.getD j default).1 = k from hq), apF, hq, if_pos rfl, hc, if_pos rfl]; rfl
 ·rcases List.mem_append.1 hk' with h1 | h1
  ·simp only [if_neg (hne k h1)]; exact t.ne k h1
  ·simp only [List.mem_singleton] at h1; subst h1; simp only [if_true]; exact ⟨hi1, hi2, hi3⟩
 ·rcases List.mem_append.1 hk' with h1 | h1 <;> rcases List.mem_append.1 hu with h2 | h2
  ·simp only [if_neg (hne k h1), if_neg (hne u h2)] at e; exact t.inj k h1 u h2 e
  ·simp only [List.mem_singleton] at h2
   simp only [if_neg (hne k h1), h2, if_true] at e; exact absurd e (hpi k h1)
  ·simp only [List.mem_singleton] at h1
   simp only [if_neg (hne u h2), h1, if_true] at e; exact absurd e.symm (hpi u h2)
  ·simp only [List.mem_singleton] at h1 h2; rw [h1, h2]
theorem near_bd {xs : List (ByteArray × Int)} {k : ByteArray} : ∀ j, j ≤ xs.length → laF xs k j ≤ j ∧ fiF xs k j ≤ j ∧ -10000 ≤ apF xs k j + xs.length * 0 + 10000 - 10000 + j * 0 + (if xs.length ≤ 5000 then 0 else 100000000000) + xs.length
 | 0, _ => ⟨Nat.le_refl _, Nat.le_refl _, by rw [apF]; split <;> omega⟩
 | j + 1, hj => by
  obtain ⟨q1, q2, q3⟩ := near_bd (xs := xs) (k := k) j (by omega)
  refine ⟨by rw [laF]; split <;> omega, by rw [fiF]; split <;> omega, ?_⟩
  rw [apF]
  split
  ·split
   ·split <;> omega
   ·split at q3 <;> rename_i h9 <;> simp only [if_pos, if_neg, h9, not_false_eq_true] <;> omega
  ·exact q3
open Go.RowKit Go.Lib Go.Sort
theorem onceS_cells (hv : List ByteArray) : (onceL (hv.map (·.data.toList))).map encStr = (onceS hv).map Value.string := by
  rw [onceS, List.map_map]
  rfl
theorem belowGrow (w : World) (os : Array Obj) : Below w.heap.size w (grow w os) :=
  ⟨rfl, rfl, rfl, by simp [grow], fun k hk => by show (w.heap ++ os)[k]? = _; rw [Array.getElem?_append_left hk]⟩
theorem ownsRow_bel {w w' : World} {b size n : Nat} {e : TypeId} {v : Value} {xs : List Value} (h : w.ownsRow b e size v n xs) (hb : Below w.heap.size w w') : w'.ownsRow b e size v n xs := by
  obtain ⟨h1, h2⟩ := h
  refine ⟨h1, ?_⟩
  rcases h2 with h2 | ⟨g, c, cur, e1, e2, e3, e4⟩
  · exact .inl h2
  · exact .inr ⟨g, c, cur, e1, e2, (hb.block g (Array.getElem?_eq_some_iff.1 e3).1).trans e3, e4⟩
set_option maxRecDepth 100000 in
set_option maxHeartbeats 2000000 in
theorem once_walk (g o c : Nat) (hv : List ByteArray) (w : World) (hc : ∀ j, j < hv.length → w.cell? ⟨g, o + j, none⟩ = some (.string (hv.getD j ByteArray.empty))) (h0 : 0 < hv.length) (hl : hv.length ≤ 100000) :
    Calls Tryz.prog 104 #[.slice (some ⟨g, o, none⟩) hv.length c] w fun e w' => ∃ v', e = .returned v' ∧ w'.ownsRow w.heap.size 9 1 v' (onceS hv).length ((onceS hv).map Value.string) ∧ Below w.heap.size w w' := by
  have HCL : Hid (Calls Tryz.prog 155 #[.slice (some ⟨g, o, none⟩) hv.length c] w fun e w' => ∃ v', e = .returned v' ∧ w'.ownsRow w.heap.size 9 1 v' hv.length (hv.map Value.string) ∧ v' ≠ .slice none 0 0 ∧ Below w.heap.size w w') := by
    have := Tryz.slices_Clone_string g o hv.length c hv w (Nat.le_refl _) (by omega) hc
    rw [List.take_length] at this
    exact this
  clear hc
  go_enter Tryz.func104, Tryz.ntmps104
  go_wp2_with fail
  refine HCL.out.mono ?_
  rintro e w1 ⟨v1, rfl, own1, hne, hb1⟩
  have own1' : w1.ownsRow w.heap.size 9 1 v1 hv.length ((hv.map (·.data.toList)).map encStr) := by rw [map_encStr]; exact own1
  obtain ⟨g1, c1, rfl, hg1, hg1l, hnc, hcm, _, hH⟩ := holds_of_ownsRow own1' hne
  have HH := Lib.hid hH
  have HO := Lib.hid own1'
  clear own1 own1' hne HCL hH
  obtain ⟨ss, hss⟩ : ∃ ss : List (List UInt8), ss = hv.map (·.data.toList) := ⟨_, rfl⟩
  rw [← hss] at HH HO
  have hsl : ss.length = hv.length := by rw [hss]; simp
  have HSS := Lib.hid hss
  have HSL := Lib.hid hsl
  have HSC : Hid (Calls Tryz.prog 138 #[.slice (some ⟨g1, 0, none⟩) hv.length c1] w1 fun e w' => e = .returned (.tuple #[]) ∧ ∃ n os, w' = grow (putRow encStr (Sort.ahead w1 n) g1 0 (ss.mergeSort fun x y => decide (x ≤ y)).toArray) os) := by
    have := Tryz.slices_Sort_string g1 0 c1 ss w1 HH.out hg1l (by omega)
    rw [hsl] at this
    exact this
  clear hss hsl HH
  go_wp2_with fail
  refine HSC.out.mono ?_
  rintro e w2 ⟨rfl, n2, os2, hw2⟩
  obtain ⟨ts, hts⟩ : ∃ ts, ts = ss.mergeSort fun x y => decide (x ≤ y) := ⟨_, rfl⟩
  rw [← hts] at hw2
  have htl : ts.length = hv.length := by rw [hts, List.length_mergeSort]; exact HSL.out
  have own2 := ownsRow_bel (ownsRow_putRow (q := n2) (k := hv.length) HO.out htl (Nat.le_refl _)) (belowGrow (putRow encStr (Sort.ahead w1 n2) g1 0 ts.toArray) os2)
  rw [← hw2, List.take_of_length_le (by omega)] at own2
  have hb2 : Below w.heap.size w w2 := by rw [hw2]; exact (below_putRow hb1 hg1).trans ((belowGrow _ _).mono (by have := hb1.size; simpa [putRow, mapBlock, Sort.ahead] using this))
  obtain ⟨g3, c3, hv3, _, _, hnc3, _, _, hH2⟩ := holds_of_ownsRow own2 (by simp)
  simp only [Value.slice.injEq, Option.some.injEq, Addr.mk.injEq, and_true, true_and] at hv3
  obtain ⟨rfl, rfl⟩ := hv3
  have HO2 := Lib.hid own2
  have HTS := Lib.hid (show onceL (hv.map (·.data.toList)) = Lib.compact ts by rw [onceL, hts, HSS.out])
  have HCC : Hid (Calls Tryz.prog 156 #[.slice (some ⟨g1, 0, none⟩) hv.length c1] w2 fun e w' => e = .returned (.slice (some ⟨g1, 0, none⟩) (Lib.compact ts).length c1) ∧ ∃ q, w' = putRow encStr (Sort.ahead w2 q) g1 0 (Lib.compact ts ++ List.replicate (hv.length - (Lib.compact ts).length) []).toArray) := by
    have := Tryz.slices_Compact_string g1 0 c1 ts w2 hH2 (by omega) (by omega)
    rw [htl] at this
    exact this
  have HTL := Lib.hid htl
  clear hw2 own2 hts htl hH2 HSC
  go_wp2_with fail
  refine HCC.out.mono ?_
  rintro e w3 ⟨rfl, q3, hw3⟩
  have hcl : (Lib.compact ts).length ≤ hv.length := by have := Lib.compact_length_le ts; have := HTL.out; omega
  have own3 := ownsRow_putRow (q := q3) (k := (Lib.compact ts).length) (ys := Lib.compact ts ++ List.replicate (hv.length - (Lib.compact ts).length) []) HO2.out (by simp; omega) hcl
  rw [← hw3, List.take_append_of_le_length (Nat.le_refl _), List.take_length, ← HTS.out, onceS_cells] at own3
  have hrl : (onceL (hv.map (·.data.toList))).length = (onceS hv).length := by simp [onceS]
  rw [hrl] at own3
  have hb3 : Below w.heap.size w w3 := by rw [hw3]; exact below_putRow hb2 hg1
  have HO3 := Lib.hid own3
  have HRL := Lib.hid (show (Lib.compact ts).length = (onceS hv).length by rw [← HTS.out, hrl])
  clear own3 hw3 hrl HCC
  rw [HRL.out]
  go_wp2_with fail
  go_ret
  exact ⟨_, rfl, HO3.out, hb3⟩
abbrev zPOE : List Nat := [0, 1, 2, 3, 4, 5, 6]
abbrev zPOP : List (Nat × List Nat × List Nat) := [(7, [], [])]
abbrev zPPE : List Nat := [0, 1, 2, 3, 4, 5, 6]
abbrev zPPP : List (Nat × List Nat × List Nat) := [(7, [], [])]
attribute [go_sem] zPOE zPOP zPPE zPPP
theorem flat_encS (l : List ByteArray) : (l.map encS).flatten = l.map fun x => AV.v (.string x) := by
 induction l with
 | nil => rfl
 | cons x q ih => simp [encS, ih]
theorem repL_strs (G : Gh) (l : List ByteArray) : RepL G (l.map fun x => AV.v (.string x)) (l.map Value.string) := by
 refine ⟨by simp, fun j a b => ?_⟩
 simp only [List.getElem_map]
 exact ⟨.v _ rfl, rfl⟩
theorem repL_strs_inv {G : Gh} {l : List ByteArray} {us : List Value} (h : RepL G (l.map fun x => AV.v (.string x)) us) : us = l.map Value.string := by
 obtain ⟨h1, h2⟩ := h
 apply List.ext_getElem (by simpa using h1)
 intro j a b
 have h3 := (h2 j (by simpa using b) a).1
 simp only [List.getElem_map] at h3 ⊢
 generalize us[j] = y at h3
 cases h3; rfl
theorem g_once (ns : List ByteArray) (k : Option Nat) (h : Hp) (h0 : 0 < ns.length) (hl : ns.length ≤ 100000) : ACalls Tryz.prog 104 [.row 1 (ns.map encS) k] h (fun r h' => r = .row 1 ((onceS ns).map encS) none ∧ h' = h) := by
 refine acalls_mk (by kernel_rfl) fun G w vs hs hv ha => ?_
 have hr := ha 0 (by simp)
 have hvs : vs = #[vs.getD 0 undef] := by
  have hv1 : vs.size = 1 := hv
  apply Array.ext (by simpa using hv1)
  intro j hj hj'
  simp only [List.size_toArray, List.length_cons, List.length_nil] at hj'
  obtain rfl : j = 0 := by omega
  simp [Array.getD, hv1]
 rw [hvs]
 generalize vs.getD 0 undef = v at *
 simp only [List.getElem_cons_zero] at hr
 rcases Rep.row_inv hr with ⟨a, _, e⟩ | ⟨g, o, c, us, rfl, hc, hz, hru, hu⟩
 ·have := congrArg List.length e; simp only [List.length_map, List.length_nil] at this; omega
 ·rw [flat_encS] at hru
  have hus := repL_strs_inv hru
  rw [List.length_map] at hc ⊢
  refine (once_walk g o c ns w (fun j hj => hs.cell _ _ _ (hu j _ ?_)) h0 hl).mono ?_
  ·rw [hus, List.getElem?_map, List.getElem?_eq_getElem hj, List.getD_eq_getElem?_getD, List.getElem?_eq_getElem hj]; rfl
  ·rintro _ w' ⟨v', rfl, own, bel⟩
   obtain ⟨G', g1, f1, s1, r1⟩ := row_of_own hs bel own (xs := (onceS ns).map encS) (by simp) (fun x hx => by obtain ⟨y, _, rfl⟩ := List.mem_map.1 hx; rfl) (by rw [flat_encS]; exact repL_strs G _)
   exact ⟨v', rfl, _, h, G', ⟨rfl, rfl⟩, g1, f1, s1, r1⟩
theorem g_itemsOf (xs : List (ByteArray × Int)) (h : Hp) (h0 : 0 < xs.length) (hl : xs.length ≤ 5000) : ACalls Tryz.prog 82 [.row 2 (xs.map encStep) none] h (fun r h' => r = .row 1 ((onceS (xs.map (·.1))).map encS) none ∧ Hp.le h h') := by
 refine gE Tryz.func82 rfl (by kernel_rfl) 19 rfl fun c => ?_
 (repeat (first | refine gQ rfl ?_ | (refine gM zM28 fun K1 hK1 => ?_; simp only [go_sem, ↓reduceIte, reduceCtorEq, nA, nB, nC, nD, nE, nF] <;> and_intros <;> first | (apply hK1; clear hK1 K1) | (intros; first | omega | decide | (simp_all <;> omega)) | skip)))
 refine awp_seq ?_
 refine awp_own 3 1 rfl ⟨rfl, rfl⟩ (fun k hk => ?_)
 replace hk : h.T k = none := hk
 (repeat (first | refine gO rfl ?_ | (refine gM zM28 fun K1 hK1 => ?_; simp only [go_sem, ↓reduceIte, reduceCtorEq, nA, nB, nC, nD, nE, nF] <;> and_intros <;> first | (apply hK1; clear hK1 K1) | (intros; first | omega | decide | (simp_all <;> omega)) | skip)))
 refine awp_loopC (rl false [3, 1, 2, 3, 11]) 0 (fun g s => ∃ j : Nat, g + j = xs.length ∧
  s = ⟨((jnk 3 ((.row 1 (((xs.take j).map (·.1)).map encS) (some k)) :: AV.junk :: AV.junk :: ((.row 2 (xs.map encStep) none) :: (.v (.int .i64 xs.length)) :: (.v (.int .i64 j)) :: (jnk 11 []))))), [], ⟨h.H, upd h.T k (some (.tail j))⟩⟩) xs.length ⟨0, by omega, rfl⟩ ?_
 rintro g _ ⟨j, hj, rfl⟩
 have hTq : upd h.T k (some (TO.tail j)) k = some (.tail j) := upd_same _ _ _
 have hlj : (((xs.take j).map (·.1)).map encS).length = j := by simp; omega
 (repeat (first | refine gO rfl ?_ | (refine gM zM28 fun K1 hK1 => ?_; simp only [go_sem, ↓reduceIte, reduceCtorEq, nA, nB, nC, nD, nE, nF] <;> and_intros <;> first | (apply hK1; clear hK1 K1) | (intros; first | omega | decide | (simp_all <;> omega)) | skip)))
 refine awp_cond (t := _) rfl (fun h1 => ?_) (fun h1 => ?_)
 ·simp only [decide_eq_true_eq] at h1
  have hjl : j < xs.length := by omega
  have gx : (xs.map encStep).getD j [] = encStep (xs.getD j default) := getD_enc encStep xs j default hjl
  have tx : ((xs.take (j + 1)).map (·.1)).map encS = ((xs.take j).map (·.1)).map encS ++ [encS (xs.getD j default).1] := by rw [take_at xs j hjl]; simp
  generalize xs.getD j default = x at gx tx
  (repeat (first | refine gO rfl ?_ | (refine gM zM28 fun K1 hK1 => ?_; simp only [go_sem, ↓reduceIte, reduceCtorEq, nA, nB, nC, nD, nE, nF, Int.toNat_natCast, gx, encStep, hTq, hlj] <;> and_intros <;> first | (apply hK1; clear hK1 K1) | (intros; first | omega | decide | (simp_all <;> omega)) | skip)))
  refine ⟨g - 1, by omega, j + 1, by omega, ?_⟩
  rw [tx]; rfl
 ·simp only [decide_eq_false_iff_not] at h1
  have hjl : j = xs.length := by omega
  subst hjl
  rw [List.take_length] at *
  (repeat (first | refine gO rfl ?_ | (refine gM zM28 fun K1 hK1 => ?_; simp only [go_sem, ↓reduceIte, reduceCtorEq, nA, nB, nC, nD, nE, nF] <;> and_intros <;> first | (apply hK1; clear hK1 K1) | (intros; first | omega | decide | (simp_all <;> omega)) | skip)))
  refine (g_once (xs.map (·.1)) (some k) _ (by simpa using h0) (by simp; omega)).mono ?_; rintro _ hz ⟨rfl, hh⟩; apply hK1; clear hK1 K1; rw [hh]; clear hh hz
  (repeat (first | refine gO rfl ?_ | (refine gM zM28 fun K1 hK1 => ?_; simp only [go_sem, ↓reduceIte, reduceCtorEq, nA, nB, nC, nD, nE, nF] <;> and_intros <;> first | (apply hK1; clear hK1 K1) | (intros; first | omega | decide | (simp_all <;> omega)) | skip)))
  simp only [Tryz.results82, go_sem, ↓reduceIte, reduceCtorEq, nA, nB, nC, nD, nE, nF]
  refine ⟨_, h, Weak.refl _, ⟨fun _ => .inr rfl, fun i => ?_⟩, rfl, Hp.le.refl _⟩
  by_cases e : i = k
  ·subst e; exact .inl hk
  ·exact .inr (upd_other _ _ e).symm
end Go.Proofs.YtoleejecmefogaaGreatDoor
namespace Go.Proofs
open Go.Shelf
set_option linter.unusedVariables false
set_option linter.unusedSimpArgs false
def Tryz.sorted79_ren : Go.Shelf.Ren := ⟨fun | 6 => 79 | 8 => 137 | 9 => 138 | 11 => 185 | 13 => 151 | 12 => 186 | 23 => 204 | 24 => 205 | 14 => 223 | 15 => 224 | 16 => 225 | 17 => 226 | 18 => 227 | 19 => 228 | 20 => 229 | 21 => 230 | 22 => 231 | 25 => 258 | 26 => 240 | 27 => 241 | 28 => 259 | 29 => 260 | 30 => 261 | 31 => 281 | n => n, fun | 26 => 9 | 28 => 131 | 24 => 80 | 0 => 0 | 3 => 3 | 37 => 225 | 48 => 278 | 50 => 280 | 4 => 4 | 40 => 272 | 39 => 271 | 45 => 190 | 5 => 5 | 9 => 9 | 51 => 304 | 55 => 308 | 57 => 323 | 58 => 116 | 33 => 140 | n => n, fun | n => n⟩
theorem Tryz.sorted79 : Go.Proofs.SlLaysZ.n6 Tryz.prog Tryz.sorted79_ren := {
  mixed := by kernel_rfl
  f6 := ⟨Tryz.f79.name, by decide, Tryz.func79.trans (congrArg some (by kernel_rfl))⟩
  f8 := ⟨Tryz.f137.name, by decide, Tryz.func137.trans (congrArg some (by kernel_rfl))⟩
  f11 := ⟨Tryz.f185.name, by decide, Tryz.func185.trans (congrArg some (by kernel_rfl))⟩
  t0 := Tryz.underlying0
  a0 := Tryz.isAgg0
  z0 := Tryz.sizeOf0
  v0 := Tryz.zeroValue0
  t24 := Tryz.underlying80
  a24 := Tryz.isAgg80
  z24 := Tryz.sizeOf80
  v24 := Tryz.zeroValue80
  t26 := Tryz.underlying9
  a26 := Tryz.isAgg9
  z26 := Tryz.sizeOf9
  v26 := Tryz.zeroValue9
  t28 := Tryz.underlying131
  a28 := Tryz.isAgg131
  z28 := Tryz.sizeOf131
  v28 := Tryz.zeroValue131
  i26 := by kernel_rfl }
def Tryz.sort138_ren : Go.Shelf.Ren := ⟨fun | 6 => 138 | 8 => 151 | 9 => 186 | 19 => 204 | 20 => 205 | 21 => 223 | 22 => 224 | 23 => 225 | 24 => 226 | 25 => 227 | 26 => 228 | 27 => 229 | 28 => 230 | 29 => 231 | 36 => 258 | 31 => 240 | 32 => 241 | 37 => 259 | 38 => 260 | 39 => 261 | 41 => 281 | n => n, fun | 27 => 80 | 29 => 9 | 3 => 3 | 32 => 225 | 26 => 80 | 0 => 0 | 44 => 278 | 46 => 280 | 4 => 4 | 36 => 272 | 35 => 271 | 41 => 190 | 5 => 5 | 9 => 9 | 53 => 304 | 57 => 308 | 63 => 323 | 64 => 116 | n => n, fun | n => n⟩
theorem Tryz.sort138 : Go.Proofs.SlLaysM.n6 Tryz.prog Tryz.sort138_ren := {
  mixed := by kernel_rfl
  f6 := ⟨Tryz.f138.name, by decide, Tryz.func138.trans (congrArg some (by kernel_rfl))⟩
  f8 := Tryz.func151.trans (congrArg some (by kernel_rfl))
  f9 := ⟨Tryz.f186.name, by decide, Tryz.func186.trans (congrArg some (by kernel_rfl))⟩
  f19 := Tryz.func204.trans (congrArg some (by kernel_rfl))
  f20 := Tryz.func205.trans (congrArg some (by kernel_rfl))
  f21 := ⟨Tryz.f223.name, by decide, Tryz.func223.trans (congrArg some (by kernel_rfl))⟩
  f22 := ⟨Tryz.f224.name, by decide, Tryz.func224.trans (congrArg some (by kernel_rfl))⟩
  f23 := ⟨Tryz.f225.name, by decide, Tryz.func225.trans (congrArg some (by kernel_rfl))⟩
  f24 := ⟨Tryz.f226.name, by decide, Tryz.func226.trans (congrArg some (by kernel_rfl))⟩
  f25 := ⟨Tryz.f227.name, by decide, Tryz.func227.trans (congrArg some (by kernel_rfl))⟩
  f26 := ⟨Tryz.f228.name, by decide, Tryz.func228.trans (congrArg some (by kernel_rfl))⟩
  f27 := ⟨Tryz.f229.name, by decide, Tryz.func229.trans (congrArg some (by kernel_rfl))⟩
  f28 := ⟨Tryz.f230.name, by decide, Tryz.func230.trans (congrArg some (by kernel_rfl))⟩
  f29 := ⟨Tryz.f231.name, by decide, Tryz.func231.trans (congrArg some (by kernel_rfl))⟩
  f31 := Tryz.func240.trans (congrArg some (by kernel_rfl))
  f32 := Tryz.func241.trans (congrArg some (by kernel_rfl))
  f36 := ⟨Tryz.f258.name, by decide, Tryz.func258.trans (congrArg some (by kernel_rfl))⟩
  f37 := ⟨Tryz.f259.name, by decide, Tryz.func259.trans (congrArg some (by kernel_rfl))⟩
  f38 := ⟨Tryz.f260.name, by decide, Tryz.func260.trans (congrArg some (by kernel_rfl))⟩
  f39 := ⟨Tryz.f261.name, by decide, Tryz.func261.trans (congrArg some (by kernel_rfl))⟩
  f41 := ⟨Tryz.f281.name, by decide, Tryz.func281.trans (congrArg some (by kernel_rfl))⟩
  t0 := Tryz.underlying0
  a0 := Tryz.isAgg0
  z0 := Tryz.sizeOf0
  v0 := Tryz.zeroValue0
  t3 := Tryz.underlying3
  a3 := Tryz.isAgg3
  z3 := Tryz.sizeOf3
  v3 := Tryz.zeroValue3
  t4 := Tryz.underlying4
  a4 := Tryz.isAgg4
  z4 := Tryz.sizeOf4
  v4 := Tryz.zeroValue4
  t5 := Tryz.underlying5
  a5 := Tryz.isAgg5
  z5 := Tryz.sizeOf5
  v5 := Tryz.zeroValue5
  t9 := Tryz.underlying9
  a9 := Tryz.isAgg9
  z9 := Tryz.sizeOf9
  v9 := Tryz.zeroValue9
  t26 := Tryz.underlying80
  a26 := Tryz.isAgg80
  z26 := Tryz.sizeOf80
  v26 := Tryz.zeroValue80
  t27 := Tryz.underlying80
  a27 := Tryz.isAgg80
  z27 := Tryz.sizeOf80
  v27 := Tryz.zeroValue80
  t29 := Tryz.underlying9
  a29 := Tryz.isAgg9
  z29 := Tryz.sizeOf9
  v29 := Tryz.zeroValue9
  t32 := Tryz.underlying225
  a32 := Tryz.isAgg225
  z32 := Tryz.sizeOf225
  v32 := Tryz.zeroValue225
  t35 := Tryz.underlying271
  a35 := Tryz.isAgg271
  z35 := Tryz.sizeOf271
  v35 := Tryz.zeroValue271
  t36 := Tryz.underlying272
  a36 := Tryz.isAgg272
  z36 := Tryz.sizeOf272
  v36 := Tryz.zeroValue272
  t41 := Tryz.underlying190
  a41 := Tryz.isAgg190
  z41 := Tryz.sizeOf190
  v41 := Tryz.zeroValue190
  t44 := Tryz.underlying278
  a44 := Tryz.isAgg278
  z44 := Tryz.sizeOf278
  v44 := Tryz.zeroValue278
  t46 := Tryz.underlying280
  a46 := Tryz.isAgg280
  z46 := Tryz.sizeOf280
  v46 := Tryz.zeroValue280
  t53 := Tryz.underlying304
  a53 := Tryz.isAgg304
  z53 := Tryz.sizeOf304
  v53 := Tryz.zeroValue304
  t57 := Tryz.underlying308
  a57 := Tryz.isAgg308
  z57 := Tryz.sizeOf308
  v57 := Tryz.zeroValue308
  t63 := Tryz.underlying323
  a63 := Tryz.isAgg323
  z63 := Tryz.sizeOf323
  v63 := Tryz.zeroValue323
  t64 := Tryz.underlying116
  a64 := Tryz.isAgg116
  z64 := Tryz.sizeOf116
  v64 := Tryz.zeroValue116 }
open Go.RowKit Go.Maps Go.Sort in
theorem Tryz.sorts79 (m : Nat) : AnyZ.SortsIn Tryz.prog Tryz.sorted79_ren Fence.wide m :=
  ⟨fun blk off cap ss W hH hblk hsz => callsIn_wide.2 (AnyM.slices_Sort_string Tryz.sort138 blk off cap ss W hH hblk hsz),
   fun p cap W => callsIn_wide.2 (AnyM.slices_Sort_string_none Tryz.sort138 p cap W)⟩
def Tryz.keys90_ren : Go.Shelf.Ren := ⟨fun | 7 => 90 | 10 => 145 | n => n, fun | 23 => 145 | 26 => 9 | 3 => 143 | 28 => 131 | 0 => 0 | 27 => 130 | 33 => 140 | 4 => 4 | n => n, fun | n => n⟩
theorem Tryz.keys90 : Go.Proofs.SlLaysZ.n7 Tryz.prog Tryz.keys90_ren := {
  mixed := by kernel_rfl
  f7 := ⟨Tryz.f90.name, by decide, Tryz.func90.trans (congrArg some (by kernel_rfl))⟩
  f10 := ⟨Tryz.f145.name, by decide, Tryz.func145.trans (congrArg some (by kernel_rfl))⟩
  t0 := Tryz.underlying0
  a0 := Tryz.isAgg0
  z0 := Tryz.sizeOf0
  v0 := Tryz.zeroValue0
  t4 := Tryz.underlying4
  a4 := Tryz.isAgg4
  z4 := Tryz.sizeOf4
  v4 := Tryz.zeroValue4
  t23 := Tryz.underlying145
  a23 := Tryz.isAgg145
  z23 := Tryz.sizeOf145
  v23 := Tryz.zeroValue145
  t26 := Tryz.underlying9
  a26 := Tryz.isAgg9
  z26 := Tryz.sizeOf9
  v26 := Tryz.zeroValue9
  t27 := Tryz.underlying130
  a27 := Tryz.isAgg130
  z27 := Tryz.sizeOf130
  v27 := Tryz.zeroValue130
  t28 := Tryz.underlying131
  a28 := Tryz.isAgg131
  z28 := Tryz.sizeOf131
  v28 := Tryz.zeroValue131
  t33 := Tryz.underlying140
  a33 := Tryz.isAgg140
  z33 := Tryz.sizeOf140
  v33 := Tryz.zeroValue140 }
end Go.Proofs
