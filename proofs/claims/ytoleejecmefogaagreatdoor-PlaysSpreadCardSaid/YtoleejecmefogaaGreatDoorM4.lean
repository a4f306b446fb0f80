/- loop.Spread. -/
import Derived.Test.YtoleejecmefogaaGreatDoorM3
import Derived.Below
import Derived.Test.YtoleejecmefogaaGreatDoorCards
import Derived.Test.YtoleejecmefogaaGreatDoorTie
import Derived.ProofKit
import Derived.OpenShut
import Derived.LaidMore
import Derived.Lay
import Derived.Stop.Joined
namespace Go.Proofs.YtoleejecmefogaaGreatDoor
open Go
set_option linter.unusedVariables false
set_option linter.unusedSimpArgs false
open Nat renaming reduceAdd → nA, reduceSub → nB, reduceMul → nC, reduceLT → nD, reduceLeDiff → nE, reduceEqDiff → nF, reduceMod → nG, reduceDiv → nH, reducePow → nI
abbrev zM40 : Option Tmp → Nat := mdL [(9, 1), (21, 2)]
abbrev zM41 : Option Tmp → Nat := mdL []
abbrev zM42 : Option Tmp → Nat := mdL [(5, 2)]
abbrev zM43 : Option Tmp → Nat := mdL [(5, 1)]
abbrev zM44 : Option Tmp → Nat := mdL [(1, 1), (2, 1)]
abbrev zM45 : Option Tmp → Nat := mdL [(1, 1)]
abbrev zM46 : Option Tmp → Nat := mdL [(4, 1), (6, 1), (8, 1)]
abbrev zM47 : Option Tmp → Nat := mdL [(4, 1), (5, 2), (7, 1), (8, 1)]
abbrev zM48 : Option Tmp → Nat := mdL [(4, 1), (17, 2)]
attribute [go_sem] zM40 zM41 zM42 zM43 zM44 zM45 zM46 zM47 zM48
abbrev zP13E : List Nat := [0, 1, 2, 3, 4, 5, 6, 7]
abbrev zP13P : List (Nat × List Nat × List Nat) := [(8, [], [9, 10]), (11, [], [])]
attribute [go_sem] zP13E zP13P
set_option maxRecDepth 100000
set_option maxHeartbeats 8000000
structure SP (h : Hp) (i kl kw ko mb : Nat) (ws : List Wn) (j : Nat) : Prop where
 hi : h.H i = some (.cells [.row 3 (ws.map encW) none, .arr 1 kl j, .arr 1 kw ws.length, .arr 1 ko 0, .map mb])
 hm : h.H mb = some (.map [])
 tl : h.T kl = some (.cont 1 (((manyS ws).take j).map encI))
 tw : h.T kw = some (.cont 1 ((List.replicate ws.length (0 : Int)).map encI))
 tq : h.T ko = some (.cont 1 [])
 n1 : kl ≠ kw ∧ kl ≠ ko ∧ kw ≠ ko
 n2 : mb ≠ i
noncomputable def spreadA (ws : List Wn) : AV := if wantE ws = 0 then (match spreadV ws with
  | some p => .tup [.row 1 (p.map encS) none, .v (.bool true), .v (.int .i64 0)]
  | none => .tup [.row 1 [] none, .v (.bool false), .v (.int .i64 0)]) else .tup [.row 1 [] none, .v (.bool false), .v (.int .i64 (wantE ws))]
theorem g_spreadP (ws : List Wn) (h : Hp) (hs : ∀ x ∈ ws, WOk x) (hl : ws.length ≤ 1000) : ACalls Tryz.prog 38 [.row 3 (ws.map encW) none] h (fun r _ => r = spreadA ws) := by
 have hsA : spreadA ws = if wantE ws = 0 then (match spreadV ws with
  | some p => .tup [.row 1 (p.map encS) none, .v (.bool true), .v (.int .i64 0)]
  | none => .tup [.row 1 [] none, .v (.bool false), .v (.int .i64 0)]) else .tup [.row 1 [] none, .v (.bool false), .v (.int .i64 (wantE ws))] := rfl
 have hck := g_cntP ws h hs hl
 have hok := fun e => want_ok (ws := ws) e
 have hv : spreadV ws = (solve (apt ws) (allS ws) (manyS ws) (List.replicate ws.length 0)).map (·.map (itm ws)) := rfl
 generalize wantE ws = e at *
 refine gE Tryz.func38 rfl (by kernel_rfl) 51 rfl fun c => ?_
 (repeat (first | refine gO rfl ?_ | ((first | refine gM zM40 ?_ | (with_reducible refine wM ?_ ?_) | ((with_reducible refine xS ?_); refine uD 9 zM40 zP13E zP13P 52 rfl (by kernel_rfl) ?_)) <;> ((try with_reducible intro K1 hK1); simp only [go_sem, ↓reduceIte, reduceCtorEq, nA, nB, nC, nD, nE, nF] <;> and_intros <;> first | (apply hK1; clear hK1 K1) | (intros; first | omega | decide | (simp_all <;> omega)) | skip))))
 refine hck.mono ?_; rintro _ hz ⟨rfl, hh⟩; apply hK1; clear hK1 K1; rw [hh]; clear hh hz
 (repeat (first | refine gO rfl ?_ | ((first | refine gM zM40 ?_ | (with_reducible refine wM ?_ ?_) | ((with_reducible refine xS ?_); refine uD 9 zM40 zP13E zP13P 52 rfl (by kernel_rfl) ?_)) <;> ((try with_reducible intro K1 hK1); simp only [go_sem, ↓reduceIte, reduceCtorEq, nA, nB, nC, nD, nE, nF] <;> and_intros <;> first | (apply hK1; clear hK1 K1) | (intros; first | omega | decide | (simp_all <;> omega)) | skip))))
 by_cases he : e = 0
 ·subst he
  have hW := hok rfl
  rw [if_pos rfl] at hsA
  clear hok hck
  refine awp_cond (t := _) rfl (fun h9 => by simp at h9) (fun _ => ?_)
  (repeat (first | refine gO rfl ?_ | ((first | refine gM zM40 ?_ | (with_reducible refine wM ?_ ?_) | ((with_reducible refine xS ?_); refine uD 9 zM40 zP13E zP13P 52 rfl (by kernel_rfl) ?_)) <;> ((try with_reducible intro K1 hK1); simp only [go_sem, ↓reduceIte, reduceCtorEq, nA, nB, nC, nD, nE, nF] <;> and_intros <;> first | (apply hK1; clear hK1 K1) | (intros; first | omega | decide | (simp_all <;> omega)) | skip))))
  intro kw hkw mb hmb i hi
  have n2 : mb ≠ i := fun e => by rw [← e, upd_same] at hi; cases hi
  rw [upd_other _ _ (Ne.symm n2)] at hi
  refine hK1 _ ?_; clear hK1 K1
  (first | refine gO rfl ?_ | ((first | refine gM zM40 ?_ | (with_reducible refine wM ?_ ?_) | ((with_reducible refine xS ?_); refine uD 9 zM40 zP13E zP13P 52 rfl (by kernel_rfl) ?_)) <;> ((try with_reducible intro K1 hK1); simp only [go_sem, ↓reduceIte, reduceCtorEq, nA, nB, nC, nD, nE, nF] <;> and_intros <;> first | (apply hK1; clear hK1 K1) | (intros; first | omega | decide | (simp_all <;> omega)) | skip)))
  refine awp_ownObj i 1 1 (cs := [.row 3 (ws.map encW) none, .v (.slice none 0 0), .arr 1 kw (ws.length : Int).toNat, .v (.slice none 0 0), .map mb]) (upd_same _ _ _) rfl (fun kl hkl => ?_)
  refine awp_ownObj i 3 1 (cs := [.row 3 (ws.map encW) none, .arr 1 kl 0, .arr 1 kw (ws.length : Int).toNat, .v (.slice none 0 0), .map mb]) (upd_same _ _ _) rfl (fun ko hko => ?_)
  replace hkl : upd h.T kw (some (TO.cont 1 (List.replicate (ws.length : Int).toNat [.v (.int .i64 0)]))) kl = none := hkl
  replace hko : upd (upd h.T kw (some (TO.cont 1 (List.replicate (ws.length : Int).toNat [.v (.int .i64 0)])))) kl (some (TO.cont 1 [])) ko = none := hko
  have m1 : kl ≠ kw := fun e => by rw [e, upd_same] at hkl; cases hkl
  have m2 : ko ≠ kl := fun e => by rw [e, upd_same] at hko; cases hko
  have m3 : ko ≠ kw := fun e => by rw [upd_other _ _ m2, e, upd_same] at hko; cases hko
  have hS : SP ⟨upd (upd (upd (upd h.H mb (some (.map []))) i (some (.cells [.row 3 (ws.map encW) none, .v (.slice none 0 0), .arr 1 kw (ws.length : Int).toNat, .v (.slice none 0 0), .map mb]))) i (some (.cells [.row 3 (ws.map encW) none, .arr 1 kl 0, .arr 1 kw (ws.length : Int).toNat, .v (.slice none 0 0), .map mb]))) i (some (.cells [.row 3 (ws.map encW) none, .arr 1 kl 0, .arr 1 kw (ws.length : Int).toNat, .arr 1 ko 0, .map mb])),
    upd (upd (upd h.T kw (some (TO.cont 1 (List.replicate (ws.length : Int).toNat [.v (.int .i64 0)])))) kl (some (TO.cont 1 []))) ko (some (TO.cont 1 []))⟩ i kl kw ko mb ws 0 := by
   refine ⟨?_, ?_, ?_, ?_, upd_same _ _ _, ⟨m1, Ne.symm m2, Ne.symm m3⟩, n2⟩
   ·show upd _ _ _ _ = _; rw [upd_same]; rfl
   ·show upd _ _ _ _ = _; rw [upd_other _ _ n2, upd_other _ _ n2, upd_other _ _ n2, upd_same]
   ·show upd _ _ _ _ = _; rw [upd_other _ _ (Ne.symm m2), upd_same]; rfl
   ·show upd _ _ _ _ = _; rw [upd_other _ _ (Ne.symm m3), upd_other _ _ (Ne.symm m1), upd_same, List.map_replicate]; rfl
  refine (?_ : ∀ h5, SP h5 i kl kw ko mb ws 0 → Awp _ c _ _ ⟨((.row 3 (ws.map encW) none) :: AV.junk :: ((_) :: (_) :: (_) :: (_) :: (.ptr i 0) :: (jnk 3 ((_) :: (_) :: (_) :: (_) :: AV.junk :: ((_) :: (_) :: (_) :: (_) :: (_) :: (_) :: (_) :: (jnk 30 [])))))), [], h5⟩) _ hS
  clear hS hkl hko hkw hmb hi m1 m2 m3
  intro h5 hS
  (repeat (first | refine gO rfl ?_ | ((first | refine gM zM40 ?_ | (with_reducible refine wM ?_ ?_) | ((with_reducible refine xS ?_); refine uD 9 zM40 zP13E zP13P 52 rfl (by kernel_rfl) ?_)) <;> ((try with_reducible intro K1 hK1); simp only [go_sem, ↓reduceIte, reduceCtorEq, nA, nB, nC, nD, nE, nF] <;> and_intros <;> first | (apply hK1; clear hK1 K1) | (intros; first | omega | decide | (simp_all <;> omega)) | skip))))
  refine awp_loopC (rl false [6, 2, 14, 3, 27]) 0 (fun g s => ∃ (j : Nat) (h6 : Hp), g + j = ws.length ∧ SP h6 i kl kw ko mb ws j ∧
   s = ⟨((jnk 6 ((.ptr i 0) :: (.v (.int .i64 ((manyS ws).take j).sum)) :: (jnk 14 ((.row 3 (ws.map encW) none) :: (.v (.int .i64 ws.length)) :: (.v (.int .i64 j)) :: (jnk 27 [])))))), [], h6⟩) ws.length ⟨0, h5, by omega, hS, rfl⟩ ?_
  rintro g _ ⟨j, h6, hj, hS6, rfl⟩
  clear hS
  (repeat (first | refine gO rfl ?_ | ((first | refine gM zM40 ?_ | (with_reducible refine wM ?_ ?_) | ((with_reducible refine xS ?_); refine uD 9 zM40 zP13E zP13P 52 rfl (by kernel_rfl) ?_)) <;> ((try with_reducible intro K1 hK1); simp only [go_sem, ↓reduceIte, reduceCtorEq, nA, nB, nC, nD, nE, nF] <;> and_intros <;> first | (apply hK1; clear hK1 K1) | (intros; first | omega | decide | (simp_all <;> omega)) | skip))))
  refine awp_cond (t := _) rfl (fun h7 => ?_) (fun h7 => ?_)
  ·simp only [decide_eq_true_eq] at h7
   have hjl : j < ws.length := by omega
   have gx : (ws.map encW).getD j [] = [.v (.string (ws.getD j default).1), .v (.int .i64 (ws.getD j default).2.1), .v (.int .i64 (ws.getD j default).2.2)] := getD_enc encW ws j default hjl
   have hml : (manyS ws).length = ws.length := by simp [manyS]
   have gm : (manyS ws).getD j 0 = (ws.getD j default).2.1 := by simp [manyS, List.getD_eq_getElem?_getD, hjl]
   have ht : (manyS ws).take (j + 1) = (manyS ws).take j ++ [(manyS ws).getD j 0] := by
    rw [List.take_add_one, List.getElem?_eq_getElem (by omega), List.getD_eq_getElem?_getD, List.getElem?_eq_getElem (by omega)]; rfl
   have hmj := hW.nonneg _ (mem_getD (manyS ws) (i := j) (by omega))
   have hs0 : 0 ≤ ((manyS ws).take j).sum ∧ ((manyS ws).take j).sum ≤ 12 := by
    have h1 := sum_nonneg' (L := (manyS ws).take j) fun x hx => (hW.nonneg x (List.mem_of_mem_take hx)).1
    have h2 := sum_nonneg' (L := (manyS ws).drop j) fun x hx => (hW.nonneg x (List.mem_of_mem_drop hx)).1
    have h3 : (manyS ws).sum = ((manyS ws).take j).sum + ((manyS ws).drop j).sum := by rw [← List.sum_append, List.take_append_drop]
    have := hW.all
    omega
   have hln := hW.len
   rw [gm] at ht hmj
   have htl : (((manyS ws).take j).map encI).length = j := by rw [List.length_map, List.length_take]; omega
   have r1 := hS6.hi
   have r2 := hS6.tl
   have n1 := hS6.n1
   generalize ws.getD j default = x at *
   have hap : ((manyS ws).take j).map encI ++ [[.v (.int .i64 x.2.1)]] = ((manyS ws).take (j + 1)).map encI := by rw [ht, List.map_append]; rfl
   have hsum : ((manyS ws).take (j + 1)).sum = ((manyS ws).take j).sum + x.2.1 := by rw [ht]; simp
   (repeat (first | refine gO rfl ?_ | ((first | refine gM zM40 ?_ | (with_reducible refine wM ?_ ?_) | ((with_reducible refine xS ?_); refine uD 9 zM40 zP13E zP13P 52 rfl (by kernel_rfl) ?_)) <;> ((try with_reducible intro K1 hK1); simp only [go_sem, ↓reduceIte, reduceCtorEq, nA, nB, nC, nD, nE, nF, Int.toNat_natCast, gx, r1, r2, htl, hap] <;> and_intros <;> first | (apply hK1; clear hK1 K1) | (intros; first | omega | decide | (simp_all <;> omega)) | skip))))
   refine ⟨g - 1, by omega, j + 1, _, by omega, ⟨?_, ?_, ?_, ?_, ?_, n1, n2⟩, by rw [hsum]; rfl⟩
   ·exact upd_same _ _ _
   ·show upd _ _ _ _ = _; rw [upd_other _ _ n2]; exact hS6.hm
   ·exact upd_same _ _ _
   ·show upd _ _ _ _ = _; rw [upd_other _ _ (Ne.symm n1.1)]; exact hS6.tw
   ·show upd _ _ _ _ = _; rw [upd_other _ _ (Ne.symm n1.2.1)]; exact hS6.tq
  ·simp only [decide_eq_false_iff_not] at h7
   have hjl : j = ws.length := by omega
   subst hjl
   have hT : (manyS ws).take ws.length = manyS ws := List.take_of_length_le (by simp [manyS])
   have r2 := hS6.tl
   rw [hT] at r2
   rw [hT, hW.all.1]
   have hFS : FS h6 i kl kw ko mb ws (manyS ws) (List.replicate ws.length 0) [] [] := ⟨hS6.hi, hS6.hm, r2, hS6.tw, hS6.tq, hS6.n1, n2⟩
   have hFB : FB ws (allS ws) (manyS ws) (List.replicate ws.length 0) [] := ⟨hW.sps, by have := hW.all.2; simpa using this⟩
   (repeat (first | refine gO rfl ?_ | ((first | refine gM zM40 ?_ | (with_reducible refine wM ?_ ?_) | ((with_reducible refine xS ?_); refine uD 9 zM40 zP13E zP13P 52 rfl (by kernel_rfl) ?_)) <;> ((try with_reducible intro K1 hK1); simp only [go_sem, ↓reduceIte, reduceCtorEq, nA, nB, nC, nD, nE, nF] <;> and_intros <;> first | (apply hK1; clear hK1 K1) | (intros; first | omega | decide | (simp_all <;> omega)) | skip))))
   refine (g_find ws hW.len i kl mb (allS ws) kw ko (manyS ws) (List.replicate ws.length 0) [] [] h6 hFS hFB (fun k hk => by simp at hk)).mono ?_
   rintro r8 h8 ⟨kw3, ko3, L3, W3, ks3, hm⟩
   cases e : solve (apt ws) (allS ws) (manyS ws) (List.replicate ws.length 0) with
   | none =>
    rw [e] at hm hv
    obtain ⟨rfl, _⟩ := hm
    refine hK1 _ ?_; clear hK1 K1
    (repeat (first | refine gO rfl ?_ | ((first | refine gM zM40 ?_ | (with_reducible refine wM ?_ ?_) | ((with_reducible refine xS ?_); refine uD 9 zM40 zP13E zP13P 52 rfl (by kernel_rfl) ?_)) <;> ((try with_reducible intro K1 hK1); simp only [go_sem, ↓reduceIte, reduceCtorEq, nA, nB, nC, nD, nE, nF] <;> and_intros <;> first | (apply hK1; clear hK1 K1) | (intros; first | omega | decide | (simp_all <;> omega)) | skip))))
    refine awp_cond (t := _) rfl (fun _ => ?_) (fun h9 => by cases h9)
    (repeat (first | refine gO rfl ?_ | ((first | refine gM zM40 ?_ | (with_reducible refine wM ?_ ?_) | ((with_reducible refine xS ?_); refine uD 9 zM40 zP13E zP13P 52 rfl (by kernel_rfl) ?_)) <;> ((try with_reducible intro K1 hK1); simp only [go_sem, ↓reduceIte, reduceCtorEq, nA, nB, nC, nD, nE, nF] <;> and_intros <;> first | (apply hK1; clear hK1 K1) | (intros; first | omega | decide | (simp_all <;> omega)) | skip))))
    simp only [Tryz.results38, go_sem, ↓reduceIte, reduceCtorEq, nA, nB, nC, nD, nE, nF]
    exact ⟨_, _, Weak.tup3 (Weak.nil 1 0 0 ⟨rfl, rfl⟩) (Weak.refl _) (Weak.refl _), Hp.le.refl _, by rw [hsA, hv]; rfl⟩
   | some p =>
    rw [e] at hm hv
    obtain ⟨rfl, hS8⟩ := hm
    rw [List.nil_append] at hS8
    have e2 := hS8.hi
    have hTo := hS8.tq
    refine hK1 _ ?_; clear hK1 K1
    (repeat (first | refine gO rfl ?_ | ((first | refine gM zM40 ?_ | (with_reducible refine wM ?_ ?_) | ((with_reducible refine xS ?_); refine uD 9 zM40 zP13E zP13P 52 rfl (by kernel_rfl) ?_)) <;> ((try with_reducible intro K1 hK1); simp only [go_sem, ↓reduceIte, reduceCtorEq, nA, nB, nC, nD, nE, nF] <;> and_intros <;> first | (apply hK1; clear hK1 K1) | (intros; first | omega | decide | (simp_all <;> omega)) | skip))))
    refine awp_cond (t := _) rfl (fun h9 => by cases h9) (fun _ => ?_)
    have hz : ∀ y ∈ (p.map (itm ws)).map encS, y.length = 1 := fun y hy => by obtain ⟨x, _, rfl⟩ := List.mem_map.1 hy; rfl
    have hlq : (p.map (itm ws)).length = ((p.map (itm ws)).map encS).length := by simp
    rw [hlq] at e2
    have hv2 : spreadA ws = .tup [.row 1 ((p.map (itm ws)).map encS) none, .v (.bool true), .v (.int .i64 0)] := by rw [hsA, hv]; rfl
    generalize (p.map (itm ws)).map encS = xs at *
    (first | refine gO rfl ?_ | ((first | refine gM zM40 ?_ | (with_reducible refine wM ?_ ?_) | ((with_reducible refine xS ?_); refine uD 9 zM40 zP13E zP13P 52 rfl (by kernel_rfl) ?_)) <;> ((try with_reducible intro K1 hK1); simp only [go_sem, ↓reduceIte, reduceCtorEq, nA, nB, nC, nD, nE, nF, e2] <;> and_intros <;> first | (apply hK1; clear hK1 K1) | (intros; first | omega | decide | (simp_all <;> omega)) | skip))); (first | refine gO rfl ?_ | ((first | refine gM zM40 ?_ | (with_reducible refine wM ?_ ?_) | ((with_reducible refine xS ?_); refine uD 9 zM40 zP13E zP13P 52 rfl (by kernel_rfl) ?_)) <;> ((try with_reducible intro K1 hK1); simp only [go_sem, ↓reduceIte, reduceCtorEq, nA, nB, nC, nD, nE, nF, e2] <;> and_intros <;> first | (apply hK1; clear hK1 K1) | (intros; first | omega | decide | (simp_all <;> omega)) | skip))); (first | refine gO rfl ?_ | ((first | refine gM zM40 ?_ | (with_reducible refine wM ?_ ?_) | ((with_reducible refine xS ?_); refine uD 9 zM40 zP13E zP13P 52 rfl (by kernel_rfl) ?_)) <;> ((try with_reducible intro K1 hK1); simp only [go_sem, ↓reduceIte, reduceCtorEq, nA, nB, nC, nD, nE, nF, e2] <;> and_intros <;> first | (apply hK1; clear hK1 K1) | (intros; first | omega | decide | (simp_all <;> omega)) | skip))); (first | refine gO rfl ?_ | ((first | refine gM zM40 ?_ | (with_reducible refine wM ?_ ?_) | ((with_reducible refine xS ?_); refine uD 9 zM40 zP13E zP13P 52 rfl (by kernel_rfl) ?_)) <;> ((try with_reducible intro K1 hK1); simp only [go_sem, ↓reduceIte, reduceCtorEq, nA, nB, nC, nD, nE, nF, e2] <;> and_intros <;> first | (apply hK1; clear hK1 K1) | (intros; first | omega | decide | (simp_all <;> omega)) | skip)))
    refine awp_frz 2 ko3 1 (xs := xs) rfl hTo hz ?_
    (repeat (first | refine gO rfl ?_ | ((first | refine gM zM40 ?_ | (with_reducible refine wM ?_ ?_) | ((with_reducible refine xS ?_); refine uD 9 zM40 zP13E zP13P 52 rfl (by kernel_rfl) ?_)) <;> ((try with_reducible intro K1 hK1); simp only [go_sem, ↓reduceIte, reduceCtorEq, nA, nB, nC, nD, nE, nF] <;> and_intros <;> first | (apply hK1; clear hK1 K1) | (intros; first | omega | decide | (simp_all <;> omega)) | skip))))
    simp only [Tryz.results38, go_sem, ↓reduceIte, reduceCtorEq, nA, nB, nC, nD, nE, nF]
    exact ⟨_, _, Weak.refl _, Hp.le.refl _, hv2.symm⟩
 ·rw [if_neg he] at hsA
  refine awp_cond (t := _) rfl (fun _ => ?_) (fun h9 => by simp [he] at h9)
  (repeat (first | refine gO rfl ?_ | ((first | refine gM zM40 ?_ | (with_reducible refine wM ?_ ?_) | ((with_reducible refine xS ?_); refine uD 9 zM40 zP13E zP13P 52 rfl (by kernel_rfl) ?_)) <;> ((try with_reducible intro K1 hK1); simp only [go_sem, ↓reduceIte, reduceCtorEq, nA, nB, nC, nD, nE, nF] <;> and_intros <;> first | (apply hK1; clear hK1 K1) | (intros; first | omega | decide | (simp_all <;> omega)) | skip))))
  simp only [Tryz.results38, go_sem, ↓reduceIte, reduceCtorEq, nA, nB, nC, nD, nE, nF]
  exact ⟨_, _, Weak.tup3 (Weak.nil 1 0 0 ⟨rfl, rfl⟩) (Weak.refl _) (Weak.refl _), Hp.le.refl _, hsA.symm⟩
abbrev zP14E : List Nat := [0, 1, 2, 3, 4, 5, 6, 7, 8]
abbrev zP14P : List (Nat × List Nat × List Nat) := []
abbrev zP15E : List Nat := [0, 1, 2, 3, 4, 5, 6, 7, 8]
abbrev zP15P : List (Nat × List Nat × List Nat) := []
attribute [go_sem] zP14E zP14P zP15E zP15P
theorem ba_self (x : ByteArray) : (x == x) = true := by rw [ba_beq]; simp
theorem bn_self (x : ByteArray) : (x != x) = false := by rw [bne, ba_self]; rfl
theorem i_self (x : Int) : (x == x) = true := by simp
theorem in_self (x : Int) : (x != x) = false := by simp
theorem n_self (x : Nat) : ((x : Int) != (x : Int)) = false := by simp
theorem g_eqS (xs : List ByteArray) (h : Hp) (hl : xs.length ≤ 1000000000) : ACalls Tryz.prog 40 [.row 1 (xs.map encS) none, .row 1 (xs.map encS) none] h (fun r h' => r = .v (.bool true) ∧ h' = h) := by
 have hlm : (xs.map encS).length = xs.length := by simp
 refine gE Tryz.func40 rfl (by kernel_rfl) 24 rfl fun c => ?_
 (repeat (first | refine gO rfl ?_ | ((first | refine gR ?_ | (with_reducible refine wM ?_ ?_) | ((with_reducible refine xS ?_); refine uD 6 zM41 zP14E zP14P 26 rfl (by kernel_rfl) ?_)) <;> ((try with_reducible intro K1 hK1); simp only [go_sem, ↓reduceIte, reduceCtorEq, nA, nB, nC, nD, nE, nF, hlm, n_self] <;> and_intros <;> first | (apply hK1; clear hK1 K1) | (intros; first | omega | decide | (simp_all <;> omega)) | skip))))
 refine awp_cond (t := _) rfl (fun h9 => by cases h9) (fun _ => ?_)
 (repeat (first | refine gO rfl ?_ | ((first | refine gR ?_ | (with_reducible refine wM ?_ ?_) | ((with_reducible refine xS ?_); refine uD 6 zM41 zP14E zP14P 26 rfl (by kernel_rfl) ?_)) <;> ((try with_reducible intro K1 hK1); simp only [go_sem, ↓reduceIte, reduceCtorEq, nA, nB, nC, nD, nE, nF, hlm] <;> and_intros <;> first | (apply hK1; clear hK1 K1) | (intros; first | omega | decide | (simp_all <;> omega)) | skip))))
 refine awp_loopC (rl false [0, 2, 9, 3, 12]) 0 (fun g s => ∃ j : Nat, g + j = xs.length ∧
  s = ⟨((.row 1 (xs.map encS) none) :: (.row 1 (xs.map encS) none) :: (jnk 9 ((.row 1 (xs.map encS) none) :: (.v (.int .i64 xs.length)) :: (.v (.int .i64 j)) :: (jnk 12 [])))), [], h⟩) xs.length ⟨0, by omega, rfl⟩ ?_
 rintro g _ ⟨j, hj, rfl⟩
 (repeat (first | refine gO rfl ?_ | ((first | refine gR ?_ | (with_reducible refine wM ?_ ?_) | ((with_reducible refine xS ?_); refine uD 6 zM41 zP14E zP14P 26 rfl (by kernel_rfl) ?_)) <;> ((try with_reducible intro K1 hK1); simp only [go_sem, ↓reduceIte, reduceCtorEq, nA, nB, nC, nD, nE, nF] <;> and_intros <;> first | (apply hK1; clear hK1 K1) | (intros; first | omega | decide | (simp_all <;> omega)) | skip))))
 refine awp_cond (t := _) rfl (fun h1 => ?_) (fun h1 => ?_)
 ·simp only [decide_eq_true_eq] at h1
  have hjl : j < xs.length := by omega
  have gx : (xs.map encS).getD j [] = encS (xs.getD j default) := getD_enc encS xs j default hjl
  generalize xs.getD j default = x at gx
  (repeat (first | refine gO rfl ?_ | ((first | refine gR ?_ | (with_reducible refine wM ?_ ?_) | ((with_reducible refine xS ?_); refine uD 6 zM41 zP14E zP14P 26 rfl (by kernel_rfl) ?_)) <;> ((try with_reducible intro K1 hK1); simp only [go_sem, ↓reduceIte, reduceCtorEq, nA, nB, nC, nD, nE, nF, Int.toNat_natCast, gx, encS, hlm, hjl, ba_self, i_self, bn_self, in_self] <;> and_intros <;> first | (apply hK1; clear hK1 K1) | (intros; first | omega | decide | (simp_all <;> omega)) | skip))))
  refine awp_cond (t := _) rfl (fun h9 => by cases h9) (fun _ => ?_)
  (repeat (first | refine gO rfl ?_ | ((first | refine gR ?_ | (with_reducible refine wM ?_ ?_) | ((with_reducible refine xS ?_); refine uD 6 zM41 zP14E zP14P 26 rfl (by kernel_rfl) ?_)) <;> ((try with_reducible intro K1 hK1); simp only [go_sem, ↓reduceIte, reduceCtorEq, nA, nB, nC, nD, nE, nF] <;> and_intros <;> first | (apply hK1; clear hK1 K1) | (intros; first | omega | decide | (simp_all <;> omega)) | skip))))
  exact ⟨g - 1, by omega, j + 1, by omega, rfl⟩
 ·(repeat (first | refine gO rfl ?_ | ((first | refine gR ?_ | (with_reducible refine wM ?_ ?_) | ((with_reducible refine xS ?_); refine uD 6 zM41 zP14E zP14P 26 rfl (by kernel_rfl) ?_)) <;> ((try with_reducible intro K1 hK1); simp only [go_sem, ↓reduceIte, reduceCtorEq, nA, nB, nC, nD, nE, nF] <;> and_intros <;> first | (apply hK1; clear hK1 K1) | (intros; first | omega | decide | (simp_all <;> omega)) | skip))))
  simp only [Tryz.results40, go_sem, ↓reduceIte, reduceCtorEq, nA, nB, nC, nD, nE, nF]
  exact ⟨_, _, Weak.refl _, Hp.le.refl _, rfl, rfl⟩
theorem g_eqW (xs : List Wn) (h : Hp) (hl : xs.length ≤ 1000000000) : ACalls Tryz.prog 34 [.row 3 (xs.map encW) none, .row 3 (xs.map encW) none] h (fun r h' => r = .v (.bool true) ∧ h' = h) := by
 have hlm : (xs.map encW).length = xs.length := by simp
 refine gE Tryz.func34 rfl (by kernel_rfl) 24 rfl fun c => ?_
 (repeat (first | refine gO rfl ?_ | ((first | refine gR ?_ | (with_reducible refine wM ?_ ?_) | ((with_reducible refine xS ?_); refine uD 6 zM41 zP15E zP15P 26 rfl (by kernel_rfl) ?_)) <;> ((try with_reducible intro K1 hK1); simp only [go_sem, ↓reduceIte, reduceCtorEq, nA, nB, nC, nD, nE, nF, hlm, n_self] <;> and_intros <;> first | (apply hK1; clear hK1 K1) | (intros; first | omega | decide | (simp_all <;> omega)) | skip))))
 refine awp_cond (t := _) rfl (fun h9 => by cases h9) (fun _ => ?_)
 (repeat (first | refine gO rfl ?_ | ((first | refine gR ?_ | (with_reducible refine wM ?_ ?_) | ((with_reducible refine xS ?_); refine uD 6 zM41 zP15E zP15P 26 rfl (by kernel_rfl) ?_)) <;> ((try with_reducible intro K1 hK1); simp only [go_sem, ↓reduceIte, reduceCtorEq, nA, nB, nC, nD, nE, nF, hlm] <;> and_intros <;> first | (apply hK1; clear hK1 K1) | (intros; first | omega | decide | (simp_all <;> omega)) | skip))))
 refine awp_loopC (rl false [0, 2, 9, 3, 12]) 0 (fun g s => ∃ j : Nat, g + j = xs.length ∧
  s = ⟨((.row 3 (xs.map encW) none) :: (.row 3 (xs.map encW) none) :: (jnk 9 ((.row 3 (xs.map encW) none) :: (.v (.int .i64 xs.length)) :: (.v (.int .i64 j)) :: (jnk 12 [])))), [], h⟩) xs.length ⟨0, by omega, rfl⟩ ?_
 rintro g _ ⟨j, hj, rfl⟩
 (repeat (first | refine gO rfl ?_ | ((first | refine gR ?_ | (with_reducible refine wM ?_ ?_) | ((with_reducible refine xS ?_); refine uD 6 zM41 zP15E zP15P 26 rfl (by kernel_rfl) ?_)) <;> ((try with_reducible intro K1 hK1); simp only [go_sem, ↓reduceIte, reduceCtorEq, nA, nB, nC, nD, nE, nF] <;> and_intros <;> first | (apply hK1; clear hK1 K1) | (intros; first | omega | decide | (simp_all <;> omega)) | skip))))
 refine awp_cond (t := _) rfl (fun h1 => ?_) (fun h1 => ?_)
 ·simp only [decide_eq_true_eq] at h1
  have hjl : j < xs.length := by omega
  have gx : (xs.map encW).getD j [] = encW (xs.getD j default) := getD_enc encW xs j default hjl
  generalize xs.getD j default = x at gx
  (repeat (first | refine gO rfl ?_ | ((first | refine gR ?_ | (with_reducible refine wM ?_ ?_) | ((with_reducible refine xS ?_); refine uD 6 zM41 zP15E zP15P 26 rfl (by kernel_rfl) ?_)) <;> ((try with_reducible intro K1 hK1); simp only [go_sem, ↓reduceIte, reduceCtorEq, nA, nB, nC, nD, nE, nF, Int.toNat_natCast, gx, encW, hlm, hjl, ba_self, i_self, bn_self, in_self] <;> and_intros <;> first | (apply hK1; clear hK1 K1) | (intros; first | omega | decide | (simp_all <;> omega)) | skip))))
  refine awp_cond (t := _) rfl (fun h9 => by cases h9) (fun _ => ?_)
  (repeat (first | refine gO rfl ?_ | ((first | refine gR ?_ | (with_reducible refine wM ?_ ?_) | ((with_reducible refine xS ?_); refine uD 6 zM41 zP15E zP15P 26 rfl (by kernel_rfl) ?_)) <;> ((try with_reducible intro K1 hK1); simp only [go_sem, ↓reduceIte, reduceCtorEq, nA, nB, nC, nD, nE, nF] <;> and_intros <;> first | (apply hK1; clear hK1 K1) | (intros; first | omega | decide | (simp_all <;> omega)) | skip))))
  exact ⟨g - 1, by omega, j + 1, by omega, rfl⟩
 ·(repeat (first | refine gO rfl ?_ | ((first | refine gR ?_ | (with_reducible refine wM ?_ ?_) | ((with_reducible refine xS ?_); refine uD 6 zM41 zP15E zP15P 26 rfl (by kernel_rfl) ?_)) <;> ((try with_reducible intro K1 hK1); simp only [go_sem, ↓reduceIte, reduceCtorEq, nA, nB, nC, nD, nE, nF] <;> and_intros <;> first | (apply hK1; clear hK1 K1) | (intros; first | omega | decide | (simp_all <;> omega)) | skip))))
  simp only [Tryz.results34, go_sem, ↓reduceIte, reduceCtorEq, nA, nB, nC, nD, nE, nF]
  exact ⟨_, _, Weak.refl _, Hp.le.refl _, rfl, rfl⟩
theorem g_cloneNil32 (h : Hp) : ACalls Tryz.prog 68 [.v (.slice none 0 0)] h (fun r h' => r = .v (.slice none 0 0) ∧ h' = h) := by
 refine gE Tryz.func68 rfl (by kernel_rfl) 7 rfl fun c => ?_
 (repeat (first | refine gO rfl ?_ | (refine gM zM42 fun K1 hK1 => ?_; simp only [go_sem, ↓reduceIte, reduceCtorEq, nA, nB, nC, nD, nE, nF] <;> and_intros <;> first | (apply hK1; clear hK1 K1) | (intros; first | omega | decide | (simp_all <;> omega)) | skip)))
 refine awp_cond (t := _) rfl (fun _ => ?_) (fun h1 => by cases h1)
 (repeat (first | refine gO rfl ?_ | (refine gM zM42 fun K1 hK1 => ?_; simp only [go_sem, ↓reduceIte, reduceCtorEq, nA, nB, nC, nD, nE, nF] <;> and_intros <;> first | (apply hK1; clear hK1 K1) | (intros; first | omega | decide | (simp_all <;> omega)) | skip)))
 simp only [Tryz.results68, go_sem, ↓reduceIte, reduceCtorEq, nA, nB, nC, nD, nE, nF]
 exact ⟨_, _, Weak.refl _, Hp.le.refl _, rfl, rfl⟩
theorem g_clone32 (x : List AV) (xs : List (List AV)) (k : Option Nat) (h : Hp) (hb : xs.length ≤ 1000) : ACalls Tryz.prog 68 [.row 1 (x :: xs) k] h (fun r h' => ∃ q, h.T q = none ∧ r = .row 1 (x :: xs) (some q) ∧ h' = { h with T := upd h.T q (some (.tail (xs.length + 1))) }) := by
 refine gE Tryz.func68 rfl (by kernel_rfl) 7 rfl fun c => ?_
 (repeat (first | refine gO rfl ?_ | (refine gM zM42 fun K1 hK1 => ?_; simp only [go_sem, ↓reduceIte, reduceCtorEq, nA, nB, nC, nD, nE, nF] <;> and_intros <;> first | (apply hK1; clear hK1 K1) | (intros; first | omega | decide | (simp_all <;> omega)) | skip)))
 refine awp_cond (t := _) rfl (fun h1 => by cases h1) (fun _ => ?_)
 (repeat (first | refine gO rfl ?_ | (refine gM zM42 fun K1 hK1 => ?_; simp only [go_sem, ↓reduceIte, reduceCtorEq, nA, nB, nC, nD, nE, nF] <;> and_intros <;> first | (apply hK1; clear hK1 K1) | (intros; first | omega | decide | (simp_all <;> omega)) | skip)))
 intro q hq
 and_intros <;> first | (refine hK1 _ ?_; clear hK1 K1) | exact .inl trivial | exact .inr rfl | exact .inr True.intro | exact True.intro | omega
 (repeat (first | refine gO rfl ?_ | (refine gM zM42 fun K1 hK1 => ?_; simp only [go_sem, ↓reduceIte, reduceCtorEq, nA, nB, nC, nD, nE, nF] <;> and_intros <;> first | (apply hK1; clear hK1 K1) | (intros; first | omega | decide | (simp_all <;> omega)) | skip)))
 simp only [Tryz.results68, go_sem, ↓reduceIte, reduceCtorEq, nA, nB, nC, nD, nE, nF]
 exact ⟨_, _, Weak.refl _, Hp.le.refl _, q, hq, rfl, rfl⟩
theorem g_cloneNil33 (h : Hp) : ACalls Tryz.prog 117 [.v (.slice none 0 0)] h (fun r h' => r = .v (.slice none 0 0) ∧ h' = h) := by
 refine gE Tryz.func117 rfl (by kernel_rfl) 7 rfl fun c => ?_
 (repeat (first | refine gO rfl ?_ | (refine gM zM43 fun K1 hK1 => ?_; simp only [go_sem, ↓reduceIte, reduceCtorEq, nA, nB, nC, nD, nE, nF] <;> and_intros <;> first | (apply hK1; clear hK1 K1) | (intros; first | omega | decide | (simp_all <;> omega)) | skip)))
 refine awp_cond (t := _) rfl (fun _ => ?_) (fun h1 => by cases h1)
 (repeat (first | refine gO rfl ?_ | (refine gM zM43 fun K1 hK1 => ?_; simp only [go_sem, ↓reduceIte, reduceCtorEq, nA, nB, nC, nD, nE, nF] <;> and_intros <;> first | (apply hK1; clear hK1 K1) | (intros; first | omega | decide | (simp_all <;> omega)) | skip)))
 simp only [Tryz.results117, go_sem, ↓reduceIte, reduceCtorEq, nA, nB, nC, nD, nE, nF]
 exact ⟨_, _, Weak.refl _, Hp.le.refl _, rfl, rfl⟩
theorem g_clone33 (x : List AV) (xs : List (List AV)) (k : Option Nat) (h : Hp) (hb : xs.length ≤ 1000) : ACalls Tryz.prog 117 [.row 6 (x :: xs) k] h (fun r h' => ∃ q, h.T q = none ∧ r = .arr 6 q (xs.length + 1) ∧ h' = { h with T := upd h.T q (some (.cont 6 (x :: xs))) }) := by
 refine gE Tryz.func117 rfl (by kernel_rfl) 7 rfl fun c => ?_
 (repeat (first | refine gO rfl ?_ | (refine gM zM43 fun K1 hK1 => ?_; simp only [go_sem, ↓reduceIte, reduceCtorEq, nA, nB, nC, nD, nE, nF] <;> and_intros <;> first | (apply hK1; clear hK1 K1) | (intros; first | omega | decide | (simp_all <;> omega)) | skip)))
 refine awp_cond (t := _) rfl (fun h1 => by cases h1) (fun _ => ?_)
 (repeat (first | refine gO rfl ?_ | (refine gM zM43 fun K1 hK1 => ?_; simp only [go_sem, ↓reduceIte, reduceCtorEq, nA, nB, nC, nD, nE, nF] <;> and_intros <;> first | (apply hK1; clear hK1 K1) | (intros; first | omega | decide | (simp_all <;> omega)) | skip)))
 intro q hq
 and_intros <;> first | (refine hK1 _ ?_; clear hK1 K1) | exact .inl trivial | exact .inr rfl | exact .inr True.intro | exact True.intro | omega
 (repeat (first | refine gO rfl ?_ | (refine gM zM43 fun K1 hK1 => ?_; simp only [go_sem, ↓reduceIte, reduceCtorEq, nA, nB, nC, nD, nE, nF] <;> and_intros <;> first | (apply hK1; clear hK1 K1) | (intros; first | omega | decide | (simp_all <;> omega)) | skip)))
 simp only [Tryz.results117, go_sem, ↓reduceIte, reduceCtorEq, nA, nB, nC, nD, nE, nF]
 exact ⟨_, _, Weak.refl _, Hp.le.refl _, q, hq, rfl, rfl⟩
theorem g_cloneS (xs : List Int) (h : Hp) (hb : xs.length ≤ 1000) : ACalls Tryz.prog 68 [nilOr 1 (xs.map encI)] h (fun r h' => ∃ T', (∀ k, h.T k ≠ none → T' k = h.T k) ∧ h' = ⟨h.H, T'⟩ ∧
  (r = .v (.slice none 0 0) ∨ ∃ k, h.T k = none ∧ r = .row 1 (xs.map encI) (some k) ∧ T' k = some (.tail xs.length))) := by
 cases xs with
 | nil => exact (g_cloneNil32 h).mono fun r h' ⟨e, e'⟩ => ⟨h.T, fun _ _ => rfl, e', .inl e⟩
 | cons x xs =>
  refine (g_clone32 (encI x) (xs.map encI) none h (by simp at hb ⊢; omega)).mono ?_
  rintro r h' ⟨q, hq, rfl, rfl⟩
  exact ⟨_, fun k hk => upd_other _ _ (fun e => hk (e ▸ hq)), rfl, .inr ⟨q, hq, rfl, by rw [upd_same]; simp⟩⟩
theorem g_cloneK (ts : List LT) (h : Hp) (hb : ts.length ≤ 1000) : ACalls Tryz.prog 117 [nilOr 6 (ts.map encX)] h (fun r h' => ts = [] ∧ r = .v (.slice none 0 0) ∧ h' = h ∨ ∃ q, ts ≠ [] ∧ h.T q = none ∧ r = .arr 6 q ts.length ∧ h' = { h with T := upd h.T q (some (.cont 6 (ts.map encX))) }) := by
 cases ts with
 | nil => exact (g_cloneNil33 h).mono fun r h' ⟨e, e'⟩ => .inl ⟨rfl, e, e'⟩
 | cons x xs =>
  refine (g_clone33 (encX x) (xs.map encX) none h (by simp at hb ⊢; omega)).mono ?_
  rintro r h' ⟨q, hq, rfl, rfl⟩
  exact .inr ⟨q, by simp, hq, by simp, rfl⟩
abbrev zP16E : List Nat := [0, 1, 2, 3, 4, 5, 6, 7]
abbrev zP16P : List (Nat × List Nat × List Nat) := [(8, [1], [9]), (10, [], [])]
attribute [go_sem] zP16E zP16P
def CopI (d : Nat) (kind : Int) (item : ByteArray) (long many : Int) (kids : List LT) (shares : List Int) (r : AV) (q : Nat) (h : Hp) (g : Nat) (s : St) : Prop :=
 ∃ (j : Nat) (T2 : Nat → Option TO) (css : List (List AV)), g + j = kids.length ∧ css.length = kids.length ∧ T2 q = some (.cont 6 css) ∧ (∀ i, i < j → OLd true T2 (fun k => h.T k = none ∧ k ≠ q) d (css.getD i [])) ∧ (∀ i, j ≤ i → i < kids.length → css.getD i [] = encX (kids.getD i default)) ∧
  (∀ k, h.T k ≠ none → T2 k = h.T k) ∧ (r = .v (.slice none 0 0) ∨ ∃ k, h.T k = none ∧ r = .row 1 (shares.map encI) (some k) ∧ T2 k = some (.tail shares.length)) ∧
  s = ⟨(AV.junk :: ((.loc 0 0) :: (.loc 1 0) :: (jnk 11 ((.v (.int .i64 kids.length)) :: (.v (.int .i64 j)) :: (jnk 14 []))))),
   [[.v (.int .i64 kind), .v (.string item), .v (.int .i64 long), .v (.int .i64 many), .arr 6 q kids.length, r], [.v (.int .i64 0), .v (.string { data := #[] }), .v (.int .i64 0), .v (.int .i64 0), .v (.slice none 0 0), .v (.slice none 0 0)]], ⟨h.H, T2⟩⟩
theorem g_copied : ∀ (d : Nat) (t : LT) (h : Hp), LB d t → ACalls Tryz.prog 62 [.agg (encX t)] h (fun r h' => ∃ cs T', OLd true T' (fun k => h.T k = none) d cs ∧ (∀ k, h.T k ≠ none → T' k = h.T k) ∧ r = .agg cs ∧ h' = ⟨h.H, T'⟩)
 | 0, _, _, hb => hb.elim
 | d + 1, .mk kind item long many kids shares, h, hb => by
  obtain ⟨b1, b2, b3, b4, b5, b6, b7, b8⟩ := hb
  rw [encX_eq]
  have o1 := nilOr_one 1 (shares.map encI)
  have o2 := nilOr_one 6 (kids.map encX)
  obtain ⟨u1, u2, u3, u4, u5⟩ := o1
  unfold uside at u1; unfold unw at u2; unfold AV.noLoc at u3; unfold isOpt at u4; simp only [AV.cellsB, Value.oneCell'] at u5
  obtain ⟨v1, v2, v3, v4, v5⟩ := o2
  unfold uside at v1; unfold unw at v2; unfold AV.noLoc at v3; unfold isOpt at v4; simp only [AV.cellsB, Value.oneCell'] at v5
  refine gE Tryz.func62 rfl (by kernel_rfl) 29 rfl fun c => ?_
  (repeat (first | refine gO rfl ?_ | ((first | refine gM zM44 ?_ | (with_reducible refine wM ?_ ?_) | ((with_reducible refine xR ?_); refine uE 6 zM44 zP16E zP16P 30 rfl (by kernel_rfl) ?_)) <;> ((try with_reducible intro K1 hK1); simp only [go_sem, ↓reduceIte, reduceCtorEq, nA, nB, nC, nD, nE, nF, u1, u2, u3, u4, u5, v1, v2, v3, v4, v5] <;> and_intros <;> first | (apply hK1; clear hK1 K1) | (intros; first | omega | decide | (simp_all <;> omega)) | skip))))
  refine (g_cloneS shares _ (by omega)).mono ?_
  rintro r _ ⟨T1, hT1, rfl, hS⟩
  have o3 : OneV r := by rcases hS with rfl | ⟨k, _, rfl, _⟩ <;> exact ⟨rfl, rfl, rfl, rfl, rfl⟩
  obtain ⟨w1, w2, w3, w4, w5⟩ := o3
  unfold uside at w1; unfold unw at w2; unfold AV.noLoc at w3; unfold isOpt at w4; simp only [AV.cellsB, Value.oneCell'] at w5
  refine hK1 _ ?_; clear hK1 K1
  (repeat (first | refine gO rfl ?_ | ((first | refine gM zM44 ?_ | (with_reducible refine wM ?_ ?_) | ((with_reducible refine xR ?_); refine uE 6 zM44 zP16E zP16P 30 rfl (by kernel_rfl) ?_)) <;> ((try with_reducible intro K1 hK1); simp only [go_sem, ↓reduceIte, reduceCtorEq, nA, nB, nC, nD, nE, nF, u1, u2, u3, u4, u5, v1, v2, v3, v4, v5, w1, w2, w3, w4, w5] <;> and_intros <;> first | (apply hK1; clear hK1 K1) | (intros; first | omega | decide | (simp_all <;> omega)) | skip))))
  refine (g_cloneK kids _ (by omega)).mono ?_
  rintro r2 _ (⟨hk0, rfl, rfl⟩ | ⟨q, hq0, hq, rfl, rfl⟩)
  ·refine hK1 _ ?_; clear hK1 K1
   (repeat (first | refine gO rfl ?_ | ((first | refine gM zM44 ?_ | (with_reducible refine wM ?_ ?_) | ((with_reducible refine xR ?_); refine uE 6 zM44 zP16E zP16P 30 rfl (by kernel_rfl) ?_)) <;> ((try with_reducible intro K1 hK1); simp only [go_sem, ↓reduceIte, reduceCtorEq, nA, nB, nC, nD, nE, nF, u1, u2, u3, u4, u5, v1, v2, v3, v4, v5, w1, w2, w3, w4, w5] <;> and_intros <;> first | (apply hK1; clear hK1 K1) | (intros; first | omega | decide | (simp_all <;> omega)) | skip))))
   refine awp_loopC (rl false [1, 2, 11, 2, 14]) 2 (fun g s => s = ⟨(AV.junk :: ((.loc 0 0) :: (.loc 1 0) :: (jnk 11 ((.v (.int .i64 0)) :: (.v (.int .i64 0)) :: (jnk 14 []))))),
    [[.v (.int .i64 kind), .v (.string item), .v (.int .i64 long), .v (.int .i64 many), .v (.slice none 0 0), r], [.v (.int .i64 0), .v (.string { data := #[] }), .v (.int .i64 0), .v (.int .i64 0), .v (.slice none 0 0), .v (.slice none 0 0)]], ⟨h.H, T1⟩⟩) 0 rfl ?_
   rintro n _ rfl
   (repeat (first | refine gO rfl ?_ | ((first | refine gM zM44 ?_ | (with_reducible refine wM ?_ ?_) | ((with_reducible refine xR ?_); refine uE 6 zM44 zP16E zP16P 30 rfl (by kernel_rfl) ?_)) <;> ((try with_reducible intro K1 hK1); simp only [go_sem, ↓reduceIte, reduceCtorEq, nA, nB, nC, nD, nE, nF, u1, u2, u3, u4, u5, v1, v2, v3, v4, v5, w1, w2, w3, w4, w5] <;> and_intros <;> first | (apply hK1; clear hK1 K1) | (intros; first | omega | decide | (simp_all <;> omega)) | skip))))
   refine awp_cond (t := _) rfl (fun h1 => by cases h1) (fun _ => ?_)
   (repeat (first | refine gO rfl ?_ | ((first | refine gM zM44 ?_ | (with_reducible refine wM ?_ ?_) | ((with_reducible refine xR ?_); refine uE 6 zM44 zP16E zP16P 30 rfl (by kernel_rfl) ?_)) <;> ((try with_reducible intro K1 hK1); simp only [go_sem, ↓reduceIte, reduceCtorEq, nA, nB, nC, nD, nE, nF, u1, u2, u3, u4, u5, v1, v2, v3, v4, v5, w1, w2, w3, w4, w5] <;> and_intros <;> first | (apply hK1; clear hK1 K1) | (intros; first | omega | decide | (simp_all <;> omega)) | skip))))
   simp only [Tryz.results62, go_sem, ↓reduceIte, reduceCtorEq, nA, nB, nC, nD, nE, nF, u1, u2, u3, u4, u5, v1, v2, v3, v4, v5, w1, w2, w3, w4, w5]
   refine ⟨_, _, Weak.refl _, Hp.le.refl _, _, T1, ⟨kind, item, long, many, .v (.slice none 0 0), r, rfl, ⟨b1, b2, b3, b4⟩, .inl rfl, ?_⟩, hT1, rfl, rfl⟩
   rcases hS with e | ⟨k, hk, e, hk2⟩
   ·exact .inl e
   ·exact .inr ⟨shares, k, e, by omega, b7, fun _ => ⟨hk, hk2, b6⟩⟩
  ·refine hK1 _ ?_; clear hK1 K1
   have hq : T1 q = none := hq
   (repeat (first | refine gO rfl ?_ | ((first | refine gM zM44 ?_ | (with_reducible refine wM ?_ ?_) | ((with_reducible refine xR ?_); refine uE 6 zM44 zP16E zP16P 30 rfl (by kernel_rfl) ?_)) <;> ((try with_reducible intro K1 hK1); simp only [go_sem, ↓reduceIte, reduceCtorEq, nA, nB, nC, nD, nE, nF, u1, u2, u3, u4, u5, v1, v2, v3, v4, v5, w1, w2, w3, w4, w5] <;> and_intros <;> first | (apply hK1; clear hK1 K1) | (intros; first | omega | decide | (simp_all <;> omega)) | skip))))
   refine awp_loopC (rl false [1, 2, 11, 2, 14]) 2 (fun g s => CopI d kind item long many kids shares r q h g s) kids.length ⟨0, upd T1 q (some (.cont 6 (kids.map encX))), kids.map encX, by omega, by simp, upd_same _ _ _, fun i hi => by omega, fun i _ hi => getD_encX hi, fun k hk => ?_, ?_, rfl⟩ ?_
   ·have hkq : k ≠ q := fun e => by subst e; rw [hT1 k hk] at hq; exact hk hq
    rw [upd_other _ _ hkq]; exact hT1 k hk
   ·rcases hS with e | ⟨k, hk, e, hk2⟩
    ·exact .inl e
    ·have hkq : k ≠ q := fun e => by subst e; rw [hk2] at hq; cases hq
     exact .inr ⟨k, hk, e, by rw [upd_other _ _ hkq]; exact hk2⟩
   have hq' : h.T q = none := by
    cases e : h.T q with
    | none => rfl
    | some x => have := hT1 q (by rw [e]; simp); rw [hq, e] at this; cases this
   rintro n _ ⟨j, T2, css, hnj, hcl, hTq, hdone, hrest, hTT, hS2, rfl⟩
   (repeat (first | refine gO rfl ?_ | ((first | refine gM zM44 ?_ | (with_reducible refine wM ?_ ?_) | ((with_reducible refine xR ?_); refine uE 6 zM44 zP16E zP16P 30 rfl (by kernel_rfl) ?_)) <;> ((try with_reducible intro K1 hK1); simp only [go_sem, ↓reduceIte, reduceCtorEq, nA, nB, nC, nD, nE, nF, u1, u2, u3, u4, u5, v1, v2, v3, v4, v5, w1, w2, w3, w4, w5] <;> and_intros <;> first | (apply hK1; clear hK1 K1) | (intros; first | omega | decide | (simp_all <;> omega)) | skip))))
   refine awp_cond (t := _) rfl (fun h1 => ?_) (fun h1 => ?_)
   ·simp only [decide_eq_true_eq] at h1
    have hj : j < kids.length := by omega
    have hg := hrest j (Nat.le_refl _) hj
    have hm : kids.getD j default ∈ kids := by
     rw [List.getD_eq_getElem?_getD, List.getElem?_eq_getElem hj]; exact List.getElem_mem _
    generalize kids.getD j default = t2 at hg hm
    have hlen := encX_len t2
    have htk : List.take 6 (encX t2) = encX t2 := List.take_of_length_le (Nat.le_of_eq hlen)
    (repeat (first | refine gO rfl ?_ | ((first | refine gM zM44 ?_ | (with_reducible refine wM ?_ ?_) | ((with_reducible refine xR ?_); refine uE 6 zM44 zP16E zP16P 30 rfl (by kernel_rfl) ?_)) <;> ((try with_reducible intro K1 hK1); simp only [go_sem, ↓reduceIte, reduceCtorEq, nA, nB, nC, nD, nE, nF, u1, u2, u3, u4, u5, v1, v2, v3, v4, v5, w1, w2, w3, w4, w5, hTq, hcl, Int.toNat_natCast, hg, hlen, htk] <;> and_intros <;> first | (apply hK1; clear hK1 K1) | (intros; first | omega | decide | (simp_all <;> omega)) | skip))))
    refine (g_copied d t2 ⟨h.H, T2⟩ (b8 t2 hm)).mono ?_
    rintro _ _ ⟨cs, T3, hcs, hT3, rfl, rfl⟩
    refine hK1 _ ?_; clear hK1 K1
    replace hcs : OLd true T3 (fun k => T2 k = none) d cs := hcs
    replace hT3 : ∀ k, T2 k ≠ none → T3 k = T2 k := hT3
    have hT3q : T3 q = some (.cont 6 css) := by rw [hT3 q (by rw [hTq]; simp)]; exact hTq
    have hcsl := hcs.len
    have hdr : List.drop 6 (encX t2) = [] := List.drop_of_length_le (Nat.le_of_eq hlen)
    (repeat (first | refine gO rfl ?_ | ((first | refine gM zM44 ?_ | (with_reducible refine wM ?_ ?_) | ((with_reducible refine xR ?_); refine uE 6 zM44 zP16E zP16P 30 rfl (by kernel_rfl) ?_)) <;> ((try with_reducible intro K1 hK1); simp only [go_sem, ↓reduceIte, reduceCtorEq, nA, nB, nC, nD, nE, nF, u1, u2, u3, u4, u5, v1, v2, v3, v4, v5, w1, w2, w3, w4, w5, hT3q, hcl, Int.toNat_natCast, hg, hlen, htk, hdr, hcsl] <;> and_intros <;> first | (apply hK1; clear hK1 K1) | (intros; first | omega | decide | (simp_all <;> omega)) | skip))))
    refine ⟨n - 1, by omega, j + 1, upd T3 q (some (.cont 6 (css.set j cs))), css.set j cs, by omega, by simpa using hcl, upd_same _ _ _, fun i hi => ?_, fun i hi hi2 => ?_, fun k hk => ?_, ?_, ?_⟩
    ·have hkeep : ∀ k, T2 k ≠ none → k ≠ q → upd T3 q (some (.cont 6 (css.set j cs))) k = T2 k := fun k hk hkq => by rw [upd_other _ _ hkq]; exact hT3 k hk
     by_cases hij : i = j
     ·subst hij
      rw [List.getD_eq_getElem?_getD, List.getElem?_set_self (by omega)]
      refine (hcs.keep (T' := upd T3 q (some (.cont 6 (css.set i cs)))) (fun k hk _ => upd_other _ _ fun e => by subst e; rw [hTq] at hk; cases hk) (fun _ k m hk => by
       by_cases hkq : k = q
       ·subst hkq; rw [hT3q] at hk; cases hk
       ·rw [upd_other _ _ hkq]; exact hk)).more fun k hk => ⟨?_, fun e => by subst e; rw [hTq] at hk; cases hk⟩
      cases e : h.T k with
      | none => rfl
      | some x => have := hTT k (by rw [e]; simp); rw [hk, e] at this; cases this
     ·rw [List.getD_eq_getElem?_getD, List.getElem?_set_ne (by omega), ← List.getD_eq_getElem?_getD]
      refine (hdone i (by omega)).keep (fun k hk ⟨x, hk2⟩ => hkeep k (by rw [hk2]; simp) hk.2) (fun _ k m hk => ?_)
      by_cases hkq : k = q
      ·subst hkq; rw [hTq] at hk; cases hk
      ·rw [hkeep k (by rw [hk]; simp) hkq]; exact hk
    ·rw [List.getD_eq_getElem?_getD, List.getElem?_set_ne (by omega), ← List.getD_eq_getElem?_getD]
     exact hrest i (by omega) hi2
    ·have hkq : k ≠ q := fun e => by subst e; exact hk hq'
     rw [upd_other _ _ hkq, hT3 k (by rw [hTT k hk]; exact hk)]; exact hTT k hk
    ·rcases hS2 with e | ⟨k, hk, e, hk2⟩
     ·exact .inl e
     ·have hkq : k ≠ q := fun e => by subst e; rw [hk2] at hTq; cases hTq
      exact .inr ⟨k, hk, e, by rw [upd_other _ _ hkq, hT3 k (by rw [hk2]; simp)]; exact hk2⟩
    ·rfl
   ·(repeat (first | refine gO rfl ?_ | ((first | refine gM zM44 ?_ | (with_reducible refine wM ?_ ?_) | ((with_reducible refine xR ?_); refine uE 6 zM44 zP16E zP16P 30 rfl (by kernel_rfl) ?_)) <;> ((try with_reducible intro K1 hK1); simp only [go_sem, ↓reduceIte, reduceCtorEq, nA, nB, nC, nD, nE, nF, u1, u2, u3, u4, u5, v1, v2, v3, v4, v5, w1, w2, w3, w4, w5] <;> and_intros <;> first | (apply hK1; clear hK1 K1) | (intros; first | omega | decide | (simp_all <;> omega)) | skip))))
    simp only [Tryz.results62, go_sem, ↓reduceIte, reduceCtorEq, nA, nB, nC, nD, nE, nF, u1, u2, u3, u4, u5, v1, v2, v3, v4, v5, w1, w2, w3, w4, w5]
    simp only [decide_eq_false_iff_not] at h1
    have hj : j = kids.length := by omega
    subst hj
    refine ⟨_, _, Weak.refl _, Hp.le.refl _, _, T2, ⟨kind, item, long, many, .arr 6 q kids.length, r, rfl, ⟨b1, b2, b3, b4⟩, .inr (.inl ⟨q, css, hq', hTq, by rw [hcl], by rw [hcl]; exact List.length_pos_iff.2 hq0, by omega, fun c hc => ?_⟩), ?_⟩, hTT, rfl, rfl⟩
    ·obtain ⟨i, hi, rfl⟩ := List.getElem_of_mem hc
     have := hdone i (by omega)
     rw [List.getD_eq_getElem?_getD, List.getElem?_eq_getElem hi] at this
     exact this.more fun k hk => hk.1
    ·rcases hS2 with e | ⟨k, hk, e, hk2⟩
     ·exact .inl e
     ·exact .inr ⟨shares, k, e, by omega, b7, fun _ => ⟨hk, hk2, b6⟩⟩
abbrev zP17E : List Nat := [0, 1, 2, 3, 4, 5, 6, 7, 8, 9]
abbrev zP17P : List (Nat × List Nat × List Nat) := [(10, [3], [11]), (12, [], [])]
attribute [go_sem] zP17E zP17P
def PtIn (o : Nat) (T : Nat → Option TO) (S : Nat → Prop) (cs0 : List AV) (p : AV) (cs : List AV) : Prop :=
 p = .ptr o 0 ∧ cs = cs0 ∨ ∃ q css j, S q ∧ T q = some (.cont 6 css) ∧ j < css.length ∧ p = .eptr q css.length j 0 ∧ css.getD j [] = cs
def InnI (i o : Nat) (l : List Int) (a : Int) (h : Hp) (S : Nat → Prop) (d : Nat) (cs0 : List AV) (g : Nat) (s : St) : Prop :=
 ∃ p cs a', PtIn o h.T S cs0 p cs ∧ OLd true h.T S g cs ∧ (a ≤ a' ∧ a' + 2 * g ≤ a + 2 * d) ∧ s = ⟨((.ptr i 0) :: (p) :: (jnk 27 [])), [], h.st i l a'⟩
theorem g_inner (i o : Nat) (l : List Int) (a : Int) (h : Hp) (hl : SOk l) (S : Nat → Prop) (d : Nat) (cs0 : List AV) (ha : 0 ≤ a ∧ a + 2 * d ≤ 900000000) (hio : o ≠ i) (hH0 : h.H o = some (.cells cs0)) (hO : OLd true h.T S d cs0) :
  ACalls Tryz.prog 64 [.ptr i 0, .ptr o 0] (h.st i l a) (fun r h' => ∃ cs e a', (a ≤ a' ∧ a' ≤ a + 2 * d) ∧ PtIn o h.T S cs0 r cs ∧ OLd true h.T S e cs ∧ h' = h.st i l a') := by
 refine gE Tryz.func64 rfl (by kernel_rfl) 27 rfl fun c => ?_
 (repeat (first | refine gO rfl ?_ | ((first | refine gR ?_ | (with_reducible refine wM ?_ ?_) | ((with_reducible refine xR ?_); refine uE 2 zM41 zP17E zP17P 29 rfl (by kernel_rfl) ?_)) <;> ((try with_reducible intro K1 hK1); simp only [go_sem, ↓reduceIte, reduceCtorEq, nA, nB, nC, nD, nE, nF] <;> and_intros <;> first | (apply hK1; clear hK1 K1) | (intros; first | omega | decide | (simp_all <;> omega)) | skip))))
 refine awp_loopC (rl false [0, 2, 27]) 0 (fun g s => InnI i o l a h S d cs0 g s) d ⟨.ptr o 0, cs0, a, .inl ⟨rfl, rfl⟩, hO, by omega, rfl⟩ ?_
 rintro g _ ⟨p, cs, a', hp, hcs, ha', rfl⟩
 cases g with
 | zero => exact hcs.elim
 | succ g =>
 obtain ⟨kind, item, long, many, K, Sh, rfl, hnb, hK, hS⟩ := id hcs
 have hH1 : ∀ b, cs0 = [.v (.int .i64 kind), .v (.string item), .v (.int .i64 long), .v (.int .i64 many), K, Sh] → (h.st i l b).H o = some (.cells [.v (.int .i64 kind), .v (.string item), .v (.int .i64 long), .v (.int .i64 many), K, Sh]) := fun b e => by
  rw [← e]; simp only [Hp.st, upd_other _ _ hio]; exact hH0
 have hK' : K = .v (.slice none 0 0) ∨ ∃ q css, S q ∧ h.T q = some (.cont 6 css) ∧ K = .arr 6 q css.length ∧ 0 < css.length ∧ css.length ≤ 3 ∧ ∀ c ∈ css, OLd true h.T S g c := by
  rcases hK with e | e | ⟨e, _⟩
  ·exact .inl e
  ·exact .inr e
  ·cases e
 rcases hK' with rfl | ⟨q, css, hq, hTq, rfl, hpos, hcl, hcc⟩
 ·rcases id hp with ⟨rfl, e⟩ | ⟨q0, css0, j0, hq0, hT0, hj0, rfl, hg0⟩
  ·have hH := fun b => hH1 b e.symm
   (repeat (first | refine gO rfl ?_ | ((first | refine gR ?_ | (with_reducible refine wM ?_ ?_) | ((with_reducible refine xR ?_); refine uE 2 zM41 zP17E zP17P 29 rfl (by kernel_rfl) ?_)) <;> ((try with_reducible intro K1 hK1); simp only [go_sem, ↓reduceIte, reduceCtorEq, nA, nB, nC, nD, nE, nF, hH, st_T, Int.toNat_natCast] <;> and_intros <;> first | (apply hK1; clear hK1 K1) | (intros; first | omega | decide | (simp_all <;> omega)) | skip))))
   intro h1
   refine hK1 _ ?_; clear hK1 K1
   (repeat (first | refine gO rfl ?_ | ((first | refine gR ?_ | (with_reducible refine wM ?_ ?_) | ((with_reducible refine xR ?_); refine uE 2 zM41 zP17E zP17P 29 rfl (by kernel_rfl) ?_)) <;> ((try with_reducible intro K1 hK1); simp only [go_sem, ↓reduceIte, reduceCtorEq, nA, nB, nC, nD, nE, nF, hH, h1, st_T, Int.toNat_natCast] <;> and_intros <;> first | (apply hK1; clear hK1 K1) | (intros; first | omega | decide | (simp_all <;> omega)) | skip))))
   refine ⟨.junk, rfl, hK1 _ ?_⟩; clear hK1 K1
   (repeat (first | refine gO rfl ?_ | ((first | refine gR ?_ | (with_reducible refine wM ?_ ?_) | ((with_reducible refine xR ?_); refine uE 2 zM41 zP17E zP17P 29 rfl (by kernel_rfl) ?_)) <;> ((try with_reducible intro K1 hK1); simp only [go_sem, ↓reduceIte, reduceCtorEq, nA, nB, nC, nD, nE, nF, hH, h1, st_T, Int.toNat_natCast] <;> and_intros <;> first | (apply hK1; clear hK1 K1) | (intros; first | omega | decide | (simp_all <;> omega)) | skip))))
   refine awp_cond (t := _) rfl (fun h2 => by cases h2) (fun h2 => ?_)
   (repeat (first | refine gO rfl ?_ | ((first | refine gR ?_ | (with_reducible refine wM ?_ ?_) | ((with_reducible refine xR ?_); refine uE 2 zM41 zP17E zP17P 29 rfl (by kernel_rfl) ?_)) <;> ((try with_reducible intro K1 hK1); simp only [go_sem, ↓reduceIte, reduceCtorEq, nA, nB, nC, nD, nE, nF, hH, st_T, Int.toNat_natCast] <;> and_intros <;> first | (apply hK1; clear hK1 K1) | (intros; first | omega | decide | (simp_all <;> omega)) | skip))))
   simp only [Tryz.results64, go_sem, ↓reduceIte, reduceCtorEq, nA, nB, nC, nD, nE, nF]
   exact ⟨_, _, Weak.refl _, Hp.le.refl _, _, _, a', by omega, hp, hcs, rfl⟩
  ·have hj0' : (j0 : Nat) < css0.length := hj0
   (repeat (first | refine gO rfl ?_ | ((first | refine gR ?_ | (with_reducible refine wM ?_ ?_) | ((with_reducible refine xR ?_); refine uE 2 zM41 zP17E zP17P 29 rfl (by kernel_rfl) ?_)) <;> ((try with_reducible intro K1 hK1); simp only [go_sem, ↓reduceIte, reduceCtorEq, nA, nB, nC, nD, nE, nF, hT0, hg0, st_T, Int.toNat_natCast] <;> and_intros <;> first | (apply hK1; clear hK1 K1) | (intros; first | omega | decide | (simp_all <;> omega)) | skip))))
   intro h1
   refine hK1 _ ?_; clear hK1 K1
   (repeat (first | refine gO rfl ?_ | ((first | refine gR ?_ | (with_reducible refine wM ?_ ?_) | ((with_reducible refine xR ?_); refine uE 2 zM41 zP17E zP17P 29 rfl (by kernel_rfl) ?_)) <;> ((try with_reducible intro K1 hK1); simp only [go_sem, ↓reduceIte, reduceCtorEq, nA, nB, nC, nD, nE, nF, hT0, hg0, h1, st_T, Int.toNat_natCast] <;> and_intros <;> first | (apply hK1; clear hK1 K1) | (intros; first | omega | decide | (simp_all <;> omega)) | skip))))
   refine ⟨.junk, rfl, hK1 _ ?_⟩; clear hK1 K1
   (repeat (first | refine gO rfl ?_ | ((first | refine gR ?_ | (with_reducible refine wM ?_ ?_) | ((with_reducible refine xR ?_); refine uE 2 zM41 zP17E zP17P 29 rfl (by kernel_rfl) ?_)) <;> ((try with_reducible intro K1 hK1); simp only [go_sem, ↓reduceIte, reduceCtorEq, nA, nB, nC, nD, nE, nF, hT0, hg0, h1, st_T, Int.toNat_natCast] <;> and_intros <;> first | (apply hK1; clear hK1 K1) | (intros; first | omega | decide | (simp_all <;> omega)) | skip))))
   refine awp_cond (t := _) rfl (fun h2 => by cases h2) (fun h2 => ?_)
   (repeat (first | refine gO rfl ?_ | ((first | refine gR ?_ | (with_reducible refine wM ?_ ?_) | ((with_reducible refine xR ?_); refine uE 2 zM41 zP17E zP17P 29 rfl (by kernel_rfl) ?_)) <;> ((try with_reducible intro K1 hK1); simp only [go_sem, ↓reduceIte, reduceCtorEq, nA, nB, nC, nD, nE, nF, hT0, hg0, st_T, Int.toNat_natCast] <;> and_intros <;> first | (apply hK1; clear hK1 K1) | (intros; first | omega | decide | (simp_all <;> omega)) | skip))))
   simp only [Tryz.results64, go_sem, ↓reduceIte, reduceCtorEq, nA, nB, nC, nD, nE, nF]
   exact ⟨_, _, Weak.refl _, Hp.le.refl _, _, _, a', by omega, hp, hcs, rfl⟩
 ·rcases id hp with ⟨rfl, e⟩ | ⟨q0, css0, j0, hq0, hT0, hj0, rfl, hg0⟩
  ·have hH := fun b => hH1 b e.symm
   (repeat (first | refine gO rfl ?_ | ((first | refine gR ?_ | (with_reducible refine wM ?_ ?_) | ((with_reducible refine xR ?_); refine uE 2 zM41 zP17E zP17P 29 rfl (by kernel_rfl) ?_)) <;> ((try with_reducible intro K1 hK1); simp only [go_sem, ↓reduceIte, reduceCtorEq, nA, nB, nC, nD, nE, nF, hH, st_T, Int.toNat_natCast] <;> and_intros <;> first | (apply hK1; clear hK1 K1) | (intros; first | omega | decide | (simp_all <;> omega)) | skip))))
   intro h1
   refine ⟨h1, ?_⟩
   refine (g_flip i l a' 3 h hl (by omega) (by omega)).mono ?_
   rintro _ _ ⟨b, rfl, rfl⟩
   refine ⟨rfl, hK1 _ ?_⟩; clear hK1 K1
   (repeat (first | refine gO rfl ?_ | ((first | refine gR ?_ | (with_reducible refine wM ?_ ?_) | ((with_reducible refine xR ?_); refine uE 2 zM41 zP17E zP17P 29 rfl (by kernel_rfl) ?_)) <;> ((try with_reducible intro K1 hK1); simp only [go_sem, ↓reduceIte, reduceCtorEq, nA, nB, nC, nD, nE, nF, hH, h1, st_T, Int.toNat_natCast] <;> and_intros <;> first | (apply hK1; clear hK1 K1) | (intros; first | omega | decide | (simp_all <;> omega)) | skip))))
   refine awp_cond (t := _) rfl (fun h2 => ?_) (fun h2 => ?_)
   ·(repeat (first | refine gO rfl ?_ | ((first | refine gR ?_ | (with_reducible refine wM ?_ ?_) | ((with_reducible refine xR ?_); refine uE 2 zM41 zP17E zP17P 29 rfl (by kernel_rfl) ?_)) <;> ((try with_reducible intro K1 hK1); simp only [go_sem, ↓reduceIte, reduceCtorEq, nA, nB, nC, nD, nE, nF, hH, st_T, Int.toNat_natCast] <;> and_intros <;> first | (apply hK1; clear hK1 K1) | (intros; first | omega | decide | (simp_all <;> omega)) | skip))))
    refine (g_next i l (a' + 1) css.length h hl (by omega) (by omega)).mono ?_; rintro _ _ ⟨x, hx, rfl, rfl⟩; apply hK1; clear hK1 K1
    (repeat (first | refine gO rfl ?_ | ((first | refine gR ?_ | (with_reducible refine wM ?_ ?_) | ((with_reducible refine xR ?_); refine uE 2 zM41 zP17E zP17P 29 rfl (by kernel_rfl) ?_)) <;> ((try with_reducible intro K1 hK1); simp only [go_sem, ↓reduceIte, reduceCtorEq, nA, nB, nC, nD, nE, nF, hH, st_T, Int.toNat_natCast] <;> and_intros <;> first | (apply hK1; clear hK1 K1) | (intros; first | omega | decide | (simp_all <;> omega)) | skip))))
    have hxl : x.toNat < css.length := by omega
    refine ⟨g, by omega, .eptr q css.length x.toNat 0, css.getD x.toNat [], a' + 1 + 1, .inr ⟨q, css, x.toNat, hq, hTq, hxl, rfl, rfl⟩, hcc _ (by rw [List.getD_eq_getElem?_getD, List.getElem?_eq_getElem hxl]; exact List.getElem_mem _), by omega, rfl⟩
   ·(repeat (first | refine gO rfl ?_ | ((first | refine gR ?_ | (with_reducible refine wM ?_ ?_) | ((with_reducible refine xR ?_); refine uE 2 zM41 zP17E zP17P 29 rfl (by kernel_rfl) ?_)) <;> ((try with_reducible intro K1 hK1); simp only [go_sem, ↓reduceIte, reduceCtorEq, nA, nB, nC, nD, nE, nF, hH, st_T, Int.toNat_natCast] <;> and_intros <;> first | (apply hK1; clear hK1 K1) | (intros; first | omega | decide | (simp_all <;> omega)) | skip))))
    simp only [Tryz.results64, go_sem, ↓reduceIte, reduceCtorEq, nA, nB, nC, nD, nE, nF]
    exact ⟨_, _, Weak.refl _, Hp.le.refl _, _, _, a' + 1, by omega, hp, hcs, rfl⟩
  ·--
   (repeat (first | refine gO rfl ?_ | ((first | refine gR ?_ | (with_reducible refine wM ?_ ?_) | ((with_reducible refine xR ?_); refine uE 2 zM41 zP17E zP17P 29 rfl (by kernel_rfl) ?_)) <;> ((try with_reducible intro K1 hK1); simp only [go_sem, ↓reduceIte, reduceCtorEq, nA, nB, nC, nD, nE, nF, hT0, hg0, st_T, Int.toNat_natCast] <;> and_intros <;> first | (apply hK1; clear hK1 K1) | (intros; first | omega | decide | (simp_all <;> omega)) | skip))))
   intro h1
   refine ⟨h1, ?_⟩
   refine (g_flip i l a' 3 h hl (by omega) (by omega)).mono ?_
   rintro _ _ ⟨b, rfl, rfl⟩
   refine ⟨rfl, hK1 _ ?_⟩; clear hK1 K1
   (repeat (first | refine gO rfl ?_ | ((first | refine gR ?_ | (with_reducible refine wM ?_ ?_) | ((with_reducible refine xR ?_); refine uE 2 zM41 zP17E zP17P 29 rfl (by kernel_rfl) ?_)) <;> ((try with_reducible intro K1 hK1); simp only [go_sem, ↓reduceIte, reduceCtorEq, nA, nB, nC, nD, nE, nF, hT0, hg0, h1, st_T, Int.toNat_natCast] <;> and_intros <;> first | (apply hK1; clear hK1 K1) | (intros; first | omega | decide | (simp_all <;> omega)) | skip))))
   refine awp_cond (t := _) rfl (fun h2 => ?_) (fun h2 => ?_)
   ·(repeat (first | refine gO rfl ?_ | ((first | refine gR ?_ | (with_reducible refine wM ?_ ?_) | ((with_reducible refine xR ?_); refine uE 2 zM41 zP17E zP17P 29 rfl (by kernel_rfl) ?_)) <;> ((try with_reducible intro K1 hK1); simp only [go_sem, ↓reduceIte, reduceCtorEq, nA, nB, nC, nD, nE, nF, hT0, hg0, st_T, Int.toNat_natCast] <;> and_intros <;> first | (apply hK1; clear hK1 K1) | (intros; first | omega | decide | (simp_all <;> omega)) | skip))))
    refine (g_next i l (a' + 1) css.length h hl (by omega) (by omega)).mono ?_; rintro _ _ ⟨x, hx, rfl, rfl⟩; apply hK1; clear hK1 K1
    (repeat (first | refine gO rfl ?_ | ((first | refine gR ?_ | (with_reducible refine wM ?_ ?_) | ((with_reducible refine xR ?_); refine uE 2 zM41 zP17E zP17P 29 rfl (by kernel_rfl) ?_)) <;> ((try with_reducible intro K1 hK1); simp only [go_sem, ↓reduceIte, reduceCtorEq, nA, nB, nC, nD, nE, nF, hT0, hg0, st_T, Int.toNat_natCast] <;> and_intros <;> first | (apply hK1; clear hK1 K1) | (intros; first | omega | decide | (simp_all <;> omega)) | skip))))
    have hxl : x.toNat < css.length := by omega
    refine ⟨g, by omega, .eptr q css.length x.toNat 0, css.getD x.toNat [], a' + 1 + 1, .inr ⟨q, css, x.toNat, hq, hTq, hxl, rfl, rfl⟩, hcc _ (by rw [List.getD_eq_getElem?_getD, List.getElem?_eq_getElem hxl]; exact List.getElem_mem _), by omega, rfl⟩
   ·(repeat (first | refine gO rfl ?_ | ((first | refine gR ?_ | (with_reducible refine wM ?_ ?_) | ((with_reducible refine xR ?_); refine uE 2 zM41 zP17E zP17P 29 rfl (by kernel_rfl) ?_)) <;> ((try with_reducible intro K1 hK1); simp only [go_sem, ↓reduceIte, reduceCtorEq, nA, nB, nC, nD, nE, nF, hT0, hg0, st_T, Int.toNat_natCast] <;> and_intros <;> first | (apply hK1; clear hK1 K1) | (intros; first | omega | decide | (simp_all <;> omega)) | skip))))
    simp only [Tryz.results64, go_sem, ↓reduceIte, reduceCtorEq, nA, nB, nC, nD, nE, nF]
    exact ⟨_, _, Weak.refl _, Hp.le.refl _, _, _, a' + 1, by omega, hp, hcs, rfl⟩
abbrev zP18E : List Nat := [0, 1, 3, 4]
abbrev zP18P : List (Nat × List Nat × List Nat) := [(2, [3], []), (5, [], [6]), (7, [], [])]
abbrev zP19E : List Nat := [0, 1, 2, 3]
abbrev zP19P : List (Nat × List Nat × List Nat) := [(4, [0], [5]), (6, [], []), (8, [], [])]
abbrev zP1AE : List Nat := [0, 1, 2, 3]
abbrev zP1AP : List (Nat × List Nat × List Nat) := [(4, [1], [5]), (6, [], [7]), (8, [], [])]
attribute [go_sem] zP18E zP18P zP19E zP19P zP1AE zP1AP
theorem g_item (i : Nat) (l : List Int) (a : Int) (h : Hp) (hl : SOk l) (ha : 0 ≤ a ∧ a ≤ 900000000) :
  ACalls Tryz.prog 118 [.ref [.ptr i 0] 0] (h.st i l a) (fun r h' => ∃ t, LB 1 t ∧ r = .agg (encX t) ∧ h' = h.st i l (a + 2)) := by
 refine gE Tryz.func118 rfl (by kernel_rfl) 8 rfl fun c => ?_
 (repeat (first | refine gO rfl ?_ | ((first | refine gM zM45 ?_ | (with_reducible refine wM ?_ ?_) | ((with_reducible refine xS ?_); refine uD 1 zM45 zP18E zP18P 9 rfl (by kernel_rfl) ?_)) <;> ((try with_reducible intro K1 hK1); simp only [go_sem, ↓reduceIte, reduceCtorEq, nA, nB, nC, nD, nE, nF] <;> and_intros <;> first | (apply hK1; clear hK1 K1) | (intros; first | omega | decide | (simp_all <;> omega)) | skip))))
 refine (g_some i l a [⟨#[105, 97]⟩, ⟨#[105, 97]⟩, ⟨#[105, 98]⟩, ⟨#[105, 99]⟩, ⟨#[110, 97]⟩] none h hl (by omega) (by simp)).mono ?_; rintro _ _ ⟨x, hx, rfl, rfl⟩; apply hK1; clear hK1 K1
 (repeat (first | refine gO rfl ?_ | ((first | refine gM zM45 ?_ | (with_reducible refine wM ?_ ?_) | ((with_reducible refine xS ?_); refine uD 1 zM45 zP18E zP18P 9 rfl (by kernel_rfl) ?_)) <;> ((try with_reducible intro K1 hK1); simp only [go_sem, ↓reduceIte, reduceCtorEq, nA, nB, nC, nD, nE, nF] <;> and_intros <;> first | (apply hK1; clear hK1 K1) | (intros; first | omega | decide | (simp_all <;> omega)) | skip))))
 refine (g_pick i l (a + 1) [1000, 2000, 5000] none h hl (by omega) (by simp)).mono ?_; rintro _ _ ⟨y, hy, rfl, rfl⟩; apply hK1; clear hK1 K1
 (repeat (first | refine gO rfl ?_ | ((first | refine gM zM45 ?_ | (with_reducible refine wM ?_ ?_) | ((with_reducible refine xS ?_); refine uD 1 zM45 zP18E zP18P 9 rfl (by kernel_rfl) ?_)) <;> ((try with_reducible intro K1 hK1); simp only [go_sem, ↓reduceIte, reduceCtorEq, nA, nB, nC, nD, nE, nF] <;> and_intros <;> first | (apply hK1; clear hK1 K1) | (intros; first | omega | decide | (simp_all <;> omega)) | skip))))
 simp only [Tryz.results118, go_sem, ↓reduceIte, reduceCtorEq, nA, nB, nC, nD, nE, nF]
 refine ⟨_, _, Weak.refl _, Hp.le.refl _, .mk 1 x y 0 [] [], ?_, by rw [encX_eq]; rfl, by rw [show a + 1 + 1 = a + 2 by omega]⟩
 simp at hx hy
 refine ⟨by unfold NB; omega, ?_, by unfold NB; omega, by unfold NB; omega, by simp, by simp, by simp, by simp⟩
 rcases hx with rfl | rfl | rfl | rfl <;> decide
def costR : Nat → Int
 | 0 => 20
 | n + 1 => 20 + 3 * (costR n + 10)
def RightI (d : Nat) (deep : Int) (i : Nat) (l : List Int) (h : Hp) (kd mn many a' : Int) (k1 : Nat) (g : Nat) (s : St) : Prop :=
 ∃ (kids : List LT) (shares : List Int) (S : AV) (T2 : Nat → Option TO) (a2 : Int), (g : Int) + kids.length = many ∧ T2 k1 = some (.tail kids.length) ∧
  (kd = 4 ∧ (∃ k2, k2 ≠ k1 ∧ h.T k2 = none ∧ S = .row 1 (shares.map encI) (some k2) ∧ T2 k2 = some (.tail shares.length) ∧ shares.length = kids.length) ∨ kd ≠ 4 ∧ shares = [] ∧ S = .v (.slice none 0 0)) ∧
  (∀ k, h.T k ≠ none → T2 k = h.T k) ∧ (∀ t ∈ kids, LB (d + 1) t) ∧ (∀ x ∈ shares, NB x) ∧ (a' ≤ a2 ∧ a2 ≤ a' + kids.length * (costR d + 3)) ∧
  s = ⟨(AV.junk :: ((.v (.int .i64 deep)) :: (.ref [.ptr i 0] 0) :: AV.junk :: ((.loc 0 0) :: AV.junk :: ((.loc 1 0) :: (jnk 25 ((.v (.int .i64 many)) :: (.v (.int .i64 kids.length)) :: (jnk 42 []))))))),
   [[.v (.int .i64 0), .v (.string { data := #[] }), .v (.int .i64 0), .v (.int .i64 0), .v (.slice none 0 0), .v (.slice none 0 0)], [.v (.int .i64 kd), .v (.string { data := #[] }), .v (.int .i64 0), .v (.int .i64 mn), .row 6 (kids.map encX) (some k1), S]], Hp.st ⟨h.H, T2⟩ i l a2⟩
theorem g_right : ∀ (d : Nat) (deep : Int) (_ : deep ≤ d ∧ -10 ≤ deep ∧ d ≤ 100) (i : Nat) (l : List Int) (a : Int) (h : Hp) (_ : SOk l) (_ : 0 ≤ a ∧ a + costR d ≤ 900000000),
  ACalls Tryz.prog 63 [.ptr i 0, .v (.int .i64 deep)] (h.st i l a) (fun r h' => ∃ t a', LB (d + 1) t ∧ (a ≤ a' ∧ a' ≤ a + costR d) ∧ r = .agg (encX t) ∧ h' = h.st i l a')
 | 0, deep, hd, i, l, a, h, hl, ha => by
  have hc : costR 0 = 20 := rfl
  refine gE Tryz.func63 rfl (by kernel_rfl) 74 rfl fun c => ?_
  (repeat (first | refine gO rfl ?_ | ((first | refine gM zM46 ?_ | (with_reducible refine wM ?_ ?_) | ((with_reducible refine xS ?_); refine uF 10 zM46 7 zP19E zP19P 76 rfl (by kernel_rfl) ?_) | ((with_reducible refine xR ?_); refine uE 16 zM46 zP1AE zP1AP 76 rfl (by kernel_rfl) ?_)) <;> ((try with_reducible intro K1 hK1); simp only [go_sem, ↓reduceIte, reduceCtorEq, nA, nB, nC, nD, nE, nF] <;> and_intros <;> first | (apply hK1; clear hK1 K1) | (intros; first | omega | decide | (simp_all <;> omega)) | skip))))
  intro h1
  refine hK1 _ ?_; clear hK1 K1
  (repeat (first | refine gO rfl ?_ | ((first | refine gM zM46 ?_ | (with_reducible refine wM ?_ ?_) | ((with_reducible refine xS ?_); refine uF 10 zM46 7 zP19E zP19P 76 rfl (by kernel_rfl) ?_) | ((with_reducible refine xR ?_); refine uE 16 zM46 zP1AE zP1AP 76 rfl (by kernel_rfl) ?_)) <;> ((try with_reducible intro K1 hK1); simp only [go_sem, ↓reduceIte, reduceCtorEq, nA, nB, nC, nD, nE, nF, h1] <;> and_intros <;> first | (apply hK1; clear hK1 K1) | (intros; first | omega | decide | (simp_all <;> omega)) | skip))))
  refine awp_cond (t := _) rfl (fun _ => ?_) (fun h2 => by cases h2)
  (repeat (first | refine gO rfl ?_ | ((first | refine gM zM46 ?_ | (with_reducible refine wM ?_ ?_) | ((with_reducible refine xS ?_); refine uF 10 zM46 7 zP19E zP19P 76 rfl (by kernel_rfl) ?_) | ((with_reducible refine xR ?_); refine uE 16 zM46 zP1AE zP1AP 76 rfl (by kernel_rfl) ?_)) <;> ((try with_reducible intro K1 hK1); simp only [go_sem, ↓reduceIte, reduceCtorEq, nA, nB, nC, nD, nE, nF] <;> and_intros <;> first | (apply hK1; clear hK1 K1) | (intros; first | omega | decide | (simp_all <;> omega)) | skip))))
  refine (g_item i l a h hl (by omega)).mono ?_; rintro _ _ ⟨t, ht, rfl, rfl⟩; apply hK1; clear hK1 K1
  have hlen := encX_len t
  have htk : List.take 6 (encX t) = encX t := List.take_of_length_le (Nat.le_of_eq hlen)
  (repeat (first | refine gO rfl ?_ | ((first | refine gM zM46 ?_ | (with_reducible refine wM ?_ ?_) | ((with_reducible refine xS ?_); refine uF 10 zM46 7 zP19E zP19P 76 rfl (by kernel_rfl) ?_) | ((with_reducible refine xR ?_); refine uE 16 zM46 zP1AE zP1AP 76 rfl (by kernel_rfl) ?_)) <;> ((try with_reducible intro K1 hK1); simp only [go_sem, ↓reduceIte, reduceCtorEq, nA, nB, nC, nD, nE, nF, hlen] <;> and_intros <;> first | (apply hK1; clear hK1 K1) | (intros; first | omega | decide | (simp_all <;> omega)) | skip))))
  simp only [Tryz.results63, go_sem, ↓reduceIte, reduceCtorEq, nA, nB, nC, nD, nE, nF, hlen, htk]
  exact ⟨_, _, Weak.refl _, Hp.le.refl _, t, a + 2, ht, by omega, rfl, rfl⟩
 | d + 1, deep, hd, i, l, a, h, hl, ha => by
  have hc : costR (d + 1) = 20 + 3 * (costR d + 10) := rfl
  have hc0 : 20 ≤ costR d := by
   clear hc ha hd
   induction d with
   | zero => exact Int.le_refl _
   | succ n ih => show 20 ≤ 20 + 3 * (costR n + 10); omega
  refine gE Tryz.func63 rfl (by kernel_rfl) 74 rfl fun c => ?_
  (repeat (first | refine gO rfl ?_ | ((first | refine gM zM46 ?_ | (with_reducible refine wM ?_ ?_) | ((with_reducible refine xS ?_); refine uF 10 zM46 7 zP19E zP19P 76 rfl (by kernel_rfl) ?_) | ((with_reducible refine xR ?_); refine uE 16 zM46 zP1AE zP1AP 76 rfl (by kernel_rfl) ?_)) <;> ((try with_reducible intro K1 hK1); simp only [go_sem, ↓reduceIte, reduceCtorEq, nA, nB, nC, nD, nE, nF] <;> and_intros <;> first | (apply hK1; clear hK1 K1) | (intros; first | omega | decide | (simp_all <;> omega)) | skip))))
  rotate_left
  ·intro h1
   refine hK1 _ ?_; clear hK1 K1
   (repeat (first | refine gO rfl ?_ | ((first | refine gM zM46 ?_ | (with_reducible refine wM ?_ ?_) | ((with_reducible refine xS ?_); refine uF 10 zM46 7 zP19E zP19P 76 rfl (by kernel_rfl) ?_) | ((with_reducible refine xR ?_); refine uE 16 zM46 zP1AE zP1AP 76 rfl (by kernel_rfl) ?_)) <;> ((try with_reducible intro K1 hK1); simp only [go_sem, ↓reduceIte, reduceCtorEq, nA, nB, nC, nD, nE, nF, h1] <;> and_intros <;> first | (apply hK1; clear hK1 K1) | (intros; first | omega | decide | (simp_all <;> omega)) | skip))))
   refine awp_cond (t := _) rfl (fun _ => ?_) (fun h2 => by cases h2)
   (repeat (first | refine gO rfl ?_ | ((first | refine gM zM46 ?_ | (with_reducible refine wM ?_ ?_) | ((with_reducible refine xS ?_); refine uF 10 zM46 7 zP19E zP19P 76 rfl (by kernel_rfl) ?_) | ((with_reducible refine xR ?_); refine uE 16 zM46 zP1AE zP1AP 76 rfl (by kernel_rfl) ?_)) <;> ((try with_reducible intro K1 hK1); simp only [go_sem, ↓reduceIte, reduceCtorEq, nA, nB, nC, nD, nE, nF] <;> and_intros <;> first | (apply hK1; clear hK1 K1) | (intros; first | omega | decide | (simp_all <;> omega)) | skip))))
   refine (g_item i l a h hl (by omega)).mono ?_; rintro _ _ ⟨t, ht, rfl, rfl⟩; apply hK1; clear hK1 K1
   have hlen := encX_len t
   have htk : List.take 6 (encX t) = encX t := List.take_of_length_le (Nat.le_of_eq hlen)
   (repeat (first | refine gO rfl ?_ | ((first | refine gM zM46 ?_ | (with_reducible refine wM ?_ ?_) | ((with_reducible refine xS ?_); refine uF 10 zM46 7 zP19E zP19P 76 rfl (by kernel_rfl) ?_) | ((with_reducible refine xR ?_); refine uE 16 zM46 zP1AE zP1AP 76 rfl (by kernel_rfl) ?_)) <;> ((try with_reducible intro K1 hK1); simp only [go_sem, ↓reduceIte, reduceCtorEq, nA, nB, nC, nD, nE, nF, hlen] <;> and_intros <;> first | (apply hK1; clear hK1 K1) | (intros; first | omega | decide | (simp_all <;> omega)) | skip))))
   simp only [Tryz.results63, go_sem, ↓reduceIte, reduceCtorEq, nA, nB, nC, nD, nE, nF, hlen, htk]
   exact ⟨_, _, Weak.refl _, Hp.le.refl _, t, a + 2, ht.mono (by omega), by omega, rfl, rfl⟩
  ·intro h1
   refine ⟨h1, ?_⟩
   refine (g_flip i l a 5 h hl (by omega) (by omega)).mono ?_
   rintro _ _ ⟨b, rfl, rfl⟩
   refine ⟨rfl, hK1 _ ?_⟩; clear hK1 K1
   (repeat (first | refine gO rfl ?_ | ((first | refine gM zM46 ?_ | (with_reducible refine wM ?_ ?_) | ((with_reducible refine xS ?_); refine uF 10 zM46 7 zP19E zP19P 76 rfl (by kernel_rfl) ?_) | ((with_reducible refine xR ?_); refine uE 16 zM46 zP1AE zP1AP 76 rfl (by kernel_rfl) ?_)) <;> ((try with_reducible intro K1 hK1); simp only [go_sem, ↓reduceIte, reduceCtorEq, nA, nB, nC, nD, nE, nF, h1] <;> and_intros <;> first | (apply hK1; clear hK1 K1) | (intros; first | omega | decide | (simp_all <;> omega)) | skip))))
   refine awp_cond (t := _) rfl (fun _ => ?_) (fun h2 => ?_)
   ·(repeat (first | refine gO rfl ?_ | ((first | refine gM zM46 ?_ | (with_reducible refine wM ?_ ?_) | ((with_reducible refine xS ?_); refine uF 10 zM46 7 zP19E zP19P 76 rfl (by kernel_rfl) ?_) | ((with_reducible refine xR ?_); refine uE 16 zM46 zP1AE zP1AP 76 rfl (by kernel_rfl) ?_)) <;> ((try with_reducible intro K1 hK1); simp only [go_sem, ↓reduceIte, reduceCtorEq, nA, nB, nC, nD, nE, nF] <;> and_intros <;> first | (apply hK1; clear hK1 K1) | (intros; first | omega | decide | (simp_all <;> omega)) | skip))))
    refine (g_item i l (a + 1) h hl (by omega)).mono ?_; rintro _ _ ⟨t, ht, rfl, rfl⟩; apply hK1; clear hK1 K1
    have hlen := encX_len t
    have htk : List.take 6 (encX t) = encX t := List.take_of_length_le (Nat.le_of_eq hlen)
    (repeat (first | refine gO rfl ?_ | ((first | refine gM zM46 ?_ | (with_reducible refine wM ?_ ?_) | ((with_reducible refine xS ?_); refine uF 10 zM46 7 zP19E zP19P 76 rfl (by kernel_rfl) ?_) | ((with_reducible refine xR ?_); refine uE 16 zM46 zP1AE zP1AP 76 rfl (by kernel_rfl) ?_)) <;> ((try with_reducible intro K1 hK1); simp only [go_sem, ↓reduceIte, reduceCtorEq, nA, nB, nC, nD, nE, nF, hlen] <;> and_intros <;> first | (apply hK1; clear hK1 K1) | (intros; first | omega | decide | (simp_all <;> omega)) | skip))))
    simp only [Tryz.results63, go_sem, ↓reduceIte, reduceCtorEq, nA, nB, nC, nD, nE, nF, hlen, htk]
    exact ⟨_, _, Weak.refl _, Hp.le.refl _, t, a + 1 + 2, ht.mono (by omega), by omega, rfl, rfl⟩
   ·(repeat (first | refine gO rfl ?_ | ((first | refine gM zM46 ?_ | (with_reducible refine wM ?_ ?_) | ((with_reducible refine xS ?_); refine uF 10 zM46 7 zP19E zP19P 76 rfl (by kernel_rfl) ?_) | ((with_reducible refine xR ?_); refine uE 16 zM46 zP1AE zP1AP 76 rfl (by kernel_rfl) ?_)) <;> ((try with_reducible intro K1 hK1); simp only [go_sem, ↓reduceIte, reduceCtorEq, nA, nB, nC, nD, nE, nF] <;> and_intros <;> first | (apply hK1; clear hK1 K1) | (intros; first | omega | decide | (simp_all <;> omega)) | skip))))
    refine (g_pick i l (a + 1) [2, 2, 3, 4, 5] none h hl (by omega) (by simp)).mono ?_; rintro _ _ ⟨kd, hkd, rfl, rfl⟩; apply hK1; clear hK1 K1
    (repeat (first | refine gO rfl ?_ | ((first | refine gM zM46 ?_ | (with_reducible refine wM ?_ ?_) | ((with_reducible refine xS ?_); refine uF 10 zM46 7 zP19E zP19P 76 rfl (by kernel_rfl) ?_) | ((with_reducible refine xR ?_); refine uE 16 zM46 zP1AE zP1AP 76 rfl (by kernel_rfl) ?_)) <;> ((try with_reducible intro K1 hK1); simp only [go_sem, ↓reduceIte, reduceCtorEq, nA, nB, nC, nD, nE, nF] <;> and_intros <;> first | (apply hK1; clear hK1 K1) | (intros; first | omega | decide | (simp_all <;> omega)) | skip))))
    refine (g_range i l (a + 1 + 1) 1 3 h hl (by omega) (by omega) (by omega) (by omega)).mono ?_; rintro _ _ ⟨many, hmany, rfl, rfl⟩; apply hK1; clear hK1 K1
    (repeat (first | refine gO rfl ?_ | ((first | refine gM zM46 ?_ | (with_reducible refine wM ?_ ?_) | ((with_reducible refine xS ?_); refine uF 10 zM46 7 zP19E zP19P 76 rfl (by kernel_rfl) ?_) | ((with_reducible refine xR ?_); refine uE 16 zM46 zP1AE zP1AP 76 rfl (by kernel_rfl) ?_)) <;> ((try with_reducible intro K1 hK1); simp only [go_sem, ↓reduceIte, reduceCtorEq, nA, nB, nC, nD, nE, nF] <;> and_intros <;> first | (apply hK1; clear hK1 K1) | (intros; first | omega | decide | (simp_all <;> omega)) | skip))))
    have hk5 : 2 ≤ kd ∧ kd ≤ 5 := by simp at hkd; omega
    clear hkd
    refine awp_join (rl false [1, 2, 1, 1, 1, 2, 68]) 2 (fun s => ∃ mn many a' : Int, (0 ≤ mn ∧ mn ≤ 3) ∧ (1 ≤ many ∧ many ≤ 3) ∧ (a ≤ a' ∧ a' ≤ a + 4) ∧
     s = ⟨(AV.junk :: ((.v (.int .i64 deep)) :: (.ref [.ptr i 0] 0) :: AV.junk :: ((.loc 0 0) :: AV.junk :: ((.loc 1 0) :: (.v (.int .i64 many)) :: (jnk 68 []))))),
      [[.v (.int .i64 0), .v (.string { data := #[] }), .v (.int .i64 0), .v (.int .i64 0), .v (.slice none 0 0), .v (.slice none 0 0)], [.v (.int .i64 kd), .v (.string { data := #[] }), .v (.int .i64 0), .v (.int .i64 mn), .v (.slice none 0 0), .v (.slice none 0 0)]], h.st i l a'⟩) ?_ ?_
    ·refine awp_cond (t := _) rfl (fun h5 => ?_) (fun h5 => ?_)
     ·(repeat (first | refine gO rfl ?_ | ((first | refine gM zM46 ?_ | (with_reducible refine wM ?_ ?_) | ((with_reducible refine xS ?_); refine uF 10 zM46 7 zP19E zP19P 76 rfl (by kernel_rfl) ?_) | ((with_reducible refine xR ?_); refine uE 16 zM46 zP1AE zP1AP 76 rfl (by kernel_rfl) ?_)) <;> ((try with_reducible intro K1 hK1); simp only [go_sem, ↓reduceIte, reduceCtorEq, nA, nB, nC, nD, nE, nF] <;> and_intros <;> first | (apply hK1; clear hK1 K1) | (intros; first | omega | decide | (simp_all <;> omega)) | skip))))
      refine (g_pick i l (a + 1 + 1 + 1) [1, 2, 3] none h hl (by omega) (by simp)).mono ?_; rintro _ _ ⟨mn, hmn, rfl, rfl⟩; apply hK1; clear hK1 K1
      (repeat (first | refine gO rfl ?_ | ((first | refine gM zM46 ?_ | (with_reducible refine wM ?_ ?_) | ((with_reducible refine xS ?_); refine uF 10 zM46 7 zP19E zP19P 76 rfl (by kernel_rfl) ?_) | ((with_reducible refine xR ?_); refine uE 16 zM46 zP1AE zP1AP 76 rfl (by kernel_rfl) ?_)) <;> ((try with_reducible intro K1 hK1); simp only [go_sem, ↓reduceIte, reduceCtorEq, nA, nB, nC, nD, nE, nF] <;> and_intros <;> first | (apply hK1; clear hK1 K1) | (intros; first | omega | decide | (simp_all <;> omega)) | skip))))
      exact ⟨mn, 1, _, by simp at hmn; omega, by omega, by omega, rfl⟩
     ·(repeat (first | refine gO rfl ?_ | ((first | refine gM zM46 ?_ | (with_reducible refine wM ?_ ?_) | ((with_reducible refine xS ?_); refine uF 10 zM46 7 zP19E zP19P 76 rfl (by kernel_rfl) ?_) | ((with_reducible refine xR ?_); refine uE 16 zM46 zP1AE zP1AP 76 rfl (by kernel_rfl) ?_)) <;> ((try with_reducible intro K1 hK1); simp only [go_sem, ↓reduceIte, reduceCtorEq, nA, nB, nC, nD, nE, nF] <;> and_intros <;> first | (apply hK1; clear hK1 K1) | (intros; first | omega | decide | (simp_all <;> omega)) | skip))))
      exact ⟨0, many, _, by omega, hmany, by omega, rfl⟩
    ·rintro _ ⟨mn, many, a', hmn, hmany2, ha', rfl⟩
     refine awp_ownLoc 1 4 6 rfl rfl (fun k1 hk1 => ?_)
     simp only [List.set_cons_zero, List.set_cons_succ]
     refine awp_via (fun s => ∃ (S : AV) (T' : Nat → Option TO), T' k1 = some (.tail 0) ∧ (kd = 4 ∧ (∃ k2, k2 ≠ k1 ∧ h.T k2 = none ∧ S = .row 1 [] (some k2) ∧ T' k2 = some (.tail 0)) ∨ kd ≠ 4 ∧ S = .v (.slice none 0 0)) ∧ (∀ k, h.T k ≠ none → T' k = h.T k) ∧
      s = ⟨(AV.junk :: ((.v (.int .i64 deep)) :: (.ref [.ptr i 0] 0) :: AV.junk :: ((.loc 0 0) :: AV.junk :: ((.loc 1 0) :: (.v (.int .i64 many)) :: (jnk 68 []))))),
       [[.v (.int .i64 0), .v (.string { data := #[] }), .v (.int .i64 0), .v (.int .i64 0), .v (.slice none 0 0), .v (.slice none 0 0)], [.v (.int .i64 kd), .v (.string { data := #[] }), .v (.int .i64 0), .v (.int .i64 mn), .row 6 [] (some k1), S]], Hp.st ⟨h.H, T'⟩ i l a'⟩) ?_ ?_
     rotate_left
     ·intro main
      by_cases h4 : kd = 4
      ·refine awp_ownLoc 1 5 1 rfl rfl (fun k2 hk2 => ?_)
       simp only [List.set_cons_zero, List.set_cons_succ]
       have hne : k2 ≠ k1 := fun e => by subst e; simp [upd_same] at hk2
       simp only [upd_other _ _ hne] at hk2
       refine main _ ⟨_, upd (upd h.T k1 (some (.tail 0))) k2 (some (.tail 0)), by rw [upd_other _ _ hne.symm, upd_same], .inl ⟨h4, k2, hne, hk2, rfl, upd_same _ _ _⟩, fun k hk => ?_, rfl⟩
       have e1 : k ≠ k1 := fun e => hk (e ▸ hk1)
       have e2 : k ≠ k2 := fun e => hk (e ▸ hk2)
       rw [upd_other _ _ e2, upd_other _ _ e1]
      ·refine main _ ⟨_, upd h.T k1 (some (.tail 0)), upd_same _ _ _, .inr ⟨h4, rfl⟩, fun k hk => ?_, rfl⟩
       have e1 : k ≠ k1 := fun e => hk (e ▸ hk1)
       rw [upd_other _ _ e1]
     ·rintro _ ⟨S, T', hT1, hS, hTT, rfl⟩
      (repeat (first | refine gO rfl ?_ | ((first | refine gM zM46 ?_ | (with_reducible refine wM ?_ ?_) | ((with_reducible refine xS ?_); refine uF 10 zM46 7 zP19E zP19P 76 rfl (by kernel_rfl) ?_) | ((with_reducible refine xR ?_); refine uE 16 zM46 zP1AE zP1AP 76 rfl (by kernel_rfl) ?_)) <;> ((try with_reducible intro K1 hK1); simp only [go_sem, ↓reduceIte, reduceCtorEq, nA, nB, nC, nD, nE, nF] <;> and_intros <;> first | (apply hK1; clear hK1 K1) | (intros; first | omega | decide | (simp_all <;> omega)) | skip))))
      refine awp_loopC (rl false [1, 2, 1, 1, 1, 1, 25, 2, 42]) 2 (fun g s => RightI d deep i l h kd mn many a' k1 g s) many.toNat ⟨[], [], S, T', a', by simp; omega, hT1, by
       rcases hS with ⟨x1, k2, x2, x5, x3, x4⟩ | ⟨x1, x2⟩
       ·exact .inl ⟨x1, k2, x2, x5, x3, x4, rfl⟩
       ·exact .inr ⟨x1, rfl, x2⟩, hTT, by simp, by simp, by simp, rfl⟩ ?_
      rintro n _ ⟨kids, shares, S, T2, a2, hn, hT1, hS, hTT, hkl, hsb, ha2, rfl⟩
      have hkn : (kids.length : Int) ≤ 3 := by omega
      have hcd : (kids.length : Int) * (costR d + 3) ≤ 3 * (costR d + 3) := Int.mul_le_mul_of_nonneg_right hkn (by omega)
      (repeat (first | refine gO rfl ?_ | ((first | refine gM zM46 ?_ | (with_reducible refine wM ?_ ?_) | ((with_reducible refine xS ?_); refine uF 10 zM46 7 zP19E zP19P 76 rfl (by kernel_rfl) ?_) | ((with_reducible refine xR ?_); refine uE 16 zM46 zP1AE zP1AP 76 rfl (by kernel_rfl) ?_)) <;> ((try with_reducible intro K1 hK1); simp only [go_sem, ↓reduceIte, reduceCtorEq, nA, nB, nC, nD, nE, nF] <;> and_intros <;> first | (apply hK1; clear hK1 K1) | (intros; first | omega | decide | (simp_all <;> omega)) | skip))))
      refine awp_cond (t := _) rfl (fun h5 => ?_) (fun h5 => ?_)
      rotate_left
      ·(repeat (first | refine gO rfl ?_ | ((first | refine gM zM46 ?_ | (with_reducible refine wM ?_ ?_) | ((with_reducible refine xS ?_); refine uF 10 zM46 7 zP19E zP19P 76 rfl (by kernel_rfl) ?_) | ((with_reducible refine xR ?_); refine uE 16 zM46 zP1AE zP1AP 76 rfl (by kernel_rfl) ?_)) <;> ((try with_reducible intro K1 hK1); simp only [go_sem, ↓reduceIte, reduceCtorEq, nA, nB, nC, nD, nE, nF] <;> and_intros <;> first | (apply hK1; clear hK1 K1) | (intros; first | omega | decide | (simp_all <;> omega)) | skip))))
       simp only [Tryz.results63, go_sem, ↓reduceIte, reduceCtorEq, nA, nB, nC, nD, nE, nF]
       have hkl2 : (kids.length : Int) = many := by simp only [decide_eq_false_iff_not] at h5; omega
       refine ⟨_, _, ?_, le_st hTT i l a2, .mk kd default 0 mn kids shares, a2, ?_, by omega, rfl, rfl⟩
       ·rw [encX_eq]
        refine Weak.agg (.cons (Weak.refl _) (.cons (Weak.refl _) (.cons (Weak.refl _) (.cons (Weak.refl _) (.cons ?_ (.cons ?_ .nil))))))
        ·cases kids with
         | nil => simp at hkl2; omega
         | cons x xs => exact Weak.row _ _ _
        ·rcases hS with ⟨_, k2, _, _, rfl, _, h6⟩ | ⟨_, rfl, rfl⟩
         ·cases shares with
          | nil => simp at h6; omega
          | cons x xs => exact Weak.row _ _ _
         ·exact Weak.refl _
       ·refine ⟨by unfold NB; omega, by decide, by unfold NB; omega, by unfold NB; omega, by omega, ?_, hsb, hkl⟩
        rcases hS with ⟨_, k2, _, _, rfl, _, h6⟩ | ⟨_, rfl, rfl⟩
        ·omega
        ·simp
      ·simp only [decide_eq_true_eq] at h5
       have hcd2 : (kids.length : Int) * (costR d + 3) ≤ 2 * (costR d + 3) := Int.mul_le_mul_of_nonneg_right (by omega) (by omega)
       have hd1 : 1 ≤ deep := by simp only [decide_eq_false_iff_not] at h1; omega
       (repeat (first | refine gO rfl ?_ | ((first | refine gM zM46 ?_ | (with_reducible refine wM ?_ ?_) | ((with_reducible refine xS ?_); refine uF 10 zM46 7 zP19E zP19P 76 rfl (by kernel_rfl) ?_) | ((with_reducible refine xR ?_); refine uE 16 zM46 zP1AE zP1AP 76 rfl (by kernel_rfl) ?_)) <;> ((try with_reducible intro K1 hK1); simp only [go_sem, ↓reduceIte, reduceCtorEq, nA, nB, nC, nD, nE, nF] <;> and_intros <;> first | (apply hK1; clear hK1 K1) | (intros; first | omega | decide | (simp_all <;> omega)) | skip))))
       refine (g_pick i l a2 [1, 1, 2] none ⟨h.H, T2⟩ hl (by omega) (by simp)).mono ?_; rintro _ _ ⟨dx, hdx, rfl, rfl⟩; apply hK1; clear hK1 K1
       have hdx2 : 1 ≤ dx ∧ dx ≤ 2 := by simp at hdx; omega
       (repeat (first | refine gO rfl ?_ | ((first | refine gM zM46 ?_ | (with_reducible refine wM ?_ ?_) | ((with_reducible refine xS ?_); refine uF 10 zM46 7 zP19E zP19P 76 rfl (by kernel_rfl) ?_) | ((with_reducible refine xR ?_); refine uE 16 zM46 zP1AE zP1AP 76 rfl (by kernel_rfl) ?_)) <;> ((try with_reducible intro K1 hK1); simp only [go_sem, ↓reduceIte, reduceCtorEq, nA, nB, nC, nD, nE, nF] <;> and_intros <;> first | (apply hK1; clear hK1 K1) | (intros; first | omega | decide | (simp_all <;> omega)) | skip))))
       refine (g_right d (deep - dx) (by omega) i l (a2 + 1) ⟨h.H, T2⟩ hl (by omega)).mono ?_; rintro _ _ ⟨t, a3, ht, ha3, rfl, rfl⟩; apply hK1; clear hK1 K1
       have hlen := encX_len t
       (repeat (first | refine gQ rfl ?_ | ((first | refine gM zM46 ?_ | (with_reducible refine wM ?_ ?_) | ((with_reducible refine xS ?_); refine uF 10 zM46 7 zP19E zP19P 76 rfl (by kernel_rfl) ?_) | ((with_reducible refine xR ?_); refine uE 16 zM46 zP1AE zP1AP 76 rfl (by kernel_rfl) ?_)) <;> ((try with_reducible intro K1 hK1); simp only [go_sem, ↓reduceIte, reduceCtorEq, nA, nB, nC, nD, nE, nF, hlen] <;> and_intros <;> first | (apply hK1; clear hK1 K1) | (intros; first | omega | decide | (simp_all <;> omega)) | skip))))
       refine awp_seq ?_
       refine awp_join (rl false [1, 2, 1, 1, 1, 1, 1, 1, 23, 2, 42]) 3 (fun s => ∃ t a4, LB (d + 1) t ∧ (a2 ≤ a4 ∧ a4 ≤ a2 + costR d + 2) ∧
        s = ⟨(AV.junk :: ((.v (.int .i64 deep)) :: (.ref [.ptr i 0] 0) :: AV.junk :: ((.loc 0 0) :: AV.junk :: ((.loc 1 0) :: AV.junk :: ((.loc 2 0) :: (jnk 23 ((.v (.int .i64 many)) :: (.v (.int .i64 kids.length)) :: (jnk 42 [])))))))),
         [[.v (.int .i64 0), .v (.string { data := #[] }), .v (.int .i64 0), .v (.int .i64 0), .v (.slice none 0 0), .v (.slice none 0 0)], [.v (.int .i64 kd), .v (.string { data := #[] }), .v (.int .i64 0), .v (.int .i64 mn), .row 6 (kids.map encX) (some k1), S], encX t], Hp.st ⟨h.H, T2⟩ i l a4⟩) ?_ ?_
       ·(repeat (first | refine gO rfl ?_ | ((first | refine gM zM46 ?_ | (with_reducible refine wM ?_ ?_) | ((with_reducible refine xS ?_); refine uF 10 zM46 7 zP19E zP19P 76 rfl (by kernel_rfl) ?_) | ((with_reducible refine xR ?_); refine uE 16 zM46 zP1AE zP1AP 76 rfl (by kernel_rfl) ?_)) <;> ((try with_reducible intro K1 hK1); simp only [go_sem, ↓reduceIte, reduceCtorEq, nA, nB, nC, nD, nE, nF] <;> and_intros <;> first | (apply hK1; clear hK1 K1) | (intros; first | omega | decide | (simp_all <;> omega)) | skip))))
        rotate_left
        ·intro h6
         refine hK1 _ ?_; clear hK1 K1
         (repeat (first | refine gO rfl ?_ | ((first | refine gM zM46 ?_ | (with_reducible refine wM ?_ ?_) | ((with_reducible refine xS ?_); refine uF 10 zM46 7 zP19E zP19P 76 rfl (by kernel_rfl) ?_) | ((with_reducible refine xR ?_); refine uE 16 zM46 zP1AE zP1AP 76 rfl (by kernel_rfl) ?_)) <;> ((try with_reducible intro K1 hK1); simp only [go_sem, ↓reduceIte, reduceCtorEq, nA, nB, nC, nD, nE, nF, h6] <;> and_intros <;> first | (apply hK1; clear hK1 K1) | (intros; first | omega | decide | (simp_all <;> omega)) | skip))))
         refine awp_cond (t := _) rfl (fun h7 => by cases h7) (fun h7 => ?_)
         (repeat (first | refine gO rfl ?_ | ((first | refine gM zM46 ?_ | (with_reducible refine wM ?_ ?_) | ((with_reducible refine xS ?_); refine uF 10 zM46 7 zP19E zP19P 76 rfl (by kernel_rfl) ?_) | ((with_reducible refine xR ?_); refine uE 16 zM46 zP1AE zP1AP 76 rfl (by kernel_rfl) ?_)) <;> ((try with_reducible intro K1 hK1); simp only [go_sem, ↓reduceIte, reduceCtorEq, nA, nB, nC, nD, nE, nF] <;> and_intros <;> first | (apply hK1; clear hK1 K1) | (intros; first | omega | decide | (simp_all <;> omega)) | skip))))
         exact ⟨t, a3, ht, by omega, rfl⟩
        ·intro h6
         refine ⟨h6, ?_⟩
         refine (g_flip i l a3 3 ⟨h.H, T2⟩ hl (by omega) (by omega)).mono ?_
         rintro _ _ ⟨b2, rfl, rfl⟩
         refine ⟨rfl, hK1 _ ?_⟩; clear hK1 K1
         (repeat (first | refine gO rfl ?_ | ((first | refine gM zM46 ?_ | (with_reducible refine wM ?_ ?_) | ((with_reducible refine xS ?_); refine uF 10 zM46 7 zP19E zP19P 76 rfl (by kernel_rfl) ?_) | ((with_reducible refine xR ?_); refine uE 16 zM46 zP1AE zP1AP 76 rfl (by kernel_rfl) ?_)) <;> ((try with_reducible intro K1 hK1); simp only [go_sem, ↓reduceIte, reduceCtorEq, nA, nB, nC, nD, nE, nF, h6] <;> and_intros <;> first | (apply hK1; clear hK1 K1) | (intros; first | omega | decide | (simp_all <;> omega)) | skip))))
         refine awp_cond (t := _) rfl (fun h7 => ?_) (fun h7 => ?_)
         ·simp only [decide_eq_true_eq] at h6
          have hg : (kids.map encX).getD ((kids.length : Int) - 1).toNat [] = encX (kids.getD ((kids.length : Int) - 1).toNat default) := getD_encX (by omega)
          have hm : kids.getD ((kids.length : Int) - 1).toNat default ∈ kids := by
           rw [List.getD_eq_getElem?_getD, List.getElem?_eq_getElem (show ((kids.length : Int) - 1).toNat < kids.length by omega)]
           exact List.getElem_mem _
          generalize kids.getD ((kids.length : Int) - 1).toNat default = t2 at hg hm
          have hlen2 := encX_len t2
          have htk2 : List.take 6 (encX t2) = encX t2 := List.take_of_length_le (Nat.le_of_eq hlen2)
          have hdr : List.drop 6 (encX t) = [] := List.drop_of_length_le (Nat.le_of_eq hlen)
          (repeat (first | refine gO rfl ?_ | ((first | refine gM zM46 ?_ | (with_reducible refine wM ?_ ?_) | ((with_reducible refine xS ?_); refine uF 10 zM46 7 zP19E zP19P 76 rfl (by kernel_rfl) ?_) | ((with_reducible refine xR ?_); refine uE 16 zM46 zP1AE zP1AP 76 rfl (by kernel_rfl) ?_)) <;> ((try with_reducible intro K1 hK1); simp only [go_sem, ↓reduceIte, reduceCtorEq, nA, nB, nC, nD, nE, nF, hg, hlen, hlen2, htk2, hdr] <;> and_intros <;> first | (apply hK1; clear hK1 K1) | (intros; first | omega | decide | (simp_all <;> omega)) | skip))))
          exact ⟨t2, a3 + 1, hkl _ hm, by omega, rfl⟩
         ·(repeat (first | refine gO rfl ?_ | ((first | refine gM zM46 ?_ | (with_reducible refine wM ?_ ?_) | ((with_reducible refine xS ?_); refine uF 10 zM46 7 zP19E zP19P 76 rfl (by kernel_rfl) ?_) | ((with_reducible refine xR ?_); refine uE 16 zM46 zP1AE zP1AP 76 rfl (by kernel_rfl) ?_)) <;> ((try with_reducible intro K1 hK1); simp only [go_sem, ↓reduceIte, reduceCtorEq, nA, nB, nC, nD, nE, nF] <;> and_intros <;> first | (apply hK1; clear hK1 K1) | (intros; first | omega | decide | (simp_all <;> omega)) | skip))))
          exact ⟨t, a3 + 1, ht, by omega, rfl⟩
       ·clear ht ha3 hlen t a3
        rintro _ ⟨t, a4, ht, ha4, rfl⟩
        have hlen := encX_len t
        have htk : List.take 6 (encX t) = encX t := List.take_of_length_le (Nat.le_of_eq hlen)
        (repeat (first | refine gO rfl ?_ | ((first | refine gM zM46 ?_ | (with_reducible refine wM ?_ ?_) | ((with_reducible refine xS ?_); refine uF 10 zM46 7 zP19E zP19P 76 rfl (by kernel_rfl) ?_) | ((with_reducible refine xR ?_); refine uE 16 zM46 zP1AE zP1AP 76 rfl (by kernel_rfl) ?_)) <;> ((try with_reducible intro K1 hK1); simp only [go_sem, ↓reduceIte, reduceCtorEq, nA, nB, nC, nD, nE, nF, hlen, htk, hT1, st_T] <;> and_intros <;> first | (apply hK1; clear hK1 K1) | (intros; first | omega | decide | (simp_all <;> omega)) | skip))))
        rcases hS with ⟨h4, k2, hne, hk2, rfl, hT3, hsl⟩ | ⟨h4, rfl, rfl⟩
        ·refine awp_cond (t := _) rfl (fun _ => ?_) (fun h7 => absurd h4 (by simpa using h7))
         have hT4 : upd T2 k1 (some (.tail (kids.length + 1))) k2 = some (.tail shares.length) := by rw [upd_other _ _ hne]; exact hT3
         (repeat (first | refine gO rfl ?_ | ((first | refine gM zM46 ?_ | (with_reducible refine wM ?_ ?_) | ((with_reducible refine xS ?_); refine uF 10 zM46 7 zP19E zP19P 76 rfl (by kernel_rfl) ?_) | ((with_reducible refine xR ?_); refine uE 16 zM46 zP1AE zP1AP 76 rfl (by kernel_rfl) ?_)) <;> ((try with_reducible intro K1 hK1); simp only [go_sem, ↓reduceIte, reduceCtorEq, nA, nB, nC, nD, nE, nF, hT4, st_T] <;> and_intros <;> first | (apply hK1; clear hK1 K1) | (intros; first | omega | decide | (simp_all <;> omega)) | skip))))
         refine (g_pick i l a4 [1, 1, 2, 3, 4] none ⟨h.H, upd T2 k1 (some (.tail (kids.length + 1)))⟩ hl (by omega) (by simp)).mono ?_; rintro _ _ ⟨sx, hsx, rfl, rfl⟩; apply hK1; clear hK1 K1
         (repeat (first | refine gO rfl ?_ | ((first | refine gM zM46 ?_ | (with_reducible refine wM ?_ ?_) | ((with_reducible refine xS ?_); refine uF 10 zM46 7 zP19E zP19P 76 rfl (by kernel_rfl) ?_) | ((with_reducible refine xR ?_); refine uE 16 zM46 zP1AE zP1AP 76 rfl (by kernel_rfl) ?_)) <;> ((try with_reducible intro K1 hK1); simp only [go_sem, ↓reduceIte, reduceCtorEq, nA, nB, nC, nD, nE, nF, hT4, st_T, encI] <;> and_intros <;> first | (apply hK1; clear hK1 K1) | (intros; first | omega | decide | (simp_all <;> omega)) | skip))))
         refine ⟨n - 1, by omega, kids ++ [t], shares ++ [sx], _, upd (upd T2 k1 (some (.tail (kids.length + 1)))) k2 (some (.tail (shares.length + 1))), a4 + 1, by simp; omega, by rw [upd_other _ _ hne.symm, upd_same]; simp, .inl ⟨h4, k2, hne, hk2, by simp [encI]; rfl, by rw [upd_same]; simp, by simp; omega⟩, ?_, ?_, ?_, ?_, ?_⟩
         ·intro k hk
          have e1 : k ≠ k1 := fun e => hk (e ▸ hk1)
          by_cases e2 : k = k2
          ·subst e2; exact absurd hk2 hk
          ·rw [upd_other _ _ e2, upd_other _ _ e1]; exact hTT k hk
         ·intro x hx
          rcases List.mem_append.1 hx with hx | hx
          ·exact hkl x hx
          ·simp at hx; subst hx; exact ht
         ·intro x hx
          rcases List.mem_append.1 hx with hx | hx
          ·exact hsb x hx
          ·simp at hx hsx; subst hx; unfold NB; omega
         ·have e9 : ((kids ++ [t]).length : Int) * (costR d + 3) = kids.length * (costR d + 3) + (costR d + 3) := by simp [Int.add_mul]
          rw [e9]; omega
         ·simp; rfl
        ·refine awp_cond (t := _) rfl (fun h7 => absurd (by simpa using h7) h4) (fun _ => ?_)
         (repeat (first | refine gO rfl ?_ | ((first | refine gM zM46 ?_ | (with_reducible refine wM ?_ ?_) | ((with_reducible refine xS ?_); refine uF 10 zM46 7 zP19E zP19P 76 rfl (by kernel_rfl) ?_) | ((with_reducible refine xR ?_); refine uE 16 zM46 zP1AE zP1AP 76 rfl (by kernel_rfl) ?_)) <;> ((try with_reducible intro K1 hK1); simp only [go_sem, ↓reduceIte, reduceCtorEq, nA, nB, nC, nD, nE, nF] <;> and_intros <;> first | (apply hK1; clear hK1 K1) | (intros; first | omega | decide | (simp_all <;> omega)) | skip))))
         refine ⟨n - 1, by omega, kids ++ [t], [], _, upd T2 k1 (some (.tail (kids.length + 1))), a4, by simp; omega, by rw [upd_same]; simp, .inr ⟨h4, rfl, rfl⟩, ?_, ?_, ?_, ?_, ?_⟩
         ·intro k hk
          have e1 : k ≠ k1 := fun e => hk (e ▸ hk1)
          rw [upd_other _ _ e1]; exact hTT k hk
         ·intro x hx
          rcases List.mem_append.1 hx with hx | hx
          ·exact hkl x hx
          ·simp at hx; subst hx; exact ht
         ·simp
         ·have e9 : ((kids ++ [t]).length : Int) * (costR d + 3) = kids.length * (costR d + 3) + (costR d + 3) := by simp [Int.add_mul]
          rw [e9]; omega
         ·simp; rfl
abbrev zP1BE : List Nat := [0, 1, 2, 3, 4, 5, 6]
abbrev zP1BP : List (Nat × List Nat × List Nat) := [(7, [4], [8]), (9, [], [10, 11]), (12, [], [])]
attribute [go_sem] zP1BE zP1BP
theorem st_obj {h : Hp} {i o : Nat} (hio : o ≠ i) (l : List Int) (a : Int) (x : AO) (T1 : Nat → Option TO) : ({ H := upd (h.st i l a).H o (some x), T := T1 } : Hp) = Hp.st ⟨upd h.H o (some x), T1⟩ i l a := by
 simp only [Hp.st]
 congr 1
 funext j
 by_cases hj : j = o
 ·subst hj; rw [upd_same, upd_other _ _ hio, upd_same]
 ·by_cases hji : j = i
  ·subst hji; rw [upd_other _ _ hj, upd_same, upd_same]
  ·rw [upd_other _ _ hj, upd_other _ _ hji, upd_other _ _ hji, upd_other _ _ hj]
theorem st_obj2 {h : Hp} {i o : Nat} (hio : o ≠ i) (l : List Int) (b : Int) (X : Option AO) (Y : AO) (T1 T2 : Nat → Option TO) : ({ H := upd (Hp.st ⟨upd h.H o X, T1⟩ i l b).H o (some Y), T := T2 } : Hp) = Hp.st ⟨upd h.H o (some Y), T2⟩ i l b := by
 rw [st_obj hio]; simp only [upd_upd]
theorem st_mk3 {s : St} {sl : List AV} {lo : List (List AV)} {h : Hp} (h1 : s.sl = sl) (h2 : s.lo = lo) (h3 : s.h = h) : s = ⟨sl, lo, h⟩ := by cases s; simp_all
section
variable {b : Bool} {T : Nat → Option TO} {S : Nat → Prop} {e : Nat} {k i l m K Sh : AV}
theorem OLd.kind {r : List AV} (h : OLd b T S e (k :: r)) {k' : Int} (hk : NB k') : OLd b T S e (.v (.int .i64 k') :: r) := by
 cases e with
 | zero => exact h.elim
 | succ e =>
  obtain ⟨kind, item, long, many, K, Sh, he, ⟨h0, h1, h2, h3⟩, h4, h5⟩ := h
  cases he
  exact ⟨_, _, _, _, _, _, rfl, ⟨hk, h1, h2, h3⟩, h4, h5⟩
theorem OLd.il (h : OLd b T S e [k, i, l, m, K, Sh]) {i' : ByteArray} {l' : Int} (hi : i'.size ≤ 2) (hk : NB l') : OLd b T S e [k, .v (.string i'), .v (.int .i64 l'), m, K, Sh] := by
 cases e with
 | zero => exact h.elim
 | succ e =>
  obtain ⟨kind, item, long, many, K, Sh, he, ⟨h0, h1, h2, h3⟩, h4, h5⟩ := h
  cases he
  exact ⟨_, _, _, _, _, _, rfl, ⟨h0, hi, hk, h3⟩, h4, h5⟩
theorem OLd.many (h : OLd b T S e [k, i, l, m, K, Sh]) {l' : Int} (hk : NB l') : OLd b T S e [k, i, l, .v (.int .i64 l'), K, Sh] := by
 cases e with
 | zero => exact h.elim
 | succ e =>
  obtain ⟨kind, item, long, many, K, Sh, he, ⟨h0, h1, h2, h3⟩, h4, h5⟩ := h
  cases he
  exact ⟨_, _, _, _, _, _, rfl, ⟨h0, h1, h2, hk⟩, h4, h5⟩
theorem OLd.nokids (h : OLd b T S e [k, i, l, m, K, Sh]) : OLd b T S e [k, i, l, m, .v (.slice none 0 0), Sh] := by
 cases e with
 | zero => exact h.elim
 | succ e =>
  obtain ⟨kind, item, long, many, K, Sh, he, h3, h4, h5⟩ := h
  cases he
  exact ⟨_, _, _, _, _, _, rfl, h3, .inl rfl, h5⟩
theorem OLd.share (h : OLd false T S e [k, i, l, m, K, Sh]) {xs : List Int} {q : Nat} (hx : xs.length ≤ 5) (hb : ∀ x ∈ xs, NB x) : OLd false T S e [k, i, l, m, K, .row 1 (xs.map encI) (some q)] := by
 cases e with
 | zero => exact h.elim
 | succ e =>
  obtain ⟨kind, item, long, many, K, Sh, he, h3, h4, h5⟩ := h
  cases he
  exact ⟨_, _, _, _, _, _, rfl, h3, h4, .inr ⟨xs, q, rfl, hx, hb, fun h => by cases h⟩⟩
theorem OLd.wrap {cs : List AV} (h : OLd false T S e cs) {k' m' : Int} (hk : NB k') (hm : NB m') : OLd false T S (e + 1) [.v (.int .i64 k'), .v (.string { data := #[] }), .v (.int .i64 0), .v (.int .i64 m'), .row 6 [cs] none, .v (.slice none 0 0)] :=
 ⟨_, _, _, _, _, _, rfl, ⟨hk, by decide, by unfold NB; omega, hm⟩, .inr (.inr ⟨rfl, _, rfl, by simp, by simpa using h⟩), .inl rfl⟩
end
def LoopJ (i o : Nat) (l : List Int) (a b : Int) (h : Hp) (bb : Bool) (d : Nat) (s : St) : Prop :=
 ∃ cs T' a', OLd bb T' (fun k => h.T k = none) d cs ∧ (∀ k, h.T k ≠ none → T' k = h.T k) ∧ (a ≤ a' ∧ a' ≤ b) ∧
  s = ⟨((.ptr i 0) :: (jnk 3 ((.loc 0 0) :: (.ptr o 0) :: (jnk 77 [])))), [[.v (.int .i64 0), .v (.string { data := #[] }), .v (.int .i64 0), .v (.int .i64 0), .v (.slice none 0 0), .v (.slice none 0 0)]], Hp.st ⟨upd h.H o (some (.cells cs)), T'⟩ i l a'⟩
theorem g_Loop0 (d : Nat) (deep : Int) (hd : deep ≤ d ∧ -10 ≤ deep ∧ d ≤ 100) (i : Nat) (l : List Int) (a : Int) (h : Hp) (hl : SOk l) (ha : 0 ≤ a ∧ a + costR d + 2 * d + 40 ≤ 900000000) :
  ACalls Tryz.prog 8 [.ptr i 0, .v (.int .i64 deep)] (h.st i l a) (fun r h' => ∃ cs T' a', OLd false T' (fun k => h.T k = none) (d + 20) cs ∧ (∀ k, h.T k ≠ none → T' k = h.T k) ∧ (a ≤ a' ∧ a' ≤ a + costR d + 2 * d + 40) ∧ r = .agg cs ∧ h' = Hp.st ⟨h.H, T'⟩ i l a') := by
 refine gE Tryz.func8 rfl (by kernel_rfl) 81 rfl fun c => ?_
 (repeat (first | refine gO rfl ?_ | ((first | refine gM zM47 ?_ | (with_reducible refine wM ?_ ?_) | ((with_reducible refine xR ?_); refine uE 17 zM47 zP1BE zP1BP 83 rfl (by kernel_rfl) ?_)) <;> ((try with_reducible intro K1 hK1); simp only [go_sem, ↓reduceIte, reduceCtorEq, nA, nB, nC, nD, nE, nF] <;> and_intros <;> first | (apply hK1; clear hK1 K1) | (intros; first | omega | decide | (simp_all <;> omega)) | skip))))
 refine (g_right d deep hd i l a h hl (by omega)).mono ?_; rintro _ _ ⟨t, a1, ht, ha1, rfl, rfl⟩; apply hK1; clear hK1 K1
 (repeat (first | refine gO rfl ?_ | ((first | refine gM zM47 ?_ | (with_reducible refine wM ?_ ?_) | ((with_reducible refine xR ?_); refine uE 17 zM47 zP1BE zP1BP 83 rfl (by kernel_rfl) ?_)) <;> ((try with_reducible intro K1 hK1); simp only [go_sem, ↓reduceIte, reduceCtorEq, nA, nB, nC, nD, nE, nF] <;> and_intros <;> first | (apply hK1; clear hK1 K1) | (intros; first | omega | decide | (simp_all <;> omega)) | skip))))
 refine (g_copied (d + 1) t (h.st i l a1) ht).mono ?_
 rintro _ _ ⟨cs, T1, hcs, hT1, rfl, rfl⟩
 refine hK1 _ ?_; clear hK1 K1
 have hcsl := hcs.len
 have htk : List.take 6 cs = cs := List.take_of_length_le (Nat.le_of_eq hcsl)
 have hdr : List.drop 6 cs = [] := List.drop_of_length_le (Nat.le_of_eq hcsl)
 (repeat (first | refine gQ rfl ?_ | ((first | refine gM zM47 ?_ | (with_reducible refine wM ?_ ?_) | ((with_reducible refine xR ?_); refine uE 17 zM47 zP1BE zP1BP 83 rfl (by kernel_rfl) ?_)) <;> ((try with_reducible intro K1 hK1); simp only [go_sem, ↓reduceIte, reduceCtorEq, nA, nB, nC, nD, nE, nF, hcsl, htk, hdr] <;> and_intros <;> first | (apply hK1; clear hK1 K1) | (intros; first | omega | decide | (simp_all <;> omega)) | skip))))
 intro o ho
 have hio : o ≠ i := fun e => by subst e; rw [st_at] at ho; cases ho
 and_intros <;> first | (refine hK1 _ ?_; clear hK1 K1) | exact .inl trivial | exact .inr rfl | exact .inr True.intro | exact True.intro | omega
 rw [st_obj hio]
 replace hcs : OLd true T1 (fun k => h.T k = none) (d + 1) cs := hcs
 replace hT1 : ∀ k, h.T k ≠ none → T1 k = h.T k := hT1
 (repeat (first | refine gQ rfl ?_ | ((first | refine gM zM47 ?_ | (with_reducible refine wM ?_ ?_) | ((with_reducible refine xR ?_); refine uE 17 zM47 zP1BE zP1BP 83 rfl (by kernel_rfl) ?_)) <;> ((try with_reducible intro K1 hK1); simp only [go_sem, ↓reduceIte, reduceCtorEq, nA, nB, nC, nD, nE, nF] <;> and_intros <;> first | (apply hK1; clear hK1 K1) | (intros; first | omega | decide | (simp_all <;> omega)) | skip))))
 refine awp_seq ?_
 refine awp_join (rl false [0, 1, 3, 2, 77]) 1 (fun s => LoopJ i o l a (a + costR d + 2 * d + 40) h false (d + 20) s) ?_ ?_
 rotate_left
 ·rintro _ ⟨cs, T', a', hcs, hT', ha', rfl⟩
  have hcsl := hcs.len
  have htk : List.take 6 cs = cs := List.take_of_length_le (Nat.le_of_eq hcsl)
  have hdr : List.drop 6 cs = [] := List.drop_of_length_le (Nat.le_of_eq hcsl)
  have hH : (Hp.st ⟨upd h.H o (some (.cells cs)), T'⟩ i l a').H o = some (.cells cs) := by simp only [Hp.st, upd_other _ _ hio, upd_same]
  (repeat (first | refine gO rfl ?_ | ((first | refine gM zM47 ?_ | (with_reducible refine wM ?_ ?_) | ((with_reducible refine xR ?_); refine uE 17 zM47 zP1BE zP1BP 83 rfl (by kernel_rfl) ?_)) <;> ((try with_reducible intro K1 hK1); simp only [go_sem, ↓reduceIte, reduceCtorEq, nA, nB, nC, nD, nE, nF, hcsl, htk, hdr, hH] <;> and_intros <;> first | (apply hK1; clear hK1 K1) | (intros; first | omega | decide | (simp_all <;> omega)) | skip))))
  simp only [Tryz.results8, go_sem, ↓reduceIte, reduceCtorEq, nA, nB, nC, nD, nE, nF, hcsl, htk, hdr]
  refine ⟨_, Hp.st ⟨h.H, T'⟩ i l a', Weak.refl _, ⟨fun j => ?_, fun k => .inr rfl⟩, cs, T', a', hcs, hT', ha', rfl, rfl⟩
  simp only [Hp.st] at ho ⊢
  rw [upd_other _ _ hio] at ho
  by_cases hj : j = i
  ·subst hj; exact .inr (by rw [upd_same, upd_same])
  ·by_cases hjo : j = o
   ·subst hjo; exact .inl (by rw [upd_other _ _ hj]; exact ho)
   ·exact .inr (by rw [upd_other _ _ hj, upd_other _ _ hj, upd_other _ _ hjo])
 ·(repeat (first | refine gO rfl ?_ | ((first | refine gM zM47 ?_ | (with_reducible refine wM ?_ ?_) | ((with_reducible refine xR ?_); refine uE 17 zM47 zP1BE zP1BP 83 rfl (by kernel_rfl) ?_)) <;> ((try with_reducible intro K1 hK1); simp only [go_sem, ↓reduceIte, reduceCtorEq, nA, nB, nC, nD, nE, nF] <;> and_intros <;> first | (apply hK1; clear hK1 K1) | (intros; first | omega | decide | (simp_all <;> omega)) | skip))))
  refine (g_flip i l a1 10 ⟨upd h.H o (some (.cells cs)), T1⟩ hl (by omega) (by omega)).mono ?_; rintro _ _ ⟨b, rfl, rfl⟩; apply hK1; clear hK1 K1
  (repeat (first | refine gO rfl ?_ | ((first | refine gM zM47 ?_ | (with_reducible refine wM ?_ ?_) | ((with_reducible refine xR ?_); refine uE 17 zM47 zP1BE zP1BP 83 rfl (by kernel_rfl) ?_)) <;> ((try with_reducible intro K1 hK1); simp only [go_sem, ↓reduceIte, reduceCtorEq, nA, nB, nC, nD, nE, nF] <;> and_intros <;> first | (apply hK1; clear hK1 K1) | (intros; first | omega | decide | (simp_all <;> omega)) | skip))))
  refine awp_cond (t := _) rfl (fun hb => ?_) (fun hb => ?_)
  rotate_left
  ·(repeat (first | refine gO rfl ?_ | ((first | refine gM zM47 ?_ | (with_reducible refine wM ?_ ?_) | ((with_reducible refine xR ?_); refine uE 17 zM47 zP1BE zP1BP 83 rfl (by kernel_rfl) ?_)) <;> ((try with_reducible intro K1 hK1); simp only [go_sem, ↓reduceIte, reduceCtorEq, nA, nB, nC, nD, nE, nF] <;> and_intros <;> first | (apply hK1; clear hK1 K1) | (intros; first | omega | decide | (simp_all <;> omega)) | skip))))
   exact ⟨cs, T1, a1 + 1, hcs.weaken.up (by omega), hT1, by omega, rfl⟩
  ·(repeat (first | refine gO rfl ?_ | ((first | refine gM zM47 ?_ | (with_reducible refine wM ?_ ?_) | ((with_reducible refine xR ?_); refine uE 17 zM47 zP1BE zP1BP 83 rfl (by kernel_rfl) ?_)) <;> ((try with_reducible intro K1 hK1); simp only [go_sem, ↓reduceIte, reduceCtorEq, nA, nB, nC, nD, nE, nF] <;> and_intros <;> first | (apply hK1; clear hK1 K1) | (intros; first | omega | decide | (simp_all <;> omega)) | skip))))
   refine (g_inner i o l (a1 + 1) ⟨upd h.H o (some (.cells cs)), T1⟩ hl (fun k => h.T k = none) (d + 1) cs (by omega) hio (upd_same _ _ _) hcs).mono ?_
   rintro p _ ⟨cs2, e, a2, ha2, hp, hcs2, rfl⟩
   have o3 : OneV p := by rcases hp with ⟨rfl, _⟩ | ⟨q, css, j, _, _, _, rfl, _⟩ <;> exact ⟨rfl, rfl, rfl, rfl, rfl⟩
   obtain ⟨w1, w2, w3, w4, w5⟩ := o3
   unfold uside at w1; unfold unw at w2; unfold AV.noLoc at w3; unfold isOpt at w4; simp only [AV.cellsB, Value.oneCell'] at w5
   refine hK1 _ ?_; clear hK1 K1
   (repeat (first | refine gO rfl ?_ | ((first | refine gM zM47 ?_ | (with_reducible refine wM ?_ ?_) | ((with_reducible refine xR ?_); refine uE 17 zM47 zP1BE zP1BP 83 rfl (by kernel_rfl) ?_)) <;> ((try with_reducible intro K1 hK1); simp only [go_sem, ↓reduceIte, reduceCtorEq, nA, nB, nC, nD, nE, nF, w1, w2, w3, w4, w5] <;> and_intros <;> first | (apply hK1; clear hK1 K1) | (intros; first | omega | decide | (simp_all <;> omega)) | skip))))
   refine (g_next i l a2 7 ⟨upd h.H o (some (.cells cs)), T1⟩ hl (by omega) (by omega)).mono ?_; rintro _ _ ⟨x, hx, rfl, rfl⟩; apply hK1; clear hK1 K1
   obtain ⟨k, it, lo, mn, K, Sh, rfl⟩ : ∃ k it lo mn K Sh, cs2 = [k, it, lo, mn, K, Sh] := by
    cases e with
    | zero => exact hcs2.elim
    | succ e => obtain ⟨_, _, _, _, _, _, rfl, _⟩ := id hcs2; exact ⟨_, _, _, _, _, _, rfl⟩
   have hH : [k, it, lo, mn, K, Sh] = cs → ∀ b, (Hp.st ⟨upd h.H o (some (.cells cs)), T1⟩ i l b).H o = some (.cells [k, it, lo, mn, K, Sh]) := fun he b => by rw [he]; simp only [Hp.st, upd_other _ _ hio, upd_same]
   have hO : [k, it, lo, mn, K, Sh] = cs → OLd true T1 (fun k => h.T k = none) (d + 1) [k, it, lo, mn, K, Sh] := fun he => by rw [he]; exact hcs
   replace hcs2 : OLd true T1 (fun k => h.T k = none) e [k, it, lo, mn, K, Sh] := hcs2
   have hgs : ∀ (css : List (List AV)) (j : Nat), j < css.length → ∀ c, (css.set j c).getD j [] = c := fun css j hj c => by rw [List.getD_eq_getElem?_getD, List.getElem?_set_self hj]; rfl
   (repeat (first | refine gO rfl ?_ | ((first | refine gM zM47 ?_ | (with_reducible refine wM ?_ ?_) | ((with_reducible refine xR ?_); refine uE 17 zM47 zP1BE zP1BP 83 rfl (by kernel_rfl) ?_)) <;> ((try with_reducible intro K1 hK1); simp only [go_sem, ↓reduceIte, reduceCtorEq, nA, nB, nC, nD, nE, nF] <;> and_intros <;> first | (apply hK1; clear hK1 K1) | (intros; first | omega | decide | (simp_all <;> omega)) | skip))))
   refine awp_cond (t := _) rfl (fun h5 => ?_) (fun h5 => ?_)
   ·rcases hp with ⟨rfl, he⟩ | ⟨q, css, j, hq, hTq, hj, rfl, hg⟩
    ·have hH := hH he
     (repeat (first | refine gO rfl ?_ | ((first | refine gM zM47 ?_ | (with_reducible refine wM ?_ ?_) | ((with_reducible refine xR ?_); refine uE 17 zM47 zP1BE zP1BP 83 rfl (by kernel_rfl) ?_)) <;> ((try with_reducible intro K1 hK1); simp only [go_sem, ↓reduceIte, reduceCtorEq, nA, nB, nC, nD, nE, nF, hH] <;> and_intros <;> first | (apply hK1; clear hK1 K1) | (intros; first | omega | decide | (simp_all <;> omega)) | skip))))
     refine (g_odd i l (a2 + 1) 1 5 ⟨upd h.H o (some (.cells cs)), T1⟩ hl (by omega) (by omega) (by omega) (by omega)).mono ?_; rintro _ _ ⟨y, a3, hy, ha3, rfl, rfl⟩; apply hK1; clear hK1 K1
     (repeat (first | refine gO rfl ?_ | ((first | refine gM zM47 ?_ | (with_reducible refine wM ?_ ?_) | ((with_reducible refine xR ?_); refine uE 17 zM47 zP1BE zP1BP 83 rfl (by kernel_rfl) ?_)) <;> ((try with_reducible intro K1 hK1); simp only [go_sem, ↓reduceIte, reduceCtorEq, nA, nB, nC, nD, nE, nF, hH] <;> and_intros <;> first | (apply hK1; clear hK1 K1) | (intros; first | omega | decide | (simp_all <;> omega)) | skip))))
     exact ⟨_, T1, a3, ((hO he).kind hy).weaken.up (by omega), hT1, by omega, st_mk3 rfl rfl (st_obj2 hio _ _ _ _ _ _)⟩
    ·replace hTq : T1 q = some (.cont 6 css) := hTq
     have hgs := hgs css j hj
     (repeat (first | refine gO rfl ?_ | ((first | refine gM zM47 ?_ | (with_reducible refine wM ?_ ?_) | ((with_reducible refine xR ?_); refine uE 17 zM47 zP1BE zP1BP 83 rfl (by kernel_rfl) ?_)) <;> ((try with_reducible intro K1 hK1); simp only [go_sem, ↓reduceIte, reduceCtorEq, nA, nB, nC, nD, nE, nF, hTq, st_T, hg, hgs] <;> and_intros <;> first | (apply hK1; clear hK1 K1) | (intros; first | omega | decide | (simp_all <;> omega)) | skip))))
     refine (g_odd i l (a2 + 1) 1 5 ⟨upd h.H o (some (.cells cs)), T1⟩ hl (by omega) (by omega) (by omega) (by omega)).mono ?_; rintro _ _ ⟨y, a3, hy, ha3, rfl, rfl⟩; apply hK1; clear hK1 K1
     (repeat (first | refine gO rfl ?_ | ((first | refine gM zM47 ?_ | (with_reducible refine wM ?_ ?_) | ((with_reducible refine xR ?_); refine uE 17 zM47 zP1BE zP1BP 83 rfl (by kernel_rfl) ?_)) <;> ((try with_reducible intro K1 hK1); simp only [go_sem, ↓reduceIte, reduceCtorEq, nA, nB, nC, nD, nE, nF, hTq, st_T, hg, hgs] <;> and_intros <;> first | (apply hK1; clear hK1 K1) | (intros; first | omega | decide | (simp_all <;> omega)) | skip))))
     have hw : ∀ c', (∀ e, ∀ T' : Nat → Option TO, OLd false T' (fun k => h.T k = none) e [k, it, lo, mn, K, Sh] → OLd false T' (fun k => h.T k = none) e c') → OLd false (upd T1 q (some (.cont 6 (css.set j c')))) (fun k => h.T k = none) (d + 20) cs := fun c' hc => ((hcs.weaken.up (e := d + 20) (by omega)).write hTq (upd_same _ _ _) (fun k _ hk => upd_other _ _ hk) (fun e h' => by rw [hg] at h'; exact hc e _ h'))
     exact ⟨cs, _, a3, hw _ fun e T' h' => h'.kind hy, fun k hk => (upd_other _ _ (fun e => by subst e; exact hk hq)).trans (hT1 k hk), by omega, rfl⟩
   ·clear h5
    (repeat (first | refine gO rfl ?_ | ((first | refine gM zM47 ?_ | (with_reducible refine wM ?_ ?_) | ((with_reducible refine xR ?_); refine uE 17 zM47 zP1BE zP1BP 83 rfl (by kernel_rfl) ?_)) <;> ((try with_reducible intro K1 hK1); simp only [go_sem, ↓reduceIte, reduceCtorEq, nA, nB, nC, nD, nE, nF] <;> and_intros <;> first | (apply hK1; clear hK1 K1) | (intros; first | omega | decide | (simp_all <;> omega)) | skip))))
    refine awp_cond (t := _) rfl (fun h5 => ?_) (fun h5 => ?_)
    ·
     rcases hp with ⟨rfl, he⟩ | ⟨q, css, j, hq, hTq, hj, rfl, hg⟩
     ·have hH := hH he
      (repeat (first | refine gO rfl ?_ | ((first | refine gM zM47 ?_ | (with_reducible refine wM ?_ ?_) | ((with_reducible refine xR ?_); refine uE 17 zM47 zP1BE zP1BP 83 rfl (by kernel_rfl) ?_)) <;> ((try with_reducible intro K1 hK1); simp only [go_sem, ↓reduceIte, reduceCtorEq, nA, nB, nC, nD, nE, nF, hH] <;> and_intros <;> first | (apply hK1; clear hK1 K1) | (intros; first | omega | decide | (simp_all <;> omega)) | skip))))
      refine (g_some i l (a2 + 1) [⟨#[]⟩, ⟨#[65]⟩, ⟨#[105, 97]⟩] none ⟨upd h.H o (some (.cells cs)), T1⟩ hl (by omega) (by simp)).mono ?_; rintro _ _ ⟨x1, hx1, rfl, rfl⟩; apply hK1; clear hK1 K1
      (repeat (first | refine gO rfl ?_ | ((first | refine gM zM47 ?_ | (with_reducible refine wM ?_ ?_) | ((with_reducible refine xR ?_); refine uE 17 zM47 zP1BE zP1BP 83 rfl (by kernel_rfl) ?_)) <;> ((try with_reducible intro K1 hK1); simp only [go_sem, ↓reduceIte, reduceCtorEq, nA, nB, nC, nD, nE, nF, hH] <;> and_intros <;> first | (apply hK1; clear hK1 K1) | (intros; first | omega | decide | (simp_all <;> omega)) | skip))))
      refine (g_odd i l (a2 + 1 + 1) 1 3600000 ⟨upd h.H o (some (.cells cs)), T1⟩ hl (by omega) (by omega) (by omega) (by omega)).mono ?_; rintro _ _ ⟨y, a3, hy, ha3, rfl, rfl⟩; apply hK1; clear hK1 K1
      (repeat (first | refine gO rfl ?_ | ((first | refine gM zM47 ?_ | (with_reducible refine wM ?_ ?_) | ((with_reducible refine xR ?_); refine uE 17 zM47 zP1BE zP1BP 83 rfl (by kernel_rfl) ?_)) <;> ((try with_reducible intro K1 hK1); simp only [go_sem, ↓reduceIte, reduceCtorEq, nA, nB, nC, nD, nE, nF, hH] <;> and_intros <;> first | (apply hK1; clear hK1 K1) | (intros; first | omega | decide | (simp_all <;> omega)) | skip))))
      exact ⟨_, T1, a3, ((hO he).il (by simp at hx1; rcases hx1 with rfl | rfl | rfl <;> decide) hy).weaken.up (by omega), hT1, by omega, st_mk3 rfl rfl (st_obj2 hio _ _ _ _ _ _)⟩
     ·replace hTq : T1 q = some (.cont 6 css) := hTq
      have hgs := hgs css j hj
      have hw : ∀ c', (∀ e, ∀ T' : Nat → Option TO, OLd false T' (fun k => h.T k = none) e [k, it, lo, mn, K, Sh] → OLd false T' (fun k => h.T k = none) e c') → OLd false (upd T1 q (some (.cont 6 (css.set j c')))) (fun k => h.T k = none) (d + 20) cs := fun c' hc => ((hcs.weaken.up (e := d + 20) (by omega)).write hTq (upd_same _ _ _) (fun k _ hk => upd_other _ _ hk) (fun e h' => by rw [hg] at h'; exact hc e _ h'))
      (repeat (first | refine gO rfl ?_ | ((first | refine gM zM47 ?_ | (with_reducible refine wM ?_ ?_) | ((with_reducible refine xR ?_); refine uE 17 zM47 zP1BE zP1BP 83 rfl (by kernel_rfl) ?_)) <;> ((try with_reducible intro K1 hK1); simp only [go_sem, ↓reduceIte, reduceCtorEq, nA, nB, nC, nD, nE, nF, hTq, st_T, hg, hgs, List.set_set] <;> and_intros <;> first | (apply hK1; clear hK1 K1) | (intros; first | omega | decide | (simp_all <;> omega)) | skip))))
      refine (g_some i l (a2 + 1) [⟨#[]⟩, ⟨#[65]⟩, ⟨#[105, 97]⟩] none ⟨upd h.H o (some (.cells cs)), T1⟩ hl (by omega) (by simp)).mono ?_; rintro _ _ ⟨x1, hx1, rfl, rfl⟩; apply hK1; clear hK1 K1
      (repeat (first | refine gO rfl ?_ | ((first | refine gM zM47 ?_ | (with_reducible refine wM ?_ ?_) | ((with_reducible refine xR ?_); refine uE 17 zM47 zP1BE zP1BP 83 rfl (by kernel_rfl) ?_)) <;> ((try with_reducible intro K1 hK1); simp only [go_sem, ↓reduceIte, reduceCtorEq, nA, nB, nC, nD, nE, nF, hTq, st_T, hg, hgs, List.set_set] <;> and_intros <;> first | (apply hK1; clear hK1 K1) | (intros; first | omega | decide | (simp_all <;> omega)) | skip))))
      refine (g_odd i l (a2 + 1 + 1) 1 3600000 ⟨upd h.H o (some (.cells cs)), T1⟩ hl (by omega) (by omega) (by omega) (by omega)).mono ?_; rintro _ _ ⟨y, a3, hy, ha3, rfl, rfl⟩; apply hK1; clear hK1 K1
      (repeat (first | refine gO rfl ?_ | ((first | refine gM zM47 ?_ | (with_reducible refine wM ?_ ?_) | ((with_reducible refine xR ?_); refine uE 17 zM47 zP1BE zP1BP 83 rfl (by kernel_rfl) ?_)) <;> ((try with_reducible intro K1 hK1); simp only [go_sem, ↓reduceIte, reduceCtorEq, nA, nB, nC, nD, nE, nF, hTq, st_T, hg, hgs, List.set_set] <;> and_intros <;> first | (apply hK1; clear hK1 K1) | (intros; first | omega | decide | (simp_all <;> omega)) | skip))))
      exact ⟨cs, _, a3, hw _ fun e T' h' => h'.il (by simp at hx1; rcases hx1 with rfl | rfl | rfl <;> decide) hy, fun k hk => (upd_other _ _ (fun e => by subst e; exact hk hq)).trans (hT1 k hk), by omega, rfl⟩
    ·clear h5
     (repeat (first | refine gO rfl ?_ | ((first | refine gM zM47 ?_ | (with_reducible refine wM ?_ ?_) | ((with_reducible refine xR ?_); refine uE 17 zM47 zP1BE zP1BP 83 rfl (by kernel_rfl) ?_)) <;> ((try with_reducible intro K1 hK1); simp only [go_sem, ↓reduceIte, reduceCtorEq, nA, nB, nC, nD, nE, nF] <;> and_intros <;> first | (apply hK1; clear hK1 K1) | (intros; first | omega | decide | (simp_all <;> omega)) | skip))))
     refine awp_cond (t := _) rfl (fun h5 => ?_) (fun h5 => ?_)
     ·
      rcases hp with ⟨rfl, he⟩ | ⟨q, css, j, hq, hTq, hj, rfl, hg⟩
      ·have hH := hH he
       (repeat (first | refine gO rfl ?_ | ((first | refine gM zM47 ?_ | (with_reducible refine wM ?_ ?_) | ((with_reducible refine xR ?_); refine uE 17 zM47 zP1BE zP1BP 83 rfl (by kernel_rfl) ?_)) <;> ((try with_reducible intro K1 hK1); simp only [go_sem, ↓reduceIte, reduceCtorEq, nA, nB, nC, nD, nE, nF, hH] <;> and_intros <;> first | (apply hK1; clear hK1 K1) | (intros; first | omega | decide | (simp_all <;> omega)) | skip))))
       refine (g_pick i l (a2 + 1) [0, 1, 100, 101] none ⟨upd h.H o (some (.cells cs)), T1⟩ hl (by omega) (by simp)).mono ?_; rintro _ _ ⟨y, hy, rfl, rfl⟩; apply hK1; clear hK1 K1
       (repeat (first | refine gO rfl ?_ | ((first | refine gM zM47 ?_ | (with_reducible refine wM ?_ ?_) | ((with_reducible refine xR ?_); refine uE 17 zM47 zP1BE zP1BP 83 rfl (by kernel_rfl) ?_)) <;> ((try with_reducible intro K1 hK1); simp only [go_sem, ↓reduceIte, reduceCtorEq, nA, nB, nC, nD, nE, nF, hH] <;> and_intros <;> first | (apply hK1; clear hK1 K1) | (intros; first | omega | decide | (simp_all <;> omega)) | skip))))
       exact ⟨_, T1, a2 + 1 + 1, ((hO he).many (by simp at hy; unfold NB; omega)).weaken.up (by omega), hT1, by omega, st_mk3 rfl rfl (st_obj2 hio _ _ _ _ _ _)⟩
      ·replace hTq : T1 q = some (.cont 6 css) := hTq
       have hgs := hgs css j hj
       have hw : ∀ c', (∀ e, ∀ T' : Nat → Option TO, OLd false T' (fun k => h.T k = none) e [k, it, lo, mn, K, Sh] → OLd false T' (fun k => h.T k = none) e c') → OLd false (upd T1 q (some (.cont 6 (css.set j c')))) (fun k => h.T k = none) (d + 20) cs := fun c' hc => ((hcs.weaken.up (e := d + 20) (by omega)).write hTq (upd_same _ _ _) (fun k _ hk => upd_other _ _ hk) (fun e h' => by rw [hg] at h'; exact hc e _ h'))
       (repeat (first | refine gO rfl ?_ | ((first | refine gM zM47 ?_ | (with_reducible refine wM ?_ ?_) | ((with_reducible refine xR ?_); refine uE 17 zM47 zP1BE zP1BP 83 rfl (by kernel_rfl) ?_)) <;> ((try with_reducible intro K1 hK1); simp only [go_sem, ↓reduceIte, reduceCtorEq, nA, nB, nC, nD, nE, nF, hTq, st_T, hg, hgs, List.set_set] <;> and_intros <;> first | (apply hK1; clear hK1 K1) | (intros; first | omega | decide | (simp_all <;> omega)) | skip))))
       refine (g_pick i l (a2 + 1) [0, 1, 100, 101] none ⟨upd h.H o (some (.cells cs)), T1⟩ hl (by omega) (by simp)).mono ?_; rintro _ _ ⟨y, hy, rfl, rfl⟩; apply hK1; clear hK1 K1
       (repeat (first | refine gO rfl ?_ | ((first | refine gM zM47 ?_ | (with_reducible refine wM ?_ ?_) | ((with_reducible refine xR ?_); refine uE 17 zM47 zP1BE zP1BP 83 rfl (by kernel_rfl) ?_)) <;> ((try with_reducible intro K1 hK1); simp only [go_sem, ↓reduceIte, reduceCtorEq, nA, nB, nC, nD, nE, nF, hTq, st_T, hg, hgs, List.set_set] <;> and_intros <;> first | (apply hK1; clear hK1 K1) | (intros; first | omega | decide | (simp_all <;> omega)) | skip))))
       exact ⟨cs, _, a2 + 1 + 1, hw _ fun e T' h' => h'.many (by simp at hy; unfold NB; omega), fun k hk => (upd_other _ _ (fun e => by subst e; exact hk hq)).trans (hT1 k hk), by omega, rfl⟩
     ·clear h5
      (repeat (first | refine gO rfl ?_ | ((first | refine gM zM47 ?_ | (with_reducible refine wM ?_ ?_) | ((with_reducible refine xR ?_); refine uE 17 zM47 zP1BE zP1BP 83 rfl (by kernel_rfl) ?_)) <;> ((try with_reducible intro K1 hK1); simp only [go_sem, ↓reduceIte, reduceCtorEq, nA, nB, nC, nD, nE, nF] <;> and_intros <;> first | (apply hK1; clear hK1 K1) | (intros; first | omega | decide | (simp_all <;> omega)) | skip))))
      refine awp_cond (t := _) rfl (fun h5 => ?_) (fun h5 => ?_)
      ·
       have hSh : Sh = .v (.slice none 0 0) ∨ ∃ (xs : List Int) (q2 : Nat), Sh = .row 1 (xs.map encI) (some q2) ∧ xs.length ≤ 4 ∧ (∀ x ∈ xs, NB x) ∧ T1 q2 = some (.tail xs.length) ∧ h.T q2 = none := by
        cases e with
        | zero => exact hcs2.elim
        | succ e =>
         obtain ⟨_, _, _, _, _, _, he, _, _, h5⟩ := id hcs2
         cases he
         rcases h5 with h5 | ⟨xs, q2, h5, _, h6, h7⟩
         ·exact .inl h5
         ·exact .inr ⟨xs, q2, h5, (h7 rfl).2.2, h6, (h7 rfl).2.1, (h7 rfl).1⟩
       have hny : ∀ y : Int, y ∈ ([1, 0] : List Int) → NB y := fun y hy => by simp at hy; unfold NB; omega
       have hkb : ∀ (q2 n : Nat), (∀ x, T1 q2 ≠ some (.cont 6 x)) → ∀ (d' : Nat) (c' : List AV), OLd true T1 (fun k => h.T k = none) d' c' → OLd false (upd T1 q2 (some (.tail n))) (fun k => h.T k = none) d' c' := fun q2 n hq2 d' c' h' => h'.weaken.keep (fun k _ ⟨x, hx⟩ => upd_other _ _ (fun e => by subst e; exact hq2 x hx)) (fun h => by cases h)
       rcases hp with ⟨rfl, he⟩ | ⟨q, css, j, hq, hTq, hj, rfl, hg⟩
       ·have hH := hH he
        have hO := hO he
        rcases hSh with rfl | ⟨xs, q2, rfl, hxl, hxb, hTq2, hSq2⟩
        ·(repeat (first | refine gO rfl ?_ | ((first | refine gM zM47 ?_ | (with_reducible refine wM ?_ ?_) | ((with_reducible refine xR ?_); refine uE 17 zM47 zP1BE zP1BP 83 rfl (by kernel_rfl) ?_)) <;> ((try with_reducible intro K1 hK1); simp only [go_sem, ↓reduceIte, reduceCtorEq, nA, nB, nC, nD, nE, nF, hH, st_T, encI] <;> and_intros <;> first | (apply hK1; clear hK1 K1) | (intros; first | omega | decide | (simp_all <;> omega)) | skip))))
         refine (g_pick i l (a2 + 1) [1, 0] none ⟨upd h.H o (some (.cells cs)), T1⟩ hl (by omega) (by simp)).mono ?_; rintro _ _ ⟨y, hy, rfl, rfl⟩; apply hK1; clear hK1 K1
         (repeat (first | refine gO rfl ?_ | ((first | refine gM zM47 ?_ | (with_reducible refine wM ?_ ?_) | ((with_reducible refine xR ?_); refine uE 17 zM47 zP1BE zP1BP 83 rfl (by kernel_rfl) ?_)) <;> ((try with_reducible intro K1 hK1); simp only [go_sem, ↓reduceIte, reduceCtorEq, nA, nB, nC, nD, nE, nF, hH, st_T, encI] <;> and_intros <;> first | (apply hK1; clear hK1 K1) | (intros; first | omega | decide | (simp_all <;> omega)) | skip))))
         intro q2 hq2
         refine hK1 _ ?_; clear hK1 K1
         (repeat (first | refine gO rfl ?_ | ((first | refine gM zM47 ?_ | (with_reducible refine wM ?_ ?_) | ((with_reducible refine xR ?_); refine uE 17 zM47 zP1BE zP1BP 83 rfl (by kernel_rfl) ?_)) <;> ((try with_reducible intro K1 hK1); simp only [go_sem, ↓reduceIte, reduceCtorEq, nA, nB, nC, nD, nE, nF, hH, st_T, encI] <;> and_intros <;> first | (apply hK1; clear hK1 K1) | (intros; first | omega | decide | (simp_all <;> omega)) | skip))))
         have hq2' : h.T q2 = none := Classical.byContradiction fun hn => by have := hT1 q2 hn; rw [show T1 q2 = none from hq2] at this; exact hn this.symm
         exact ⟨_, upd T1 q2 (some (.tail 1)), a2 + 1 + 1, ((hkb q2 1 (fun x hx => by rw [show T1 q2 = none from hq2] at hx; cases hx) _ _ hO).share (xs := [y]) (q := q2) (by simp) (fun z hz => by simp at hz; subst hz; exact hny _ hy)).up (by omega), fun k hk => (upd_other _ _ (fun e => by subst e; exact hk hq2')).trans (hT1 k hk), by omega, st_mk3 rfl rfl (st_obj2 hio _ _ _ _ _ _)⟩
        ·(repeat (first | refine gO rfl ?_ | ((first | refine gM zM47 ?_ | (with_reducible refine wM ?_ ?_) | ((with_reducible refine xR ?_); refine uE 17 zM47 zP1BE zP1BP 83 rfl (by kernel_rfl) ?_)) <;> ((try with_reducible intro K1 hK1); simp only [go_sem, ↓reduceIte, reduceCtorEq, nA, nB, nC, nD, nE, nF, hH, st_T, hTq2] <;> and_intros <;> first | (apply hK1; clear hK1 K1) | (intros; first | omega | decide | (simp_all <;> omega)) | skip))))
         refine (g_pick i l (a2 + 1) [1, 0] none ⟨upd h.H o (some (.cells cs)), T1⟩ hl (by omega) (by simp)).mono ?_; rintro _ _ ⟨y, hy, rfl, rfl⟩; apply hK1; clear hK1 K1
         (repeat (first | refine gO rfl ?_ | ((first | refine gM zM47 ?_ | (with_reducible refine wM ?_ ?_) | ((with_reducible refine xR ?_); refine uE 17 zM47 zP1BE zP1BP 83 rfl (by kernel_rfl) ?_)) <;> ((try with_reducible intro K1 hK1); simp only [go_sem, ↓reduceIte, reduceCtorEq, nA, nB, nC, nD, nE, nF, hH, st_T, hTq2] <;> and_intros <;> first | (apply hK1; clear hK1 K1) | (intros; first | omega | decide | (simp_all <;> omega)) | skip))))
         have hme : xs.map encI ++ [[AV.v (.int .i64 y)]] = (xs ++ [y]).map encI := by simp [encI]
         rw [hme]
         exact ⟨_, upd T1 q2 (some (.tail (xs.length + 1))), a2 + 1 + 1, ((hkb q2 (xs.length + 1) (fun x hx => by rw [hTq2] at hx; cases hx) _ _ hO).share (xs := xs ++ [y]) (q := q2) (by simp; omega) (fun z hz => by rcases List.mem_append.1 hz with hz | hz; exact hxb z hz; simp at hz; subst hz; exact hny _ hy)).up (by omega), fun k hk => (upd_other _ _ (fun e => by subst e; exact hk hSq2)).trans (hT1 k hk), by omega, st_mk3 rfl rfl (st_obj2 hio _ _ _ _ _ _)⟩
       ·replace hTq : T1 q = some (.cont 6 css) := hTq
        have hgs := hgs css j hj
        rcases hSh with rfl | ⟨xs, q2, rfl, hxl, hxb, hTq2, hSq2⟩
        ·(repeat (first | refine gO rfl ?_ | ((first | refine gM zM47 ?_ | (with_reducible refine wM ?_ ?_) | ((with_reducible refine xR ?_); refine uE 17 zM47 zP1BE zP1BP 83 rfl (by kernel_rfl) ?_)) <;> ((try with_reducible intro K1 hK1); simp only [go_sem, ↓reduceIte, reduceCtorEq, nA, nB, nC, nD, nE, nF, hTq, st_T, hg, hgs, encI] <;> and_intros <;> first | (apply hK1; clear hK1 K1) | (intros; first | omega | decide | (simp_all <;> omega)) | skip))))
         refine (g_pick i l (a2 + 1) [1, 0] none ⟨upd h.H o (some (.cells cs)), T1⟩ hl (by omega) (by simp)).mono ?_; rintro _ _ ⟨y, hy, rfl, rfl⟩; apply hK1; clear hK1 K1
         (repeat (first | refine gO rfl ?_ | ((first | refine gM zM47 ?_ | (with_reducible refine wM ?_ ?_) | ((with_reducible refine xR ?_); refine uE 17 zM47 zP1BE zP1BP 83 rfl (by kernel_rfl) ?_)) <;> ((try with_reducible intro K1 hK1); simp only [go_sem, ↓reduceIte, reduceCtorEq, nA, nB, nC, nD, nE, nF, hTq, st_T, hg, hgs, encI] <;> and_intros <;> first | (apply hK1; clear hK1 K1) | (intros; first | omega | decide | (simp_all <;> omega)) | skip))))
         intro q2 hq2
         refine hK1 _ ?_; clear hK1 K1
         replace hq2 : T1 q2 = none := hq2
         have hqq : q ≠ q2 := fun e => by subst e; rw [hTq] at hq2; cases hq2
         have hTa : ∀ x, upd T1 q2 x q = some (.cont 6 css) := fun x => (upd_other _ _ hqq).trans hTq
         (repeat (first | refine gO rfl ?_ | ((first | refine gM zM47 ?_ | (with_reducible refine wM ?_ ?_) | ((with_reducible refine xR ?_); refine uE 17 zM47 zP1BE zP1BP 83 rfl (by kernel_rfl) ?_)) <;> ((try with_reducible intro K1 hK1); simp only [go_sem, ↓reduceIte, reduceCtorEq, nA, nB, nC, nD, nE, nF, hTa, st_T, hg, hgs, encI] <;> and_intros <;> first | (apply hK1; clear hK1 K1) | (intros; first | omega | decide | (simp_all <;> omega)) | skip))))
         have hq2' : h.T q2 = none := Classical.byContradiction fun hn => by have := hT1 q2 hn; rw [hq2] at this; exact hn this.symm
         have hw : ∀ c', (∀ e, ∀ T' : Nat → Option TO, OLd false T' (fun k => h.T k = none) e [k, it, lo, mn, K, AV.v (.slice none 0 0)] → OLd false T' (fun k => h.T k = none) e c') → OLd false (upd (upd T1 q2 (some (.tail 1))) q (some (.cont 6 (css.set j c')))) (fun k => h.T k = none) (d + 20) cs := fun c' hc => (((hkb q2 1 (fun x hx => by rw [hq2] at hx; cases hx) _ _ hcs).up (e := d + 20) (by omega)).write (hTa _) (upd_same _ _ _) (fun k _ hk => upd_other _ _ hk) (fun e h' => by rw [hg] at h'; exact hc e _ h'))
         exact ⟨cs, _, a2 + 1 + 1, hw _ fun e T' h' => h'.share (xs := [y]) (q := q2) (by simp) (fun z hz => by simp at hz; subst hz; exact hny _ hy), fun k hk => ((upd_other _ _ (fun e => by subst e; exact hk hq)).trans (upd_other _ _ (fun e => by subst e; exact hk hq2'))).trans (hT1 k hk), by omega, rfl⟩
        ·have hqq : q ≠ q2 := fun e => by subst e; rw [hTq] at hTq2; cases hTq2
         have hTa : ∀ x, upd T1 q2 x q = some (.cont 6 css) := fun x => (upd_other _ _ hqq).trans hTq
         (repeat (first | refine gO rfl ?_ | ((first | refine gM zM47 ?_ | (with_reducible refine wM ?_ ?_) | ((with_reducible refine xR ?_); refine uE 17 zM47 zP1BE zP1BP 83 rfl (by kernel_rfl) ?_)) <;> ((try with_reducible intro K1 hK1); simp only [go_sem, ↓reduceIte, reduceCtorEq, nA, nB, nC, nD, nE, nF, hTq, hTa, st_T, hg, hgs, hTq2] <;> and_intros <;> first | (apply hK1; clear hK1 K1) | (intros; first | omega | decide | (simp_all <;> omega)) | skip))))
         refine (g_pick i l (a2 + 1) [1, 0] none ⟨upd h.H o (some (.cells cs)), T1⟩ hl (by omega) (by simp)).mono ?_; rintro _ _ ⟨y, hy, rfl, rfl⟩; apply hK1; clear hK1 K1
         (repeat (first | refine gO rfl ?_ | ((first | refine gM zM47 ?_ | (with_reducible refine wM ?_ ?_) | ((with_reducible refine xR ?_); refine uE 17 zM47 zP1BE zP1BP 83 rfl (by kernel_rfl) ?_)) <;> ((try with_reducible intro K1 hK1); simp only [go_sem, ↓reduceIte, reduceCtorEq, nA, nB, nC, nD, nE, nF, hTq, hTa, st_T, hg, hgs, hTq2] <;> and_intros <;> first | (apply hK1; clear hK1 K1) | (intros; first | omega | decide | (simp_all <;> omega)) | skip))))
         have hw : ∀ c', (∀ e, ∀ T' : Nat → Option TO, OLd false T' (fun k => h.T k = none) e [k, it, lo, mn, K, AV.row 1 (xs.map encI) (some q2)] → OLd false T' (fun k => h.T k = none) e c') → OLd false (upd (upd T1 q2 (some (.tail (xs.length + 1)))) q (some (.cont 6 (css.set j c')))) (fun k => h.T k = none) (d + 20) cs := fun c' hc => (((hkb q2 (xs.length + 1) (fun x hx => by rw [hTq2] at hx; cases hx) _ _ hcs).up (e := d + 20) (by omega)).write (hTa _) (upd_same _ _ _) (fun k _ hk => upd_other _ _ hk) (fun e h' => by rw [hg] at h'; exact hc e _ h'))
         have hme : xs.map encI ++ [[AV.v (.int .i64 y)]] = (xs ++ [y]).map encI := by simp [encI]
         rw [hme]
         exact ⟨cs, _, a2 + 1 + 1, hw _ fun e T' h' => h'.share (xs := xs ++ [y]) (q := q2) (by simp; omega) (fun z hz => by rcases List.mem_append.1 hz with hz | hz; exact hxb z hz; simp at hz; subst hz; exact hny _ hy), fun k hk => ((upd_other _ _ (fun e => by subst e; exact hk hq)).trans (upd_other _ _ (fun e => by subst e; exact hk hSq2))).trans (hT1 k hk), by omega, rfl⟩
      ·clear h5
       (repeat (first | refine gO rfl ?_ | ((first | refine gM zM47 ?_ | (with_reducible refine wM ?_ ?_) | ((with_reducible refine xR ?_); refine uE 17 zM47 zP1BE zP1BP 83 rfl (by kernel_rfl) ?_)) <;> ((try with_reducible intro K1 hK1); simp only [go_sem, ↓reduceIte, reduceCtorEq, nA, nB, nC, nD, nE, nF] <;> and_intros <;> first | (apply hK1; clear hK1 K1) | (intros; first | omega | decide | (simp_all <;> omega)) | skip))))
       refine awp_cond (t := _) rfl (fun h5 => ?_) (fun h5 => ?_)
       ·
        rcases hp with ⟨rfl, he⟩ | ⟨q, css, j, hq, hTq, hj, rfl, hg⟩
        ·have hH := hH he
         (repeat (first | refine gO rfl ?_ | ((first | refine gM zM47 ?_ | (with_reducible refine wM ?_ ?_) | ((with_reducible refine xR ?_); refine uE 17 zM47 zP1BE zP1BP 83 rfl (by kernel_rfl) ?_)) <;> ((try with_reducible intro K1 hK1); simp only [go_sem, ↓reduceIte, reduceCtorEq, nA, nB, nC, nD, nE, nF, hH] <;> and_intros <;> first | (apply hK1; clear hK1 K1) | (intros; first | omega | decide | (simp_all <;> omega)) | skip))))
         exact ⟨_, T1, a2 + 1, ((hO he).nokids).weaken.up (by omega), hT1, by omega, st_mk3 rfl rfl (st_obj2 hio _ _ _ _ _ _)⟩
        ·replace hTq : T1 q = some (.cont 6 css) := hTq
         have hgs := hgs css j hj
         have hw : ∀ c', (∀ e, ∀ T' : Nat → Option TO, OLd false T' (fun k => h.T k = none) e [k, it, lo, mn, K, Sh] → OLd false T' (fun k => h.T k = none) e c') → OLd false (upd T1 q (some (.cont 6 (css.set j c')))) (fun k => h.T k = none) (d + 20) cs := fun c' hc => ((hcs.weaken.up (e := d + 20) (by omega)).write hTq (upd_same _ _ _) (fun k _ hk => upd_other _ _ hk) (fun e h' => by rw [hg] at h'; exact hc e _ h'))
         (repeat (first | refine gO rfl ?_ | ((first | refine gM zM47 ?_ | (with_reducible refine wM ?_ ?_) | ((with_reducible refine xR ?_); refine uE 17 zM47 zP1BE zP1BP 83 rfl (by kernel_rfl) ?_)) <;> ((try with_reducible intro K1 hK1); simp only [go_sem, ↓reduceIte, reduceCtorEq, nA, nB, nC, nD, nE, nF, hTq, st_T, hg, hgs, List.set_set] <;> and_intros <;> first | (apply hK1; clear hK1 K1) | (intros; first | omega | decide | (simp_all <;> omega)) | skip))))
         exact ⟨cs, _, a2 + 1, hw _ fun e T' h' => h'.nokids, fun k hk => (upd_other _ _ (fun e => by subst e; exact hk hq)).trans (hT1 k hk), by omega, rfl⟩
       ·clear h5
        (repeat (first | refine gO rfl ?_ | ((first | refine gM zM47 ?_ | (with_reducible refine wM ?_ ?_) | ((with_reducible refine xR ?_); refine uE 17 zM47 zP1BE zP1BP 83 rfl (by kernel_rfl) ?_)) <;> ((try with_reducible intro K1 hK1); simp only [go_sem, ↓reduceIte, reduceCtorEq, nA, nB, nC, nD, nE, nF] <;> and_intros <;> first | (apply hK1; clear hK1 K1) | (intros; first | omega | decide | (simp_all <;> omega)) | skip))))
        refine awp_cond (t := _) rfl (fun h5 => ?_) (fun h5 => ?_)
        ·
         (repeat (first | refine gO rfl ?_ | ((first | refine gM zM47 ?_ | (with_reducible refine wM ?_ ?_) | ((with_reducible refine xR ?_); refine uE 17 zM47 zP1BE zP1BP 83 rfl (by kernel_rfl) ?_)) <;> ((try with_reducible intro K1 hK1); simp only [go_sem, ↓reduceIte, reduceCtorEq, nA, nB, nC, nD, nE, nF] <;> and_intros <;> first | (apply hK1; clear hK1 K1) | (intros; first | omega | decide | (simp_all <;> omega)) | skip))))
         refine awp_loopC (rl false [0, 1, 3, 2, 69, 1, 7]) 1 (fun g s => ∃ (j : Nat) (cs' : List AV), g + j = 12 ∧ OLd false T1 (fun k => h.T k = none) (d + 1 + j) cs' ∧
          s = ⟨((.ptr i 0) :: (jnk 3 ((.loc 0 0) :: (.ptr o 0) :: (jnk 69 ((.v (.int .i64 j)) :: (jnk 7 [])))))), [[.v (.int .i64 0), .v (.string { data := #[] }), .v (.int .i64 0), .v (.int .i64 0), .v (.slice none 0 0), .v (.slice none 0 0)]], Hp.st ⟨upd h.H o (some (.cells cs')), T1⟩ i l (a2 + 1)⟩) 12 ⟨0, cs, by omega, hcs.weaken, rfl⟩ ?_
         rintro n _ ⟨j, cs', hnj, hcs', rfl⟩
         have hH : (Hp.st ⟨upd h.H o (some (.cells cs')), T1⟩ i l (a2 + 1)).H o = some (.cells cs') := by simp only [Hp.st, upd_other _ _ hio, upd_same]
         have hl6 := hcs'.len
         have htk6 : List.take 6 cs' = cs' := List.take_of_length_le (Nat.le_of_eq hl6)
         have hdr6 : List.drop 6 cs' = [] := List.drop_of_length_le (Nat.le_of_eq hl6)
         (repeat (first | refine gO rfl ?_ | ((first | refine gM zM47 ?_ | (with_reducible refine wM ?_ ?_) | ((with_reducible refine xR ?_); refine uE 17 zM47 zP1BE zP1BP 83 rfl (by kernel_rfl) ?_)) <;> ((try with_reducible intro K1 hK1); simp only [go_sem, ↓reduceIte, reduceCtorEq, nA, nB, nC, nD, nE, nF, hH, hl6, htk6, hdr6] <;> and_intros <;> first | (apply hK1; clear hK1 K1) | (intros; first | omega | decide | (simp_all <;> omega)) | skip))))
         refine awp_cond (t := _) rfl (fun h6 => ?_) (fun h6 => ?_)
         ·simp only [decide_eq_true_eq] at h6
          (repeat (first | refine gO rfl ?_ | ((first | refine gM zM47 ?_ | (with_reducible refine wM ?_ ?_) | ((with_reducible refine xR ?_); refine uE 17 zM47 zP1BE zP1BP 83 rfl (by kernel_rfl) ?_)) <;> ((try with_reducible intro K1 hK1); simp only [go_sem, ↓reduceIte, reduceCtorEq, nA, nB, nC, nD, nE, nF, hH, hl6, htk6, hdr6] <;> and_intros <;> first | (apply hK1; clear hK1 K1) | (intros; first | omega | decide | (simp_all <;> omega)) | skip))))
          exact ⟨n - 1, by omega, j + 1, _, by omega, hcs'.wrap (by unfold NB; omega) (by unfold NB; omega), st_mk3 rfl rfl (st_obj2 hio _ _ _ _ _ _)⟩
         ·simp only [decide_eq_false_iff_not] at h6
          (repeat (first | refine gO rfl ?_ | ((first | refine gM zM47 ?_ | (with_reducible refine wM ?_ ?_) | ((with_reducible refine xR ?_); refine uE 17 zM47 zP1BE zP1BP 83 rfl (by kernel_rfl) ?_)) <;> ((try with_reducible intro K1 hK1); simp only [go_sem, ↓reduceIte, reduceCtorEq, nA, nB, nC, nD, nE, nF, hH, hl6, htk6, hdr6] <;> and_intros <;> first | (apply hK1; clear hK1 K1) | (intros; first | omega | decide | (simp_all <;> omega)) | skip))))
          exact ⟨cs', T1, a2 + 1, hcs'.up (by omega), hT1, by omega, rfl⟩
        ·clear h5
         (repeat (first | refine gO rfl ?_ | ((first | refine gM zM47 ?_ | (with_reducible refine wM ?_ ?_) | ((with_reducible refine xR ?_); refine uE 17 zM47 zP1BE zP1BP 83 rfl (by kernel_rfl) ?_)) <;> ((try with_reducible intro K1 hK1); simp only [go_sem, ↓reduceIte, reduceCtorEq, nA, nB, nC, nD, nE, nF] <;> and_intros <;> first | (apply hK1; clear hK1 K1) | (intros; first | omega | decide | (simp_all <;> omega)) | skip))))
         refine awp_loopC (rl false [0, 1, 3, 2, 13, 1, 63]) 1 (fun g s => ∃ (j : Nat) (cs' : List AV), g + j = 3 ∧ OLd false T1 (fun k => h.T k = none) (d + 1 + j) cs' ∧
          s = ⟨((.ptr i 0) :: (jnk 3 ((.loc 0 0) :: (.ptr o 0) :: (jnk 13 ((.v (.int .i64 j)) :: (jnk 63 [])))))), [[.v (.int .i64 0), .v (.string { data := #[] }), .v (.int .i64 0), .v (.int .i64 0), .v (.slice none 0 0), .v (.slice none 0 0)]], Hp.st ⟨upd h.H o (some (.cells cs')), T1⟩ i l (a2 + 1)⟩) 3 ⟨0, cs, by omega, hcs.weaken, rfl⟩ ?_
         rintro n _ ⟨j, cs', hnj, hcs', rfl⟩
         have hH : (Hp.st ⟨upd h.H o (some (.cells cs')), T1⟩ i l (a2 + 1)).H o = some (.cells cs') := by simp only [Hp.st, upd_other _ _ hio, upd_same]
         have hl6 := hcs'.len
         have htk6 : List.take 6 cs' = cs' := List.take_of_length_le (Nat.le_of_eq hl6)
         have hdr6 : List.drop 6 cs' = [] := List.drop_of_length_le (Nat.le_of_eq hl6)
         (repeat (first | refine gO rfl ?_ | ((first | refine gM zM47 ?_ | (with_reducible refine wM ?_ ?_) | ((with_reducible refine xR ?_); refine uE 17 zM47 zP1BE zP1BP 83 rfl (by kernel_rfl) ?_)) <;> ((try with_reducible intro K1 hK1); simp only [go_sem, ↓reduceIte, reduceCtorEq, nA, nB, nC, nD, nE, nF, hH, hl6, htk6, hdr6] <;> and_intros <;> first | (apply hK1; clear hK1 K1) | (intros; first | omega | decide | (simp_all <;> omega)) | skip))))
         refine awp_cond (t := _) rfl (fun h6 => ?_) (fun h6 => ?_)
         ·simp only [decide_eq_true_eq] at h6
          (repeat (first | refine gO rfl ?_ | ((first | refine gM zM47 ?_ | (with_reducible refine wM ?_ ?_) | ((with_reducible refine xR ?_); refine uE 17 zM47 zP1BE zP1BP 83 rfl (by kernel_rfl) ?_)) <;> ((try with_reducible intro K1 hK1); simp only [go_sem, ↓reduceIte, reduceCtorEq, nA, nB, nC, nD, nE, nF, hH, hl6, htk6, hdr6] <;> and_intros <;> first | (apply hK1; clear hK1 K1) | (intros; first | omega | decide | (simp_all <;> omega)) | skip))))
          exact ⟨n - 1, by omega, j + 1, _, by omega, hcs'.wrap (by unfold NB; omega) (by unfold NB; omega), st_mk3 rfl rfl (st_obj2 hio _ _ _ _ _ _)⟩
         ·simp only [decide_eq_false_iff_not] at h6
          (repeat (first | refine gO rfl ?_ | ((first | refine gM zM47 ?_ | (with_reducible refine wM ?_ ?_) | ((with_reducible refine xR ?_); refine uE 17 zM47 zP1BE zP1BP 83 rfl (by kernel_rfl) ?_)) <;> ((try with_reducible intro K1 hK1); simp only [go_sem, ↓reduceIte, reduceCtorEq, nA, nB, nC, nD, nE, nF, hH, hl6, htk6, hdr6] <;> and_intros <;> first | (apply hK1; clear hK1 K1) | (intros; first | omega | decide | (simp_all <;> omega)) | skip))))
          exact ⟨cs', T1, a2 + 1, hcs'.up (by omega), hT1, by omega, rfl⟩
theorem g_Loop (d : Nat) (deep : Int) (hd : deep ≤ d ∧ -10 ≤ deep ∧ d ≤ 100) (i : Nat) (l : List Int) (a : Int) (h : Hp) (hl : SOk l) (ha : 0 ≤ a ∧ a + costR d + 2 * d + 40 ≤ 900000000) :
  ACalls Tryz.prog 8 [.ptr i 0, .v (.int .i64 deep)] (h.st i l a) (fun r h' => ∃ t a', LC (d + 20) t ∧ (a ≤ a' ∧ a' ≤ a + costR d + 2 * d + 40) ∧ r = .agg (encL t) ∧ h' = h.st i l a') := by
 refine (g_Loop0 d deep hd i l a h hl ha).gup ?_
 rintro _ _ G w v ⟨cs, T', a', hcs, hT', ha', rfl, rfl⟩ hs hr
 obtain ⟨G', hle, hfr, hs2, hf⟩ := hs.freeze (h2 := h.st i l a') (fun k => h.T k = none) rfl (fun k hk => hk) (fun k hk => (hT' k hk).symm)
 obtain ⟨t, ht, hrep⟩ := OLd.freeze hle hf _ _ hcs
 obtain ⟨vs, rfl, hvs⟩ := RepL.of_agg hr
 exact ⟨_, _, G', ⟨t, a', ht, ha', rfl, rfl⟩, hle, hfr, hs2, (hrep _ hvs).agg⟩
open Go Go.RowKit
set_option linter.unusedVariables false
set_option linter.unusedSimpArgs false
def ARow (w : World) (a : Option Addr) (len cap : Nat) (zs : List Int) : Prop :=
 (a = none ∧ len = 0 ∧ cap = 0 ∧ zs = []) ∨ ∃ b : Addr, a = some b ∧ len ≤ cap ∧ cap ≤ maxLen ∧ zs.length = cap ∧ (∀ i, i < zs.length → w.cell? (b.add i) = some (.int .i64 (zs.getD i 0)) ∧ w.frozen? (b.add i) = false) ∧ (∀ n ∈ zs, (Lit.int .i64 n).wf = true)
def G0 (w : World) : Gh := ⟨fun g o => cellT w g o, fun _ => none, fun _ => none, 0⟩
def H0 : Hp := ⟨fun _ => none, fun _ => none⟩
theorem hsim_all (w : World) : HSim (G0 w) H0 w where
 val _ _ _ h := h
 obj _ _ h := by cases h
 inj _ _ _ h := absurd rfl h
 tok _ _ h := by cases h
 tinj _ _ _ _ h := absurd rfl h
 tobj _ _ _ h := absurd rfl h
 fat _ _ := rfl
 ftl _ _ := rfl
theorem below_of_fr {G G' : Gh} {h' : Hp} {w w' : World} (f : Fr G H0 w G' h' w') : Below w.heap.size w w' :=
 ⟨f.os, f.tape, f.output, f.size, fun b hb => (f.keep b hb (fun o => by rcases o with ⟨_, h, _⟩ | ⟨_, _, h, _⟩ <;> exact h rfl)).1⟩
theorem rep_v_inv0 {G : Gh} {x y : Value} (h : Rep G (.v x) y) : y = x := by cases h; rfl
theorem flat_encI (l : List Int) : (l.map encI).flatten = l.map fun x => AV.v (.int .i64 x) := by
 induction l with
 | nil => rfl
 | cons x q ih => simp [encI, ih]
theorem arow_rep {w : World} {a : Option Addr} {len cap : Nat} {zs : List Int} (h : ARow w a len cap zs) : ∃ l : List Int, SOk l ∧ Rep (G0 w) (.row 1 (l.map encI) none) (.slice a len cap) := by
 rcases h with ⟨rfl, rfl, rfl, _⟩ | ⟨⟨b, o, sp⟩, rfl, hl, hm, hz, hc, hwz⟩
 ·exact ⟨[], ⟨by simp, by simp⟩, .nil 1 none trivial⟩
 ·by_cases h0 : cap = 0
  ·subst h0
   obtain rfl : len = 0 := by omega
   exact ⟨[], ⟨by simp, by simp⟩, .nilA 1 _⟩
  ·have hsp : sp = none := by
    have h1 := (hc 0 (by omega)).1
    rw [show (⟨b, o, sp⟩ : Addr).add 0 = ⟨b, o, sp⟩ from rfl] at h1
    cases sp with
    | none => rfl
    | some s =>
     simp only [World.cell?] at h1
     split at h1 <;> simp at h1
   subst hsp
   refine ⟨zs.take len, ⟨by have hm2 : maxLen = 9223372036854775807 := rfl; rw [List.length_take]; omega, fun x hx => ?_⟩, ?_⟩
   ·have h1 := hwz x (List.mem_of_mem_take hx)
    simp only [Lit.wf, Bool.and_eq_true, decide_eq_true_eq] at h1
    exact ⟨h1.1, h1.2⟩
   ·have hlen : (zs.take len).length = len := by simp; omega
    have h2 := Rep.row_mk (G := G0 w) (z := 1) (xs := (zs.take len).map encI) (g := b) (o := o) (c := cap) (us := (zs.take len).map fun x => Value.int .i64 x) (by rw [List.length_map, hlen]; exact hl)
     (fun y hy => by obtain ⟨x, _, rfl⟩ := List.mem_map.1 hy; rfl) (by
      rw [flat_encI]
      refine ⟨by simp, fun j a b => ?_⟩
      simp only [List.getElem_map]
      exact ⟨.v _ rfl, rfl⟩) (fun j y hy => by
      rw [List.getElem?_map] at hy
      obtain ⟨x, hx, rfl⟩ := Option.map_eq_some_iff.1 hy
      rw [List.getElem?_take] at hx
      split at hx
      ·have hjl := (List.getElem?_eq_some_iff.1 hx).1
       have h3 := hc j hjl
       rw [List.getD_eq_getElem?_getD, hx, Addr.add_lit] at h3
       show cellT w b (o + j) = _
       rw [cellT, h3.2]; exact h3.1
      ·cases hx)
    rwa [List.length_map, hlen] at h2
theorem law_calls {f : Nat} (hlaw : ∀ (l : List Int) (h : Hp), SOk l → ACalls Tryz.prog f [.row 1 (l.map encI) none] h (fun r _ => r = .v (.bool true))) (a : Option Addr) (len cap : Nat) (zs : List Int) (w : World) (h : ARow w a len cap zs) :
  Calls Tryz.prog f #[.slice a len cap] w fun e w' => e = .returned (.bool true) ∧ Below w.heap.size w w' := by
 obtain ⟨l, hl, hrep⟩ := arow_rep h
 refine ((hlaw l H0 hl).calls _ w #[.slice a len cap] (hsim_all w) rfl (fun j hj => ?_)).mono ?_
 ·simp only [List.length_cons, List.length_nil, Nat.zero_add, Nat.lt_one_iff] at hj
  subst hj
  exact hrep
 ·rintro _ w' ⟨r, h', G', v, rfl, rfl, _, f, _, hv⟩
  exact ⟨by rw [rep_v_inv0 hv], below_of_fr f⟩
open Go
open Nat renaming reduceAdd → nA, reduceSub → nB, reduceMul → nC, reduceLT → nD, reduceLeDiff → nE, reduceEqDiff → nF, reduceMod → nG, reduceDiv → nH, reducePow → nI
set_option maxRecDepth 100000
set_option maxHeartbeats 8000000
theorem near_enc (xs : List (ByteArray × Int)) : ∃ ys : List Wn, nearR xs = ys.map encW ∧ ys.length ≤ xs.length := by
 refine ⟨(onceS (xs.map (·.1))).map fun k => (k, (cntF xs k : Int), nearA xs k), ?_, by have := onceS_len (xs.map (·.1)); simpa using this⟩
 rw [List.map_map]; rfl
theorem solve_len {ds : List Int} : ∀ {m : Nat} {L W : List Int} {p : List Nat}, solve ds m L W = some p → p.length = m
 | 0, L, W, p, h => by cases h; rfl
 | m + 1, L, W, p, h => by
  rw [solve_succ] at h
  obtain ⟨j, _, _, h⟩ := fsome_spec h
  unfold tryI at h
  split at h
  ·cases h
  ·obtain ⟨q, hq, rfl⟩ := Option.map_eq_some_iff.1 h
   simp [solve_len hq]
theorem spreadV_len {ws : List Wn} (hW : WantOk ws) {q : List ByteArray} (h : spreadV ws = some q) : q.length ≤ 12 := by
 obtain ⟨p, hp, rfl⟩ := Option.map_eq_some_iff.1 h
 have := solve_len hp
 have := hW.all.2
 simp; omega
theorem g_lawNear (l : List Int) (h : Hp) (hl : SOk l) : ACalls Tryz.prog 5 [.row 1 (l.map encI) none] h (fun r _ => r = .v (.bool true)) := by
 refine gE Tryz.func5 rfl (by kernel_rfl) 95 rfl fun c => ?_
 (repeat (first | refine gQ rfl ?_ | (refine gM zM48 fun K1 hK1 => ?_; simp only [go_sem, ↓reduceIte, reduceCtorEq, nA, nB, nC, nD, nE, nF] <;> and_intros <;> first | (apply hK1; clear hK1 K1) | (intros; first | omega | decide | (simp_all <;> omega)) | skip)))
 intro i hi
 refine hK1 _ ?_; clear hK1 K1
 have e0 : ({ H := upd h.H i (some (.cells [.row 1 (l.map encI) none, .v (.int .i64 0)])), T := h.T } : Hp) = h.st i l 0 := rfl
 rw [e0]
 have hc3 : costR 3 = 1190 := by simp [costR]
 (repeat (first | refine gQ rfl ?_ | (refine gM zM48 fun K1 hK1 => ?_; simp only [go_sem, ↓reduceIte, reduceCtorEq, nA, nB, nC, nD, nE, nF] <;> and_intros <;> first | (apply hK1; clear hK1 K1) | (intros; first | omega | decide | (simp_all <;> omega)) | skip)))
 refine (g_Loop 3 3 (by omega) i l 0 h hl (by omega)).mono ?_; rintro _ _ ⟨t, a1, ht, ha1, rfl, rfl⟩; apply hK1; clear hK1 K1
 have hlen := encL_len t
 have htk : List.take 6 (encL t) = encL t := List.take_of_length_le (Nat.le_of_eq hlen)
 have hdr : List.drop 6 (encL t) = [] := List.drop_of_length_le (Nat.le_of_eq hlen)
 (repeat (first | refine gQ rfl ?_ | (refine gM zM48 fun K1 hK1 => ?_; simp only [go_sem, ↓reduceIte, reduceCtorEq, nA, nB, nC, nD, nE, nF, hlen, htk, hdr] <;> and_intros <;> first | (apply hK1; clear hK1 K1) | (intros; first | omega | decide | (simp_all <;> omega)) | skip)))
 refine (g_want i l a1 h hl (by omega)).mono ?_; rintro _ _ ⟨ws, a2, hwl, hwo, ha2, rfl, rfl⟩; apply hK1; clear hK1 K1
 have hkt : KC 23 t := ht.kc
 have hmt := size_small23 ht
 have hgood := fun he => rd_good (d := 23) (t := t) hkt he
 have hNe := fun h => g_nearP 23 t h hkt hmt
 have hRd := fun h => g_rounded 23 t h hkt hmt
 have hNr := fun he h => g_nearR (rdS 23 t) h (hgood he)
 have hnl := near_enc (rdS 23 t)
 generalize rdS 23 t = xs at *
 generalize rdN 23 t = n at *
 generalize rdE 23 t = e at *
 generalize h.st i l a2 = h1
 (repeat (first | refine gQ rfl ?_ | (refine gM zM48 fun K1 hK1 => ?_; simp only [go_sem, ↓reduceIte, reduceCtorEq, nA, nB, nC, nD, nE, nF, hlen, htk, hdr] <;> and_intros <;> first | (apply hK1; clear hK1 K1) | (intros; first | omega | decide | (simp_all <;> omega)) | skip)))
 refine (hNe _).mono ?_
 rintro _ h2 rfl
 refine hK1 _ ?_; clear hK1 K1
 (repeat (first | refine gQ rfl ?_ | (refine gM zM48 fun K1 hK1 => ?_; simp only [go_sem, ↓reduceIte, reduceCtorEq, nA, nB, nC, nD, nE, nF, hlen, htk, hdr] <;> and_intros <;> first | (apply hK1; clear hK1 K1) | (intros; first | omega | decide | (simp_all <;> omega)) | skip)))
 refine (hRd _).mono ?_
 rintro _ h3 rfl
 refine hK1 _ ?_; clear hK1 K1
 (repeat (first | refine gQ rfl ?_ | (refine gM zM48 fun K1 hK1 => ?_; simp only [go_sem, ↓reduceIte, reduceCtorEq, nA, nB, nC, nD, nE, nF, hlen, htk, hdr] <;> and_intros <;> first | (apply hK1; clear hK1 K1) | (intros; first | omega | decide | (simp_all <;> omega)) | skip)))
 refine awp_seq ?_
 refine awp_join (rl false [5, 1, 90]) 0 (fun s => ∃ h4, s = ⟨((jnk 5 ((.row 3 (ws.map encW) none) :: (jnk 90 [])))), [], h4⟩) ?_ ?_
 ·by_cases he : e = 0
  ·subst he
   have hg := hgood rfl
   have hgl := hg.len
   obtain ⟨ys, hys, hyl⟩ := hnl
   (repeat (first | refine gO rfl ?_ | (refine gM zM48 fun K1 hK1 => ?_; simp only [go_sem, ↓reduceIte, reduceCtorEq, nA, nB, nC, nD, nE, nF, in_self, i_self] <;> and_intros <;> first | (apply hK1; clear hK1 K1) | (intros; first | omega | decide | (simp_all <;> omega)) | skip)))
   refine (hNr rfl _).mono ?_
   rintro _ h4 rfl
   refine ⟨rfl, hK1 _ ?_⟩; clear hK1 K1
   (repeat (first | refine gO rfl ?_ | (refine gM zM48 fun K1 hK1 => ?_; simp only [go_sem, ↓reduceIte, reduceCtorEq, nA, nB, nC, nD, nE, nF] <;> and_intros <;> first | (apply hK1; clear hK1 K1) | (intros; first | omega | decide | (simp_all <;> omega)) | skip)))
   have hne := g_eqW ys h4 (by omega)
   rw [← hys] at hne
   refine hne.mono ?_
   rintro _ h5 ⟨rfl, hh⟩
   refine ⟨rfl, hK1 _ ?_⟩; clear hK1 K1
   (repeat (first | refine gO rfl ?_ | (refine gM zM48 fun K1 hK1 => ?_; simp only [go_sem, ↓reduceIte, reduceCtorEq, nA, nB, nC, nD, nE, nF] <;> and_intros <;> first | (apply hK1; clear hK1 K1) | (intros; first | omega | decide | (simp_all <;> omega)) | skip)))
   refine awp_cond (t := _) rfl (fun h9 => by cases h9) (fun _ => ?_)
   (repeat (first | refine gO rfl ?_ | (refine gM zM48 fun K1 hK1 => ?_; simp only [go_sem, ↓reduceIte, reduceCtorEq, nA, nB, nC, nD, nE, nF] <;> and_intros <;> first | (apply hK1; clear hK1 K1) | (intros; first | omega | decide | (simp_all <;> omega)) | skip)))
   exact ⟨_, rfl⟩
  ·have he2 : (e == 0) = false := by simpa using he
   (repeat (first | refine gO rfl ?_ | (refine gM zM48 fun K1 hK1 => ?_; simp only [go_sem, ↓reduceIte, reduceCtorEq, nA, nB, nC, nD, nE, nF, in_self, i_self, he2] <;> and_intros <;> first | (apply hK1; clear hK1 K1) | (intros; first | omega | decide | (simp_all <;> omega)) | skip)))
   refine ⟨.v (.bool false), rfl, rfl, hK1 _ ?_⟩; clear hK1 K1
   (repeat (first | refine gO rfl ?_ | (refine gM zM48 fun K1 hK1 => ?_; simp only [go_sem, ↓reduceIte, reduceCtorEq, nA, nB, nC, nD, nE, nF] <;> and_intros <;> first | (apply hK1; clear hK1 K1) | (intros; first | omega | decide | (simp_all <;> omega)) | skip)))
   refine awp_cond (t := _) rfl (fun h9 => by cases h9) (fun _ => ?_)
   (repeat (first | refine gO rfl ?_ | (refine gM zM48 fun K1 hK1 => ?_; simp only [go_sem, ↓reduceIte, reduceCtorEq, nA, nB, nC, nD, nE, nF] <;> and_intros <;> first | (apply hK1; clear hK1 K1) | (intros; first | omega | decide | (simp_all <;> omega)) | skip)))
   exact ⟨_, rfl⟩
 ·rintro _ ⟨h4, rfl⟩
  have hcp := fun h => g_cntP ws h hwo (by omega)
  have hcr := fun h => g_cntR ws h hwo (by omega)
  have hsp := fun h => g_spreadP ws h hwo (by omega)
  have hsr := fun e h => g_spreadR ws h (want_ok e)
  have hA : spreadA ws = if wantE ws = 0 then (match spreadV ws with
   | some p => .tup [.row 1 (p.map encS) none, .v (.bool true), .v (.int .i64 0)]
   | none => .tup [.row 1 [] none, .v (.bool false), .v (.int .i64 0)]) else .tup [.row 1 [] none, .v (.bool false), .v (.int .i64 (wantE ws))] := rfl
  have hspl : ∀ p, spreadV ws = some p → wantE ws = 0 → p.length ≤ 12 := fun p hp he => spreadV_len (want_ok he) hp
  generalize spreadA ws = sA at *
  generalize spreadV ws = sV at *
  generalize wantE ws = f at *
  (repeat (first | refine gO rfl ?_ | (refine gM zM48 fun K1 hK1 => ?_; simp only [go_sem, ↓reduceIte, reduceCtorEq, nA, nB, nC, nD, nE, nF] <;> and_intros <;> first | (apply hK1; clear hK1 K1) | (intros; first | omega | decide | (simp_all <;> omega)) | skip)))
  refine (hcr _).mono ?_; rintro _ hz ⟨rfl, hh⟩; apply hK1; clear hK1 K1; rw [hh]; clear hh hz
  (repeat (first | refine gO rfl ?_ | (refine gM zM48 fun K1 hK1 => ?_; simp only [go_sem, ↓reduceIte, reduceCtorEq, nA, nB, nC, nD, nE, nF] <;> and_intros <;> first | (apply hK1; clear hK1 K1) | (intros; first | omega | decide | (simp_all <;> omega)) | skip)))
  refine (hcp _).mono ?_; rintro _ hz ⟨rfl, hh⟩; apply hK1; clear hK1 K1; rw [hh]; clear hh hz
  (repeat (first | refine gO rfl ?_ | (refine gM zM48 fun K1 hK1 => ?_; simp only [go_sem, ↓reduceIte, reduceCtorEq, nA, nB, nC, nD, nE, nF, in_self] <;> and_intros <;> first | (apply hK1; clear hK1 K1) | (intros; first | omega | decide | (simp_all <;> omega)) | skip)))
  refine awp_cond (t := _) rfl (fun h9 => by cases h9) (fun _ => ?_)
  (repeat (first | refine gO rfl ?_ | (refine gM zM48 fun K1 hK1 => ?_; simp only [go_sem, ↓reduceIte, reduceCtorEq, nA, nB, nC, nD, nE, nF] <;> and_intros <;> first | (apply hK1; clear hK1 K1) | (intros; first | omega | decide | (simp_all <;> omega)) | skip)))
  refine (hsp _).mono ?_
  rintro _ h5 rfl
  refine hK1 _ ?_; clear hK1 K1
  by_cases hf : f = 0
  ·subst hf
   rw [if_pos rfl] at hA
   cases sV with
   | none =>
    simp only at hA hsr
    subst hA
    (repeat (first | refine gO rfl ?_ | (refine gM zM48 fun K1 hK1 => ?_; simp only [go_sem, ↓reduceIte, reduceCtorEq, nA, nB, nC, nD, nE, nF, in_self, i_self] <;> and_intros <;> first | (apply hK1; clear hK1 K1) | (intros; first | omega | decide | (simp_all <;> omega)) | skip)))
    refine awp_cond (t := _) rfl (fun h9 => by cases h9) (fun _ => ?_)
    (repeat (first | refine gO rfl ?_ | (refine gM zM48 fun K1 hK1 => ?_; simp only [go_sem, ↓reduceIte, reduceCtorEq, nA, nB, nC, nD, nE, nF] <;> and_intros <;> first | (apply hK1; clear hK1 K1) | (intros; first | omega | decide | (simp_all <;> omega)) | skip)))
    refine (hsr trivial _).mono ?_
    rintro _ h6 rfl
    refine hK1 _ ?_; clear hK1 K1
    (repeat (first | refine gO rfl ?_ | (refine gM zM48 fun K1 hK1 => ?_; simp only [go_sem, ↓reduceIte, reduceCtorEq, nA, nB, nC, nD, nE, nF, in_self, i_self] <;> and_intros <;> first | (apply hK1; clear hK1 K1) | (intros; first | omega | decide | (simp_all <;> omega)) | skip)))
    refine (g_eqS [] h6 (by simp)).mono ?_
    rintro _ h7 ⟨rfl, hh⟩
    refine ⟨rfl, hK1 _ ?_⟩; clear hK1 K1
    (repeat (first | refine gO rfl ?_ | (refine gM zM48 fun K1 hK1 => ?_; simp only [go_sem, ↓reduceIte, reduceCtorEq, nA, nB, nC, nD, nE, nF] <;> and_intros <;> first | (apply hK1; clear hK1 K1) | (intros; first | omega | decide | (simp_all <;> omega)) | skip)))
    refine (g_loopedG h7).mono ?_
    rintro _ h8 rfl
    refine ⟨rfl, hK1 _ ?_⟩; clear hK1 K1
    (repeat (first | refine gO rfl ?_ | (refine gM zM48 fun K1 hK1 => ?_; simp only [go_sem, ↓reduceIte, reduceCtorEq, nA, nB, nC, nD, nE, nF] <;> and_intros <;> first | (apply hK1; clear hK1 K1) | (intros; first | omega | decide | (simp_all <;> omega)) | skip)))
    simp only [Tryz.results5, go_sem, ↓reduceIte, reduceCtorEq, nA, nB, nC, nD, nE, nF]
    exact ⟨_, _, Weak.refl _, Hp.le.refl _, rfl⟩
   | some p =>
    simp only at hA hsr
    subst hA
    (repeat (first | refine gO rfl ?_ | (refine gM zM48 fun K1 hK1 => ?_; simp only [go_sem, ↓reduceIte, reduceCtorEq, nA, nB, nC, nD, nE, nF, in_self, i_self] <;> and_intros <;> first | (apply hK1; clear hK1 K1) | (intros; first | omega | decide | (simp_all <;> omega)) | skip)))
    refine awp_cond (t := _) rfl (fun h9 => by cases h9) (fun _ => ?_)
    (repeat (first | refine gO rfl ?_ | (refine gM zM48 fun K1 hK1 => ?_; simp only [go_sem, ↓reduceIte, reduceCtorEq, nA, nB, nC, nD, nE, nF] <;> and_intros <;> first | (apply hK1; clear hK1 K1) | (intros; first | omega | decide | (simp_all <;> omega)) | skip)))
    refine (hsr trivial _).mono ?_
    rintro _ h6 rfl
    refine hK1 _ ?_; clear hK1 K1
    (repeat (first | refine gO rfl ?_ | (refine gM zM48 fun K1 hK1 => ?_; simp only [go_sem, ↓reduceIte, reduceCtorEq, nA, nB, nC, nD, nE, nF, in_self, i_self] <;> and_intros <;> first | (apply hK1; clear hK1 K1) | (intros; first | omega | decide | (simp_all <;> omega)) | skip)))
    refine (g_eqS p h6 (by have := hspl p rfl rfl; omega)).mono ?_
    rintro _ h7 ⟨rfl, hh⟩
    refine ⟨rfl, hK1 _ ?_⟩; clear hK1 K1
    (repeat (first | refine gO rfl ?_ | (refine gM zM48 fun K1 hK1 => ?_; simp only [go_sem, ↓reduceIte, reduceCtorEq, nA, nB, nC, nD, nE, nF] <;> and_intros <;> first | (apply hK1; clear hK1 K1) | (intros; first | omega | decide | (simp_all <;> omega)) | skip)))
    refine (g_loopedG h7).mono ?_
    rintro _ h8 rfl
    refine ⟨rfl, hK1 _ ?_⟩; clear hK1 K1
    (repeat (first | refine gO rfl ?_ | (refine gM zM48 fun K1 hK1 => ?_; simp only [go_sem, ↓reduceIte, reduceCtorEq, nA, nB, nC, nD, nE, nF] <;> and_intros <;> first | (apply hK1; clear hK1 K1) | (intros; first | omega | decide | (simp_all <;> omega)) | skip)))
    simp only [Tryz.results5, go_sem, ↓reduceIte, reduceCtorEq, nA, nB, nC, nD, nE, nF]
    exact ⟨_, _, Weak.refl _, Hp.le.refl _, rfl⟩
  ·rw [if_neg hf] at hA
   subst hA
   have hf2 : (f != 0) = true := by simpa using hf
   (repeat (first | refine gO rfl ?_ | (refine gM zM48 fun K1 hK1 => ?_; simp only [go_sem, ↓reduceIte, reduceCtorEq, nA, nB, nC, nD, nE, nF, hf2, in_self, i_self] <;> and_intros <;> first | (apply hK1; clear hK1 K1) | (intros; first | omega | decide | (simp_all <;> omega)) | skip)))
   refine awp_cond (t := _) rfl (fun _ => ?_) (fun h9 => by cases h9)
   have hz0 : (((0 : Nat) : Int) == 0) = true := rfl
   (repeat (first | refine gO rfl ?_ | (refine gM zM48 fun K1 hK1 => ?_; simp only [go_sem, ↓reduceIte, reduceCtorEq, nA, nB, nC, nD, nE, nF, i_self, hz0] <;> and_intros <;> first | (apply hK1; clear hK1 K1) | (intros; first | omega | decide | (simp_all <;> omega)) | skip)))
   refine (g_loopedG h5).mono ?_
   rintro _ h8 rfl
   refine ⟨rfl, hK1 _ ?_⟩; clear hK1 K1
   (repeat (first | refine gO rfl ?_ | (refine gM zM48 fun K1 hK1 => ?_; simp only [go_sem, ↓reduceIte, reduceCtorEq, nA, nB, nC, nD, nE, nF] <;> and_intros <;> first | (apply hK1; clear hK1 K1) | (intros; first | omega | decide | (simp_all <;> omega)) | skip)))
   simp only [Tryz.results5, go_sem, ↓reduceIte, reduceCtorEq, nA, nB, nC, nD, nE, nF]
   exact ⟨_, _, Weak.refl _, Hp.le.refl _, rfl⟩
end Go.Proofs.YtoleejecmefogaaGreatDoor
namespace Go.Proofs.YtoleejecmefogaaGreatDoor.playsSpreadDone
open Go.ChangeShapes Go.WideShapes Go.ChangeAt Go.RowKit
set_option linter.unusedVariables false
set_option linter.unusedSimpArgs false
theorem own : ownKnob Tryz.prog.godebug = none := by kernel_rfl
theorem laidOut : laidOutB Tryz.prog = true := by kernel_rfl
set_option maxRecDepth 100000 in
theorem lifted (os : Os) (started : os.Started) (H : Type) (enc : TypeId × Value → H) :
    ReturnsInHanded {} Tryz.checked os 5 .any (fun w args => (Rows.playsSpreadSpec.pre enc Tryz.prog Tryz.f5 [] false w args ∧ laidMetH Tryz.prog Rows.playsSpreadRow.laid w) ∧ sizedMet enc Tryz.prog Tryz.f5 (OpenSpec.ofChange Rows.playsSpreadSpec) false w args)
      (Rows.playsSpreadSpec.post enc Tryz.prog Tryz.f5 false true false false) := by
  refine returnsInHanded_of_change_and (C := Tryz.checked) (X := fun w _ => laidMetH Tryz.prog Rows.playsSpreadRow.laid w) (fun _ _ _ hh h => h.of_heap hh) own started (by kernel_rfl) Tryz.func5
    (ChangeSpec.witness_shaped (enc := enc) (C := Tryz.checked) (os := os) (X := fun w _ => laidMetH Tryz.prog Rows.playsSpreadRow.laid w) false (World.laidAll Tryz.prog os Rows.playsSpreadRow.laid) #[.slice none 0 0] 8 (World.laidAll_os _ _ _)
      (World.shaped_of_ZipB (by kernel_rfl) (by kernel_rfl)) (by kernel_rfl) (by kernel_rfl) (by kernel_rfl)
      (by rw [MakeChecks.laidMetH_plain _ _ _ (by kernel_rfl)]; exact laidMet_laidAll _ (by kernel_rfl) (by kernel_rfl))) ?_
  intro W base args ds gs before hval0 hW _ _ hL _
  have hval : ∀ (j : Nat) t v, Tryz.f5.params[j]? = some t → args[j]? = some v → Value.okWide Tryz.prog W .any base t v := hval0
  have hW' := hW
  obtain ⟨p, q, hA0, hV, rfl, hfz, hnd⟩ := hW
  have hA : DataW.TrodAll enc Tryz.prog W 0 (fun _ => true) true Tryz.f5.params.toList args.toList ds p := hA0
  rw [Tryz.params5] at hA hval
  obtain ⟨v0, vs0, d0, ds0, p0, q0, hargs, rfl, rfl, h0, r0⟩ := trodAll_cons hA
  obtain ⟨rfl, rfl, rfl⟩ := trodAll_nil r0
  obtain rfl : args = #[v0] := by cases args; simp_all
  obtain ⟨rfl, rfl⟩ := trodVars_none hV
  obtain ⟨a0, len0, cap0, rfl⟩ := okWide_slice Tryz.underlying22 (hval 0 22 v0 rfl rfl)
  have k0 := h0
  have lt0 : ∀ x ∈ p0, x.block < W.heap.size := by obtain ⟨m, hm⟩ := k0; exact DataW.trod_lt m _ _ _ hm
  obtain ⟨z0, w0⟩ : ∃ zs, ARow W a0 len0 cap0 zs := by
    obtain ⟨fuel, hf⟩ := h0
    rcases open_ints Tryz.underlying22 Tryz.underlying3 (by kernel_rfl) hf with ⟨hcs, _⟩ | ⟨x, l, c, zs, hcs, _, hl, hm, hz, hpe, hcell, hwz⟩
    · simp [Value.cells] at hcs
      obtain ⟨rfl, rfl, rfl⟩ := hcs
      exact ⟨[], .inl ⟨rfl, rfl, rfl, rfl⟩⟩
    · simp [Value.cells] at hcs
      obtain ⟨rfl, rfl, rfl⟩ := hcs
      have hp0 : p0 = MemPlace.row x zs.length := (Prod.mk.inj hpe).2
      refine ⟨zs, .inr ⟨_, rfl, hl, hm, by simpa using hz, fun i hi => ⟨hcell i hi, ?_⟩, hwz⟩⟩
      have h1 := hcell 0 (by omega)
      obtain ⟨b, o, sp⟩ := x
      rw [show (⟨b, o, sp⟩ : Addr).add 0 = ⟨b, o, sp⟩ from rfl] at h1
      cases sp with
      | none => rw [Addr.add_lit]; exact hfz b (o + i) (by rw [hp0]; simp only [MemPlace.row, List.append_nil]; exact List.mem_map.2 ⟨i, List.mem_range.2 hi, rfl⟩)
      | some s =>
        simp only [World.cell?] at h1
        split at h1 <;> simp at h1
  clear hA0 hval0
  refine (law_calls g_lawNear a0 len0 cap0 z0 W w0).mono fun e W' ⟨he, bel⟩ => ?_
  subst he
  exact ⟨_, rfl, _, _, _, [], _, [], hW', trodAll_mk1 (shut_bool Tryz.underlying4 _), (trodAll_cons_mk (Below.trod laidOut (by kernel_rfl) (of_decide_eq_true (by kernel_rfl)) k0 bel lt0) trodAll_mk0), rfl, bel.frame _, fun h => by cases h⟩
theorem said : Rows.PlaysSpreadSaid :=
  OpenClaim.holds_of_wide 5 Tryz.f5 rfl rfl rfl rfl rfl rfl rfl ⟨rfl, rfl, rfl, rfl, rfl⟩ rfl rfl rfl rfl rfl (by kernel_rfl) Tryz.func5 (by kernel_rfl)
    (of_decide_eq_true (by kernel_rfl)) (by unfold Func.isWrapper; first | (rw [if_pos (by decide +kernel)]; kernel_rfl) | (rw [if_neg (by decide +kernel)]; exact ⟨rfl, rfl⟩))
    (fun os started H enc _ => lifted os started H enc)
theorem plain (f : FuncId) (fn : Func) (hf : Tryz.pinned.checked.prog.funcNamed "signboard/signlaw1.PlaysSpread" = some f) (hfn : Tryz.pinned.checked.prog.funcs[f]? = some fn) :
    true = Tryz.pinned.checked.prog.looks [] ∧ ∀ (j : Nat) t, fn.params[j]? = some t → Tryz.pinned.checked.prog.wantsStandIn t = false := by
  obtain rfl : f = 5 := Option.some.inj ((show Tryz.prog.funcNamed "signboard/signlaw1.PlaysSpread" = some 5 by kernel_rfl).symm.trans hf) |>.symm
  obtain rfl : fn = Tryz.f5 := (Option.some.inj (Tryz.func5.symm.trans hfn)).symm
  refine ⟨by kernel_rfl, fun j t ht => ?_⟩
  rw [Tryz.params5] at ht
  obtain rfl : t = 22 := by simpa using Array.mem_of_getElem? ht
  exact (show Tryz.prog.wantsStandIn 22 = false by kernel_rfl)
theorem card : Rows.PlaysSpreadCardSaid :=
  Claim7.holds_tied_plain_at .later [] _ _ _ _ said (fun _ h => by cases h) (by kernel_rfl) (fun _ h => by cases h) playsSpread_row_tie rfl ⟨rfl, rfl⟩ (by kernel_rfl) rfl plain (by kernel_rfl)
end Go.Proofs.YtoleejecmefogaaGreatDoor.playsSpreadDone
