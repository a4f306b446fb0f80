/- asset.NewCache, and Ask, Pin, Order, Free of a cache. -/
import Derived.Test.YtfkbaghinemmkaaGreatDoorM1
import Derived.Test.YtfkbaghinemmkaaGreatDoorAvClr
import Derived.Test.YtfkbaghinemmkaaGreatDoorAvTy
import Derived.Test.YtfkbaghinemmkaaGreatDoorShelf
import Derived.Lib.OwnBridge
import Derived.Test.YtfkbaghinemmkaaGreatDoorAvApp2
import Derived.Test.YtfkbaghinemmkaaGreatDoorAvOld
import Derived.Test.YtfkbaghinemmkaaGreatDoorAvFz
import Derived.Shelf.RegionOpenPlain
import Derived.WalkKit
import Derived.Deep.LoopGhost
import Derived.Deep.RegionLaw
import Derived.Lib.Walk
import Derived.Sort.WalkB12
import Derived.Lib.SliceRun
import Derived.Lib.SlicesDelete
import Derived.Test.YtfkbaghinemmkaaGreatDoorAvCut
namespace Go.Proofs.YtfkbaghinemmkaaGreatDoor
open Go
set_option linter.unusedVariables false
set_option linter.unusedSimpArgs false
open Nat renaming reduceAdd → nA, reduceSub → nB, reduceMul → nC, reduceLT → nD, reduceLeDiff → nE, reduceEqDiff → nF, reduceMod → nG, reduceDiv → nH, reducePow → nI
set_option maxRecDepth 100000
set_option maxHeartbeats 8000000
abbrev zM20 : Option Tmp → Nat := mdL [(17, 2)]
abbrev zM21 : Option Tmp → Nat := mdL [(7, 1), (41, 1)]
abbrev zM22 : Option Tmp → Nat := mdL []
abbrev zM23 : Option Tmp → Nat := mdL [(41, 1)]
abbrev zM24 : Option Tmp → Nat := mdL [(4, 3), (5, 1)]
abbrev zM25 : Option Tmp → Nat := mdL [(3, 2)]
abbrev zM26 : Option Tmp → Nat := mdL [(5, 1)]
abbrev zM27 : Option Tmp → Nat := mdL [(1, 2), (6, 1)]
abbrev zM28 : Option Tmp → Nat := mdL [(7, 1)]
abbrev zM29 : Option Tmp → Nat := mdL [(4, 2)]
attribute [go_sem] zM20 zM21 zM22 zM23 zM24 zM25 zM26 zM27 zM28 zM29
theorem g_newCache (room rule : Int) (h : Hp) (hr : 1 ≤ room ∧ room ≤ 1000000000000) (hru : 1 ≤ rule ∧ rule ≤ 4) :
  ACalls Tryz.prog 9 [.v (.int .i64 room), .v (.int .i64 rule)] h (fun r h' => ∃ ci k, h.H ci = none ∧ h.T k = none ∧ r = .tup [.ptr ci 0, .v (.int .i64 0)] ∧ h' = ⟨upd h.H ci (some (.cells (encCa room rule 0 k 0))), upd h.T k (some (.cont 1 []))⟩) := by
 have hO := a_outside room 1 1000000000000
 have hE : (decide (room < 1) || decide (1000000000000 < room)) = false := by simp; omega
 refine gE Tryz.func9 rfl (by kernel_rfl) 16 rfl fun c => ?_
 (repeat (first | refine gO rfl ?_ | (refine gM zM20 fun K1 hK1 => ?_; simp only [go_sem, ↓reduceIte, reduceCtorEq, nA, nB, nC, nD, nE, nF] <;> and_intros <;> first | (apply hK1; clear hK1 K1) | (intros; first | omega | decide | (simp_all <;> omega)) | skip)))
 refine (hO _).mono ?_; rintro _ hz ⟨rfl, hh⟩; apply hK1; clear hK1 K1; rw [hh]; clear hh hz
 rw [hE]
 (repeat (first | refine gO rfl ?_ | (refine gM zM20 fun K1 hK1 => ?_; simp only [go_sem, ↓reduceIte, reduceCtorEq, nA, nB, nC, nD, nE, nF] <;> and_intros <;> first | (apply hK1; clear hK1 K1) | (intros; first | omega | decide) | skip)))
 refine awp_cond (t := _) rfl (fun h9 => by cases h9) (fun _ => ?_)
 (repeat (first | refine gO rfl ?_ | (refine gM zM20 fun K1 hK1 => ?_; simp only [go_sem, ↓reduceIte, reduceCtorEq, nA, nB, nC, nD, nE, nF] <;> and_intros <;> first | (apply hK1; clear hK1 K1) | (intros; first | omega | decide) | skip)))
 refine (g_ruleFault rule _ hru).mono ?_; rintro _ hz ⟨rfl, hh⟩; apply hK1; clear hK1 K1; rw [hh]; clear hh hz
 (repeat (first | refine gO rfl ?_ | (refine gM zM20 fun K1 hK1 => ?_; simp only [go_sem, ↓reduceIte, reduceCtorEq, nA, nB, nC, nD, nE, nF] <;> and_intros <;> first | (apply hK1; clear hK1 K1) | (intros; first | omega | decide) | skip)))
 refine awp_cond (t := _) rfl (fun h9 => by cases h9) (fun _ => ?_)
 (repeat (first | refine gO rfl ?_ | (refine gM zM20 fun K1 hK1 => ?_; simp only [go_sem, ↓reduceIte, reduceCtorEq, nA, nB, nC, nD, nE, nF] <;> and_intros <;> first | (apply hK1; clear hK1 K1) | (intros; first | omega | decide) | skip)))
 intro ci hci
 replace hci : h.H ci = none := hci
 refine hK1 _ ?_; clear hK1 K1
 refine awp_ownObj ci 3 1 (cs := [.v (.int .i64 room), .v (.int .i64 rule), .v (.int .i64 0), .v (.slice none 0 0)]) (upd_same _ _ _) rfl (fun k0 hk0 => ?_)
 (repeat (first | refine gO rfl ?_ | (refine gM zM20 fun K1 hK1 => ?_; simp only [go_sem, ↓reduceIte, reduceCtorEq, nA, nB, nC, nD, nE, nF] <;> and_intros <;> first | (apply hK1; clear hK1 K1) | (intros; first | omega | decide) | skip)))
 simp only [Tryz.results9, go_sem, ↓reduceIte, reduceCtorEq, nA, nB, nC, nD, nE, nF]
 exact ⟨_, _, Weak.refl _, Hp.le.refl _, ci, k0, hci, hk0, rfl, rfl⟩
variable {K : Nat → Kp} {ci k : Nat} {room rule now : Int} {item : ByteArray} {ps : List Nat} {h : Hp}
theorem g_askC {p : Nat} (hC : h.H ci = some (.cells (encCa room rule now k ps.length))) (hT : h.T k = some (.cont 1 (ps.map encR))) (hl : ps.length ≤ 1000) (hK : CacheH h K ps) (hci : ci ∉ ps) (hone : KeysOne (ps.map K)) (hp : p ∈ ps) (hpk : (K p).1 = item)
  (hKey : ∀ h, ACalls Tryz.prog 56 [.v (.string item)] h (fun r h' => r = .v (.bool true) ∧ h' = h)) (hnow : 0 ≤ now ∧ now ≤ 1000000000) (hM : 0 ≤ (K p).2.2.2.2.2 ∧ (K p).2.2.2.2.2 ≤ 1000000000) :
  ACalls Tryz.prog 19 [.ptr ci 0, .v (.string item)] h (fun r h' => r = .tup [.v (.bool true), .v (.int .i64 0)] ∧ h' = ⟨upd (upd h.H ci (some (.cells (encCa room rule (now + 1) k ps.length)))) p (some (.cells (encKp (askF (now + 1) (K p))))), h.T⟩) := by
 have hfi := g_find (item := item) K ci k room rule now ps h hC hT (by omega) hK
 have hfc : findF item K ps = .ptr p 0 := by
  rcases findF_cases item K ps with ⟨hn, _⟩ | ⟨q, hq, hqk, _, e⟩
  ·rw [hasL_iff.2 ⟨K p, List.mem_map_of_mem hp, hpk⟩] at hn; cases hn
  ·rw [e, keysOne_map hone hq hp (hqk.trans hpk.symm)]
 rw [hfc] at hfi
 have hcp : ci ≠ p := by rintro rfl; exact hci hp
 have has := g_ask (now := now) hC (hK p hp) hcp hnow hM
 refine gE Tryz.func19 rfl (by kernel_rfl) 16 rfl fun c => ?_
 (repeat (first | refine gO rfl ?_ | (refine gR fun K1 hK1 => ?_; simp only [go_sem, ↓reduceIte, reduceCtorEq, nA, nB, nC, nD, nE, nF] <;> and_intros <;> first | (apply hK1; clear hK1 K1) | (intros; first | omega | decide | (simp_all <;> omega)) | skip)))
 refine (hKey _).mono ?_; rintro _ hz ⟨rfl, hh⟩; apply hK1; clear hK1 K1; rw [hh]; clear hh hz
 (repeat (first | refine gO rfl ?_ | (refine gR fun K1 hK1 => ?_; simp only [go_sem, ↓reduceIte, reduceCtorEq, nA, nB, nC, nD, nE, nF] <;> and_intros <;> first | (apply hK1; clear hK1 K1) | (intros; first | omega | decide) | skip)))
 refine awp_cond (t := _) rfl (fun h9 => by cases h9) (fun _ => ?_)
 (repeat (first | refine gO rfl ?_ | (refine gR fun K1 hK1 => ?_; simp only [go_sem, ↓reduceIte, reduceCtorEq, nA, nB, nC, nD, nE, nF] <;> and_intros <;> first | (apply hK1; clear hK1 K1) | (intros; first | omega | decide) | skip)))
 refine hfi.mono ?_; rintro _ hz ⟨rfl, hh⟩; apply hK1; clear hK1 K1; rw [hh]; clear hh hz
 (repeat (first | refine gO rfl ?_ | (refine gR fun K1 hK1 => ?_; simp only [go_sem, ↓reduceIte, reduceCtorEq, nA, nB, nC, nD, nE, nF] <;> and_intros <;> first | (apply hK1; clear hK1 K1) | (intros; first | omega | decide) | skip)))
 refine awp_cond (t := _) rfl (fun h9 => by cases h9) (fun _ => ?_)
 (repeat (first | refine gO rfl ?_ | (refine gR fun K1 hK1 => ?_; simp only [go_sem, ↓reduceIte, reduceCtorEq, nA, nB, nC, nD, nE, nF] <;> and_intros <;> first | (apply hK1; clear hK1 K1) | (intros; first | omega | decide) | skip)))
 refine has.mono ?_; rintro _ hz ⟨rfl, hh⟩; apply hK1; clear hK1 K1; rw [hh]; clear hh hz
 (repeat (first | refine gO rfl ?_ | (refine gR fun K1 hK1 => ?_; simp only [go_sem, ↓reduceIte, reduceCtorEq, nA, nB, nC, nD, nE, nF] <;> and_intros <;> first | (apply hK1; clear hK1 K1) | (intros; first | omega | decide) | skip)))
 simp only [Tryz.results19, go_sem, ↓reduceIte, reduceCtorEq, nA, nB, nC, nD, nE, nF]
 exact ⟨_, _, Weak.refl _, Hp.le.refl _, rfl, rfl⟩
theorem g_freeC (hC : h.H ci = some (.cells (encCa room rule now k ps.length))) (hT : h.T k = some (.cont 1 (ps.map encR))) (hl : ps.length ≤ 1000) (hK : CacheH h K ps)
  (hB : ∀ p ∈ ps, 0 ≤ (K p).2.1 ∧ (K p).2.1 ≤ 1000000000000) (hr : 0 ≤ room ∧ room ≤ 1000000000000) :
  ACalls Tryz.prog 26 [.ptr ci 0] h (fun r h' => r = .v (.int .i64 (room - sumB (ps.map K))) ∧ h' = h) := by
 have hml : (ps.map encR).length = ps.length := List.length_map _
 refine gE Tryz.func26 rfl (by kernel_rfl) 26 rfl fun c => ?_
 (repeat (first | refine gO rfl ?_ | (refine gR fun K1 hK1 => ?_; simp only [go_sem, ↓reduceIte, reduceCtorEq, nA, nB, nC, nD, nE, nF, hC, encCa] <;> and_intros <;> first | (apply hK1; clear hK1 K1) | (intros; first | omega | decide | (simp_all <;> omega)) | skip)))
 refine awp_loopC (rl false [0, 1, 2, 1, 9, 3, 11]) 0 (fun g s' => ∃ (j : Nat) (o : Int), g + j = ps.length ∧ o = room - sumB ((ps.take j).map K) ∧ -(j * 1000000000000) ≤ o ∧ o ≤ 1000000000000 ∧
  s' = ⟨((.ptr ci 0) :: AV.junk :: AV.junk :: ((.v (.int .i64 o)) :: (jnk 9 ((.arr 1 k ps.length) :: (.v (.int .i64 ps.length)) :: (.v (.int .i64 j)) :: (jnk 11 []))))), [], h⟩) ps.length ⟨0, room, by omega, by simp [sumB], by omega, by omega, rfl⟩ ?_
 rintro g _ ⟨j, o, hj, ho, ho1, ho2, rfl⟩
 (repeat (first | refine gO rfl ?_ | (refine gR fun K1 hK1 => ?_; simp only [go_sem, ↓reduceIte, reduceCtorEq, nA, nB, nC, nD, nE, nF] <;> and_intros <;> first | (apply hK1; clear hK1 K1) | (intros; first | omega | decide) | skip)))
 refine awp_cond (t := _) rfl (fun h1 => ?_) (fun h1 => ?_)
 ·simp only [decide_eq_true_eq] at h1
  have hjl : j < ps.length := by omega
  have gx : (ps.map encR).getD j [] = encR (ps.getD j default) := getD_enc encR ps j default hjl
  have htj := take_at' ps j default hjl
  have hpm : ps.getD j default ∈ ps := by rw [List.getD_eq_getElem?_getD, List.getElem?_eq_getElem hjl]; exact List.getElem_mem _
  generalize ps.getD j default = p at *
  have hhp := hK p hpm
  have hbp := hB p hpm
  have ho3 : o - (K p).2.1 = room - sumB ((ps.take (j + 1)).map K) := by
   rw [htj, List.map_append, sumB_append, List.map_cons, List.map_nil, sumB_cons, sumB_nil]; omega
  generalize K p = x at *
  obtain ⟨ke, by1, pi, ca, la, ma⟩ := x
  simp only at hbp ho3
  clear ho
  (repeat (first | refine gO rfl ?_ | (refine gR fun K1 hK1 => ?_; simp only [go_sem, ↓reduceIte, reduceCtorEq, nA, nB, nC, nD, nE, nF, hT, hml, Int.toNat_natCast, gx, encR, hhp, encKp] <;> and_intros <;> first | (apply hK1; clear hK1 K1) | (intros; first | omega | decide) | skip)))
  exact ⟨g - 1, by omega, j + 1, o - by1, by omega, ho3, by omega, by omega, rfl⟩
 ·simp only [decide_eq_false_iff_not] at h1
  have hjl : j = ps.length := by omega
  subst hjl
  rw [List.take_length] at ho
  (repeat (first | refine gO rfl ?_ | (refine gR fun K1 hK1 => ?_; simp only [go_sem, ↓reduceIte, reduceCtorEq, nA, nB, nC, nD, nE, nF] <;> and_intros <;> first | (apply hK1; clear hK1 K1) | (intros; first | omega | decide) | skip)))
  simp only [Tryz.results26, go_sem, ↓reduceIte, reduceCtorEq, nA, nB, nC, nD, nE, nF]
  exact ⟨_, _, Weak.refl _, Hp.le.refl _, by rw [ho], rfl⟩
theorem g_orderC (hC : h.H ci = some (.cells (encCa room rule now k ps.length))) (hT : h.T k = some (.cont 1 (ps.map encR))) (hl : ps.length ≤ 12) (hK : CacheH h K ps) :
  ACalls Tryz.prog 24 [.ptr ci 0] h (fun r h' => ∃ kt, r = .row 1 (((orderL rule (ps.map K)).map (fun x : Kp => x.1)).map encS) (some kt) ∧ h'.H = h.H ∧ ∀ t, h.T t ≠ none → h'.T t = h.T t) := by
 refine gE Tryz.func24 rfl (by kernel_rfl) 21 rfl fun c => ?_
 (repeat refine gO rfl ?_)
 refine awp_seq ?_
 (repeat (first | refine gQ rfl ?_ | (refine gR fun K1 hK1 => ?_; simp only [go_sem, ↓reduceIte, reduceCtorEq, nA, nB, nC, nD, nE, nF] <;> and_intros <;> first | (apply hK1; clear hK1 K1) | (intros; first | omega | decide | (simp_all <;> omega)) | skip)))
 refine awp_own 3 1 rfl ⟨rfl, rfl⟩ (fun kt hkt => ?_)
 replace hkt : h.T kt = none := hkt
 have hkk : k ≠ kt := by rintro rfl; rw [hT] at hkt; cases hkt
 have hor := g_order (K := K) (rule := rule) (h := ⟨h.H, upd h.T kt (some (.tail 0))⟩) hC ((upd_other _ _ hkk).trans hT) hl hK
 (repeat (first | refine gO rfl ?_ | (refine gR fun K1 hK1 => ?_; simp only [go_sem, ↓reduceIte, reduceCtorEq, nA, nB, nC, nD, nE, nF] <;> and_intros <;> first | (apply hK1; clear hK1 K1) | (intros; first | omega | decide) | skip)))
 refine hor.mono ?_
 rintro _ ⟨H2, T2⟩ ⟨q, rfl, hH, hT2, hq, hoth⟩
 simp only at hH hT2
 subst hH
 refine hK1 _ ?_; clear hK1 K1 hor
 have hqkt : q ≠ kt := by
  intro e
  have hq' : upd h.T kt (some (.tail 0)) q = none := hq
  rw [e, upd_same] at hq'; cases hq'
 have hT2k : T2 kt = some (.tail 0) := by
  have := hoth kt (by show upd h.T kt _ kt ≠ none; rw [upd_same]; simp)
  exact this.trans (upd_same _ _ _)
 have hold : ∀ t, h.T t ≠ none → T2 t = h.T t ∧ t ≠ kt := fun t ht => by
  have htk : t ≠ kt := by rintro rfl; exact ht hkt
  have := hoth t (by show upd h.T kt _ t ≠ none; rw [upd_other _ _ htk]; exact ht)
  exact ⟨this.trans (upd_other _ _ htk), htk⟩
 have hom : ∀ p ∈ orderF rule K ps, p ∈ ps := fun p hp => orderF_mem hp
 have hol := orderF_len rule K ps
 have hmap := orderF_map rule K ps
 generalize orderF rule K ps = ord at *
 have hol2 : (ord.map encR).length = ord.length := List.length_map _
 clear hoth
 (repeat (first | refine gO rfl ?_ | (refine gR fun K1 hK1 => ?_; simp only [go_sem, ↓reduceIte, reduceCtorEq, nA, nB, nC, nD, nE, nF] <;> and_intros <;> first | (apply hK1; clear hK1 K1) | (intros; first | omega | decide) | skip)))
 refine awp_loopC (rl false [3, 1, 3, 3, 12]) 0 (fun g s => ∃ j : Nat, g + j = ord.length ∧
  s = ⟨((jnk 3 ((.row 1 (((ord.take j).map fun p => (K p).1).map encS) (some kt)) :: (jnk 3 ((.arr 1 q ord.length) :: (.v (.int .i64 ord.length)) :: (.v (.int .i64 j)) :: (jnk 12 [])))))), [], ⟨h.H, upd T2 kt (some (.tail j))⟩⟩) ord.length ⟨0, by omega, ?_⟩ ?_
 ·have e2 : upd T2 kt (some (TO.tail 0)) = T2 := by
   funext t
   by_cases e : t = kt
   ·rw [e, upd_same, hT2k]
   ·rw [upd_other _ _ e]
  rw [e2]; rfl
 rintro g _ ⟨j, hj, rfl⟩
 (repeat (first | refine gO rfl ?_ | (refine gR fun K1 hK1 => ?_; simp only [go_sem, ↓reduceIte, reduceCtorEq, nA, nB, nC, nD, nE, nF] <;> and_intros <;> first | (apply hK1; clear hK1 K1) | (intros; first | omega | decide) | skip)))
 refine awp_cond (t := _) rfl (fun h1 => ?_) (fun h1 => ?_)
 ·simp only [decide_eq_true_eq] at h1
  have hjl : j < ord.length := by omega
  have gx : (ord.map encR).getD j [] = encR (ord.getD j default) := getD_enc encR ord j default hjl
  have htj := take_at' ord j default hjl
  have hpm : ord.getD j default ∈ ord := by rw [List.getD_eq_getElem?_getD, List.getElem?_eq_getElem hjl]; exact List.getElem_mem _
  generalize ord.getD j default = p at *
  have hhp := hK p (hom p hpm)
  have htq : upd T2 kt (some (TO.tail j)) q = some (.cont 1 (ord.map encR)) := (upd_other _ _ hqkt).trans hT2
  have htk2 : upd T2 kt (some (TO.tail j)) kt = some (.tail j) := upd_same _ _ _
  have hll : (((ord.take j).map fun p => (K p).1).map encS).length = j := by rw [List.length_map, List.length_map, List.length_take]; omega
  have hnx : ((ord.take (j + 1)).map fun p => (K p).1).map encS = ((ord.take j).map fun p => (K p).1).map encS ++ [[.v (.string (K p).1)]] := by rw [htj, List.map_append, List.map_append]; rfl
  generalize ((ord.take j).map fun p => (K p).1).map encS = acc at *
  generalize K p = x at *
  obtain ⟨ke, by1, pi, ca, la, ma⟩ := x
  (repeat (first | refine gO rfl ?_ | (refine gR fun K1 hK1 => ?_; simp only [go_sem, ↓reduceIte, reduceCtorEq, nA, nB, nC, nD, nE, nF, htq, hol2, Int.toNat_natCast, gx, encR, hhp, encKp, htk2, hll] <;> and_intros <;> first | (apply hK1; clear hK1 K1) | (intros; first | omega | decide) | skip)))
  exact ⟨g - 1, by omega, j + 1, by omega, by rw [hnx]; rfl⟩
 ·simp only [decide_eq_false_iff_not] at h1
  have hjl : j = ord.length := by omega
  subst hjl
  rw [List.take_length]
  (repeat (first | refine gO rfl ?_ | (refine gR fun K1 hK1 => ?_; simp only [go_sem, ↓reduceIte, reduceCtorEq, nA, nB, nC, nD, nE, nF] <;> and_intros <;> first | (apply hK1; clear hK1 K1) | (intros; first | omega | decide) | skip)))
  simp only [Tryz.results24, go_sem, ↓reduceIte, reduceCtorEq, nA, nB, nC, nD, nE, nF]
  refine ⟨_, _, Weak.refl _, Hp.le.refl _, kt, by rw [← hmap]; simp only [List.map_map]; rfl, rfl, fun t ht => ?_⟩
  exact (upd_other _ _ (hold t ht).2).trans (hold t ht).1
abbrev Sk := ByteArray × Int × Int × Int × Bool
def encSk (x : Sk) : List AV := [.v (.string x.1), .v (.int .i64 x.2.1), .v (.int .i64 x.2.2.1), .v (.int .i64 x.2.2.2.1), .v (.bool x.2.2.2.2)]
def idxS (pr : Sk → Bool) (ps : List Sk) : Int := match ps.findIdx? pr with
 | some j => j
 | none => -1
theorem idxS_at {pr : Sk → Bool} {ps : List Sk} {j : Nat} (hj : j < ps.length) (hp : pr (ps.getD j default) = true) (hn : ∀ i, i < j → pr (ps.getD i default) = false) : idxS pr ps = j := by
 have e : ps.findIdx? pr = some j := by
  rw [List.findIdx?_eq_some_iff_getElem]
  refine ⟨hj, ?_, fun i hi => ?_⟩
  ·rwa [List.getD_eq_getElem?_getD, List.getElem?_eq_getElem hj] at hp
  ·have h9 := hn i hi
   rw [List.getD_eq_getElem?_getD, List.getElem?_eq_getElem (by omega)] at h9
   simpa using h9
 rw [idxS, e]
theorem idxS_no {pr : Sk → Bool} {ps : List Sk} (hn : ∀ i, i < ps.length → pr (ps.getD i default) = false) : idxS pr ps = -1 := by
 have e : ps.findIdx? pr = none := by
  rw [List.findIdx?_eq_none_iff]
  intro x hx
  obtain ⟨i, hi, rfl⟩ := List.getElem_of_mem hx
  have h9 := hn i hi
  rwa [List.getD_eq_getElem?_getD, List.getElem?_eq_getElem hi] at h9
 rw [idxS, e]
theorem g_idxS {f : Nat} {caps : List AV} (pr : Sk → Bool) (k : Nat) (ps : List Sk) (h : Hp) (hT : h.T k = some (.cont 5 (ps.map encSk))) (hl : ps.length ≤ 100000)
  (hc : ∀ p ∈ ps, ACalls Tryz.prog f ([.agg (encSk p)] ++ caps) h (fun r h' => r = .v (.bool (pr p)) ∧ h' = h)) :
  ACalls Tryz.prog 120 [.arr 5 k ps.length, .fn f caps] h (fun r h' => r = .v (.int .i64 (idxS pr ps)) ∧ h' = h) := by
 have hml : (ps.map encSk).length = ps.length := List.length_map _
 refine gE Tryz.func120 rfl (by kernel_rfl) 17 rfl fun c => ?_
 (repeat (first | refine gO rfl ?_ | (refine gR fun K1 hK1 => ?_; simp only [go_sem, ↓reduceIte, reduceCtorEq, nA, nB, nC, nD, nE, nF] <;> and_intros <;> first | (apply hK1; clear hK1 K1) | (intros; first | omega | decide | (simp_all <;> omega)) | skip)))
 refine awp_loopC (rl false [0, 2, 5, 2, 10]) 0 (fun g s => ∃ j : Nat, g + j = ps.length ∧ (∀ i, i < j → pr (ps.getD i default) = false) ∧
  s = ⟨((.arr 5 k ps.length) :: (.fn f caps) :: (jnk 5 ((.v (.int .i64 ps.length)) :: (.v (.int .i64 j)) :: (jnk 10 [])))), [], h⟩) ps.length ⟨0, by omega, fun i hi => by omega, rfl⟩ ?_
 rintro g _ ⟨j, hj, hn, rfl⟩
 (repeat (first | refine gO rfl ?_ | (refine gR fun K1 hK1 => ?_; simp only [go_sem, ↓reduceIte, reduceCtorEq, nA, nB, nC, nD, nE, nF] <;> and_intros <;> first | (apply hK1; clear hK1 K1) | (intros; first | omega | decide) | skip)))
 refine awp_cond (t := _) rfl (fun h1 => ?_) (fun h1 => ?_)
 ·simp only [decide_eq_true_eq] at h1
  have hjl : j < ps.length := by omega
  have gx : (ps.map encSk).getD j [] = encSk (ps.getD j default) := getD_enc encSk ps j default hjl
  have hcc := hc (ps.getD j default) (by rw [List.getD_eq_getElem?_getD, List.getElem?_eq_getElem hjl]; exact List.getElem_mem _)
  obtain ⟨p, hp⟩ : ∃ p, ps.getD j default = p := ⟨_, rfl⟩
  rw [hp] at gx hcc
  (repeat (first | refine gO rfl ?_ | (refine gR fun K1 hK1 => ?_; simp only [go_sem, ↓reduceIte, reduceCtorEq, nA, nB, nC, nD, nE, nF, hT, hml, Int.toNat_natCast, gx, encSk] <;> and_intros <;> first | (apply hK1; clear hK1 K1) | (intros; first | omega | decide) | skip)))
  refine hcc.mono ?_; rintro _ hz ⟨rfl, hh⟩; apply hK1; clear hK1 K1; rw [hh]; clear hh hz
  cases hb : pr p with
  | true =>
   (repeat (first | refine gO rfl ?_ | (refine gR fun K1 hK1 => ?_; simp only [go_sem, ↓reduceIte, reduceCtorEq, nA, nB, nC, nD, nE, nF] <;> and_intros <;> first | (apply hK1; clear hK1 K1) | (intros; first | omega | decide) | skip)))
   refine awp_cond (t := _) rfl (fun _ => ?_) (fun h9 => by cases h9)
   (repeat (first | refine gO rfl ?_ | (refine gR fun K1 hK1 => ?_; simp only [go_sem, ↓reduceIte, reduceCtorEq, nA, nB, nC, nD, nE, nF] <;> and_intros <;> first | (apply hK1; clear hK1 K1) | (intros; first | omega | decide) | skip)))
   simp only [Tryz.results120, go_sem, ↓reduceIte, reduceCtorEq, nA, nB, nC, nD, nE, nF]
   exact ⟨_, _, Weak.refl _, Hp.le.refl _, by rw [idxS_at hjl (by rw [hp]; exact hb) hn], rfl⟩
  | false =>
   (repeat (first | refine gO rfl ?_ | (refine gR fun K1 hK1 => ?_; simp only [go_sem, ↓reduceIte, reduceCtorEq, nA, nB, nC, nD, nE, nF] <;> and_intros <;> first | (apply hK1; clear hK1 K1) | (intros; first | omega | decide) | skip)))
   refine awp_cond (t := _) rfl (fun h9 => by cases h9) (fun _ => ?_)
   (repeat (first | refine gO rfl ?_ | (refine gR fun K1 hK1 => ?_; simp only [go_sem, ↓reduceIte, reduceCtorEq, nA, nB, nC, nD, nE, nF] <;> and_intros <;> first | (apply hK1; clear hK1 K1) | (intros; first | omega | decide) | skip)))
   refine ⟨g - 1, by omega, j + 1, by omega, fun i hi => ?_, rfl⟩
   rcases Nat.lt_succ_iff_lt_or_eq.1 hi with h9 | rfl
   ·exact hn i h9
   ·rw [hp]; exact hb
 ·simp only [decide_eq_false_iff_not] at h1
  (repeat (first | refine gO rfl ?_ | (refine gR fun K1 hK1 => ?_; simp only [go_sem, ↓reduceIte, reduceCtorEq, nA, nB, nC, nD, nE, nF] <;> and_intros <;> first | (apply hK1; clear hK1 K1) | (intros; first | omega | decide) | skip)))
  simp only [Tryz.results120, go_sem, ↓reduceIte, reduceCtorEq, nA, nB, nC, nD, nE, nF]
  exact ⟨_, _, Weak.refl _, Hp.le.refl _, by rw [idxS_no (fun i hi => hn i (by omega))], rfl⟩
theorem idxS_cases (pr : Sk → Bool) (ps : List Sk) : ((∀ p ∈ ps, pr p = false) ∧ idxS pr ps = -1) ∨ ∃ j, j < ps.length ∧ idxS pr ps = j ∧ pr (ps.getD j default) = true ∧ ∀ i, i < j → pr (ps.getD i default) = false := by
 unfold idxS
 cases e : ps.findIdx? pr with
 | none =>
  rw [List.findIdx?_eq_none_iff] at e
  exact .inl ⟨e, rfl⟩
 | some j =>
  rw [List.findIdx?_eq_some_iff_getElem] at e
  obtain ⟨hj, h1, h2⟩ := e
  refine .inr ⟨j, hj, rfl, ?_, fun i hi => ?_⟩
  ·rw [List.getD_eq_getElem?_getD, List.getElem?_eq_getElem hj]; exact h1
  ·have := h2 i hi
   rw [List.getD_eq_getElem?_getD, List.getElem?_eq_getElem (by omega)]
   simpa using this
theorem g_delF {f : Nat} {caps : List AV} (pr : Sk → Bool) (k : Nat) (ps : List Sk) (h : Hp) (hT : h.T k = some (.cont 5 (ps.map encSk))) (hl : ps.length ≤ 100000)
  (hc : ∀ p ∈ ps, ∀ T', ACalls Tryz.prog f ([.agg (encSk p)] ++ caps) ⟨h.H, T'⟩ (fun r h' => r = .v (.bool (pr p)) ∧ h' = ⟨h.H, T'⟩)) :
  ACalls Tryz.prog 70 [.arr 5 k ps.length, .fn f caps] h (fun r h' => ∃ q, r = .arr 5 q (ps.filter fun p => !pr p).length ∧ h'.H = h.H ∧ h'.T q = some (.cont 5 ((ps.filter fun p => !pr p).map encSk)) ∧ ∀ t, t ≠ k → h.T t ≠ none → t ≠ q ∧ h'.T t = h.T t) := by
 have hix := g_idxS pr k ps h hT hl (fun p hp => hc p hp h.T)
 refine gE Tryz.func70 rfl (by kernel_rfl) 40 rfl fun c => ?_
 (repeat (first | refine gO rfl ?_ | (refine gM zM21 fun K1 hK1 => ?_; simp only [go_sem, ↓reduceIte, reduceCtorEq, nA, nB, nC, nD, nE, nF] <;> and_intros <;> first | (apply hK1; clear hK1 K1) | (intros; first | omega | decide | (simp_all <;> omega)) | skip)))
 refine hix.mono ?_; rintro _ hz ⟨rfl, hh⟩; apply hK1; clear hK1 K1; rw [hh]; clear hh hz
 clear hix
 rcases idxS_cases pr ps with ⟨hno, e⟩ | ⟨j0, hj0, e, hp0, hn0⟩
 ·rw [e]
  have ef : ps.filter (fun p => !pr p) = ps := List.filter_eq_self.2 fun p hp => by simp [hno p hp]
  rw [ef]
  have hb : ((-1 : Int) == -1) = true := rfl
  clear hc
  (repeat (first | refine gO rfl ?_ | (refine gM zM21 fun K1 hK1 => ?_; simp only [go_sem, ↓reduceIte, reduceCtorEq, nA, nB, nC, nD, nE, nF, hb] <;> and_intros <;> first | (apply hK1; clear hK1 K1) | (intros; first | omega | decide) | skip)))
  refine awp_cond (t := _) rfl (fun _ => ?_) (fun h9 => by cases h9)
  (repeat (first | refine gO rfl ?_ | (refine gM zM21 fun K1 hK1 => ?_; simp only [go_sem, ↓reduceIte, reduceCtorEq, nA, nB, nC, nD, nE, nF] <;> and_intros <;> first | (apply hK1; clear hK1 K1) | (intros; first | omega | decide) | skip)))
  simp only [Tryz.results70, go_sem, ↓reduceIte, reduceCtorEq, nA, nB, nC, nD, nE, nF]
  exact ⟨_, _, Weak.refl _, Hp.le.refl _, k, rfl, rfl, hT, fun t ht _ => ⟨ht, rfl⟩⟩
 ·rw [e]
  have hb : ((j0 : Int) == -1) = false := by
   rw [beq_eq_false_iff_ne]; omega
  (repeat (first | refine gO rfl ?_ | (refine gM zM21 fun K1 hK1 => ?_; simp only [go_sem, ↓reduceIte, reduceCtorEq, nA, nB, nC, nD, nE, nF, hb] <;> and_intros <;> first | (apply hK1; clear hK1 K1) | (intros; first | omega | decide) | skip)))
  refine awp_cond (t := _) rfl (fun h9 => by cases h9) (fun _ => ?_)
  (repeat (first | refine gO rfl ?_ | (refine gM zM21 fun K1 hK1 => ?_; simp only [go_sem, ↓reduceIte, reduceCtorEq, nA, nB, nC, nD, nE, nF] <;> and_intros <;> first | (apply hK1; clear hK1 K1) | (intros; first | omega | decide) | skip)))
  have hT0 : (ps.take j0).filter (fun p => !pr p) = ps.take j0 := List.filter_eq_self.2 fun p hp => by
   obtain ⟨i, hi, rfl⟩ := List.getElem_of_mem hp
   rw [List.length_take] at hi
   have h9 := hn0 i (by omega)
   rw [List.getD_eq_getElem?_getD, List.getElem?_eq_getElem (by omega)] at h9
   rw [List.getElem_take]
   simpa using h9
  refine awp_loopC (rl false [0, 2, 3, 2, 35]) 0 (fun g s => ∃ (j : Nat) (Fl M : List Sk), g + j = ps.length ∧ Fl = (ps.take j).filter (fun p => !pr p) ∧ M ≠ [] ∧ Fl.length + M.length = j ∧
   s = ⟨((.arr 5 k ps.length) :: (.fn f caps) :: (jnk 3 ((.v (.int .i64 Fl.length)) :: (.v (.int .i64 j)) :: (jnk 35 [])))), [], ⟨h.H, upd h.T k (some (.cont 5 ((Fl ++ (M ++ ps.drop j)).map encSk)))⟩⟩) (ps.length - (j0 + 1))
   ⟨j0 + 1, ps.take j0, [ps.getD j0 default], by omega, by rw [take_at' ps j0 default hj0, List.filter_append, hT0, List.filter_cons_of_neg (p := fun p => !pr p) (show ¬ (!pr (ps.getD j0 default)) = true by rw [hp0]; decide)]; simp, by simp, by rw [List.length_take, List.length_singleton]; omega, ?_⟩ ?_
  ·have e1 : ps.take j0 ++ ([ps.getD j0 default] ++ ps.drop (j0 + 1)) = ps := by
    rw [List.singleton_append, ← drop_at' ps j0 default hj0, List.take_append_drop]
   have e2 : upd h.T k (some (TO.cont 5 (ps.map encSk))) = h.T := by
    funext q
    by_cases e : q = k
    ·rw [e, upd_same, hT]
    ·rw [upd_other _ _ e]
   have e3 : (ps.take j0).length = j0 := by rw [List.length_take]; omega
   rw [e1, e2, e3]; rfl
  rintro g _ ⟨j, Fl, M, hj, hF, hM, hlen, rfl⟩
  have hTq : ∀ X, upd h.T k (some (TO.cont 5 X)) k = some (.cont 5 X) := fun X => upd_same _ _ _
  have hcl : ((Fl ++ (M ++ ps.drop j)).map encSk).length = ps.length := by simp; omega
  (repeat (first | refine gO rfl ?_ | (refine gM zM21 fun K1 hK1 => ?_; simp only [go_sem, ↓reduceIte, reduceCtorEq, nA, nB, nC, nD, nE, nF] <;> and_intros <;> first | (apply hK1; clear hK1 K1) | (intros; first | omega | decide) | skip)))
  refine awp_cond (t := _) rfl (fun h1 => ?_) (fun h1 => ?_)
  ·simp only [decide_eq_true_eq] at h1
   have hjl : j < ps.length := by omega
   have hdj := drop_at' ps j default hjl
   have htj := take_at' ps j default hjl
   have hvm : ps.getD j default ∈ ps := by
    rw [List.getD_eq_getElem?_getD, List.getElem?_eq_getElem hjl]; exact List.getElem_mem _
   obtain ⟨v, hv⟩ : ∃ v, ps.getD j default = v := ⟨_, rfl⟩
   rw [hv] at hdj htj hvm
   have gx : ((Fl ++ (M ++ ps.drop j)).map encSk).getD j [] = encSk v := by
    rw [hdj, ← List.append_assoc, List.map_append, List.map_cons]
    have := getD_mid' ((Fl ++ M).map encSk) (encSk v) ((ps.drop (j + 1)).map encSk) []
    rwa [List.length_map, List.length_append, hlen] at this
   have hcc := fun T' => hc v hvm T'
   obtain ⟨m0, M1, rfl⟩ := List.exists_cons_of_ne_nil hM
   have gs : (((Fl ++ (m0 :: M1 ++ ps.drop j)).map encSk).set Fl.length (encSk v)) = (((Fl ++ [v]) ++ ((M1 ++ [v]) ++ ps.drop (j + 1))).map encSk) := by
    rw [hdj, List.map_append, List.cons_append, List.map_cons]
    have := set_mid' (Fl.map encSk) (encSk m0) (encSk v) ((M1 ++ v :: ps.drop (j + 1)).map encSk)
    rw [List.length_map] at this
    rw [this]; simp
   have hfl : Fl.length < ps.length := by simp at hlen; omega
   have gd : (((Fl ++ (m0 :: M1 ++ ps.drop j)).map encSk).getD Fl.length []) = encSk m0 := by
    rw [List.map_append, List.cons_append, List.map_cons]
    have := getD_mid' (Fl.map encSk) (encSk m0) ((M1 ++ ps.drop j).map encSk) []
    rwa [List.length_map] at this
   simp only [encSk] at gs gd
   generalize hct : (Fl ++ (m0 :: M1 ++ ps.drop j)).map encSk = ct at *
   (repeat (first | refine gO rfl ?_ | (refine gM zM21 fun K1 hK1 => ?_; simp only [go_sem, ↓reduceIte, reduceCtorEq, nA, nB, nC, nD, nE, nF, hTq, hcl, Int.toNat_natCast, gx, encSk] <;> and_intros <;> first | (apply hK1; clear hK1 K1) | (intros; first | omega | decide) | skip)))
   refine (hcc _).mono ?_; rintro _ hz ⟨rfl, hh⟩; apply hK1; clear hK1 K1; rw [hh]; clear hh hz
   cases hpv : pr v with
   | true =>
    (repeat (first | refine gO rfl ?_ | (refine gM zM21 fun K1 hK1 => ?_; simp only [go_sem, ↓reduceIte, reduceCtorEq, nA, nB, nC, nD, nE, nF] <;> and_intros <;> first | (apply hK1; clear hK1 K1) | (intros; first | omega | decide) | skip)))
    refine awp_cond (t := _) rfl (fun h9 => by cases h9) (fun _ => ?_)
    (repeat (first | refine gO rfl ?_ | (refine gM zM21 fun K1 hK1 => ?_; simp only [go_sem, ↓reduceIte, reduceCtorEq, nA, nB, nC, nD, nE, nF] <;> and_intros <;> first | (apply hK1; clear hK1 K1) | (intros; first | omega | decide) | skip)))
    refine ⟨g - 1, by omega, j + 1, Fl, m0 :: M1 ++ [v], by omega, by rw [htj, List.filter_append, ← hF]; simp [hpv], by simp, by simp at hlen ⊢; omega, ?_⟩
    rw [← hct, hdj]
    simp only [List.append_assoc, List.cons_append, List.nil_append]
    rfl
   | false =>
    (repeat (first | refine gO rfl ?_ | (refine gM zM21 fun K1 hK1 => ?_; simp only [go_sem, ↓reduceIte, reduceCtorEq, nA, nB, nC, nD, nE, nF] <;> and_intros <;> first | (apply hK1; clear hK1 K1) | (intros; first | omega | decide) | skip)))
    refine awp_cond (t := _) rfl (fun _ => ?_) (fun h9 => by cases h9)
    (repeat (first | refine gO rfl ?_ | (refine gM zM21 fun K1 hK1 => ?_; simp only [go_sem, ↓reduceIte, reduceCtorEq, nA, nB, nC, nD, nE, nF, hTq, hcl, Int.toNat_natCast, gd, upd_upd] <;> and_intros <;> first | (apply hK1; clear hK1 K1) | (intros; first | omega | decide) | skip)))
    refine ⟨g - 1, by omega, j + 1, Fl ++ [v], M1 ++ [v], by omega, by rw [htj, List.filter_append, ← hF]; simp [hpv], by simp, by simp at hlen ⊢; omega, ?_⟩
    simp only [List.drop_succ_cons, List.drop_zero, gs, List.length_append, List.length_singleton]
    rfl
  ·simp only [decide_eq_false_iff_not] at h1
   have hjl : j = ps.length := by omega
   subst hjl
   rw [List.take_length] at hF
   rw [List.drop_length, List.append_nil] at *
   clear h1 hj hc
   (repeat refine gO rfl ?_)
   have hml : (Fl ++ M).length = ps.length := by rw [List.length_append]; exact hlen
   have hMl := List.length_pos_iff.2 hM
   refine awp_seq ?_
   refine awp_AL ?_
   refine AL.cons rfl (Quiet.aop (q_move (.inl rfl)) ?_)
   refine AL.cons rfl (Quiet.aop (q_move (.inl rfl)) ?_)
   refine al_clear (z := 5) (k := k) (n := ps.length) (j := Fl.length) (xs := (Fl ++ M).map encSk) tyok rfl rfl rfl rfl rfl rfl rfl rfl (upd_same _ _ _) (by rw [List.length_map, hml]) (by omega) (by omega) rfl rfl (by decide) (show 38 < 42 by decide) ?_
   have hfin : ((Fl ++ M).map encSk).take ((Fl.length : Int)).toNat ++ List.replicate (ps.length - ((Fl.length : Int)).toNat) [AV.v (.string ⟨#[]⟩), AV.v (.int .i64 0), AV.v (.int .i64 0), AV.v (.int .i64 0), AV.v (.bool false)] = Fl.map encSk ++ List.replicate M.length [AV.v (.string ⟨#[]⟩), AV.v (.int .i64 0), AV.v (.int .i64 0), AV.v (.int .i64 0), AV.v (.bool false)] := by
    rw [Int.toNat_natCast, List.map_append, List.take_append_of_le_length (by rw [List.length_map]; exact Nat.le_refl _), List.take_of_length_le (by rw [List.length_map]; exact Nat.le_refl _)]
    congr 2
    omega
   refine awp_cut (rl false [0, 1, 4, 1, 36]) 0 (?_ : Awp _ _ _ _ ⟨((.arr 5 k ps.length) :: (jnk 4 ((.v (.int .i64 Fl.length)) :: (jnk 36 [])))), [], ⟨h.H, upd (upd h.T k (some (.cont 5 ((Fl ++ M).map encSk)))) k (some (.cont 5 (((Fl ++ M).map encSk).take ((Fl.length : Int)).toNat ++ List.replicate (ps.length - ((Fl.length : Int)).toNat) [AV.v (.string ⟨#[]⟩), AV.v (.int .i64 0), AV.v (.int .i64 0), AV.v (.int .i64 0), AV.v (.bool false)])))⟩⟩)
   rw [hfin, upd_upd]
   have hzl : (Fl.map encSk ++ List.replicate M.length [AV.v (.string ⟨#[]⟩), AV.v (.int .i64 0), AV.v (.int .i64 0), AV.v (.int .i64 0), AV.v (.bool false)]).length = ps.length := by simp; omega
   have htk : (Fl.map encSk ++ List.replicate M.length [AV.v (.string ⟨#[]⟩), AV.v (.int .i64 0), AV.v (.int .i64 0), AV.v (.int .i64 0), AV.v (.bool false)]).take Fl.length = Fl.map encSk := by
    rw [List.take_append_of_le_length (by rw [List.length_map]; exact Nat.le_refl _), List.take_of_length_le (by rw [List.length_map]; exact Nat.le_refl _)]
   generalize Fl.map encSk ++ List.replicate M.length [AV.v (.string ⟨#[]⟩), AV.v (.int .i64 0), AV.v (.int .i64 0), AV.v (.int .i64 0), AV.v (.bool false)] = Z at hzl htk ⊢
   have hTz : ∀ X, upd h.T k (some (TO.cont 5 X)) k = some (.cont 5 X) := fun X => upd_same _ _ _
   (repeat (first | refine gO rfl ?_ | (refine gM zM21 fun K1 hK1 => ?_; simp only [go_sem, ↓reduceIte, reduceCtorEq, nA, nB, nC, nD, nE, nF, hTz, hzl] <;> and_intros <;> first | (apply hK1; clear hK1 K1) | (intros; first | omega | decide) | skip)))
   ·trivial
   ·trivial
   intro q hq
   rw [Int.toNat_natCast, htk]
   refine hK1 _ ?_; clear hK1 K1
   have hqk : q ≠ k := by
    intro e
    rw [e, upd_same] at hq; cases hq
   rw [upd_other _ _ hqk] at hq
   (repeat (first | refine gO rfl ?_ | (refine gM zM21 fun K1 hK1 => ?_; simp only [go_sem, ↓reduceIte, reduceCtorEq, nA, nB, nC, nD, nE, nF] <;> and_intros <;> first | (apply hK1; clear hK1 K1) | (intros; first | omega | decide) | skip)))
   rw [← hF]
   simp only [Tryz.results70, go_sem, ↓reduceIte, reduceCtorEq, nA, nB, nC, nD, nE, nF]
   refine ⟨_, _, Weak.refl _, Hp.le.refl _, q, rfl, rfl, upd_same _ _ _, fun t ht hn => ?_⟩
   have htq : t ≠ q := fun e => hn (e ▸ hq)
   exact ⟨htq, (upd_other _ _ htq).trans (upd_other _ _ ht)⟩
abbrev zPBE : List Nat := [0, 1, 2, 3, 4, 5, 6, 7, 8, 9, 10, 11, 12, 13]
abbrev zPBP : List (Nat × List Nat × List Nat) := [(14, [], [15, 16])]
abbrev zPCE : List Nat := [0, 1, 2, 3, 4, 5, 6, 7, 8, 9, 10, 11, 12, 13, 14]
abbrev zPCP : List (Nat × List Nat × List Nat) := [(15, [], [16]), (17, [], [])]
attribute [go_sem] zPBE zPBP zPCE zPCP
def encVSk (x : Sk) : AV := .agg (encSk x)
theorem g_insS {f : Nat} {caps : List AV} (cf : Sk → Sk → Int) (k : Nat) (xs : List Sk) (h : Hp) (hT : h.T k = some (.cont 5 (xs.map encSk))) (hl : xs.length ≤ 1000)
  (hc : ∀ x ∈ xs, ∀ y ∈ xs, ∀ T', ACalls Tryz.prog f ([encVSk x, encVSk y] ++ caps) ⟨h.H, T'⟩ (fun r h' => r = .v (.int .i64 (cf x y)) ∧ h' = ⟨h.H, T'⟩)) :
  ACalls Tryz.prog 179 [.arr 5 k xs.length, .v (.int .i64 0), .v (.int .i64 xs.length), .fn f caps] h (fun r h' => r = .tup [] ∧ h' = ⟨h.H, upd h.T k (some (.cont 5 ((sortI cf xs).map encSk)))⟩) := by
 refine gE Tryz.func179 rfl (by kernel_rfl) 49 rfl fun c => ?_
 (repeat (first | refine gO rfl ?_ | ((first | refine gR ?_ | (with_reducible refine wM ?_ ?_) | ((with_reducible refine xS ?_); refine uD 4 zM22 zPBE zPBP 53 rfl (by kernel_rfl) ?_) | ((with_reducible refine xR ?_); refine uE 6 zM22 zPCE zPCP 53 rfl (by kernel_rfl) ?_)) <;> ((try with_reducible intro K1 hK1); simp only [go_sem, ↓reduceIte, reduceCtorEq, nA, nB, nC, nD, nE, nF] <;> and_intros <;> first | (apply hK1; clear hK1 K1) | (intros; first | omega | decide | (simp_all <;> omega)) | skip))))
 refine awp_loopC (rl false [0, 4, 4, 1, 44]) 0 (fun g s => ∃ i : Nat, 1 ≤ i ∧ g + i = xs.length + 1 ∧
  s = ⟨((.arr 5 k xs.length) :: (.v (.int .i64 0)) :: (.v (.int .i64 xs.length)) :: (.fn f caps) :: (jnk 4 ((.v (.int .i64 i)) :: (jnk 44 [])))), [], ⟨h.H, upd h.T k (some (.cont 5 (((insS cf (xs.take i)).reverse ++ xs.drop i).map encSk)))⟩⟩) xs.length
  ⟨1, by omega, by omega, ?_⟩ ?_
 ·have e1 : (insS cf (xs.take 1)).reverse ++ xs.drop 1 = xs := by cases xs <;> simp [insS, insR]
  have e2 : upd h.T k (some (TO.cont 5 (xs.map encSk))) = h.T := by
   funext q
   by_cases e : q = k
   ·rw [e, upd_same, hT]
   ·rw [upd_other _ _ e]
  rw [e1, e2]; rfl
 rintro g _ ⟨i, hi1, hi, rfl⟩
 (repeat (first | refine gO rfl ?_ | ((first | refine gR ?_ | (with_reducible refine wM ?_ ?_) | ((with_reducible refine xS ?_); refine uD 4 zM22 zPBE zPBP 53 rfl (by kernel_rfl) ?_) | ((with_reducible refine xR ?_); refine uE 6 zM22 zPCE zPCP 53 rfl (by kernel_rfl) ?_)) <;> ((try with_reducible intro K1 hK1); simp only [go_sem, ↓reduceIte, reduceCtorEq, nA, nB, nC, nD, nE, nF] <;> and_intros <;> first | (apply hK1; clear hK1 K1) | (intros; first | omega | decide | (simp_all <;> omega)) | skip))))
 refine awp_cond (t := _) rfl (fun h1 => ?_) (fun h1 => ?_)
 ·simp only [decide_eq_true_eq] at h1
  have hil : i < xs.length := by omega
  have hdr : xs.drop i = xs.getD i default :: xs.drop (i + 1) := drop_at' xs i default hil
  have htk : xs.take (i + 1) = xs.take i ++ [xs.getD i default] := take_at' xs i default hil
  have hxm : xs.getD i default ∈ xs := by
   rw [List.getD_eq_getElem?_getD, List.getElem?_eq_getElem hil]; exact List.getElem_mem _
  have hpl : (insS cf (xs.take i)).length = i := by rw [insS_len, List.length_take]; omega
  have hpm : ∀ z ∈ (insS cf (xs.take i)).reverse, z ∈ xs := fun z hz => List.mem_of_mem_take ((insS_perm cf (xs.take i)).mem_iff.1 (List.mem_reverse.1 hz))
  have hin : insS cf (xs.take (i + 1)) = insR cf (insS cf (xs.take i)) (xs.getD i default) := by rw [htk, insS_snoc]
  rw [hdr]
  generalize xs.getD i default = x at hxm hin ⊢
  generalize insS cf (xs.take i) = R at hpl hpm hin ⊢
  generalize hrs : xs.drop (i + 1) = rest
  clear hdr htk
  (repeat (first | refine gO rfl ?_ | ((first | refine gR ?_ | (with_reducible refine wM ?_ ?_) | ((with_reducible refine xS ?_); refine uD 4 zM22 zPBE zPBP 53 rfl (by kernel_rfl) ?_) | ((with_reducible refine xR ?_); refine uE 6 zM22 zPCE zPCP 53 rfl (by kernel_rfl) ?_)) <;> ((try with_reducible intro K1 hK1); simp only [go_sem, ↓reduceIte, reduceCtorEq, nA, nB, nC, nD, nE, nF] <;> and_intros <;> first | (apply hK1; clear hK1 K1) | (intros; first | omega | decide | (simp_all <;> omega)) | skip))))
  refine awp_loopC (rl false [0, 4, 4, 2, 43]) 0 (fun g2 s => ∃ (A B : List Sk), g2 = A.length ∧ insR cf R x = B.reverse ++ insR cf A.reverse x ∧ A.length + B.length = i ∧ (∀ z ∈ A, z ∈ xs) ∧
   s = ⟨((.arr 5 k xs.length) :: (.v (.int .i64 0)) :: (.v (.int .i64 xs.length)) :: (.fn f caps) :: (jnk 4 ((.v (.int .i64 i)) :: (.v (.int .i64 A.length)) :: (jnk 43 [])))), [], ⟨h.H, upd h.T k (some (.cont 5 ((A ++ x :: (B ++ rest)).map encSk)))⟩⟩) i
   ⟨R.reverse, [], by rw [List.length_reverse, hpl], by rw [List.reverse_reverse]; rfl, by rw [List.length_reverse, hpl]; rfl, hpm, by rw [List.length_reverse, hpl]; rfl⟩ ?_
  rintro g2 _ ⟨A, B, rfl, hR, hAB, hA, rfl⟩
  have hTq : ∀ X, upd h.T k (some (TO.cont 5 X)) k = some (.cont 5 X) := fun X => upd_same _ _ _
  have hcl : ((A ++ x :: (B ++ rest)).map encSk).length = xs.length := by
   have h9 := congrArg List.length hrs
   rw [List.length_drop] at h9
   simp; omega
  by_cases h0 : A.length = 0
  ·have hd0 : decide (0 < (A.length : Int)) = false := by simp [h0]
   have hA0 : A = [] := List.eq_nil_of_length_eq_zero h0
   clear hc
   (repeat (first | refine gO rfl ?_ | ((first | refine gR ?_ | (with_reducible refine wM ?_ ?_) | ((with_reducible refine xS ?_); refine uD 4 zM22 zPBE zPBP 53 rfl (by kernel_rfl) ?_) | ((with_reducible refine xR ?_); refine uE 6 zM22 zPCE zPCP 53 rfl (by kernel_rfl) ?_)) <;> ((try with_reducible intro K1 hK1); simp only [go_sem, ↓reduceIte, reduceCtorEq, nA, nB, nC, nD, nE, nF, hd0] <;> and_intros <;> first | (apply hK1; clear hK1 K1) | (intros; first | omega | decide | (simp_all <;> omega)) | skip))))
   refine ⟨.v (.bool false), rfl, hK1 _ ?_⟩; clear hK1 K1
   (repeat (first | refine gO rfl ?_ | ((first | refine gR ?_ | (with_reducible refine wM ?_ ?_) | ((with_reducible refine xS ?_); refine uD 4 zM22 zPBE zPBP 53 rfl (by kernel_rfl) ?_) | ((with_reducible refine xR ?_); refine uE 6 zM22 zPCE zPCP 53 rfl (by kernel_rfl) ?_)) <;> ((try with_reducible intro K1 hK1); simp only [go_sem, ↓reduceIte, reduceCtorEq, nA, nB, nC, nD, nE, nF, hd0] <;> and_intros <;> first | (apply hK1; clear hK1 K1) | (intros; first | omega | decide | (simp_all <;> omega)) | skip))))
   refine awp_cond (t := _) rfl (fun h9 => by cases h9) (fun _ => ?_)
   (repeat (first | refine gO rfl ?_ | ((first | refine gR ?_ | (with_reducible refine wM ?_ ?_) | ((with_reducible refine xS ?_); refine uD 4 zM22 zPBE zPBP 53 rfl (by kernel_rfl) ?_) | ((with_reducible refine xR ?_); refine uE 6 zM22 zPCE zPCP 53 rfl (by kernel_rfl) ?_)) <;> ((try with_reducible intro K1 hK1); simp only [go_sem, ↓reduceIte, reduceCtorEq, nA, nB, nC, nD, nE, nF] <;> and_intros <;> first | (apply hK1; clear hK1 K1) | (intros; first | omega | decide | (simp_all <;> omega)) | skip))))
   refine ⟨g - 1, by omega, i + 1, by omega, by omega, ?_⟩
   subst hA0
   have e3 : (insS cf (xs.take (i + 1))).reverse ++ xs.drop (i + 1) = x :: (B ++ rest) := by rw [hin, hR, hrs]; simp [insR]
   rw [e3]; rfl
  ·obtain ⟨A', y, rfl⟩ : ∃ A' y, A = A' ++ [y] := by
    rcases List.eq_nil_or_concat A with rfl | ⟨A', y, e⟩
    ·exact absurd rfl h0
    ·exact ⟨A', y, by rw [e, List.concat_eq_append]⟩
   have hd0 : decide (0 < ((A' ++ [y]).length : Int)) = true := by simp
   have hti : (((A' ++ [y]).length : Int) - 1).toNat = A'.length := by simp
   have hy : y ∈ xs := hA y (by simp)
   have gx : (((A' ++ [y]) ++ x :: (B ++ rest)).map encSk).getD (A' ++ [y]).length [] = encSk x := by
    rw [List.map_append, List.map_cons]
    have := getD_mid ((A' ++ [y]).map encSk) (encSk x) ((B ++ rest).map encSk) []
    rwa [List.length_map] at this
   have gy : (((A' ++ [y]) ++ x :: (B ++ rest)).map encSk).getD A'.length [] = encSk y := by
    rw [List.append_assoc, List.map_append, List.singleton_append, List.map_cons]
    have := getD_mid (A'.map encSk) (encSk y) ((x :: (B ++ rest)).map encSk) []
    rwa [List.length_map] at this
   have hcc := fun T' => hc x hxm y hy T'
   have hlt : (A' ++ [y]).length < xs.length := by omega
   have hlt2 : A'.length < xs.length := by simp at hlt; omega
   generalize hct : ((A' ++ [y]) ++ x :: (B ++ rest)).map encSk = ct at *
   (repeat (first | refine gO rfl ?_ | ((first | refine gR ?_ | (with_reducible refine wM ?_ ?_) | ((with_reducible refine xS ?_); refine uD 4 zM22 zPBE zPBP 53 rfl (by kernel_rfl) ?_) | ((with_reducible refine xR ?_); refine uE 6 zM22 zPCE zPCP 53 rfl (by kernel_rfl) ?_)) <;> ((try with_reducible intro K1 hK1); simp only [go_sem, ↓reduceIte, reduceCtorEq, nA, nB, nC, nD, nE, nF, hd0, hTq, hcl, Int.toNat_natCast, hti, gx, gy, encSk] <;> and_intros <;> first | (apply hK1; clear hK1 K1) | (intros; first | omega | decide) | skip))))
   rotate_left 1
   ·rintro ⟨⟩
   refine (hcc _).mono ?_; rintro _ hz ⟨rfl, hh⟩; refine ⟨rfl, hK1 _ ?_⟩; clear hK1 K1; rw [hh]; clear hh hz
   (repeat (first | refine gO rfl ?_ | ((first | refine gR ?_ | (with_reducible refine wM ?_ ?_) | ((with_reducible refine xS ?_); refine uD 4 zM22 zPBE zPBP 53 rfl (by kernel_rfl) ?_) | ((with_reducible refine xR ?_); refine uE 6 zM22 zPCE zPCP 53 rfl (by kernel_rfl) ?_)) <;> ((try with_reducible intro K1 hK1); simp only [go_sem, ↓reduceIte, reduceCtorEq, nA, nB, nC, nD, nE, nF, hd0] <;> and_intros <;> first | (apply hK1; clear hK1 K1) | (intros; first | omega | decide) | skip))))
   refine awp_cond (t := _) rfl (fun h9 => ?_) (fun h9 => ?_)
   ·have h8 : cf x y < 0 := by simpa using h9
    have hs9 : ((A' ++ [y]).length : Int) - 1 = A'.length := by simp
    have e4 : (ct.set (A' ++ [y]).length (encSk y)).set A'.length (encSk x) = (A' ++ x :: (y :: B ++ rest)).map encSk := by
     have h5 := set_mid ((A' ++ [y]).map encSk) (encSk x) (encSk y) ((B ++ rest).map encSk)
     have h6 := set_mid (A'.map encSk) (encSk y) (encSk x) ((encSk y) :: (B ++ rest).map encSk)
     rw [List.length_map] at h5 h6
     rw [← hct, List.map_append, List.map_cons, h5, List.map_append, List.append_assoc]
     rw [show [y].map encSk ++ encSk y :: (B ++ rest).map encSk = encSk y :: (encSk y :: (B ++ rest).map encSk) from rfl, h6]
     simp
    have g3 : (ct.set (A' ++ [y]).length (encSk y)).getD A'.length [] = encSk y := by
     have h5 := set_mid ((A' ++ [y]).map encSk) (encSk x) (encSk y) ((B ++ rest).map encSk)
     have h6 := getD_mid (A'.map encSk) (encSk y) ((encSk y) :: (B ++ rest).map encSk) []
     rw [List.length_map] at h5 h6
     rw [← hct, List.map_append, List.map_cons, h5, List.map_append, List.append_assoc]
     exact h6
    have hcl2 : (ct.set (A' ++ [y]).length (encSk y)).length = xs.length := by rw [List.length_set, hcl]
    simp only [encSk] at e4 g3 hcl2
    (repeat (first | refine gO rfl ?_ | ((first | refine gR ?_ | (with_reducible refine wM ?_ ?_) | ((with_reducible refine xS ?_); refine uD 4 zM22 zPBE zPBP 53 rfl (by kernel_rfl) ?_) | ((with_reducible refine xR ?_); refine uE 6 zM22 zPCE zPCP 53 rfl (by kernel_rfl) ?_)) <;> ((try with_reducible intro K1 hK1); simp only [go_sem, ↓reduceIte, reduceCtorEq, nA, nB, nC, nD, nE, nF, hTq, hcl, hcl2, Int.toNat_natCast, hti, gx, gy, encSk, upd_upd] <;> and_intros <;> first | (apply hK1; clear hK1 K1) | (intros; first | omega | decide) | skip))))
    refine ⟨A'.length, by simp, A', y :: B, rfl, ?_, ?_, fun z hz => hA z (List.mem_append_left _ hz), ?_⟩
    ·rw [hR, List.reverse_append, List.reverse_singleton, List.singleton_append, insR, if_pos h8]; simp
    ·simp at hAB ⊢; omega
    ·simp only [g3, List.drop_succ_cons, List.drop_zero, e4, hs9]
     rfl
   ·have h8 : ¬ cf x y < 0 := by simpa using h9
    (repeat (first | refine gO rfl ?_ | ((first | refine gR ?_ | (with_reducible refine wM ?_ ?_) | ((with_reducible refine xS ?_); refine uD 4 zM22 zPBE zPBP 53 rfl (by kernel_rfl) ?_) | ((with_reducible refine xR ?_); refine uE 6 zM22 zPCE zPCP 53 rfl (by kernel_rfl) ?_)) <;> ((try with_reducible intro K1 hK1); simp only [go_sem, ↓reduceIte, reduceCtorEq, nA, nB, nC, nD, nE, nF] <;> and_intros <;> first | (apply hK1; clear hK1 K1) | (intros; first | omega | decide) | skip))))
    refine ⟨g - 1, by omega, i + 1, by omega, by omega, ?_⟩
    have e3 : (insS cf (xs.take (i + 1))).reverse ++ xs.drop (i + 1) = (A' ++ [y]) ++ x :: (B ++ rest) := by rw [hin, hR, hrs]; simp [insR, h8]
    rw [e3, hct]; rfl
 ·simp only [decide_eq_false_iff_not] at h1
  have e1 : (insS cf (xs.take i)).reverse ++ xs.drop i = sortI cf xs := by
   rw [List.drop_eq_nil_of_le (by omega), List.take_of_length_le (by omega), List.append_nil]; rfl
  rw [e1]
  (repeat (first | refine gO rfl ?_ | ((first | refine gR ?_ | (with_reducible refine wM ?_ ?_) | ((with_reducible refine xS ?_); refine uD 4 zM22 zPBE zPBP 53 rfl (by kernel_rfl) ?_) | ((with_reducible refine xR ?_); refine uE 6 zM22 zPCE zPCP 53 rfl (by kernel_rfl) ?_)) <;> ((try with_reducible intro K1 hK1); simp only [go_sem, ↓reduceIte, reduceCtorEq, nA, nB, nC, nD, nE, nF] <;> and_intros <;> first | (apply hK1; clear hK1 K1) | (intros; first | omega | decide | (simp_all <;> omega)) | skip))))
  simp only [Tryz.results179, go_sem, ↓reduceIte, reduceCtorEq, nA, nB, nC, nD, nE, nF]
  exact ⟨_, _, Weak.refl _, Hp.le.refl _, rfl, rfl⟩
theorem g_stbS {f : Nat} {caps : List AV} (cf : Sk → Sk → Int) (k : Nat) (xs : List Sk) (h : Hp) (hT : h.T k = some (.cont 5 (xs.map encSk))) (hl : xs.length ≤ 12)
  (hc : ∀ x ∈ xs, ∀ y ∈ xs, ∀ T', ACalls Tryz.prog f ([encVSk x, encVSk y] ++ caps) ⟨h.H, T'⟩ (fun r h' => r = .v (.int .i64 (cf x y)) ∧ h' = ⟨h.H, T'⟩)) :
  ACalls Tryz.prog 127 [.arr 5 k xs.length, .v (.int .i64 xs.length), .fn f caps] h (fun r h' => r = .tup [] ∧ h' = ⟨h.H, upd h.T k (some (.cont 5 ((sortI cf xs).map encSk)))⟩) := by
 have hi := g_insS cf k xs h hT (by omega) hc
 have d1 : decide ((20 : Int) ≤ (xs.length : Int)) = false := decide_eq_false (by omega)
 have d2 : decide ((20 : Int) < (xs.length : Int)) = false := decide_eq_false (by omega)
 clear hc
 refine gE Tryz.func127 rfl (by kernel_rfl) 60 rfl fun c => ?_
 (repeat (first | refine gO rfl ?_ | (refine gR fun K1 hK1 => ?_; simp only [go_sem, ↓reduceIte, reduceCtorEq, nA, nB, nC, nD, nE, nF] <;> and_intros <;> first | (apply hK1; clear hK1 K1) | (intros; first | omega | decide | (simp_all <;> omega)) | skip)))
 refine awp_loopC (rl false [0, 3, 3, 3, 54]) 0 (fun g s => s = ⟨((.arr 5 k xs.length) :: (.v (.int .i64 xs.length)) :: (.fn f caps) :: (jnk 3 ((.v (.int .i64 20)) :: (.v (.int .i64 0)) :: (.v (.int .i64 20)) :: (jnk 54 [])))), [], h⟩) 1 rfl ?_
 rintro g _ rfl
 (repeat (first | refine gO rfl ?_ | (refine gR fun K1 hK1 => ?_; simp only [go_sem, ↓reduceIte, reduceCtorEq, nA, nB, nC, nD, nE, nF, d1] <;> and_intros <;> first | (apply hK1; clear hK1 K1) | (intros; first | omega | decide) | skip)))
 refine awp_cond (t := _) rfl (fun h9 => by cases h9) (fun _ => ?_)
 (repeat (first | refine gO rfl ?_ | (refine gR fun K1 hK1 => ?_; simp only [go_sem, ↓reduceIte, reduceCtorEq, nA, nB, nC, nD, nE, nF] <;> and_intros <;> first | (apply hK1; clear hK1 K1) | (intros; first | omega | decide) | skip)))
 refine hi.mono ?_
 rintro _ h2 ⟨rfl, rfl⟩
 refine hK1 _ ?_; clear hK1 K1
 (repeat (first | refine gO rfl ?_ | (refine gR fun K1 hK1 => ?_; simp only [go_sem, ↓reduceIte, reduceCtorEq, nA, nB, nC, nD, nE, nF] <;> and_intros <;> first | (apply hK1; clear hK1 K1) | (intros; first | omega | decide) | skip)))
 refine awp_loopC (rl false [0, 3, 3, 3, 54]) 0 (fun g s => s = ⟨((.arr 5 k xs.length) :: (.v (.int .i64 xs.length)) :: (.fn f caps) :: (jnk 3 ((.v (.int .i64 20)) :: (.v (.int .i64 0)) :: (.v (.int .i64 20)) :: (jnk 54 [])))), [], ⟨h.H, upd h.T k (some (.cont 5 ((sortI cf xs).map encSk)))⟩⟩) 1 rfl ?_
 rintro g _ rfl
 (repeat (first | refine gO rfl ?_ | (refine gR fun K1 hK1 => ?_; simp only [go_sem, ↓reduceIte, reduceCtorEq, nA, nB, nC, nD, nE, nF, d2] <;> and_intros <;> first | (apply hK1; clear hK1 K1) | (intros; first | omega | decide) | skip)))
 refine awp_cond (t := _) rfl (fun h9 => by cases h9) (fun _ => ?_)
 (repeat (first | refine gO rfl ?_ | (refine gR fun K1 hK1 => ?_; simp only [go_sem, ↓reduceIte, reduceCtorEq, nA, nB, nC, nD, nE, nF] <;> and_intros <;> first | (apply hK1; clear hK1 K1) | (intros; first | omega | decide) | skip)))
 simp only [Tryz.results127, go_sem, ↓reduceIte, reduceCtorEq, nA, nB, nC, nD, nE, nF]
 exact ⟨_, _, Weak.refl _, Hp.le.refl _, rfl, rfl⟩
theorem g_srtS {f : Nat} {caps : List AV} (cf : Sk → Sk → Int) (k : Nat) (xs : List Sk) (h : Hp) (hT : h.T k = some (.cont 5 (xs.map encSk))) (hl : xs.length ≤ 12)
  (hc : ∀ x ∈ xs, ∀ y ∈ xs, ∀ T', ACalls Tryz.prog f ([encVSk x, encVSk y] ++ caps) ⟨h.H, T'⟩ (fun r h' => r = .v (.int .i64 (cf x y)) ∧ h' = ⟨h.H, T'⟩)) :
  ACalls Tryz.prog 72 [.arr 5 k xs.length, .fn f caps] h (fun r h' => r = .tup [] ∧ h' = ⟨h.H, upd h.T k (some (.cont 5 ((sortI cf xs).map encSk)))⟩) := by
 have hp := g_stbS cf k xs h hT hl hc
 clear hc
 refine gE Tryz.func72 rfl (by kernel_rfl) 7 rfl fun c => ?_
 (repeat (first | refine gO rfl ?_ | (refine gR fun K1 hK1 => ?_; simp only [go_sem, ↓reduceIte, reduceCtorEq, nA, nB, nC, nD, nE, nF] <;> and_intros <;> first | (apply hK1; clear hK1 K1) | (intros; first | omega | decide) | skip)))
 refine hp.mono ?_
 rintro _ h2 ⟨rfl, rfl⟩
 refine hK1 _ ?_; clear hK1 K1
 (repeat (first | refine gO rfl ?_ | (refine gR fun K1 hK1 => ?_; simp only [go_sem, ↓reduceIte, reduceCtorEq, nA, nB, nC, nD, nE, nF] <;> and_intros <;> first | (apply hK1; clear hK1 K1) | (intros; first | omega | decide) | skip)))
 simp only [Tryz.results72, go_sem, ↓reduceIte, reduceCtorEq, nA, nB, nC, nD, nE, nF]
 exact ⟨_, _, Weak.refl _, Hp.le.refl _, rfl, rfl⟩
def idxN (pr : ByteArray → Bool) (ps : List ByteArray) : Int := match ps.findIdx? pr with
 | some j => j
 | none => -1
theorem idxN_at {pr : ByteArray → Bool} {ps : List ByteArray} {j : Nat} (hj : j < ps.length) (hp : pr (ps.getD j default) = true) (hn : ∀ i, i < j → pr (ps.getD i default) = false) : idxN pr ps = j := by
 have e : ps.findIdx? pr = some j := by
  rw [List.findIdx?_eq_some_iff_getElem]
  refine ⟨hj, ?_, fun i hi => ?_⟩
  ·rwa [List.getD_eq_getElem?_getD, List.getElem?_eq_getElem hj] at hp
  ·have h9 := hn i hi
   rw [List.getD_eq_getElem?_getD, List.getElem?_eq_getElem (by omega)] at h9
   simpa using h9
 rw [idxN, e]
theorem idxN_no {pr : ByteArray → Bool} {ps : List ByteArray} (hn : ∀ i, i < ps.length → pr (ps.getD i default) = false) : idxN pr ps = -1 := by
 have e : ps.findIdx? pr = none := by
  rw [List.findIdx?_eq_none_iff]
  intro x hx
  obtain ⟨i, hi, rfl⟩ := List.getElem_of_mem hx
  have h9 := hn i hi
  rwa [List.getD_eq_getElem?_getD, List.getElem?_eq_getElem hi] at h9
 rw [idxN, e]
theorem g_idxN {f : Nat} {caps : List AV} (pr : ByteArray → Bool) (k : Nat) (ps : List ByteArray) (h : Hp) (hT : h.T k = some (.cont 1 (ps.map encS))) (hl : ps.length ≤ 100000)
  (hc : ∀ p ∈ ps, ACalls Tryz.prog f ([.v (.string p)] ++ caps) h (fun r h' => r = .v (.bool (pr p)) ∧ h' = h)) :
  ACalls Tryz.prog 122 [.arr 1 k ps.length, .fn f caps] h (fun r h' => r = .v (.int .i64 (idxN pr ps)) ∧ h' = h) := by
 have hml : (ps.map encS).length = ps.length := List.length_map _
 refine gE Tryz.func122 rfl (by kernel_rfl) 17 rfl fun c => ?_
 (repeat (first | refine gO rfl ?_ | (refine gR fun K1 hK1 => ?_; simp only [go_sem, ↓reduceIte, reduceCtorEq, nA, nB, nC, nD, nE, nF] <;> and_intros <;> first | (apply hK1; clear hK1 K1) | (intros; first | omega | decide | (simp_all <;> omega)) | skip)))
 refine awp_loopC (rl false [0, 2, 5, 2, 10]) 0 (fun g s => ∃ j : Nat, g + j = ps.length ∧ (∀ i, i < j → pr (ps.getD i default) = false) ∧
  s = ⟨((.arr 1 k ps.length) :: (.fn f caps) :: (jnk 5 ((.v (.int .i64 ps.length)) :: (.v (.int .i64 j)) :: (jnk 10 [])))), [], h⟩) ps.length ⟨0, by omega, fun i hi => by omega, rfl⟩ ?_
 rintro g _ ⟨j, hj, hn, rfl⟩
 (repeat (first | refine gO rfl ?_ | (refine gR fun K1 hK1 => ?_; simp only [go_sem, ↓reduceIte, reduceCtorEq, nA, nB, nC, nD, nE, nF] <;> and_intros <;> first | (apply hK1; clear hK1 K1) | (intros; first | omega | decide) | skip)))
 refine awp_cond (t := _) rfl (fun h1 => ?_) (fun h1 => ?_)
 ·simp only [decide_eq_true_eq] at h1
  have hjl : j < ps.length := by omega
  have gx : (ps.map encS).getD j [] = encS (ps.getD j default) := getD_enc encS ps j default hjl
  have hcc := hc (ps.getD j default) (by rw [List.getD_eq_getElem?_getD, List.getElem?_eq_getElem hjl]; exact List.getElem_mem _)
  obtain ⟨p, hp⟩ : ∃ p, ps.getD j default = p := ⟨_, rfl⟩
  rw [hp] at gx hcc
  (repeat (first | refine gO rfl ?_ | (refine gR fun K1 hK1 => ?_; simp only [go_sem, ↓reduceIte, reduceCtorEq, nA, nB, nC, nD, nE, nF, hT, hml, Int.toNat_natCast, gx, encS] <;> and_intros <;> first | (apply hK1; clear hK1 K1) | (intros; first | omega | decide) | skip)))
  refine hcc.mono ?_; rintro _ hz ⟨rfl, hh⟩; apply hK1; clear hK1 K1; rw [hh]; clear hh hz
  cases hb : pr p with
  | true =>
   (repeat (first | refine gO rfl ?_ | (refine gR fun K1 hK1 => ?_; simp only [go_sem, ↓reduceIte, reduceCtorEq, nA, nB, nC, nD, nE, nF] <;> and_intros <;> first | (apply hK1; clear hK1 K1) | (intros; first | omega | decide) | skip)))
   refine awp_cond (t := _) rfl (fun _ => ?_) (fun h9 => by cases h9)
   (repeat (first | refine gO rfl ?_ | (refine gR fun K1 hK1 => ?_; simp only [go_sem, ↓reduceIte, reduceCtorEq, nA, nB, nC, nD, nE, nF] <;> and_intros <;> first | (apply hK1; clear hK1 K1) | (intros; first | omega | decide) | skip)))
   simp only [Tryz.results122, go_sem, ↓reduceIte, reduceCtorEq, nA, nB, nC, nD, nE, nF]
   exact ⟨_, _, Weak.refl _, Hp.le.refl _, by rw [idxN_at hjl (by rw [hp]; exact hb) hn], rfl⟩
  | false =>
   (repeat (first | refine gO rfl ?_ | (refine gR fun K1 hK1 => ?_; simp only [go_sem, ↓reduceIte, reduceCtorEq, nA, nB, nC, nD, nE, nF] <;> and_intros <;> first | (apply hK1; clear hK1 K1) | (intros; first | omega | decide) | skip)))
   refine awp_cond (t := _) rfl (fun h9 => by cases h9) (fun _ => ?_)
   (repeat (first | refine gO rfl ?_ | (refine gR fun K1 hK1 => ?_; simp only [go_sem, ↓reduceIte, reduceCtorEq, nA, nB, nC, nD, nE, nF] <;> and_intros <;> first | (apply hK1; clear hK1 K1) | (intros; first | omega | decide) | skip)))
   refine ⟨g - 1, by omega, j + 1, by omega, fun i hi => ?_, rfl⟩
   rcases Nat.lt_succ_iff_lt_or_eq.1 hi with h9 | rfl
   ·exact hn i h9
   ·rw [hp]; exact hb
 ·simp only [decide_eq_false_iff_not] at h1
  (repeat (first | refine gO rfl ?_ | (refine gR fun K1 hK1 => ?_; simp only [go_sem, ↓reduceIte, reduceCtorEq, nA, nB, nC, nD, nE, nF] <;> and_intros <;> first | (apply hK1; clear hK1 K1) | (intros; first | omega | decide) | skip)))
  simp only [Tryz.results122, go_sem, ↓reduceIte, reduceCtorEq, nA, nB, nC, nD, nE, nF]
  exact ⟨_, _, Weak.refl _, Hp.le.refl _, by rw [idxN_no (fun i hi => hn i (by omega))], rfl⟩
theorem idxN_cases (pr : ByteArray → Bool) (ps : List ByteArray) : ((∀ p ∈ ps, pr p = false) ∧ idxN pr ps = -1) ∨ ∃ j, j < ps.length ∧ idxN pr ps = j ∧ pr (ps.getD j default) = true ∧ ∀ i, i < j → pr (ps.getD i default) = false := by
 unfold idxN
 cases e : ps.findIdx? pr with
 | none =>
  rw [List.findIdx?_eq_none_iff] at e
  exact .inl ⟨e, rfl⟩
 | some j =>
  rw [List.findIdx?_eq_some_iff_getElem] at e
  obtain ⟨hj, h1, h2⟩ := e
  refine .inr ⟨j, hj, rfl, ?_, fun i hi => ?_⟩
  ·rw [List.getD_eq_getElem?_getD, List.getElem?_eq_getElem hj]; exact h1
  ·have := h2 i hi
   rw [List.getD_eq_getElem?_getD, List.getElem?_eq_getElem (by omega)]
   simpa using this
theorem g_delN {f : Nat} {caps : List AV} (pr : ByteArray → Bool) (k : Nat) (ps : List ByteArray) (h : Hp) (hT : h.T k = some (.cont 1 (ps.map encS))) (hl : ps.length ≤ 100000)
  (hc : ∀ p ∈ ps, ∀ T', ACalls Tryz.prog f ([.v (.string p)] ++ caps) ⟨h.H, T'⟩ (fun r h' => r = .v (.bool (pr p)) ∧ h' = ⟨h.H, T'⟩)) :
  ACalls Tryz.prog 66 [.arr 1 k ps.length, .fn f caps] h (fun r h' => ∃ q, r = .arr 1 q (ps.filter fun p => !pr p).length ∧ h'.H = h.H ∧ h'.T q = some (.cont 1 ((ps.filter fun p => !pr p).map encS)) ∧ ∀ t, t ≠ k → h.T t ≠ none → t ≠ q ∧ h'.T t = h.T t) := by
 have hix := g_idxN pr k ps h hT hl (fun p hp => hc p hp h.T)
 refine gE Tryz.func66 rfl (by kernel_rfl) 40 rfl fun c => ?_
 (repeat (first | refine gO rfl ?_ | (refine gM zM23 fun K1 hK1 => ?_; simp only [go_sem, ↓reduceIte, reduceCtorEq, nA, nB, nC, nD, nE, nF] <;> and_intros <;> first | (apply hK1; clear hK1 K1) | (intros; first | omega | decide | (simp_all <;> omega)) | skip)))
 refine hix.mono ?_; rintro _ hz ⟨rfl, hh⟩; apply hK1; clear hK1 K1; rw [hh]; clear hh hz
 clear hix
 rcases idxN_cases pr ps with ⟨hno, e⟩ | ⟨j0, hj0, e, hp0, hn0⟩
 ·rw [e]
  have ef : ps.filter (fun p => !pr p) = ps := List.filter_eq_self.2 fun p hp => by simp [hno p hp]
  rw [ef]
  have hb : ((-1 : Int) == -1) = true := rfl
  clear hc
  (repeat (first | refine gO rfl ?_ | (refine gM zM23 fun K1 hK1 => ?_; simp only [go_sem, ↓reduceIte, reduceCtorEq, nA, nB, nC, nD, nE, nF, hb] <;> and_intros <;> first | (apply hK1; clear hK1 K1) | (intros; first | omega | decide) | skip)))
  refine awp_cond (t := _) rfl (fun _ => ?_) (fun h9 => by cases h9)
  (repeat (first | refine gO rfl ?_ | (refine gM zM23 fun K1 hK1 => ?_; simp only [go_sem, ↓reduceIte, reduceCtorEq, nA, nB, nC, nD, nE, nF] <;> and_intros <;> first | (apply hK1; clear hK1 K1) | (intros; first | omega | decide) | skip)))
  simp only [Tryz.results66, go_sem, ↓reduceIte, reduceCtorEq, nA, nB, nC, nD, nE, nF]
  exact ⟨_, _, Weak.refl _, Hp.le.refl _, k, rfl, rfl, hT, fun t ht _ => ⟨ht, rfl⟩⟩
 ·rw [e]
  have hb : ((j0 : Int) == -1) = false := by
   rw [beq_eq_false_iff_ne]; omega
  (repeat (first | refine gO rfl ?_ | (refine gM zM23 fun K1 hK1 => ?_; simp only [go_sem, ↓reduceIte, reduceCtorEq, nA, nB, nC, nD, nE, nF, hb] <;> and_intros <;> first | (apply hK1; clear hK1 K1) | (intros; first | omega | decide) | skip)))
  refine awp_cond (t := _) rfl (fun h9 => by cases h9) (fun _ => ?_)
  (repeat (first | refine gO rfl ?_ | (refine gM zM23 fun K1 hK1 => ?_; simp only [go_sem, ↓reduceIte, reduceCtorEq, nA, nB, nC, nD, nE, nF] <;> and_intros <;> first | (apply hK1; clear hK1 K1) | (intros; first | omega | decide) | skip)))
  have hT0 : (ps.take j0).filter (fun p => !pr p) = ps.take j0 := List.filter_eq_self.2 fun p hp => by
   obtain ⟨i, hi, rfl⟩ := List.getElem_of_mem hp
   rw [List.length_take] at hi
   have h9 := hn0 i (by omega)
   rw [List.getD_eq_getElem?_getD, List.getElem?_eq_getElem (by omega)] at h9
   rw [List.getElem_take]
   simpa using h9
  refine awp_loopC (rl false [0, 2, 3, 2, 35]) 0 (fun g s => ∃ (j : Nat) (Fl M : List ByteArray), g + j = ps.length ∧ Fl = (ps.take j).filter (fun p => !pr p) ∧ M ≠ [] ∧ Fl.length + M.length = j ∧
   s = ⟨((.arr 1 k ps.length) :: (.fn f caps) :: (jnk 3 ((.v (.int .i64 Fl.length)) :: (.v (.int .i64 j)) :: (jnk 35 [])))), [], ⟨h.H, upd h.T k (some (.cont 1 ((Fl ++ (M ++ ps.drop j)).map encS)))⟩⟩) (ps.length - (j0 + 1))
   ⟨j0 + 1, ps.take j0, [ps.getD j0 default], by omega, by rw [take_at' ps j0 default hj0, List.filter_append, hT0, List.filter_cons_of_neg (p := fun p => !pr p) (show ¬ (!pr (ps.getD j0 default)) = true by rw [hp0]; decide)]; simp, by simp, by rw [List.length_take, List.length_singleton]; omega, ?_⟩ ?_
  ·have e1 : ps.take j0 ++ ([ps.getD j0 default] ++ ps.drop (j0 + 1)) = ps := by
    rw [List.singleton_append, ← drop_at' ps j0 default hj0, List.take_append_drop]
   have e2 : upd h.T k (some (TO.cont 1 (ps.map encS))) = h.T := by
    funext q
    by_cases e : q = k
    ·rw [e, upd_same, hT]
    ·rw [upd_other _ _ e]
   have e3 : (ps.take j0).length = j0 := by rw [List.length_take]; omega
   rw [e1, e2, e3]; rfl
  rintro g _ ⟨j, Fl, M, hj, hF, hM, hlen, rfl⟩
  have hTq : ∀ X, upd h.T k (some (TO.cont 1 X)) k = some (.cont 1 X) := fun X => upd_same _ _ _
  have hcl : ((Fl ++ (M ++ ps.drop j)).map encS).length = ps.length := by simp; omega
  (repeat (first | refine gO rfl ?_ | (refine gM zM23 fun K1 hK1 => ?_; simp only [go_sem, ↓reduceIte, reduceCtorEq, nA, nB, nC, nD, nE, nF] <;> and_intros <;> first | (apply hK1; clear hK1 K1) | (intros; first | omega | decide) | skip)))
  refine awp_cond (t := _) rfl (fun h1 => ?_) (fun h1 => ?_)
  ·simp only [decide_eq_true_eq] at h1
   have hjl : j < ps.length := by omega
   have hdj := drop_at' ps j default hjl
   have htj := take_at' ps j default hjl
   have hvm : ps.getD j default ∈ ps := by
    rw [List.getD_eq_getElem?_getD, List.getElem?_eq_getElem hjl]; exact List.getElem_mem _
   obtain ⟨v, hv⟩ : ∃ v, ps.getD j default = v := ⟨_, rfl⟩
   rw [hv] at hdj htj hvm
   have gx : ((Fl ++ (M ++ ps.drop j)).map encS).getD j [] = encS v := by
    rw [hdj, ← List.append_assoc, List.map_append, List.map_cons]
    have := getD_mid' ((Fl ++ M).map encS) (encS v) ((ps.drop (j + 1)).map encS) []
    rwa [List.length_map, List.length_append, hlen] at this
   have hcc := fun T' => hc v hvm T'
   obtain ⟨m0, M1, rfl⟩ := List.exists_cons_of_ne_nil hM
   have gs : (((Fl ++ (m0 :: M1 ++ ps.drop j)).map encS).set Fl.length (encS v)) = (((Fl ++ [v]) ++ ((M1 ++ [v]) ++ ps.drop (j + 1))).map encS) := by
    rw [hdj, List.map_append, List.cons_append, List.map_cons]
    have := set_mid' (Fl.map encS) (encS m0) (encS v) ((M1 ++ v :: ps.drop (j + 1)).map encS)
    rw [List.length_map] at this
    rw [this]; simp
   have hfl : Fl.length < ps.length := by simp at hlen; omega
   have gd : (((Fl ++ (m0 :: M1 ++ ps.drop j)).map encS).getD Fl.length []) = encS m0 := by
    rw [List.map_append, List.cons_append, List.map_cons]
    have := getD_mid' (Fl.map encS) (encS m0) ((M1 ++ ps.drop j).map encS) []
    rwa [List.length_map] at this
   simp only [encS] at gs gd
   generalize hct : (Fl ++ (m0 :: M1 ++ ps.drop j)).map encS = ct at *
   (repeat (first | refine gO rfl ?_ | (refine gM zM23 fun K1 hK1 => ?_; simp only [go_sem, ↓reduceIte, reduceCtorEq, nA, nB, nC, nD, nE, nF, hTq, hcl, Int.toNat_natCast, gx, encS] <;> and_intros <;> first | (apply hK1; clear hK1 K1) | (intros; first | omega | decide) | skip)))
   refine (hcc _).mono ?_; rintro _ hz ⟨rfl, hh⟩; apply hK1; clear hK1 K1; rw [hh]; clear hh hz
   cases hpv : pr v with
   | true =>
    (repeat (first | refine gO rfl ?_ | (refine gM zM23 fun K1 hK1 => ?_; simp only [go_sem, ↓reduceIte, reduceCtorEq, nA, nB, nC, nD, nE, nF] <;> and_intros <;> first | (apply hK1; clear hK1 K1) | (intros; first | omega | decide) | skip)))
    refine awp_cond (t := _) rfl (fun h9 => by cases h9) (fun _ => ?_)
    (repeat (first | refine gO rfl ?_ | (refine gM zM23 fun K1 hK1 => ?_; simp only [go_sem, ↓reduceIte, reduceCtorEq, nA, nB, nC, nD, nE, nF] <;> and_intros <;> first | (apply hK1; clear hK1 K1) | (intros; first | omega | decide) | skip)))
    refine ⟨g - 1, by omega, j + 1, Fl, m0 :: M1 ++ [v], by omega, by rw [htj, List.filter_append, ← hF]; simp [hpv], by simp, by simp at hlen ⊢; omega, ?_⟩
    rw [← hct, hdj]
    simp only [List.append_assoc, List.cons_append, List.nil_append]
    rfl
   | false =>
    (repeat (first | refine gO rfl ?_ | (refine gM zM23 fun K1 hK1 => ?_; simp only [go_sem, ↓reduceIte, reduceCtorEq, nA, nB, nC, nD, nE, nF] <;> and_intros <;> first | (apply hK1; clear hK1 K1) | (intros; first | omega | decide) | skip)))
    refine awp_cond (t := _) rfl (fun _ => ?_) (fun h9 => by cases h9)
    (repeat (first | refine gO rfl ?_ | (refine gM zM23 fun K1 hK1 => ?_; simp only [go_sem, ↓reduceIte, reduceCtorEq, nA, nB, nC, nD, nE, nF, hTq, hcl, Int.toNat_natCast, gd, upd_upd] <;> and_intros <;> first | (apply hK1; clear hK1 K1) | (intros; first | omega | decide) | skip)))
    refine ⟨g - 1, by omega, j + 1, Fl ++ [v], M1 ++ [v], by omega, by rw [htj, List.filter_append, ← hF]; simp [hpv], by simp, by simp at hlen ⊢; omega, ?_⟩
    simp only [List.drop_succ_cons, List.drop_zero, gs, List.length_append, List.length_singleton]
    rfl
  ·simp only [decide_eq_false_iff_not] at h1
   have hjl : j = ps.length := by omega
   subst hjl
   rw [List.take_length] at hF
   rw [List.drop_length, List.append_nil] at *
   clear h1 hj hc
   (repeat refine gO rfl ?_)
   have hml : (Fl ++ M).length = ps.length := by rw [List.length_append]; exact hlen
   have hMl := List.length_pos_iff.2 hM
   refine awp_seq ?_
   refine awp_AL ?_
   refine AL.cons rfl (Quiet.aop (q_move (.inl rfl)) ?_)
   refine AL.cons rfl (Quiet.aop (q_move (.inl rfl)) ?_)
   refine al_clear (z := 1) (k := k) (n := ps.length) (j := Fl.length) (xs := (Fl ++ M).map encS) tyok rfl rfl rfl rfl rfl rfl rfl rfl (upd_same _ _ _) (by rw [List.length_map, hml]) (by omega) (by omega) rfl rfl (by decide) (show 38 < 42 by decide) ?_
   have hfin : ((Fl ++ M).map encS).take ((Fl.length : Int)).toNat ++ List.replicate (ps.length - ((Fl.length : Int)).toNat) [AV.v (.string ⟨#[]⟩)] = Fl.map encS ++ List.replicate M.length [AV.v (.string ⟨#[]⟩)] := by
    rw [Int.toNat_natCast, List.map_append, List.take_append_of_le_length (by rw [List.length_map]; exact Nat.le_refl _), List.take_of_length_le (by rw [List.length_map]; exact Nat.le_refl _)]
    congr 2
    omega
   refine awp_cut (rl false [0, 1, 4, 1, 36]) 0 (?_ : Awp _ _ _ _ ⟨((.arr 1 k ps.length) :: (jnk 4 ((.v (.int .i64 Fl.length)) :: (jnk 36 [])))), [], ⟨h.H, upd (upd h.T k (some (.cont 1 ((Fl ++ M).map encS)))) k (some (.cont 1 (((Fl ++ M).map encS).take ((Fl.length : Int)).toNat ++ List.replicate (ps.length - ((Fl.length : Int)).toNat) [AV.v (.string ⟨#[]⟩)])))⟩⟩)
   rw [hfin, upd_upd]
   have hzl : (Fl.map encS ++ List.replicate M.length [AV.v (.string ⟨#[]⟩)]).length = ps.length := by simp; omega
   have htk : (Fl.map encS ++ List.replicate M.length [AV.v (.string ⟨#[]⟩)]).take Fl.length = Fl.map encS := by
    rw [List.take_append_of_le_length (by rw [List.length_map]; exact Nat.le_refl _), List.take_of_length_le (by rw [List.length_map]; exact Nat.le_refl _)]
   generalize Fl.map encS ++ List.replicate M.length [AV.v (.string ⟨#[]⟩)] = Z at hzl htk ⊢
   have hTz : ∀ X, upd h.T k (some (TO.cont 1 X)) k = some (.cont 1 X) := fun X => upd_same _ _ _
   (repeat (first | refine gO rfl ?_ | (refine gM zM23 fun K1 hK1 => ?_; simp only [go_sem, ↓reduceIte, reduceCtorEq, nA, nB, nC, nD, nE, nF, hTz, hzl] <;> and_intros <;> first | (apply hK1; clear hK1 K1) | (intros; first | omega | decide) | skip)))
   ·trivial
   ·trivial
   intro q hq
   rw [Int.toNat_natCast, htk]
   refine hK1 _ ?_; clear hK1 K1
   have hqk : q ≠ k := by
    intro e
    rw [e, upd_same] at hq; cases hq
   rw [upd_other _ _ hqk] at hq
   (repeat (first | refine gO rfl ?_ | (refine gM zM23 fun K1 hK1 => ?_; simp only [go_sem, ↓reduceIte, reduceCtorEq, nA, nB, nC, nD, nE, nF] <;> and_intros <;> first | (apply hK1; clear hK1 K1) | (intros; first | omega | decide) | skip)))
   rw [← hF]
   simp only [Tryz.results66, go_sem, ↓reduceIte, reduceCtorEq, nA, nB, nC, nD, nE, nF]
   refine ⟨_, _, Weak.refl _, Hp.le.refl _, q, rfl, rfl, upd_same _ _ _, fun t ht hn => ?_⟩
   have htq : t ≠ q := fun e => hn (e ▸ hq)
   exact ⟨htq, (upd_other _ _ htq).trans (upd_other _ _ ht)⟩
open Go Go.RowKit Go.Sort Go.Lib Go.Proofs
set_option maxHeartbeats 4000000
theorem put_block {α : Type} [Inhabited α] (enc : α → Value) (w : World) (g q : Nat) (d : Array α) (os : Array Obj) (b : Nat) (hb : b < w.heap.size) (hne : b ≠ g) : (grow (putRow enc (Sort.ahead w q) g 0 d) os).heap[b]? = w.heap[b]? := by
 show ((w.heap.modify g (onCells _)) ++ os)[b]? = _
 rw [Array.getElem?_append_left (by simpa using hb), Array.getElem?_modify, if_neg (Ne.symm hne)]
theorem put_size {α : Type} [Inhabited α] (enc : α → Value) (w : World) (g q : Nat) (d : Array α) (os : Array Obj) : w.heap.size ≤ (grow (putRow enc (Sort.ahead w q) g 0 d) os).heap.size := by
 simp [grow, putRow, mapBlock, Sort.ahead]
theorem infoSk : (Tryz.prog.info? 99).map (fun i => i.size) = some 5 := by kernel_rfl
def zSk : List Value := [.string ⟨#[]⟩, .int .i64 0, .int .i64 0, .int .i64 0, .bool false]
theorem zeroSk (w : World) : (zeroValue 99).run Tryz.prog w = .ok (.agg #[.string ⟨#[]⟩, .int .i64 0, .int .i64 0, .int .i64 0, .bool false]) w := Tryz.zeroValue99 w
theorem run_clear_one {P : Program} (w : World) (t e ty : TypeId) (z : Value) (zs : List Value) (ht : P.underlying t = some (.slice e)) (hv : ∀ w, (zeroValue e).run P w = .ok z w) (hz : (Builtin.zeroCells z.cells 1).toList = zs) (h1 : ∀ v ∈ zs, v.oneCell' = true) (b o c : Nat)
  (hc : ∀ j, j < zs.length → (w.cell? ⟨b, o + j, none⟩).isSome = true) (hf : ∀ j, j < zs.length → w.frozen? ⟨b, o + j, none⟩ = false) :
  (Builtin.clear_ #[t] ty #[.slice (some ⟨b, o, none⟩) 1 c]).run P w = .ok (.tuple #[]) (w.setCells b o zs) := by
 have hst := run_storeCells_cells (P := P) b o zs 0 w (by simpa using hc) (by simpa using hf) h1
 simp only [Nat.add_zero] at hst
 simp [Builtin.clear_, run_underlying ht, hv, hz, hst]
theorem del_arr {α : Type} (d : Array α) (i j : Nat) (zs : List α) (hij : i ≤ j) (hj : j ≤ d.size) (hz : zs.length = j - i) :
  lay (lay d i (d.toList.drop j)) (i + (d.size - j)) zs = (d.toList.take i ++ d.toList.drop j ++ zs).toArray := by
 apply Array.ext_getElem?
 intro t
 have l1 : (d.toList.take i).length = i := by simp; omega
 have l2 : (d.toList.drop j).length = d.size - j := by simp
 rw [lay_get? _ _ _ _ (by rw [lay_size]; omega), lay_get? _ _ _ _ (by rw [l2]; omega), show (d.toList.take i ++ d.toList.drop j ++ zs).toArray[t]? = (d.toList.take i ++ d.toList.drop j ++ zs)[t]? from by simp]
 simp only [l2]
 by_cases c1 : t < i
 ·rw [if_neg (by omega), if_neg (by omega), List.append_assoc, List.getElem?_append_left (by omega), List.getElem?_take, if_pos c1, Array.getElem?_toList]
 ·by_cases c2 : t < i + (d.size - j)
  ·rw [if_neg (by omega), if_pos (by omega), List.getElem?_append_left (by simp; omega), List.getElem?_append_right (by omega), l1]
  ·rw [List.getElem?_append_right (by simp; omega)]
   simp only [List.length_append, l1, l2]
   by_cases c3 : t < d.size
   ·rw [if_pos (by omega)]
   ·rw [if_neg (by omega), if_neg (by omega), Array.getElem?_eq_none (by omega), List.getElem?_eq_none (by omega)]
set_option maxHeartbeats 4000000 in
set_option maxRecDepth 1000000 in
theorem delS_walk (g c n i : Nat) (vs : List Value) (w : World) (hH : Holds (id : Value → Value) w g 0 vs.toArray) (hv : vs.length = n * 5) (h1 : ∀ u ∈ vs, u.oneCell' = true) (hnc : n ≤ c) (hcm : c ≤ 9223372036854775807) (hi : i < n) (hn : n ≤ 100000) :
  Calls Tryz.prog 68 #[.slice (some ⟨g, 0, none⟩) n c, .int .i64 i, .int .i64 (i + 1 : Nat)] w fun e w' => e = .returned (.slice (some ⟨g, 0, none⟩) (n - 1) c) ∧ ∃ q, w' = putRow id (Sort.ahead w q) g 0 (vs.take (i * 5) ++ vs.drop ((i + 1) * 5) ++ zSk).toArray := by
 obtain ⟨i0, hi0, hz1⟩ : ∃ i0, Tryz.prog.info? 99 = some i0 ∧ i0.size = 5 := by
  have h := infoSk
  cases h2 : Tryz.prog.info? 99 with
  | none => rw [h2] at h; cases h
  | some i0 => rw [h2] at h; exact ⟨i0, rfl, by simpa using h⟩
 have mixed : Tryz.prog.follows Departure.mixedOrders = true := by kernel_rfl
 have t0 := Tryz.underlying83
 obtain ⟨news, hnews⟩ : ∃ news, news = vs.drop ((i + 1) * 5) := ⟨_, rfl⟩
 have hds : vs.toArray.size = n * 5 := by simpa using hv
 have hlen : news.length = (n - (i + 1)) * 5 := by rw [hnews, List.length_drop, hv]; omega
 have hget : ∀ t, t < (n - (i + 1)) * 5 → news[t]? = some (vs.toArray[(i + 1) * 5 + t]!) := by
  intro t ht
  have h9 : (i + 1) * 5 + t < vs.length := by omega
  rw [hnews, List.getElem?_drop, List.getElem?_eq_getElem h9]
  simp [h9]
 obtain ⟨A, hA, hsrc⟩ : ∃ A : Addr, (if c = i + 1 then some (⟨g, 0, none⟩ : Addr) else some ⟨g, (i + 1) * 5, none⟩) = some A ∧ Hid (∀ t u, news[t]? = some u → w.drew.cell? (A.add t) = some u) := by
  by_cases h : c = i + 1
  ·refine ⟨⟨g, 0, none⟩, by simp [h], fun t u hu => ?_⟩
   have h0 : news.length = 0 := by rw [hlen]; omega
   rw [List.length_eq_zero_iff.1 h0] at hu
   simp at hu
  ·refine ⟨⟨g, (i + 1) * 5, none⟩, by simp [h], fun t u hu => ?_⟩
   have ht : t < (n - (i + 1)) * 5 := by
    have := (List.getElem?_eq_some_iff.1 hu).1
    rwa [hlen] at this
   rw [hget t ht] at hu
   rw [Addr.add_lit]
   have h3 := (hH ((i + 1) * 5 + t) (by omega)).1
   rw [Nat.zero_add] at h3
   exact h3.trans hu
 have s1 : Hid (news.length = (n - (i + 1)) * 5) := hlen
 have s2 : Hid (∀ u ∈ news, u.oneCell' = true) := by
  intro u hu
  rw [hnews] at hu
  exact h1 u (List.mem_of_mem_drop hu)
 have s3 : Hid (∀ t, t < news.length → (w.drew.cell? ⟨g, 0 + i * 5 + t, none⟩).isSome = true ∧ w.drew.frozen? ⟨g, 0 + i * 5 + t, none⟩ = false) := by
  intro t ht
  rw [hlen] at ht
  rw [Nat.add_assoc]
  exact ⟨by show (w.cell? _).isSome = true; rw [(hH (i * 5 + t) (by omega)).1]; rfl, (hH (i * 5 + t) (by omega)).2⟩
 obtain ⟨W1, hW1⟩ : ∃ W1, W1 = w.drew.setCells g (0 + i * 5) news := ⟨_, rfl⟩
 have hW1' : W1 = putRow id (Sort.ahead w 1) g 0 (lay vs.toArray (i * 5) news) := by
  have h4 := putRow_setCells (id : Value → Value) (Sort.ahead w 1) g 0 news vs.toArray (i * 5) (by rw [hlen, hds]; omega)
  rw [List.map_id, putRow_self id (Sort.ahead w 1) g 0 vs.toArray (holds_ahead id w 1 g 0 _ hH)] at h4
  rw [hW1, ← h4]; rfl
 have hH1 : Holds id W1 g 0 (lay vs.toArray (i * 5) news) := by rw [hW1']; exact holds_putRow id _ g 0 vs.toArray _ (holds_ahead id w 1 g 0 _ hH) (lay_size _ _ _)
 have hls : (lay vs.toArray (i * 5) news).size = n * 5 := by rw [lay_size, hds]
 have hcl : ∀ ty, (Builtin.clear_ #[83] ty #[.slice (some ⟨g, (i + (n - (i + 1))) * 5, none⟩) (n - (i + (n - (i + 1)))) (c - (i + (n - (i + 1))))]).run Tryz.prog W1 = .ok (.tuple #[]) (W1.setCells g ((n - 1) * 5) zSk) := fun ty => by
  have e1 : i + (n - (i + 1)) = n - 1 := by omega
  have e2 : n - (i + (n - (i + 1))) = 1 := by omega
  rw [e2, e1]
  refine run_clear_one W1 _ _ ty _ zSk t0 zeroSk (by rw [toList_zeroCells _ _ (by decide)]; rfl) (by intro v hv2; simp [zSk] at hv2; rcases hv2 with rfl | rfl | rfl | rfl | rfl <;> rfl) g ((n - 1) * 5) _ (fun t ht => ?_) (fun t ht => ?_)
  ·have ht5 : t < 5 := ht
   have h5 := (hH1 ((n - 1) * 5 + t) (by rw [hls]; omega)).1
   rw [Nat.zero_add] at h5
   rw [h5]; rfl
  ·have ht5 : t < 5 := ht
   have h5 := (hH1 ((n - 1) * 5 + t) (by rw [hls]; omega)).2
   rw [Nat.zero_add] at h5
   exact h5
 have X : Aside (W1 = putRow id (Sort.ahead w 1) g 0 (lay vs.toArray (i * 5) news)) := hW1'
 have hW : Hid (W1 = w.drew.setCells g (0 + i * 5) news) := hW1
 have hic : i ≤ c := by omega
 have hjc : i + 1 ≤ c := by omega
 have hne : ¬ (i = i + 1) := by omega
 have hneI : ((i : Int) == ((i + 1 : Nat) : Int)) = false := by simp; omega
 have hj1 : (0 : Int) ≤ (i : Int) + 1 := by omega
 have hj2 : (i : Int) + 1 ≤ (n : Int) := by omega
 have HN := Lib.hid hnews
 have HV := Lib.hid hv
 have HD := Lib.hid hds
 clear hW1 hW1' hH1 hH hget hnews hlen h1 hv hds hls
 go_enter Tryz.func68, Tryz.ntmps68
 go_wp2_with fail
 go_region_law_o (refine step_append_room rfl (.tmp 22) (.tmp 25) 83 rfl 99 i0 5 t0 hi0 hz1 g 0 i c (by simp [Act.eval, Act.put]) A (n - (i + 1)) (c - (i + 1)) news (by simp [Act.eval, Act.put]) s1.out hsrc.out s2.out (by omega) s3.out ?_; rw [← hW.out])
 go_wp2
 go_ret
 refine ⟨by rw [show n - 1 = i + (n - (i + 1)) by omega]; rfl, 1, ?_⟩
 have hds : vs.toArray.size = n * 5 := HD.out
 have h7 := putRow_setCells (id : Value → Value) (Sort.ahead w 1) g 0 zSk (lay vs.toArray (i * 5) news) ((n - 1) * 5) (by rw [lay_size, hds]; show (n - 1) * 5 + 5 ≤ n * 5; omega)
 rw [List.map_id, Nat.zero_add] at h7
 have hX : W1 = putRow id (Sort.ahead w 1) g 0 (lay vs.toArray (i * 5) news) := X
 rw [hX, h7, HN.out]
 have h8 := del_arr vs.toArray (i * 5) ((i + 1) * 5) zSk (by omega) (by rw [hds]; omega) (by show 5 = _; omega)
 rw [hds, show i * 5 + (n * 5 - (i + 1) * 5) = (n - 1) * 5 by omega] at h8
 rw [h8]
theorem holds_id {w : World} {g : Nat} {cur : Array Value} {e : TypeId} {ss : List Value} (hb : w.heap[g]? = some (.cells cur e (0, 0))) (ht : cur.toList.take ss.length = ss) : Holds (id : Value → Value) w g 0 ss.toArray := by
 intro j hj
 have hj' : j < ss.length := by simpa using hj
 refine ⟨?_, by simp [World.frozen?, hb]⟩
 have h1 : (cur.toList.take ss.length)[j]? = ss[j]? := by rw [ht]
 rw [List.getElem?_take_of_lt hj'] at h1
 simp only [World.cell?, hb, Nat.zero_add]
 simp only [Option.isSome_none, Bool.false_eq_true, if_false]
 rw [← Array.getElem?_toList, h1]
 simp [hj']
theorem heap_id {w : World} {g n : Nat} {os : Array Obj} {cur : Array Value} {e : TypeId} {fr : Nat × Nat} (d : Array Value) (hb : w.heap[g]? = some (.cells cur e fr)) :
  (grow (putRow id (Sort.ahead w n) g 0 d) os).heap[g]? = some (.cells (putCells id 0 d cur) e fr) := by
 have hg : g < w.heap.size := (Array.getElem?_eq_some_iff.1 hb).1
 show ((w.heap.modify g (onCells _)) ++ os)[g]? = _
 rw [Array.getElem?_append_left (by simpa using hg)]
 simp [Array.getElem?_modify, hb, onCells]
theorem take_id (cur : Array Value) (ts : List Value) (h : ts.length ≤ cur.size) : (putCells id 0 ts.toArray cur).toList.take ts.length = ts := by
 apply List.ext_getElem?
 intro j
 by_cases hj : j < ts.length
 ·rw [List.getElem?_take_of_lt hj, Array.getElem?_toList]
  simp [putCells, hj, show j < cur.size by omega]
 ·rw [List.getElem?_take_eq_none (by omega), List.getElem?_eq_none (by omega)]
theorem vs_three {vs : Array Value} (h : vs.size = 3) : vs = #[vs.getD 0 undef, vs.getD 1 undef, vs.getD 2 undef] := by
 apply Array.ext (by simpa using h)
 intro j hj hj'
 simp only [List.size_toArray, List.length_cons, List.length_nil] at hj'
 have hc : j = 0 ∨ j = 1 ∨ j = 2 := by omega
 rcases hc with rfl | rfl | rfl <;> simp [Array.getD, h]
theorem flat_take {α : Type} {z : Nat} : ∀ (xs : List (List α)) (i : Nat), (∀ x ∈ xs, x.length = z) → i ≤ xs.length → (xs.take i).flatten = xs.flatten.take (i * z)
 | [], i, _, h => by
  have : i = 0 := by simpa using h
  subst this; simp
 | x :: xs, 0, _, _ => by simp
 | x :: xs, i + 1, h, hi => by
  have hx := h x (by simp)
  have e1 : (i + 1) * z = x.length + i * z := by rw [hx, Nat.add_mul]; omega
  rw [List.take_succ_cons, List.flatten_cons, List.flatten_cons, flat_take xs i (fun y hy => h y (by simp [hy])) (by simpa using hi), e1]
  simp [List.take_append]
  rw [List.take_of_length_le (by omega)]
theorem flat_drop {α : Type} {z : Nat} : ∀ (xs : List (List α)) (i : Nat), (∀ x ∈ xs, x.length = z) → i ≤ xs.length → (xs.drop i).flatten = xs.flatten.drop (i * z)
 | [], i, _, h => by
  have : i = 0 := by simpa using h
  subst this; simp
 | x :: xs, 0, _, _ => by simp
 | x :: xs, i + 1, h, hi => by
  have hx := h x (by simp)
  have e1 : (i + 1) * z = x.length + i * z := by rw [hx, Nat.add_mul]; omega
  rw [List.drop_succ_cons, List.flatten_cons, flat_drop xs i (fun y hy => h y (by simp [hy])) (by simpa using hi), e1]
  simp [List.drop_append]
theorem g_delS (rows : List (List AV)) (k i : Nat) (h : Hp) (hT : h.T k = some (.cont 5 rows)) (hi : i < rows.length) (hb : rows.length ≤ 1000) :
  ACalls Tryz.prog 68 [.arr 5 k rows.length, .v (.int .i64 i), .v (.int .i64 ((i : Int) + 1))] h (fun r h' => ∃ k2, h.T k2 = none ∧ r = .arr 5 k2 (rows.length - 1) ∧ h' = { h with T := upd (upd h.T k none) k2 (some (.cont 5 (rows.take i ++ rows.drop (i + 1)))) }) := by
 refine acalls_mk (by kernel_rfl) fun G w vs hs hv ha => ?_
 have r0 := ha 0 (by simp)
 have r1 := ha 1 (by simp)
 have r2 := ha 2 (by simp)
 rw [vs_three hv]
 generalize vs.getD 0 undef = v at r0
 generalize vs.getD 1 undef = v1 at r1
 generalize vs.getD 2 undef = v2 at r2
 simp only [List.getElem_cons_zero] at r0
 simp only [List.getElem_cons_succ, List.getElem_cons_zero] at r1 r2
 cases r1
 cases r2
 cases r0 with
 | arr _ _ _ q m c ho =>
 obtain ⟨hknx, ⟨q', c', e2, _, _⟩, hm⟩ := ho
 rcases hs.tok k _ hT with ⟨_, e1⟩ | ⟨tt, cur, E, htl, htm, htp, hth, hts, htc, htcm, htf, htz, hzx, htr⟩
 ·rw [e1] at hi; simp at hi
 rw [htl] at hm
 obtain ⟨hxe, _⟩ := hm.2 htm.symm
 simp only [Value.slice.injEq] at hxe e2
 obtain ⟨rfl, rfl, rfl⟩ := hxe
 rw [htz] at hts
 have hle : rows.length ≤ tt.c := by rw [← htm]; exact htc
 have hfl := flatten_len hzx
 rw [hfl] at htr
 obtain ⟨cs, hcs⟩ : ∃ cs, cs = cur.toList.take (rows.length * 5) := ⟨_, rfl⟩
 rw [← hcs] at htr
 have hsz : rows.length * 5 ≤ cur.size := by rw [hts]; exact Nat.mul_le_mul_right _ hle
 have hcl : cs.length = rows.length * 5 := by
  have e1 := List.length_take (i := rows.length * 5) (l := cur.toList)
  have e2 : cur.toList.length = cur.size := by simp
  rw [hcs, e1, e2]; omega
 have hc1 : ∀ u ∈ cs, u.oneCell' = true := fun u hu => by
  obtain ⟨j, hj, rfl⟩ := List.mem_iff_getElem.1 hu
  exact (htr.2 j (by rw [hfl, ← hcl]; exact hj) hj).2
 have hH : Holds (id : Value → Value) w tt.g 0 cs.toArray := holds_id hth (by rw [hcl]; exact hcs.symm)
 have hmx : tt.c ≤ 9223372036854775807 := htcm
 have sm : Sim G [] ⟨[], [], h⟩ ⟨#[], []⟩ w := ⟨hs, Nat.le_refl _, fun t ht => by simp at ht, rfl, ⟨rfl, fun j b cs e => by simp at e, fun b hb => by simp at hb, List.nodup_nil⟩⟩
 have hwk := delS_walk tt.g tt.c rows.length i cs w hH hcl hc1 hle hmx hi (by omega)
 rw [show ((i + 1 : Nat) : Int) = (i : Int) + 1 by omega] at hwk
 refine hwk.mono ?_
 rintro e w' ⟨rfl, n, rfl⟩
 obtain ⟨ys, hys⟩ : ∃ ys, ys = cs.take (i * 5) ++ cs.drop ((i + 1) * 5) ++ zSk := ⟨_, rfl⟩
 have hzl : zSk.length = 5 := rfl
 have hyl : ys.length = rows.length * 5 := by rw [hys, List.length_append, List.length_append, List.length_take, List.length_drop, hcl, hzl]; omega
 rw [← hys]
 have hg0 : grow (putRow id (Sort.ahead w n) tt.g 0 ys.toArray) #[] = putRow id (Sort.ahead w n) tt.g 0 ys.toArray := by
  unfold grow; rw [Array.append_empty]
 rw [← hg0]
 obtain ⟨xs, hxs⟩ : ∃ xs, xs = rows.take i ++ rows.drop (i + 1) := ⟨_, rfl⟩
 have hxl : xs.length = rows.length - 1 := by rw [hxs]; simp; omega
 have hzd : ∀ x ∈ xs, x.length = 5 := fun x hx => by
  rw [hxs] at hx
  rcases List.mem_append.1 hx with hx | hx
  ·exact hzx x (List.mem_of_mem_take hx)
  ·exact hzx x (List.mem_of_mem_drop hx)
 have hfd : xs.flatten.length = (rows.length - 1) * 5 := by rw [flatten_len hzd, hxl]
 have hxf : xs.flatten = rows.flatten.take (i * 5) ++ rows.flatten.drop ((i + 1) * 5) := by
  rw [hxs, List.flatten_append, flat_take rows i hzx (by omega), flat_drop rows (i + 1) hzx (by omega)]
 have hrep : RepL G xs.flatten (cs.take (i * 5) ++ cs.drop ((i + 1) * 5)) := by
  rw [hxf]
  exact (htr.take _).append (htr.drop _)
 have hcl2 : (cs.take (i * 5) ++ cs.drop ((i + 1) * 5)).length = (rows.length - 1) * 5 := by rw [List.length_append, List.length_take, List.length_drop, hcl]; omega
 have hh9 := heap_id (n := n) (os := #[]) ys.toArray hth
 have htk : (putCells id 0 ys.toArray cur).toList.take ((rows.length - 1) * 5) = cs.take (i * 5) ++ cs.drop ((i + 1) * 5) := by
  have e1 := take_id cur ys (by rw [hyl]; exact hsz)
  have e2 : ((putCells id 0 ys.toArray cur).toList.take ys.length).take ((rows.length - 1) * 5) = (putCells id 0 ys.toArray cur).toList.take ((rows.length - 1) * 5) := by rw [List.take_take, Nat.min_eq_left (by rw [hyl]; omega)]
  rw [← e2, e1, hys, ← hcl2, List.take_left]
 have hrt := hs.retok (w' := grow (putRow id (Sort.ahead w n) tt.g 0 ys.toArray) #[]) hT htl (ys := xs) (arr := putCells id 0 ys.toArray cur) (E := E) (fun b hb' hne => put_block _ w tt.g n _ #[] b hb' hne) hh9 (by rw [htz]; simp [putCells, hts]) (fun y hy => by rw [htz]; exact hzd y hy)
  (by rw [hfd, htk]; exact hrep) (by rw [hxl]; omega) (by omega) htcm rfl rfl rfl (put_size _ w tt.g n _ #[])
 rw [htz, hxl, hxs] at hrt
 obtain ⟨s2, f2, r2⟩ := hrt
 exact ⟨_, rfl, _, _, _, ⟨_, hs.free_nx, rfl, rfl⟩, Gh.reTk_le _ _, f2, s2, r2⟩
inductive AT where
 | mk (i c : Nat) (kids : List AT)
instance : Inhabited AT := ⟨.mk 0 0 []⟩
inductive PS where
 | mk (had : Int) (of : List Int) (kids : List PS)
instance : Inhabited PS := ⟨.mk 0 [] []⟩
def AT.id : AT → Nat
 | .mk i _ _ => i
def idsT : AT → List Nat
 | .mk i _ ks => i :: (ks.map idsT).flatten
def toksT : AT → List Nat
 | .mk _ c ks => c :: (ks.map toksT).flatten
theorem idsT_eq (i c : Nat) (ks : List AT) : idsT (.mk i c ks) = i :: (ks.map idsT).flatten := by rw [idsT]
theorem toksT_eq (i c : Nat) (ks : List AT) : toksT (.mk i c ks) = c :: (ks.map toksT).flatten := by rw [toksT]
theorem idsT_kid {i c : Nat} {ks : List AT} {j : Nat} (h : j < ks.length) {x : Nat} (hx : x ∈ idsT (ks.getD j default)) : x ∈ idsT (.mk i c ks) := by
 rw [idsT_eq]
 refine List.mem_cons_of_mem _ (List.mem_flatten.2 ⟨_, List.mem_map.2 ⟨_, ?_, rfl⟩, hx⟩)
 rw [List.getD_eq_getElem?_getD, List.getElem?_eq_getElem h]; exact List.getElem_mem _
theorem toksT_kid {i c : Nat} {ks : List AT} {j : Nat} (h : j < ks.length) {x : Nat} (hx : x ∈ toksT (ks.getD j default)) : x ∈ toksT (.mk i c ks) := by
 rw [toksT_eq]
 refine List.mem_cons_of_mem _ (List.mem_flatten.2 ⟨_, List.mem_map.2 ⟨_, ?_, rfl⟩, hx⟩)
 rw [List.getD_eq_getElem?_getD, List.getElem?_eq_getElem h]; exact List.getElem_mem _
structure RK where
 ex : LT → List AV
 cf : Int → List Int → List Int
def kidsC (az : List AT) (K : AV) : Prop := az = [] ∧ K = .v (.slice none 0 0) ∨ ∃ tk, K = .row 1 (az.map fun a => [.ptr a.id 0]) tk
def RAt (X : RK) (h : Hp) : Nat → LT → AT → PS → Prop
 | 0, _, _, _ => False
 | d + 1, .mk kind item long many kids shares, .mk i c az, .mk p cs ks =>
  (∃ K, h.H i = some (.cells ([.v (.int .i64 kind), .v (.string item), .v (.int .i64 long), .v (.int .i64 many), .row 6 (kids.map encL) none, .row 1 (shares.map encI) none, K, .v (.int .i64 p), .arr 1 c kids.length] ++ X.ex (.mk kind item long many kids shares))) ∧ kidsC az K) ∧
  h.T c = some (.cont 1 ((X.cf kind cs).map encI)) ∧ ((X.cf kind cs).length = kids.length ∧ cs.length = kids.length ∧ az.length = kids.length ∧ ks.length = kids.length) ∧
  ∀ j, j < kids.length → RAt X h d (kids.getD j default) (az.getD j default) (ks.getD j default)
theorem RAt.frame {X : RK} {h h' : Hp} : ∀ {d : Nat} {t : LT} {a : AT} {s : PS}, RAt X h d t a s → (∀ i ∈ idsT a, h'.H i = h.H i) → (∀ c ∈ toksT a, h'.T c = h.T c) → RAt X h' d t a s
 | 0, _, _, _, h, _, _ => h.elim
 | d + 1, .mk kind item long many kids shares, .mk i c az, .mk p cs ks, ⟨⟨K, h1, hK⟩, h2, h3, h4⟩, hi, hc =>
  ⟨⟨K, by rw [hi i (by rw [idsT_eq]; simp)]; exact h1, hK⟩, by rw [hc c (by rw [toksT_eq]; simp)]; exact h2, h3, fun j hj =>
   (h4 j hj).frame (fun x hx => hi x (idsT_kid (by omega) hx)) (fun x hx => hc x (toksT_kid (by omega) hx))⟩
def PSB : Nat → LT → PS → Int → Prop
 | 0, _, _, _ => True
 | d + 1, .mk _ _ _ _ kids _, .mk p cs ks, n => (0 ≤ p ∧ p ≤ n) ∧ (∀ x ∈ cs, 0 ≤ x ∧ x ≤ n) ∧ ∀ j, j < kids.length → PSB d (kids.getD j default) (ks.getD j default) n
theorem PSB.mono {n m : Int} (hnm : n ≤ m) : ∀ {d : Nat} {t : LT} {s : PS}, PSB d t s n → PSB d t s m
 | 0, _, _, _ => trivial
 | d + 1, .mk .., .mk p cs ks, ⟨h1, h2, h3⟩ => ⟨by omega, fun x hx => by have := h2 x hx; omega, fun j hj => (h3 j hj).mono hnm⟩
section
variable {P : Program} {c : Cx} {Q : Exit → St → Prop} {s : St}
end
open Go
set_option linter.unusedVariables false
set_option linter.unusedSimpArgs false
open Nat renaming reduceAdd → nA, reduceSub → nB, reduceMul → nC, reduceLT → nD, reduceLeDiff → nE, reduceEqDiff → nF, reduceMod → nG, reduceDiv → nH, reducePow → nI
set_option maxRecDepth 100000
set_option maxHeartbeats 8000000
def encSt (room rule came : Int) (k n : Nat) : List AV := [.v (.int .i64 room), .v (.int .i64 rule), .arr 5 k n, .v (.int .i64 came)]
def isIt (item : ByteArray) (x : Sk) : Bool := decide (x.1 = item)
def cmpS (rule : Int) (x y : Sk) : Int := if rule = 2 then cmpI x.2.2.1 y.2.2.1 else if rule = 3 then cmpI x.2.2.2.1 y.2.2.2.1 else if rule = 4 then cmpI y.2.1 x.2.1 else 0
def sumS (S : List Sk) : Int := (S.map fun x => x.2.1).sum
def namS (rule : Int) (S : List Sk) : List ByteArray := (sortI (cmpS rule) (S.filter fun x => !x.2.2.2.2)).map fun x => x.1
theorem g_clS (k : Nat) (ps : List Sk) (h : Hp) (hT : h.T k = some (.cont 5 (ps.map encSk))) (hl : ps.length ≤ 100000) :
  ACalls Tryz.prog 64 [.arr 5 k ps.length] h (fun r h' => ∃ q, r = .arr 5 q ps.length ∧ h.T q = none ∧ h' = ⟨h.H, upd h.T q (some (.cont 5 (ps.map encSk)))⟩) := by
 have hml : (ps.map encSk).length = ps.length := List.length_map _
 refine gE Tryz.func64 rfl (by kernel_rfl) 7 rfl fun c => ?_
 (repeat (first | refine gO rfl ?_ | (refine gM zM24 fun K1 hK1 => ?_; simp only [go_sem, ↓reduceIte, reduceCtorEq, nA, nB, nC, nD, nE, nF] <;> and_intros <;> first | (apply hK1; clear hK1 K1) | (intros; first | omega | decide | (simp_all <;> omega)) | skip)))
 ·intro h0
  refine hK1 _ ?_; clear hK1 K1
  (repeat (first | refine gO rfl ?_ | (refine gM zM24 fun K1 hK1 => ?_; simp only [go_sem, ↓reduceIte, reduceCtorEq, nA, nB, nC, nD, nE, nF] <;> and_intros <;> first | (apply hK1; clear hK1 K1) | (intros; first | omega | decide) | skip)))
  refine awp_cond (t := _) rfl (fun _ => ?_) (fun h9 => by cases h9)
  (repeat refine gO rfl ?_)
  refine awp_seq ?_
  refine awp_AL ?_
  refine AL.cons rfl (Quiet.aop (q_move (.inr rfl)) ?_)
  refine AL.nil ?_
  refine awp_ownA 2 5 rfl ⟨rfl, rfl⟩ (fun q hq => ?_)
  refine awp_cut (rl false [2, 1, 5]) 0 (?_ : Awp _ _ _ _ ⟨(AV.junk :: AV.junk :: ((.arr 5 q 0) :: (jnk 5 []))), [], ⟨h.H, upd h.T q (some (.cont 5 []))⟩⟩)
  obtain rfl := List.eq_nil_of_length_eq_zero h0
  (repeat (first | refine gO rfl ?_ | (refine gM zM24 fun K1 hK1 => ?_; simp only [go_sem, ↓reduceIte, reduceCtorEq, nA, nB, nC, nD, nE, nF] <;> and_intros <;> first | (apply hK1; clear hK1 K1) | (intros; first | omega | decide) | skip)))
  simp only [Tryz.results64, go_sem, ↓reduceIte, reduceCtorEq, nA, nB, nC, nD, nE, nF]
  exact ⟨_, _, Weak.refl _, Hp.le.refl _, q, rfl, hq, rfl⟩
 ·(repeat (first | refine gO rfl ?_ | (refine gM zM24 fun K1 hK1 => ?_; simp only [go_sem, ↓reduceIte, reduceCtorEq, nA, nB, nC, nD, nE, nF] <;> and_intros <;> first | (apply hK1; clear hK1 K1) | (intros; first | omega | decide) | skip)))
  refine awp_cond (t := _) rfl (fun h9 => by cases h9) (fun _ => ?_)
  (repeat (first | refine gO rfl ?_ | (refine gM zM24 fun K1 hK1 => ?_; simp only [go_sem, ↓reduceIte, reduceCtorEq, nA, nB, nC, nD, nE, nF, hT, hml] <;> and_intros <;> first | (apply hK1; clear hK1 K1) | (intros; first | omega | decide) | skip)))
  intro q hq
  have hqk : k ≠ q := by rintro rfl; rw [hT] at hq; cases hq
  simp only [upd_other _ _ hqk, hT, hml, and_self, if_true]
  refine ⟨⟨trivial, rfl, .inl trivial⟩, ⟨by simp; omega, by simp; omega⟩, hK1 _ ?_⟩; clear hK1 K1
  (repeat (first | refine gO rfl ?_ | (refine gM zM24 fun K1 hK1 => ?_; simp only [go_sem, ↓reduceIte, reduceCtorEq, nA, nB, nC, nD, nE, nF] <;> and_intros <;> first | (apply hK1; clear hK1 K1) | (intros; first | omega | decide) | skip)))
  simp only [Tryz.results64, go_sem, ↓reduceIte, reduceCtorEq, nA, nB, nC, nD, nE, nF]
  exact ⟨_, _, Weak.refl _, Hp.le.refl _, q, rfl, hq, rfl⟩
theorem g_atC (item : ByteArray) (x : Sk) (q : Nat) (h : Hp) (hq : h.H q = some (.cells [.v (.string item)])) : ACalls Tryz.prog 121 [.agg (encSk x), .ptr q 0] h (fun r h' => r = .v (.bool (isIt item x)) ∧ h' = h) := by
 unfold encSk
 refine gE Tryz.func121 rfl (by kernel_rfl) 6 rfl fun c => ?_
 (repeat (first | refine gO rfl ?_ | (refine gR fun K1 hK1 => ?_; simp only [go_sem, ↓reduceIte, reduceCtorEq, nA, nB, nC, nD, nE, nF, hq] <;> and_intros <;> first | (apply hK1; clear hK1 K1) | (intros; first | omega | decide) | skip)))
 simp only [Tryz.results121, go_sem, ↓reduceIte, reduceCtorEq, nA, nB, nC, nD, nE, nF]
 exact ⟨_, _, Weak.refl _, Hp.le.refl _, by unfold isIt; rw [ba_beq], rfl⟩
section
variable {room rule came : Int} {k si : Nat} {S : List Sk} {h : Hp}
theorem g_at (item : ByteArray) (hC : h.H si = some (.cells (encSt room rule came k S.length))) (hT : h.T k = some (.cont 5 (S.map encSk))) (hl : S.length ≤ 1000) :
  ACalls Tryz.prog 65 [.ptr si 0, .v (.string item)] h (fun r h' => r = .v (.int .i64 (idxS (isIt item) S)) ∧ h' = h) := by
 refine gE Tryz.func65 rfl (by kernel_rfl) 9 rfl fun c => ?_
 (repeat (first | refine gO rfl ?_ | (refine gM zM25 fun K1 hK1 => ?_; simp only [go_sem, ↓reduceIte, reduceCtorEq, nA, nB, nC, nD, nE, nF] <;> and_intros <;> first | (apply hK1; clear hK1 K1) | (intros; first | omega | decide) | skip)))
 intro q hq
 refine hK1 _ ?_; clear hK1 K1
 have hne : si ≠ q := by rintro rfl; rw [hC] at hq; cases hq
 have hC2 : upd h.H q (some (AO.cells [.v (.string item)])) si = some (.cells (encSt room rule came k S.length)) := by rw [upd_other _ _ hne]; exact hC
 (repeat (first | refine gO rfl ?_ | (refine gM zM25 fun K1 hK1 => ?_; simp only [go_sem, ↓reduceIte, reduceCtorEq, nA, nB, nC, nD, nE, nF, hC2, encSt] <;> and_intros <;> first | (apply hK1; clear hK1 K1) | (intros; first | omega | decide) | skip)))
 refine (g_idxS (isIt item) k S ⟨upd h.H q (some (AO.cells [.v (.string item)])), h.T⟩ hT (by omega) fun p _ => g_atC item p q _ (upd_same _ _ _)).mono ?_; rintro _ hz ⟨rfl, hh⟩; apply hK1; clear hK1 K1; rw [hh]; clear hh hz
 (repeat (first | refine gO rfl ?_ | (refine gM zM25 fun K1 hK1 => ?_; simp only [go_sem, ↓reduceIte, reduceCtorEq, nA, nB, nC, nD, nE, nF] <;> and_intros <;> first | (apply hK1; clear hK1 K1) | (intros; first | omega | decide) | skip)))
 simp only [Tryz.results65, go_sem, ↓reduceIte, reduceCtorEq, nA, nB, nC, nD, nE, nF]
 refine ⟨_, h, Weak.refl _, ⟨fun t => ?_, fun _ => .inr rfl⟩, rfl, rfl⟩
 by_cases e : t = q
 ·subst e; exact .inl hq
 ·exact .inr (by show h.H t = upd h.H q _ t; rw [upd_other _ _ e])
theorem g_freeS (hC : h.H si = some (.cells (encSt room rule came k S.length))) (hT : h.T k = some (.cont 5 (S.map encSk))) (hl : S.length ≤ 1000)
  (hB : ∀ x ∈ S, 0 ≤ x.2.1 ∧ x.2.1 ≤ 1000000000000) (hr : 0 ≤ room ∧ room ≤ 1000000000000) :
  ACalls Tryz.prog 27 [.ptr si 0] h (fun r h' => r = .v (.int .i64 (room - sumS S)) ∧ h' = h) := by
 have hml : (S.map encSk).length = S.length := List.length_map _
 refine gE Tryz.func27 rfl (by kernel_rfl) 24 rfl fun c => ?_
 (repeat (first | refine gO rfl ?_ | (refine gM zM26 fun K1 hK1 => ?_; simp only [go_sem, ↓reduceIte, reduceCtorEq, nA, nB, nC, nD, nE, nF, hC, encSt] <;> and_intros <;> first | (apply hK1; clear hK1 K1) | (intros; first | omega | decide) | skip)))
 refine awp_loopC (rl false [3, 1, 9, 3, 9]) 0 (fun g s' => ∃ (j : Nat) (o : Int), g + j = S.length ∧ o = room - sumS (S.take j) ∧ -(j * 1000000000000) ≤ o ∧ o ≤ 1000000000000 ∧
  s' = ⟨((jnk 3 ((.v (.int .i64 o)) :: (jnk 9 ((.arr 5 k S.length) :: (.v (.int .i64 S.length)) :: (.v (.int .i64 j)) :: (jnk 9 [])))))), [], h⟩) S.length ⟨0, room, by omega, by simp [sumS], by omega, by omega, rfl⟩ ?_
 rintro g _ ⟨j, o, hj, ho, ho1, ho2, rfl⟩
 (repeat (first | refine gO rfl ?_ | (refine gM zM26 fun K1 hK1 => ?_; simp only [go_sem, ↓reduceIte, reduceCtorEq, nA, nB, nC, nD, nE, nF] <;> and_intros <;> first | (apply hK1; clear hK1 K1) | (intros; first | omega | decide) | skip)))
 refine awp_cond (t := _) rfl (fun h5 => ?_) (fun h5 => ?_)
 ·simp only [decide_eq_true_eq] at h5
  have hjl : j < S.length := by omega
  have gx : (S.map encSk).getD j [] = encSk S[j] := by rw [List.getD_eq_getElem?_getD, List.getElem?_map, List.getElem?_eq_getElem hjl]; rfl
  have hb := hB _ (List.getElem_mem hjl)
  have hs : sumS (S.take (j + 1)) = sumS (S.take j) + S[j].2.1 := by
   unfold sumS
   rw [List.take_succ_eq_append_getElem hjl, List.map_append, List.sum_append]; simp
  generalize S[j] = x at *
  (repeat (first | refine gO rfl ?_ | (refine gM zM26 fun K1 hK1 => ?_; simp only [go_sem, ↓reduceIte, reduceCtorEq, nA, nB, nC, nD, nE, nF, hT, hml, Int.toNat_natCast, gx, encSk] <;> and_intros <;> first | (apply hK1; clear hK1 K1) | (intros; first | omega | decide) | skip)))
  refine ⟨g - 1, by omega, j + 1, o - x.2.1, by omega, by rw [hs, ho]; omega, by omega, by omega, rfl⟩
 ·simp only [decide_eq_false_iff_not] at h5
  have hjl : j = S.length := by omega
  subst hjl
  rw [List.take_length] at ho
  (repeat (first | refine gO rfl ?_ | (refine gM zM26 fun K1 hK1 => ?_; simp only [go_sem, ↓reduceIte, reduceCtorEq, nA, nB, nC, nD, nE, nF] <;> and_intros <;> first | (apply hK1; clear hK1 K1) | (intros; first | omega | decide) | skip)))
  simp only [Tryz.results27, go_sem, ↓reduceIte, reduceCtorEq, nA, nB, nC, nD, nE, nF]
  exact ⟨_, _, Weak.refl _, Hp.le.refl _, by rw [ho], rfl⟩
theorem g_pinnedS (x : Sk) (h : Hp) : ACalls Tryz.prog 71 ([.agg (encSk x)] ++ []) h (fun r h' => r = .v (.bool x.2.2.2.2) ∧ h' = h) := by
 unfold encSk
 refine gE Tryz.func71 rfl (by kernel_rfl) 4 rfl fun c => ?_
 (repeat (first | refine gO rfl ?_ | (refine gR fun K1 hK1 => ?_; simp only [go_sem, ↓reduceIte, reduceCtorEq, nA, nB, nC, nD, nE, nF] <;> and_intros <;> first | (apply hK1; clear hK1 K1) | (intros; first | omega | decide) | skip)))
 simp only [Tryz.results71, go_sem, ↓reduceIte, reduceCtorEq, nA, nB, nC, nD, nE, nF]
 exact ⟨_, _, Weak.refl _, Hp.le.refl _, rfl, rfl⟩
theorem g_cmpS (x y : Sk) (q : Nat) (hq : h.H q = some (.cells [.ptr si 0])) (hC : h.H si = some (.cells (encSt room rule came k S.length))) :
  ACalls Tryz.prog 73 ([encVSk x, encVSk y] ++ [.ptr q 0]) h (fun r h' => r = .v (.int .i64 (cmpS rule x y)) ∧ h' = h) := by
 have c1 := fun x y => g_cmpI x y h
 unfold encVSk encSk
 refine gE Tryz.func73 rfl (by kernel_rfl) 28 rfl fun c => ?_
 (repeat (first | refine gO rfl ?_ | (refine gR fun K1 hK1 => ?_; simp only [go_sem, ↓reduceIte, reduceCtorEq, nA, nB, nC, nD, nE, nF, hq, hC, encSt] <;> and_intros <;> first | (apply hK1; clear hK1 K1) | (intros; first | omega | decide) | skip)))
 by_cases r2 : rule = 2
 ·subst r2
  refine awp_cond (t := _) rfl (fun _ => ?_) (fun h9 => by simp at h9)
  (repeat (first | refine gO rfl ?_ | (refine gR fun K1 hK1 => ?_; simp only [go_sem, ↓reduceIte, reduceCtorEq, nA, nB, nC, nD, nE, nF] <;> and_intros <;> first | (apply hK1; clear hK1 K1) | (intros; first | omega | decide) | skip)))
  refine (c1 _ _).mono ?_; rintro _ hz ⟨rfl, hh⟩; apply hK1; clear hK1 K1; rw [hh]; clear hh hz
  (repeat (first | refine gO rfl ?_ | (refine gR fun K1 hK1 => ?_; simp only [go_sem, ↓reduceIte, reduceCtorEq, nA, nB, nC, nD, nE, nF] <;> and_intros <;> first | (apply hK1; clear hK1 K1) | (intros; first | omega | decide) | skip)))
  simp only [Tryz.results73, go_sem, ↓reduceIte, reduceCtorEq, nA, nB, nC, nD, nE, nF]
  exact ⟨_, _, Weak.refl _, Hp.le.refl _, by rw [cmpS, if_pos rfl], rfl⟩
 ·refine awp_cond (t := _) rfl (fun h9 => absurd (by simpa using h9) r2) (fun _ => ?_)
  (repeat (first | refine gO rfl ?_ | (refine gR fun K1 hK1 => ?_; simp only [go_sem, ↓reduceIte, reduceCtorEq, nA, nB, nC, nD, nE, nF] <;> and_intros <;> first | (apply hK1; clear hK1 K1) | (intros; first | omega | decide) | skip)))
  by_cases r3 : rule = 3
  ·subst r3
   refine awp_cond (t := _) rfl (fun _ => ?_) (fun h9 => by simp at h9)
   (repeat (first | refine gO rfl ?_ | (refine gR fun K1 hK1 => ?_; simp only [go_sem, ↓reduceIte, reduceCtorEq, nA, nB, nC, nD, nE, nF] <;> and_intros <;> first | (apply hK1; clear hK1 K1) | (intros; first | omega | decide) | skip)))
   refine (c1 _ _).mono ?_; rintro _ hz ⟨rfl, hh⟩; apply hK1; clear hK1 K1; rw [hh]; clear hh hz
   (repeat (first | refine gO rfl ?_ | (refine gR fun K1 hK1 => ?_; simp only [go_sem, ↓reduceIte, reduceCtorEq, nA, nB, nC, nD, nE, nF] <;> and_intros <;> first | (apply hK1; clear hK1 K1) | (intros; first | omega | decide) | skip)))
   simp only [Tryz.results73, go_sem, ↓reduceIte, reduceCtorEq, nA, nB, nC, nD, nE, nF]
   exact ⟨_, _, Weak.refl _, Hp.le.refl _, by rw [cmpS, if_neg r2, if_pos rfl], rfl⟩
  ·refine awp_cond (t := _) rfl (fun h9 => absurd (by simpa using h9) r3) (fun _ => ?_)
   (repeat (first | refine gO rfl ?_ | (refine gR fun K1 hK1 => ?_; simp only [go_sem, ↓reduceIte, reduceCtorEq, nA, nB, nC, nD, nE, nF] <;> and_intros <;> first | (apply hK1; clear hK1 K1) | (intros; first | omega | decide) | skip)))
   by_cases r4 : rule = 4
   ·subst r4
    refine awp_cond (t := _) rfl (fun _ => ?_) (fun h9 => by simp at h9)
    (repeat (first | refine gO rfl ?_ | (refine gR fun K1 hK1 => ?_; simp only [go_sem, ↓reduceIte, reduceCtorEq, nA, nB, nC, nD, nE, nF] <;> and_intros <;> first | (apply hK1; clear hK1 K1) | (intros; first | omega | decide) | skip)))
    refine (c1 _ _).mono ?_; rintro _ hz ⟨rfl, hh⟩; apply hK1; clear hK1 K1; rw [hh]; clear hh hz
    (repeat (first | refine gO rfl ?_ | (refine gR fun K1 hK1 => ?_; simp only [go_sem, ↓reduceIte, reduceCtorEq, nA, nB, nC, nD, nE, nF] <;> and_intros <;> first | (apply hK1; clear hK1 K1) | (intros; first | omega | decide) | skip)))
    simp only [Tryz.results73, go_sem, ↓reduceIte, reduceCtorEq, nA, nB, nC, nD, nE, nF]
    exact ⟨_, _, Weak.refl _, Hp.le.refl _, by rw [cmpS, if_neg r2, if_neg r3, if_pos rfl], rfl⟩
   ·refine awp_cond (t := _) rfl (fun h9 => absurd (by simpa using h9) r4) (fun _ => ?_)
    (repeat (first | refine gO rfl ?_ | (refine gR fun K1 hK1 => ?_; simp only [go_sem, ↓reduceIte, reduceCtorEq, nA, nB, nC, nD, nE, nF] <;> and_intros <;> first | (apply hK1; clear hK1 K1) | (intros; first | omega | decide) | skip)))
    simp only [Tryz.results73, go_sem, ↓reduceIte, reduceCtorEq, nA, nB, nC, nD, nE, nF]
    exact ⟨_, _, Weak.refl _, Hp.le.refl _, by rw [cmpS, if_neg r2, if_neg r3, if_neg r4], rfl⟩
theorem g_orderS (hC : h.H si = some (.cells (encSt room rule came k S.length))) (hT : h.T k = some (.cont 5 (S.map encSk))) (hl : S.length ≤ 12) :
  ACalls Tryz.prog 25 [.ptr si 0] h (fun r h' => ∃ q, h.T q = none ∧ r = .arr 1 q (namS rule S).length ∧ h' = ⟨h.H, upd h.T q (some (.cont 1 ((namS rule S).map encS)))⟩) := by
 refine gE Tryz.func25 rfl (by kernel_rfl) 28 rfl fun c => ?_
 (repeat (first | refine gO rfl ?_ | (refine gM zM27 fun K1 hK1 => ?_; simp only [go_sem, ↓reduceIte, reduceCtorEq, nA, nB, nC, nD, nE, nF] <;> and_intros <;> first | (apply hK1; clear hK1 K1) | (intros; first | omega | decide) | skip)))
 intro b hb
 refine hK1 _ ?_; clear hK1 K1
 have hne : si ≠ b := by rintro rfl; rw [hC] at hb; cases hb
 have hC2 : upd h.H b (some (AO.cells [.ptr si 0])) si = some (.cells (encSt room rule came k S.length)) := by rw [upd_other _ _ hne]; exact hC
 have hb2 : upd h.H b (some (AO.cells [.ptr si 0])) b = some (.cells [.ptr si 0]) := upd_same _ _ _
 (repeat (first | refine gO rfl ?_ | (refine gM zM27 fun K1 hK1 => ?_; simp only [go_sem, ↓reduceIte, reduceCtorEq, nA, nB, nC, nD, nE, nF, hC2, hb2, encSt] <;> and_intros <;> first | (apply hK1; clear hK1 K1) | (intros; first | omega | decide) | skip)))
 refine (g_clS k S ⟨upd h.H b (some (AO.cells [.ptr si 0])), h.T⟩ hT (by omega)).mono ?_
 rintro _ _ ⟨q, rfl, hq, rfl⟩
 refine hK1 _ ?_; clear hK1 K1
 replace hq : h.T q = none := hq
 (repeat (first | refine gO rfl ?_ | (refine gM zM27 fun K1 hK1 => ?_; simp only [go_sem, ↓reduceIte, reduceCtorEq, nA, nB, nC, nD, nE, nF] <;> and_intros <;> first | (apply hK1; clear hK1 K1) | (intros; first | omega | decide) | skip)))
 refine (g_delF (fun x : Sk => x.2.2.2.2) q S ⟨upd h.H b (some (AO.cells [.ptr si 0])), upd h.T q (some (.cont 5 (S.map encSk)))⟩ (upd_same _ _ _) (by omega) fun p _ T' => g_pinnedS p _).mono ?_
 rintro _ ⟨H2, T2⟩ ⟨q1, rfl, hH2, hT2, hk2⟩
 simp only at hH2 hT2 hk2
 subst hH2
 refine hK1 _ ?_; clear hK1 K1
 have hold : ∀ t, h.T t ≠ none → t ≠ q1 ∧ T2 t = h.T t := fun t ht => by
  have htq : t ≠ q := by rintro rfl; exact ht hq
  have h9 := hk2 t htq (by rw [upd_other _ _ htq]; exact ht)
  rw [upd_other _ _ htq] at h9
  exact h9
 clear hk2
 obtain ⟨F, hF⟩ : ∃ F, S.filter (fun x => !x.2.2.2.2) = F := ⟨_, rfl⟩
 have hFl : F.length ≤ 12 := by rw [← hF]; exact Nat.le_trans (List.length_filter_le _ _) hl
 have hnm : namS rule S = (sortI (cmpS rule) F).map fun x => x.1 := by unfold namS; rw [hF]
 rw [hF] at hT2 ⊢
 rw [hnm]
 clear hF hnm
 (repeat (first | refine gO rfl ?_ | (refine gM zM27 fun K1 hK1 => ?_; simp only [go_sem, ↓reduceIte, reduceCtorEq, nA, nB, nC, nD, nE, nF] <;> and_intros <;> first | (apply hK1; clear hK1 K1) | (intros; first | omega | decide) | skip)))
 refine (g_srtS (cmpS rule) q1 F ⟨upd h.H b (some (AO.cells [.ptr si 0])), T2⟩ hT2 hFl fun x _ y _ T' => g_cmpS x y b hb2 hC2).mono ?_; rintro _ hz ⟨rfl, hh⟩; apply hK1; clear hK1 K1; rw [hh]; clear hh hz
 have hZl : (sortI (cmpS rule) F).length = F.length := sortI_len _ _
 generalize sortI (cmpS rule) F = Z at hZl ⊢
 rw [← hZl]
 have hml : (Z.map encSk).length = Z.length := List.length_map _
 obtain ⟨T3, hT3⟩ : ∃ T3, T3 = upd T2 q1 (some (TO.cont 5 (Z.map encSk))) := ⟨_, rfl⟩
 have h3q : T3 q1 = some (TO.cont 5 (Z.map encSk)) := by rw [hT3]; exact upd_same _ _ _
 have h3o : ∀ t, h.T t ≠ none → T3 t = h.T t := fun t ht => by
  rw [hT3, upd_other _ _ (hold t ht).1]; exact (hold t ht).2
 rw [← hT3]
 clear hT3 hold hT2
 (repeat (first | refine gQ rfl ?_ | (refine gM zM27 fun K1 hK1 => ?_; simp only [go_sem, ↓reduceIte, reduceCtorEq, nA, nB, nC, nD, nE, nF] <;> and_intros <;> first | (apply hK1; clear hK1 K1) | (intros; first | omega | decide | (simp_all <;> omega)) | skip)))
 refine awp_seq ?_
 refine awp_ownA 4 1 rfl ⟨rfl, rfl⟩ (fun q4 hq4 => ?_)
 replace hq4 : T3 q4 = none := hq4
 have hne4 : q1 ≠ q4 := by rintro rfl; rw [h3q] at hq4; cases hq4
 (repeat (first | refine gO rfl ?_ | (refine gM zM27 fun K1 hK1 => ?_; simp only [go_sem, ↓reduceIte, reduceCtorEq, nA, nB, nC, nD, nE, nF, hml] <;> and_intros <;> first | (apply hK1; clear hK1 K1) | (intros; first | omega | decide) | skip)))
 refine awp_loopC (rl false [4, 1, 11, 3, 10]) 0 (fun g s => ∃ (j : Nat) (ys : List ByteArray), g + j = Z.length ∧ ys.length = j ∧ ys = (Z.take j).map (fun x => x.1) ∧
  s = ⟨((jnk 4 ((.arr 1 q4 j) :: (jnk 11 ((.arr 5 q1 Z.length) :: (.v (.int .i64 Z.length)) :: (.v (.int .i64 j)) :: (jnk 10 [])))))), [], ⟨upd h.H b (some (AO.cells [.ptr si 0])), upd T3 q4 (some (.cont 1 (ys.map encS)))⟩⟩) Z.length ⟨0, [], by omega, rfl, rfl, rfl⟩ ?_
 rintro g _ ⟨j, ys, hj, hyl, hys, rfl⟩
 have hTq : upd T3 q4 (some (TO.cont 1 (ys.map encS))) q4 = some (TO.cont 1 (ys.map encS)) := upd_same _ _ _
 have hTz : upd T3 q4 (some (TO.cont 1 (ys.map encS))) q1 = some (TO.cont 5 (Z.map encSk)) := by rw [upd_other _ _ hne4]; exact h3q
 have hym : (ys.map encS).length = j := by rw [List.length_map, hyl]
 (repeat (first | refine gO rfl ?_ | (refine gM zM27 fun K1 hK1 => ?_; simp only [go_sem, ↓reduceIte, reduceCtorEq, nA, nB, nC, nD, nE, nF] <;> and_intros <;> first | (apply hK1; clear hK1 K1) | (intros; first | omega | decide) | skip)))
 refine awp_cond (t := _) rfl (fun h5 => ?_) (fun h5 => ?_)
 ·simp only [decide_eq_true_eq] at h5
  have hjl : j < Z.length := by omega
  have gx : (Z.map encSk).getD j [] = encSk Z[j] := by rw [List.getD_eq_getElem?_getD, List.getElem?_map, List.getElem?_eq_getElem hjl]; rfl
  have htk : (Z.take (j + 1)).map (fun x => x.1) = ys ++ [Z[j].1] := by rw [List.take_succ_eq_append_getElem hjl, List.map_append, ← hys]; rfl
  generalize Z[j] = x at *
  (repeat (first | refine gO rfl ?_ | (refine gM zM27 fun K1 hK1 => ?_; simp only [go_sem, ↓reduceIte, reduceCtorEq, nA, nB, nC, nD, nE, nF, hTz, hml, Int.toNat_natCast, gx, encSk, hTq, hym] <;> and_intros <;> first | (apply hK1; clear hK1 K1) | (intros; first | omega | decide) | skip)))
  refine ⟨g - 1, by omega, j + 1, ys ++ [x.1], by omega, by simp [hyl], htk.symm, ?_⟩
  have e3 : (ys ++ [x.1]).map encS = ys.map encS ++ [[.v (.string x.1)]] := by rw [List.map_append]; rfl
  rw [e3]
  (try simp only [upd_upd])
  rfl
 ·simp only [decide_eq_false_iff_not] at h5
  have hjl : j = Z.length := by omega
  subst hjl
  rw [List.take_length] at hys
  (repeat (first | refine gO rfl ?_ | (refine gM zM27 fun K1 hK1 => ?_; simp only [go_sem, ↓reduceIte, reduceCtorEq, nA, nB, nC, nD, nE, nF] <;> and_intros <;> first | (apply hK1; clear hK1 K1) | (intros; first | omega | decide) | skip)))
  simp only [Tryz.results25, go_sem, ↓reduceIte, reduceCtorEq, nA, nB, nC, nD, nE, nF]
  refine ⟨_, ⟨h.H, upd h.T q4 (some (.cont 1 (ys.map encS)))⟩, Weak.refl _, ⟨fun t => ?_, fun t => ?_⟩, q4, ?_, by first | rfl | rw [List.length_map], by rw [hys]⟩
  ·by_cases e : t = b
   ·subst e; exact .inl hb
   ·exact .inr (by show h.H t = upd h.H b _ t; rw [upd_other _ _ e])
  ·show upd h.T q4 _ t = none ∨ upd h.T q4 _ t = upd T3 q4 _ t
   by_cases e : t = q4
   ·subst e; exact .inr (by rw [upd_same, upd_same])
   ·rw [upd_other _ _ e, upd_other _ _ e]
    by_cases e2 : h.T t = none
    ·exact .inl e2
    ·exact .inr (h3o t e2).symm
  ·cases e : h.T q4 with
   | none => rfl
   | some x => rw [h3o q4 (by rw [e]; simp), e] at hq4; cases hq4
end
open Go
set_option linter.unusedVariables false
set_option linter.unusedSimpArgs false
open Nat renaming reduceAdd → nA, reduceSub → nB, reduceMul → nC, reduceLT → nD, reduceLeDiff → nE, reduceEqDiff → nF, reduceMod → nG, reduceDiv → nH, reducePow → nI
abbrev zPDE : List Nat := [0, 1, 2, 3, 4, 5, 6, 7, 9, 10]
abbrev zPDP : List (Nat × List Nat × List Nat) := [(8, [9], []), (11, [], [12, 13]), (14, [], [])]
attribute [go_sem] zPDE zPDP
set_option maxRecDepth 100000
set_option maxHeartbeats 8000000
def bumpS (x : Sk) : Sk := (x.1, x.2.1, x.2.2.1 + 1, x.2.2.2.1, x.2.2.2.2)
def askS (i : Nat) (x : Sk) (S : List Sk) : List Sk := S.take i ++ S.drop (i + 1) ++ [bumpS x]
section
variable {room rule came : Int} {k si : Nat} {S : List Sk} {h : Hp} {item : ByteArray}
theorem g_askN (hC : h.H si = some (.cells (encSt room rule came k S.length))) (hT : h.T k = some (.cont 5 (S.map encSk))) (hl : S.length ≤ 1000) (hs : item.size ≤ 1000) (hn : keyB item = false ∨ idxS (isIt item) S = -1) :
  ACalls Tryz.prog 20 [.ptr si 0, .v (.string item)] h (fun r h' => r = .tup [.v (.bool false), .v (.int .i64 (if keyB item = true then 0 else 5))] ∧ h' = h) := by
 have hK := a_key item (by omega) h
 have hA := g_at item hC hT hl
 refine gE Tryz.func20 rfl (by kernel_rfl) 39 rfl fun c => ?_
 (repeat (first | refine gO rfl ?_ | ((first | refine gM zM28 ?_ | (with_reducible refine wM ?_ ?_) | ((with_reducible refine xS ?_); refine uD 8 zM28 zPDE zPDP 41 rfl (by kernel_rfl) ?_)) <;> ((try with_reducible intro K1 hK1); simp only [go_sem, ↓reduceIte, reduceCtorEq, nA, nB, nC, nD, nE, nF] <;> and_intros <;> first | (apply hK1; clear hK1 K1) | (intros; first | omega | decide) | skip))))
 refine hK.mono ?_; rintro _ hz ⟨rfl, hh⟩; apply hK1; clear hK1 K1; rw [hh]; clear hh hz
 cases hk : keyB item with
 | false =>
  (repeat (first | refine gO rfl ?_ | ((first | refine gM zM28 ?_ | (with_reducible refine wM ?_ ?_) | ((with_reducible refine xS ?_); refine uD 8 zM28 zPDE zPDP 41 rfl (by kernel_rfl) ?_)) <;> ((try with_reducible intro K1 hK1); simp only [go_sem, ↓reduceIte, reduceCtorEq, nA, nB, nC, nD, nE, nF, Bool.not_false] <;> and_intros <;> first | (apply hK1; clear hK1 K1) | (intros; first | omega | decide) | skip))))
  refine awp_cond (t := _) rfl (fun _ => ?_) (fun h9 => by cases h9)
  (repeat (first | refine gO rfl ?_ | ((first | refine gM zM28 ?_ | (with_reducible refine wM ?_ ?_) | ((with_reducible refine xS ?_); refine uD 8 zM28 zPDE zPDP 41 rfl (by kernel_rfl) ?_)) <;> ((try with_reducible intro K1 hK1); simp only [go_sem, ↓reduceIte, reduceCtorEq, nA, nB, nC, nD, nE, nF] <;> and_intros <;> first | (apply hK1; clear hK1 K1) | (intros; first | omega | decide) | skip))))
  simp only [Tryz.results20, go_sem, ↓reduceIte, reduceCtorEq, nA, nB, nC, nD, nE, nF]
  exact ⟨_, _, Weak.refl _, Hp.le.refl _, rfl, rfl⟩
 | true =>
  have hi : idxS (isIt item) S = -1 := hn.resolve_left (by rw [hk]; decide)
  rw [hi] at hA
  (repeat (first | refine gO rfl ?_ | ((first | refine gM zM28 ?_ | (with_reducible refine wM ?_ ?_) | ((with_reducible refine xS ?_); refine uD 8 zM28 zPDE zPDP 41 rfl (by kernel_rfl) ?_)) <;> ((try with_reducible intro K1 hK1); simp only [go_sem, ↓reduceIte, reduceCtorEq, nA, nB, nC, nD, nE, nF, Bool.not_true] <;> and_intros <;> first | (apply hK1; clear hK1 K1) | (intros; first | omega | decide) | skip))))
  refine awp_cond (t := _) rfl (fun h9 => by cases h9) (fun _ => ?_)
  (repeat (first | refine gO rfl ?_ | ((first | refine gM zM28 ?_ | (with_reducible refine wM ?_ ?_) | ((with_reducible refine xS ?_); refine uD 8 zM28 zPDE zPDP 41 rfl (by kernel_rfl) ?_)) <;> ((try with_reducible intro K1 hK1); simp only [go_sem, ↓reduceIte, reduceCtorEq, nA, nB, nC, nD, nE, nF] <;> and_intros <;> first | (apply hK1; clear hK1 K1) | (intros; first | omega | decide) | skip))))
  refine hA.mono ?_; rintro _ hz ⟨rfl, hh⟩; apply hK1; clear hK1 K1; rw [hh]; clear hh hz
  (repeat (first | refine gO rfl ?_ | ((first | refine gM zM28 ?_ | (with_reducible refine wM ?_ ?_) | ((with_reducible refine xS ?_); refine uD 8 zM28 zPDE zPDP 41 rfl (by kernel_rfl) ?_)) <;> ((try with_reducible intro K1 hK1); simp only [go_sem, ↓reduceIte, reduceCtorEq, nA, nB, nC, nD, nE, nF] <;> and_intros <;> first | (apply hK1; clear hK1 K1) | (intros; first | omega | decide) | skip))))
  refine awp_cond (t := _) rfl (fun _ => ?_) (fun h9 => by cases h9)
  (repeat (first | refine gO rfl ?_ | ((first | refine gM zM28 ?_ | (with_reducible refine wM ?_ ?_) | ((with_reducible refine xS ?_); refine uD 8 zM28 zPDE zPDP 41 rfl (by kernel_rfl) ?_)) <;> ((try with_reducible intro K1 hK1); simp only [go_sem, ↓reduceIte, reduceCtorEq, nA, nB, nC, nD, nE, nF] <;> and_intros <;> first | (apply hK1; clear hK1 K1) | (intros; first | omega | decide) | skip))))
  simp only [Tryz.results20, go_sem, ↓reduceIte, reduceCtorEq, nA, nB, nC, nD, nE, nF]
  exact ⟨_, _, Weak.refl _, Hp.le.refl _, rfl, rfl⟩
theorem g_askY {i : Nat} {x : Sk} (hC : h.H si = some (.cells (encSt room rule came k S.length))) (hT : h.T k = some (.cont 5 (S.map encSk))) (hl : S.length ≤ 1000) (hs : item.size ≤ 1000) (hk : keyB item = true) (hi : idxS (isIt item) S = i) (hx : S[i]? = some x) (hm : 0 ≤ x.2.2.1 ∧ x.2.2.1 ≤ 1000000000) :
  ACalls Tryz.prog 20 [.ptr si 0, .v (.string item)] h (fun r h' => ∃ k2, h.T k2 = none ∧ r = .tup [.v (.bool true), .v (.int .i64 0)] ∧
   h' = ⟨upd h.H si (some (.cells (encSt room rule came k2 (askS i x S).length))), upd (upd h.T k none) k2 (some (.cont 5 ((askS i x S).map encSk)))⟩) := by
 have hK := a_key item (by omega) h
 have hA := g_at item hC hT hl
 rw [hk] at hK
 rw [hi] at hA
 have hml : (S.map encSk).length = S.length := List.length_map _
 have hil : i < S.length := (List.getElem?_eq_some_iff.1 hx).1
 have gx : (S.map encSk).getD i [] = encSk x := by rw [List.getD_eq_getElem?_getD, List.getElem?_map, hx]; rfl
 have d0 : decide ((i : Int) < 0) = false := decide_eq_false (by omega)
 have hD := g_delS (S.map encSk) k i h hT (by omega) (by omega)
 rw [hml] at hD
 refine gE Tryz.func20 rfl (by kernel_rfl) 39 rfl fun c => ?_
 (repeat (first | refine gO rfl ?_ | ((first | refine gM zM28 ?_ | (with_reducible refine wM ?_ ?_) | ((with_reducible refine xS ?_); refine uD 8 zM28 zPDE zPDP 41 rfl (by kernel_rfl) ?_)) <;> ((try with_reducible intro K1 hK1); simp only [go_sem, ↓reduceIte, reduceCtorEq, nA, nB, nC, nD, nE, nF] <;> and_intros <;> first | (apply hK1; clear hK1 K1) | (intros; first | omega | decide) | skip))))
 refine hK.mono ?_; rintro _ hz ⟨rfl, hh⟩; apply hK1; clear hK1 K1; rw [hh]; clear hh hz
 (repeat (first | refine gO rfl ?_ | ((first | refine gM zM28 ?_ | (with_reducible refine wM ?_ ?_) | ((with_reducible refine xS ?_); refine uD 8 zM28 zPDE zPDP 41 rfl (by kernel_rfl) ?_)) <;> ((try with_reducible intro K1 hK1); simp only [go_sem, ↓reduceIte, reduceCtorEq, nA, nB, nC, nD, nE, nF, Bool.not_true] <;> and_intros <;> first | (apply hK1; clear hK1 K1) | (intros; first | omega | decide) | skip))))
 refine awp_cond (t := _) rfl (fun h9 => by cases h9) (fun _ => ?_)
 (repeat (first | refine gO rfl ?_ | ((first | refine gM zM28 ?_ | (with_reducible refine wM ?_ ?_) | ((with_reducible refine xS ?_); refine uD 8 zM28 zPDE zPDP 41 rfl (by kernel_rfl) ?_)) <;> ((try with_reducible intro K1 hK1); simp only [go_sem, ↓reduceIte, reduceCtorEq, nA, nB, nC, nD, nE, nF] <;> and_intros <;> first | (apply hK1; clear hK1 K1) | (intros; first | omega | decide) | skip))))
 refine hA.mono ?_; rintro _ hz ⟨rfl, hh⟩; apply hK1; clear hK1 K1; rw [hh]; clear hh hz
 (repeat (first | refine gO rfl ?_ | ((first | refine gM zM28 ?_ | (with_reducible refine wM ?_ ?_) | ((with_reducible refine xS ?_); refine uD 8 zM28 zPDE zPDP 41 rfl (by kernel_rfl) ?_)) <;> ((try with_reducible intro K1 hK1); simp only [go_sem, ↓reduceIte, reduceCtorEq, nA, nB, nC, nD, nE, nF, d0] <;> and_intros <;> first | (apply hK1; clear hK1 K1) | (intros; first | omega | decide) | skip))))
 refine awp_cond (t := _) rfl (fun h9 => by cases h9) (fun _ => ?_)
 (repeat (first | refine gO rfl ?_ | ((first | refine gM zM28 ?_ | (with_reducible refine wM ?_ ?_) | ((with_reducible refine xS ?_); refine uD 8 zM28 zPDE zPDP 41 rfl (by kernel_rfl) ?_)) <;> ((try with_reducible intro K1 hK1); simp only [go_sem, ↓reduceIte, reduceCtorEq, nA, nB, nC, nD, nE, nF, hC, hT, hml, Int.toNat_natCast, gx, encSt, encSk] <;> and_intros <;> first | (apply hK1; clear hK1 K1) | (intros; first | omega | decide) | skip))))
 refine hD.mono ?_
 rintro _ _ ⟨k2, hk2, rfl, rfl⟩
 refine hK1 _ ?_; clear hK1 K1
 have hm2 : (S.map encSk).take i ++ (S.map encSk).drop (i + 1) = (S.take i ++ S.drop (i + 1)).map encSk := by rw [List.map_append, List.map_take, List.map_drop]
 have hYl : (S.take i ++ S.drop (i + 1)).length = S.length - 1 := by rw [List.length_append, List.length_take, List.length_drop]; omega
 have hask : askS i x S = (S.take i ++ S.drop (i + 1)) ++ [bumpS x] := rfl
 rw [hm2, hask]
 clear hask hm2
 generalize S.take i ++ S.drop (i + 1) = Y at hYl ⊢
 rw [← hYl]
 have hY : (Y.map encSk).length = Y.length := List.length_map _
 have hTk : upd (upd h.T k none) k2 (some (TO.cont 5 (Y.map encSk))) k2 = some (TO.cont 5 (Y.map encSk)) := upd_same _ _ _
 have hYb : (Y ++ [bumpS x]).map encSk = Y.map encSk ++ [[.v (.string x.1), .v (.int .i64 x.2.1), .v (.int .i64 (x.2.2.1 + 1)), .v (.int .i64 x.2.2.2.1), .v (.bool x.2.2.2.2)]] := by rw [List.map_append]; rfl
 have hYn : (Y ++ [bumpS x]).length = Y.length + 1 := by simp
 (repeat (first | refine gO rfl ?_ | ((first | refine gM zM28 ?_ | (with_reducible refine wM ?_ ?_) | ((with_reducible refine xS ?_); refine uD 8 zM28 zPDE zPDP 41 rfl (by kernel_rfl) ?_)) <;> ((try with_reducible intro K1 hK1); simp only [go_sem, ↓reduceIte, reduceCtorEq, nA, nB, nC, nD, nE, nF, hC, encSt, hTk, hY] <;> and_intros <;> first | (apply hK1; clear hK1 K1) | (intros; first | omega | decide) | skip))))
 all_goals try with_reducible rfl
 (repeat (first | refine gO rfl ?_ | ((first | refine gM zM28 ?_ | (with_reducible refine wM ?_ ?_) | ((with_reducible refine xS ?_); refine uD 8 zM28 zPDE zPDP 41 rfl (by kernel_rfl) ?_)) <;> ((try with_reducible intro K1 hK1); simp only [go_sem, ↓reduceIte, reduceCtorEq, nA, nB, nC, nD, nE, nF, hC, encSt, hTk, hY] <;> and_intros <;> first | (apply hK1; clear hK1 K1) | (intros; first | omega | decide) | skip))))
 simp only [Tryz.results20, go_sem, ↓reduceIte, reduceCtorEq, nA, nB, nC, nD, nE, nF]
 refine ⟨_, _, Weak.refl _, Hp.le.refl _, k2, hk2, rfl, ?_⟩
 rw [hYb, hYn]
 (try simp only [upd_upd])
 rfl
def pinS (on : Bool) (x : Sk) : Sk := (x.1, x.2.1, x.2.2.1, x.2.2.2.1, on)
def pinE (item : ByteArray) (on : Bool) (S : List Sk) : Int := if keyB item = false then 5 else match S.find? (isIt item) with
 | none => 8
 | some x => if x.2.2.2.2 = on then 11 else 0
theorem find_idx (item : ByteArray) (S : List Sk) : (idxS (isIt item) S = -1 ∧ S.find? (isIt item) = none) ∨ ∃ (i : Nat) (x : Sk), idxS (isIt item) S = i ∧ S[i]? = some x ∧ x.1 = item ∧ S.find? (isIt item) = some x := by
 rcases idxS_cases (isIt item) S with ⟨h1, h2⟩ | ⟨j, h1, h2, h3, h4⟩
 ·exact .inl ⟨h2, List.find?_eq_none.2 fun x hx => by rw [h1 x hx]; decide⟩
 ·have e : S[j]? = some (S.getD j default) := by rw [List.getD_eq_getElem?_getD, List.getElem?_eq_getElem h1]; rfl
  refine .inr ⟨j, S.getD j default, h2, e, of_decide_eq_true h3, ?_⟩
  rw [List.find?_eq_some_iff_getElem]
  refine ⟨h3, j, h1, ?_, fun i hi => ?_⟩
  ·rw [List.getD_eq_getElem?_getD, List.getElem?_eq_getElem h1]; rfl
  ·have := h4 i hi
   rw [List.getD_eq_getElem?_getD, List.getElem?_eq_getElem (by omega)] at this
   simpa using this
theorem g_pinE (on : Bool) (hC : h.H si = some (.cells (encSt room rule came k S.length))) (hT : h.T k = some (.cont 5 (S.map encSk))) (hl : S.length ≤ 1000) (hs : item.size ≤ 1000) (hn : ¬ pinE item on S = 0) :
  ACalls Tryz.prog 23 [.ptr si 0, .v (.string item), .v (.bool on)] h (fun r h' => r = .v (.int .i64 (pinE item on S)) ∧ h' = h) := by
 have hK := a_key item (by omega) h
 have hA := g_at item hC hT hl
 have hml : (S.map encSk).length = S.length := List.length_map _
 unfold pinE at hn ⊢
 refine gE Tryz.func23 rfl (by kernel_rfl) 34 rfl fun c => ?_
 (repeat (first | refine gO rfl ?_ | (refine gR fun K1 hK1 => ?_; simp only [go_sem, ↓reduceIte, reduceCtorEq, nA, nB, nC, nD, nE, nF] <;> and_intros <;> first | (apply hK1; clear hK1 K1) | (intros; first | omega | decide) | skip)))
 refine hA.mono ?_; rintro _ hz ⟨rfl, hh⟩; apply hK1; clear hK1 K1; rw [hh]; clear hh hz
 (repeat (first | refine gO rfl ?_ | (refine gR fun K1 hK1 => ?_; simp only [go_sem, ↓reduceIte, reduceCtorEq, nA, nB, nC, nD, nE, nF] <;> and_intros <;> first | (apply hK1; clear hK1 K1) | (intros; first | omega | decide) | skip)))
 refine hK.mono ?_; rintro _ hz ⟨rfl, hh⟩; apply hK1; clear hK1 K1; rw [hh]; clear hh hz
 cases hk : keyB item with
 | false =>
  (repeat (first | refine gO rfl ?_ | (refine gR fun K1 hK1 => ?_; simp only [go_sem, ↓reduceIte, reduceCtorEq, nA, nB, nC, nD, nE, nF, Bool.not_false] <;> and_intros <;> first | (apply hK1; clear hK1 K1) | (intros; first | omega | decide) | skip)))
  refine awp_cond (t := _) rfl (fun _ => ?_) (fun h9 => by cases h9)
  (repeat (first | refine gO rfl ?_ | (refine gR fun K1 hK1 => ?_; simp only [go_sem, ↓reduceIte, reduceCtorEq, nA, nB, nC, nD, nE, nF] <;> and_intros <;> first | (apply hK1; clear hK1 K1) | (intros; first | omega | decide) | skip)))
  simp only [Tryz.results23, go_sem, ↓reduceIte, reduceCtorEq, nA, nB, nC, nD, nE, nF]
  exact ⟨_, _, Weak.refl _, Hp.le.refl _, rfl, rfl⟩
 | true =>
  rw [hk, if_neg (by decide)] at hn
  rw [if_neg (by decide)]
  (repeat (first | refine gO rfl ?_ | (refine gR fun K1 hK1 => ?_; simp only [go_sem, ↓reduceIte, reduceCtorEq, nA, nB, nC, nD, nE, nF, Bool.not_true] <;> and_intros <;> first | (apply hK1; clear hK1 K1) | (intros; first | omega | decide) | skip)))
  refine awp_cond (t := _) rfl (fun h9 => by cases h9) (fun _ => ?_)
  rcases find_idx item S with ⟨hi, hf⟩ | ⟨i, x, hi, hx, _, hf⟩
  ·rw [hi, hf]
   (repeat (first | refine gO rfl ?_ | (refine gR fun K1 hK1 => ?_; simp only [go_sem, ↓reduceIte, reduceCtorEq, nA, nB, nC, nD, nE, nF] <;> and_intros <;> first | (apply hK1; clear hK1 K1) | (intros; first | omega | decide) | skip)))
   refine awp_cond (t := _) rfl (fun _ => ?_) (fun h9 => by cases h9)
   (repeat (first | refine gO rfl ?_ | (refine gR fun K1 hK1 => ?_; simp only [go_sem, ↓reduceIte, reduceCtorEq, nA, nB, nC, nD, nE, nF] <;> and_intros <;> first | (apply hK1; clear hK1 K1) | (intros; first | omega | decide) | skip)))
   simp only [Tryz.results23, go_sem, ↓reduceIte, reduceCtorEq, nA, nB, nC, nD, nE, nF]
   exact ⟨_, _, Weak.refl _, Hp.le.refl _, rfl, rfl⟩
  ·rw [hi, hf]
   rw [hf] at hn
   simp only at hn ⊢
   have hil : i < S.length := (List.getElem?_eq_some_iff.1 hx).1
   have gx : (S.map encSk).getD i [] = encSk x := by rw [List.getD_eq_getElem?_getD, List.getElem?_map, hx]; rfl
   have d0 : decide ((i : Int) < 0) = false := decide_eq_false (by omega)
   have hon : x.2.2.2.2 = on := Classical.byContradiction fun e => hn (if_neg e)
   have hb : (x.2.2.2.2 == on) = true := by simp [hon]
   rw [if_pos hon]
   (repeat (first | refine gO rfl ?_ | (refine gR fun K1 hK1 => ?_; simp only [go_sem, ↓reduceIte, reduceCtorEq, nA, nB, nC, nD, nE, nF, d0] <;> and_intros <;> first | (apply hK1; clear hK1 K1) | (intros; first | omega | decide) | skip)))
   refine awp_cond (t := _) rfl (fun h9 => by cases h9) (fun _ => ?_)
   (repeat (first | refine gO rfl ?_ | (refine gR fun K1 hK1 => ?_; simp only [go_sem, ↓reduceIte, reduceCtorEq, nA, nB, nC, nD, nE, nF, hC, hT, hml, Int.toNat_natCast, gx, encSt, encSk, hb] <;> and_intros <;> first | (apply hK1; clear hK1 K1) | (intros; first | omega | decide) | skip)))
   refine awp_cond (t := _) rfl (fun _ => ?_) (fun h9 => by cases h9)
   (repeat (first | refine gO rfl ?_ | (refine gR fun K1 hK1 => ?_; simp only [go_sem, ↓reduceIte, reduceCtorEq, nA, nB, nC, nD, nE, nF] <;> and_intros <;> first | (apply hK1; clear hK1 K1) | (intros; first | omega | decide) | skip)))
   simp only [Tryz.results23, go_sem, ↓reduceIte, reduceCtorEq, nA, nB, nC, nD, nE, nF]
   exact ⟨_, _, Weak.refl _, Hp.le.refl _, rfl, rfl⟩
theorem g_pinY (on : Bool) {i : Nat} {x : Sk} (hC : h.H si = some (.cells (encSt room rule came k S.length))) (hT : h.T k = some (.cont 5 (S.map encSk))) (hl : S.length ≤ 1000) (hs : item.size ≤ 1000) (hk : keyB item = true) (hi : idxS (isIt item) S = i) (hx : S[i]? = some x) (hon : x.2.2.2.2 ≠ on) :
  ACalls Tryz.prog 23 [.ptr si 0, .v (.string item), .v (.bool on)] h (fun r h' => r = .v (.int .i64 0) ∧ h' = ⟨h.H, upd h.T k (some (.cont 5 ((S.set i (pinS on x)).map encSk)))⟩) := by
 have hK := a_key item (by omega) h
 have hA := g_at item hC hT hl
 rw [hk] at hK
 rw [hi] at hA
 have hml : (S.map encSk).length = S.length := List.length_map _
 have hil : i < S.length := (List.getElem?_eq_some_iff.1 hx).1
 have gx : (S.map encSk).getD i [] = encSk x := by rw [List.getD_eq_getElem?_getD, List.getElem?_map, hx]; rfl
 have d0 : decide ((i : Int) < 0) = false := decide_eq_false (by omega)
 have hb : (x.2.2.2.2 == on) = false := by simpa using hon
 have hst : (S.set i (pinS on x)).map encSk = (S.map encSk).set i [.v (.string x.1), .v (.int .i64 x.2.1), .v (.int .i64 x.2.2.1), .v (.int .i64 x.2.2.2.1), .v (.bool on)] := by rw [List.map_set]; rfl
 rw [hst]
 refine gE Tryz.func23 rfl (by kernel_rfl) 34 rfl fun c => ?_
 (repeat (first | refine gO rfl ?_ | (refine gR fun K1 hK1 => ?_; simp only [go_sem, ↓reduceIte, reduceCtorEq, nA, nB, nC, nD, nE, nF] <;> and_intros <;> first | (apply hK1; clear hK1 K1) | (intros; first | omega | decide) | skip)))
 refine hA.mono ?_; rintro _ hz ⟨rfl, hh⟩; apply hK1; clear hK1 K1; rw [hh]; clear hh hz
 (repeat (first | refine gO rfl ?_ | (refine gR fun K1 hK1 => ?_; simp only [go_sem, ↓reduceIte, reduceCtorEq, nA, nB, nC, nD, nE, nF] <;> and_intros <;> first | (apply hK1; clear hK1 K1) | (intros; first | omega | decide) | skip)))
 refine hK.mono ?_; rintro _ hz ⟨rfl, hh⟩; apply hK1; clear hK1 K1; rw [hh]; clear hh hz
 (repeat (first | refine gO rfl ?_ | (refine gR fun K1 hK1 => ?_; simp only [go_sem, ↓reduceIte, reduceCtorEq, nA, nB, nC, nD, nE, nF, Bool.not_true] <;> and_intros <;> first | (apply hK1; clear hK1 K1) | (intros; first | omega | decide) | skip)))
 refine awp_cond (t := _) rfl (fun h9 => by cases h9) (fun _ => ?_)
 (repeat (first | refine gO rfl ?_ | (refine gR fun K1 hK1 => ?_; simp only [go_sem, ↓reduceIte, reduceCtorEq, nA, nB, nC, nD, nE, nF, d0] <;> and_intros <;> first | (apply hK1; clear hK1 K1) | (intros; first | omega | decide) | skip)))
 refine awp_cond (t := _) rfl (fun h9 => by cases h9) (fun _ => ?_)
 (repeat (first | refine gO rfl ?_ | (refine gR fun K1 hK1 => ?_; simp only [go_sem, ↓reduceIte, reduceCtorEq, nA, nB, nC, nD, nE, nF, hC, hT, hml, Int.toNat_natCast, gx, encSt, encSk, hb] <;> and_intros <;> first | (apply hK1; clear hK1 K1) | (intros; first | omega | decide) | skip)))
 refine awp_cond (t := _) rfl (fun h9 => by cases h9) (fun _ => ?_)
 (repeat (first | refine gO rfl ?_ | (refine gR fun K1 hK1 => ?_; simp only [go_sem, ↓reduceIte, reduceCtorEq, nA, nB, nC, nD, nE, nF, hC, hT, hml, Int.toNat_natCast, gx, encSt, encSk, hb] <;> and_intros <;> first | (apply hK1; clear hK1 K1) | (intros; first | omega | decide) | skip)))
 simp only [Tryz.results23, go_sem, ↓reduceIte, reduceCtorEq, nA, nB, nC, nD, nE, nF]
 exact ⟨_, _, Weak.refl _, Hp.le.refl _, rfl, rfl⟩
end
open Go
set_option linter.unusedVariables false
set_option linter.unusedSimpArgs false
set_option maxRecDepth 100000
def setBS (bytes : Int) (x : Sk) : Sk := (x.1, bytes, x.2.2.1, x.2.2.2.1, x.2.2.2.2)
def inS (item : ByteArray) (bytes came : Int) (S : List Sk) : List Sk :=
  match S.find? (isIt item) with
  | some x => askS (idxS (isIt item) S).toNat (setBS bytes x) S
  | none => S ++ [(item, bytes, 1, came + 1, false)]
def cameS (item : ByteArray) (came : Int) (S : List Sk) : Int := if (S.find? (isIt item)).isSome = true then came else came + 1
def eraS (n : ByteArray) (S : List Sk) : List Sk := S.take (idxS (isIt n) S).toNat ++ S.drop ((idxS (isIt n) S).toNat + 1)
def evS (room rule : Int) (item : ByteArray) : Nat → List Sk → List ByteArray → Option (List Sk × List ByteArray)
  | 0, _, _ => none
  | f + 1, S, o => if room - sumS S < 0 then (match (namS rule S).filter (fun x => !decide (x = item)) with
    | [] => none
    | n :: _ => evS room rule item f (eraS n S) (o ++ [n])) else some (S, o)
section
variable {α : Type} {cf : α → α → Int}
theorem insR_sort (tr : ∀ a b c, cf a b < 0 → cf b c < 0 → cf a c < 0) : ∀ (r : List α) (x : α), r.Pairwise (fun a b => cf b a < 0) → (∀ y ∈ r, cf x y < 0 ∨ cf y x < 0) → (insR cf r x).Pairwise (fun a b => cf b a < 0)
  | [], _, _, _ => by simp [insR]
  | y :: r, x, h, ht => by
    obtain ⟨h1, h2⟩ := List.pairwise_cons.1 h
    unfold insR
    split
    · rename_i hc
      refine List.pairwise_cons.2 ⟨fun b hb => ?_, insR_sort tr r x h2 fun z hz => ht z (List.mem_cons_of_mem _ hz)⟩
      rcases List.mem_cons.1 ((insR_perm cf r x).mem_iff.1 hb) with rfl | hb
      · exact hc
      · exact h1 b hb
    · rename_i hc
      have hy := (ht y List.mem_cons_self).resolve_left hc
      refine List.pairwise_cons.2 ⟨fun b hb => ?_, h⟩
      rcases List.mem_cons.1 hb with rfl | hb
      · exact hy
      · exact tr _ _ _ (h1 b hb) hy
theorem foldI_sort (tr : ∀ a b c, cf a b < 0 → cf b c < 0 → cf a c < 0) : ∀ (xs r : List α), r.Pairwise (fun a b => cf b a < 0) → xs.Pairwise (fun a b => cf a b < 0 ∨ cf b a < 0) → (∀ x ∈ xs, ∀ y ∈ r, cf x y < 0 ∨ cf y x < 0) → (xs.foldl (insR cf) r).Pairwise (fun a b => cf b a < 0)
  | [], _, h, _, _ => h
  | x :: xs, r, h, hp, hx => by
    obtain ⟨h1, h2⟩ := List.pairwise_cons.1 hp
    refine foldI_sort tr xs _ (insR_sort tr r x h (hx x List.mem_cons_self)) h2 fun z hz y hy => ?_
    rcases List.mem_cons.1 ((insR_perm cf r x).mem_iff.1 hy) with rfl | hy
    · exact (h1 z hz).symm
    · exact hx z (List.mem_cons_of_mem _ hz) y hy
theorem sortI_sort (tr : ∀ a b c, cf a b < 0 → cf b c < 0 → cf a c < 0) {xs : List α} (h : xs.Pairwise (fun a b => cf a b < 0 ∨ cf b a < 0)) : (sortI cf xs).Pairwise (fun a b => cf a b < 0) := by
  unfold sortI
  rw [List.pairwise_reverse]
  exact foldI_sort tr xs [] List.Pairwise.nil h fun _ _ y hy => by cases hy
theorem sorted_one (tr : ∀ a b c, cf a b < 0 → cf b c < 0 → cf a c < 0) (ir : ∀ a, ¬ cf a a < 0) {l l' : List α} (h : l.Pairwise (fun a b => cf a b < 0)) (h' : l'.Pairwise (fun a b => cf a b < 0)) (hp : l.Perm l') : l = l' :=
  List.Perm.eq_of_pairwise (fun a b _ _ h1 h2 => absurd (tr _ _ _ h1 h2) (ir a)) h h' hp
theorem sortI_one (tr : ∀ a b c, cf a b < 0 → cf b c < 0 → cf a c < 0) (ir : ∀ a, ¬ cf a a < 0) {l l' : List α} (h : l.Pairwise (fun a b => cf a b < 0 ∨ cf b a < 0)) (hp : l.Perm l') : sortI cf l = sortI cf l' :=
  sorted_one tr ir (sortI_sort tr h) (sortI_sort tr (h.perm hp fun h => h.symm)) ((sortI_perm cf l).trans (hp.trans (sortI_perm cf l').symm))
theorem sortI_filter (tr : ∀ a b c, cf a b < 0 → cf b c < 0 → cf a c < 0) (ir : ∀ a, ¬ cf a a < 0) {l : List α} (h : l.Pairwise (fun a b => cf a b < 0 ∨ cf b a < 0)) (p : α → Bool) : (sortI cf l).filter p = sortI cf (l.filter p) :=
  sorted_one tr ir ((sortI_sort tr h).filter p) (sortI_sort tr (h.filter p)) (((sortI_perm cf l).filter p).trans (sortI_perm cf (l.filter p)).symm)
theorem insR_same {cg : α → α → Int} : ∀ (r : List α) (x : α), (∀ y ∈ r, cf x y < 0 ↔ cg x y < 0) → insR cf r x = insR cg r x
  | [], _, _ => rfl
  | y :: r, x, h => by
    unfold insR
    rw [insR_same r x fun z hz => h z (List.mem_cons_of_mem _ hz)]
    by_cases e : cf x y < 0
    · rw [if_pos e, if_pos ((h y List.mem_cons_self).1 e)]
    · rw [if_neg e, if_neg fun e2 => e ((h y List.mem_cons_self).2 e2)]
theorem foldI_same {cg : α → α → Int} : ∀ (xs r : List α), xs.Pairwise (fun a b => cf b a < 0 ↔ cg b a < 0) → (∀ x ∈ xs, ∀ y ∈ r, cf x y < 0 ↔ cg x y < 0) → xs.foldl (insR cf) r = xs.foldl (insR cg) r
  | [], _, _, _ => rfl
  | x :: xs, r, h, hx => by
    obtain ⟨h1, h2⟩ := List.pairwise_cons.1 h
    rw [List.foldl_cons, List.foldl_cons, insR_same r x (hx x List.mem_cons_self)]
    refine foldI_same xs _ h2 fun z hz y hy => ?_
    rcases List.mem_cons.1 ((insR_perm cg r x).mem_iff.1 hy) with rfl | hy
    · exact h1 z hz
    · exact hx z (List.mem_cons_of_mem _ hz) y hy
theorem sortI_same {cg : α → α → Int} {xs : List α} (h : xs.Pairwise (fun a b => cf b a < 0 ↔ cg b a < 0)) : sortI cf xs = sortI cg xs := by
  unfold sortI insS
  rw [foldI_same xs [] h fun _ _ y hy => by cases hy]
end
theorem cut_filter {α : Type} (k : α → ByteArray) : ∀ (l : List α) (i : Nat) (x : α), l.Pairwise (fun a b => k a ≠ k b) → l[i]? = some x → l.take i ++ l.drop (i + 1) = l.filter fun y => !decide (k y = k x)
  | [], i, x, _, h => by simp at h
  | a :: l, 0, x, hp, h => by
    obtain ⟨h1, _⟩ := List.pairwise_cons.1 hp
    simp only [List.getElem?_cons_zero, Option.some.injEq] at h
    subst h
    have : l.filter (fun y => !decide (k y = k a)) = l := List.filter_eq_self.2 fun y hy => by rw [Bool.not_eq_eq_eq_not, Bool.not_true, decide_eq_false_iff_not]; exact fun e => h1 y hy e.symm
    simp [this]
  | a :: l, i + 1, x, hp, h => by
    obtain ⟨h1, h2⟩ := List.pairwise_cons.1 hp
    simp only [List.getElem?_cons_succ] at h
    have hx : x ∈ l := List.mem_of_getElem? h
    have := cut_filter k l i x h2 h
    rw [List.filter_cons, if_pos (by simp [h1 x hx]), ← this]
    simp
def keyK (rule : Int) (x : Kp) : Int := if rule = 2 then x.2.2.2.2.2 else if rule = 3 then x.2.2.2.1 else if rule = 4 then - x.2.1 else 0
def keyS (rule : Int) (x : Sk) : Int := if rule = 2 then x.2.2.1 else if rule = 3 then x.2.2.2.1 else if rule = 4 then - x.2.1 else 0
theorem cmpK_lt (rule : Int) (x y : Kp) : cmpK rule x y < 0 ↔ keyK rule x < keyK rule y ∨ (keyK rule x = keyK rule y ∧ x.2.2.2.2.1 < y.2.2.2.2.1) := by
  unfold cmpK keyK cmpI
  by_cases h2 : rule = 2
  · subst h2; simp only [if_true]; split <;> split <;> (try split) <;> (try split) <;> omega
  by_cases h3 : rule = 3
  · subst h3; simp only [if_true, show ¬ (3 : Int) = 2 by decide, if_false]; split <;> split <;> (try split) <;> (try split) <;> omega
  by_cases h4 : rule = 4
  · subst h4; simp only [if_true, show ¬ (4 : Int) = 2 by decide, show ¬ (4 : Int) = 3 by decide, if_false]; split <;> split <;> (try split) <;> (try split) <;> omega
  · simp only [h2, h3, h4, if_true, if_false]; split <;> (try split) <;> simp <;> omega
theorem cmpS_lt (rule : Int) (x y : Sk) : cmpS rule x y < 0 ↔ keyS rule x < keyS rule y := by
  unfold cmpS keyS cmpI
  by_cases h2 : rule = 2
  · subst h2; simp only [if_true]; split <;> (try split) <;> omega
  by_cases h3 : rule = 3
  · subst h3; simp only [if_true, show ¬ (3 : Int) = 2 by decide, if_false]; split <;> (try split) <;> omega
  by_cases h4 : rule = 4
  · subst h4; simp only [if_true, show ¬ (4 : Int) = 2 by decide, show ¬ (4 : Int) = 3 by decide, if_false]; split <;> (try split) <;> omega
  · simp only [h2, h3, h4, if_false]
theorem cmpK_tr (rule : Int) (a b c : Kp) (h1 : cmpK rule a b < 0) (h2 : cmpK rule b c < 0) : cmpK rule a c < 0 := by
  rw [cmpK_lt] at *; omega
theorem cmpK_ir (rule : Int) (a : Kp) : ¬ cmpK rule a a < 0 := by rw [cmpK_lt]; omega
theorem cmpK_tot (rule : Int) {l : List Kp} (h : l.Pairwise fun a b => a.2.2.2.2.1 ≠ b.2.2.2.2.1) : l.Pairwise (fun a b => cmpK rule a b < 0 ∨ cmpK rule b a < 0) :=
  h.imp fun {a b} hn => by rw [cmpK_lt, cmpK_lt]; omega
theorem orderL_one2 (rule : Int) {l l' : List Kp} (h : l.Pairwise fun a b => a.2.2.2.2.1 ≠ b.2.2.2.2.1) (hp : l.Perm l') : orderL rule l = orderL rule l' :=
  sortI_one (cmpK_tr rule) (cmpK_ir rule) (cmpK_tot rule (h.filter _)) (hp.filter _)
theorem orderL_filter (rule : Int) {l : List Kp} (h : l.Pairwise fun a b => a.2.2.2.2.1 ≠ b.2.2.2.2.1) (p : Kp → Bool) : (orderL rule l).filter p = orderL rule (l.filter p) := by
  unfold orderL
  rw [sortI_filter (cmpK_tr rule) (cmpK_ir rule) (cmpK_tot rule (h.filter _)), List.filter_filter, List.filter_filter]
  congr 1; congr 1; funext x; exact Bool.and_comm _ _
abbrev Pr := Kp × Sk
structure Agr (names : List ByteArray) (now came : Int) (p : Pr) : Prop where
  key : p.1.1 = p.2.1
  bytes : p.1.2.1 = p.2.2.1
  pin : p.1.2.2.1 = p.2.2.2.2.2
  many : p.1.2.2.2.2.2 = p.2.2.2.1
  last : p.1.2.2.2.2.1 ≤ now
  kc : p.1.2.2.2.1 ≤ now
  first : p.2.2.2.2.1 ≤ came
  b : 1 ≤ p.1.2.1 ∧ p.1.2.1 ≤ 1000
  m : 0 ≤ p.1.2.2.2.2.2 ∧ p.1.2.2.2.2.2 ≤ now
  nm : p.1.1 ∈ names
structure Row2 (names : List ByteArray) (now came : Int) (P : List Pr) : Prop where
  agr : ∀ p ∈ P, Agr names now came p
  last : P.Pairwise fun p q => p.1.2.2.2.2.1 < q.1.2.2.2.2.1
  cam : ∀ p ∈ P, ∀ q ∈ P, (p.1.2.2.2.1 < q.1.2.2.2.1 ↔ p.2.2.2.2.1 < q.2.2.2.2.1)
  keys : P.Pairwise fun p q => p.2.1 ≠ q.2.1
structure SimP (names : List ByteArray) (now came : Int) (L : List Kp) (S : List Sk) (P : List Pr) : Prop extends Row2 names now came P where
  perm : (P.map Prod.fst).Perm L
  snd : P.map Prod.snd = S
section
variable {names : List ByteArray} {now came room rule : Int} {P : List Pr} {L : List Kp} {S : List Sk}
theorem Row2.sub (h : Row2 names now came P) (f : Pr → Bool) : Row2 names now came (P.filter f) :=
  ⟨fun p hp => h.agr p (List.mem_filter.1 hp).1, h.last.filter _, fun p hp q hq => h.cam p (List.mem_filter.1 hp).1 q (List.mem_filter.1 hq).1, h.keys.filter _⟩
theorem Row2.lne (h : Row2 names now came P) : (P.map Prod.fst).Pairwise fun a b => a.2.2.2.2.1 ≠ b.2.2.2.2.1 := by
  rw [List.pairwise_map]; exact h.last.imp fun hn => by omega
theorem Row2.order (h : Row2 names now came P) (rule : Int) : (orderL rule (P.map Prod.fst)).map (·.1) = namS rule (P.map Prod.snd) := by
  unfold orderL namS
  have e1 : (P.map Prod.fst).filter (fun x => !x.2.2.1) = (P.filter fun p => !p.1.2.2.1).map Prod.fst := List.filter_map ..
  have e2 : (P.map Prod.snd).filter (fun x => !x.2.2.2.2) = (P.filter fun p => !p.1.2.2.1).map Prod.snd := by
    rw [List.filter_map]
    congr 1
    exact List.filter_congr fun p hp => by show (!p.2.2.2.2.2) = _; rw [(h.agr p hp).pin]
  have hQ := h.sub fun p => !p.1.2.2.1
  rw [e1, e2]
  generalize (P.filter fun p => !p.1.2.2.1) = Q at *
  rw [← sortI_map, ← sortI_map, sortI_same (cg := fun a b => cmpS rule a.2 b.2), List.map_map, List.map_map]
  · exact List.map_congr_left fun p hp => (hQ.agr p ((sortI_perm _ _).mem_iff.1 hp)).key
  · have h9 : Q.Pairwise fun a b => (a ∈ Q ∧ b ∈ Q) ∧ a.1.2.2.2.2.1 < b.1.2.2.2.2.1 := by
      rw [List.pairwise_iff_forall_sublist]
      intro a b hs
      have h8 := hs.subset
      exact ⟨⟨h8 (by simp), h8 (by simp)⟩, (List.pairwise_iff_forall_sublist.1 hQ.last) hs⟩
    refine h9.imp fun {a b} h7 => ?_
    obtain ⟨⟨ha, hb⟩, hab⟩ := h7
    have A := hQ.agr a ha; have B := hQ.agr b hb
    have C1 := hQ.cam a ha b hb; have C2 := hQ.cam b hb a ha
    have := A.bytes; have := B.bytes; have := A.many; have := B.many
    rw [cmpK_lt, cmpS_lt]
    unfold keyK keyS
    by_cases r2 : rule = 2
    · subst r2; simp only [if_true]; omega
    by_cases r3 : rule = 3
    · subst r3; simp only [if_true, show ¬ (3 : Int) = 2 by decide, if_false]; omega
    by_cases r4 : rule = 4
    · subst r4; simp only [if_true, show ¬ (4 : Int) = 2 by decide, show ¬ (4 : Int) = 3 by decide, if_false]; omega
    · simp only [r2, r3, r4, if_false]; omega
theorem SimP.lne (h : SimP names now came L S P) : L.Pairwise fun a b => a.2.2.2.2.1 ≠ b.2.2.2.2.1 :=
  h.toRow2.lne.perm h.perm fun h => h.symm
theorem SimP.order (h : SimP names now came L S P) (rule : Int) : (orderL rule L).map (·.1) = namS rule S := by
  rw [← orderL_one2 rule h.toRow2.lne h.perm, h.toRow2.order, h.snd]
theorem Row2.sum (h : Row2 names now came P) : sumB (P.map Prod.fst) = sumS (P.map Prod.snd) := by
  unfold sumB sumS
  rw [List.map_map, List.map_map]
  congr 1
  exact List.map_congr_left fun p hp => (h.agr p hp).bytes
theorem SimP.free (h : SimP names now came L S P) : sumB L = sumS S := by rw [← sumB_perm h.perm, h.toRow2.sum, h.snd]
theorem SimP.one (h : SimP names now came L S P) : KeysOne L := by
  refine keysOne_perm h.perm.symm ?_
  unfold KeysOne
  rw [List.pairwise_map, List.pairwise_iff_forall_sublist]
  intro a b hs
  have h8 := hs.subset
  rw [(h.agr a (h8 (by simp))).key, (h.agr b (h8 (by simp))).key]
  exact (List.pairwise_iff_forall_sublist.1 h.keys) hs
theorem SimP.len (h : SimP names now came L S P) : L.length = S.length ∧ S.length = P.length ∧ S.length ≤ names.length := by
  have h1 : (L.map (·.1)).Nodup := (keysOne_iff L).1 h.one
  have h3 : ∀ k ∈ L.map (·.1), k ∈ names := fun k hk => by
    obtain ⟨x, hx, rfl⟩ := List.mem_map.1 hk
    obtain ⟨p, hp, rfl⟩ := List.mem_map.1 (h.perm.mem_iff.2 hx)
    exact (h.agr p hp).nm
  have h2 := nodup_len (L.map (·.1)) names h1 h3
  have h4 := h.perm.length_eq
  have h5 := congrArg List.length h.snd
  rw [List.length_map] at h2 h4 h5
  omega
end
section
variable {names : List ByteArray} {now came room rule : Int} {P : List Pr} {L : List Kp} {S : List Sk} {item : ByteArray}
theorem goL_filter (item : ByteArray) : ∀ (l : List Kp) (o : Int), goL item l o = goL item (l.filter fun x => !decide (x.1 = item)) o
  | [], _ => rfl
  | x :: l, o => by
    by_cases e : x.1 = item
    · rw [List.filter_cons, if_neg (by simp [e]), ← goL_filter item l o, goL, if_pos e]
      split
      · rename_i h9
        cases l with
        | nil => rfl
        | cons y l => rw [goL, if_pos h9]
      · rfl
    · rw [List.filter_cons, if_pos (by simp [e]), goL, goL, if_neg e, if_neg e, ← goL_filter item l]
def othP (n : ByteArray) (P : List Pr) : List Pr := P.filter fun p => !decide (p.2.1 = n)
theorem Row2.keyS (h : Row2 names now came P) : (P.map Prod.snd).Pairwise fun a b => a.1 ≠ b.1 := by rw [List.pairwise_map]; exact h.keys
theorem Row2.keyK (h : Row2 names now came P) : KeysOne (P.map Prod.fst) := by
  unfold KeysOne
  rw [List.pairwise_map, List.pairwise_iff_forall_sublist]
  intro a b hs
  have h8 := hs.subset
  rw [(h.agr a (h8 (by simp))).key, (h.agr b (h8 (by simp))).key]
  exact (List.pairwise_iff_forall_sublist.1 h.keys) hs
theorem Row2.fstF (h : Row2 names now came P) (n : ByteArray) : (othP n P).map Prod.fst = (P.map Prod.fst).filter fun x => !decide (x.1 = n) := by
  unfold othP
  rw [List.filter_map]
  congr 1
  exact List.filter_congr fun p hp => by show _ = !decide (p.1.1 = n); rw [(h.agr p hp).key]
theorem sndF (n : ByteArray) (P : List Pr) : (othP n P).map Prod.snd = (P.map Prod.snd).filter fun x => !decide (x.1 = n) := by
  unfold othP; rw [List.filter_map]; rfl
theorem Row2.era (h : Row2 names now came P) {p : Pr} (hp : p ∈ P) : eraS p.2.1 (P.map Prod.snd) = (othP p.2.1 P).map Prod.snd := by
  unfold eraS
  rcases find_idx p.2.1 (P.map Prod.snd) with ⟨_, hf⟩ | ⟨i, x, hi, hx, hk, _⟩
  · have := List.find?_eq_none.1 hf p.2 (List.mem_map_of_mem hp)
    exact absurd (by unfold isIt; simp) this
  · rw [hi, Int.toNat_natCast, sndF, cut_filter (fun x : Sk => x.1) _ i x h.keyS hx, hk]
theorem ev_go (room rule : Int) (item : ByteArray) (st : Pr) (hst : st.2.1 = item) : ∀ (W : List Kp) (f : Nat) (O : List Pr) (o : List ByteArray), Row2 names now came (O ++ [st]) → orderL rule (O.map Prod.fst) = W → W.length + 1 ≤ f →
    evS room rule item f ((O ++ [st]).map Prod.snd) o = if (goL item W (st.1.2.1 - room + sumB (O.map Prod.fst))).2 ≤ 0 then some (((O.filter fun p => !(goL item W (st.1.2.1 - room + sumB (O.map Prod.fst))).1.any fun y => y.1 == p.1.1) ++ [st]).map Prod.snd, o ++ (goL item W (st.1.2.1 - room + sumB (O.map Prod.fst))).1.map (·.1)) else none := by
  intro W
  induction W with
  | nil =>
    intro f O o h hW hf
    obtain ⟨f, rfl⟩ : ∃ g, f = g + 1 := ⟨f - 1, by simp at hf; omega⟩
    have hsum := h.sum
    rw [List.map_append, sumB_append, List.map_cons, List.map_nil, sumB_cons, sumB_nil] at hsum
    have hnam := h.order rule
    have hfil : (namS rule ((O ++ [st]).map Prod.snd)).filter (fun x => !decide (x = item)) = [] := by
      have hm : List.map Prod.fst (O ++ [st]) = List.map Prod.fst O ++ [st.1] := by simp
      have hkst : st.1.1 = item := (h.agr st (by simp)).key.trans hst
      have h1 : ((orderL rule ((O ++ [st]).map Prod.fst)).filter fun x => !decide (x.1 = item)) = [] := by
        rw [orderL_filter rule h.lne, hm, List.filter_append]
        have hO : (O.map Prod.fst).filter (fun x => !decide (x.1 = item)) = O.map Prod.fst := by
          refine List.filter_eq_self.2 fun x hx => ?_
          obtain ⟨p, hp, rfl⟩ := List.mem_map.1 hx
          have hne := (List.pairwise_append.1 h.keys).2.2 p hp st (by simp)
          rw [(h.agr p (by simp [hp])).key, Bool.not_eq_eq_eq_not, Bool.not_true, decide_eq_false_iff_not, ← hst]; exact hne
        rw [hO]
        simp only [List.filter_cons, hkst, decide_true, Bool.not_true, Bool.false_eq_true, if_false, List.filter_nil, List.append_nil]
        exact hW
      rw [← hnam, List.filter_map]
      rw [show ((fun x : ByteArray => !decide (x = item)) ∘ fun x : Kp => x.1) = (fun x : Kp => !decide (x.1 = item)) from rfl, h1]; rfl
    unfold evS
    rw [← hsum]
    rw [show goL item [] (st.1.2.1 - room + sumB (O.map Prod.fst)) = ([], st.1.2.1 - room + sumB (O.map Prod.fst)) from rfl]
    simp only
    by_cases e : room - (sumB (O.map Prod.fst) + (st.1.2.1 + 0)) < 0
    · rw [if_pos e, hfil, if_neg (by omega)]
    · rw [if_neg e, if_pos (by omega)]
      simp only [List.any_nil, Bool.not_false, List.map_nil, List.append_nil]
      rw [List.filter_eq_self.2 fun _ _ => rfl]
  | cons w W ih =>
    intro f O o h hW hf
    obtain ⟨f, rfl⟩ : ∃ g, f = g + 1 := ⟨f - 1, by simp at hf; omega⟩
    have hsum := h.sum
    rw [List.map_append, sumB_append, List.map_cons, List.map_nil, sumB_cons, sumB_nil] at hsum
    have hnam := h.order rule
    have hOr : Row2 names now came O := by
      have : O = (O ++ [st]).filter (fun p => !decide (p.2.1 = item)) := by
        rw [List.filter_append]
        have hO : O.filter (fun p => !decide (p.2.1 = item)) = O := List.filter_eq_self.2 fun p hp => by
          have hne := (List.pairwise_append.1 h.keys).2.2 p hp st (by simp)
          rw [Bool.not_eq_eq_eq_not, Bool.not_true, decide_eq_false_iff_not, ← hst]; exact hne
        rw [hO]; simp [hst]
      rw [this]; exact h.sub _
    have hfil : (namS rule ((O ++ [st]).map Prod.snd)).filter (fun x => !decide (x = item)) = (w :: W).map (·.1) := by
      have hm : List.map Prod.fst (O ++ [st]) = List.map Prod.fst O ++ [st.1] := by simp
      have hkst : st.1.1 = item := (h.agr st (by simp)).key.trans hst
      have h1 : ((orderL rule ((O ++ [st]).map Prod.fst)).filter fun x => !decide (x.1 = item)) = w :: W := by
        rw [orderL_filter rule h.lne, hm, List.filter_append]
        have hO : (O.map Prod.fst).filter (fun x => !decide (x.1 = item)) = O.map Prod.fst := by
          refine List.filter_eq_self.2 fun x hx => ?_
          obtain ⟨p, hp, rfl⟩ := List.mem_map.1 hx
          have hne := (List.pairwise_append.1 h.keys).2.2 p hp st (by simp)
          rw [(h.agr p (by simp [hp])).key, Bool.not_eq_eq_eq_not, Bool.not_true, decide_eq_false_iff_not, ← hst]; exact hne
        rw [hO]
        simp only [List.filter_cons, hkst, decide_true, Bool.not_true, Bool.false_eq_true, if_false, List.filter_nil, List.append_nil]
        exact hW
      rw [← hnam, List.filter_map]
      rw [show ((fun x : ByteArray => !decide (x = item)) ∘ fun x : Kp => x.1) = (fun x : Kp => !decide (x.1 = item)) from rfl, h1]
    have hwm : w ∈ O.map Prod.fst := (orderL_mem (rule := rule) (by rw [hW]; simp)).1
    obtain ⟨p, hp, hpw⟩ := List.mem_map.1 hwm
    have hpA := h.agr p (by simp [hp])
    have hpk : p.2.1 = w.1 := by rw [← hpA.key, hpw]
    have hpne : w.1 ≠ item := by
      have hne := (List.pairwise_append.1 h.keys).2.2 p hp st (by simp)
      rw [← hpk, ← hst]; exact hne
    have hoth : othP p.2.1 (O ++ [st]) = othP w.1 O ++ [st] := by
      unfold othP
      rw [List.filter_append, hpk]
      congr 1
      simp [hst, hpne.symm]
    have hera := h.era (p := p) (by simp [hp])
    rw [hoth, hpk] at hera
    have hR2 : Row2 names now came (othP w.1 O ++ [st]) := by rw [← hoth]; exact h.sub _
    have hKW : KeysOne (w :: W) := by rw [← hW]; exact orderL_one hOr.keyK
    have hW2 : orderL rule ((othP w.1 O).map Prod.fst) = W := by
      rw [hOr.fstF, ← orderL_filter rule hOr.lne, hW, List.filter_cons, if_neg (by simp)]
      refine List.filter_eq_self.2 fun x hx => ?_
      rw [Bool.not_eq_eq_eq_not, Bool.not_true, decide_eq_false_iff_not]
      exact fun e => (List.pairwise_cons.1 hKW).1 x hx e.symm
    have hsw : sumB ((othP w.1 O).map Prod.fst) = sumB (O.map Prod.fst) - w.2.1 := by
      have := left_sum (g := [w]) (L := O.map Prod.fst) hOr.keyK (by simp [KeysOne]) (by simpa using hwm)
      have e : leftL [w] (O.map Prod.fst) = (othP w.1 O).map Prod.fst := by
        rw [hOr.fstF]
        unfold leftL
        refine List.filter_congr fun x _ => ?_
        simp only [List.any_cons, List.any_nil, Bool.or_false, ba_beq]
        congr 1
        exact decide_eq_decide.2 ⟨Eq.symm, Eq.symm⟩
      rw [e, sumB_cons, sumB_nil] at this; omega
    have hih := ih f (othP w.1 O) (o ++ [w.1]) hR2 hW2 (by simp at hf; omega)
    rw [hsw] at hih
    have eo : st.1.2.1 - room + (sumB (O.map Prod.fst) - w.2.1) = st.1.2.1 - room + sumB (O.map Prod.fst) - w.2.1 := by omega
    rw [eo] at hih
    unfold evS
    rw [← hsum]
    by_cases e : room - (sumB (O.map Prod.fst) + (st.1.2.1 + 0)) < 0
    · rw [if_pos e, hfil, List.map_cons]
      simp only
      rw [hera, hih]
      have hg : goL item (w :: W) (st.1.2.1 - room + sumB (O.map Prod.fst)) = (w :: (goL item W (st.1.2.1 - room + sumB (O.map Prod.fst) - w.2.1)).1, (goL item W (st.1.2.1 - room + sumB (O.map Prod.fst) - w.2.1)).2) := by
        rw [goL, if_neg (by omega), if_neg hpne]
      rw [hg]
      simp only
      split
      · simp only [List.map_cons, List.append_assoc, List.singleton_append, List.any_cons]
        congr 1
        refine Prod.ext ?_ rfl
        simp only
        congr 1
        unfold othP
        rw [List.filter_filter]
        congr 1
        refine List.filter_congr fun q hq => ?_
        rw [Bool.not_or, Bool.and_comm, ba_beq, (h.agr q (by simp [hq])).key]
        congr 2
        exact decide_eq_decide.2 ⟨Eq.symm, Eq.symm⟩
      · rfl
    · rw [if_neg e]
      have hg : goL item (w :: W) (st.1.2.1 - room + sumB (O.map Prod.fst)) = ([], st.1.2.1 - room + sumB (O.map Prod.fst)) := by
        rw [goL, if_pos (by omega)]
      rw [hg]
      simp only
      rw [if_pos (by omega)]
      simp only [List.any_nil, Bool.not_false, List.map_nil, List.append_nil]
      rw [List.filter_eq_self.2 fun _ _ => rfl]
end
section
variable {names : List ByteArray} {now came room rule : Int} {P : List Pr} {L : List Kp} {S : List Sk} {item : ByteArray}
theorem Row2.last_new (h : Row2 names now came P) {now' came' : Int} {st : Pr} (hn : now ≤ now') (hc : came ≤ came') (hA : Agr names now' came' st) (hl : now < st.1.2.2.2.2.1)
    (hcam : ∀ p ∈ othP st.2.1 P, (p.1.2.2.2.1 < st.1.2.2.2.1 ↔ p.2.2.2.2.1 < st.2.2.2.2.1) ∧ (st.1.2.2.2.1 < p.1.2.2.2.1 ↔ st.2.2.2.2.1 < p.2.2.2.2.1)) :
    Row2 names now' came' (othP st.2.1 P ++ [st]) := by
  have hO : Row2 names now came (othP st.2.1 P) := h.sub _
  refine ⟨fun p hp => ?_, ?_, fun p hp q hq => ?_, ?_⟩
  · rcases List.mem_append.1 hp with hp | hp
    · have A := hO.agr p hp
      exact ⟨A.key, A.bytes, A.pin, A.many, by have := A.last; omega, by have := A.kc; omega, by have := A.first; omega, A.b, by have := A.m; omega, A.nm⟩
    · rw [List.mem_singleton.1 hp]; exact hA
  · refine List.pairwise_append.2 ⟨hO.last, by simp, fun p hp q hq => ?_⟩
    rw [List.mem_singleton.1 hq]
    have := (hO.agr p hp).last; omega
  · rcases List.mem_append.1 hp with hp | hp <;> rcases List.mem_append.1 hq with hq | hq
    · exact hO.cam p hp q hq
    · rw [List.mem_singleton.1 hq]; exact (hcam p hp).1
    · rw [List.mem_singleton.1 hp]; exact (hcam q hq).2
    · rw [List.mem_singleton.1 hp, List.mem_singleton.1 hq]; omega
  · refine List.pairwise_append.2 ⟨hO.keys, by simp, fun p hp q hq => ?_⟩
    rw [List.mem_singleton.1 hq]
    have := (List.mem_filter.1 hp).2
    simpa using this
theorem SimP.find (h : SimP names now came L S P) (item : ByteArray) : ((∀ p ∈ P, p.2.1 ≠ item) ∧ S.find? (isIt item) = none ∧ idxS (isIt item) S = -1 ∧ hasL item L = false ∧ othP item P = P) ∨
    ∃ p ∈ P, ∃ i : Nat, p.2.1 = item ∧ S.find? (isIt item) = some p.2 ∧ idxS (isIt item) S = i ∧ S[i]? = some p.2 ∧ p.1 ∈ L ∧ p.1.1 = item ∧ S.take i ++ S.drop (i + 1) = (othP item P).map Prod.snd ∧ P.Perm (othP item P ++ [p]) := by
  rcases find_idx item S with ⟨hi, hf⟩ | ⟨i, x, hi, hx, hk, hf⟩
  · have hno : ∀ p ∈ P, p.2.1 ≠ item := fun p hp => by
      have := List.find?_eq_none.1 hf p.2 (by rw [← h.snd]; exact List.mem_map_of_mem hp)
      unfold isIt at this; simpa using this
    refine .inl ⟨hno, hf, hi, ?_, List.filter_eq_self.2 fun p hp => by simp [hno p hp]⟩
    cases e : hasL item L with
    | false => rfl
    | true =>
      obtain ⟨y, hy, e2⟩ := hasL_iff.1 e
      obtain ⟨p, hp, rfl⟩ := List.mem_map.1 (h.perm.mem_iff.2 hy)
      exact absurd ((h.agr p hp).key.symm.trans e2) (hno p hp)
  · obtain ⟨p, hp, hpx⟩ := List.mem_map.1 (by rw [h.snd]; exact List.mem_of_getElem? hx : x ∈ P.map Prod.snd)
    subst hpx
    have hks := h.toRow2.keyS
    rw [h.snd] at hks
    have hcut := cut_filter (fun x : Sk => x.1) S i p.2 hks hx
    rw [← h.snd, hk, ← sndF, h.snd] at hcut
    refine .inr ⟨p, hp, i, hk, hf, hi, hx, h.perm.mem_iff.1 (List.mem_map_of_mem hp), (h.agr p hp).key.trans hk, hcut, ?_⟩
    obtain ⟨A, B, rfl⟩ := List.append_of_mem hp
    have hA : othP item A = A := List.filter_eq_self.2 fun q hq => by
      have := (List.pairwise_append.1 h.keys).2.2 q hq p (by simp)
      rw [hk] at this; simp [this]
    have hB : othP item B = B := List.filter_eq_self.2 fun q hq => by
      have := (List.pairwise_cons.1 (List.pairwise_append.1 h.keys).2.1).1 q hq
      rw [hk] at this; simp [this.symm]
    have : othP item (A ++ p :: B) = A ++ B := by
      have e : othP item (A ++ p :: B) = othP item A ++ othP item B := by unfold othP; rw [List.filter_append, List.filter_cons, if_neg (by simp [hk])]
      rw [e, hA, hB]
    rw [this, List.append_assoc]
    exact List.Perm.append_left A (by simpa using (List.perm_append_comm (l₁ := [p]) (l₂ := B)))
theorem atK_one_item (f : Kp → Kp) {O : List Kp} (hO : ∀ x ∈ O, x.1 ≠ item) {x : Kp} (hx : x.1 = item) : atK item f (O ++ [x]) = O ++ [f x] := by
  unfold atK
  rw [List.map_append, List.map_cons, List.map_nil, if_pos hx]
  congr 1
  conv => rhs; rw [← List.map_id O]
  exact List.map_congr_left fun y hy => by rw [if_neg (hO y hy)]; rfl
theorem Row2.oth_ne (h : Row2 names now came P) (item : ByteArray) : ∀ x ∈ (othP item P).map Prod.fst, x.1 ≠ item := fun x hx => by
  rw [h.fstF] at hx
  have := (List.mem_filter.1 hx).2
  simpa using this
theorem atK_perm (f : Kp → Kp) {a b : List Kp} (h : a.Perm b) : (atK item f a).Perm (atK item f b) := h.map _
theorem SimP.ask (h : SimP names now came L S P) {p : Pr} (hp : p ∈ P) (hk : p.2.1 = item) {i : Nat} (hc : S.take i ++ S.drop (i + 1) = (othP item P).map Prod.snd) (hpe : P.Perm (othP item P ++ [p])) :
    SimP names (now + 1) came (atK item (askF (now + 1)) L) (askS i p.2 S) (othP item P ++ [(askF (now + 1) p.1, bumpS p.2)]) := by
  have A := h.agr p hp
  have hR := h.toRow2.last_new (now' := now + 1) (came' := came) (st := (askF (now + 1) p.1, bumpS p.2)) (by omega) (by omega)
    ⟨A.key, A.bytes, A.pin, by show p.1.2.2.2.2.2 + 1 = p.2.2.2.1 + 1; rw [A.many], by show now + 1 ≤ now + 1; omega, by show p.1.2.2.2.1 ≤ now + 1; have := A.kc; omega, A.first, A.b, by show 0 ≤ p.1.2.2.2.2.2 + 1 ∧ p.1.2.2.2.2.2 + 1 ≤ now + 1; have := A.m; omega, A.nm⟩
    (by show now < now + 1; omega) (fun q hq => by
      have hq2 := (List.mem_filter.1 hq).1
      exact ⟨h.cam q hq2 p hp, h.cam p hp q hq2⟩)
  have hst : (bumpS p.2).1 = item := hk
  simp only [hst] at hR
  refine ⟨hR, ?_, ?_⟩
  · rw [List.map_append, List.map_cons, List.map_nil]
    have h1 := atK_perm (item := item) (askF (now + 1)) (h.perm.symm.trans (hpe.map Prod.fst))
    rw [List.map_append, List.map_cons, List.map_nil, atK_one_item _ (h.toRow2.oth_ne item) (A.key.trans hk)] at h1
    exact h1.symm
  · rw [List.map_append, ← hc]; rfl
def pinP (item : ByteArray) (on : Bool) (p : Pr) : Pr := if p.2.1 = item then (pinF on p.1, pinS on p.2) else p
theorem pinP_nums (item : ByteArray) (on : Bool) (p : Pr) : (pinP item on p).1.2.2.2.1 = p.1.2.2.2.1 ∧ (pinP item on p).1.2.2.2.2.1 = p.1.2.2.2.2.1 ∧ (pinP item on p).2.2.2.2.1 = p.2.2.2.2.1 ∧ (pinP item on p).2.1 = p.2.1 ∧ (pinP item on p).1.1 = p.1.1 := by
  unfold pinP; split <;> exact ⟨rfl, rfl, rfl, rfl, rfl⟩
theorem SimP.pin (h : SimP names now came L S P) (on : Bool) {i : Nat} {p : Pr} (hk : p.2.1 = item) (hi : S[i]? = some p.2) :
    SimP names now came (atK item (pinF on) L) (S.set i (pinS on p.2)) (P.map (pinP item on)) := by
  refine ⟨⟨fun q hq => ?_, ?_, fun q hq r hr => ?_, ?_⟩, ?_, ?_⟩
  · obtain ⟨q1, hq1, rfl⟩ := List.mem_map.1 hq
    have A := h.agr q1 hq1
    unfold pinP
    split
    · exact ⟨A.key, A.bytes, rfl, A.many, A.last, A.kc, A.first, A.b, A.m, A.nm⟩
    · exact A
  · rw [List.pairwise_map]; exact h.last.imp fun {a b} hn => by rw [(pinP_nums item on a).2.1, (pinP_nums item on b).2.1]; exact hn
  · obtain ⟨q1, hq1, rfl⟩ := List.mem_map.1 hq
    obtain ⟨r1, hr1, rfl⟩ := List.mem_map.1 hr
    rw [(pinP_nums item on q1).1, (pinP_nums item on q1).2.2.1, (pinP_nums item on r1).1, (pinP_nums item on r1).2.2.1]
    exact h.cam q1 hq1 r1 hr1
  · rw [List.pairwise_map]; exact h.keys.imp fun {a b} hn => by rw [(pinP_nums item on a).2.2.2.1, (pinP_nums item on b).2.2.2.1]; exact hn
  · have h1 := atK_perm (item := item) (pinF on) h.perm
    refine List.Perm.trans (List.Perm.of_eq ?_) h1
    unfold atK
    rw [List.map_map, List.map_map]
    refine List.map_congr_left fun q hq => ?_
    simp only [Function.comp, pinP, (h.agr q hq).key]
    split <;> rfl
  · rw [List.map_map]
    have hks := h.toRow2.keyS
    rw [h.snd] at hks
    have e : P.map (Prod.snd ∘ pinP item on) = S.map fun x => if x.1 = item then pinS on x else x := by
      rw [← h.snd, List.map_map]
      refine List.map_congr_left fun q _ => ?_
      simp only [Function.comp, pinP]
      split <;> rfl
    rw [e]
    refine List.ext_getElem? fun j => ?_
    rw [List.getElem?_map, List.getElem?_set]
    obtain ⟨hil, hie⟩ := List.getElem?_eq_some_iff.1 hi
    by_cases ej : i = j
    · subst ej
      rw [if_pos rfl, if_pos hil, hi]
      simp [hk]
    · rw [if_neg ej]
      cases hj : S[j]? with
      | none => rfl
      | some y =>
        obtain ⟨hjl, hje⟩ := List.getElem?_eq_some_iff.1 hj
        have hne : y.1 ≠ item := by
          intro e2
          rcases Nat.lt_or_gt_of_ne ej with hlt | hlt
          · have := (List.pairwise_iff_getElem.1 hks) i j hil hjl hlt
            rw [hie, hje] at this; exact this (hk.trans e2.symm)
          · have := (List.pairwise_iff_getElem.1 hks) j i hjl hil hlt
            rw [hie, hje] at this; exact this (e2.trans hk.symm)
        simp [hne]
theorem leftL_perm {g a b : List Kp} (h : a.Perm b) : (leftL g a).Perm (leftL g b) := h.filter _
theorem going_oth (h : SimP names now came L S P) (item : ByteArray) (bytes : Int) : goingL item bytes room rule L = goL item (orderL rule ((othP item P).map Prod.fst)) (bytes - room + sumB ((othP item P).map Prod.fst)) := by
  unfold goingL
  rw [goL_filter, overL_sum, orderL_filter rule h.lne, h.toRow2.fstF]
  have hp := h.perm.symm.filter fun x : Kp => !decide (x.1 = item)
  rw [orderL_one2 rule (h.lne.filter _) hp]
  unfold othL
  rw [sumB_perm hp]
theorem SimP.put (h : SimP names now came L S P) (h0 : 0 ≤ now) {bytes : Int} (hb : 1 ≤ bytes ∧ bytes ≤ 1000) (hi : item ∈ names) :
    match putL room rule now L item bytes with
    | none => evS room rule item ((inS item bytes came S).length + 1) (inS item bytes came S) [] = none
    | some (L', g) => ∃ S' P', evS room rule item ((inS item bytes came S).length + 1) (inS item bytes came S) [] = some (S', g.map (·.1)) ∧ SimP names (now + 1) (cameS item came S) L' S' P' := by
  have hgo := going_oth (room := room) (rule := rule) h item bytes
  have hOm : ∀ x ∈ (othP item P).map Prod.fst, x.1 ≠ item := h.toRow2.oth_ne item
  -- the item that comes
  have key : ∃ st : Pr, st.2.1 = item ∧ st.1.2.1 = bytes ∧ inS item bytes came S = (othP item P ++ [st]).map Prod.snd ∧ Row2 names (now + 1) (cameS item came S) (othP item P ++ [st]) ∧
      ∀ g : List Kp, (∀ x ∈ g, x.1 ≠ item) → ((leftL g ((othP item P).map Prod.fst)) ++ [st.1]).Perm (if hasL item L then atK item (fun x => askF (now + 1) (setB bytes x)) (leftL g L) else leftL g L ++ [newK item bytes now]) := by
    rcases h.find item with ⟨hno, hf, _, hh, ho⟩ | ⟨p, hp, i, hk, hf, hix, hx, hpL, hpk, hcut, hpe⟩
    · refine ⟨(newK item bytes now, (item, bytes, 1, came + 1, false)), rfl, rfl, ?_, ?_, fun g hg => ?_⟩
      · unfold inS; rw [hf, ho, List.map_append, h.snd]; rfl
      · have hcm : cameS item came S = came + 1 := by unfold cameS; rw [hf]; rfl
        rw [hcm]
        refine h.toRow2.last_new (now' := now + 1) (came' := came + 1) (st := (newK item bytes now, (item, bytes, 1, came + 1, false))) (by omega) (by omega) ⟨rfl, rfl, rfl, rfl, by show now + 1 ≤ now + 1; omega, by show now + 1 ≤ now + 1; omega, by show came + 1 ≤ came + 1; omega, hb, by show (0 : Int) ≤ 1 ∧ (1 : Int) ≤ now + 1; omega, hi⟩ (by show now < now + 1; omega) (fun q hq => ?_)
        have A := h.agr q (List.mem_filter.1 hq).1
        have := A.kc; have := A.first
        show (q.1.2.2.2.1 < now + 1 ↔ q.2.2.2.2.1 < came + 1) ∧ (now + 1 < q.1.2.2.2.1 ↔ came + 1 < q.2.2.2.2.1)
        omega
      · rw [hh, ho]
        simp only [Bool.false_eq_true, if_false]
        exact (leftL_perm h.perm).append_right _
    · have A := h.agr p hp
      refine ⟨(askF (now + 1) (setB bytes p.1), bumpS (setBS bytes p.2)), hk, rfl, ?_, ?_, fun g hg => ?_⟩
      · unfold inS
        rw [hf]
        simp only
        rw [hix, Int.toNat_natCast, askS, hcut, List.map_append]; rfl
      · have hcm : cameS item came S = came := by unfold cameS; rw [hf]; rfl
        rw [hcm]
        have hR := h.toRow2.last_new (now' := now + 1) (came' := came) (st := (askF (now + 1) (setB bytes p.1), bumpS (setBS bytes p.2))) (by omega) (by omega)
          ⟨A.key, rfl, A.pin, by show p.1.2.2.2.2.2 + 1 = p.2.2.2.1 + 1; rw [A.many], by show now + 1 ≤ now + 1; omega, by show p.1.2.2.2.1 ≤ now + 1; have := A.kc; omega, A.first, hb, by show 0 ≤ p.1.2.2.2.2.2 + 1 ∧ p.1.2.2.2.2.2 + 1 ≤ now + 1; have := A.m; omega, A.nm⟩
          (by show now < now + 1; omega) (fun q hq => by
            have hq2 := (List.mem_filter.1 hq).1
            exact ⟨h.cam q hq2 p hp, h.cam p hp q hq2⟩)
        have hst : (bumpS (setBS bytes p.2)).1 = item := hk
        simp only [hst] at hR
        exact hR
      · rw [hasL_iff.2 ⟨p.1, hpL, hpk⟩, if_pos rfl]
        have h1 := leftL_perm (g := g) (h.perm.symm.trans (hpe.map Prod.fst))
        have h2 : leftL g ((othP item P ++ [p]).map Prod.fst) = leftL g ((othP item P).map Prod.fst) ++ [p.1] := by
          unfold leftL
          rw [List.map_append, List.filter_append]
          congr 1
          have : (g.any fun y => y.1 == p.1.1) = false := by
            cases e : g.any fun y => y.1 == p.1.1 with
            | false => rfl
            | true => obtain ⟨y, hy, e2⟩ := any_key.1 e; exact absurd (e2.trans hpk) (hg y hy)
          simp [this]
        rw [h2] at h1
        have h3 := atK_perm (item := item) (fun x => askF (now + 1) (setB bytes x)) h1
        rw [atK_one_item _ (fun x hx => hOm x (leftL_sub hx)) hpk] at h3
        exact h3.symm
  obtain ⟨st, hst, hstb, hin, hR, hperm⟩ := key
  have hlen : (orderL rule ((othP item P).map Prod.fst)).length + 1 ≤ (inS item bytes came S).length + 1 := by
    have := orderL_len rule ((othP item P).map Prod.fst)
    rw [hin]; simp at this ⊢; omega
  have hev := ev_go room rule item st hst _ _ (othP item P) [] hR rfl hlen
  rw [← hin, hstb] at hev
  have hgm : ∀ x ∈ (goingL item bytes room rule L).1, x.1 ≠ item := fun x hx => (going_mem hx).2.2
  rw [← hgo] at hev
  unfold putL
  by_cases e : (goingL item bytes room rule L).2 ≤ 0
  · rw [if_pos e] at hev ⊢
    simp only
    refine ⟨_, (othP item P).filter (fun p => !(goingL item bytes room rule L).1.any fun y => y.1 == p.1.1) ++ [st], by rw [hev]; rfl, ⟨?_, ?_, rfl⟩⟩
    · have h9 : (othP item P).filter (fun p => !(goingL item bytes room rule L).1.any fun y => y.1 == p.1.1) ++ [st] = (othP item P ++ [st]).filter (fun p => !(goingL item bytes room rule L).1.any fun y => y.1 == p.1.1) := by
        rw [List.filter_append]
        congr 1
        have : ((goingL item bytes room rule L).1.any fun y => y.1 == st.1.1) = false := by
          cases e : (goingL item bytes room rule L).1.any fun y => y.1 == st.1.1 with
          | false => rfl
          | true => obtain ⟨y, hy, e2⟩ := any_key.1 e; exact absurd (e2.trans (((hR.agr st (by simp)).key).trans hst)) (hgm y hy)
        simp [this]
      rw [h9]; exact hR.sub _
    · have h8 := hperm (goingL item bytes room rule L).1 hgm
      rw [List.map_append]
      have h7 : ((othP item P).filter (fun p => !(goingL item bytes room rule L).1.any fun y => y.1 == p.1.1)).map Prod.fst = leftL (goingL item bytes room rule L).1 ((othP item P).map Prod.fst) := by
        unfold leftL; rw [List.filter_map]; rfl
      rw [h7]; exact h8
  · rw [if_neg e] at hev ⊢
    exact hev
end
open Go
set_option linter.unusedVariables false
set_option linter.unusedSimpArgs false
open Nat renaming reduceAdd → nA, reduceSub → nB, reduceMul → nC, reduceLT → nD, reduceLeDiff → nE, reduceEqDiff → nF, reduceMod → nG, reduceDiv → nH, reducePow → nI
abbrev zPEE : List Nat := [0, 1, 2, 3, 4, 5, 6, 7, 8, 9, 10, 11, 13, 14, 15, 16]
abbrev zPEP : List (Nat × List Nat × List Nat) := [(12, [3, 7, 16], [17, 18, 19])]
abbrev zPFE : List Nat := [0, 1, 2, 3, 4, 5, 6, 7, 8, 9, 10, 11, 12]
abbrev zPFP : List (Nat × List Nat × List Nat) := [(13, [], [14, 15]), (16, [], [])]
attribute [go_sem] zPEE zPEP zPFE zPFP
set_option maxRecDepth 100000
set_option maxHeartbeats 8000000
theorem a_inS (x lo hi : Int) (h : Hp) : ACalls Tryz.prog 54 [.v (.int .i64 x), .v (.int .i64 lo), .v (.int .i64 hi)] h (fun r h' => r = .v (.bool (decide (lo ≤ x) && decide (x ≤ hi))) ∧ h' = h) := by
 obtain ⟨x1, e1⟩ : ∃ b, decide (lo ≤ x) = b := ⟨_, rfl⟩
 obtain ⟨x2, e2⟩ : ∃ b, decide (x ≤ hi) = b := ⟨_, rfl⟩
 rw [e1, e2]
 refine gE Tryz.func54 rfl (by kernel_rfl) 12 rfl fun c => ?_
 cases x1 <;> cases x2
 all_goals
  (repeat (first | refine gO rfl ?_ | (refine gR fun K1 hK1 => ?_; simp only [go_sem, ↓reduceIte, reduceCtorEq, nA, nB, nC, nD, nE, nF, e1, e2] <;> and_intros <;> first | (apply hK1; clear hK1 K1) | (intros; first | omega | decide) | skip)))
  simp only [Tryz.results54, go_sem, ↓reduceIte, reduceCtorEq, nA, nB, nC, nD, nE, nF]
  exact ⟨_, _, Weak.refl _, Hp.le.refl _, rfl, rfl⟩
section
variable {room rule came : Int} {k si : Nat} {S : List Sk} {h : Hp} {item : ByteArray}
theorem g_putC (x : ByteArray) (q : Nat) (h : Hp) (hq : h.H q = some (.cells [.v (.string item)])) : ACalls Tryz.prog 67 ([.v (.string x)] ++ [.ptr q 0]) h (fun r h' => r = .v (.bool (decide (x = item))) ∧ h' = h) := by
 refine gE Tryz.func67 rfl (by kernel_rfl) 5 rfl fun c => ?_
 (repeat (first | refine gO rfl ?_ | (refine gR fun K1 hK1 => ?_; simp only [go_sem, ↓reduceIte, reduceCtorEq, nA, nB, nC, nD, nE, nF, hq] <;> and_intros <;> first | (apply hK1; clear hK1 K1) | (intros; first | omega | decide) | skip)))
 simp only [Tryz.results67, go_sem, ↓reduceIte, reduceCtorEq, nA, nB, nC, nD, nE, nF]
 exact ⟨_, _, Weak.refl _, Hp.le.refl _, by rw [ba_beq], rfl⟩
theorem g_putSE (bytes : Int) (hC : h.H si = some (.cells (encSt room rule came k S.length))) (hs : item.size ≤ 1000) (hn : keyB item = false ∨ ¬ (1 ≤ bytes ∧ bytes ≤ 1000000000000)) :
  ACalls Tryz.prog 17 [.ptr si 0, .v (.string item), .v (.int .i64 bytes)] h (fun r h' => r = .tup [.v (.slice none 0 0), .v (.int .i64 (if keyB item = true then 1 else 5))] ∧ h' = h) := by
 have hK := fun h => a_key item (by omega) h
 have hI := fun h => a_inS bytes 1 1000000000000 h
 refine gE Tryz.func17 rfl (by kernel_rfl) 125 rfl fun c => ?_
 (repeat (first | refine gO rfl ?_ | ((first | refine gM zM29 ?_ | (with_reducible refine wM ?_ ?_) | ((with_reducible refine xS ?_); refine uD 5 zM29 zPEE zPEP 128 rfl (by kernel_rfl) ?_) | ((with_reducible refine xR ?_); refine uE 11 zM29 zPFE zPFP 128 rfl (by kernel_rfl) ?_)) <;> ((try with_reducible intro K1 hK1); simp only [go_sem, ↓reduceIte, reduceCtorEq, nA, nB, nC, nD, nE, nF] <;> and_intros <;> first | (apply hK1; clear hK1 K1) | (intros; first | omega | decide) | skip))))
 intro q hq
 refine hK1 _ ?_; clear hK1 K1
 have hle : Hp.le h ⟨upd h.H q (some (AO.cells [.v (.string item)])), h.T⟩ := ⟨fun t => by
  by_cases e : t = q
  ·subst e; exact .inl hq
  ·exact .inr (by show h.H t = upd h.H q _ t; rw [upd_other _ _ e]), fun _ => .inr rfl⟩
 have hq2 : upd h.H q (some (AO.cells [.v (.string item)])) q = some (.cells [.v (.string item)]) := upd_same _ _ _
 (repeat (first | refine gO rfl ?_ | ((first | refine gM zM29 ?_ | (with_reducible refine wM ?_ ?_) | ((with_reducible refine xS ?_); refine uD 5 zM29 zPEE zPEP 128 rfl (by kernel_rfl) ?_) | ((with_reducible refine xR ?_); refine uE 11 zM29 zPFE zPFP 128 rfl (by kernel_rfl) ?_)) <;> ((try with_reducible intro K1 hK1); simp only [go_sem, ↓reduceIte, reduceCtorEq, nA, nB, nC, nD, nE, nF, hq2] <;> and_intros <;> first | (apply hK1; clear hK1 K1) | (intros; first | omega | decide) | skip))))
 refine (hK _).mono ?_; rintro _ hz ⟨rfl, hh⟩; apply hK1; clear hK1 K1; rw [hh]; clear hh hz
 cases hk : keyB item with
 | false =>
  (repeat (first | refine gO rfl ?_ | ((first | refine gM zM29 ?_ | (with_reducible refine wM ?_ ?_) | ((with_reducible refine xS ?_); refine uD 5 zM29 zPEE zPEP 128 rfl (by kernel_rfl) ?_) | ((with_reducible refine xR ?_); refine uE 11 zM29 zPFE zPFP 128 rfl (by kernel_rfl) ?_)) <;> ((try with_reducible intro K1 hK1); simp only [go_sem, ↓reduceIte, reduceCtorEq, nA, nB, nC, nD, nE, nF, Bool.not_false] <;> and_intros <;> first | (apply hK1; clear hK1 K1) | (intros; first | omega | decide) | skip))))
  refine awp_cond (t := _) rfl (fun _ => ?_) (fun h9 => by cases h9)
  (repeat (first | refine gO rfl ?_ | ((first | refine gM zM29 ?_ | (with_reducible refine wM ?_ ?_) | ((with_reducible refine xS ?_); refine uD 5 zM29 zPEE zPEP 128 rfl (by kernel_rfl) ?_) | ((with_reducible refine xR ?_); refine uE 11 zM29 zPFE zPFP 128 rfl (by kernel_rfl) ?_)) <;> ((try with_reducible intro K1 hK1); simp only [go_sem, ↓reduceIte, reduceCtorEq, nA, nB, nC, nD, nE, nF] <;> and_intros <;> first | (apply hK1; clear hK1 K1) | (intros; first | omega | decide) | skip))))
  simp only [Tryz.results17, go_sem, ↓reduceIte, reduceCtorEq, nA, nB, nC, nD, nE, nF]
  exact ⟨_, h, Weak.refl _, hle, rfl, rfl⟩
 | true =>
  have hb : ¬ (1 ≤ bytes ∧ bytes ≤ 1000000000000) := hn.resolve_left (by rw [hk]; decide)
  have hbb : (decide (1 ≤ bytes) && decide (bytes ≤ 1000000000000)) = false := by
   rw [Bool.and_eq_false_iff, decide_eq_false_iff_not, decide_eq_false_iff_not]; omega
  rw [hbb] at hI
  (repeat (first | refine gO rfl ?_ | ((first | refine gM zM29 ?_ | (with_reducible refine wM ?_ ?_) | ((with_reducible refine xS ?_); refine uD 5 zM29 zPEE zPEP 128 rfl (by kernel_rfl) ?_) | ((with_reducible refine xR ?_); refine uE 11 zM29 zPFE zPFP 128 rfl (by kernel_rfl) ?_)) <;> ((try with_reducible intro K1 hK1); simp only [go_sem, ↓reduceIte, reduceCtorEq, nA, nB, nC, nD, nE, nF, Bool.not_true] <;> and_intros <;> first | (apply hK1; clear hK1 K1) | (intros; first | omega | decide) | skip))))
  refine awp_cond (t := _) rfl (fun h9 => by cases h9) (fun _ => ?_)
  (repeat (first | refine gO rfl ?_ | ((first | refine gM zM29 ?_ | (with_reducible refine wM ?_ ?_) | ((with_reducible refine xS ?_); refine uD 5 zM29 zPEE zPEP 128 rfl (by kernel_rfl) ?_) | ((with_reducible refine xR ?_); refine uE 11 zM29 zPFE zPFP 128 rfl (by kernel_rfl) ?_)) <;> ((try with_reducible intro K1 hK1); simp only [go_sem, ↓reduceIte, reduceCtorEq, nA, nB, nC, nD, nE, nF] <;> and_intros <;> first | (apply hK1; clear hK1 K1) | (intros; first | omega | decide) | skip))))
  refine (hI _).mono ?_; rintro _ hz ⟨rfl, hh⟩; apply hK1; clear hK1 K1; rw [hh]; clear hh hz
  (repeat (first | refine gO rfl ?_ | ((first | refine gM zM29 ?_ | (with_reducible refine wM ?_ ?_) | ((with_reducible refine xS ?_); refine uD 5 zM29 zPEE zPEP 128 rfl (by kernel_rfl) ?_) | ((with_reducible refine xR ?_); refine uE 11 zM29 zPFE zPFP 128 rfl (by kernel_rfl) ?_)) <;> ((try with_reducible intro K1 hK1); simp only [go_sem, ↓reduceIte, reduceCtorEq, nA, nB, nC, nD, nE, nF, Bool.not_false] <;> and_intros <;> first | (apply hK1; clear hK1 K1) | (intros; first | omega | decide) | skip))))
  refine awp_cond (t := _) rfl (fun _ => ?_) (fun h9 => by cases h9)
  (repeat (first | refine gO rfl ?_ | ((first | refine gM zM29 ?_ | (with_reducible refine wM ?_ ?_) | ((with_reducible refine xS ?_); refine uD 5 zM29 zPEE zPEP 128 rfl (by kernel_rfl) ?_) | ((with_reducible refine xR ?_); refine uE 11 zM29 zPFE zPFP 128 rfl (by kernel_rfl) ?_)) <;> ((try with_reducible intro K1 hK1); simp only [go_sem, ↓reduceIte, reduceCtorEq, nA, nB, nC, nD, nE, nF] <;> and_intros <;> first | (apply hK1; clear hK1 K1) | (intros; first | omega | decide) | skip))))
  simp only [Tryz.results17, go_sem, ↓reduceIte, reduceCtorEq, nA, nB, nC, nD, nE, nF]
  exact ⟨_, h, Weak.refl _, hle, rfl, rfl⟩
def PutSR (room rule came : Int) (item : ByteArray) (bytes : Int) (S : List Sk) (si k : Nat) (h : Hp) (r : AV) (h' : Hp) : Prop :=
 ∃ (k' : Nat) (S' : List Sk) (came' : Int), h'.H si = some (.cells (encSt room rule came' k' S'.length)) ∧ h'.T k' = some (.cont 5 (S'.map encSk)) ∧ (∀ q, h.H q ≠ none → q ≠ si → h'.H q = h.H q) ∧ (∀ t, h.T t ≠ none → t ≠ k → t ≠ k' ∧ h'.T t = h.T t) ∧
  match evS room rule item ((inS item bytes came S).length + 1) (inS item bytes came S) [] with
  | none => r = .tup [.v (.slice none 0 0), .v (.int .i64 12)] ∧ S' = S ∧ came' = came
  | some (S2, o) => (∃ kt, r = .tup [.row 1 (o.map encS) (some kt), .v (.int .i64 0)]) ∧ S' = S2 ∧ came' = cameS item came S
theorem idxS_set {pr : Sk → Bool} {S : List Sk} {i : Nat} {x y : Sk} (hx : S[i]? = some x) (hp : pr y = pr x) : idxS pr (S.set i y) = idxS pr S := by
 have e : ∀ l : List Sk, l.findIdx? pr = (l.map pr).findIdx? id := fun l => by rw [List.findIdx?_map]; rfl
 have e2 : (S.map pr).set i (pr x) = S.map pr := by
  refine List.ext_getElem? fun j => ?_
  rw [List.getElem?_set]
  split
  ·rename_i ej
   subst ej
   have hil := (List.getElem?_eq_some_iff.1 hx).1
   rw [if_pos (by rw [List.length_map]; exact hil), List.getElem?_map, hx]; rfl
  ·rfl
 unfold idxS
 rw [e, e, List.map_set, hp, e2]
theorem askS_set {S : List Sk} {i : Nat} {y : Sk} : askS i y (S.set i y) = askS i y S := by
 unfold askS
 rw [List.take_set_of_le (Nat.le_refl i), List.drop_set_of_lt (Nat.lt_succ_self i)]
theorem evS_stop {room rule : Int} {item : ByteArray} {f : Nat} {S : List Sk} {o : List ByteArray} (h : ¬ room - sumS S < 0) : evS room rule item (f + 1) S o = some (S, o) := by rw [evS, if_neg h]
theorem evS_none {room rule : Int} {item : ByteArray} {f : Nat} {S : List Sk} {o : List ByteArray} (h : room - sumS S < 0) (hn : (namS rule S).filter (fun x => !decide (x = item)) = []) : evS room rule item (f + 1) S o = none := by rw [evS, if_pos h, hn]
theorem evS_go {room rule : Int} {item : ByteArray} {f : Nat} {S : List Sk} {o l : List ByteArray} {n : ByteArray} (h : room - sumS S < 0) (hn : (namS rule S).filter (fun x => !decide (x = item)) = n :: l) : evS room rule item (f + 1) S o = evS room rule item f (eraS n S) (o ++ [n]) := by rw [evS, if_pos h, hn]
theorem namS_mem {rule : Int} {S : List Sk} {n : ByteArray} (h : n ∈ namS rule S) : ∃ x ∈ S, x.1 = n := by
 unfold namS at h
 obtain ⟨x, hx, e⟩ := List.mem_map.1 h
 exact ⟨x, (List.mem_filter.1 ((sortI_perm _ _).mem_iff.1 hx)).1, e⟩
theorem g_putSY (bytes : Int) (hC : h.H si = some (.cells (encSt room rule came k S.length))) (hT : h.T k = some (.cont 5 (S.map encSk))) (hl : S.length ≤ 11) (hs : item.size ≤ 1000) (hk : keyB item = true) (hb : 1 ≤ bytes ∧ bytes ≤ 1000000000000)
  (hB : ∀ x ∈ S, 0 ≤ x.2.1 ∧ x.2.1 ≤ 1000000000000) (hM : ∀ x ∈ S, 0 ≤ x.2.2.1 ∧ x.2.2.1 ≤ 1000000000) (hr : 0 ≤ room ∧ room ≤ 1000000000000) (hcm : 0 ≤ came ∧ came ≤ 1000000000) :
  ACalls Tryz.prog 17 [.ptr si 0, .v (.string item), .v (.int .i64 bytes)] h (PutSR room rule came item bytes S si k h) := by
 have hK := fun h => a_key item (by omega) h
 have hI := fun h => a_inS bytes 1 1000000000000 h
 have hbb : (decide (1 ≤ bytes) && decide (bytes ≤ 1000000000000)) = true := by rw [Bool.and_eq_true, decide_eq_true_eq, decide_eq_true_eq]; exact hb
 rw [hk] at hK
 rw [hbb] at hI
 have hml : (S.map encSk).length = S.length := List.length_map _
 refine gE Tryz.func17 rfl (by kernel_rfl) 125 rfl fun c => ?_
 (repeat (first | refine gO rfl ?_ | ((first | refine gM zM29 ?_ | (with_reducible refine wM ?_ ?_) | ((with_reducible refine xS ?_); refine uD 5 zM29 zPEE zPEP 128 rfl (by kernel_rfl) ?_) | ((with_reducible refine xR ?_); refine uE 11 zM29 zPFE zPFP 128 rfl (by kernel_rfl) ?_)) <;> ((try with_reducible intro K1 hK1); simp only [go_sem, ↓reduceIte, reduceCtorEq, nA, nB, nC, nD, nE, nF] <;> and_intros <;> first | (apply hK1; clear hK1 K1) | (intros; first | omega | decide) | skip))))
 intro q hq
 refine hK1 _ ?_; clear hK1 K1
 have hne : si ≠ q := by rintro rfl; rw [hC] at hq; cases hq
 obtain ⟨H1, hH1⟩ : ∃ H1, H1 = upd h.H q (some (AO.cells [.v (.string item)])) := ⟨_, rfl⟩
 have hq2 : H1 q = some (.cells [.v (.string item)]) := by rw [hH1]; exact upd_same _ _ _
 have hC2 : H1 si = some (.cells (encSt room rule came k S.length)) := by rw [hH1, upd_other _ _ hne]; exact hC
 have hH1o : ∀ p, h.H p ≠ none → H1 p = h.H p := fun p hp => by
  have e : p ≠ q := by rintro rfl; exact hp hq
  rw [hH1, upd_other _ _ e]
 rw [← hH1]
 clear hH1
 (repeat (first | refine gO rfl ?_ | ((first | refine gM zM29 ?_ | (with_reducible refine wM ?_ ?_) | ((with_reducible refine xS ?_); refine uD 5 zM29 zPEE zPEP 128 rfl (by kernel_rfl) ?_) | ((with_reducible refine xR ?_); refine uE 11 zM29 zPFE zPFP 128 rfl (by kernel_rfl) ?_)) <;> ((try with_reducible intro K1 hK1); simp only [go_sem, ↓reduceIte, reduceCtorEq, nA, nB, nC, nD, nE, nF, hq2] <;> and_intros <;> first | (apply hK1; clear hK1 K1) | (intros; first | omega | decide) | skip))))
 refine (hK _).mono ?_; rintro _ hz ⟨rfl, hh⟩; apply hK1; clear hK1 K1; rw [hh]; clear hh hz
 (repeat (first | refine gO rfl ?_ | ((first | refine gM zM29 ?_ | (with_reducible refine wM ?_ ?_) | ((with_reducible refine xS ?_); refine uD 5 zM29 zPEE zPEP 128 rfl (by kernel_rfl) ?_) | ((with_reducible refine xR ?_); refine uE 11 zM29 zPFE zPFP 128 rfl (by kernel_rfl) ?_)) <;> ((try with_reducible intro K1 hK1); simp only [go_sem, ↓reduceIte, reduceCtorEq, nA, nB, nC, nD, nE, nF, Bool.not_true] <;> and_intros <;> first | (apply hK1; clear hK1 K1) | (intros; first | omega | decide) | skip))))
 refine awp_cond (t := _) rfl (fun h9 => by cases h9) (fun _ => ?_)
 (repeat (first | refine gO rfl ?_ | ((first | refine gM zM29 ?_ | (with_reducible refine wM ?_ ?_) | ((with_reducible refine xS ?_); refine uD 5 zM29 zPEE zPEP 128 rfl (by kernel_rfl) ?_) | ((with_reducible refine xR ?_); refine uE 11 zM29 zPFE zPFP 128 rfl (by kernel_rfl) ?_)) <;> ((try with_reducible intro K1 hK1); simp only [go_sem, ↓reduceIte, reduceCtorEq, nA, nB, nC, nD, nE, nF] <;> and_intros <;> first | (apply hK1; clear hK1 K1) | (intros; first | omega | decide) | skip))))
 refine (hI _).mono ?_; rintro _ hz ⟨rfl, hh⟩; apply hK1; clear hK1 K1; rw [hh]; clear hh hz
 (repeat (first | refine gO rfl ?_ | ((first | refine gM zM29 ?_ | (with_reducible refine wM ?_ ?_) | ((with_reducible refine xS ?_); refine uD 5 zM29 zPEE zPEP 128 rfl (by kernel_rfl) ?_) | ((with_reducible refine xR ?_); refine uE 11 zM29 zPFE zPFP 128 rfl (by kernel_rfl) ?_)) <;> ((try with_reducible intro K1 hK1); simp only [go_sem, ↓reduceIte, reduceCtorEq, nA, nB, nC, nD, nE, nF, Bool.not_true] <;> and_intros <;> first | (apply hK1; clear hK1 K1) | (intros; first | omega | decide) | skip))))
 refine awp_cond (t := _) rfl (fun h9 => by cases h9) (fun _ => ?_)
 (repeat (first | refine gO rfl ?_ | ((first | refine gM zM29 ?_ | (with_reducible refine wM ?_ ?_) | ((with_reducible refine xS ?_); refine uD 5 zM29 zPEE zPEP 128 rfl (by kernel_rfl) ?_) | ((with_reducible refine xR ?_); refine uE 11 zM29 zPFE zPFP 128 rfl (by kernel_rfl) ?_)) <;> ((try with_reducible intro K1 hK1); simp only [go_sem, ↓reduceIte, reduceCtorEq, nA, nB, nC, nD, nE, nF, hC2, encSt] <;> and_intros <;> first | (apply hK1; clear hK1 K1) | (intros; first | omega | decide) | skip))))
 refine (g_clS k S ⟨H1, h.T⟩ hT (by omega)).mono ?_
 rintro _ _ ⟨kc, rfl, hkc, rfl⟩
 refine hK1 _ ?_; clear hK1 K1
 replace hkc : h.T kc = none := hkc
 have hkk : k ≠ kc := by rintro rfl; rw [hT] at hkc; cases hkc
 obtain ⟨T1, hT1⟩ : ∃ T1, T1 = upd h.T kc (some (TO.cont 5 (S.map encSk))) := ⟨_, rfl⟩
 have h1k : T1 k = some (.cont 5 (S.map encSk)) := by rw [hT1, upd_other _ _ hkk]; exact hT
 have h1c : T1 kc = some (.cont 5 (S.map encSk)) := by rw [hT1]; exact upd_same _ _ _
 have h1o : ∀ t, h.T t ≠ none → T1 t = h.T t ∧ t ≠ kc := fun t ht => by
  have e : t ≠ kc := by rintro rfl; exact ht hkc
  exact ⟨by rw [hT1, upd_other _ _ e], e⟩
 rw [← hT1]
 clear hT1
 (repeat (first | refine gO rfl ?_ | ((first | refine gM zM29 ?_ | (with_reducible refine wM ?_ ?_) | ((with_reducible refine xS ?_); refine uD 5 zM29 zPEE zPEP 128 rfl (by kernel_rfl) ?_) | ((with_reducible refine xR ?_); refine uE 11 zM29 zPFE zPFP 128 rfl (by kernel_rfl) ?_)) <;> ((try with_reducible intro K1 hK1); simp only [go_sem, ↓reduceIte, reduceCtorEq, nA, nB, nC, nD, nE, nF, hC2, encSt, hq2] <;> and_intros <;> first | (apply hK1; clear hK1 K1) | (intros; first | omega | decide) | skip))))
 all_goals try with_reducible rfl
 (repeat (first | refine gO rfl ?_ | ((first | refine gM zM29 ?_ | (with_reducible refine wM ?_ ?_) | ((with_reducible refine xS ?_); refine uD 5 zM29 zPEE zPEP 128 rfl (by kernel_rfl) ?_) | ((with_reducible refine xR ?_); refine uE 11 zM29 zPFE zPFP 128 rfl (by kernel_rfl) ?_)) <;> ((try with_reducible intro K1 hK1); simp only [go_sem, ↓reduceIte, reduceCtorEq, nA, nB, nC, nD, nE, nF, hC2, encSt, hq2] <;> and_intros <;> first | (apply hK1; clear hK1 K1) | (intros; first | omega | decide) | skip))))
 refine (g_at (h := ⟨H1, T1⟩) item hC2 h1k (by omega)).mono ?_; rintro _ hz ⟨rfl, hh⟩; apply hK1; clear hK1 K1; rw [hh]; clear hh hz
 (repeat (first | refine gO rfl ?_ | ((first | refine gM zM29 ?_ | (with_reducible refine wM ?_ ?_) | ((with_reducible refine xS ?_); refine uD 5 zM29 zPEE zPEP 128 rfl (by kernel_rfl) ?_) | ((with_reducible refine xR ?_); refine uE 11 zM29 zPFE zPFP 128 rfl (by kernel_rfl) ?_)) <;> ((try with_reducible intro K1 hK1); simp only [go_sem, ↓reduceIte, reduceCtorEq, nA, nB, nC, nD, nE, nF] <;> and_intros <;> first | (apply hK1; clear hK1 K1) | (intros; first | omega | decide) | skip))))
 refine awp_join (rl false [0, 3, 1, 1, 3, 1, 119]) 0 (fun s => ∃ (k2 : Nat) (H2 : Nat → Option AO) (T2 : Nat → Option TO), H2 si = some (.cells (encSt room rule (cameS item came S) k2 (inS item bytes came S).length)) ∧ T2 k2 = some (.cont 5 ((inS item bytes came S).map encSk)) ∧
  (∀ p, p ≠ si → H2 p = H1 p) ∧ k2 ≠ kc ∧ T2 kc = some (.cont 5 (S.map encSk)) ∧ (∀ t, h.T t ≠ none → t ≠ k → T2 t = h.T t ∧ t ≠ k2 ∧ t ≠ kc) ∧
  s = ⟨((.ptr si 0) :: (.v (.string item)) :: (.v (.int .i64 bytes)) :: AV.junk :: ((.ptr q 0) :: (jnk 3 ((.ref [.v (.int .i64 room), .v (.int .i64 rule), .arr 5 kc S.length, .v (.int .i64 came)] 0) :: (jnk 119 []))))), [], ⟨H2, T2⟩⟩) ?_ ?_
 ·rcases find_idx item S with ⟨hi, hf⟩ | ⟨i, x, hi, hx, hxi, hf⟩
  ·rw [hi]
   have hcm : cameS item came S = came + 1 := by unfold cameS; rw [hf]; rfl
   have hin : inS item bytes came S = S ++ [(item, bytes, 1, came + 1, false)] := by unfold inS; rw [hf]
   have hq3 : ∀ c, upd H1 si c q = some (.cells [.v (.string item)]) := fun c => (upd_other _ _ (Ne.symm hne)).trans hq2
   rw [hcm, hin]
   (repeat (first | refine gO rfl ?_ | ((first | refine gM zM29 ?_ | (with_reducible refine wM ?_ ?_) | ((with_reducible refine xS ?_); refine uD 5 zM29 zPEE zPEP 128 rfl (by kernel_rfl) ?_) | ((with_reducible refine xR ?_); refine uE 11 zM29 zPFE zPFP 128 rfl (by kernel_rfl) ?_)) <;> ((try with_reducible intro K1 hK1); simp only [go_sem, ↓reduceIte, reduceCtorEq, nA, nB, nC, nD, nE, nF] <;> and_intros <;> first | (apply hK1; clear hK1 K1) | (intros; first | omega | decide) | skip))))
   refine awp_cond (t := _) rfl (fun h9 => by cases h9) (fun _ => ?_)
   (repeat (first | refine gO rfl ?_ | ((first | refine gM zM29 ?_ | (with_reducible refine wM ?_ ?_) | ((with_reducible refine xS ?_); refine uD 5 zM29 zPEE zPEP 128 rfl (by kernel_rfl) ?_) | ((with_reducible refine xR ?_); refine uE 11 zM29 zPFE zPFP 128 rfl (by kernel_rfl) ?_)) <;> ((try with_reducible intro K1 hK1); simp only [go_sem, ↓reduceIte, reduceCtorEq, nA, nB, nC, nD, nE, nF, hC2, encSt, hq2, hq3, h1k, hml] <;> and_intros <;> first | (apply hK1; clear hK1 K1) | (intros; first | omega | decide) | skip))))
   have hn1 : (S ++ [(item, bytes, 1, came + 1, false)]).length = S.length + 1 := by simp
   have hm1 : (S ++ [((item, bytes, 1, came + 1, false) : Sk)]).map encSk = S.map encSk ++ [[.v (.string item), .v (.int .i64 bytes), .v (.int .i64 1), .v (.int .i64 (came + 1)), .v (.bool false)]] := by rw [List.map_append]; rfl
   rw [hn1, hm1]
   exact ⟨k, _, _, upd_same _ _ _, upd_same _ _ _, fun p hp => upd_other _ _ hp, hkk, (upd_other _ _ hkk.symm).trans h1c, fun t ht htk => ⟨(upd_other _ _ htk).trans (h1o t ht).1, htk, (h1o t ht).2⟩, rfl⟩
  ·rw [hi]
   have hcm : cameS item came S = came := by unfold cameS; rw [hf]; rfl
   have hin : inS item bytes came S = askS i (setBS bytes x) S := by unfold inS; rw [hf]; simp only; rw [hi, Int.toNat_natCast]
   have d0 : decide ((0 : Int) ≤ (i : Int)) = true := decide_eq_true (by omega)
   have hil : i < S.length := (List.getElem?_eq_some_iff.1 hx).1
   have gx : (S.map encSk).getD i [] = encSk x := by rw [List.getD_eq_getElem?_getD, List.getElem?_map, hx]; rfl
   rw [hcm, hin]
   (repeat (first | refine gO rfl ?_ | ((first | refine gM zM29 ?_ | (with_reducible refine wM ?_ ?_) | ((with_reducible refine xS ?_); refine uD 5 zM29 zPEE zPEP 128 rfl (by kernel_rfl) ?_) | ((with_reducible refine xR ?_); refine uE 11 zM29 zPFE zPFP 128 rfl (by kernel_rfl) ?_)) <;> ((try with_reducible intro K1 hK1); simp only [go_sem, ↓reduceIte, reduceCtorEq, nA, nB, nC, nD, nE, nF, d0] <;> and_intros <;> first | (apply hK1; clear hK1 K1) | (intros; first | omega | decide) | skip))))
   refine awp_cond (t := _) rfl (fun _ => ?_) (fun h9 => by cases h9)
   (repeat (first | refine gO rfl ?_ | ((first | refine gM zM29 ?_ | (with_reducible refine wM ?_ ?_) | ((with_reducible refine xS ?_); refine uD 5 zM29 zPEE zPEP 128 rfl (by kernel_rfl) ?_) | ((with_reducible refine xR ?_); refine uE 11 zM29 zPFE zPFP 128 rfl (by kernel_rfl) ?_)) <;> ((try with_reducible intro K1 hK1); simp only [go_sem, ↓reduceIte, reduceCtorEq, nA, nB, nC, nD, nE, nF, hC2, encSt, hq2, h1k, hml, Int.toNat_natCast, gx, encSk] <;> and_intros <;> first | (apply hK1; clear hK1 K1) | (intros; first | omega | decide) | skip))))
   have hst : (S.set i (setBS bytes x)).map encSk = (S.map encSk).set i [.v (.string x.1), .v (.int .i64 bytes), .v (.int .i64 x.2.2.1), .v (.int .i64 x.2.2.2.1), .v (.bool x.2.2.2.2)] := by rw [List.map_set]; rfl
   have hsl : (S.set i (setBS bytes x)).length = S.length := by simp
   rw [← hst]
   refine (g_askY (room := room) (rule := rule) (came := came) (k := k) (S := S.set i (setBS bytes x)) (i := i) (x := setBS bytes x) (by rw [hsl]; exact hC2) (upd_same _ _ _) (by omega) hs hk ((idxS_set (pr := isIt item) (y := setBS bytes x) hx rfl).trans hi) (by rw [List.getElem?_set, if_pos rfl, if_pos hil]) (hM x (List.mem_of_getElem? hx))).mono ?_
   rintro _ _ ⟨k2, hk2, rfl, rfl⟩
   refine hK1 _ ?_; clear hK1 K1
   rw [askS_set]
   replace hk2 : upd T1 k (some (TO.cont 5 ((S.set i (setBS bytes x)).map encSk))) k2 = none := hk2
   have hkk2 : k2 ≠ k := by rintro rfl; rw [upd_same] at hk2; cases hk2
   rw [upd_other _ _ hkk2] at hk2
   have hkc3 : k2 ≠ kc := by rintro rfl; rw [h1c] at hk2; cases hk2
   have hto : ∀ c t, t ≠ k → t ≠ k2 → upd (upd (upd T1 k (some (TO.cont 5 ((S.set i (setBS bytes x)).map encSk)))) k none) k2 c t = T1 t := fun c t h1 h2 => by rw [upd_other _ _ h2, upd_other _ _ h1, upd_other _ _ h1]
   (repeat (first | refine gO rfl ?_ | ((first | refine gM zM29 ?_ | (with_reducible refine wM ?_ ?_) | ((with_reducible refine xS ?_); refine uD 5 zM29 zPEE zPEP 128 rfl (by kernel_rfl) ?_) | ((with_reducible refine xR ?_); refine uE 11 zM29 zPFE zPFP 128 rfl (by kernel_rfl) ?_)) <;> ((try with_reducible intro K1 hK1); simp only [go_sem, ↓reduceIte, reduceCtorEq, nA, nB, nC, nD, nE, nF] <;> and_intros <;> first | (apply hK1; clear hK1 K1) | (intros; first | omega | decide) | skip))))
   refine ⟨k2, _, _, upd_same _ _ _, upd_same _ _ _, fun p hp => upd_other _ _ hp, hkc3, (hto _ _ hkk.symm hkc3.symm).trans h1c, fun t ht htk => ?_, rfl⟩
   have e : t ≠ k2 := by rintro rfl; rw [(h1o t ht).1] at hk2; exact ht hk2
   exact ⟨(hto _ _ htk e).trans (h1o t ht).1, e, (h1o t ht).2⟩
 rintro _ ⟨k2, H2, T2, hC3, hT3, hH3, hkc2, hTc, hTo, rfl⟩
 have hinl : (inS item bytes came S).length ≤ 12 := by
  rcases find_idx item S with ⟨hi, hf⟩ | ⟨i, x, hi, hx, hxi, hf⟩
  ·unfold inS; rw [hf]; simp; omega
  ·unfold inS; rw [hf]; simp only; unfold askS; rw [List.length_append, List.length_append, List.length_take, List.length_drop, List.length_singleton]; omega
 have hinb : ∀ x ∈ inS item bytes came S, 0 ≤ x.2.1 ∧ x.2.1 ≤ 1000000000000 := by
  rcases find_idx item S with ⟨hi, hf⟩ | ⟨i, x, hi, hx, hxi, hf⟩
  ·unfold inS; rw [hf]; intro y hy
   rcases List.mem_append.1 hy with hy | hy
   ·exact hB y hy
   ·rw [List.mem_singleton.1 hy]; exact ⟨by show 0 ≤ bytes; omega, hb.2⟩
  ·unfold inS; rw [hf]; intro y hy
   simp only at hy
   unfold askS at hy
   rcases List.mem_append.1 hy with hy | hy
   ·rcases List.mem_append.1 hy with hy | hy
    ·exact hB y (List.mem_of_mem_take hy)
    ·exact hB y (List.mem_of_mem_drop hy)
   ·rw [List.mem_singleton.1 hy]; exact ⟨by show 0 ≤ bytes; omega, hb.2⟩
 unfold PutSR
 generalize cameS item came S = cm at *
 generalize inS item bytes came S = S1 at *
 generalize hE : evS room rule item (S1.length + 1) S1 [] = E
 first | refine gO rfl ?_ | ((first | refine gM zM29 ?_ | (with_reducible refine wM ?_ ?_) | ((with_reducible refine xS ?_); refine uD 5 zM29 zPEE zPEP 128 rfl (by kernel_rfl) ?_) | ((with_reducible refine xR ?_); refine uE 11 zM29 zPFE zPFP 128 rfl (by kernel_rfl) ?_)) <;> ((try with_reducible intro K1 hK1); simp only [go_sem, ↓reduceIte, reduceCtorEq, nA, nB, nC, nD, nE, nF] <;> and_intros <;> first | (apply hK1; clear hK1 K1) | (intros; first | omega | decide | (simp_all <;> omega)) | skip))
 refine awp_own 10 1 rfl ⟨rfl, rfl⟩ (fun kt hkt => ?_)
 replace hkt : T2 kt = none := hkt
 have hH3q : H2 q = some (.cells [.v (.string item)]) := (hH3 q (Ne.symm hne)).trans hq2
 have hk2t : k2 ≠ kt := by rintro rfl; rw [hT3] at hkt; cases hkt
 have hkct : kc ≠ kt := by rintro rfl; rw [hTc] at hkt; cases hkt
 have hoT : ∀ t, h.T t ≠ none → t ≠ k → t ≠ kt := fun t ht htk e => by
  have := (hTo t ht htk).1
  rw [e, hkt] at this; exact ht (e ▸ this.symm)
 (repeat (first | refine gO rfl ?_ | ((first | refine gM zM29 ?_ | (with_reducible refine wM ?_ ?_) | ((with_reducible refine xS ?_); refine uD 5 zM29 zPEE zPEP 128 rfl (by kernel_rfl) ?_) | ((with_reducible refine xR ?_); refine uE 11 zM29 zPFE zPFP 128 rfl (by kernel_rfl) ?_)) <;> ((try with_reducible intro K1 hK1); simp only [go_sem, ↓reduceIte, reduceCtorEq, nA, nB, nC, nD, nE, nF] <;> and_intros <;> first | (apply hK1; clear hK1 K1) | (intros; first | omega | decide) | skip))))
 refine awp_loopC (rl false [0, 1, 3, 1, 3, 1, 1, 1, 117]) 0 (fun g s => ∃ (k3 : Nat) (S3 : List Sk) (o : List ByteArray) (H3 : Nat → Option AO) (T3 : Nat → Option TO), g = S3.length ∧ S3.length ≤ 12 ∧ o.length + S3.length ≤ 12 ∧ (∀ x ∈ S3, 0 ≤ x.2.1 ∧ x.2.1 ≤ 1000000000000) ∧ evS room rule item (S3.length + 1) S3 o = E ∧
  H3 si = some (.cells (encSt room rule cm k3 S3.length)) ∧ T3 k3 = some (.cont 5 (S3.map encSk)) ∧ (∀ p, p ≠ si → H3 p = H1 p) ∧ k3 ≠ kc ∧ k3 ≠ kt ∧ T3 kc = some (.cont 5 (S.map encSk)) ∧ T3 kt = some (.tail o.length) ∧ (∀ t, h.T t ≠ none → t ≠ k → T3 t = h.T t ∧ t ≠ k3) ∧
  s = ⟨((.ptr si 0) :: (jnk 3 ((.ptr q 0) :: (jnk 3 ((.ref [.v (.int .i64 room), .v (.int .i64 rule), .arr 5 kc S.length, .v (.int .i64 came)] 0) :: AV.junk :: ((.row 1 (o.map encS) (some kt)) :: (jnk 117 []))))))), [], ⟨H3, T3⟩⟩) S1.length ?_ ?_
 ·exact ⟨k2, S1, [], H2, upd T2 kt (some (.tail 0)), rfl, hinl, by simp; omega, hinb, hE, hC3, (upd_other _ _ hk2t).trans hT3, hH3, hkc2, hk2t, (upd_other _ _ hkct).trans hTc, upd_same _ _ _, fun t ht htk => ⟨(upd_other _ _ (hoT t ht htk)).trans (hTo t ht htk).1, (hTo t ht htk).2.1⟩, rfl⟩
 clear hC3 hT3 hTo hinb hinl hE hk2t hkc2 hTc hH3 hH3q hkt hC2 h1k h1c
 rintro _ _ ⟨k3, S3, o, H3, T3, rfl, hl3, hlo, hB3, hE, hC3, hT3, hH3, hkc3, hkt3, hTc, hTt, hTo, rfl⟩
 (repeat (first | refine gO rfl ?_ | ((first | refine gM zM29 ?_ | (with_reducible refine wM ?_ ?_) | ((with_reducible refine xS ?_); refine uD 5 zM29 zPEE zPEP 128 rfl (by kernel_rfl) ?_) | ((with_reducible refine xR ?_); refine uE 11 zM29 zPFE zPFP 128 rfl (by kernel_rfl) ?_)) <;> ((try with_reducible intro K1 hK1); simp only [go_sem, ↓reduceIte, reduceCtorEq, nA, nB, nC, nD, nE, nF] <;> and_intros <;> first | (apply hK1; clear hK1 K1) | (intros; first | omega | decide) | skip))))
 refine (g_freeS (h := ⟨H3, T3⟩) hC3 hT3 (by omega) hB3 hr).mono ?_; rintro _ hz ⟨rfl, hh⟩; apply hK1; clear hK1 K1; rw [hh]; clear hh hz
 (repeat (first | refine gO rfl ?_ | ((first | refine gM zM29 ?_ | (with_reducible refine wM ?_ ?_) | ((with_reducible refine xS ?_); refine uD 5 zM29 zPEE zPEP 128 rfl (by kernel_rfl) ?_) | ((with_reducible refine xR ?_); refine uE 11 zM29 zPFE zPFP 128 rfl (by kernel_rfl) ?_)) <;> ((try with_reducible intro K1 hK1); simp only [go_sem, ↓reduceIte, reduceCtorEq, nA, nB, nC, nD, nE, nF] <;> and_intros <;> first | (apply hK1; clear hK1 K1) | (intros; first | omega | decide) | skip))))
 refine awp_cond (t := _) rfl (fun h1 => ?_) (fun h1 => ?_)
 ·simp only [decide_eq_true_eq] at h1
  have hnl : (namS rule S3).length ≤ S3.length := by
   unfold namS; rw [List.length_map, sortI_len]; exact List.length_filter_le _ _
  have hH3q : H3 q = some (.cells [.v (.string item)]) := (hH3 q (Ne.symm hne)).trans hq2
  (repeat (first | refine gO rfl ?_ | ((first | refine gM zM29 ?_ | (with_reducible refine wM ?_ ?_) | ((with_reducible refine xS ?_); refine uD 5 zM29 zPEE zPEP 128 rfl (by kernel_rfl) ?_) | ((with_reducible refine xR ?_); refine uE 11 zM29 zPFE zPFP 128 rfl (by kernel_rfl) ?_)) <;> ((try with_reducible intro K1 hK1); simp only [go_sem, ↓reduceIte, reduceCtorEq, nA, nB, nC, nD, nE, nF] <;> and_intros <;> first | (apply hK1; clear hK1 K1) | (intros; first | omega | decide) | skip))))
  refine (g_orderS (h := ⟨H3, T3⟩) hC3 hT3 hl3).mono ?_
  rintro _ _ ⟨q1, hq1, rfl, rfl⟩
  refine hK1 _ ?_; clear hK1 K1
  replace hq1 : T3 q1 = none := hq1
  have hdn := g_delN (f := 67) (caps := [.ptr q 0]) (fun x => decide (x = item)) q1 (namS rule S3) ⟨H3, upd T3 q1 (some (.cont 1 ((namS rule S3).map encS)))⟩ (upd_same _ _ _) (by omega) (fun p hp T' => g_putC p q ⟨H3, T'⟩ hH3q)
  obtain ⟨N, hN⟩ : ∃ N, (namS rule S3).filter (fun x => !decide (x = item)) = N := ⟨_, rfl⟩
  rw [hN] at hdn
  (repeat (first | refine gO rfl ?_ | ((first | refine gM zM29 ?_ | (with_reducible refine wM ?_ ?_) | ((with_reducible refine xS ?_); refine uD 5 zM29 zPEE zPEP 128 rfl (by kernel_rfl) ?_) | ((with_reducible refine xR ?_); refine uE 11 zM29 zPFE zPFP 128 rfl (by kernel_rfl) ?_)) <;> ((try with_reducible intro K1 hK1); simp only [go_sem, ↓reduceIte, reduceCtorEq, nA, nB, nC, nD, nE, nF] <;> and_intros <;> first | (apply hK1; clear hK1 K1) | (intros; first | omega | decide) | skip))))
  refine hdn.mono ?_
  rintro _ ⟨H4, T4⟩ ⟨q2, rfl, hH4, hT4, hT4o⟩
  refine hK1 _ ?_; clear hK1 K1 hdn
  replace hH4 : H4 = H3 := hH4
  replace hT4 : T4 q2 = some (.cont 1 (N.map encS)) := hT4
  subst hH4
  have hT4p : ∀ t, T3 t ≠ none → t ≠ q2 ∧ T4 t = T3 t := fun t ht => by
   have e : t ≠ q1 := by rintro rfl; exact ht hq1
   have := hT4o t e (by show upd T3 q1 _ t ≠ none; rw [upd_other _ _ e]; exact ht)
   exact ⟨this.1, this.2.trans (upd_other _ _ e)⟩
  clear hT4o
  have hc4 := hT4p kc (by rw [hTc]; simp)
  have ht4 := hT4p kt (by rw [hTt]; simp)
  have h34 := hT4p k3 (by rw [hT3]; simp)
  rw [hTc] at hc4; rw [hTt] at ht4; rw [hT3] at h34
  cases N with
  | nil =>
   rw [evS_none h1 hN] at hE
   subst hE
   (repeat (first | refine gO rfl ?_ | ((first | refine gM zM29 ?_ | (with_reducible refine wM ?_ ?_) | ((with_reducible refine xS ?_); refine uD 5 zM29 zPEE zPEP 128 rfl (by kernel_rfl) ?_) | ((with_reducible refine xR ?_); refine uE 11 zM29 zPFE zPFP 128 rfl (by kernel_rfl) ?_)) <;> ((try with_reducible intro K1 hK1); simp only [go_sem, ↓reduceIte, reduceCtorEq, nA, nB, nC, nD, nE, nF, List.length_nil] <;> and_intros <;> first | (apply hK1; clear hK1 K1) | (intros; first | omega | decide) | skip))))
   refine awp_cond (t := _) rfl (fun _ => ?_) (fun h9 => by cases h9)
   (repeat (first | refine gO rfl ?_ | ((first | refine gM zM29 ?_ | (with_reducible refine wM ?_ ?_) | ((with_reducible refine xS ?_); refine uD 5 zM29 zPEE zPEP 128 rfl (by kernel_rfl) ?_) | ((with_reducible refine xR ?_); refine uE 11 zM29 zPFE zPFP 128 rfl (by kernel_rfl) ?_)) <;> ((try with_reducible intro K1 hK1); simp only [go_sem, ↓reduceIte, reduceCtorEq, nA, nB, nC, nD, nE, nF, hC3, encSt] <;> and_intros <;> first | (apply hK1; clear hK1 K1) | (intros; first | omega | decide) | skip))))
   simp only [Tryz.results17, go_sem, ↓reduceIte, reduceCtorEq, nA, nB, nC, nD, nE, nF]
   refine ⟨_, _, Weak.refl _, Hp.le.refl _, kc, S, came, upd_same _ _ _, hc4.2, fun p hp hps => (upd_other _ _ hps).trans ((hH3 p hps).trans (hH1o p hp)), fun t ht htk => ⟨(h1o t ht).2, ?_⟩, rfl, rfl, rfl⟩
   have := hTo t ht htk
   exact (hT4p t (by rw [this.1]; exact ht)).2.trans this.1
  | cons n l =>
   have hnm : n ∈ namS rule S3 := (List.mem_filter.1 (by rw [hN]; simp : n ∈ (namS rule S3).filter fun x => !decide (x = item))).1
   rw [evS_go h1 hN] at hE
   obtain ⟨m, hm⟩ : ∃ m, m = (n :: l).length := ⟨_, rfl⟩
   obtain ⟨R, hR⟩ : ∃ R, R = (n :: l).map encS := ⟨_, rfl⟩
   have gx : R.getD 0 [] = [.v (.string n)] := by rw [hR]; rfl
   have hml3 : R.length = m := by rw [hR, List.length_map, hm]
   have hm0 : 0 < m := by rw [hm]; simp
   have hne2 : ((m : Int) == 0) = false := by rw [beq_eq_false_iff_ne]; omega
   rw [← hR] at hT4
   rw [← hm]
   clear hm hR hN
   have hol : (o.map encS).length = o.length := List.length_map _
   have hT5 : ∀ c, upd T4 kt c q2 = some (.cont 1 R) := fun c => (upd_other _ _ ht4.1.symm).trans hT4
   (repeat (first | refine gO rfl ?_ | ((first | refine gM zM29 ?_ | (with_reducible refine wM ?_ ?_) | ((with_reducible refine xS ?_); refine uD 5 zM29 zPEE zPEP 128 rfl (by kernel_rfl) ?_) | ((with_reducible refine xR ?_); refine uE 11 zM29 zPFE zPFP 128 rfl (by kernel_rfl) ?_)) <;> ((try with_reducible intro K1 hK1); simp only [go_sem, ↓reduceIte, reduceCtorEq, nA, nB, nC, nD, nE, nF, hne2] <;> and_intros <;> first | (apply hK1; clear hK1 K1) | (intros; first | omega | decide) | skip))))
   refine awp_cond (t := _) rfl (fun h9 => by cases h9) (fun _ => ?_)
   (repeat (first | refine gO rfl ?_ | ((first | refine gM zM29 ?_ | (with_reducible refine wM ?_ ?_) | ((with_reducible refine xS ?_); refine uD 5 zM29 zPEE zPEP 128 rfl (by kernel_rfl) ?_) | ((with_reducible refine xR ?_); refine uE 11 zM29 zPFE zPFP 128 rfl (by kernel_rfl) ?_)) <;> ((try with_reducible intro K1 hK1); simp only [go_sem, ↓reduceIte, reduceCtorEq, nA, nB, nC, nD, nE, nF, hT4, hml3, gx, ht4.2, hol, hT5, Int.toNat_zero] <;> and_intros <;> first | (apply hK1; clear hK1 K1) | (intros; first | omega | decide) | skip))))
   obtain ⟨T5, hT5e⟩ : ∃ T5, T5 = upd T4 kt (some (TO.tail (o.length + 1))) := ⟨_, rfl⟩
   have h35 : T5 k3 = some (.cont 5 (S3.map encSk)) := by rw [hT5e, upd_other _ _ hkt3]; exact h34.2
   have hc5 : T5 kc = some (.cont 5 (S.map encSk)) := by rw [hT5e, upd_other _ _ hkct]; exact hc4.2
   have ht5 : T5 kt = some (.tail (o.length + 1)) := by rw [hT5e]; exact upd_same _ _ _
   have ho5 : ∀ t, h.T t ≠ none → t ≠ k → T5 t = h.T t ∧ t ≠ k3 := fun t ht htk => by
    have := hTo t ht htk
    refine ⟨?_, this.2⟩
    rw [hT5e, upd_other _ _ (hoT t ht htk), (hT4p t (by rw [this.1]; exact ht)).2]; exact this.1
   rw [← hT5e]
   clear hT5e hT5 hT4 hT4p hc4 ht4 h34 gx hml3 hne2
   obtain ⟨i, x, hi, hx, hxi⟩ : ∃ (i : Nat) (x : Sk), idxS (isIt n) S3 = i ∧ S3[i]? = some x ∧ x.1 = n := by
    rcases find_idx n S3 with ⟨_, hf⟩ | ⟨i, x, hi, hx, hxi, _⟩
    ·obtain ⟨y, hy, hyn⟩ := namS_mem hnm
     have := List.find?_eq_none.1 hf y hy
     unfold isIt at this
     exact absurd hyn (by simpa using this)
    ·exact ⟨i, x, hi, hx, hxi⟩
   have hil : i < S3.length := (List.getElem?_eq_some_iff.1 hx).1
   have hera : eraS n S3 = S3.take i ++ S3.drop (i + 1) := by unfold eraS; rw [hi, Int.toNat_natCast]
   have hat := g_at (h := ⟨H4, T5⟩) n hC3 h35 (by omega)
   rw [hi] at hat
   refine hat.mono ?_; rintro _ hz ⟨rfl, hh⟩; apply hK1; clear hK1 K1; rw [hh]; clear hh hz
   have hm3 : (S3.map encSk).length = S3.length := List.length_map _
   have hD := g_delS (S3.map encSk) k3 i ⟨H4, T5⟩ h35 (by omega) (by omega)
   rw [hm3] at hD
   (repeat (first | refine gO rfl ?_ | ((first | refine gM zM29 ?_ | (with_reducible refine wM ?_ ?_) | ((with_reducible refine xS ?_); refine uD 5 zM29 zPEE zPEP 128 rfl (by kernel_rfl) ?_) | ((with_reducible refine xR ?_); refine uE 11 zM29 zPFE zPFP 128 rfl (by kernel_rfl) ?_)) <;> ((try with_reducible intro K1 hK1); simp only [go_sem, ↓reduceIte, reduceCtorEq, nA, nB, nC, nD, nE, nF, hC3, encSt] <;> and_intros <;> first | (apply hK1; clear hK1 K1) | (intros; first | omega | decide) | skip))))
   refine hD.mono ?_
   rintro _ _ ⟨k4, hk4, rfl, rfl⟩
   refine hK1 _ ?_; clear hK1 K1 hat hD
   replace hk4 : T5 k4 = none := hk4
   have e1 : k4 ≠ k3 := by rintro rfl; rw [h35] at hk4; cases hk4
   have e2 : k4 ≠ kc := by rintro rfl; rw [hc5] at hk4; cases hk4
   have e3 : k4 ≠ kt := by rintro rfl; rw [ht5] at hk4; cases hk4
   have hto : ∀ c t, t ≠ k3 → t ≠ k4 → upd (upd T5 k3 none) k4 c t = T5 t := fun c t h1 h2 => by rw [upd_other _ _ h2, upd_other _ _ h1]
   have hmm : (S3.map encSk).take i ++ (S3.map encSk).drop (i + 1) = (eraS n S3).map encSk := by rw [hera, List.map_append, List.map_take, List.map_drop]
   have hel : S3.length - 1 = (eraS n S3).length := by rw [hera, List.length_append, List.length_take, List.length_drop]; omega
   have hoo : o.map encS ++ [[AV.v (.string n)]] = (o ++ [n]).map encS := by rw [List.map_append]; rfl
   have hon : o.length + 1 = (o ++ [n]).length := by simp
   have heb : ∀ x ∈ eraS n S3, 0 ≤ x.2.1 ∧ x.2.1 ≤ 1000000000000 := fun x hx => by
    rw [hera] at hx
    rcases List.mem_append.1 hx with hx | hx
    ·exact hB3 x (List.mem_of_mem_take hx)
    ·exact hB3 x (List.mem_of_mem_drop hx)
   have hEl : evS room rule item ((eraS n S3).length + 1) (eraS n S3) (o ++ [n]) = E := by
    rw [← hE]; congr 1; omega
   rw [hmm, hel, hoo]
   rw [hon] at ht5
   (repeat (first | refine gO rfl ?_ | ((first | refine gM zM29 ?_ | (with_reducible refine wM ?_ ?_) | ((with_reducible refine xS ?_); refine uD 5 zM29 zPEE zPEP 128 rfl (by kernel_rfl) ?_) | ((with_reducible refine xR ?_); refine uE 11 zM29 zPFE zPFP 128 rfl (by kernel_rfl) ?_)) <;> ((try with_reducible intro K1 hK1); simp only [go_sem, ↓reduceIte, reduceCtorEq, nA, nB, nC, nD, nE, nF, hC3, encSt] <;> and_intros <;> first | (apply hK1; clear hK1 K1) | (intros; first | omega | decide) | skip))))
   refine ⟨(eraS n S3).length, by omega, k4, eraS n S3, o ++ [n], _, _, rfl, by omega, by omega, heb, hEl, upd_same _ _ _, upd_same _ _ _, fun p hp => (upd_other _ _ hp).trans (hH3 p hp), e2, e3, (hto _ _ hkc3.symm e2.symm).trans hc5, (hto _ _ hkt3.symm e3.symm).trans ht5, fun t ht htk => ?_, rfl⟩
   have e4 : t ≠ k4 := by rintro rfl; rw [(ho5 t ht htk).1] at hk4; exact ht hk4
   exact ⟨(hto _ _ (ho5 t ht htk).2 e4).trans (ho5 t ht htk).1, e4⟩
 ·simp only [decide_eq_false_iff_not] at h1
  rw [evS_stop h1] at hE
  subst hE
  have d5 : decide ((500 : Int) < (S3.length : Int)) = false := decide_eq_false (by omega)
  (repeat (first | refine gO rfl ?_ | ((first | refine gM zM29 ?_ | (with_reducible refine wM ?_ ?_) | ((with_reducible refine xS ?_); refine uD 5 zM29 zPEE zPEP 128 rfl (by kernel_rfl) ?_) | ((with_reducible refine xR ?_); refine uE 11 zM29 zPFE zPFP 128 rfl (by kernel_rfl) ?_)) <;> ((try with_reducible intro K1 hK1); simp only [go_sem, ↓reduceIte, reduceCtorEq, nA, nB, nC, nD, nE, nF, hC3, encSt] <;> and_intros <;> first | (apply hK1; clear hK1 K1) | (intros; first | omega | decide) | skip))))
  refine awp_cond (t := _) rfl (fun h9 => by rw [d5] at h9; cases h9) (fun _ => ?_)
  (repeat (first | refine gO rfl ?_ | ((first | refine gM zM29 ?_ | (with_reducible refine wM ?_ ?_) | ((with_reducible refine xS ?_); refine uD 5 zM29 zPEE zPEP 128 rfl (by kernel_rfl) ?_) | ((with_reducible refine xR ?_); refine uE 11 zM29 zPFE zPFP 128 rfl (by kernel_rfl) ?_)) <;> ((try with_reducible intro K1 hK1); simp only [go_sem, ↓reduceIte, reduceCtorEq, nA, nB, nC, nD, nE, nF] <;> and_intros <;> first | (apply hK1; clear hK1 K1) | (intros; first | omega | decide) | skip))))
  simp only [Tryz.results17, go_sem, ↓reduceIte, reduceCtorEq, nA, nB, nC, nD, nE, nF]
  refine ⟨_, _, Weak.refl _, Hp.le.refl _, k3, S3, cm, hC3, hT3, fun p hp hps => (hH3 p hps).trans (hH1o p hp), fun t ht htk => ⟨(hTo t ht htk).2, (hTo t ht htk).1⟩, ⟨kt, rfl⟩, rfl, rfl⟩
end
end Go.Proofs.YtfkbaghinemmkaaGreatDoor
