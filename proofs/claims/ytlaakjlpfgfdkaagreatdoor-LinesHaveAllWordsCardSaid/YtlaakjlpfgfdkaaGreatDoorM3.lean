/- asset.Misses, where all is right. -/
import Derived.Test.YtlaakjlpfgfdkaaGreatDoorM2
import Derived.Test.YtlaakjlpfgfdkaaGreatDoorAvUn
import Derived.Lib.Join
namespace Go.Proofs.YtlaakjlpfgfdkaaGreatDoor
open Go
set_option linter.unusedVariables false
set_option linter.unusedSimpArgs false
open Nat renaming reduceAdd → nA, reduceSub → nB, reduceMul → nC, reduceLT → nD, reduceLeDiff → nE, reduceEqDiff → nF, reduceMod → nG, reduceDiv → nH, reducePow → nI
set_option maxRecDepth 100000
set_option maxHeartbeats 8000000
abbrev zM30 : Option Tmp → Nat := mdL [(32, 2)]
abbrev zM31 : Option Tmp → Nat := mdL []
abbrev zM32 : Option Tmp → Nat := mdL [(6, 1)]
abbrev zM33 : Option Tmp → Nat := mdL [(3, 2)]
abbrev zM34 : Option Tmp → Nat := mdL [(5, 1), (14, 2)]
abbrev zM35 : Option Tmp → Nat := mdL [(2, 1), (6, 1), (8, 1), (12, 2)]
abbrev zM36 : Option Tmp → Nat := mdL [(2, 1)]
abbrev zM37 : Option Tmp → Nat := mdL [(4, 1)]
abbrev zM38 : Option Tmp → Nat := mdL [(9, 1)]
abbrev zM39 : Option Tmp → Nat := mdL [(65, 1)]
abbrev zM3A : Option Tmp → Nat := mdL [(11, 1), (12, 1)]
abbrev zM3B : Option Tmp → Nat := mdL [(12, 1)]
abbrev zM3C : Option Tmp → Nat := mdL [(5, 2)]
abbrev zM3D : Option Tmp → Nat := mdL [(4, 1), (5, 1)]
attribute [go_sem] zM30 zM31 zM32 zM33 zM34 zM35 zM36 zM37 zM38 zM39 zM3A zM3B zM3C zM3D
def encT (x : ByteArray) : List AV := [.v (.string x)]
theorem g_ruleFault (rule : Int) (h : Hp) (h1 : 1 ≤ rule ∧ rule ≤ 4) : ACalls Tryz.prog 90 [.v (.int .i64 rule)] h (fun r h' => r = .v (.int .i64 0) ∧ h' = h) := by
 have hO := a_outside rule 1 4
 have hE : (decide (rule < 1) || decide (4 < rule)) = false := by simp; omega
 refine gE Tryz.func90 rfl (by kernel_rfl) 4 rfl fun c => ?_
 (repeat (first | refine gO rfl ?_ | (refine gR fun K1 hK1 => ?_; simp only [go_sem, ↓reduceIte, reduceCtorEq, nA, nB, nC, nD, nE, nF] <;> and_intros <;> first | (apply hK1; clear hK1 K1) | (intros; first | omega | decide | (simp_all <;> omega)) | skip)))
 refine (hO _).mono ?_; rintro _ hz ⟨rfl, hh⟩; apply hK1; clear hK1 K1; rw [hh]; clear hh hz
 rw [hE]
 (repeat (first | refine gO rfl ?_ | (refine gR fun K1 hK1 => ?_; simp only [go_sem, ↓reduceIte, reduceCtorEq, nA, nB, nC, nD, nE, nF] <;> and_intros <;> first | (apply hK1; clear hK1 K1) | (intros; first | omega | decide) | skip)))
 refine awp_cond (t := _) rfl (fun h9 => by cases h9) (fun _ => ?_)
 (repeat (first | refine gO rfl ?_ | (refine gR fun K1 hK1 => ?_; simp only [go_sem, ↓reduceIte, reduceCtorEq, nA, nB, nC, nD, nE, nF] <;> and_intros <;> first | (apply hK1; clear hK1 K1) | (intros; first | omega | decide) | skip)))
 simp only [Tryz.results90, go_sem, ↓reduceIte, reduceCtorEq, nA, nB, nC, nD, nE, nF]
 exact ⟨_, _, Weak.refl _, Hp.le.refl _, rfl, rfl⟩
theorem g_usesFault (l : List ByteArray) (h : Hp) (hl : l.length ≤ 2000) (hk : ∀ s ∈ l, keyB s = true ∧ s.size ≤ 1000) : ACalls Tryz.prog 91 [.row 1 (l.map encT) none] h (fun r h' => r = .v (.int .i64 0) ∧ h' = h) := by
 have hml : (l.map encT).length = l.length := List.length_map _
 have hb : decide ((2000 : Int) < (l.length : Int)) = false := by simp; omega
 refine gE Tryz.func91 rfl (by kernel_rfl) 17 rfl fun c => ?_
 (repeat (first | refine gO rfl ?_ | (refine gR fun K1 hK1 => ?_; simp only [go_sem, ↓reduceIte, reduceCtorEq, nA, nB, nC, nD, nE, nF, hml] <;> and_intros <;> first | (apply hK1; clear hK1 K1) | (intros; first | omega | decide | (simp_all <;> omega)) | skip)))
 refine awp_cond (t := _) rfl (fun h9 => by rw [hb] at h9; cases h9) (fun _ => ?_)
 (repeat (first | refine gO rfl ?_ | (refine gR fun K1 hK1 => ?_; simp only [go_sem, ↓reduceIte, reduceCtorEq, nA, nB, nC, nD, nE, nF, hml] <;> and_intros <;> first | (apply hK1; clear hK1 K1) | (intros; first | omega | decide) | skip)))
 refine awp_loopC (rl false [8, 3, 7]) 0 (fun g s => ∃ j : Nat, g + j = l.length ∧
  s = ⟨((jnk 8 ((.row 1 (l.map encT) none) :: (.v (.int .i64 l.length)) :: (.v (.int .i64 j)) :: (jnk 7 [])))), [], h⟩) l.length ⟨0, by omega, rfl⟩ ?_
 rintro g _ ⟨j, hj, rfl⟩
 (repeat (first | refine gO rfl ?_ | (refine gR fun K1 hK1 => ?_; simp only [go_sem, ↓reduceIte, reduceCtorEq, nA, nB, nC, nD, nE, nF] <;> and_intros <;> first | (apply hK1; clear hK1 K1) | (intros; first | omega | decide) | skip)))
 refine awp_cond (t := _) rfl (fun h1 => ?_) (fun h1 => ?_)
 ·simp only [decide_eq_true_eq] at h1
  have hjl : j < l.length := by omega
  have gx : (l.map encT).getD j [] = encT (l.getD j default) := getD_enc encT l j default hjl
  obtain ⟨hk1, hk2⟩ := hk (l.getD j default) (by rw [List.getD_eq_getElem?_getD, List.getElem?_eq_getElem hjl]; exact List.getElem_mem _)
  generalize l.getD j default = s at *
  have hkk := a_isKey s (by omega) h
  rw [hk1] at hkk
  (repeat (first | refine gO rfl ?_ | (refine gR fun K1 hK1 => ?_; simp only [go_sem, ↓reduceIte, reduceCtorEq, nA, nB, nC, nD, nE, nF, hml, Int.toNat_natCast, gx, encT] <;> and_intros <;> first | (apply hK1; clear hK1 K1) | (intros; first | omega | decide) | skip)))
  refine hkk.mono ?_; rintro _ hz ⟨rfl, hh⟩; apply hK1; clear hK1 K1; rw [hh]; clear hh hz
  (repeat (first | refine gO rfl ?_ | (refine gR fun K1 hK1 => ?_; simp only [go_sem, ↓reduceIte, reduceCtorEq, nA, nB, nC, nD, nE, nF] <;> and_intros <;> first | (apply hK1; clear hK1 K1) | (intros; first | omega | decide) | skip)))
  refine awp_cond (t := _) rfl (fun h9 => by cases h9) (fun _ => ?_)
  (repeat (first | refine gO rfl ?_ | (refine gR fun K1 hK1 => ?_; simp only [go_sem, ↓reduceIte, reduceCtorEq, nA, nB, nC, nD, nE, nF] <;> and_intros <;> first | (apply hK1; clear hK1 K1) | (intros; first | omega | decide) | skip)))
  exact ⟨g - 1, by omega, j + 1, by omega, rfl⟩
 ·(repeat (first | refine gO rfl ?_ | (refine gR fun K1 hK1 => ?_; simp only [go_sem, ↓reduceIte, reduceCtorEq, nA, nB, nC, nD, nE, nF] <;> and_intros <;> first | (apply hK1; clear hK1 K1) | (intros; first | omega | decide) | skip)))
  simp only [Tryz.results91, go_sem, ↓reduceIte, reduceCtorEq, nA, nB, nC, nD, nE, nF]
  exact ⟨_, _, Weak.refl _, Hp.le.refl _, rfl, rfl⟩
theorem g_misses (room rule N : Int) (l : List ByteArray) (h : Hp) (hr : 1 ≤ room ∧ room ≤ 500) (hru : 1 ≤ rule ∧ rule ≤ 4) (hl : l.length ≤ 2000) (hk : ∀ s ∈ l, keyB s = true ∧ s.size ≤ 1000) (hm : missL room rule l 0 [] 0 = some N) (hmb : missB room rule l 0 [] = true) :
  ACalls Tryz.prog 64 [.v (.int .i64 room), .v (.int .i64 rule), .row 1 (l.map encT) none] h (fun r h' => r = .tup [.v (.int .i64 N), .v (.int .i64 0)]) := by
 have hml : (l.map encT).length = l.length := List.length_map _
 have hO := a_outside room 1 500
 have hE : (decide (room < 1) || decide (500 < room)) = false := by simp; omega
 refine gE Tryz.func64 rfl (by kernel_rfl) 57 rfl fun c => ?_
 (repeat (first | refine gO rfl ?_ | (refine gM zM30 fun K1 hK1 => ?_; simp only [go_sem, ↓reduceIte, reduceCtorEq, nA, nB, nC, nD, nE, nF] <;> and_intros <;> first | (apply hK1; clear hK1 K1) | (intros; first | omega | decide | (simp_all <;> omega)) | skip)))
 refine (hO _).mono ?_; rintro _ hz ⟨rfl, hh⟩; apply hK1; clear hK1 K1; rw [hh]; clear hh hz
 rw [hE]
 (repeat (first | refine gO rfl ?_ | (refine gM zM30 fun K1 hK1 => ?_; simp only [go_sem, ↓reduceIte, reduceCtorEq, nA, nB, nC, nD, nE, nF] <;> and_intros <;> first | (apply hK1; clear hK1 K1) | (intros; first | omega | decide) | skip)))
 refine awp_cond (t := _) rfl (fun h9 => by cases h9) (fun _ => ?_)
 (repeat (first | refine gO rfl ?_ | (refine gM zM30 fun K1 hK1 => ?_; simp only [go_sem, ↓reduceIte, reduceCtorEq, nA, nB, nC, nD, nE, nF] <;> and_intros <;> first | (apply hK1; clear hK1 K1) | (intros; first | omega | decide) | skip)))
 refine (g_ruleFault rule _ hru).mono ?_; rintro _ hz ⟨rfl, hh⟩; apply hK1; clear hK1 K1; rw [hh]; clear hh hz
 (repeat (first | refine gO rfl ?_ | (refine gM zM30 fun K1 hK1 => ?_; simp only [go_sem, ↓reduceIte, reduceCtorEq, nA, nB, nC, nD, nE, nF] <;> and_intros <;> first | (apply hK1; clear hK1 K1) | (intros; first | omega | decide) | skip)))
 refine awp_cond (t := _) rfl (fun h9 => by cases h9) (fun _ => ?_)
 (repeat (first | refine gO rfl ?_ | (refine gM zM30 fun K1 hK1 => ?_; simp only [go_sem, ↓reduceIte, reduceCtorEq, nA, nB, nC, nD, nE, nF] <;> and_intros <;> first | (apply hK1; clear hK1 K1) | (intros; first | omega | decide) | skip)))
 refine (g_usesFault l _ hl hk).mono ?_; rintro _ hz ⟨rfl, hh⟩; apply hK1; clear hK1 K1; rw [hh]; clear hh hz
 (repeat (first | refine gO rfl ?_ | (refine gM zM30 fun K1 hK1 => ?_; simp only [go_sem, ↓reduceIte, reduceCtorEq, nA, nB, nC, nD, nE, nF] <;> and_intros <;> first | (apply hK1; clear hK1 K1) | (intros; first | omega | decide) | skip)))
 refine awp_cond (t := _) rfl (fun h9 => by cases h9) (fun _ => ?_)
 (repeat (first | refine gO rfl ?_ | (refine gM zM30 fun K1 hK1 => ?_; simp only [go_sem, ↓reduceIte, reduceCtorEq, nA, nB, nC, nD, nE, nF] <;> and_intros <;> first | (apply hK1; clear hK1 K1) | (intros; first | omega | decide) | skip)))
 intro ci hci
 refine hK1 _ ?_; clear hK1 K1
 (repeat (first | refine gO rfl ?_ | (refine gM zM30 fun K1 hK1 => ?_; simp only [go_sem, ↓reduceIte, reduceCtorEq, nA, nB, nC, nD, nE, nF, hml] <;> and_intros <;> first | (apply hK1; clear hK1 K1) | (intros; first | omega | decide) | skip)))
 refine awp_ownObj ci 3 1 (cs := [.v (.int .i64 room), .v (.int .i64 rule), .v (.int .i64 0), .v (.slice none 0 0)]) (upd_same _ _ _) rfl (fun k0 hk0 => ?_)
 refine awp_loopC (rl false [10, 2, 21, 3, 24]) 0 (fun g s => ∃ (j : Nat) (n : Int) (K : Nat → Kp) (ps : List Nat) (k : Nat) (h' : Hp), g + j = l.length ∧ missL room rule (l.drop j) j (ps.map K) n = some N ∧ missB room rule (l.drop j) j (ps.map K) = true ∧ 0 ≤ n ∧ n ≤ j ∧
   h'.H ci = some (.cells (encCa room rule j k ps.length)) ∧ h'.T k = some (.cont 1 (ps.map encR)) ∧ CacheH h' K ps ∧ ci ∉ ps ∧ KeysOne (ps.map K) ∧ OkL j (ps.map K) ∧
  s = ⟨((jnk 10 ((.ptr ci 0) :: (.v (.int .i64 n)) :: (jnk 21 ((.row 1 (l.map encT) none) :: (.v (.int .i64 l.length)) :: (.v (.int .i64 j)) :: (jnk 24 [])))))), [], h'⟩) l.length
  ⟨0, 0, fun _ => default, [], k0, ⟨upd (upd h.H ci (some (.cells [.v (.int .i64 room), .v (.int .i64 rule), .v (.int .i64 0), .v (.slice none 0 0)]))) ci (some (.cells (encCa room rule ((0 : Nat) : Int) k0 0))), upd h.T k0 (some (.cont 1 []))⟩, by omega, by rw [List.drop_zero]; exact hm, by rw [List.drop_zero]; exact hmb, by omega, by omega, upd_same _ _ _, upd_same _ _ _, (fun p hp => by cases hp), (by simp), List.Pairwise.nil, (fun x hx => by cases hx), rfl⟩ ?_
 rintro g _ ⟨j, n, K, ps, k, h', hj, hmj, hbj, hn0, hnj, hC, hT, hK, hcp, hone, hok, rfl⟩
 (repeat (first | refine gO rfl ?_ | (refine gM zM30 fun K1 hK1 => ?_; simp only [go_sem, ↓reduceIte, reduceCtorEq, nA, nB, nC, nD, nE, nF] <;> and_intros <;> first | (apply hK1; clear hK1 K1) | (intros; first | omega | decide) | skip)))
 refine awp_cond (t := _) rfl (fun h1 => ?_) (fun h1 => ?_)
 ·simp only [decide_eq_true_eq] at h1
  have hjl : j < l.length := by omega
  have gx : (l.map encT).getD j [] = encT (l.getD j default) := getD_enc encT l j default hjl
  have hdj := drop_at' l j default hjl
  obtain ⟨hk1, hk2⟩ := hk (l.getD j default) (by rw [List.getD_eq_getElem?_getD, List.getElem?_eq_getElem hjl]; exact List.getElem_mem _)
  generalize l.getD j default = s at *
  rw [hdj, missL_cons] at hmj
  rw [hdj, missB_cons, Bool.and_eq_true, decide_eq_true_eq, List.length_map] at hbj
  obtain ⟨hp11, hbj⟩ := hbj
  have hkk := fun h => a_isKey s (by omega) h
  rw [hk1] at hkk
  have hokp : ∀ p ∈ ps, (K p).2.1 = 1 ∧ 0 ≤ (K p).2.2.2.2.2 ∧ (K p).2.2.2.2.2 ≤ j := fun p hp => hok (K p) (List.mem_map_of_mem hp)
  have hfi := g_find (item := s) K ci k room rule j ps h' hC hT (by omega) hK
  have hfc := findF_cases s K ps
  (repeat (first | refine gO rfl ?_ | (refine gM zM30 fun K1 hK1 => ?_; simp only [go_sem, ↓reduceIte, reduceCtorEq, nA, nB, nC, nD, nE, nF, hml, Int.toNat_natCast, gx, encT] <;> and_intros <;> first | (apply hK1; clear hK1 K1) | (intros; first | omega | decide) | skip)))
  refine hfi.mono ?_
  rintro fk hz ⟨rfl, hh⟩; apply hK1; clear hK1 K1; rw [hh]; clear hh hz hfi
  rcases hfc with ⟨hhas, e⟩ | ⟨p, hp, hpk, hhas, e⟩
  ·rw [e]
   unfold nilP
   rw [hhas, if_neg (by decide)] at hmj hbj
   have hpu := g_put (room := room) (rule := rule) (now := j) (bytes := 1) (item := s) hC hT hp11 hK hcp hone hkk (fun p hp => by have := hokp p hp; omega) (fun p hp => by have := hokp p hp; omega) (by omega) (by omega) (by omega)
   unfold PutR at hpu
   cases hput : putL room rule j (ps.map K) s 1 with
   | none => rw [hput] at hmj; cases hmj
   | some y =>
    obtain ⟨L', gn⟩ := y
    rw [hput] at hmj hbj hpu
    simp only at hmj hbj hpu
    (repeat (first | refine gO rfl ?_ | (refine gM zM30 fun K1 hK1 => ?_; simp only [go_sem, ↓reduceIte, reduceCtorEq, nA, nB, nC, nD, nE, nF] <;> and_intros <;> first | (apply hK1; clear hK1 K1) | (intros; first | omega | decide) | skip)))
    refine awp_cond (t := _) rfl (fun h9 => by cases h9) (fun _ => ?_)
    (repeat (first | refine gO rfl ?_ | (refine gM zM30 fun K1 hK1 => ?_; simp only [go_sem, ↓reduceIte, reduceCtorEq, nA, nB, nC, nD, nE, nF] <;> and_intros <;> first | (apply hK1; clear hK1 K1) | (intros; first | omega | decide) | skip)))
    refine hpu.mono ?_
    rintro _ h2 ⟨K2, ps2, k2, kt, rfl, hL, hK2, hC2, hT2, hcp2, _, _⟩
    refine hK1 _ ?_; clear hK1 K1 hpu
    (repeat (first | refine gO rfl ?_ | (refine gM zM30 fun K1 hK1 => ?_; simp only [go_sem, ↓reduceIte, reduceCtorEq, nA, nB, nC, nD, nE, nF] <;> and_intros <;> first | (apply hK1; clear hK1 K1) | (intros; first | omega | decide) | skip)))
    refine awp_cond (t := _) rfl (fun h9 => by cases h9) (fun _ => ?_)
    (repeat (first | refine gO rfl ?_ | (refine gM zM30 fun K1 hK1 => ?_; simp only [go_sem, ↓reduceIte, reduceCtorEq, nA, nB, nC, nD, nE, nF] <;> and_intros <;> first | (apply hK1; clear hK1 K1) | (intros; first | omega | decide) | skip)))
    have hone2 := putL_one hput hone
    have hok2 := hok.put (by omega) hput
    rw [← hL] at hmj hbj hone2 hok2
    refine ⟨g - 1, by omega, j + 1, n + 1, K2, ps2, k2, h2, by omega, hmj, hbj, by omega, by omega, hC2, hT2, hK2, hcp2, hone2, hok2, rfl⟩
  ·rw [e]
   rw [hhas, if_pos rfl] at hmj hbj
   have hokk := hokp p hp
   have hpc : ci ≠ p := by rintro rfl; exact hcp hp
   have has := g_ask (now := j) hC (hK p hp) hpc (by omega) (by omega)
   (repeat (first | refine gO rfl ?_ | (refine gM zM30 fun K1 hK1 => ?_; simp only [go_sem, ↓reduceIte, reduceCtorEq, nA, nB, nC, nD, nE, nF] <;> and_intros <;> first | (apply hK1; clear hK1 K1) | (intros; first | omega | decide) | skip)))
   refine awp_cond (t := _) rfl (fun _ => ?_) (fun h9 => by cases h9)
   (repeat (first | refine gO rfl ?_ | (refine gM zM30 fun K1 hK1 => ?_; simp only [go_sem, ↓reduceIte, reduceCtorEq, nA, nB, nC, nD, nE, nF] <;> and_intros <;> first | (apply hK1; clear hK1 K1) | (intros; first | omega | decide) | skip)))
   refine has.mono ?_; rintro _ hz ⟨rfl, hh⟩; apply hK1; clear hK1 K1; rw [hh]; clear hh hz
   (repeat (first | refine gO rfl ?_ | (refine gM zM30 fun K1 hK1 => ?_; simp only [go_sem, ↓reduceIte, reduceCtorEq, nA, nB, nC, nD, nE, nF] <;> and_intros <;> first | (apply hK1; clear hK1 K1) | (intros; first | omega | decide) | skip)))
   have hat := atK_map (item := s) (fun x => askF ((j : Int) + 1) x) hone hp hpk
   have hone2 := atK_one (item := s) (f := askF ((j : Int) + 1)) (fun _ => rfl) hone
   have hok2 := hok.ask s
   rw [← hat] at hmj hbj hone2 hok2
   refine ⟨g - 1, by omega, j + 1, n, fun q => if q = p then askF ((j : Int) + 1) (K p) else K q, ps, k, ⟨upd (upd h'.H ci (some (.cells (encCa room rule ((j : Int) + 1) k ps.length)))) p (some (.cells (encKp (askF ((j : Int) + 1) (K p))))), h'.T⟩, by omega, hmj, hbj, by omega, by omega, (upd_other _ _ hpc).trans (upd_same _ _ _), hT, fun q hq => ?_, hcp, hone2, hok2, rfl⟩
   show upd (upd _ ci _) p _ q = some (AO.cells (encKp (if q = p then askF ((j : Int) + 1) (K p) else K q)))
   by_cases e2 : q = p
   ·rw [e2, upd_same, if_pos rfl]
   ·rw [upd_other _ _ e2, upd_other _ _ (by rintro rfl; exact hcp hq), if_neg e2]
    exact hK q hq
 ·simp only [decide_eq_false_iff_not] at h1
  have hjl : j = l.length := by omega
  subst hjl
  rw [List.drop_length] at hmj
  obtain rfl : n = N := by simpa [missL] using hmj
  (repeat (first | refine gO rfl ?_ | (refine gM zM30 fun K1 hK1 => ?_; simp only [go_sem, ↓reduceIte, reduceCtorEq, nA, nB, nC, nD, nE, nF] <;> and_intros <;> first | (apply hK1; clear hK1 K1) | (intros; first | omega | decide) | skip)))
  simp only [Tryz.results64, go_sem, ↓reduceIte, reduceCtorEq, nA, nB, nC, nD, nE, nF]
  exact ⟨_, _, Weak.refl _, Hp.le.refl _, rfl⟩
theorem g_miss5 (h : Hp) : ACalls Tryz.prog 64 [.v (.int .i64 2), .v (.int .i64 1), .row 1 [[.v (.string ⟨#[97]⟩)], [.v (.string ⟨#[98]⟩)], [.v (.string ⟨#[97]⟩)], [.v (.string ⟨#[99]⟩)], [.v (.string ⟨#[98]⟩)]] none] h (fun r h' => r = .tup [.v (.int .i64 4), .v (.int .i64 0)]) :=
 g_misses 2 1 4 [⟨#[97]⟩, ⟨#[98]⟩, ⟨#[97]⟩, ⟨#[99]⟩, ⟨#[98]⟩] h (by omega) (by omega) (by decide) (by decide) (by decide) (by decide)
abbrev zPYE : List Nat := [0, 1, 2, 3, 4, 5, 6, 7, 8, 9, 10, 11]
abbrev zPYP : List (Nat × List Nat × List Nat) := []
abbrev zPZE : List Nat := [0, 1, 2, 3]
abbrev zPZP : List (Nat × List Nat × List Nat) := [(4, [0], [5]), (6, [], [7])]
abbrev zP10E : List Nat := [0, 1, 2, 3, 4, 5]
abbrev zP10P : List (Nat × List Nat × List Nat) := [(6, [4], [7]), (8, [], [9, 10]), (11, [], [])]
abbrev zP11E : List Nat := [0, 1, 2, 3, 4, 5, 6, 7, 8, 9, 10]
abbrev zP11P : List (Nat × List Nat × List Nat) := []
abbrev zP12E : List Nat := [0, 1, 2, 3, 4, 5, 6, 7, 8, 9, 10, 11, 12, 13, 14, 15, 16]
abbrev zP12P : List (Nat × List Nat × List Nat) := [(17, [], [18, 19]), (20, [], [])]
abbrev zP13E : List Nat := [0, 1, 2, 3, 4, 5, 6, 7, 8, 9, 10, 11, 12, 13, 14, 15, 16]
abbrev zP13P : List (Nat × List Nat × List Nat) := [(17, [], [])]
abbrev zP14E : List Nat := [0, 1, 2, 3, 4, 5, 6, 7, 8]
abbrev zP14P : List (Nat × List Nat × List Nat) := [(9, [3], [10, 11])]
abbrev zP15E : List Nat := [0, 1, 2, 3, 4, 5, 6, 7, 8, 9, 10]
abbrev zP15P : List (Nat × List Nat × List Nat) := []
attribute [go_sem] zPYE zPYP zPZE zPZP zP10E zP10P zP11E zP11P zP12E zP12P zP13E zP13P zP14E zP14P zP15E zP15P
def nlS : AV := .v (.slice none 0 0)
def lA : List AV := [.v (.int .i64 1), .v (.string ⟨#[97]⟩), .v (.int .i64 5), .v (.int .i64 0), nlS, nlS]
theorem ba1 : ((⟨#[97]⟩ : ByteArray) == ⟨#[]⟩) = false := by decide
theorem c_ixL (f : Nat) (caps : List AV) (h : Hp) : ACalls Tryz.prog 213 [nlS, .fn f caps] h (fun r h' => r = .v (.int .i64 (-1)) ∧ h' = h) := by
 unfold nlS
 refine gE Tryz.func213 rfl (by kernel_rfl) 17 rfl fun c => ?_
 (repeat (first | refine gO rfl ?_ | (refine gR fun K1 hK1 => ?_; simp only [go_sem, ↓reduceIte, reduceCtorEq, nA, nB, nC, nD, nE, nF, Int.reduceBEq, Int.reduceTMod, Int.reduceTDiv, Int.reduceMul, Int.reduceBNe, Int.reduceLT, Int.reduceLE, Int.reduceAdd, Int.reduceSub, Int.reduceNeg, decide_true, decide_false, Bool.true_and, Bool.false_and, Bool.and_true, Bool.and_false, Bool.or_false, Bool.or_true, Bool.true_or, Bool.false_or, Bool.not_true, Bool.not_false, true_implies, false_implies, true_and, and_true, Int.reduceToNat] <;> and_intros <;> first | (apply hK1; clear hK1 K1) | (intros; first | omega | decide) | skip) | (refine awp_cond (t := _) rfl (fun hq => ?_) (fun hq => ?_) <;> first | (exact absurd hq (by decide)) | (cases hq; done) | (clear hq)) | (refine awp_un 8 ?_) | (with_reducible exact rfl) | (with_reducible exact trivial) | ((with_reducible show uside _); first | exact True.intro | exact rfl) | ((with_reducible show opS _ _); exact True.intro) | (refine ⟨AV.v (.bool true), rfl, hK1 _ ?_⟩; clear hK1 K1)))
 simp only [Tryz.results213, go_sem, ↓reduceIte, reduceCtorEq, nA, nB, nC, nD, nE, nF]
 exact ⟨_, _, Weak.refl _, Hp.le.refl _, rfl, rfl⟩
theorem c_coL (f : Nat) (caps : List AV) (h : Hp) : ACalls Tryz.prog 184 [nlS, .fn f caps] h (fun r h' => r = .v (.bool false) ∧ h' = h) := by
 have h1 := c_ixL f caps h
 unfold nlS at *
 refine gE Tryz.func184 rfl (by kernel_rfl) 7 rfl fun c => ?_
 (repeat (first | refine gO rfl ?_ | (refine gR fun K1 hK1 => ?_; simp only [go_sem, ↓reduceIte, reduceCtorEq, nA, nB, nC, nD, nE, nF, Int.reduceBEq, Int.reduceTMod, Int.reduceTDiv, Int.reduceMul, Int.reduceBNe, Int.reduceLT, Int.reduceLE, Int.reduceAdd, Int.reduceSub, Int.reduceNeg, decide_true, decide_false, Bool.true_and, Bool.false_and, Bool.and_true, Bool.and_false, Bool.or_false, Bool.or_true, Bool.true_or, Bool.false_or, Bool.not_true, Bool.not_false, true_implies, false_implies, true_and, and_true, Int.reduceToNat] <;> and_intros <;> first | (apply hK1; clear hK1 K1) | (intros; first | omega | decide) | skip) | (refine awp_cond (t := _) rfl (fun hq => ?_) (fun hq => ?_) <;> first | (exact absurd hq (by decide)) | (cases hq; done) | (clear hq)) | (refine awp_un 8 ?_) | (with_reducible exact rfl) | (with_reducible exact trivial) | ((with_reducible show uside _); first | exact True.intro | exact rfl) | ((with_reducible show opS _ _); exact True.intro) | (refine ⟨AV.v (.bool true), rfl, hK1 _ ?_⟩; clear hK1 K1) | (refine (h1).mono ?_; rintro _ hz ⟨rfl, hh⟩; (first | (refine hK1 _ ?_) | (refine ⟨rfl, hK1 _ ?_⟩)); clear hK1 K1; rw [hh]; clear hh hz)))
 simp only [Tryz.results184, go_sem, ↓reduceIte, reduceCtorEq, nA, nB, nC, nD, nE, nF]
 exact ⟨_, _, Weak.refl _, Hp.le.refl _, rfl, rfl⟩
theorem c_large (i : Nat) (h : Hp) (hi : h.H i = some (.cells [.v (.int .i64 0)])) : ACalls Tryz.prog 150 [.ptr i 0, .agg lA, .v (.int .i64 1)] h (fun r h' => r = .v (.bool false) ∧ h' = ⟨upd h.H i (some (.cells [.v (.int .i64 1)])), h.T⟩) := by
 have h1 := fun f caps h => c_coL f caps h
 unfold lA
 unfold nlS at *
 refine gE Tryz.func150 rfl (by kernel_rfl) 24 rfl fun c => ?_
 (repeat (first | refine gO rfl ?_ | (refine gR fun K1 hK1 => ?_; simp only [go_sem, ↓reduceIte, reduceCtorEq, nA, nB, nC, nD, nE, nF, Int.reduceBEq, Int.reduceTMod, Int.reduceTDiv, Int.reduceMul, Int.reduceBNe, Int.reduceLT, Int.reduceLE, Int.reduceAdd, Int.reduceSub, Int.reduceNeg, decide_true, decide_false, Bool.true_and, Bool.false_and, Bool.and_true, Bool.and_false, Bool.or_false, Bool.or_true, Bool.true_or, Bool.false_or, Bool.not_true, Bool.not_false, true_implies, false_implies, true_and, and_true, Int.reduceToNat, hi, upd_same] <;> and_intros <;> first | (apply hK1; clear hK1 K1) | (intros; first | omega | decide) | skip) | (refine awp_cond (t := _) rfl (fun hq => ?_) (fun hq => ?_) <;> first | (exact absurd hq (by decide)) | (cases hq; done) | (clear hq)) | (refine awp_un 8 ?_) | (with_reducible exact rfl) | (with_reducible exact trivial) | ((with_reducible show uside _); first | exact True.intro | exact rfl) | ((with_reducible show opS _ _); exact True.intro) | (refine ⟨AV.v (.bool true), rfl, hK1 _ ?_⟩; clear hK1 K1) | (refine (h1 _ _ _).mono ?_; rintro _ hz ⟨rfl, hh⟩; (first | (refine hK1 _ ?_) | (refine ⟨rfl, hK1 _ ?_⟩)); clear hK1 K1; rw [hh]; clear hh hz)))
 simp only [Tryz.results150, go_sem, ↓reduceIte, reduceCtorEq, nA, nB, nC, nD, nE, nF]
 exact ⟨_, _, Weak.refl _, Hp.le.refl _, rfl, rfl⟩
theorem c_form (h : Hp) : ACalls Tryz.prog 186 [.agg lA] h (fun r h' => r = .v (.bool false) ∧ h' = h) := by
 unfold lA
 unfold nlS at *
 refine gE Tryz.func186 rfl (by kernel_rfl) 77 rfl fun c => ?_
 (repeat (first | refine gO rfl ?_ | ((first | refine gR ?_ | (with_reducible refine wM ?_ ?_) | ((with_reducible refine xS ?_); refine uD 1 zM31 zPYE zPYP 78 rfl (by kernel_rfl) ?_)) <;> ((try with_reducible intro K1 hK1); simp only [go_sem, ↓reduceIte, reduceCtorEq, nA, nB, nC, nD, nE, nF, Int.reduceBEq, Int.reduceTMod, Int.reduceTDiv, Int.reduceMul, Int.reduceBNe, Int.reduceLT, Int.reduceLE, Int.reduceAdd, Int.reduceSub, Int.reduceNeg, decide_true, decide_false, Bool.true_and, Bool.false_and, Bool.and_true, Bool.and_false, Bool.or_false, Bool.or_true, Bool.true_or, Bool.false_or, Bool.not_true, Bool.not_false, true_implies, false_implies, true_and, and_true, Int.reduceToNat, ba1] <;> and_intros <;> first | (apply hK1; clear hK1 K1) | (intros; first | omega | decide) | skip)) | (refine awp_cond (t := _) rfl (fun hq => ?_) (fun hq => ?_) <;> first | (exact absurd hq (by decide)) | (cases hq; done) | (clear hq)) | (refine awp_un 8 ?_) | (with_reducible exact rfl) | (with_reducible exact trivial) | ((with_reducible show uside _); first | exact True.intro | exact rfl) | ((with_reducible show opS _ _); exact True.intro) | (refine ⟨AV.v (.bool true), rfl, hK1 _ ?_⟩; clear hK1 K1)))
 simp only [Tryz.results186, go_sem, ↓reduceIte, reduceCtorEq, nA, nB, nC, nD, nE, nF]
 exact ⟨_, _, Weak.refl _, Hp.le.refl _, rfl, rfl⟩
theorem c_partFault (h : Hp) : ACalls Tryz.prog 151 [.agg lA] h (fun r h' => r = .v (.int .i64 0) ∧ h' = h) := by
 have h1 := fun h => a_outside 1 1 5 h
 have h2 := fun h => c_form h
 have h3 := fun h => a_isKey ⟨#[97]⟩ (by decide) h
 have h4 := fun h => a_outside 5 1 3600000 h
 rw [show keyB ⟨#[97]⟩ = true by decide] at h3
 unfold lA at *
 unfold nlS at *
 refine gE Tryz.func151 rfl (by kernel_rfl) 63 rfl fun c => ?_
 (repeat (first | refine gO rfl ?_ | (refine gM zM32 fun K1 hK1 => ?_; simp only [go_sem, ↓reduceIte, reduceCtorEq, nA, nB, nC, nD, nE, nF, Int.reduceBEq, Int.reduceTMod, Int.reduceTDiv, Int.reduceMul, Int.reduceBNe, Int.reduceLT, Int.reduceLE, Int.reduceAdd, Int.reduceSub, Int.reduceNeg, decide_true, decide_false, Bool.true_and, Bool.false_and, Bool.and_true, Bool.and_false, Bool.or_false, Bool.or_true, Bool.true_or, Bool.false_or, Bool.not_true, Bool.not_false, true_implies, false_implies, true_and, and_true, Int.reduceToNat] <;> and_intros <;> first | (apply hK1; clear hK1 K1) | (intros; first | omega | decide) | skip) | (refine awp_cond (t := _) rfl (fun hq => ?_) (fun hq => ?_) <;> first | (exact absurd hq (by decide)) | (cases hq; done) | (clear hq)) | (refine awp_un 8 ?_) | (with_reducible exact rfl) | (with_reducible exact trivial) | ((with_reducible show uside _); first | exact True.intro | exact rfl) | ((with_reducible show opS _ _); exact True.intro) | (refine ⟨AV.v (.bool true), rfl, hK1 _ ?_⟩; clear hK1 K1) | (refine (h1 _).mono ?_; rintro _ hz ⟨rfl, hh⟩; (first | (refine hK1 _ ?_) | (refine ⟨rfl, hK1 _ ?_⟩)); clear hK1 K1; rw [hh]; clear hh hz) | (refine (h2 _).mono ?_; rintro _ hz ⟨rfl, hh⟩; (first | (refine hK1 _ ?_) | (refine ⟨rfl, hK1 _ ?_⟩)); clear hK1 K1; rw [hh]; clear hh hz) | (refine (h3 _).mono ?_; rintro _ hz ⟨rfl, hh⟩; (first | (refine hK1 _ ?_) | (refine ⟨rfl, hK1 _ ?_⟩)); clear hK1 K1; rw [hh]; clear hh hz) | (refine (h4 _).mono ?_; rintro _ hz ⟨rfl, hh⟩; (first | (refine hK1 _ ?_) | (refine ⟨rfl, hK1 _ ?_⟩)); clear hK1 K1; rw [hh]; clear hh hz)))
 simp only [Tryz.results151, go_sem, ↓reduceIte, reduceCtorEq, nA, nB, nC, nD, nE, nF]
 exact ⟨_, _, Weak.refl _, Hp.le.refl _, rfl, rfl⟩
theorem c_check (h : Hp) : ACalls Tryz.prog 125 [.agg lA] h (fun r h' => r = .v (.int .i64 0)) := by
 have h1 := fun i h (hi : h.H i = some (.cells [.v (.int .i64 0)])) => c_large i h hi
 have h2 := fun h => c_partFault h
 unfold lA at *
 unfold nlS at *
 refine gE Tryz.func125 rfl (by kernel_rfl) 8 rfl fun c => ?_
 (repeat (first | refine gO rfl ?_ | (refine gM zM33 fun K1 hK1 => ?_; simp only [go_sem, ↓reduceIte, reduceCtorEq, nA, nB, nC, nD, nE, nF, Int.reduceBEq, Int.reduceTMod, Int.reduceTDiv, Int.reduceMul, Int.reduceBNe, Int.reduceLT, Int.reduceLE, Int.reduceAdd, Int.reduceSub, Int.reduceNeg, decide_true, decide_false, Bool.true_and, Bool.false_and, Bool.and_true, Bool.and_false, Bool.or_false, Bool.or_true, Bool.true_or, Bool.false_or, Bool.not_true, Bool.not_false, true_implies, false_implies, true_and, and_true, Int.reduceToNat] <;> and_intros <;> first | (apply hK1; clear hK1 K1) | (intros; first | omega | decide) | skip) | (refine awp_cond (t := _) rfl (fun hq => ?_) (fun hq => ?_) <;> first | (exact absurd hq (by decide)) | (cases hq; done) | (clear hq)) | (refine awp_un 8 ?_) | (with_reducible exact rfl) | (with_reducible exact trivial) | ((with_reducible show uside _); first | exact True.intro | exact rfl) | ((with_reducible show opS _ _); exact True.intro) | (refine ⟨AV.v (.bool true), rfl, hK1 _ ?_⟩; clear hK1 K1)))
 intro i hi
 refine hK1 _ ?_; clear hK1 K1
 have h3 := h1 i ⟨upd h.H i (some (.cells [.v (.int .i64 0)])), h.T⟩ (upd_same _ _ _)
 (repeat (first | refine gO rfl ?_ | (refine gM zM33 fun K1 hK1 => ?_; simp only [go_sem, ↓reduceIte, reduceCtorEq, nA, nB, nC, nD, nE, nF, Int.reduceBEq, Int.reduceTMod, Int.reduceTDiv, Int.reduceMul, Int.reduceBNe, Int.reduceLT, Int.reduceLE, Int.reduceAdd, Int.reduceSub, Int.reduceNeg, decide_true, decide_false, Bool.true_and, Bool.false_and, Bool.and_true, Bool.and_false, Bool.or_false, Bool.or_true, Bool.true_or, Bool.false_or, Bool.not_true, Bool.not_false, true_implies, false_implies, true_and, and_true, Int.reduceToNat] <;> and_intros <;> first | (apply hK1; clear hK1 K1) | (intros; first | omega | decide) | skip) | (refine awp_cond (t := _) rfl (fun hq => ?_) (fun hq => ?_) <;> first | (exact absurd hq (by decide)) | (cases hq; done) | (clear hq)) | (refine awp_un 8 ?_) | (with_reducible exact rfl) | (with_reducible exact trivial) | ((with_reducible show uside _); first | exact True.intro | exact rfl) | ((with_reducible show opS _ _); exact True.intro) | (refine ⟨AV.v (.bool true), rfl, hK1 _ ?_⟩; clear hK1 K1) | (refine (h3).mono ?_; rintro _ hz ⟨rfl, hh⟩; (first | (refine hK1 _ ?_) | (refine ⟨rfl, hK1 _ ?_⟩)); clear hK1 K1; rw [hh]; clear hh hz) | (refine (h2 _).mono ?_; rintro _ hz ⟨rfl, hh⟩; (first | (refine hK1 _ ?_) | (refine ⟨rfl, hK1 _ ?_⟩)); clear hK1 K1; rw [hh]; clear hh hz)))
 simp only [Tryz.results125, go_sem, ↓reduceIte, reduceCtorEq, nA, nB, nC, nD, nE, nF]
 exact ⟨_, _, Weak.refl _, Hp.le.refl _, rfl⟩
def pA (had : Int) (k : Nat) : List AV := lA ++ [nlS, .v (.int .i64 had), .arr 1 k 0, .v (.int .i64 0)]
theorem c_newPart (h : Hp) : ACalls Tryz.prog 152 [.agg lA] h (fun r h' => ∃ p k, r = .ptr p 0 ∧ h'.H p = some (.cells (pA 0 k))) := by
 unfold lA
 unfold nlS at *
 refine gE Tryz.func152 rfl (by kernel_rfl) 50 rfl fun c => ?_
 (repeat (first | refine gO rfl ?_ | ((first | refine gM zM34 ?_ | (with_reducible refine wM ?_ ?_) | ((with_reducible refine xS ?_); refine uD 1 zM34 zPZE zPZP 51 rfl (by kernel_rfl) ?_) | ((with_reducible refine xR ?_); refine uE 5 zM34 zP10E zP10P 51 rfl (by kernel_rfl) ?_)) <;> ((try with_reducible intro K1 hK1); simp only [go_sem, ↓reduceIte, reduceCtorEq, nA, nB, nC, nD, nE, nF, Int.reduceBEq, Int.reduceTMod, Int.reduceTDiv, Int.reduceMul, Int.reduceBNe, Int.reduceLT, Int.reduceLE, Int.reduceAdd, Int.reduceSub, Int.reduceNeg, decide_true, decide_false, Bool.true_and, Bool.false_and, Bool.and_true, Bool.and_false, Bool.or_false, Bool.or_true, Bool.true_or, Bool.false_or, Bool.not_true, Bool.not_false, true_implies, false_implies, true_and, and_true, Int.reduceToNat] <;> and_intros <;> first | (apply hK1; clear hK1 K1) | (intros; first | omega | decide) | skip)) | (refine awp_cond (t := _) rfl (fun hq => ?_) (fun hq => ?_) <;> first | (exact absurd hq (by decide)) | (cases hq; done) | (clear hq)) | (refine awp_un 8 ?_) | (with_reducible exact rfl) | (with_reducible exact trivial) | ((with_reducible show uside _); first | exact True.intro | exact rfl) | ((with_reducible show opS _ _); exact True.intro) | (refine ⟨AV.v (.bool true), rfl, hK1 _ ?_⟩; clear hK1 K1)))
 intro k hk
 refine hK1 _ ?_; clear hK1 K1
 (repeat (first | refine gO rfl ?_ | ((first | refine gM zM34 ?_ | (with_reducible refine wM ?_ ?_) | ((with_reducible refine xS ?_); refine uD 1 zM34 zPZE zPZP 51 rfl (by kernel_rfl) ?_) | ((with_reducible refine xR ?_); refine uE 5 zM34 zP10E zP10P 51 rfl (by kernel_rfl) ?_)) <;> ((try with_reducible intro K1 hK1); simp only [go_sem, ↓reduceIte, reduceCtorEq, nA, nB, nC, nD, nE, nF, Int.reduceBEq, Int.reduceTMod, Int.reduceTDiv, Int.reduceMul, Int.reduceBNe, Int.reduceLT, Int.reduceLE, Int.reduceAdd, Int.reduceSub, Int.reduceNeg, decide_true, decide_false, Bool.true_and, Bool.false_and, Bool.and_true, Bool.and_false, Bool.or_false, Bool.or_true, Bool.true_or, Bool.false_or, Bool.not_true, Bool.not_false, true_implies, false_implies, true_and, and_true, Int.reduceToNat] <;> and_intros <;> first | (apply hK1; clear hK1 K1) | (intros; first | omega | decide) | skip)) | (refine awp_cond (t := _) rfl (fun hq => ?_) (fun hq => ?_) <;> first | (exact absurd hq (by decide)) | (cases hq; done) | (clear hq)) | (refine awp_un 8 ?_) | (with_reducible exact rfl) | (with_reducible exact trivial) | ((with_reducible show uside _); first | exact True.intro | exact rfl) | ((with_reducible show opS _ _); exact True.intro) | (refine ⟨AV.v (.bool true), rfl, hK1 _ ?_⟩; clear hK1 K1)))
 intro p hp
 refine hK1 _ ?_; clear hK1 K1
 (repeat (first | refine gO rfl ?_ | ((first | refine gM zM34 ?_ | (with_reducible refine wM ?_ ?_) | ((with_reducible refine xS ?_); refine uD 1 zM34 zPZE zPZP 51 rfl (by kernel_rfl) ?_) | ((with_reducible refine xR ?_); refine uE 5 zM34 zP10E zP10P 51 rfl (by kernel_rfl) ?_)) <;> ((try with_reducible intro K1 hK1); simp only [go_sem, ↓reduceIte, reduceCtorEq, nA, nB, nC, nD, nE, nF, Int.reduceBEq, Int.reduceTMod, Int.reduceTDiv, Int.reduceMul, Int.reduceBNe, Int.reduceLT, Int.reduceLE, Int.reduceAdd, Int.reduceSub, Int.reduceNeg, decide_true, decide_false, Bool.true_and, Bool.false_and, Bool.and_true, Bool.and_false, Bool.or_false, Bool.or_true, Bool.true_or, Bool.false_or, Bool.not_true, Bool.not_false, true_implies, false_implies, true_and, and_true, Int.reduceToNat] <;> and_intros <;> first | (apply hK1; clear hK1 K1) | (intros; first | omega | decide) | skip)) | (refine awp_cond (t := _) rfl (fun hq => ?_) (fun hq => ?_) <;> first | (exact absurd hq (by decide)) | (cases hq; done) | (clear hq)) | (refine awp_un 8 ?_) | (with_reducible exact rfl) | (with_reducible exact trivial) | ((with_reducible show uside _); first | exact True.intro | exact rfl) | ((with_reducible show opS _ _); exact True.intro) | (refine ⟨AV.v (.bool true), rfl, hK1 _ ?_⟩; clear hK1 K1)))
 simp only [Tryz.results152, go_sem, ↓reduceIte, reduceCtorEq, nA, nB, nC, nD, nE, nF]
 exact ⟨_, _, Weak.refl _, Hp.le.refl _, p, k, rfl, upd_same _ _ _⟩
theorem c_full (o : Nat) (h : Hp) (ho : h.H o = some (.cells [nlS, .v (.int .i64 5000)])) : ACalls Tryz.prog 155 [.ptr o 0] h (fun r h' => r = .v (.bool false) ∧ h' = h) := by
 unfold nlS at *
 refine gE Tryz.func155 rfl (by kernel_rfl) 12 rfl fun c => ?_
 (repeat (first | refine gO rfl ?_ | ((first | refine gR ?_ | (with_reducible refine wM ?_ ?_) | ((with_reducible refine xS ?_); refine uD 1 zM31 zP11E zP11P 13 rfl (by kernel_rfl) ?_)) <;> ((try with_reducible intro K1 hK1); simp only [go_sem, ↓reduceIte, reduceCtorEq, nA, nB, nC, nD, nE, nF, Int.reduceBEq, Int.reduceTMod, Int.reduceTDiv, Int.reduceMul, Int.reduceBNe, Int.reduceLT, Int.reduceLE, Int.reduceAdd, Int.reduceSub, Int.reduceNeg, decide_true, decide_false, Bool.true_and, Bool.false_and, Bool.and_true, Bool.and_false, Bool.or_false, Bool.or_true, Bool.true_or, Bool.false_or, Bool.not_true, Bool.not_false, true_implies, false_implies, true_and, and_true, Int.reduceToNat, ho] <;> and_intros <;> first | (apply hK1; clear hK1 K1) | (intros; first | omega | decide) | skip)) | (refine awp_cond (t := _) rfl (fun hq => ?_) (fun hq => ?_) <;> first | (exact absurd hq (by decide)) | (cases hq; done) | (clear hq)) | (refine awp_un 8 ?_) | (with_reducible exact rfl) | (with_reducible exact trivial) | ((with_reducible show uside _); first | exact True.intro | exact rfl) | ((with_reducible show opS _ _); exact True.intro) | (refine ⟨AV.v (.bool true), rfl, hK1 _ ?_⟩; clear hK1 K1)))
 simp only [Tryz.results155, go_sem, ↓reduceIte, reduceCtorEq, nA, nB, nC, nD, nE, nF]
 exact ⟨_, _, Weak.refl _, Hp.le.refl _, rfl, rfl⟩
def rA (k : Nat) : AV := .row 2 [[.v (.string ⟨#[97]⟩), .v (.int .i64 5)]] (some k)
theorem c_full1 (o k : Nat) (h : Hp) (ho : h.H o = some (.cells [rA k, .v (.int .i64 5000)])) : ACalls Tryz.prog 155 [.ptr o 0] h (fun r h' => r = .v (.bool false) ∧ h' = h) := by
 unfold rA at *
 refine gE Tryz.func155 rfl (by kernel_rfl) 12 rfl fun c => ?_
 (repeat (first | refine gO rfl ?_ | ((first | refine gR ?_ | (with_reducible refine wM ?_ ?_) | ((with_reducible refine xS ?_); refine uD 1 zM31 zP11E zP11P 13 rfl (by kernel_rfl) ?_)) <;> ((try with_reducible intro K1 hK1); simp only [go_sem, ↓reduceIte, reduceCtorEq, nA, nB, nC, nD, nE, nF, Int.reduceBEq, Int.reduceTMod, Int.reduceTDiv, Int.reduceMul, Int.reduceBNe, Int.reduceLT, Int.reduceLE, Int.reduceAdd, Int.reduceSub, Int.reduceNeg, decide_true, decide_false, Bool.true_and, Bool.false_and, Bool.and_true, Bool.and_false, Bool.or_false, Bool.or_true, Bool.true_or, Bool.false_or, Bool.not_true, Bool.not_false, true_implies, false_implies, true_and, and_true, Int.reduceToNat, ho] <;> and_intros <;> first | (apply hK1; clear hK1 K1) | (intros; first | omega | decide) | skip)) | (refine awp_cond (t := _) rfl (fun hq => ?_) (fun hq => ?_) <;> first | (exact absurd hq (by decide)) | (cases hq; done) | (clear hq)) | (refine awp_un 8 ?_) | (with_reducible exact rfl) | (with_reducible exact trivial) | ((with_reducible show uside _); first | exact True.intro | exact rfl) | ((with_reducible show opS _ _); exact True.intro) | (refine ⟨AV.v (.bool true), rfl, hK1 _ ?_⟩; clear hK1 K1)))
 simp only [Tryz.results155, go_sem, ↓reduceIte, reduceCtorEq, nA, nB, nC, nD, nE, nF]
 exact ⟨_, _, Weak.refl _, Hp.le.refl _, rfl, rfl⟩
theorem c_pass (p o k : Nat) (h : Hp) (hp : h.H p = some (.cells (pA 0 k))) (ho : h.H o = some (.cells [nlS, .v (.int .i64 5000)])) (hpo : p ≠ o) : ACalls Tryz.prog 154 [.ptr p 0, .ptr o 0] h (fun r h' => r = .tup [] ∧ ∃ q, h'.H p = some (.cells (pA 1 k)) ∧ h'.H o = some (.cells [rA q, .v (.int .i64 5000)])) := by
 have h1 := c_full o h ho
 have hop : o ≠ p := fun e => hpo e.symm
 unfold pA lA nlS at *
 simp only [List.cons_append, List.nil_append] at *
 refine gE Tryz.func154 rfl (by kernel_rfl) 114 rfl fun c => ?_
 (repeat (first | refine gO rfl ?_ | ((first | refine gR ?_ | (with_reducible refine wM ?_ ?_) | ((with_reducible refine xR ?_); refine uE 7 zM31 zP12E zP12P 116 rfl (by kernel_rfl) ?_) | ((with_reducible refine xR ?_); refine uE 15 zM31 zP13E zP13P 116 rfl (by kernel_rfl) ?_)) <;> ((try with_reducible intro K1 hK1); simp only [go_sem, ↓reduceIte, reduceCtorEq, nA, nB, nC, nD, nE, nF, Int.reduceBEq, Int.reduceTMod, Int.reduceTDiv, Int.reduceMul, Int.reduceBNe, Int.reduceLT, Int.reduceLE, Int.reduceAdd, Int.reduceSub, Int.reduceNeg, decide_true, decide_false, Bool.true_and, Bool.false_and, Bool.and_true, Bool.and_false, Bool.or_false, Bool.or_true, Bool.true_or, Bool.false_or, Bool.not_true, Bool.not_false, true_implies, false_implies, true_and, and_true, Int.reduceToNat, hp, ho] <;> and_intros <;> first | (apply hK1; clear hK1 K1) | (intros; first | omega | decide) | skip)) | (refine awp_cond (t := _) rfl (fun hq => ?_) (fun hq => ?_) <;> first | (exact absurd hq (by decide)) | (cases hq; done) | (clear hq)) | (refine awp_un 8 ?_) | (with_reducible exact rfl) | (with_reducible exact trivial) | ((with_reducible show uside _); first | exact True.intro | exact rfl) | ((with_reducible show opS _ _); exact True.intro) | (refine ⟨AV.v (.bool true), rfl, hK1 _ ?_⟩; clear hK1 K1) | (refine (h1).mono ?_; rintro _ hz ⟨rfl, hh⟩; (first | (refine hK1 _ ?_) | (refine ⟨rfl, hK1 _ ?_⟩)); clear hK1 K1; rw [hh]; clear hh hz)))
 intro q hq
 refine hK1 _ ?_; clear hK1 K1
 (repeat (first | refine gO rfl ?_ | ((first | refine gR ?_ | (with_reducible refine wM ?_ ?_) | ((with_reducible refine xR ?_); refine uE 7 zM31 zP12E zP12P 116 rfl (by kernel_rfl) ?_) | ((with_reducible refine xR ?_); refine uE 15 zM31 zP13E zP13P 116 rfl (by kernel_rfl) ?_)) <;> ((try with_reducible intro K1 hK1); simp only [go_sem, ↓reduceIte, reduceCtorEq, nA, nB, nC, nD, nE, nF, Int.reduceBEq, Int.reduceTMod, Int.reduceTDiv, Int.reduceMul, Int.reduceBNe, Int.reduceLT, Int.reduceLE, Int.reduceAdd, Int.reduceSub, Int.reduceNeg, decide_true, decide_false, Bool.true_and, Bool.false_and, Bool.and_true, Bool.and_false, Bool.or_false, Bool.or_true, Bool.true_or, Bool.false_or, Bool.not_true, Bool.not_false, true_implies, false_implies, true_and, and_true, Int.reduceToNat, hp, ho, upd_other _ _ hpo, upd_other _ _ hop] <;> and_intros <;> first | (apply hK1; clear hK1 K1) | (intros; first | omega | decide) | skip)) | (refine awp_cond (t := _) rfl (fun hq => ?_) (fun hq => ?_) <;> first | (exact absurd hq (by decide)) | (cases hq; done) | (clear hq)) | (refine awp_un 8 ?_) | (with_reducible exact rfl) | (with_reducible exact trivial) | ((with_reducible show uside _); first | exact True.intro | exact rfl) | ((with_reducible show opS _ _); exact True.intro) | (refine ⟨AV.v (.bool true), rfl, hK1 _ ?_⟩; clear hK1 K1)))
 simp only [Tryz.results154, go_sem, ↓reduceIte, reduceCtorEq, nA, nB, nC, nD, nE, nF]
 refine ⟨_, _, Weak.refl _, Hp.le.refl _, rfl, q, upd_same _ _ _, ?_⟩
 exact (upd_other _ _ hop).trans (upd_same _ _ _)
theorem c_ixP (f : Nat) (h : Hp) : ACalls Tryz.prog 215 [nlS, .fn f []] h (fun r h' => r = .v (.int .i64 (-1)) ∧ h' = h) := by
 unfold nlS
 refine gE Tryz.func215 rfl (by kernel_rfl) 17 rfl fun c => ?_
 (repeat (first | refine gO rfl ?_ | (refine gR fun K1 hK1 => ?_; simp only [go_sem, ↓reduceIte, reduceCtorEq, nA, nB, nC, nD, nE, nF, Int.reduceBEq, Int.reduceTMod, Int.reduceTDiv, Int.reduceMul, Int.reduceBNe, Int.reduceLT, Int.reduceLE, Int.reduceAdd, Int.reduceSub, Int.reduceNeg, decide_true, decide_false, Bool.true_and, Bool.false_and, Bool.and_true, Bool.and_false, Bool.or_false, Bool.or_true, Bool.true_or, Bool.false_or, Bool.not_true, Bool.not_false, true_implies, false_implies, true_and, and_true, Int.reduceToNat] <;> and_intros <;> first | (apply hK1; clear hK1 K1) | (intros; first | omega | decide) | skip) | (refine awp_cond (t := _) rfl (fun hq => ?_) (fun hq => ?_) <;> first | (exact absurd hq (by decide)) | (cases hq; done) | (clear hq)) | (refine awp_un 8 ?_) | (with_reducible exact rfl) | (with_reducible exact trivial) | ((with_reducible show uside _); first | exact True.intro | exact rfl) | ((with_reducible show opS _ _); exact True.intro) | (refine ⟨AV.v (.bool true), rfl, hK1 _ ?_⟩; clear hK1 K1)))
 simp only [Tryz.results215, go_sem, ↓reduceIte, reduceCtorEq, nA, nB, nC, nD, nE, nF]
 exact ⟨_, _, Weak.refl _, Hp.le.refl _, rfl, rfl⟩
theorem c_coP (f : Nat) (h : Hp) : ACalls Tryz.prog 188 [nlS, .fn f []] h (fun r h' => r = .v (.bool false) ∧ h' = h) := by
 have h1 := c_ixP f h
 unfold nlS at *
 refine gE Tryz.func188 rfl (by kernel_rfl) 7 rfl fun c => ?_
 (repeat (first | refine gO rfl ?_ | (refine gR fun K1 hK1 => ?_; simp only [go_sem, ↓reduceIte, reduceCtorEq, nA, nB, nC, nD, nE, nF, Int.reduceBEq, Int.reduceTMod, Int.reduceTDiv, Int.reduceMul, Int.reduceBNe, Int.reduceLT, Int.reduceLE, Int.reduceAdd, Int.reduceSub, Int.reduceNeg, decide_true, decide_false, Bool.true_and, Bool.false_and, Bool.and_true, Bool.and_false, Bool.or_false, Bool.or_true, Bool.true_or, Bool.false_or, Bool.not_true, Bool.not_false, true_implies, false_implies, true_and, and_true, Int.reduceToNat] <;> and_intros <;> first | (apply hK1; clear hK1 K1) | (intros; first | omega | decide) | skip) | (refine awp_cond (t := _) rfl (fun hq => ?_) (fun hq => ?_) <;> first | (exact absurd hq (by decide)) | (cases hq; done) | (clear hq)) | (refine awp_un 8 ?_) | (with_reducible exact rfl) | (with_reducible exact trivial) | ((with_reducible show uside _); first | exact True.intro | exact rfl) | ((with_reducible show opS _ _); exact True.intro) | (refine ⟨AV.v (.bool true), rfl, hK1 _ ?_⟩; clear hK1 K1) | (refine (h1).mono ?_; rintro _ hz ⟨rfl, hh⟩; (first | (refine hK1 _ ?_) | (refine ⟨rfl, hK1 _ ?_⟩)); clear hK1 K1; rw [hh]; clear hh hz)))
 simp only [Tryz.results188, go_sem, ↓reduceIte, reduceCtorEq, nA, nB, nC, nD, nE, nF]
 exact ⟨_, _, Weak.refl _, Hp.le.refl _, rfl, rfl⟩
theorem c_begins (p k : Nat) (h : Hp) (hp : h.H p = some (.cells (pA 1 k))) : ACalls Tryz.prog 153 [.ptr p 0] h (fun r h' => r = .v (.bool true) ∧ h' = h) := by
 have h1 := fun f h => c_coP f h
 unfold pA lA nlS at *
 simp only [List.cons_append, List.nil_append] at *
 refine gE Tryz.func153 rfl (by kernel_rfl) 43 rfl fun c => ?_
 (repeat (first | refine gO rfl ?_ | ((first | refine gR ?_ | (with_reducible refine wM ?_ ?_) | ((with_reducible refine xR ?_); refine uE 6 zM31 zP14E zP14P 44 rfl (by kernel_rfl) ?_)) <;> ((try with_reducible intro K1 hK1); simp only [go_sem, ↓reduceIte, reduceCtorEq, nA, nB, nC, nD, nE, nF, Int.reduceBEq, Int.reduceTMod, Int.reduceTDiv, Int.reduceMul, Int.reduceBNe, Int.reduceLT, Int.reduceLE, Int.reduceAdd, Int.reduceSub, Int.reduceNeg, decide_true, decide_false, Bool.true_and, Bool.false_and, Bool.and_true, Bool.and_false, Bool.or_false, Bool.or_true, Bool.true_or, Bool.false_or, Bool.not_true, Bool.not_false, true_implies, false_implies, true_and, and_true, Int.reduceToNat, hp] <;> and_intros <;> first | (apply hK1; clear hK1 K1) | (intros; first | omega | decide) | skip)) | (refine awp_cond (t := _) rfl (fun hq => ?_) (fun hq => ?_) <;> first | (exact absurd hq (by decide)) | (cases hq; done) | (clear hq)) | (refine awp_un 8 ?_) | (with_reducible exact rfl) | (with_reducible exact trivial) | ((with_reducible show uside _); first | exact True.intro | exact rfl) | ((with_reducible show opS _ _); exact True.intro) | (refine ⟨AV.v (.bool true), rfl, hK1 _ ?_⟩; clear hK1 K1) | (refine (h1 _ _).mono ?_; rintro _ hz ⟨rfl, hh⟩; (first | (refine hK1 _ ?_) | (refine ⟨rfl, hK1 _ ?_⟩)); clear hK1 K1; rw [hh]; clear hh hz)))
 simp only [Tryz.results153, go_sem, ↓reduceIte, reduceCtorEq, nA, nB, nC, nD, nE, nF]
 exact ⟨_, _, Weak.refl _, Hp.le.refl _, rfl, rfl⟩
theorem c_roundOf (h : Hp) : ACalls Tryz.prog 126 [.agg lA] h (fun r h' => ∃ q, r = .tup [.agg [.v (.int .i64 1), rA q, .v (.int .i64 5)], .v (.int .i64 0)]) := by
 have h1 := c_newPart h
 have h2 := fun p o k h => c_pass p o k h
 have h3 := fun o k h => c_full1 o k h
 have h4 := fun p k h => c_begins p k h
 have hl : lA = [.v (.int .i64 1), .v (.string ⟨#[97]⟩), .v (.int .i64 5), .v (.int .i64 0), nlS, nlS] := rfl
 unfold lA nlS at h1
 unfold lA nlS
 refine gE Tryz.func126 rfl (by kernel_rfl) 56 rfl fun c => ?_
 (repeat (first | refine gO rfl ?_ | (refine gM zM35 fun K1 hK1 => ?_; simp only [go_sem, ↓reduceIte, reduceCtorEq, nA, nB, nC, nD, nE, nF, Int.reduceBEq, Int.reduceTMod, Int.reduceTDiv, Int.reduceMul, Int.reduceBNe, Int.reduceLT, Int.reduceLE, Int.reduceAdd, Int.reduceSub, Int.reduceNeg, decide_true, decide_false, Bool.true_and, Bool.false_and, Bool.and_true, Bool.and_false, Bool.or_false, Bool.or_true, Bool.true_or, Bool.false_or, Bool.not_true, Bool.not_false, true_implies, false_implies, true_and, and_true, Int.reduceToNat] <;> and_intros <;> first | (apply hK1; clear hK1 K1) | (intros; first | omega | decide) | skip) | (refine awp_cond (t := _) rfl (fun hq => ?_) (fun hq => ?_) <;> first | (exact absurd hq (by decide)) | (cases hq; done) | (clear hq)) | (refine awp_un 8 ?_) | (with_reducible exact rfl) | (with_reducible exact trivial) | ((with_reducible show uside _); first | exact True.intro | exact rfl) | ((with_reducible show opS _ _); exact True.intro) | (refine ⟨AV.v (.bool true), rfl, hK1 _ ?_⟩; clear hK1 K1)))
 refine h1.mono ?_
 rintro _ ha ⟨p, k, rfl, hp⟩
 refine hK1 _ ?_; clear hK1 K1 h1
 (repeat (first | refine gO rfl ?_ | (refine gM zM35 fun K1 hK1 => ?_; simp only [go_sem, ↓reduceIte, reduceCtorEq, nA, nB, nC, nD, nE, nF, Int.reduceBEq, Int.reduceTMod, Int.reduceTDiv, Int.reduceMul, Int.reduceBNe, Int.reduceLT, Int.reduceLE, Int.reduceAdd, Int.reduceSub, Int.reduceNeg, decide_true, decide_false, Bool.true_and, Bool.false_and, Bool.and_true, Bool.and_false, Bool.or_false, Bool.or_true, Bool.true_or, Bool.false_or, Bool.not_true, Bool.not_false, true_implies, false_implies, true_and, and_true, Int.reduceToNat] <;> and_intros <;> first | (apply hK1; clear hK1 K1) | (intros; first | omega | decide) | skip) | (refine awp_cond (t := _) rfl (fun hq => ?_) (fun hq => ?_) <;> first | (exact absurd hq (by decide)) | (cases hq; done) | (clear hq)) | (refine awp_un 8 ?_) | (with_reducible exact rfl) | (with_reducible exact trivial) | ((with_reducible show uside _); first | exact True.intro | exact rfl) | ((with_reducible show opS _ _); exact True.intro) | (refine ⟨AV.v (.bool true), rfl, hK1 _ ?_⟩; clear hK1 K1)))
 intro o ho
 refine hK1 _ ?_; clear hK1 K1
 have hpo : p ≠ o := by rintro rfl; rw [hp] at ho; cases ho
 have h5 := h2 p o k ⟨upd ha.H o (some (.cells [nlS, .v (.int .i64 5000)])), ha.T⟩ ((upd_other _ _ hpo).trans hp) (upd_same _ _ _) hpo
 unfold nlS at h5
 (repeat (first | refine gO rfl ?_ | (refine gM zM35 fun K1 hK1 => ?_; simp only [go_sem, ↓reduceIte, reduceCtorEq, nA, nB, nC, nD, nE, nF, Int.reduceBEq, Int.reduceTMod, Int.reduceTDiv, Int.reduceMul, Int.reduceBNe, Int.reduceLT, Int.reduceLE, Int.reduceAdd, Int.reduceSub, Int.reduceNeg, decide_true, decide_false, Bool.true_and, Bool.false_and, Bool.and_true, Bool.and_false, Bool.or_false, Bool.or_true, Bool.true_or, Bool.false_or, Bool.not_true, Bool.not_false, true_implies, false_implies, true_and, and_true, Int.reduceToNat] <;> and_intros <;> first | (apply hK1; clear hK1 K1) | (intros; first | omega | decide) | skip) | (refine awp_cond (t := _) rfl (fun hq => ?_) (fun hq => ?_) <;> first | (exact absurd hq (by decide)) | (cases hq; done) | (clear hq)) | (refine awp_un 8 ?_) | (with_reducible exact rfl) | (with_reducible exact trivial) | ((with_reducible show uside _); first | exact True.intro | exact rfl) | ((with_reducible show opS _ _); exact True.intro) | (refine ⟨AV.v (.bool true), rfl, hK1 _ ?_⟩; clear hK1 K1)))
 refine h5.mono ?_
 rintro _ hb ⟨rfl, q, hpb, hob⟩
 refine hK1 _ ?_; clear hK1 K1 h5
 have h6 := h3 o q hb hob
 have h7 := h4 p k hb hpb
 unfold nlS rA at *
 (repeat (first | refine gO rfl ?_ | (refine gM zM35 fun K1 hK1 => ?_; simp only [go_sem, ↓reduceIte, reduceCtorEq, nA, nB, nC, nD, nE, nF, Int.reduceBEq, Int.reduceTMod, Int.reduceTDiv, Int.reduceMul, Int.reduceBNe, Int.reduceLT, Int.reduceLE, Int.reduceAdd, Int.reduceSub, Int.reduceNeg, decide_true, decide_false, Bool.true_and, Bool.false_and, Bool.and_true, Bool.and_false, Bool.or_false, Bool.or_true, Bool.true_or, Bool.false_or, Bool.not_true, Bool.not_false, true_implies, false_implies, true_and, and_true, Int.reduceToNat, hob] <;> and_intros <;> first | (apply hK1; clear hK1 K1) | (intros; first | omega | decide) | skip) | (refine awp_cond (t := _) rfl (fun hq => ?_) (fun hq => ?_) <;> first | (exact absurd hq (by decide)) | (cases hq; done) | (clear hq)) | (refine awp_un 8 ?_) | (with_reducible exact rfl) | (with_reducible exact trivial) | ((with_reducible show uside _); first | exact True.intro | exact rfl) | ((with_reducible show opS _ _); exact True.intro) | (refine ⟨AV.v (.bool true), rfl, hK1 _ ?_⟩; clear hK1 K1) | (refine (h6).mono ?_; rintro _ hz ⟨rfl, hh⟩; (first | (refine hK1 _ ?_) | (refine ⟨rfl, hK1 _ ?_⟩)); clear hK1 K1; rw [hh]; clear hh hz) | (refine (h7).mono ?_; rintro _ hz ⟨rfl, hh⟩; (first | (refine hK1 _ ?_) | (refine ⟨rfl, hK1 _ ?_⟩)); clear hK1 K1; rw [hh]; clear hh hz)))
 simp only [Tryz.results126, go_sem, ↓reduceIte, reduceCtorEq, nA, nB, nC, nD, nE, nF]
 exact ⟨_, _, Weak.refl _, Hp.le.refl _, q, rfl⟩
theorem c_checked (h : Hp) : ACalls Tryz.prog 95 [.agg lA] h (fun r h' => ∃ q, r = .tup [.agg [.v (.int .i64 1), rA q, .v (.int .i64 5)], .v (.int .i64 0)]) := by
 have h1 := c_check h
 have h2 := fun h => c_roundOf h
 unfold lA nlS rA at *
 refine gE Tryz.func95 rfl (by kernel_rfl) 14 rfl fun c => ?_
 (repeat (first | refine gO rfl ?_ | (refine gM zM36 fun K1 hK1 => ?_; simp only [go_sem, ↓reduceIte, reduceCtorEq, nA, nB, nC, nD, nE, nF, Int.reduceBEq, Int.reduceTMod, Int.reduceTDiv, Int.reduceMul, Int.reduceBNe, Int.reduceLT, Int.reduceLE, Int.reduceAdd, Int.reduceSub, Int.reduceNeg, decide_true, decide_false, Bool.true_and, Bool.false_and, Bool.and_true, Bool.and_false, Bool.or_false, Bool.or_true, Bool.true_or, Bool.false_or, Bool.not_true, Bool.not_false, true_implies, false_implies, true_and, and_true, Int.reduceToNat] <;> and_intros <;> first | (apply hK1; clear hK1 K1) | (intros; first | omega | decide) | skip) | (refine awp_cond (t := _) rfl (fun hq => ?_) (fun hq => ?_) <;> first | (exact absurd hq (by decide)) | (cases hq; done) | (clear hq)) | (refine awp_un 8 ?_) | (with_reducible exact rfl) | (with_reducible exact trivial) | ((with_reducible show uside _); first | exact True.intro | exact rfl) | ((with_reducible show opS _ _); exact True.intro) | (refine ⟨AV.v (.bool true), rfl, hK1 _ ?_⟩; clear hK1 K1)))
 refine h1.mono ?_
 rintro _ ha rfl
 refine hK1 _ ?_; clear hK1 K1 h1
 (repeat (first | refine gO rfl ?_ | (refine gM zM36 fun K1 hK1 => ?_; simp only [go_sem, ↓reduceIte, reduceCtorEq, nA, nB, nC, nD, nE, nF, Int.reduceBEq, Int.reduceTMod, Int.reduceTDiv, Int.reduceMul, Int.reduceBNe, Int.reduceLT, Int.reduceLE, Int.reduceAdd, Int.reduceSub, Int.reduceNeg, decide_true, decide_false, Bool.true_and, Bool.false_and, Bool.and_true, Bool.and_false, Bool.or_false, Bool.or_true, Bool.true_or, Bool.false_or, Bool.not_true, Bool.not_false, true_implies, false_implies, true_and, and_true, Int.reduceToNat] <;> and_intros <;> first | (apply hK1; clear hK1 K1) | (intros; first | omega | decide) | skip) | (refine awp_cond (t := _) rfl (fun hq => ?_) (fun hq => ?_) <;> first | (exact absurd hq (by decide)) | (cases hq; done) | (clear hq)) | (refine awp_un 8 ?_) | (with_reducible exact rfl) | (with_reducible exact trivial) | ((with_reducible show uside _); first | exact True.intro | exact rfl) | ((with_reducible show opS _ _); exact True.intro) | (refine ⟨AV.v (.bool true), rfl, hK1 _ ?_⟩; clear hK1 K1)))
 refine (h2 _).mono ?_
 rintro _ hb ⟨q, rfl⟩
 refine hK1 _ ?_; clear hK1 K1 h2
 (repeat (first | refine gO rfl ?_ | (refine gM zM36 fun K1 hK1 => ?_; simp only [go_sem, ↓reduceIte, reduceCtorEq, nA, nB, nC, nD, nE, nF, Int.reduceBEq, Int.reduceTMod, Int.reduceTDiv, Int.reduceMul, Int.reduceBNe, Int.reduceLT, Int.reduceLE, Int.reduceAdd, Int.reduceSub, Int.reduceNeg, decide_true, decide_false, Bool.true_and, Bool.false_and, Bool.and_true, Bool.and_false, Bool.or_false, Bool.or_true, Bool.true_or, Bool.false_or, Bool.not_true, Bool.not_false, true_implies, false_implies, true_and, and_true, Int.reduceToNat] <;> and_intros <;> first | (apply hK1; clear hK1 K1) | (intros; first | omega | decide) | skip) | (refine awp_cond (t := _) rfl (fun hq => ?_) (fun hq => ?_) <;> first | (exact absurd hq (by decide)) | (cases hq; done) | (clear hq)) | (refine awp_un 8 ?_) | (with_reducible exact rfl) | (with_reducible exact trivial) | ((with_reducible show uside _); first | exact True.intro | exact rfl) | ((with_reducible show opS _ _); exact True.intro) | (refine ⟨AV.v (.bool true), rfl, hK1 _ ?_⟩; clear hK1 K1)))
 simp only [Tryz.results95, go_sem, ↓reduceIte, reduceCtorEq, nA, nB, nC, nD, nE, nF]
 exact ⟨_, _, Weak.refl _, Hp.le.refl _, q, rfl⟩
theorem g_round1 (h : Hp) : ACalls Tryz.prog 65 [.agg lA] h (fun r h' => r = .tup [.v (.int .i64 1), .v (.int .i64 1), .v (.int .i64 5), .v (.int .i64 0)]) := by
 have h2 := fun h => c_checked h
 unfold lA nlS rA at *
 refine gE Tryz.func65 rfl (by kernel_rfl) 21 rfl fun c => ?_
 (repeat (first | refine gO rfl ?_ | ((first | refine gM zM32 ?_ | (with_reducible refine wM ?_ ?_) | ((with_reducible refine xS ?_); refine uD 4 zM32 zP15E zP15P 22 rfl (by kernel_rfl) ?_)) <;> ((try with_reducible intro K1 hK1); simp only [go_sem, ↓reduceIte, reduceCtorEq, nA, nB, nC, nD, nE, nF, Int.reduceBEq, Int.reduceTMod, Int.reduceTDiv, Int.reduceMul, Int.reduceBNe, Int.reduceLT, Int.reduceLE, Int.reduceAdd, Int.reduceSub, Int.reduceNeg, decide_true, decide_false, Bool.true_and, Bool.false_and, Bool.and_true, Bool.and_false, Bool.or_false, Bool.or_true, Bool.true_or, Bool.false_or, Bool.not_true, Bool.not_false, true_implies, false_implies, true_and, and_true, Int.reduceToNat] <;> and_intros <;> first | (apply hK1; clear hK1 K1) | (intros; first | omega | decide) | skip)) | (refine awp_cond (t := _) rfl (fun hq => ?_) (fun hq => ?_) <;> first | (exact absurd hq (by decide)) | (cases hq; done) | (clear hq)) | (refine awp_un 8 ?_) | (with_reducible exact rfl) | (with_reducible exact trivial) | ((with_reducible show uside _); first | exact True.intro | exact rfl) | ((with_reducible show opS _ _); exact True.intro) | (refine ⟨AV.v (.bool true), rfl, hK1 _ ?_⟩; clear hK1 K1)))
 refine (h2 _).mono ?_
 rintro _ hb ⟨q, rfl⟩
 refine hK1 _ ?_; clear hK1 K1 h2
 (repeat (first | refine gO rfl ?_ | ((first | refine gM zM32 ?_ | (with_reducible refine wM ?_ ?_) | ((with_reducible refine xS ?_); refine uD 4 zM32 zP15E zP15P 22 rfl (by kernel_rfl) ?_)) <;> ((try with_reducible intro K1 hK1); simp only [go_sem, ↓reduceIte, reduceCtorEq, nA, nB, nC, nD, nE, nF, Int.reduceBEq, Int.reduceTMod, Int.reduceTDiv, Int.reduceMul, Int.reduceBNe, Int.reduceLT, Int.reduceLE, Int.reduceAdd, Int.reduceSub, Int.reduceNeg, decide_true, decide_false, Bool.true_and, Bool.false_and, Bool.and_true, Bool.and_false, Bool.or_false, Bool.or_true, Bool.true_or, Bool.false_or, Bool.not_true, Bool.not_false, true_implies, false_implies, true_and, and_true, Int.reduceToNat] <;> and_intros <;> first | (apply hK1; clear hK1 K1) | (intros; first | omega | decide) | skip)) | (refine awp_cond (t := _) rfl (fun hq => ?_) (fun hq => ?_) <;> first | (exact absurd hq (by decide)) | (cases hq; done) | (clear hq)) | (refine awp_un 8 ?_) | (with_reducible exact rfl) | (with_reducible exact trivial) | ((with_reducible show uside _); first | exact True.intro | exact rfl) | ((with_reducible show opS _ _); exact True.intro) | (refine ⟨AV.v (.bool true), rfl, hK1 _ ?_⟩; clear hK1 K1)))
 simp only [Tryz.results65, go_sem, ↓reduceIte, reduceCtorEq, nA, nB, nC, nD, nE, nF]
 exact ⟨_, _, Weak.refl _, Hp.le.refl _, rfl⟩
abbrev zP16E : List Nat := [0, 1, 2, 3, 4, 5, 6, 7, 8, 9, 10, 11, 12, 13, 14]
abbrev zP16P : List (Nat × List Nat × List Nat) := []
attribute [go_sem] zP16E zP16P
def kA : AV := .row 3 [[.v (.int .i64 0), .v (.int .i64 10), .v (.int .i64 5)]] none
theorem c_checkLinks (h : Hp) : ACalls Tryz.prog 96 [kA] h (fun r h' => r = .v (.int .i64 0)) := by
 have h1 := fun h => a_outside 5 1 1000000 h
 unfold kA
 refine gE Tryz.func96 rfl (by kernel_rfl) 54 rfl fun c => ?_
 (repeat (first | refine gO rfl ?_ | ((first | refine gM zM37 ?_ | (with_reducible refine wM ?_ ?_) | ((with_reducible refine xS ?_); refine uD 8 zM37 zP16E zP16P 55 rfl (by kernel_rfl) ?_)) <;> ((try with_reducible intro K1 hK1); simp only [go_sem, ↓reduceIte, reduceCtorEq, nA, nB, nC, nD, nE, nF, Int.reduceBEq, Int.reduceTMod, Int.reduceTDiv, Int.reduceMul, Int.reduceBNe, Int.reduceLT, Int.reduceLE, Int.reduceAdd, Int.reduceSub, Int.reduceNeg, decide_true, decide_false, Bool.true_and, Bool.false_and, Bool.and_true, Bool.and_false, Bool.or_false, Bool.or_true, Bool.true_or, Bool.false_or, Bool.not_true, Bool.not_false, true_implies, false_implies, true_and, and_true, Int.reduceToNat] <;> and_intros <;> first | (apply hK1; clear hK1 K1) | (intros; first | omega | decide) | skip)) | (refine awp_cond (t := _) rfl (fun hq => ?_) (fun hq => ?_) <;> first | (exact absurd hq (by decide)) | (cases hq; done) | (clear hq)) | (refine awp_un 8 ?_) | (with_reducible exact rfl) | (with_reducible exact trivial) | ((with_reducible show uside _); first | exact True.intro | exact rfl) | ((with_reducible show opS _ _); exact True.intro) | (refine ⟨AV.v (.bool true), rfl, hK1 _ ?_⟩; clear hK1 K1) | (refine (h1 _).mono ?_; rintro _ hz ⟨rfl, hh⟩; (first | (refine hK1 _ ?_) | (refine ⟨rfl, hK1 _ ?_⟩)); clear hK1 K1; rw [hh]; clear hh hz)))
 simp only [Tryz.results96, go_sem, ↓reduceIte, reduceCtorEq, nA, nB, nC, nD, nE, nF]
 exact ⟨_, _, Weak.refl _, Hp.le.refl _, rfl⟩
theorem c_isMoment (h : Hp) : ACalls Tryz.prog 97 [.v (.int .i64 3)] h (fun r h' => r = .v (.bool true) ∧ h' = h) := by
 refine gE Tryz.func97 rfl (by kernel_rfl) 8 rfl fun c => ?_
 (repeat (first | refine gO rfl ?_ | (refine gR fun K1 hK1 => ?_; simp only [go_sem, ↓reduceIte, reduceCtorEq, nA, nB, nC, nD, nE, nF, Int.reduceBEq, Int.reduceTMod, Int.reduceTDiv, Int.reduceMul, Int.reduceBNe, Int.reduceLT, Int.reduceLE, Int.reduceAdd, Int.reduceSub, Int.reduceNeg, decide_true, decide_false, Bool.true_and, Bool.false_and, Bool.and_true, Bool.and_false, Bool.or_false, Bool.or_true, Bool.true_or, Bool.false_or, Bool.not_true, Bool.not_false, true_implies, false_implies, true_and, and_true, Int.reduceToNat] <;> and_intros <;> first | (apply hK1; clear hK1 K1) | (intros; first | omega | decide) | skip) | (refine awp_cond (t := _) rfl (fun hq => ?_) (fun hq => ?_) <;> first | (exact absurd hq (by decide)) | (cases hq; done) | (clear hq)) | (refine awp_un 8 ?_) | (with_reducible exact rfl) | (with_reducible exact trivial) | ((with_reducible show uside _); first | exact True.intro | exact rfl) | ((with_reducible show opS _ _); exact True.intro) | (refine ⟨AV.v (.bool true), rfl, hK1 _ ?_⟩; clear hK1 K1)))
 simp only [Tryz.results97, go_sem, ↓reduceIte, reduceCtorEq, nA, nB, nC, nD, nE, nF]
 exact ⟨_, _, Weak.refl _, Hp.le.refl _, rfl, rfl⟩
theorem c_done (h : Hp) : ACalls Tryz.prog 98 [kA, .v (.int .i64 3), .v (.int .i64 12)] h (fun r h' => r = .tup [.v (.int .i64 6), .v (.bool true)]) := by
 unfold kA
 refine gE Tryz.func98 rfl (by kernel_rfl) 49 rfl fun c => ?_
 (repeat (first | refine gO rfl ?_ | (refine gM zM38 fun K1 hK1 => ?_; simp only [go_sem, ↓reduceIte, reduceCtorEq, nA, nB, nC, nD, nE, nF, Int.reduceBEq, Int.reduceTMod, Int.reduceTDiv, Int.reduceMul, Int.reduceBNe, Int.reduceLT, Int.reduceLE, Int.reduceAdd, Int.reduceSub, Int.reduceNeg, decide_true, decide_false, Bool.true_and, Bool.false_and, Bool.and_true, Bool.and_false, Bool.or_false, Bool.or_true, Bool.true_or, Bool.false_or, Bool.not_true, Bool.not_false, true_implies, false_implies, true_and, and_true, Int.reduceToNat] <;> and_intros <;> first | (apply hK1; clear hK1 K1) | (intros; first | omega | decide) | skip) | (refine awp_cond (t := _) rfl (fun hq => ?_) (fun hq => ?_) <;> first | (exact absurd hq (by decide)) | (cases hq; done) | (clear hq)) | (refine awp_un 8 ?_) | (with_reducible exact rfl) | (with_reducible exact trivial) | ((with_reducible show uside _); first | exact True.intro | exact rfl) | ((with_reducible show opS _ _); exact True.intro) | (refine ⟨AV.v (.bool true), rfl, hK1 _ ?_⟩; clear hK1 K1)))
 simp only [Tryz.results98, go_sem, ↓reduceIte, reduceCtorEq, nA, nB, nC, nD, nE, nF]
 exact ⟨_, _, Weak.refl _, Hp.le.refl _, rfl⟩
theorem g_done1 (h : Hp) : ACalls Tryz.prog 66 [kA, .v (.int .i64 3), .v (.int .i64 12)] h (fun r h' => r = .tup [.v (.int .i64 6), .v (.bool true), .v (.int .i64 0)]) := by
 have h1 := c_checkLinks h
 have h2 := fun h => c_isMoment h
 have h3 := fun h => a_outside 12 0 1000000000000 h
 have h4 := fun h => c_done h
 unfold kA at *
 refine gE Tryz.func66 rfl (by kernel_rfl) 30 rfl fun c => ?_
 (repeat (first | refine gO rfl ?_ | (refine gR fun K1 hK1 => ?_; simp only [go_sem, ↓reduceIte, reduceCtorEq, nA, nB, nC, nD, nE, nF, Int.reduceBEq, Int.reduceTMod, Int.reduceTDiv, Int.reduceMul, Int.reduceBNe, Int.reduceLT, Int.reduceLE, Int.reduceAdd, Int.reduceSub, Int.reduceNeg, decide_true, decide_false, Bool.true_and, Bool.false_and, Bool.and_true, Bool.and_false, Bool.or_false, Bool.or_true, Bool.true_or, Bool.false_or, Bool.not_true, Bool.not_false, true_implies, false_implies, true_and, and_true, Int.reduceToNat] <;> and_intros <;> first | (apply hK1; clear hK1 K1) | (intros; first | omega | decide) | skip) | (refine awp_cond (t := _) rfl (fun hq => ?_) (fun hq => ?_) <;> first | (exact absurd hq (by decide)) | (cases hq; done) | (clear hq)) | (refine awp_un 8 ?_) | (with_reducible exact rfl) | (with_reducible exact trivial) | ((with_reducible show uside _); first | exact True.intro | exact rfl) | ((with_reducible show opS _ _); exact True.intro) | (refine ⟨AV.v (.bool true), rfl, hK1 _ ?_⟩; clear hK1 K1)))
 refine h1.mono ?_
 rintro _ ha rfl
 refine hK1 _ ?_; clear hK1 K1 h1
 (repeat (first | refine gO rfl ?_ | (refine gR fun K1 hK1 => ?_; simp only [go_sem, ↓reduceIte, reduceCtorEq, nA, nB, nC, nD, nE, nF, Int.reduceBEq, Int.reduceTMod, Int.reduceTDiv, Int.reduceMul, Int.reduceBNe, Int.reduceLT, Int.reduceLE, Int.reduceAdd, Int.reduceSub, Int.reduceNeg, decide_true, decide_false, Bool.true_and, Bool.false_and, Bool.and_true, Bool.and_false, Bool.or_false, Bool.or_true, Bool.true_or, Bool.false_or, Bool.not_true, Bool.not_false, true_implies, false_implies, true_and, and_true, Int.reduceToNat] <;> and_intros <;> first | (apply hK1; clear hK1 K1) | (intros; first | omega | decide) | skip) | (refine awp_cond (t := _) rfl (fun hq => ?_) (fun hq => ?_) <;> first | (exact absurd hq (by decide)) | (cases hq; done) | (clear hq)) | (refine awp_un 8 ?_) | (with_reducible exact rfl) | (with_reducible exact trivial) | ((with_reducible show uside _); first | exact True.intro | exact rfl) | ((with_reducible show opS _ _); exact True.intro) | (refine ⟨AV.v (.bool true), rfl, hK1 _ ?_⟩; clear hK1 K1) | (refine (h2 _).mono ?_; rintro _ hz ⟨rfl, hh⟩; (first | (refine hK1 _ ?_) | (refine ⟨rfl, hK1 _ ?_⟩)); clear hK1 K1; rw [hh]; clear hh hz) | (refine (h3 _).mono ?_; rintro _ hz ⟨rfl, hh⟩; (first | (refine hK1 _ ?_) | (refine ⟨rfl, hK1 _ ?_⟩)); clear hK1 K1; rw [hh]; clear hh hz)))
 refine (h4 _).mono ?_
 rintro _ hb rfl
 refine hK1 _ ?_; clear hK1 K1
 (repeat (first | refine gO rfl ?_ | (refine gR fun K1 hK1 => ?_; simp only [go_sem, ↓reduceIte, reduceCtorEq, nA, nB, nC, nD, nE, nF, Int.reduceBEq, Int.reduceTMod, Int.reduceTDiv, Int.reduceMul, Int.reduceBNe, Int.reduceLT, Int.reduceLE, Int.reduceAdd, Int.reduceSub, Int.reduceNeg, decide_true, decide_false, Bool.true_and, Bool.false_and, Bool.and_true, Bool.and_false, Bool.or_false, Bool.or_true, Bool.true_or, Bool.false_or, Bool.not_true, Bool.not_false, true_implies, false_implies, true_and, and_true, Int.reduceToNat] <;> and_intros <;> first | (apply hK1; clear hK1 K1) | (intros; first | omega | decide) | skip) | (refine awp_cond (t := _) rfl (fun hq => ?_) (fun hq => ?_) <;> first | (exact absurd hq (by decide)) | (cases hq; done) | (clear hq)) | (refine awp_un 8 ?_) | (with_reducible exact rfl) | (with_reducible exact trivial) | ((with_reducible show uside _); first | exact True.intro | exact rfl) | ((with_reducible show opS _ _); exact True.intro) | (refine ⟨AV.v (.bool true), rfl, hK1 _ ?_⟩; clear hK1 K1)))
 simp only [Tryz.results66, go_sem, ↓reduceIte, reduceCtorEq, nA, nB, nC, nD, nE, nF]
 exact ⟨_, _, Weak.refl _, Hp.le.refl _, rfl⟩
theorem g_ready (h : Hp) : ACalls Tryz.prog 31 [] h (fun r _ => r = .v (.bool true)) := by
 have h1 := fun h => g_miss5 h
 have h2 := fun h => g_round1 h
 have h3 := fun h => g_done1 h
 have h4 := fun h => g_bind1 h
 have e5 : (s5 == ⟨#[53]⟩) = true := by decide
 unfold lA nlS at h2
 unfold kA at h3
 rw [fC_eq] at h4
 unfold sT at h4
 refine gE Tryz.func31 rfl (by kernel_rfl) 75 rfl fun c => ?_
 (repeat (first | refine gO rfl ?_ | (refine gR fun K1 hK1 => ?_; simp only [go_sem, ↓reduceIte, reduceCtorEq, nA, nB, nC, nD, nE, nF, Int.reduceBEq, Int.reduceTMod, Int.reduceTDiv, Int.reduceMul, Int.reduceBNe, Int.reduceLT, Int.reduceLE, Int.reduceAdd, Int.reduceSub, Int.reduceNeg, decide_true, decide_false, Bool.true_and, Bool.false_and, Bool.and_true, Bool.and_false, Bool.or_false, Bool.or_true, Bool.true_or, Bool.false_or, Bool.not_true, Bool.not_false, true_implies, false_implies, true_and, and_true, Int.reduceToNat] <;> and_intros <;> first | (apply hK1; clear hK1 K1) | (intros; first | omega | decide) | skip) | (refine awp_cond (t := _) rfl (fun hq => ?_) (fun hq => ?_) <;> first | (exact absurd hq (by decide)) | (cases hq; done) | (clear hq)) | (refine awp_un 8 ?_) | (with_reducible exact rfl) | (with_reducible exact trivial) | ((with_reducible show uside _); first | exact True.intro | exact rfl) | ((with_reducible show opS _ _); exact True.intro) | (refine ⟨AV.v (.bool true), rfl, hK1 _ ?_⟩; clear hK1 K1)))
 refine (h1 _).mono ?_
 rintro _ ha rfl
 refine hK1 _ ?_; clear hK1 K1 h1
 (repeat (first | refine gO rfl ?_ | (refine gR fun K1 hK1 => ?_; simp only [go_sem, ↓reduceIte, reduceCtorEq, nA, nB, nC, nD, nE, nF, Int.reduceBEq, Int.reduceTMod, Int.reduceTDiv, Int.reduceMul, Int.reduceBNe, Int.reduceLT, Int.reduceLE, Int.reduceAdd, Int.reduceSub, Int.reduceNeg, decide_true, decide_false, Bool.true_and, Bool.false_and, Bool.and_true, Bool.and_false, Bool.or_false, Bool.or_true, Bool.true_or, Bool.false_or, Bool.not_true, Bool.not_false, true_implies, false_implies, true_and, and_true, Int.reduceToNat] <;> and_intros <;> first | (apply hK1; clear hK1 K1) | (intros; first | omega | decide) | skip) | (refine awp_cond (t := _) rfl (fun hq => ?_) (fun hq => ?_) <;> first | (exact absurd hq (by decide)) | (cases hq; done) | (clear hq)) | (refine awp_un 8 ?_) | (with_reducible exact rfl) | (with_reducible exact trivial) | ((with_reducible show uside _); first | exact True.intro | exact rfl) | ((with_reducible show opS _ _); exact True.intro) | (refine ⟨AV.v (.bool true), rfl, hK1 _ ?_⟩; clear hK1 K1)))
 refine (h2 _).mono ?_
 rintro _ hb rfl
 refine hK1 _ ?_; clear hK1 K1 h2
 (repeat (first | refine gO rfl ?_ | (refine gR fun K1 hK1 => ?_; simp only [go_sem, ↓reduceIte, reduceCtorEq, nA, nB, nC, nD, nE, nF, Int.reduceBEq, Int.reduceTMod, Int.reduceTDiv, Int.reduceMul, Int.reduceBNe, Int.reduceLT, Int.reduceLE, Int.reduceAdd, Int.reduceSub, Int.reduceNeg, decide_true, decide_false, Bool.true_and, Bool.false_and, Bool.and_true, Bool.and_false, Bool.or_false, Bool.or_true, Bool.true_or, Bool.false_or, Bool.not_true, Bool.not_false, true_implies, false_implies, true_and, and_true, Int.reduceToNat] <;> and_intros <;> first | (apply hK1; clear hK1 K1) | (intros; first | omega | decide) | skip) | (refine awp_cond (t := _) rfl (fun hq => ?_) (fun hq => ?_) <;> first | (exact absurd hq (by decide)) | (cases hq; done) | (clear hq)) | (refine awp_un 8 ?_) | (with_reducible exact rfl) | (with_reducible exact trivial) | ((with_reducible show uside _); first | exact True.intro | exact rfl) | ((with_reducible show opS _ _); exact True.intro) | (refine ⟨AV.v (.bool true), rfl, hK1 _ ?_⟩; clear hK1 K1)))
 refine (h3 _).mono ?_
 rintro _ hd rfl
 refine hK1 _ ?_; clear hK1 K1 h3
 (repeat (first | refine gO rfl ?_ | (refine gR fun K1 hK1 => ?_; simp only [go_sem, ↓reduceIte, reduceCtorEq, nA, nB, nC, nD, nE, nF, Int.reduceBEq, Int.reduceTMod, Int.reduceTDiv, Int.reduceMul, Int.reduceBNe, Int.reduceLT, Int.reduceLE, Int.reduceAdd, Int.reduceSub, Int.reduceNeg, decide_true, decide_false, Bool.true_and, Bool.false_and, Bool.and_true, Bool.and_false, Bool.or_false, Bool.or_true, Bool.true_or, Bool.false_or, Bool.not_true, Bool.not_false, true_implies, false_implies, true_and, and_true, Int.reduceToNat] <;> and_intros <;> first | (apply hK1; clear hK1 K1) | (intros; first | omega | decide) | skip) | (refine awp_cond (t := _) rfl (fun hq => ?_) (fun hq => ?_) <;> first | (exact absurd hq (by decide)) | (cases hq; done) | (clear hq)) | (refine awp_un 8 ?_) | (with_reducible exact rfl) | (with_reducible exact trivial) | ((with_reducible show uside _); first | exact True.intro | exact rfl) | ((with_reducible show opS _ _); exact True.intro) | (refine ⟨AV.v (.bool true), rfl, hK1 _ ?_⟩; clear hK1 K1)))
 refine (h4 _).mono ?_
 rintro _ he rfl
 refine hK1 _ ?_; clear hK1 K1 h4
 (repeat (first | refine gO rfl ?_ | (refine gR fun K1 hK1 => ?_; simp only [go_sem, ↓reduceIte, reduceCtorEq, nA, nB, nC, nD, nE, nF, Int.reduceBEq, Int.reduceTMod, Int.reduceTDiv, Int.reduceMul, Int.reduceBNe, Int.reduceLT, Int.reduceLE, Int.reduceAdd, Int.reduceSub, Int.reduceNeg, decide_true, decide_false, Bool.true_and, Bool.false_and, Bool.and_true, Bool.and_false, Bool.or_false, Bool.or_true, Bool.true_or, Bool.false_or, Bool.not_true, Bool.not_false, true_implies, false_implies, true_and, and_true, Int.reduceToNat, e5] <;> and_intros <;> first | (apply hK1; clear hK1 K1) | (intros; first | omega | decide) | skip) | (refine awp_cond (t := _) rfl (fun hq => ?_) (fun hq => ?_) <;> first | (exact absurd hq (by decide)) | (cases hq; done) | (clear hq)) | (refine awp_un 8 ?_) | (with_reducible exact rfl) | (with_reducible exact trivial) | ((with_reducible show uside _); first | exact True.intro | exact rfl) | ((with_reducible show opS _ _); exact True.intro) | (refine ⟨AV.v (.bool true), rfl, hK1 _ ?_⟩; clear hK1 K1)))
 simp only [Tryz.results31, go_sem, ↓reduceIte, reduceCtorEq, nA, nB, nC, nD, nE, nF]
 exact ⟨_, _, Weak.refl _, Hp.le.refl _, rfl⟩
theorem splitB_one {c : UInt8} {l : List UInt8} (h : (splitB c l).length = 1) : splitB c l = [l] := by
 by_cases h1 : Lib.indexByte l c < 0
 ·exact splitB_none c h1
 ·exfalso
  obtain ⟨h2, h3⟩ := splitB_some c (l := l) (i := (Lib.indexByte l c).toNat) (by omega)
  rw [h3, List.length_cons] at h
  have h4 : (splitB c (l.drop ((Lib.indexByte l c).toNat + 1))).length = 0 := by omega
  exact splitB_ne c _ (List.eq_nil_of_length_eq_zero h4)
theorem a_count (l : List UInt8) (c : UInt8) (h : Hp) : ACalls Tryz.prog 99 [.v (.string (bsOf l)), .v (.string ⟨#[c]⟩)] h (fun r h' => r = .v (.int .i64 (Lib.countByte l c)) ∧ h' = h) :=
 acalls_pure (by kernel_rfl) [.string (bsOf l), .string ⟨#[c]⟩] rfl (fun w => (Tryz.strings_Count_one (bsOf l) c w).mono fun e w' ⟨h1, h2⟩ => ⟨h1, by subst h2; exact bel_id _⟩) h
theorem a_index (l : List UInt8) (c : UInt8) (h : Hp) : ACalls Tryz.prog 69 [.v (.string (bsOf l)), .v (.string ⟨#[c]⟩)] h (fun r h' => r = .v (.int .i64 (Lib.indexByte l c)) ∧ h' = h) :=
 acalls_pure (by kernel_rfl) [.string (bsOf l), .string ⟨#[c]⟩] rfl (fun w => (Tryz.strings_Index_one (bsOf l) c w).mono fun e w' ⟨h1, h2⟩ => ⟨h1, by subst h2; exact bel_id _⟩) h
def encL1 (x : List UInt8) : List AV := [.v (.string (bsOf x))]
theorem g_genSplit (l : List UInt8) (cb : UInt8) (hl : l.length ≤ 100000) (h : Hp) : ACalls Tryz.prog 85 [.v (.string (bsOf l)), .v (.string ⟨#[cb]⟩), .v (.int .i64 0), .v (.int .i64 (-1))] h (fun r h' => r = .row 1 ((splitB cb l).map encL1) none ∧ h' = h) := by
 refine ACalls.frz ?_ (fun y hy => by obtain ⟨x, _, rfl⟩ := List.mem_map.1 hy; rfl)
 have hct := a_count l cb h
 have hcl : Lib.countByte l cb ≤ l.length := List.count_le_length
 have hsl := splitB_len cb l
 have hsz : (bsOf l).size = l.length := size_bs _
 have e1 : ((⟨#[cb]⟩ : ByteArray) == ⟨#[]⟩) = false := by rw [ba_beq, decide_eq_false_iff_not]; intro e; have := congrArg ByteArray.size e; cases this
 generalize hn : Lib.countByte l cb = n at *
 have e2 : min ((n : Int) + 1) ((l.length : Int) + 1) = (n : Int) + 1 := by omega
 refine gE Tryz.func85 rfl (by kernel_rfl) 62 rfl fun c => ?_
 (repeat (first | refine gO rfl ?_ | (refine gM zM39 fun K1 hK1 => ?_; simp only [go_sem, ↓reduceIte, reduceCtorEq, nA, nB, nC, nD, nE, nF, Int.reduceBEq, Int.reduceTMod, Int.reduceTDiv, Int.reduceMul, Int.reduceBNe, Int.reduceLT, Int.reduceLE, Int.reduceAdd, Int.reduceSub, Int.reduceNeg, decide_true, decide_false, Bool.true_and, Bool.false_and, Bool.and_true, Bool.and_false, Bool.or_false, Bool.or_true, Bool.true_or, Bool.false_or, Bool.not_true, Bool.not_false, true_implies, false_implies, true_and, and_true, Int.reduceToNat, e1, hsz, e2] <;> and_intros <;> first | (apply hK1; clear hK1 K1) | (intros; first | omega | decide) | skip) | (refine awp_cond (t := _) rfl (fun hq => ?_) (fun hq => ?_) <;> first | (exact absurd hq (by decide)) | (cases hq; done) | (clear hq)) | (refine awp_un 8 ?_) | (with_reducible exact rfl) | (with_reducible exact trivial) | ((with_reducible show uside _); first | exact True.intro | exact rfl) | ((with_reducible show opS _ _); exact True.intro) | (refine ⟨AV.v (.bool true), rfl, hK1 _ ?_⟩; clear hK1 K1) | (refine (hct).mono ?_; rintro _ hz ⟨rfl, hh⟩; (first | (refine hK1 _ ?_) | (refine ⟨rfl, hK1 _ ?_⟩)); clear hK1 K1; rw [hh]; clear hh hz)))
 intro k hk
 refine hK1 _ ?_; clear hK1 K1
 have hnt : ((n : Int) + 1).toNat = n + 1 := by omega
 (repeat (first | refine gO rfl ?_ | (refine gM zM39 fun K1 hK1 => ?_; simp only [go_sem, ↓reduceIte, reduceCtorEq, nA, nB, nC, nD, nE, nF, hnt] <;> and_intros <;> first | (apply hK1; clear hK1 K1) | (intros; first | omega | decide | (simp_all <;> omega)) | skip)))
 have hcons : ∀ x, encL1 x = [.v (.string (bsOf x))] := fun _ => rfl
 refine awp_loopC (rl false [0, 4, 5, 2, 55]) 0 (fun g s => ∃ (i : Nat) (rest : List UInt8) (P : List (List UInt8)), g + i = n ∧ P.length = i ∧ splitB cb l = P ++ splitB cb rest ∧ rest.length ≤ l.length ∧
  s = ⟨((.v (.string (bsOf rest))) :: (.v (.string ⟨#[cb]⟩)) :: (.v (.int .i64 0)) :: (.v (.int .i64 n)) :: (jnk 5 ((.arr 1 k (n + 1)) :: (.v (.int .i64 i)) :: (jnk 55 [])))), [], ⟨h.H, upd h.T k (some (.cont 1 (P.map encL1 ++ List.replicate (n + 1 - i) [.v (.string ⟨#[]⟩)])))⟩⟩) n ⟨0, l, [], by omega, rfl, rfl, Nat.le_refl _, rfl⟩ ?_
 rintro g _ ⟨i, rest, P, hg, hP, hsp, hrl, rfl⟩
 have hix := a_index rest cb
 have hlen := congrArg List.length hsp
 rw [List.length_append, hsl, hP] at hlen
 (repeat (first | refine gO rfl ?_ | (refine gM zM39 fun K1 hK1 => ?_; simp only [go_sem, ↓reduceIte, reduceCtorEq, nA, nB, nC, nD, nE, nF] <;> and_intros <;> first | (apply hK1; clear hK1 K1) | (intros; first | omega | decide | (simp_all <;> omega)) | skip)))
 refine awp_cond (t := _) rfl (fun h5 => ?_) (fun h5 => ?_)
 ·simp only [decide_eq_true_eq] at h5
  (repeat (first | refine gO rfl ?_ | (refine gM zM39 fun K1 hK1 => ?_; simp only [go_sem, ↓reduceIte, reduceCtorEq, nA, nB, nC, nD, nE, nF] <;> and_intros <;> first | (apply hK1; clear hK1 K1) | (intros; first | omega | decide | (simp_all <;> omega)) | skip)))
  refine (hix _).mono ?_; rintro _ hz ⟨rfl, hh⟩; apply hK1; clear hK1 K1; rw [hh]; clear hh hz
  (repeat (first | refine gO rfl ?_ | (refine gM zM39 fun K1 hK1 => ?_; simp only [go_sem, ↓reduceIte, reduceCtorEq, nA, nB, nC, nD, nE, nF] <;> and_intros <;> first | (apply hK1; clear hK1 K1) | (intros; first | omega | decide | (simp_all <;> omega)) | skip)))
  refine awp_cond (t := _) rfl (fun h6 => ?_) (fun h6 => ?_)
  ·simp only [decide_eq_true_eq] at h6
   exfalso
   have := splitB_none cb h6
   rw [this] at hlen
   simp only [List.length_cons, List.length_nil] at hlen
   omega
  ·simp only [decide_eq_false_iff_not] at h6
   obtain ⟨m, hm⟩ : ∃ m : Nat, Lib.indexByte rest cb = (m : Int) := ⟨(Lib.indexByte rest cb).toNat, by omega⟩
   obtain ⟨hm1, hm2⟩ := splitB_some cb hm
   have hrs : (bsOf rest).size = rest.length := size_bs _
   have hcs : (⟨#[cb]⟩ : ByteArray).size = 1 := rfl
   have hx1 : (bsOf rest).extract 0 m = bsOf (rest.take m) := bsOf_take _ _
   have hx2 : (bsOf rest).extract (m + 1) (bsOf rest).size = bsOf (rest.drop (m + 1)) := by rw [size_bs, bsOf_drop _ _ _ rfl]
   have hx2' : (bsOf rest).extract (m + 1) rest.length = bsOf (rest.drop (m + 1)) := bsOf_drop _ _ _ rfl
   have hz : Int.toNat 0 = 0 := rfl
   have hm0 : (m : Int) + 0 = (m : Int) := by omega
   have hmn : ((m : Int) + ((1 : Nat) : Int)).toNat = m + 1 := by omega
   have hcl2 : (P.map encL1 ++ List.replicate (n + 1 - i) [AV.v (.string ⟨#[]⟩)]).length = n + 1 := by simp only [List.length_append, List.length_map, List.length_replicate]; omega
   have hgd : (P.map encL1 ++ List.replicate (n + 1 - i) [AV.v (.string ⟨#[]⟩)]).getD i [] = [AV.v (.string ⟨#[]⟩)] := by
    rw [List.getD_eq_getElem?_getD, List.getElem?_append_right (by rw [List.length_map]; omega), List.length_map, hP, Nat.sub_self, List.getElem?_replicate, if_pos (by omega)]; rfl
   have hset : (P.map encL1 ++ List.replicate (n + 1 - i) [AV.v (.string ⟨#[]⟩)]).set i [.v (.string (bsOf (rest.take m)))] = (P ++ [rest.take m]).map encL1 ++ List.replicate (n + 1 - (i + 1)) [AV.v (.string ⟨#[]⟩)] := by
    have e : n + 1 - i = (n + 1 - (i + 1)) + 1 := by omega
    rw [List.set_append_right _ _ (by rw [List.length_map]; omega), List.length_map, hP, Nat.sub_self, e, List.replicate_succ, List.set_cons_zero, List.map_append, List.append_assoc]
    rfl
   have hdr : List.drop 1 [AV.v (.string ⟨#[]⟩)] = [] := rfl
   rw [hm]
   (repeat (first | refine gO rfl ?_ | (refine gM zM39 fun K1 hK1 => ?_; simp only [go_sem, ↓reduceIte, reduceCtorEq, nA, nB, nC, nD, nE, nF, hm0, hmn, hrs, hcs, hz, hx1, hx2, hx2', Int.toNat_natCast, upd_same, hcl2, Option.toList_none, Option.toList_some, List.append_eq, List.nil_append, List.cons_append, uside] <;> and_intros <;> first | (apply hK1; clear hK1 K1) | (intros; first | omega | decide | (simp_all <;> omega)) | skip)))
   refine ⟨g - 1, by omega, i + 1, rest.drop (m + 1), P ++ [rest.take m], by omega, by rw [List.length_append, hP]; rfl, by rw [hsp, hm2, List.append_assoc]; rfl, by rw [List.length_drop]; omega, ?_⟩
   rw [hgd, hdr, hset]
   rfl
 ·simp only [decide_eq_false_iff_not] at h5
  have hin : i = n := by omega
  subst hin
  have h1 := splitB_one (c := cb) (l := rest) (by omega)
  have e9 : i + 1 - i = 1 := by omega
  have hi1 : ((i : Int) + 1).toNat = i + 1 := by omega
  have hcl2 : (P.map encL1 ++ List.replicate (i + 1 - i) [AV.v (.string ⟨#[]⟩)]).length = i + 1 := by simp only [List.length_append, List.length_map, List.length_replicate]; omega
  have hgd : (P.map encL1 ++ List.replicate (i + 1 - i) [AV.v (.string ⟨#[]⟩)]).getD i [] = [AV.v (.string ⟨#[]⟩)] := by
   rw [List.getD_eq_getElem?_getD, List.getElem?_append_right (by rw [List.length_map]; omega), List.length_map, hP, Nat.sub_self, List.getElem?_replicate, if_pos (by omega)]; rfl
  have hset : (P.map encL1 ++ List.replicate (i + 1 - i) [AV.v (.string ⟨#[]⟩)]).set i [.v (.string (bsOf rest))] = (splitB cb l).map encL1 := by
   rw [hsp, h1, List.set_append_right _ _ (by rw [List.length_map]; omega), List.length_map, hP, Nat.sub_self, e9, List.map_append]
   rfl
  have hdr : List.drop 1 [AV.v (.string ⟨#[]⟩)] = [] := rfl
  have hlm : ((splitB cb l).map encL1).length = i + 1 := by rw [List.length_map, hsl]
  (repeat (first | refine gO rfl ?_ | (refine gM zM39 fun K1 hK1 => ?_; simp only [go_sem, ↓reduceIte, reduceCtorEq, nA, nB, nC, nD, nE, nF, upd_same, Int.toNat_natCast, hcl2, hgd, hset, hdr, hi1, hlm, Option.toList_none, Option.toList_some, List.append_eq, List.nil_append, List.cons_append, uside] <;> and_intros <;> first | (apply hK1; clear hK1 K1) | (intros; first | omega | decide | (simp_all <;> omega)) | skip)))
  have htk : List.take (i + 1) ((splitB cb l).map encL1) = (splitB cb l).map encL1 := List.take_of_length_le (by rw [hlm]; exact Nat.le_refl _)
  intro q hq
  refine hK1 _ ?_; clear hK1 K1
  (repeat (first | refine gO rfl ?_ | (refine gM zM39 fun K1 hK1 => ?_; simp only [go_sem, ↓reduceIte, reduceCtorEq, nA, nB, nC, nD, nE, nF] <;> and_intros <;> first | (apply hK1; clear hK1 K1) | (intros; first | omega | decide | (simp_all <;> omega)) | skip)))
  simp only [Tryz.results85, go_sem, ↓reduceIte, reduceCtorEq, nA, nB, nC, nD, nE, nF]
  replace hk : h.T k = none := hk
  have hq2 : h.T q = none := by
   by_cases e : q = k
   ·rw [e, upd_same] at hq; cases hq
   ·rwa [upd_other _ _ e] at hq
  refine ⟨_, _, Weak.refl _, Hp.le.refl _, q, by rw [hsl], rfl, hq2, ?_, fun t ht => ?_⟩
  ·show upd _ q _ q = _
   rw [upd_same, htk]
  ·have tq : t ≠ q := by rintro rfl; exact ht hq2
   have tk : t ≠ k := by rintro rfl; exact ht hk
   show upd (upd h.T k none) q _ t = _
   rw [upd_other _ _ tq, upd_other _ _ tk]
theorem g_split (l : List UInt8) (cb : UInt8) (hl : l.length ≤ 100000) (h : Hp) : ACalls Tryz.prog 56 [.v (.string (bsOf l)), .v (.string ⟨#[cb]⟩)] h (fun r h' => r = .row 1 ((splitB cb l).map encL1) none ∧ h' = h) := by
 have h1 := g_genSplit l cb hl h
 refine gE Tryz.func56 rfl (by kernel_rfl) 6 rfl fun c => ?_
 (repeat (first | refine gO rfl ?_ | (refine gR fun K1 hK1 => ?_; simp only [go_sem, ↓reduceIte, reduceCtorEq, nA, nB, nC, nD, nE, nF] <;> and_intros <;> first | (apply hK1; clear hK1 K1) | (intros; first | omega | decide | (simp_all <;> omega)) | skip)))
 refine h1.mono ?_; rintro _ hz ⟨rfl, hh⟩; apply hK1; clear hK1 K1; rw [hh]; clear hh hz
 (repeat (first | refine gO rfl ?_ | (refine gR fun K1 hK1 => ?_; simp only [go_sem, ↓reduceIte, reduceCtorEq, nA, nB, nC, nD, nE, nF] <;> and_intros <;> first | (apply hK1; clear hK1 K1) | (intros; first | omega | decide | (simp_all <;> omega)) | skip)))
 simp only [Tryz.results56, go_sem, ↓reduceIte, reduceCtorEq, nA, nB, nC, nD, nE, nF]
 exact ⟨_, _, Weak.refl _, Hp.le.refl _, rfl, rfl⟩
def wordsP (f : Fo) (wide : Int) (ps : List (List Tok)) : List (List Tok) := (ps.filter fun w => !w.isEmpty).flatMap fun w => cutT f wide w []
theorem wordsP_app (f : Fo) (wide : Int) (ps : List (List Tok)) (w : List Tok) : wordsP f wide (ps ++ [w]) = wordsP f wide ps ++ if w = [] then [] else cutT f wide w [] := by
 unfold wordsP
 rw [List.filter_append, List.flatMap_append]
 congr 1
 cases w with
 | nil => rfl
 | cons x l => simp
theorem wordsP_len (f : Fo) (wide : Int) (ps : List (List Tok)) : (wordsP f wide ps).length ≤ 2 * ps.flatten.length := by
 induction ps with
 | nil => simp [wordsP]
 | cons w ps ih =>
  have h1 : wordsP f wide (w :: ps) = (if w = [] then [] else cutT f wide w []) ++ wordsP f wide ps := by
   unfold wordsP
   cases w with
   | nil => rfl
   | cons x l => simp
  rw [h1, List.length_append, List.flatten_cons, List.length_append]
  split
  ·simp only [List.length_nil]; omega
  ·rename_i hne
   have := cutT_len f wide w []
   have : 0 < w.length := List.length_pos_iff.2 hne
   omega
theorem row_piece (ps : List (List Tok)) (j : Nat) (hj : j < ps.length) : ((ps.map List.flatten).map encL1).getD j [] = encL1 ps[j].flatten := by
 rw [List.getD_eq_getElem?_getD, List.getElem?_map, List.getElem?_map, List.getElem?_eq_getElem hj]; rfl
theorem g_wordsOf (f : Fo) (kk : Option Nat) (ts : List Tok) (wide : Int) (hts : ∀ t ∈ ts, t ∈ toks) (hn : ts.length ≤ 10000) (hw : 1 ≤ wide ∧ wide ≤ 100000) (hg : Good f) (k0 : Nat) (h : Hp) (hT : h.T k0 = some (.glb tabU)) :
  ACalls Tryz.prog 77 [encFo f kk, .v (.string (bsOf ts.flatten)), .v (.int .i64 wide)] h
   (fun r h' => ∃ q, r = .row 2 ((wordsT f wide ts).map (encWd f)) (some q) ∧ h.T q = none ∧ h'.H = h.H ∧ ∀ k x, h.T k = some x → h'.T k = some x) := by
 have hfl : ∀ x, (encFo f x) = .agg [.v (.string f.key), .v (.int .i64 f.hi), .v (.int .i64 f.ot), .row 3 (f.ws.map encW) x] := fun _ => rfl
 have hf2 := flat_le2 ts hts
 have hsp := g_split ts.flatten 32 (by omega)
 rw [splitB_toks 32 sp_ok ts hts] at hsp
 have hml : (((splitT [32] ts).map List.flatten).map encL1).length = (splitT [32] ts).length := by rw [List.length_map, List.length_map]
 have hsl := splitT_len [32] ts
 have hwT : wordsT f wide ts = wordsP f wide (splitT [32] ts) := rfl
 refine gE Tryz.func77 rfl (by kernel_rfl) 23 rfl fun c => ?_
 (repeat (first | refine gO rfl ?_ | (refine gR fun K1 hK1 => ?_; simp only [go_sem, ↓reduceIte, reduceCtorEq, nA, nB, nC, nD, nE, nF, hfl] <;> and_intros <;> first | (apply hK1; clear hK1 K1) | (intros; first | omega | decide) | skip)))
 refine (hsp h).mono ?_; rintro _ hz ⟨rfl, hh⟩; apply hK1; clear hK1 K1; rw [hh]; clear hh hz
 (repeat (first | refine gO rfl ?_ | (refine gR fun K1 hK1 => ?_; simp only [go_sem, ↓reduceIte, reduceCtorEq, nA, nB, nC, nD, nE, nF, hml] <;> and_intros <;> first | (apply hK1; clear hK1 K1) | (intros; first | omega | decide) | skip)))
 refine awp_own 7 2 rfl ⟨rfl, rfl⟩ (fun q hq => ?_)
 replace hq : h.T q = none := hq
 have hkq : k0 ≠ q := by rintro rfl; rw [hT] at hq; cases hq
 refine awp_loopC (rl false [2, 2, 3, 1, 3, 3, 12]) 0 (fun g s => ∃ (j : Nat) (h1 : Hp), g + j = (splitT [32] ts).length ∧ h1.H = h.H ∧ (∀ k x, h.T k = some x → h1.T k = some x) ∧ h1.T q = some (.tail (wordsP f wide ((splitT [32] ts).take j)).length) ∧
  s = ⟨(AV.junk :: AV.junk :: ((.v (.int .i64 wide)) :: (.ref [.v (.string f.key), .v (.int .i64 f.hi), .v (.int .i64 f.ot), .row 3 (f.ws.map encW) kk] 0) :: (jnk 3 ((.row 2 ((wordsP f wide ((splitT [32] ts).take j)).map (encWd f)) (some q)) :: (jnk 3 ((.row 1 (((splitT [32] ts).map List.flatten).map encL1) none) :: (.v (.int .i64 (splitT [32] ts).length)) :: (.v (.int .i64 j)) :: (jnk 12 []))))))), [], h1⟩) (splitT [32] ts).length ⟨0, ⟨h.H, upd h.T q (some (.tail 0))⟩, by omega, rfl, (fun k x e => (upd_other _ _ (by rintro rfl; rw [hq] at e; cases e)).trans e), upd_same _ _ _, rfl⟩ ?_
 rintro g _ ⟨j, h1, hj, hH, hTs, hq1, rfl⟩
 (repeat (first | refine gO rfl ?_ | (refine gR fun K1 hK1 => ?_; simp only [go_sem, ↓reduceIte, reduceCtorEq, nA, nB, nC, nD, nE, nF] <;> and_intros <;> first | (apply hK1; clear hK1 K1) | (intros; first | omega | decide) | skip)))
 refine awp_cond (t := _) rfl (fun h5 => ?_) (fun h5 => ?_)
 ·simp only [decide_eq_true_eq] at h5
  have hjl : j < (splitT [32] ts).length := by omega
  have gx := row_piece (splitT [32] ts) j hjl
  have hmem : (splitT [32] ts)[j] ∈ splitT [32] ts := List.getElem_mem _
  have hwt : ∀ t ∈ (splitT [32] ts)[j], t ∈ toks := fun t ht => hts t (splitT_mem hmem t ht).1
  have hbe := bs_empty hwt
  have hap := wordsP_app f wide ((splitT [32] ts).take j) (splitT [32] ts)[j]
  rw [← List.take_succ_eq_append_getElem hjl] at hap
  have hls : ∀ b, (encL1 b).length = 1 := fun _ => rfl
  have hgs : ∀ b d, (encL1 b).getD 0 d = .v (.string (bsOf b)) := fun _ _ => rfl
  have hft : ((splitT [32] ts).take j).flatten.length ≤ ts.length := by
   have e : (splitT [32] ts).flatten = ((splitT [32] ts).take j).flatten ++ ((splitT [32] ts).drop j).flatten := by rw [← List.flatten_append, List.take_append_drop]
   have h1 := congrArg List.length e
   rw [splitT_flat, List.length_append] at h1
   exact Nat.le_trans (Nat.le_add_right _ _) (by rw [← h1]; exact List.length_filter_le _ _)
  have hpl := wordsP_len f wide ((splitT [32] ts).take j)
  have hwl : (splitT [32] ts)[j].length ≤ 10000 := by
   have h1 := List.Sublist.length_le (List.sublist_flatten_of_mem hmem)
   rw [splitT_flat] at h1
   exact Nat.le_trans (Nat.le_trans h1 (List.length_filter_le _ _)) hn
  have hc := g_cut f kk (wordsP f wide ((splitT [32] ts).take j)) (splitT [32] ts)[j] wide hwt hwl (by omega) hw hg k0 q h1 (hTs _ _ hT) hq1
  rw [hfl] at hc
  generalize hX : (splitT [32] ts)[j] = x at *
  (repeat (first | refine gO rfl ?_ | (refine gR fun K1 hK1 => ?_; simp only [go_sem, ↓reduceIte, reduceCtorEq, nA, nB, nC, nD, nE, nF, hml, Int.toNat_natCast, gx, hls, hgs] <;> and_intros <;> first | (apply hK1; clear hK1 K1) | (intros; first | omega | decide) | skip)))
  by_cases c1 : x = []
  ·have hce : (bsOf x.flatten == (⟨#[]⟩ : ByteArray)) = true := by rw [hbe, c1]; rfl
   refine awp_cond (t := _) rfl (fun h6 => by rw [hce] at h6; cases h6) (fun _ => ?_)
   (repeat (first | refine gO rfl ?_ | (refine gR fun K1 hK1 => ?_; simp only [go_sem, ↓reduceIte, reduceCtorEq, nA, nB, nC, nD, nE, nF] <;> and_intros <;> first | (apply hK1; clear hK1 K1) | (intros; first | omega | decide) | skip)))
   rw [if_pos c1, List.append_nil] at hap
   exact ⟨g - 1, by omega, j + 1, h1, by omega, hH, hTs, by rw [hap]; exact hq1, by rw [hap]; rfl⟩
  ·have hce : (bsOf x.flatten == (⟨#[]⟩ : ByteArray)) = false := by rw [hbe]; simp [c1]
   refine awp_cond (t := _) rfl (fun _ => ?_) (fun h6 => by rw [hce] at h6; cases h6)
   rw [if_neg c1] at hap
   rw [← hap] at hc
   (repeat (first | refine gO rfl ?_ | (refine gR fun K1 hK1 => ?_; simp only [go_sem, ↓reduceIte, reduceCtorEq, nA, nB, nC, nD, nE, nF] <;> and_intros <;> first | (apply hK1; clear hK1 K1) | (intros; first | omega | decide) | skip)))
   refine hc.mono ?_
   rintro _ h2 ⟨rfl, hH2, hq2, hT2⟩; apply hK1; clear hK1 K1
   (repeat (first | refine gO rfl ?_ | (refine gR fun K1 hK1 => ?_; simp only [go_sem, ↓reduceIte, reduceCtorEq, nA, nB, nC, nD, nE, nF] <;> and_intros <;> first | (apply hK1; clear hK1 K1) | (intros; first | omega | decide) | skip)))
   exact ⟨g - 1, by omega, j + 1, h2, by omega, hH2.trans hH, (fun k x e => hT2 k x (by rintro rfl; rw [hq] at e; cases e) (hTs k x e)), hq2, rfl⟩
 ·simp only [decide_eq_false_iff_not] at h5
  have hjl : j = (splitT [32] ts).length := by omega
  subst hjl
  rw [List.take_length, ← hwT]
  (repeat (first | refine gO rfl ?_ | (refine gR fun K1 hK1 => ?_; simp only [go_sem, ↓reduceIte, reduceCtorEq, nA, nB, nC, nD, nE, nF] <;> and_intros <;> first | (apply hK1; clear hK1 K1) | (intros; first | omega | decide) | skip)))
  simp only [Tryz.results77, go_sem, ↓reduceIte, reduceCtorEq, nA, nB, nC, nD, nE, nF]
  exact ⟨_, _, Weak.refl _, Hp.le.refl _, q, rfl, hq, hH, hTs⟩
theorem cost_bd {n wide : Int} (hn : -100000000 ≤ n) (hw : 1 ≤ wide ∧ wide ≤ 100000) : 0 ≤ costT n wide ∧ costT n wide ≤ 100100000 * 100100000 := by
 unfold costT
 split
 ·omega
 ·have h1 : 0 ≤ wide - n := by omega
  have h2 : wide - n ≤ 100100000 := by omega
  exact ⟨Int.mul_nonneg h1 h1, Int.mul_le_mul h2 h2 h1 (by omega)⟩
theorem g_lineCost (n wide : Int) (hn : -100000000 ≤ n ∧ n ≤ 100000000) (hw : 1 ≤ wide ∧ wide ≤ 100000) (h : Hp) : ACalls Tryz.prog 54 [.v (.int .i64 n), .v (.int .i64 wide)] h (fun r h' => r = .v (.int .i64 (costT n wide)) ∧ h' = h) := by
 have hb := cost_bd hn.1 hw
 unfold costT at hb ⊢
 refine gE Tryz.func54 rfl (by kernel_rfl) 13 rfl fun c => ?_
 (repeat (first | refine gO rfl ?_ | (refine gR fun K1 hK1 => ?_; simp only [go_sem, ↓reduceIte, reduceCtorEq, nA, nB, nC, nD, nE, nF] <;> and_intros <;> first | (apply hK1; clear hK1 K1) | (intros; first | omega | decide | (simp_all <;> omega)) | skip)))
 refine awp_cond (t := _) rfl (fun h1 => ?_) (fun h1 => ?_)
 ·simp only [decide_eq_true_eq] at h1
  (repeat (first | refine gO rfl ?_ | (refine gR fun K1 hK1 => ?_; simp only [go_sem, ↓reduceIte, reduceCtorEq, nA, nB, nC, nD, nE, nF] <;> and_intros <;> first | (apply hK1; clear hK1 K1) | (intros; first | omega | decide | (simp_all <;> omega)) | skip)))
  simp only [Tryz.results54, go_sem, ↓reduceIte, reduceCtorEq, nA, nB, nC, nD, nE, nF]
  exact ⟨_, _, Weak.refl _, Hp.le.refl _, by rw [if_pos h1], rfl⟩
 ·simp only [decide_eq_false_iff_not] at h1
  rw [if_neg h1] at hb ⊢
  (repeat (first | refine gO rfl ?_ | (refine gR fun K1 hK1 => ?_; simp only [go_sem, ↓reduceIte, reduceCtorEq, nA, nB, nC, nD, nE, nF] <;> and_intros <;> first | (apply hK1; clear hK1 K1) | (intros; first | omega | decide | (simp_all <;> omega)) | skip)))
  simp only [Tryz.results54, go_sem, ↓reduceIte, reduceCtorEq, nA, nB, nC, nD, nE, nF]
  exact ⟨_, _, Weak.refl _, Hp.le.refl _, rfl, rfl⟩
theorem cost_sq {n wide : Int} (h0 : 0 ≤ n) (hw : 0 ≤ wide) : 0 ≤ costT n wide ∧ costT n wide ≤ wide * wide := by
  unfold costT
  split
  · exact ⟨Int.le_refl _, Int.mul_nonneg hw hw⟩
  · have h1 : 0 ≤ wide - n := by omega
    have h2 : wide - n ≤ wide := by omega
    exact ⟨Int.mul_nonneg h1 h1, Int.mul_le_mul h2 h2 h1 hw⟩
def WayB (C : Int) (m : Nat) (y : Way) : Prop := (0 ≤ y.1 ∧ y.1 ≤ m) ∧ (0 ≤ y.2.1 ∧ y.2.1 ≤ C * m) ∧ y.2.2 ≤ m
theorem wayX_bd {C wide : Int} {m : Nat} {y : Way} (hC : 0 ≤ C) (hy : WayB C m y) (ws : List Int) {n : Int} (hc : 0 ≤ costT n wide ∧ costT n wide ≤ C) {c : Nat} (h : c ≤ m) : WayB C (m + 1) (wayX wide y ws n c) := by
  obtain ⟨⟨h1, h2⟩, ⟨h3, h4⟩, h5⟩ := hy
  have e : C * ((m + 1 : Nat) : Int) = C * m + C := by rw [Int.natCast_add, Int.mul_add]; simp
  unfold wayX
  refine ⟨⟨by show 0 ≤ y.1 + 1; omega, by show y.1 + 1 ≤ _; omega⟩, ?_, by show c + 1 ≤ _; omega⟩
  rw [e]
  generalize C * (m : Int) = z at *
  show 0 ≤ (if ws.isEmpty then y.2.1 else y.2.1 + costT n wide) ∧ (if ws.isEmpty then y.2.1 else y.2.1 + costT n wide) ≤ _
  split <;> omega
theorem inner_bd {blank wide : Int} (hb : 0 ≤ blank) (hw : 0 ≤ wide) (m : Nat) : ∀ (ws : List Int) (ys : List Way) (n : Int) (c : Nat) (cur : Way), (∀ w ∈ ws, 0 ≤ w) → (∀ y ∈ ys, WayB (wide * wide) m y) → -blank ≤ n → c + ws.length ≤ m + 1 → WayB (wide * wide) (m + 1) cur →
    WayB (wide * wide) (m + 1) (innerT blank wide ws ys n c cur)
  | [], ys, n, c, cur, _, _, _, _, h => by cases ys <;> exact h
  | w :: ws, [], n, c, cur, _, _, _, _, h => h
  | w :: ws, y :: ys, n, c, cur, h1, h2, h3, h4, h => by
    have hw0 := h1 w (by simp)
    have hl : c + (ws.length + 1) ≤ m + 1 := h4
    rw [innerT]
    split
    · exact h
    · refine inner_bd hb hw m ws ys _ (c + 1) _ (fun x hx => h1 x (by simp [hx])) (fun x hx => h2 x (by simp [hx])) (by omega) (by omega) ?_
      split
      · exact wayX_bd (Int.mul_nonneg hw hw) (h2 y (by simp)) ws (cost_sq (by omega) hw) (by omega)
      · exact h
theorem WayB.mono {C : Int} (hC : 0 ≤ C) {m k : Nat} {y : Way} (h : WayB C m y) (hk : m ≤ k) : WayB C k y := by
  obtain ⟨h1, h2, h3⟩ := h
  have : C * (m : Int) ≤ C * k := Int.mul_le_mul_of_nonneg_left (by omega) hC
  exact ⟨by omega, by omega, by omega⟩
theorem ways_bd {blank wide : Int} (hb : 0 ≤ blank) (hw : 0 ≤ wide) : ∀ l : List Int, (∀ w ∈ l, 0 ≤ w) → ∀ y ∈ waysT blank wide l, WayB (wide * wide) l.length y
  | [], _, y, hy => by
    simp only [waysT, List.mem_singleton] at hy
    subst hy
    exact ⟨by simp, by simp, by simp⟩
  | w :: ws, h, y, hy => by
    have ih := ways_bd hb hw ws (fun x hx => h x (by simp [hx]))
    rw [waysT] at hy
    rcases List.mem_cons.1 hy with rfl | hy
    · exact inner_bd hb hw ws.length (w :: ws) _ _ 0 _ h ih (Int.le_refl _) (by simp) ⟨by simp; omega, by simp; exact Int.mul_nonneg (Int.mul_nonneg hw hw) (by omega), by simp⟩
    · exact (ih y hy).mono (Int.mul_nonneg hw hw) (by simp)
def wayAt (blank wide : Int) (l : List Int) (k : Nat) : Way := (waysT blank wide (l.drop k)).getD 0 (0, 0, 0)
theorem wayAt_bd {blank wide : Int} (hb : 0 ≤ blank) (hw : 0 ≤ wide) {l : List Int} (h : ∀ w ∈ l, 0 ≤ w) (k : Nat) : WayB (wide * wide) (l.length - k) (wayAt blank wide l k) := by
  have := ways_bd hb hw (l.drop k) (fun x hx => h x (List.mem_of_mem_drop hx)) (wayAt blank wide l k) (by
    unfold wayAt
    have h1 := waysT_len blank wide (l.drop k)
    rw [List.getD_eq_getElem?_getD, List.getElem?_eq_getElem (by omega), Option.getD_some]
    exact List.getElem_mem _)
  rwa [List.length_drop] at this
theorem ways_getD (blank wide : Int) (l : List Int) (k : Nat) (hk : k ≤ l.length) (d : Way) : (waysT blank wide l).getD k d = wayAt blank wide l k := by
  have h1 := waysT_len blank wide l
  have h2 := waysT_len blank wide (l.drop k)
  unfold wayAt
  rw [← waysT_drop blank wide l k hk] at h2 ⊢
  rw [List.getD_eq_getElem?_getD, List.getD_eq_getElem?_getD, List.getElem?_eq_getElem (by omega), List.getElem?_drop, Nat.add_zero, List.getElem?_eq_getElem (by omega)]; rfl
theorem ways_cons (blank wide : Int) (l : List Int) : ∃ tl, waysT blank wide l = (waysT blank wide l).getD 0 (0, 0, 0) :: tl := by
  cases h : waysT blank wide l with
  | nil => have := waysT_len blank wide l; rw [h] at this; simp at this
  | cons y tl => exact ⟨tl, rfl⟩
def wayN (blank wide : Int) (l : List Int) (k : Nat) (n : Int) (c : Nat) : Way := ((wayAt blank wide l (k + 1)).1 + 1, if k + 1 < l.length then (wayAt blank wide l (k + 1)).2.1 + costT n wide else (wayAt blank wide l (k + 1)).2.1, c + 1)
theorem inner_step (blank wide : Int) (l : List Int) (k : Nat) (w : Int) (hk : l[k]? = some w) (n : Int) (c : Nat) (cur : Way) : innerT blank wide (l.drop k) (waysT blank wide (l.drop (k + 1))) n c cur =
    if 0 < c ∧ wide < n + (blank + w) then cur
    else innerT blank wide (l.drop (k + 1)) (waysT blank wide (l.drop (k + 1 + 1))) (n + (blank + w)) (c + 1) (if c = 0 ∨ wayLe (wayN blank wide l k (n + (blank + w)) c) cur = true then wayN blank wide l k (n + (blank + w)) c else cur) := by
  obtain ⟨hkl, rfl⟩ := List.getElem?_eq_some_iff.1 hk
  have hX : ∀ n', wayX wide (wayAt blank wide l (k + 1)) (l.drop (k + 1)) n' c = wayN blank wide l k n' c := fun n' => by
    unfold wayX wayN
    by_cases e : k + 1 < l.length
    · rw [if_pos e, if_neg (by simp; omega)]
    · rw [if_neg e, if_pos (by simp; omega)]
  obtain ⟨tl, ht⟩ := ways_cons blank wide (l.drop (k + 1))
  have ht2 : innerT blank wide (l.drop (k + 1)) tl = innerT blank wide (l.drop (k + 1)) (waysT blank wide (l.drop (k + 1 + 1))) := by
    by_cases e : k + 1 < l.length
    · rw [List.drop_eq_getElem_cons e, waysT] at ht
      rw [(List.cons.inj ht).2]
    · rw [List.drop_eq_nil_of_le (by omega)]
      funext a b c
      cases tl <;> rfl
  rw [ht, List.drop_eq_getElem_cons hkl, innerT, ht2]
  show (if _ then _ else innerT _ _ _ _ _ _ (if c = 0 ∨ wayLe (wayX wide (wayAt blank wide l (k + 1)) _ _ c) cur = true then wayX wide (wayAt blank wide l (k + 1)) _ _ c else cur)) = _
  rw [hX]
theorem ways_at (blank wide : Int) (l : List Int) (i : Nat) (hi : i < l.length) : waysT blank wide (l.drop i) = innerT blank wide (l.drop i) (waysT blank wide (l.drop (i + 1))) (-blank) 0 (0, 0, 0) :: waysT blank wide (l.drop (i + 1)) := by
  rw [List.drop_eq_getElem_cons hi, waysT]
theorem inner_end (blank wide : Int) (l : List Int) (k : Nat) (hk : l.length ≤ k) (ys : List Way) (n : Int) (c : Nat) (cur : Way) : innerT blank wide (l.drop k) ys n c cur = cur := by
  rw [List.drop_eq_nil_of_le hk]; cases ys <;> rfl
theorem joinT_lib (ws : List (List Tok)) : Lib.join (ws.map List.flatten) [32] = (joinT ws).flatten := by
  induction ws with
  | nil => rfl
  | cons w l ih =>
    cases l with
    | nil => simp [Lib.join, joinT]
    | cons v l =>
      rw [joinT_cons (by simp), List.flatten_append, List.flatten_cons, ← ih]
      simp [Lib.join, blT, List.intercalate]
theorem join_nil (ls : List (List UInt8)) : Lib.join ls [] = ls.flatten := by
  induction ls with
  | nil => rfl
  | cons w l ih =>
    cases l with
    | nil => simp [Lib.join]
    | cons v l =>
      rw [List.flatten_cons, ← ih]
      simp [Lib.join, List.intercalate, List.intersperse]
theorem bare_toks (c : UInt8) (hc : ∀ t ∈ toks, t = [c] ∨ c ∉ t) : ∀ ts : List Tok, (∀ t ∈ ts, t ∈ toks) → ts.flatten.filter (fun x => !decide (x = c)) = (ts.filter fun t => !decide (t = [c])).flatten
  | [], _ => rfl
  | t :: ts, h => by
    have ih := bare_toks c hc ts (fun x hx => h x (by simp [hx]))
    rw [List.flatten_cons, List.filter_append, ih, List.filter_cons]
    rcases hc t (h t (by simp)) with rfl | e
    · simp
    · have hne : t ≠ [c] := fun e2 => e (by simp [e2])
      rw [if_pos (by simpa using hne), List.flatten_cons]
      congr 1
      refine List.filter_eq_self.2 fun x hx => ?_
      simp only [Bool.not_eq_true', decide_eq_false_iff_not]
      rintro rfl
      exact e hx
theorem mem_joinT {x : Tok} : ∀ {ws : List (List Tok)}, x ∈ joinT ws → x = blT ∨ ∃ w ∈ ws, x ∈ w
  | [], h => by simp [joinT] at h
  | [w], h => .inr ⟨w, by simp, h⟩
  | w :: v :: l, h => by
    rw [joinT_cons (by simp)] at h
    rcases List.mem_append.1 h with h | h
    · exact .inr ⟨w, by simp, h⟩
    · rcases List.mem_cons.1 h with h | h
      · exact .inl h
      · rcases mem_joinT h with h | ⟨y, h1, h2⟩
        · exact .inl h
        · exact .inr ⟨y, List.mem_cons_of_mem _ h1, h2⟩
theorem mem_para {g : Nat} {ws : List (List Tok)} {ys : List Way} {l : List Tok} (h : l ∈ paraT g ws ys) : ∀ x ∈ l, x = blT ∨ ∃ w ∈ ws, x ∈ w := by
  induction g generalizing ws ys with
  | zero => simp [paraT] at h
  | succ g ih =>
    rw [paraT] at h
    split at h
    · simp at h
    · intro x hx
      rcases List.mem_cons.1 h with rfl | h
      · rcases mem_joinT hx with e | ⟨w, h1, h2⟩
        · exact .inl e
        · exact .inr ⟨w, List.mem_of_mem_take h1, h2⟩
      · rcases ih h x hx with e | ⟨w, h1, h2⟩
        · exact .inl e
        · exact .inr ⟨w, List.mem_of_mem_drop h1, h2⟩
theorem lines_toks (f : Fo) (wide : Int) {ts : List Tok} (hts : ∀ t ∈ ts, t ∈ toks) : ∀ l ∈ linesT f wide ts, ∀ x ∈ l, x ∈ toks := by
  have hb : blT ∈ toks := by decide
  intro l hl x hx
  unfold linesT at hl
  obtain ⟨p, hp, hl⟩ := List.mem_flatMap.1 hl
  unfold paragraphT at hl
  split at hl
  · simp at hl; subst hl; simp at hx
  · rcases mem_para hl x hx with rfl | ⟨w, h1, h2⟩
    · exact hb
    · exact hts _ (splitT_mem hp x (wordsT_mem h1 x h2).1).1
theorem lines_bare (f : Fo) (wide : Int) {ts : List Tok} (hts : ∀ t ∈ ts, t ∈ toks) :
    ((linesT f wide ts).flatten.flatten.filter fun x => !decide (x = 32)).filter (fun x => !decide (x = 10)) = (ts.flatten.filter fun x => !decide (x = 32)).filter fun x => !decide (x = 10) := by
  obtain ⟨h1, _, h3⟩ := lines_ok f wide ts
  have hlt : ∀ t ∈ (linesT f wide ts).flatten, t ∈ toks := fun t ht => by
    obtain ⟨l, hl, h⟩ := List.mem_flatten.1 ht
    exact lines_toks f wide hts l hl t h
  have e0 := bare_toks 32 sp_ok _ hlt
  have e1 := bare_toks 32 sp_ok ts hts
  have e2 := bare_toks 10 lf_ok (ts.filter fun t => !decide (t = [32])) (fun t ht => hts t (List.mem_filter.1 ht).1)
  have hnl : ∀ t ∈ noBl (linesT f wide ts).flatten, t ∈ toks ∧ t ≠ [10] := fun t ht => by
    obtain ⟨l, hl, h⟩ := List.mem_flatten.1 (List.mem_filter.1 ht).1
    exact ⟨lines_toks f wide hts l hl t h, fun e => h3 l hl (by subst e; exact h)⟩
  have e3 := bare_toks 10 lf_ok (noBl (linesT f wide ts).flatten) (fun t ht => (hnl t ht).1)
  rw [e0, e1, e2]
  show (noBl (linesT f wide ts).flatten).flatten.filter _ = _
  rw [e3, h1, List.filter_filter, List.filter_filter]
  congr 1
  refine List.filter_congr fun x _ => ?_
  show (!decide (x = [10]) && (!decide (x = [10]) && !decide (x = [32]))) = _
  cases decide (x = [10]) <;> cases decide (x = [32]) <;> rfl
theorem blank_mem : ∀ {l : List Tok}, (∀ t ∈ l, t ∈ toks) → (32 : UInt8) ∈ l.flatten → blT ∈ l := by
  intro l hl h
  obtain ⟨t, ht, h⟩ := List.mem_flatten.1 h
  rcases sp_ok t (hl t ht) with rfl | e
  · exact ht
  · exact absurd h e
abbrev zP17E : List Nat := [0, 1, 2, 3, 4, 5, 6, 7, 8, 9, 10, 11, 12, 13, 14, 15, 16, 17]
abbrev zP17P : List (Nat × List Nat × List Nat) := [(19, [], [])]
abbrev zP18E : List Nat := [0, 1, 2, 3]
abbrev zP18P : List (Nat × List Nat × List Nat) := [(4, [1], [5, 6]), (7, [], [])]
abbrev zP19E : List Nat := [0, 1, 2, 3, 4, 5, 6, 7, 9, 10, 11, 12]
abbrev zP19P : List (Nat × List Nat × List Nat) := [(8, [10, 12], []), (13, [], [14]), (15, [], [16, 17])]
attribute [go_sem] zP17E zP17P zP18E zP18P zP19E zP19P
def encY (y : Way) : List AV := [.v (.int .i64 y.1), .v (.int .i64 y.2.1), .v (.int .i64 y.2.2)]
def rowY (blank wide : Int) (L : List Int) (i : Nat) (cur : Way) : List (List AV) := (List.replicate i (0, 0, 0) ++ cur :: waysT blank wide (L.drop (i + 1))).map encY
theorem rowY_len (blank wide : Int) (L : List Int) (i : Nat) (cur : Way) (hi : i < L.length) : (rowY blank wide L i cur).length = L.length + 1 := by
 unfold rowY
 rw [List.length_map, List.length_append, List.length_replicate, List.length_cons, waysT_len, List.length_drop]; omega
theorem rowY_at (blank wide : Int) (L : List Int) (i k : Nat) (cur : Way) (hi : i ≤ k) (hk : k < L.length) : (rowY blank wide L i cur).getD (k + 1) [] = encY (wayAt blank wide L (k + 1)) := by
 have h1 := ways_getD blank wide (L.drop (i + 1)) (k - i) (by rw [List.length_drop]; omega) (0, 0, 0)
 have h2 : wayAt blank wide (L.drop (i + 1)) (k - i) = wayAt blank wide L (k + 1) := by
  unfold wayAt; rw [List.drop_drop, show i + 1 + (k - i) = k + 1 by omega]
 have h3 := waysT_len blank wide (L.drop (i + 1))
 rw [List.length_drop] at h3
 unfold rowY
 rw [← h2, ← h1, List.getD_eq_getElem?_getD, List.getElem?_map, List.getElem?_append_right (by rw [List.length_replicate]; omega), List.length_replicate, show k + 1 - i = (k - i) + 1 by omega, List.getElem?_cons_succ,
  List.getD_eq_getElem?_getD, List.getElem?_eq_getElem (by omega)]
 rfl
theorem rowY_cur (blank wide : Int) (L : List Int) (i : Nat) (cur : Way) : (rowY blank wide L i cur).getD i [] = encY cur := by
 unfold rowY
 rw [List.getD_eq_getElem?_getD, List.getElem?_map, List.getElem?_append_right (by rw [List.length_replicate]; omega), List.length_replicate, Nat.sub_self]
 rfl
theorem rowY_set (blank wide : Int) (L : List Int) (i : Nat) (cur w : Way) : (rowY blank wide L i cur).set i (encY w) = rowY blank wide L i w := by
 unfold rowY
 rw [← List.map_set, List.set_append_right _ _ (by rw [List.length_replicate]; omega), List.length_replicate, Nat.sub_self]
 rfl
theorem rowY_start (blank wide : Int) (L : List Int) (i : Nat) : (List.replicate (i + 1) (0, 0, 0) ++ waysT blank wide (L.drop (i + 1))).map encY = rowY blank wide L i (0, 0, 0) := by
 unfold rowY
 rw [List.replicate_succ', List.append_assoc]; rfl
theorem rowY_end (blank wide : Int) (L : List Int) (i : Nat) (hi : i < L.length) : rowY blank wide L i (innerT blank wide (L.drop i) (waysT blank wide (L.drop (i + 1))) (-blank) 0 (0, 0, 0)) = (List.replicate i (0, 0, 0) ++ waysT blank wide (L.drop i)).map encY := by
 unfold rowY
 rw [← ways_at _ _ _ _ hi]
theorem wayLe_cmp (x y : Way) : wayLe x y = decide ((if cmpI x.1 y.1 = 0 then cmpI x.2.1 y.2.1 else cmpI x.1 y.1) ≤ 0) := by
 unfold wayLe cmpI
 by_cases h1 : x.1 < y.1
 ·simp [h1]
 ·by_cases h2 : y.1 < x.1
  ·have : ¬ x.1 = y.1 := by omega
   simp [h1, h2, this]
  ·have : x.1 = y.1 := by omega
   by_cases h3 : x.2.1 < y.2.1
   ·have : x.2.1 ≤ y.2.1 := by omega
    simp [h1, h2, h3, *]
   ·by_cases h4 : y.2.1 < x.2.1
    ·simp [h1, h2, h3, h4, *]
    ·have : x.2.1 ≤ y.2.1 := by omega
     simp [h1, h2, h3, h4, *]
theorem g_broken (f : Fo) (kk : Option Nat) (ws : List (List Tok)) (blank wide : Int) (hb : 0 ≤ blank ∧ blank ≤ 1000) (hw : 1 ≤ wide ∧ wide ≤ 100000) (hn : ws.length ≤ 20000) (hM : ∀ w ∈ ws.map (sumW f), 0 ≤ w ∧ w ≤ 10000000) (h : Hp) :
  ACalls Tryz.prog 111 [.row 2 (ws.map (encWd f)) kk, .v (.int .i64 blank), .v (.int .i64 wide)] h
   (fun r h' => ∃ k, r = .arr 3 k (ws.length + 1) ∧ h.T k = none ∧ h' = ⟨h.H, upd h.T k (some (.cont 3 ((waysT blank wide (ws.map (sumW f))).map encY)))⟩) := by
 have hll : (ws.map (encWd f)).length = ws.length := List.length_map _
 have hLl : (ws.map (sumW f)).length = ws.length := List.length_map _
 obtain ⟨L, hL⟩ : ∃ L, L = ws.map (sumW f) := ⟨_, rfl⟩
 rw [← hL] at hM hLl ⊢
 have hC : wide * wide ≤ 10000000000 := Int.mul_le_mul hw.2 hw.2 (by omega) (by omega)
 have hC0 : 0 ≤ wide * wide := Int.mul_nonneg (by omega) (by omega)
 have hwb := fun k => wayAt_bd hb.1 (by omega) (fun w hw => (hM w hw).1) (blank := blank) (wide := wide) (l := L) k
 refine gE Tryz.func111 rfl (by kernel_rfl) 104 rfl fun c => ?_
 (repeat (first | refine gO rfl ?_ | ((first | refine gM zM3A ?_ | (with_reducible refine wM ?_ ?_) | ((with_reducible refine xS ?_); refine uF 11 zM3A 18 zP17E zP17P 107 rfl (by kernel_rfl) ?_) | ((with_reducible refine xR ?_); refine uE 13 zM3A zP18E zP18P 107 rfl (by kernel_rfl) ?_) | ((with_reducible refine xS ?_); refine uD 15 zM3A zP19E zP19P 107 rfl (by kernel_rfl) ?_)) <;> ((try with_reducible intro K1 hK1); simp only [go_sem, ↓reduceIte, reduceCtorEq, nA, nB, nC, nD, nE, nF, hll] <;> and_intros <;> first | (apply hK1; clear hK1 K1) | (intros; first | omega | decide) | skip))))
 intro q hq
 and_intros <;> first | (refine hK1 _ ?_; clear hK1 K1) | exact .inl trivial | exact .inr rfl | exact .inr True.intro | exact True.intro | omega
 (repeat (first | refine gO rfl ?_ | ((first | refine gM zM3A ?_ | (with_reducible refine wM ?_ ?_) | ((with_reducible refine xS ?_); refine uF 11 zM3A 18 zP17E zP17P 107 rfl (by kernel_rfl) ?_) | ((with_reducible refine xR ?_); refine uE 13 zM3A zP18E zP18P 107 rfl (by kernel_rfl) ?_) | ((with_reducible refine xS ?_); refine uD 15 zM3A zP19E zP19P 107 rfl (by kernel_rfl) ?_)) <;> ((try with_reducible intro K1 hK1); simp only [go_sem, ↓reduceIte, reduceCtorEq, nA, nB, nC, nD, nE, nF, hll] <;> and_intros <;> first | (apply hK1; clear hK1 K1) | (intros; first | omega | decide) | skip))))
 refine awp_loopC (rl false [0, 3, 4, 2, 98]) 0 (fun g s => ∃ j : Nat, g = j ∧ j ≤ L.length ∧
  s = ⟨((.row 2 (ws.map (encWd f)) kk) :: (.v (.int .i64 blank)) :: (.v (.int .i64 wide)) :: (jnk 4 ((.arr 3 q (ws.length + 1)) :: (.v (.int .i64 ((j : Int) - 1))) :: (jnk 98 [])))), [], ⟨h.H, upd h.T q (some (.cont 3 ((List.replicate j (0, 0, 0) ++ waysT blank wide (L.drop j)).map encY)))⟩⟩) L.length ⟨L.length, rfl, Nat.le_refl _, ?_⟩ ?_
 ·rw [List.drop_length, ← hLl, show (((L.length : Int)) + 1).toNat = L.length + 1 by omega]
  have e1 : (List.replicate L.length ((0, 0, 0) : Way) ++ waysT blank wide []).map encY = List.replicate (L.length + 1) [.v (.int .i64 0), .v (.int .i64 0), .v (.int .i64 0)] := by
   show (List.replicate L.length ((0, 0, 0) : Way) ++ [(0, 0, 0)]).map encY = _
   rw [← List.replicate_succ', List.map_replicate]; rfl
  rw [e1]; rfl
 rintro g _ ⟨j, hgj, hj, rfl⟩
 (repeat (first | refine gO rfl ?_ | ((first | refine gM zM3A ?_ | (with_reducible refine wM ?_ ?_) | ((with_reducible refine xS ?_); refine uF 11 zM3A 18 zP17E zP17P 107 rfl (by kernel_rfl) ?_) | ((with_reducible refine xR ?_); refine uE 13 zM3A zP18E zP18P 107 rfl (by kernel_rfl) ?_) | ((with_reducible refine xS ?_); refine uD 15 zM3A zP19E zP19P 107 rfl (by kernel_rfl) ?_)) <;> ((try with_reducible intro K1 hK1); simp only [go_sem, ↓reduceIte, reduceCtorEq, nA, nB, nC, nD, nE, nF] <;> and_intros <;> first | (apply hK1; clear hK1 K1) | (intros; first | omega | decide) | skip))))
 refine awp_cond (t := _) rfl (fun h5 => ?_) (fun h5 => ?_)
 ·simp only [decide_eq_true_eq] at h5
  obtain ⟨i, rfl⟩ : ∃ i, j = i + 1 := ⟨j - 1, by omega⟩
  have ei : ((i + 1 : Nat) : Int) - 1 = (i : Int) := by omega
  rw [ei, rowY_start]
  have hi : i < L.length := by omega
  obtain ⟨X, hX⟩ : ∃ X, X = innerT blank wide (L.drop i) (waysT blank wide (L.drop (i + 1))) (-blank) 0 (0, 0, 0) := ⟨_, rfl⟩
  have hend := rowY_end blank wide L i hi
  rw [← hX] at hend
  (repeat (first | refine gO rfl ?_ | ((first | refine gM zM3A ?_ | (with_reducible refine wM ?_ ?_) | ((with_reducible refine xS ?_); refine uF 11 zM3A 18 zP17E zP17P 107 rfl (by kernel_rfl) ?_) | ((with_reducible refine xR ?_); refine uE 13 zM3A zP18E zP18P 107 rfl (by kernel_rfl) ?_) | ((with_reducible refine xS ?_); refine uD 15 zM3A zP19E zP19P 107 rfl (by kernel_rfl) ?_)) <;> ((try with_reducible intro K1 hK1); simp only [go_sem, ↓reduceIte, reduceCtorEq, nA, nB, nC, nD, nE, nF] <;> and_intros <;> first | (apply hK1; clear hK1 K1) | (intros; first | omega | decide) | skip))))
  refine awp_loopC (rl false [0, 3, 4, 4, 96]) 0 (fun g s => ∃ (k : Nat) (n : Int) (cur : Way), g + k = L.length ∧ i ≤ k ∧ (k = i → n = -blank) ∧ (-blank ≤ n ∧ n ≤ 10000000) ∧ WayB (wide * wide) (L.length - i) cur ∧
   innerT blank wide (L.drop k) (waysT blank wide (L.drop (k + 1))) n (k - i) cur = X ∧
   s = ⟨((.row 2 (ws.map (encWd f)) kk) :: (.v (.int .i64 blank)) :: (.v (.int .i64 wide)) :: (jnk 4 ((.arr 3 q (ws.length + 1)) :: (.v (.int .i64 i)) :: (.v (.int .i64 n)) :: (.v (.int .i64 k)) :: (jnk 96 [])))), [], ⟨h.H, upd h.T q (some (.cont 3 (rowY blank wide L i cur)))⟩⟩) (L.length - i) ⟨i, -blank, (0, 0, 0), by omega, by omega, (fun _ => rfl), by omega, ⟨⟨Int.le_refl _, Int.natCast_nonneg _⟩, ⟨Int.le_refl _, Int.mul_nonneg hC0 (Int.natCast_nonneg _)⟩, Nat.zero_le _⟩, by rw [Nat.sub_self, hX], rfl⟩ ?_
  rintro g2 _ ⟨k, n, cur, hg2, hik, hk0, hnb, hcur, hinn, rfl⟩
  (repeat (first | refine gO rfl ?_ | ((first | refine gM zM3A ?_ | (with_reducible refine wM ?_ ?_) | ((with_reducible refine xS ?_); refine uF 11 zM3A 18 zP17E zP17P 107 rfl (by kernel_rfl) ?_) | ((with_reducible refine xR ?_); refine uE 13 zM3A zP18E zP18P 107 rfl (by kernel_rfl) ?_) | ((with_reducible refine xS ?_); refine uD 15 zM3A zP19E zP19P 107 rfl (by kernel_rfl) ?_)) <;> ((try with_reducible intro K1 hK1); simp only [go_sem, ↓reduceIte, reduceCtorEq, nA, nB, nC, nD, nE, nF, hll] <;> and_intros <;> first | (apply hK1; clear hK1 K1) | (intros; first | omega | decide) | skip))))
  refine awp_cond (t := _) rfl (fun h6 => ?_) (fun h6 => ?_)
  ·simp only [decide_eq_true_eq] at h6
   have hkL : k < L.length := by omega
   have hkw : k < ws.length := by omega
   obtain ⟨w, hwk⟩ : ∃ w, L[k]? = some w := ⟨_, List.getElem?_eq_getElem hkL⟩
   have hwm := hM w (List.mem_of_getElem? hwk)
   obtain ⟨b, hgx⟩ : ∃ b, (ws.map (encWd f)).getD k [] = [.v (.string b), .v (.int .i64 w)] := by
    refine ⟨bsOf ws[k].flatten, ?_⟩
    rw [hL, List.getElem?_map, List.getElem?_eq_getElem hkw] at hwk
    have := Option.some.inj hwk
    rw [List.getD_eq_getElem?_getD, List.getElem?_map, List.getElem?_eq_getElem hkw, ← this]; rfl
   have hst := inner_step blank wide L k w hwk n (k - i) cur
   rw [hinn] at hst
   have ek1 : k + 1 - i = k - i + 1 := by omega
   have hrl := rowY_len blank wide L i cur hi
   rw [hLl] at hrl
   have hat := rowY_at blank wide L i k cur hik hkL
   have hcu := rowY_cur blank wide L i cur
   have hset := fun w => rowY_set blank wide L i cur w
   have hTq : upd h.T q (some (TO.cont 3 (rowY blank wide L i cur))) q = some (.cont 3 (rowY blank wide L i cur)) := upd_same _ _ _
   have hyb := hwb (k + 1)
   have tk1 : ((k : Int) + 1).toNat = k + 1 := by omega
   (repeat (first | refine gO rfl ?_ | ((first | refine gM zM3A ?_ | (with_reducible refine wM ?_ ?_) | ((with_reducible refine xS ?_); refine uF 11 zM3A 18 zP17E zP17P 107 rfl (by kernel_rfl) ?_) | ((with_reducible refine xR ?_); refine uE 13 zM3A zP18E zP18P 107 rfl (by kernel_rfl) ?_) | ((with_reducible refine xS ?_); refine uD 15 zM3A zP19E zP19P 107 rfl (by kernel_rfl) ?_)) <;> ((try with_reducible intro K1 hK1); simp only [go_sem, ↓reduceIte, reduceCtorEq, nA, nB, nC, nD, nE, nF, hll, Int.toNat_natCast, hgx] <;> and_intros <;> first | (apply hK1; clear hK1 K1) | (intros; first | omega | decide) | skip))))
   refine awp_cond (t := _) rfl (fun h7 => ?_) (fun h7 => ?_)
   ·have h7' : i < k ∧ wide < n + (blank + w) := by
     by_cases e : i < k
     ·simpa [e] using h7
     ·simp [e] at h7
    rw [if_pos ⟨by omega, h7'.2⟩] at hst
    (repeat (first | refine gO rfl ?_ | ((first | refine gM zM3A ?_ | (with_reducible refine wM ?_ ?_) | ((with_reducible refine xS ?_); refine uF 11 zM3A 18 zP17E zP17P 107 rfl (by kernel_rfl) ?_) | ((with_reducible refine xR ?_); refine uE 13 zM3A zP18E zP18P 107 rfl (by kernel_rfl) ?_) | ((with_reducible refine xS ?_); refine uD 15 zM3A zP19E zP19P 107 rfl (by kernel_rfl) ?_)) <;> ((try with_reducible intro K1 hK1); simp only [go_sem, ↓reduceIte, reduceCtorEq, nA, nB, nC, nD, nE, nF] <;> and_intros <;> first | (apply hK1; clear hK1 K1) | (intros; first | omega | decide) | skip))))
    refine ⟨i, by omega, i, rfl, by omega, ?_⟩
    rw [← hend, hst]; rfl
   have h7' : k = i ∨ n + (blank + w) ≤ wide := by
    by_cases e : i < k
    ·right; simpa [e] using h7
    ·left; omega
   rw [if_neg (fun e => by omega)] at hst
   clear h7
   obtain ⟨n', hn'⟩ : ∃ n', n' = n + (blank + w) := ⟨_, rfl⟩
   rw [← hn'] at h7' hst ⊢
   have hnb' : 0 ≤ n' ∧ n' ≤ 10000000 := by
    by_cases e : k = i
    ·have := hk0 e; omega
    ·omega
   obtain ⟨y, hy⟩ : ∃ y, y = wayAt blank wide L (k + 1) := ⟨_, rfl⟩
   rw [← hy] at hat hyb
   have hyl : 0 ≤ y.1 ∧ y.1 ≤ 20000 := by have := hyb.1; omega
   have hys : 0 ≤ y.2.1 ∧ y.2.1 ≤ 200000000000000 := ⟨hyb.2.1.1, Int.le_trans hyb.2.1.2 (Int.mul_le_mul (a := wide * wide) (b := ((L.length - (k + 1) : Nat) : Int)) (c := 10000000000) (d := 20000) hC (by omega) (by omega) (by omega))⟩
   (repeat (first | refine gO rfl ?_ | ((first | refine gM zM3A ?_ | (with_reducible refine wM ?_ ?_) | ((with_reducible refine xS ?_); refine uF 11 zM3A 18 zP17E zP17P 107 rfl (by kernel_rfl) ?_) | ((with_reducible refine xR ?_); refine uE 13 zM3A zP18E zP18P 107 rfl (by kernel_rfl) ?_) | ((with_reducible refine xS ?_); refine uD 15 zM3A zP19E zP19P 107 rfl (by kernel_rfl) ?_)) <;> ((try with_reducible intro K1 hK1); simp only [go_sem, ↓reduceIte, reduceCtorEq, nA, nB, nC, nD, nE, nF, hll, Int.toNat_natCast, hTq, hrl, tk1, hat, encY] <;> and_intros <;> first | (apply hK1; clear hK1 K1) | (intros; first | omega | decide) | skip))))
   have hcb := cost_sq (n := n') (wide := wide) hnb'.1 (by omega)
   have hNt : k + 1 < L.length → encY (wayN blank wide L k n' (k - i)) = [.v (.int .i64 (y.1 + 1)), .v (.int .i64 (y.2.1 + costT n' wide)), .v (.int .i64 ((k : Int) + 1 - i))] := fun e => by
    unfold wayN encY
    rw [← hy, if_pos e, show (((k - i + 1 : Nat) : Int)) = (k : Int) + 1 - i by omega]
   have hNf : ¬ k + 1 < L.length → encY (wayN blank wide L k n' (k - i)) = [.v (.int .i64 (y.1 + 1)), .v (.int .i64 y.2.1), .v (.int .i64 ((k : Int) + 1 - i))] := fun e => by
    unfold wayN encY
    rw [← hy, if_neg e, show (((k - i + 1 : Nat) : Int)) = (k : Int) + 1 - i by omega]
   have hNb : WayB (wide * wide) (L.length - i) (wayN blank wide L k n' (k - i)) := by
    have h1 : WayB (wide * wide) (L.length - (k + 1) + 1) (wayX wide y (L.drop (k + 1)) n' 0) := wayX_bd hC0 hyb _ hcb (by omega)
    have h2 := h1.mono hC0 (k := L.length - i) (by omega)
    unfold wayX at h2
    unfold wayN
    rw [← hy]
    refine ⟨h2.1, ?_, by show k - i + 1 ≤ _; omega⟩
    have h3 := h2.2.1
    by_cases e : k + 1 < L.length
    ·rw [if_pos e]; rw [if_neg (by simp; omega)] at h3; exact h3
    ·rw [if_neg e]; rw [if_pos (by simp; omega)] at h3; exact h3
   generalize wayN blank wide L k n' (k - i) = W1 at *
   refine awp_join (rl false [0, 3, 4, 5, 95]) 1 (fun s => s = ⟨((.row 2 (ws.map (encWd f)) kk) :: (.v (.int .i64 blank)) :: (.v (.int .i64 wide)) :: (jnk 4 ((.arr 3 q (ws.length + 1)) :: (.v (.int .i64 i)) :: (.v (.int .i64 n')) :: (.v (.int .i64 k)) :: (.loc 0 0) :: (jnk 95 [])))), [encY W1], ⟨h.H, upd h.T q (some (.cont 3 (rowY blank wide L i cur)))⟩⟩) ?_ ?_
   ·refine awp_cond (t := _) rfl (fun h8 => ?_) (fun h8 => ?_)
    ·simp only [decide_eq_true_eq] at h8
     (repeat (first | refine gO rfl ?_ | ((first | refine gM zM3A ?_ | (with_reducible refine wM ?_ ?_) | ((with_reducible refine xS ?_); refine uF 11 zM3A 18 zP17E zP17P 107 rfl (by kernel_rfl) ?_) | ((with_reducible refine xR ?_); refine uE 13 zM3A zP18E zP18P 107 rfl (by kernel_rfl) ?_) | ((with_reducible refine xS ?_); refine uD 15 zM3A zP19E zP19P 107 rfl (by kernel_rfl) ?_)) <;> ((try with_reducible intro K1 hK1); simp only [go_sem, ↓reduceIte, reduceCtorEq, nA, nB, nC, nD, nE, nF] <;> and_intros <;> first | (apply hK1; clear hK1 K1) | (intros; first | omega | decide) | skip))))
     refine (g_lineCost n' wide (by omega) hw _).mono ?_; rintro _ hz ⟨rfl, hh⟩; apply hK1; clear hK1 K1; rw [hh]; clear hh hz
     (repeat (first | refine gO rfl ?_ | ((first | refine gM zM3A ?_ | (with_reducible refine wM ?_ ?_) | ((with_reducible refine xS ?_); refine uF 11 zM3A 18 zP17E zP17P 107 rfl (by kernel_rfl) ?_) | ((with_reducible refine xR ?_); refine uE 13 zM3A zP18E zP18P 107 rfl (by kernel_rfl) ?_) | ((with_reducible refine xS ?_); refine uD 15 zM3A zP19E zP19P 107 rfl (by kernel_rfl) ?_)) <;> ((try with_reducible intro K1 hK1); simp only [go_sem, ↓reduceIte, reduceCtorEq, nA, nB, nC, nD, nE, nF] <;> and_intros <;> first | (apply hK1; clear hK1 K1) | (intros; first | omega | decide) | skip))))
     all_goals try with_reducible rfl
     (repeat (first | refine gO rfl ?_ | ((first | refine gM zM3A ?_ | (with_reducible refine wM ?_ ?_) | ((with_reducible refine xS ?_); refine uF 11 zM3A 18 zP17E zP17P 107 rfl (by kernel_rfl) ?_) | ((with_reducible refine xR ?_); refine uE 13 zM3A zP18E zP18P 107 rfl (by kernel_rfl) ?_) | ((with_reducible refine xS ?_); refine uD 15 zM3A zP19E zP19P 107 rfl (by kernel_rfl) ?_)) <;> ((try with_reducible intro K1 hK1); simp only [go_sem, ↓reduceIte, reduceCtorEq, nA, nB, nC, nD, nE, nF] <;> and_intros <;> first | (apply hK1; clear hK1 K1) | (intros; first | omega | decide) | skip))))
     first | rfl | (rw [hNt (by omega)]; rfl)
    ·simp only [decide_eq_false_iff_not] at h8
     (repeat (first | refine gO rfl ?_ | ((first | refine gM zM3A ?_ | (with_reducible refine wM ?_ ?_) | ((with_reducible refine xS ?_); refine uF 11 zM3A 18 zP17E zP17P 107 rfl (by kernel_rfl) ?_) | ((with_reducible refine xR ?_); refine uE 13 zM3A zP18E zP18P 107 rfl (by kernel_rfl) ?_) | ((with_reducible refine xS ?_); refine uD 15 zM3A zP19E zP19P 107 rfl (by kernel_rfl) ?_)) <;> ((try with_reducible intro K1 hK1); simp only [go_sem, ↓reduceIte, reduceCtorEq, nA, nB, nC, nD, nE, nF] <;> and_intros <;> first | (apply hK1; clear hK1 K1) | (intros; first | omega | decide) | skip))))
     first | rfl | (rw [hNf (by omega)]; rfl)
   rintro _ rfl
   clear hNt hNf
   obtain ⟨a1, a2, a3⟩ := W1
   obtain ⟨b1, b2, b3⟩ := cur
   have hx1 : encY (a1, a2, a3) = [.v (.int .i64 a1), .v (.int .i64 a2), .v (.int .i64 a3)] := rfl
   have hx2 : encY (b1, b2, b3) = [.v (.int .i64 b1), .v (.int .i64 b2), .v (.int .i64 b3)] := rfl
   rw [hx2] at hcu
   have hs1 := hset (a1, a2, a3)
   rw [hx1] at hs1 ⊢
   by_cases e : k = i
   ·have hki : ((k : Int) == (i : Int)) = true := by rw [e]; simp
    (repeat (first | refine gO rfl ?_ | ((first | refine gM zM3A ?_ | (with_reducible refine wM ?_ ?_) | ((with_reducible refine xS ?_); refine uF 11 zM3A 18 zP17E zP17P 107 rfl (by kernel_rfl) ?_) | ((with_reducible refine xR ?_); refine uE 13 zM3A zP18E zP18P 107 rfl (by kernel_rfl) ?_) | ((with_reducible refine xS ?_); refine uD 15 zM3A zP19E zP19P 107 rfl (by kernel_rfl) ?_)) <;> ((try with_reducible intro K1 hK1); simp only [go_sem, ↓reduceIte, reduceCtorEq, nA, nB, nC, nD, nE, nF, Int.toNat_natCast, hTq, hrl, hcu, hki] <;> and_intros <;> first | (apply hK1; clear hK1 K1) | (intros; first | omega | decide) | skip))))
    all_goals try with_reducible rfl
    (repeat (first | refine gO rfl ?_ | ((first | refine gM zM3A ?_ | (with_reducible refine wM ?_ ?_) | ((with_reducible refine xS ?_); refine uF 11 zM3A 18 zP17E zP17P 107 rfl (by kernel_rfl) ?_) | ((with_reducible refine xR ?_); refine uE 13 zM3A zP18E zP18P 107 rfl (by kernel_rfl) ?_) | ((with_reducible refine xS ?_); refine uD 15 zM3A zP19E zP19P 107 rfl (by kernel_rfl) ?_)) <;> ((try with_reducible intro K1 hK1); simp only [go_sem, ↓reduceIte, reduceCtorEq, nA, nB, nC, nD, nE, nF, hki] <;> and_intros <;> first | (apply hK1; clear hK1 K1) | (intros; first | omega | decide) | skip))))
    all_goals try with_reducible rfl
    refine ⟨.v (.int .i64 0), rfl, hK1 _ ?_⟩
    clear hK1 K1
    (repeat (first | refine gO rfl ?_ | ((first | refine gM zM3A ?_ | (with_reducible refine wM ?_ ?_) | ((with_reducible refine xS ?_); refine uF 11 zM3A 18 zP17E zP17P 107 rfl (by kernel_rfl) ?_) | ((with_reducible refine xR ?_); refine uE 13 zM3A zP18E zP18P 107 rfl (by kernel_rfl) ?_) | ((with_reducible refine xS ?_); refine uD 15 zM3A zP19E zP19P 107 rfl (by kernel_rfl) ?_)) <;> ((try with_reducible intro K1 hK1); simp only [go_sem, ↓reduceIte, reduceCtorEq, nA, nB, nC, nD, nE, nF, Int.toNat_natCast, hTq, hrl, hcu, hki] <;> and_intros <;> first | (apply hK1; clear hK1 K1) | (intros; first | omega | decide) | skip))))
    all_goals try with_reducible rfl
    (repeat (first | refine gO rfl ?_ | ((first | refine gM zM3A ?_ | (with_reducible refine wM ?_ ?_) | ((with_reducible refine xS ?_); refine uF 11 zM3A 18 zP17E zP17P 107 rfl (by kernel_rfl) ?_) | ((with_reducible refine xR ?_); refine uE 13 zM3A zP18E zP18P 107 rfl (by kernel_rfl) ?_) | ((with_reducible refine xS ?_); refine uD 15 zM3A zP19E zP19P 107 rfl (by kernel_rfl) ?_)) <;> ((try with_reducible intro K1 hK1); simp only [go_sem, ↓reduceIte, reduceCtorEq, nA, nB, nC, nD, nE, nF, hki] <;> and_intros <;> first | (apply hK1; clear hK1 K1) | (intros; first | omega | decide) | skip))))
    all_goals try with_reducible rfl
    refine ⟨.v (.int .i64 0), rfl, hK1 _ ?_⟩
    clear hK1 K1
    (repeat (first | refine gO rfl ?_ | ((first | refine gM zM3A ?_ | (with_reducible refine wM ?_ ?_) | ((with_reducible refine xS ?_); refine uF 11 zM3A 18 zP17E zP17P 107 rfl (by kernel_rfl) ?_) | ((with_reducible refine xR ?_); refine uE 13 zM3A zP18E zP18P 107 rfl (by kernel_rfl) ?_) | ((with_reducible refine xS ?_); refine uD 15 zM3A zP19E zP19P 107 rfl (by kernel_rfl) ?_)) <;> ((try with_reducible intro K1 hK1); simp only [go_sem, ↓reduceIte, reduceCtorEq, nA, nB, nC, nD, nE, nF, Int.toNat_natCast, hTq, hrl, hcu, hki] <;> and_intros <;> first | (apply hK1; clear hK1 K1) | (intros; first | omega | decide) | skip))))
    all_goals try with_reducible rfl
    (repeat (first | refine gO rfl ?_ | ((first | refine gM zM3A ?_ | (with_reducible refine wM ?_ ?_) | ((with_reducible refine xS ?_); refine uF 11 zM3A 18 zP17E zP17P 107 rfl (by kernel_rfl) ?_) | ((with_reducible refine xR ?_); refine uE 13 zM3A zP18E zP18P 107 rfl (by kernel_rfl) ?_) | ((with_reducible refine xS ?_); refine uD 15 zM3A zP19E zP19P 107 rfl (by kernel_rfl) ?_)) <;> ((try with_reducible intro K1 hK1); simp only [go_sem, ↓reduceIte, reduceCtorEq, nA, nB, nC, nD, nE, nF, hki] <;> and_intros <;> first | (apply hK1; clear hK1 K1) | (intros; first | omega | decide) | skip))))
    all_goals try with_reducible rfl
    refine awp_cond (t := _) rfl (fun _ => ?_) (fun h9 => by simp at h9)
    (repeat (first | refine gO rfl ?_ | ((first | refine gM zM3A ?_ | (with_reducible refine wM ?_ ?_) | ((with_reducible refine xS ?_); refine uF 11 zM3A 18 zP17E zP17P 107 rfl (by kernel_rfl) ?_) | ((with_reducible refine xR ?_); refine uE 13 zM3A zP18E zP18P 107 rfl (by kernel_rfl) ?_) | ((with_reducible refine xS ?_); refine uD 15 zM3A zP19E zP19P 107 rfl (by kernel_rfl) ?_)) <;> ((try with_reducible intro K1 hK1); simp only [go_sem, ↓reduceIte, reduceCtorEq, nA, nB, nC, nD, nE, nF, Int.toNat_natCast, hTq, hrl] <;> and_intros <;> first | (apply hK1; clear hK1 K1) | (intros; first | omega | decide) | skip))))
    rw [if_pos (.inl (by omega)), ← ek1] at hst
    refine ⟨g2 - 1, by omega, k + 1, n', (a1, a2, a3), by omega, by omega, (fun e => by omega), by omega, hNb, hst.symm, ?_⟩
    rw [← hs1]
    show St.cut _ _ ⟨_, _, ⟨_, upd _ _ (some (.cont 3 (List.set _ _ (_ :: _ :: _ :: List.drop 3 (List.getD _ _ _)))))⟩⟩ = _
    rw [hcu]; rfl
   ·have hki : ((k : Int) == (i : Int)) = false := by simp; omega
    (repeat (first | refine gO rfl ?_ | ((first | refine gM zM3A ?_ | (with_reducible refine wM ?_ ?_) | ((with_reducible refine xS ?_); refine uF 11 zM3A 18 zP17E zP17P 107 rfl (by kernel_rfl) ?_) | ((with_reducible refine xR ?_); refine uE 13 zM3A zP18E zP18P 107 rfl (by kernel_rfl) ?_) | ((with_reducible refine xS ?_); refine uD 15 zM3A zP19E zP19P 107 rfl (by kernel_rfl) ?_)) <;> ((try with_reducible intro K1 hK1); simp only [go_sem, ↓reduceIte, reduceCtorEq, nA, nB, nC, nD, nE, nF, Int.toNat_natCast, hTq, hrl, hcu, hki] <;> and_intros <;> first | (apply hK1; clear hK1 K1) | (intros; first | omega | decide) | skip))))
    all_goals try with_reducible rfl
    (repeat (first | refine gO rfl ?_ | ((first | refine gM zM3A ?_ | (with_reducible refine wM ?_ ?_) | ((with_reducible refine xS ?_); refine uF 11 zM3A 18 zP17E zP17P 107 rfl (by kernel_rfl) ?_) | ((with_reducible refine xR ?_); refine uE 13 zM3A zP18E zP18P 107 rfl (by kernel_rfl) ?_) | ((with_reducible refine xS ?_); refine uD 15 zM3A zP19E zP19P 107 rfl (by kernel_rfl) ?_)) <;> ((try with_reducible intro K1 hK1); simp only [go_sem, ↓reduceIte, reduceCtorEq, nA, nB, nC, nD, nE, nF, hki] <;> and_intros <;> first | (apply hK1; clear hK1 K1) | (intros; first | omega | decide) | skip))))
    all_goals try with_reducible rfl
    rotate_left
    ·exact fun h => h.elim
    refine (g_cmpI a1 b1 _).mono ?_
    rintro _ _ ⟨rfl, rfl⟩
    refine ⟨rfl, hK1 _ ?_⟩
    clear hK1 K1
    (repeat (first | refine gO rfl ?_ | ((first | refine gM zM3A ?_ | (with_reducible refine wM ?_ ?_) | ((with_reducible refine xS ?_); refine uF 11 zM3A 18 zP17E zP17P 107 rfl (by kernel_rfl) ?_) | ((with_reducible refine xR ?_); refine uE 13 zM3A zP18E zP18P 107 rfl (by kernel_rfl) ?_) | ((with_reducible refine xS ?_); refine uD 15 zM3A zP19E zP19P 107 rfl (by kernel_rfl) ?_)) <;> ((try with_reducible intro K1 hK1); simp only [go_sem, ↓reduceIte, reduceCtorEq, nA, nB, nC, nD, nE, nF, Int.toNat_natCast, hTq, hrl, hcu, hki] <;> and_intros <;> first | (apply hK1; clear hK1 K1) | (intros; first | omega | decide) | skip))))
    all_goals try with_reducible rfl
    (repeat (first | refine gO rfl ?_ | ((first | refine gM zM3A ?_ | (with_reducible refine wM ?_ ?_) | ((with_reducible refine xS ?_); refine uF 11 zM3A 18 zP17E zP17P 107 rfl (by kernel_rfl) ?_) | ((with_reducible refine xR ?_); refine uE 13 zM3A zP18E zP18P 107 rfl (by kernel_rfl) ?_) | ((with_reducible refine xS ?_); refine uD 15 zM3A zP19E zP19P 107 rfl (by kernel_rfl) ?_)) <;> ((try with_reducible intro K1 hK1); simp only [go_sem, ↓reduceIte, reduceCtorEq, nA, nB, nC, nD, nE, nF, hki] <;> and_intros <;> first | (apply hK1; clear hK1 K1) | (intros; first | omega | decide) | skip))))
    all_goals try with_reducible rfl
    rotate_left
    ·exact fun h => h.elim
    refine (g_cmpI a2 b2 _).mono ?_
    rintro _ _ ⟨rfl, rfl⟩
    refine ⟨rfl, hK1 _ ?_⟩
    clear hK1 K1
    (repeat (first | refine gO rfl ?_ | ((first | refine gM zM3A ?_ | (with_reducible refine wM ?_ ?_) | ((with_reducible refine xS ?_); refine uF 11 zM3A 18 zP17E zP17P 107 rfl (by kernel_rfl) ?_) | ((with_reducible refine xR ?_); refine uE 13 zM3A zP18E zP18P 107 rfl (by kernel_rfl) ?_) | ((with_reducible refine xS ?_); refine uD 15 zM3A zP19E zP19P 107 rfl (by kernel_rfl) ?_)) <;> ((try with_reducible intro K1 hK1); simp only [go_sem, ↓reduceIte, reduceCtorEq, nA, nB, nC, nD, nE, nF, Int.toNat_natCast, hTq, hrl, hcu, hki] <;> and_intros <;> first | (apply hK1; clear hK1 K1) | (intros; first | omega | decide) | skip))))
    all_goals try with_reducible rfl
    (repeat (first | refine gO rfl ?_ | ((first | refine gM zM3A ?_ | (with_reducible refine wM ?_ ?_) | ((with_reducible refine xS ?_); refine uF 11 zM3A 18 zP17E zP17P 107 rfl (by kernel_rfl) ?_) | ((with_reducible refine xR ?_); refine uE 13 zM3A zP18E zP18P 107 rfl (by kernel_rfl) ?_) | ((with_reducible refine xS ?_); refine uD 15 zM3A zP19E zP19P 107 rfl (by kernel_rfl) ?_)) <;> ((try with_reducible intro K1 hK1); simp only [go_sem, ↓reduceIte, reduceCtorEq, nA, nB, nC, nD, nE, nF, hki] <;> and_intros <;> first | (apply hK1; clear hK1 K1) | (intros; first | omega | decide) | skip))))
    all_goals try with_reducible rfl
    refine ⟨.row 1 [[.v (.int .i64 (cmpI a1 b1))], [.v (.int .i64 (cmpI a2 b2))]] none, ?_, rfl, ?_⟩
    ·unfold qE
     simp only [go_sem, ↓reduceIte, reduceCtorEq, Nat.reduceAdd, Nat.reduceSub, Nat.reduceMul, Nat.reduceLT, Nat.reduceLeDiff, Nat.reduceEqDiff, hki]
     rfl
    refine hK1 _ ?_
    clear hK1 K1
    (repeat (first | refine gO rfl ?_ | ((first | refine gM zM3A ?_ | (with_reducible refine wM ?_ ?_) | ((with_reducible refine xS ?_); refine uF 11 zM3A 18 zP17E zP17P 107 rfl (by kernel_rfl) ?_) | ((with_reducible refine xR ?_); refine uE 13 zM3A zP18E zP18P 107 rfl (by kernel_rfl) ?_) | ((with_reducible refine xS ?_); refine uD 15 zM3A zP19E zP19P 107 rfl (by kernel_rfl) ?_)) <;> ((try with_reducible intro K1 hK1); simp only [go_sem, ↓reduceIte, reduceCtorEq, nA, nB, nC, nD, nE, nF, hki] <;> and_intros <;> first | (apply hK1; clear hK1 K1) | (intros; first | omega | decide) | skip))))
    rotate_left
    ·exact fun h => h.elim
    refine (g_or2 _ _ _).mono ?_
    rintro _ _ ⟨rfl, rfl⟩
    refine ⟨rfl, hK1 _ ?_⟩
    clear hK1 K1
    (repeat (first | refine gO rfl ?_ | ((first | refine gM zM3A ?_ | (with_reducible refine wM ?_ ?_) | ((with_reducible refine xS ?_); refine uF 11 zM3A 18 zP17E zP17P 107 rfl (by kernel_rfl) ?_) | ((with_reducible refine xR ?_); refine uE 13 zM3A zP18E zP18P 107 rfl (by kernel_rfl) ?_) | ((with_reducible refine xS ?_); refine uD 15 zM3A zP19E zP19P 107 rfl (by kernel_rfl) ?_)) <;> ((try with_reducible intro K1 hK1); simp only [go_sem, ↓reduceIte, reduceCtorEq, nA, nB, nC, nD, nE, nF, Int.toNat_natCast, hTq, hrl, hcu, hki] <;> and_intros <;> first | (apply hK1; clear hK1 K1) | (intros; first | omega | decide) | skip))))
    all_goals try with_reducible rfl
    (repeat (first | refine gO rfl ?_ | ((first | refine gM zM3A ?_ | (with_reducible refine wM ?_ ?_) | ((with_reducible refine xS ?_); refine uF 11 zM3A 18 zP17E zP17P 107 rfl (by kernel_rfl) ?_) | ((with_reducible refine xR ?_); refine uE 13 zM3A zP18E zP18P 107 rfl (by kernel_rfl) ?_) | ((with_reducible refine xS ?_); refine uD 15 zM3A zP19E zP19P 107 rfl (by kernel_rfl) ?_)) <;> ((try with_reducible intro K1 hK1); simp only [go_sem, ↓reduceIte, reduceCtorEq, nA, nB, nC, nD, nE, nF, hki] <;> and_intros <;> first | (apply hK1; clear hK1 K1) | (intros; first | omega | decide) | skip))))
    all_goals try with_reducible rfl
    have hle := wayLe_cmp (a1, a2, a3) (b1, b2, b3)
    refine awp_cond (t := _) rfl (fun h9 => ?_) (fun h9 => ?_)
    ·have h9' : wayLe (a1, a2, a3) (b1, b2, b3) = true := by rw [hle]; exact h9
     (repeat (first | refine gO rfl ?_ | ((first | refine gM zM3A ?_ | (with_reducible refine wM ?_ ?_) | ((with_reducible refine xS ?_); refine uF 11 zM3A 18 zP17E zP17P 107 rfl (by kernel_rfl) ?_) | ((with_reducible refine xR ?_); refine uE 13 zM3A zP18E zP18P 107 rfl (by kernel_rfl) ?_) | ((with_reducible refine xS ?_); refine uD 15 zM3A zP19E zP19P 107 rfl (by kernel_rfl) ?_)) <;> ((try with_reducible intro K1 hK1); simp only [go_sem, ↓reduceIte, reduceCtorEq, nA, nB, nC, nD, nE, nF, Int.toNat_natCast, hTq, hrl] <;> and_intros <;> first | (apply hK1; clear hK1 K1) | (intros; first | omega | decide) | skip))))
     rw [if_pos (.inr h9'), ← ek1] at hst
     refine ⟨g2 - 1, by omega, k + 1, n', (a1, a2, a3), by omega, by omega, (fun e => by omega), by omega, hNb, hst.symm, ?_⟩
     rw [← hs1]
     show St.cut _ _ ⟨_, _, ⟨_, upd _ _ (some (.cont 3 (List.set _ _ (_ :: _ :: _ :: List.drop 3 (List.getD _ _ _)))))⟩⟩ = _
     rw [hcu]; rfl
    ·have h9' : wayLe (a1, a2, a3) (b1, b2, b3) = false := by rw [hle]; exact h9
     (repeat (first | refine gO rfl ?_ | ((first | refine gM zM3A ?_ | (with_reducible refine wM ?_ ?_) | ((with_reducible refine xS ?_); refine uF 11 zM3A 18 zP17E zP17P 107 rfl (by kernel_rfl) ?_) | ((with_reducible refine xR ?_); refine uE 13 zM3A zP18E zP18P 107 rfl (by kernel_rfl) ?_) | ((with_reducible refine xS ?_); refine uD 15 zM3A zP19E zP19P 107 rfl (by kernel_rfl) ?_)) <;> ((try with_reducible intro K1 hK1); simp only [go_sem, ↓reduceIte, reduceCtorEq, nA, nB, nC, nD, nE, nF] <;> and_intros <;> first | (apply hK1; clear hK1 K1) | (intros; first | omega | decide) | skip))))
     rw [if_neg (by rw [h9']; simp; omega), ← ek1] at hst
     exact ⟨g2 - 1, by omega, k + 1, n', (b1, b2, b3), by omega, by omega, (fun e => by omega), by omega, hcur, hst.symm, rfl⟩
  ·simp only [decide_eq_false_iff_not] at h6
   rw [inner_end _ _ _ _ (by omega)] at hinn
   (repeat (first | refine gO rfl ?_ | ((first | refine gM zM3A ?_ | (with_reducible refine wM ?_ ?_) | ((with_reducible refine xS ?_); refine uF 11 zM3A 18 zP17E zP17P 107 rfl (by kernel_rfl) ?_) | ((with_reducible refine xR ?_); refine uE 13 zM3A zP18E zP18P 107 rfl (by kernel_rfl) ?_) | ((with_reducible refine xS ?_); refine uD 15 zM3A zP19E zP19P 107 rfl (by kernel_rfl) ?_)) <;> ((try with_reducible intro K1 hK1); simp only [go_sem, ↓reduceIte, reduceCtorEq, nA, nB, nC, nD, nE, nF] <;> and_intros <;> first | (apply hK1; clear hK1 K1) | (intros; first | omega | decide) | skip))))
   refine ⟨i, by omega, i, rfl, by omega, ?_⟩
   rw [← hend, ← hinn]; rfl
 ·simp only [decide_eq_false_iff_not] at h5
  have hj0 : j = 0 := by omega
  subst hj0
  (repeat (first | refine gO rfl ?_ | ((first | refine gM zM3A ?_ | (with_reducible refine wM ?_ ?_) | ((with_reducible refine xS ?_); refine uF 11 zM3A 18 zP17E zP17P 107 rfl (by kernel_rfl) ?_) | ((with_reducible refine xR ?_); refine uE 13 zM3A zP18E zP18P 107 rfl (by kernel_rfl) ?_) | ((with_reducible refine xS ?_); refine uD 15 zM3A zP19E zP19P 107 rfl (by kernel_rfl) ?_)) <;> ((try with_reducible intro K1 hK1); simp only [go_sem, ↓reduceIte, reduceCtorEq, nA, nB, nC, nD, nE, nF] <;> and_intros <;> first | (apply hK1; clear hK1 K1) | (intros; first | omega | decide) | skip))))
  simp only [Tryz.results111, go_sem, ↓reduceIte, reduceCtorEq, nA, nB, nC, nD, nE, nF]
  exact ⟨_, _, Weak.refl _, Hp.le.refl _, q, rfl, hq, rfl⟩
def noB (c : UInt8) (l : List UInt8) : List UInt8 := l.filter fun x => !decide (x = c)
theorem noB_none (c : UInt8) (l : List UInt8) (h : l.count c = 0) : noB c l = l := by
 refine List.filter_eq_self.2 fun x hx => ?_
 simp only [Bool.not_eq_true', decide_eq_false_iff_not]
 rintro rfl
 exact absurd hx (List.count_eq_zero.1 h)
theorem index_hit (c : UInt8) : ∀ l : List UInt8, 0 < l.count c → ∃ j : Nat, Lib.indexByte l c = (j : Int) ∧ j < l.length ∧ l.count c = (l.drop (j + 1)).count c + 1 ∧ noB c l = l.take j ++ noB c (l.drop (j + 1))
 | [], h => by simp at h
 | x :: l, h => by
  by_cases e : x = c
  ·subst e
   exact ⟨0, by rw [Lib.indexByte, if_pos (by simp)]; rfl, by simp, by simp, by simp [noB]⟩
  ·have hc : (x :: l).count c = l.count c := by rw [List.count_cons_of_ne e]
   obtain ⟨j, h1, h2, h3, h4⟩ := index_hit c l (by omega)
   refine ⟨j + 1, ?_, by simp only [List.length_cons]; omega, by rw [hc]; simpa using h3, ?_⟩
   ·rw [Lib.indexByte, if_neg (by simpa using e), h1, if_neg (by simp)]; rfl
   ·unfold noB at h4 ⊢
    rw [List.filter_cons_of_pos (by simpa using e), h4]
    simp
open Go.RowKit in
theorem replace1 (s : ByteArray) (c : UInt8) (w : World) (hs : s.size ≤ 1000000) :
  Calls Tryz.prog 67 #[.string s, .string ⟨#[c]⟩, .string ⟨#[]⟩, .int .i64 (-1)] w fun e w' => e = .returned (.string ⟨(noB c s.data.toList).toArray⟩) ∧ Below w.heap.size w w' := by
 have hC := Tryz.strings_Count_one s c w
 obtain ⟨cn, hcn⟩ : ∃ cn : Nat, cn = s.data.toList.count c := ⟨_, rfl⟩
 rw [show Lib.countByte s.data.toList c = cn from hcn.symm] at hC
 have hlen : s.data.toList.length = s.size := rfl
 have hcl : cn ≤ s.size := by rw [hcn, ← hlen]; exact List.count_le_length
 have HC := Lib.hid hcn
 have hbeq : ((⟨#[c]⟩ : ByteArray).toList == (⟨#[]⟩ : ByteArray).toList) = false := (Lib.bytes_beq_false_iff _ _).2 (fun e => by have := congrArg ByteArray.size e; simp [ByteArray.size] at this)
 clear hcn
 go_enter Tryz.func67, Tryz.ntmps67
 go_wp2_with fail
 refine hC.mono ?_
 rintro e w' ⟨rfl, hw⟩
 rw [hw]
 clear hw hC w'
 by_cases h0 : cn = 0
 ·have HZ := Lib.hid (noB_none c s.data.toList (by rw [← HC.out]; exact h0))
  have hcz : ((cn : Int) == 0) = true := by simp; omega
  clear HC
  go_wp2_with fail
  go_ret
  exact ⟨by rw [HZ.out]; rfl, Below.refl _ _⟩
 have hcz : ((cn : Int) == 0) = false := by simp; omega
 go_wp2_with fail
 have hga : (s.size : Int) + -(cn : Int) = ((s.size - cn : Nat) : Int) := by omega
 rw [hga]
 refine (Tryz.Builder_Grow_fresh w.heap.size w.heap.size _ _ (Nat.le_refl _) (heap_alloc_new w _) (by simp) (by omega)).mono ?_
 rintro e w1 ⟨rfl, hb0, hb1⟩
 have H1 := Lib.hid (Or.inr hb0 : Lib.IsBuilder 74 5 w.heap.size w.heap.size (Lib.byteCells []) w1)
 have Hb1 := Lib.hid (((Below.refl w.heap.size w).alloc (Nat.le_refl _) _).trans hb1)
 clear hb0 hb1 hga
 go_wp2_with fail
 go_loopg [11, 53] cn (fun g s11 s53 wx => ∃ (i start : Nat) (acc : List UInt8), s53 = .int .i64 i ∧ s11 = .int .i64 start ∧ i + g = cn ∧ start ≤ s.size ∧ acc.length ≤ start ∧ g = (s.data.toList.drop start).count c ∧
   Hid (Lib.IsBuilder 74 5 w.heap.size w.heap.size (Lib.byteCells acc) wx) ∧ Hid (Below w.heap.size w wx) ∧ Hid (acc ++ noB c (s.data.toList.drop start) = noB c s.data.toList))
 case atStart => exact ⟨0, 0, [], rfl, rfl, by omega, Nat.zero_le _, by simp, HC.out, H1, Hb1, Lib.hid rfl⟩
 case round =>
  obtain ⟨i, start, acc, rfl, rfl, hig, hst, hal, hgc, HB, HW, HR⟩ := hrel
  have HG := Lib.hid hgc
  clear hgc
  have hBw : w.heap.size ≤ wr.heap.size := HW.out.size
  have c1 : (0 : Int) ≤ (start : Int) := by omega
  have c2 : (start : Int) ≤ (s.size : Int) := by omega
  cases gk with
  | zero =>
   have hiK : ¬ ((i : Int) < (cn : Int)) := by omega
   have HN := Lib.hid (noB_none c (s.data.toList.drop start) HG.out.symm)
   go_wp2_with fail
   refine (writeString_any w.heap.size w.heap.size _ _ wr HB.out (by rw [Lib.byteCells_length, ByteArray.size_extract]; omega) hBw).mono ?_
   rintro e w3 ⟨rfl, h3, hb3⟩
   rw [Lib.strCells_eq, Lib.extract_to_end, ← Lib.byteCells_append] at h3
   have hfin : acc ++ s.data.toList.drop start = noB c s.data.toList := by rw [← HR.out, HN.out]
   rw [hfin] at h3
   have H3 := Lib.hid h3
   have Hb3 := Lib.hid (HW.out.trans hb3)
   have hBw3 : w.heap.size ≤ w3.heap.size := Hb3.out.size
   clear h3 hb3 hfin HG HN HR HC
   go_wp2_with fail
   refine (Tryz.Builder_String_any w.heap.size w.heap.size _ w3 H3.out hBw3).mono ?_
   rintro e w5 ⟨rfl, hb5⟩
   have Hb5 := Lib.hid (Hb3.out.trans hb5)
   clear hb5
   go_wp2_with fail
   go_ret
   exact ⟨rfl, Hb5.out⟩
  | succ g =>
   have hiK : (i : Int) < (cn : Int) := by omega
   obtain ⟨j, hj, hjl, hjc, hjf⟩ := index_hit c (s.data.toList.drop start) (by rw [← HG.out]; omega)
   rw [List.length_drop, hlen] at hjl
   have c3 : (start : Int) ≤ (start : Int) + (j : Int) := by omega
   have c4 : (start : Int) + (j : Int) ≤ (s.size : Int) := by omega
   have HJ := Lib.hid hj
   have HR2 := Lib.hid (show (acc ++ (s.data.toList.drop start).take j) ++ noB c (s.data.toList.drop (start + j + 1)) = noB c s.data.toList by
    rw [← HR.out, hjf, List.drop_drop, List.append_assoc]; rfl)
   have HG2 := Lib.hid (show g = (s.data.toList.drop (start + j + 1)).count c by
    rw [List.drop_drop] at hjc
    have := HG.out
    rw [show start + j + 1 = start + (j + 1) by omega]
    omega)
   have HT := Lib.hid (show ((s.data.toList.drop start).take j).length = j by rw [List.length_take, List.length_drop, hlen]; omega)
   have HN := Lib.hid (show Lib.byteCells acc ++ Lib.strCells (s.extract start (start + j)) = Lib.byteCells (acc ++ (s.data.toList.drop start).take j) by
    rw [Lib.strCells_eq, Lib.extract_data, Nat.add_sub_cancel_left, ← Lib.byteCells_append])
   clear hj hjc hjf HG HR
   go_wp2_with fail
   refine (Tryz.strings_Index_one _ c _).mono ?_
   rintro e w' ⟨rfl, hw⟩
   rw [hw, Lib.extract_to_end, HJ.out]
   clear hw w' HJ
   go_wp2_with fail
   refine (writeString_any w.heap.size w.heap.size _ (s.extract start (start + j)) wr HB.out (by rw [Lib.byteCells_length, ByteArray.size_extract]; omega) hBw).mono ?_
   rintro e w3 ⟨rfl, h3, hb3⟩
   rw [HN.out] at h3
   have hBw3 : w.heap.size ≤ w3.heap.size := Nat.le_trans hBw hb3.size
   have H3 := Lib.hid h3
   have Hb3 := Lib.hid hb3
   clear h3 hb3 HN
   go_wp2_with fail
   refine (writeString_any w.heap.size w.heap.size _ ⟨#[]⟩ w3 H3.out (by rw [Lib.byteCells_length, List.length_append, HT.out]; show _ + 0 ≤ _; omega) hBw3).mono ?_
   rintro e w4 ⟨rfl, h4, hb4⟩
   rw [show ∀ x, Lib.byteCells x ++ Lib.strCells ⟨#[]⟩ = Lib.byteCells x from fun x => by rw [Lib.strCells_eq]; simp [Lib.byteCells]] at h4
   have H4 := Lib.hid h4
   have Hb4 := Lib.hid ((HW.out.trans Hb3.out).trans hb4)
   clear h4 hb4
   go_wp2_with fail
   go_roundg g
   case measure => omega
   case rel => exact ⟨i + 1, start + j + 1, _, by first | rfl | (simp; unfold wrap64; omega), by first | rfl | simp | (simp; unfold wrap64; omega), by omega, by omega, by rw [List.length_append, HT.out]; omega, HG2.out, H4, Hb4, HR2⟩
theorem g_replace1 (l : List UInt8) (c : UInt8) (h : Hp) (hl : l.length ≤ 1000000) : ACalls Tryz.prog 67 [.v (.string (bsOf l)), .v (.string ⟨#[c]⟩), .v (.string ⟨#[]⟩), .v (.int .i64 (-1))] h (fun r h' => r = .v (.string (bsOf (noB c l))) ∧ h' = h) :=
 acalls_pure (by kernel_rfl) [.string (bsOf l), .string ⟨#[c]⟩, .string ⟨#[]⟩, .int .i64 (-1)] rfl (fun w => replace1 (bsOf l) c w (by rw [size_bs]; exact hl)) h
theorem g_replAll (l : List UInt8) (cb : UInt8) (h : Hp) (hl : l.length ≤ 1000000) : ACalls Tryz.prog 33 [.v (.string (bsOf l)), .v (.string ⟨#[cb]⟩), .v (.string ⟨#[]⟩)] h (fun r h' => r = .v (.string (bsOf (noB cb l))) ∧ h' = h) := by
 refine gE Tryz.func33 rfl (by kernel_rfl) 8 rfl fun c => ?_
 (repeat (first | refine gO rfl ?_ | (refine gR fun K1 hK1 => ?_; simp only [go_sem, ↓reduceIte, reduceCtorEq, nA, nB, nC, nD, nE, nF] <;> and_intros <;> first | (apply hK1; clear hK1 K1) | (intros; first | omega | decide | (simp_all <;> omega)) | skip)))
 refine (g_replace1 l cb _ hl).mono ?_; rintro _ hz ⟨rfl, hh⟩; apply hK1; clear hK1 K1; rw [hh]; clear hh hz
 (repeat (first | refine gO rfl ?_ | (refine gR fun K1 hK1 => ?_; simp only [go_sem, ↓reduceIte, reduceCtorEq, nA, nB, nC, nD, nE, nF] <;> and_intros <;> first | (apply hK1; clear hK1 K1) | (intros; first | omega | decide) | skip)))
 simp only [Tryz.results33, go_sem, ↓reduceIte, reduceCtorEq, nA, nB, nC, nD, nE, nF]
 exact ⟨_, _, Weak.refl _, Hp.le.refl _, rfl, rfl⟩
theorem a_contains (l : List UInt8) (c : UInt8) (h : Hp) : ACalls Tryz.prog 35 [.v (.string (bsOf l)), .v (.string ⟨#[c]⟩)] h (fun r h' => r = .v (.bool (decide (0 ≤ Lib.indexByte l c))) ∧ h' = h) :=
 acalls_pure (by kernel_rfl) [.string (bsOf l), .string ⟨#[c]⟩] rfl (fun w => (Tryz.strings_Contains_one (bsOf l) c w).mono fun e w' ⟨h1, h2⟩ => ⟨h1, by subst h2; exact bel_id _⟩) h
theorem index_mem {c : UInt8} {l : List UInt8} (h : 0 ≤ Lib.indexByte l c) : c ∈ l := by
 obtain ⟨h2, h3⟩ := splitB_some c (l := l) (i := (Lib.indexByte l c).toNat) (by omega)
 have h4 := splitB_len c l
 have h5 : 0 < (splitB c (l.drop ((Lib.indexByte l c).toNat + 1))).length := List.length_pos_iff.2 (splitB_ne c _)
 rw [h3, List.length_cons] at h4
 have h6 : 0 < l.count c := by show 0 < Lib.countByte l c; omega
 exact List.count_pos_iff.1 h6
theorem flat_strs (l : List ByteArray) : (l.map encS).flatten = l.map fun x => AV.v (.string x) := by
 induction l with
 | nil => rfl
 | cons x q ih => simp [encS, ih]
theorem repL_str_inv {G : Gh} {l : List ByteArray} {us : List Value} (h : RepL G (l.map fun x => AV.v (.string x)) us) : us = l.map Value.string := by
 obtain ⟨h1, h2⟩ := h
 refine List.ext_getElem (by simpa using h1) fun j hj hj' => ?_
 have := h2 j (by simpa using hj') hj
 simp only [List.getElem_map] at this ⊢
 generalize us[j] = u at this
 obtain ⟨r, _⟩ := this
 cases r
 rfl
theorem g_joinS (l : List ByteArray) (kk : Option Nat) (sep : ByteArray) (h : Hp) (hn : l.length ≤ 1000000) (hz : (Lib.join (l.map (·.data.toList)) sep.data.toList).length ≤ 10000000) : ACalls Tryz.prog 34 [.row 1 (l.map encS) kk, .v (.string sep)] h (fun r h' => r = .v (.string (bsOf (Lib.join (l.map (·.data.toList)) sep.data.toList))) ∧ h' = h) := by
 refine acalls_mk (by kernel_rfl) fun G w vs hs hv ha => ?_
 have hv2 : vs.size = 2 := hv
 have r0 := ha 0 (by simp)
 have r1 := ha 1 (by simp)
 have hvs : vs = #[vs.getD 0 undef, vs.getD 1 undef] := by
  apply Array.ext (by simpa using hv2)
  intro j hj hj'
  simp only [List.size_toArray, List.length_cons, List.length_nil] at hj'
  have : j = 0 ∨ j = 1 := by omega
  rcases this with rfl | rfl <;> simp [Array.getD, hv2]
 rw [hvs]
 generalize vs.getD 0 undef = v0 at *
 generalize vs.getD 1 undef = v1 at *
 simp only [List.getElem_cons_zero, List.getElem_cons_succ] at r0 r1
 cases r1
 have fin : ∀ x e w', (e = .returned (.string x) ∧ RowKit.Below w.heap.size w w') → x = bsOf (Lib.join (l.map (·.data.toList)) sep.data.toList) → ∃ v, e = Ending.returned v ∧ ∃ r h' G', (r = AV.v (.string (bsOf (Lib.join (l.map (·.data.toList)) sep.data.toList))) ∧ h' = h) ∧ GLe G G' ∧ Fr G h w G' h' w' ∧ HSim G' h' w' ∧ Rep G' r v := by
  rintro x _ w' ⟨rfl, hb⟩ rfl
  have hb' : ∀ b, b < w.heap.size → w'.heap[b]? = w.heap[b]? := fun b hb2 => hb.block b hb2
  exact ⟨_, rfl, _, h, G, ⟨rfl, rfl⟩, GLe.refl _, Fr.below (Fr.refl _ _ _) hb' hb.os hb.tape hb.output hb.size, hs.below hb', .v _ rfl⟩
 rcases Rep.row_inv r0 with ⟨a, rfl, e⟩ | ⟨g, o, c, us, rfl, hc, hzz, hru, hu2⟩
 ·obtain rfl : l = [] := List.map_eq_nil_iff.1 e
  exact (Tryz.strings_Join_none a 0 sep w).mono fun e w' ⟨he, hw⟩ => fin _ e w' ⟨he, hw ▸ bel_id w⟩ rfl
 ·rw [flat_strs] at hru
  have hus := repL_str_inv hru
  subst hus
  rw [List.length_map] at hc ⊢
  have hcell : ∀ (j : Nat) x, l[j]? = some x → w.cell? ⟨g, o + j, none⟩ = some (.string x) := fun j x hx => hs.cell _ _ _ (hu2 j _ (by rw [List.getElem?_map, hx]; rfl))
  rcases Nat.eq_zero_or_pos l.length with h0 | h0
  ·obtain rfl : l = [] := List.eq_nil_of_length_eq_zero h0
   exact (Tryz.strings_Join_none _ c sep w).mono fun e w' ⟨he, hw⟩ => fin _ e w' ⟨he, hw ▸ bel_id w⟩ rfl
  ·exact (Tryz.strings_Join g o c l sep w hcell (World.block_lt_of_cell? w _ (hcell 0 _ (List.getElem?_eq_getElem h0))) (by omega) hc (by omega)).mono fun e w' ⟨he, hb⟩ => fin _ e w' ⟨he, hb⟩ rfl
def encLn (l : List Tok) : List AV := [.v (.string (bsOf l.flatten))]
theorem joinT_len : ∀ ws : List (List Tok), (joinT ws).length ≤ ws.flatten.length + ws.length
 | [] => by simp [joinT]
 | [w] => by simp [joinT]
 | w :: v :: l => by
  have := joinT_len (v :: l)
  rw [joinT_cons (by simp), List.length_append, List.length_cons, List.flatten_cons, List.length_append]
  simp only [List.length_cons] at this ⊢
  omega
theorem join_len {ws : List (List Tok)} (hts : ∀ w ∈ ws, ∀ t ∈ w, t ∈ toks) : (Lib.join (ws.map List.flatten) [32]).length ≤ 2 * (ws.flatten.length + ws.length) := by
 have hb : blT ∈ toks := by decide
 rw [joinT_lib]
 have h1 := flat_le2 (joinT ws) (fun t ht => by
  rcases mem_joinT ht with rfl | ⟨w, hw, h⟩
  ·exact hb
  ·exact hts w hw t h)
 have h2 := joinT_len ws
 omega
theorem drop_flat_le {α : Type} (l : List (List α)) (i n : Nat) : ((l.drop i).take n).flatten.length ≤ l.flatten.length := by
 have e : l.flatten = (l.take i).flatten ++ (((l.drop i).take n).flatten ++ ((l.drop i).drop n).flatten) := by
  rw [← List.flatten_append, List.take_append_drop, ← List.flatten_append, List.take_append_drop]
 have := congrArg List.length e
 simp only [List.length_append] at this
 omega
theorem g_paragraph (f : Fo) (kk : Option Nat) (ws : List (List Tok)) (blank wide : Int) (hb : 0 ≤ blank ∧ blank ≤ 1000) (hw : 1 ≤ wide ∧ wide ≤ 100000) (hn : ws.length ≤ 20000) (hM : ∀ w ∈ ws.map (sumW f), 0 ≤ w ∧ w ≤ 10000000)
  (hts : ∀ w ∈ ws, ∀ t ∈ w, t ∈ toks) (hfl : ws.flatten.length ≤ 100000) (h : Hp) :
  ACalls Tryz.prog 80 [.row 2 (ws.map (encWd f)) kk, .v (.int .i64 blank), .v (.int .i64 wide)] h
   (fun r h' => ∃ o, r = .row 1 ((paragraphT f blank wide ws).map encLn) o ∧ h'.H = h.H ∧ ∀ k x, h.T k = some x → h'.T k = some x) := by
 have hll : (ws.map (encWd f)).length = ws.length := List.length_map _
 have hLl : (ws.map (sumW f)).length = ws.length := List.length_map _
 have hbr := g_broken f kk ws blank wide hb hw hn hM h
 obtain ⟨L, hL⟩ : ∃ L, L = ws.map (sumW f) := ⟨_, rfl⟩
 unfold paragraphT
 rw [← hL] at hbr hLl ⊢
 refine gE Tryz.func80 rfl (by kernel_rfl) 56 rfl fun c => ?_
 (repeat (first | refine gO rfl ?_ | (refine gM zM3B fun K1 hK1 => ?_; simp only [go_sem, ↓reduceIte, reduceCtorEq, nA, nB, nC, nD, nE, nF, hll] <;> and_intros <;> first | (apply hK1; clear hK1 K1) | (intros; first | omega | decide) | skip)))
 refine awp_cond (t := _) rfl (fun h5 => ?_) (fun h5 => ?_)
 ·have h0 : ws = [] := List.eq_nil_of_length_eq_zero (by simpa using h5)
  (repeat (first | refine gO rfl ?_ | (refine gM zM3B fun K1 hK1 => ?_; simp only [go_sem, ↓reduceIte, reduceCtorEq, nA, nB, nC, nD, nE, nF] <;> and_intros <;> first | (apply hK1; clear hK1 K1) | (intros; first | omega | decide) | skip)))
  simp only [Tryz.results80, go_sem, ↓reduceIte, reduceCtorEq, nA, nB, nC, nD, nE, nF]
  exact ⟨_, _, Weak.refl _, Hp.le.refl _, none, by rw [if_pos h0]; rfl, rfl, fun _ _ e => e⟩
 have h0 : ws ≠ [] := fun e => by rw [e] at h5; simp at h5
 rw [if_neg h0]
 have hwl := waysT_len blank wide L
 rw [hLl] at hwl
 (repeat (first | refine gO rfl ?_ | (refine gM zM3B fun K1 hK1 => ?_; simp only [go_sem, ↓reduceIte, reduceCtorEq, nA, nB, nC, nD, nE, nF] <;> and_intros <;> first | (apply hK1; clear hK1 K1) | (intros; first | omega | decide) | skip)))
 refine hbr.mono ?_
 rintro _ hz ⟨k, rfl, hk, hh⟩; apply hK1; clear hK1 K1 hbr; rw [hh]; clear hh hz
 obtain ⟨Y, hY⟩ : ∃ Y, Y = waysT blank wide L := ⟨_, rfl⟩
 rw [← hY] at hwl ⊢
 (repeat (first | refine gO rfl ?_ | (refine gM zM3B fun K1 hK1 => ?_; simp only [go_sem, ↓reduceIte, reduceCtorEq, nA, nB, nC, nD, nE, nF] <;> and_intros <;> first | (apply hK1; clear hK1 K1) | (intros; first | omega | decide) | skip)))
 refine awp_own 8 1 rfl ⟨rfl, rfl⟩ (fun q hq => ?_)
 have hkq : k ≠ q := by rintro rfl; have h9 : upd h.T k _ k = none := hq; rw [upd_same] at h9; cases h9
 have hq0 : h.T q = none := (upd_other _ _ (Ne.symm hkq)).symm.trans hq
 (repeat (first | refine gO rfl ?_ | (refine gM zM3B fun K1 hK1 => ?_; simp only [go_sem, ↓reduceIte, reduceCtorEq, nA, nB, nC, nD, nE, nF] <;> and_intros <;> first | (apply hK1; clear hK1 K1) | (intros; first | omega | decide) | skip)))
 refine awp_loopC (rl false [0, 1, 6, 3, 49]) 0 (fun g s => ∃ (i : Nat) (D : List (List Tok)) (g' : Nat) (h1 : Hp), g + i = ws.length ∧ ws.length - i ≤ g' ∧ D ++ paraT g' (ws.drop i) (Y.drop i) = paraT ws.length ws Y ∧ D.length ≤ i ∧
  h1.H = h.H ∧ (∀ k x, h.T k = some x → h1.T k = some x) ∧ h1.T k = some (.cont 3 (Y.map encY)) ∧ h1.T q = some (.tail D.length) ∧
  s = ⟨((.row 2 (ws.map (encWd f)) kk) :: (jnk 6 ((.arr 3 k (ws.length + 1)) :: (.row 1 (D.map encLn) (some q)) :: (.v (.int .i64 i)) :: (jnk 49 [])))), [], h1⟩) ws.length ⟨0, [], ws.length, ⟨h.H, upd (upd h.T k (some (.cont 3 (Y.map encY)))) q (some (.tail 0))⟩, by omega, by omega, rfl, by simp, rfl, ?_, ?_, ?_, rfl⟩ ?_
 ·intro k2 x e
  show upd (upd h.T k _) q _ k2 = _
  rw [upd_other _ _ (by rintro rfl; rw [hq0] at e; cases e), upd_other _ _ (by rintro rfl; rw [hk] at e; cases e), e]
 ·show upd (upd h.T k _) q _ k = _
  rw [upd_other _ _ hkq, upd_same]
 ·exact upd_same _ _ _
 rintro g _ ⟨i, D, g', h1, hg, hg', hD, hDl, hH1, hT1, hk1, hq1, rfl⟩
 (repeat (first | refine gO rfl ?_ | (refine gM zM3B fun K1 hK1 => ?_; simp only [go_sem, ↓reduceIte, reduceCtorEq, nA, nB, nC, nD, nE, nF, hll] <;> and_intros <;> first | (apply hK1; clear hK1 K1) | (intros; first | omega | decide) | skip)))
 refine awp_cond (t := _) rfl (fun h6 => ?_) (fun h6 => ?_)
 ·simp only [decide_eq_true_eq] at h6
  have hi : i < ws.length := by omega
  have hfo := ways_first blank wide (L.drop i) (fun e => by have := congrArg List.length e; simp at this; omega) (0, 0, 0)
  have hfi : (Y.drop i).getD 0 (0, 0, 0) = wayAt blank wide L i := by rw [hY, waysT_drop _ _ _ _ (by omega)]; rfl
  have hyi : (Y.map encY).getD i [] = encY (wayAt blank wide L i) := by
   rw [← ways_getD blank wide L i (by omega) (0, 0, 0), ← hY, List.getD_eq_getElem?_getD, List.getElem?_map, List.getD_eq_getElem?_getD, List.getElem?_eq_getElem (by omega)]
   rfl
  change firstOk blank wide (L.drop i) (wayAt blank wide L i).2.2 at hfo
  generalize wayAt blank wide L i = y at hfo hyi hfi
  obtain ⟨y1, y2, fi⟩ := y
  obtain ⟨hf1, hf2, _⟩ := hfo
  rw [List.length_drop] at hf2
  change 1 ≤ fi at hf1
  change fi ≤ _ at hf2
  have hye : encY (y1, y2, fi) = [.v (.int .i64 y1), .v (.int .i64 y2), .v (.int .i64 fi)] := rfl
  rw [hye] at hyi
  have hyl : (Y.map encY).length = ws.length + 1 := by rw [List.length_map]; exact hwl
  have tn : ((i : Int) + (fi : Int)).toNat = i + fi := by omega
  obtain ⟨V, hV⟩ : ∃ V, V = (ws.drop i).take fi := ⟨_, rfl⟩
  have hVm : ((ws.map (encWd f)).drop i).take fi = V.map (encWd f) := by rw [hV, ← List.map_drop, ← List.map_take]
  have hVl : V.length = fi := by rw [hV, List.length_take, List.length_drop]; omega
  have hcl : (V.map (encWd f)).length = fi := by rw [List.length_map]; exact hVl
  have hVt : ∀ w ∈ V, ∀ t ∈ w, t ∈ toks := fun w hw => hts w (List.mem_of_mem_drop (List.mem_of_mem_take (hV ▸ hw)))
  have hVf : V.flatten.length ≤ 100000 := by rw [hV]; exact Nat.le_trans (drop_flat_le ws i fi) hfl
  (repeat (first | refine gO rfl ?_ | (refine gM zM3B fun K1 hK1 => ?_; simp only [go_sem, ↓reduceIte, reduceCtorEq, nA, nB, nC, nD, nE, nF, hll, hk1, hyl, hyi, Int.toNat_natCast, tn, Nat.add_sub_cancel_left, hVm, hcl, Option.toList_none, Option.toList_some, List.append_eq, List.nil_append, List.cons_append, uside] <;> and_intros <;> first | (apply hK1; clear hK1 K1) | (intros; first | omega | decide) | skip)))
  refine awp_own 10 1 rfl ⟨rfl, rfl⟩ (fun p hp => ?_)
  replace hp : h1.T p = none := hp
  have hpk : k ≠ p := by rintro rfl; rw [hk1] at hp; cases hp
  have hpq : q ≠ p := by rintro rfl; rw [hq1] at hp; cases hp
  refine awp_loopC (rl false [0, 1, 6, 4, 23, 3, 22]) 0 (fun g s => ∃ (j : Nat), g + j = fi ∧
   s = ⟨((.row 2 (ws.map (encWd f)) kk) :: (jnk 6 ((.arr 3 k (ws.length + 1)) :: (.row 1 (D.map encLn) (some q)) :: (.v (.int .i64 i)) :: (.row 1 ((V.take j).map encLn) (some p)) :: (jnk 23 ((.row 2 (V.map (encWd f)) none) :: (.v (.int .i64 fi)) :: (.v (.int .i64 j)) :: (jnk 22 [])))))), [], ⟨h1.H, upd h1.T p (some (.tail j))⟩⟩) fi ⟨0, by omega, rfl⟩ ?_
  rintro g2 _ ⟨j, hg2, rfl⟩
  (repeat (first | refine gO rfl ?_ | (refine gM zM3B fun K1 hK1 => ?_; simp only [go_sem, ↓reduceIte, reduceCtorEq, nA, nB, nC, nD, nE, nF] <;> and_intros <;> first | (apply hK1; clear hK1 K1) | (intros; first | omega | decide) | skip)))
  refine awp_cond (t := _) rfl (fun h7 => ?_) (fun h7 => ?_)
  ·simp only [decide_eq_true_eq] at h7
   have hjl : j < V.length := by omega
   have gx : (V.map (encWd f)).getD j [] = [.v (.string (bsOf V[j].flatten)), .v (.int .i64 (sumW f V[j]))] := by
    rw [List.getD_eq_getElem?_getD, List.getElem?_map, List.getElem?_eq_getElem hjl]; rfl
   have htk : (V.take (j + 1)).map encLn = (V.take j).map encLn ++ [[.v (.string (bsOf V[j].flatten))]] := by
    rw [List.take_succ_eq_append_getElem hjl, List.map_append]; rfl
   have hvl : ((V.take j).map encLn).length = j := by rw [List.length_map, List.length_take]; omega
   (repeat (first | refine gO rfl ?_ | (refine gM zM3B fun K1 hK1 => ?_; simp only [go_sem, ↓reduceIte, reduceCtorEq, nA, nB, nC, nD, nE, nF, Int.toNat_natCast, hcl, gx, hvl, upd_same, upd_upd] <;> and_intros <;> first | (apply hK1; clear hK1 K1) | (intros; first | omega | decide) | skip)))
   refine ⟨g2 - 1, by omega, j + 1, by omega, ?_⟩
   rw [htk]; rfl
  ·simp only [decide_eq_false_iff_not] at h7
   have hjf : j = V.length := by omega
   subst hjf
   rw [List.take_length]
   have hjn := g_joinS (V.map fun w => bsOf w.flatten) (some p) ⟨#[32]⟩
   have hm1 : (V.map fun w => bsOf w.flatten).map (·.data.toList) = V.map List.flatten := by rw [List.map_map]; rfl
   have hm2 : (V.map fun w => bsOf w.flatten).map encS = V.map encLn := by rw [List.map_map]; rfl
   have hz := join_len hVt
   rw [hm1, hm2, List.length_map, show (⟨#[32]⟩ : ByteArray).data.toList = [32] from rfl, joinT_lib] at hjn
   rw [joinT_lib] at hz
   (repeat (first | refine gO rfl ?_ | (refine gM zM3B fun K1 hK1 => ?_; simp only [go_sem, ↓reduceIte, reduceCtorEq, nA, nB, nC, nD, nE, nF] <;> and_intros <;> first | (apply hK1; clear hK1 K1) | (intros; first | omega | decide) | skip)))
   refine (hjn _ (by omega) (by omega)).mono ?_; rintro _ hz ⟨rfl, hh⟩; apply hK1; clear hK1 K1; rw [hh]; clear hh hz
   have hqp : upd h1.T p (some (TO.tail V.length)) q = some (.tail D.length) := (upd_other _ _ hpq).trans hq1
   have hkp : upd (upd h1.T p (some (TO.tail V.length))) q (some (.tail (D.length + 1))) k = some (.cont 3 (Y.map encY)) := (upd_other _ _ hkq).trans ((upd_other _ _ hpk).trans hk1)
   have hml : (D.map encLn).length = D.length := List.length_map _
   (repeat (first | refine gO rfl ?_ | (refine gM zM3B fun K1 hK1 => ?_; simp only [go_sem, ↓reduceIte, reduceCtorEq, nA, nB, nC, nD, nE, nF, hqp, hml, hkp, hyl, hyi, Int.toNat_natCast] <;> and_intros <;> first | (apply hK1; clear hK1 K1) | (intros; first | omega | decide) | skip)))
   obtain ⟨g'', rfl⟩ : ∃ g'', g' = g'' + 1 := ⟨g' - 1, by omega⟩
   rw [paraT, if_neg (fun e => by have := congrArg List.length e; simp at this; omega), hfi, ← hV, List.drop_drop, List.drop_drop] at hD
   refine ⟨g - fi, by omega, i + fi, D ++ [joinT V], g'', ⟨h1.H, upd (upd h1.T p (some (.tail V.length))) q (some (.tail (D.length + 1)))⟩, by omega, by omega, ?_, ?_, hH1, ?_, hkp, ?_, ?_⟩
   ·rw [List.append_assoc]; exact hD
   ·rw [List.length_append]; simp only [List.length_cons, List.length_nil]; omega
   ·intro k2 x e
    have e1 := hT1 k2 x e
    show upd (upd h1.T p _) q _ k2 = _
    rw [upd_other _ _ (by rintro rfl; rw [hq0] at e; cases e), upd_other _ _ (by rintro rfl; rw [hp] at e1; cases e1), e1]
   ·rw [List.length_append]; exact upd_same _ _ _
   ·rw [List.map_append]; rfl
 ·simp only [decide_eq_false_iff_not] at h6
  have hie : i = ws.length := by omega
  subst hie
  have hpn : paraT g' (ws.drop ws.length) (Y.drop ws.length) = [] := by
   rw [List.drop_length]
   cases g' with
   | zero => rfl
   | succ g' => rw [paraT, if_pos rfl]
  rw [hpn, List.append_nil] at hD
  (repeat (first | refine gO rfl ?_ | (refine gM zM3B fun K1 hK1 => ?_; simp only [go_sem, ↓reduceIte, reduceCtorEq, nA, nB, nC, nD, nE, nF] <;> and_intros <;> first | (apply hK1; clear hK1 K1) | (intros; first | omega | decide) | skip)))
  simp only [Tryz.results80, go_sem, ↓reduceIte, reduceCtorEq, nA, nB, nC, nD, nE, nF]
  exact ⟨_, _, Weak.refl _, Hp.le.refl _, some q, by rw [hD], hH1, hT1⟩
theorem ACalls.weakRes {P : Program} {f : Nat} {args : List AV} {h : Hp} {R R2 : AV → Hp → Prop} (hc : ACalls P f args h R) (hr : ∀ r h', R r h' → ∃ r2, Weak r r2 ∧ R2 r2 h') : ACalls P f args h R2 :=
 hc.gup fun r h' G w v hR hs hv => by
  obtain ⟨r2, hw, h2⟩ := hr r h' hR
  exact ⟨r2, h', G, h2, GLe.refl _, Fr.refl _ _ _, hs, hw _ _ hv⟩
def encPp (f : Fo) (ws : List (List Tok)) : List AV := [.row 2 (ws.map (encWd f)) none]
theorem g_isLong (f : Fo) (ws : List (List Tok)) (hn : ws.length ≤ 2000) (h : Hp) : ACalls Tryz.prog 79 [.row 2 (ws.map (encWd f)) none] h (fun r h' => r = .v (.bool false) ∧ h' = h) := by
 have hll : (ws.map (encWd f)).length = ws.length := List.length_map _
 have d1 : ((2000 : Int) < (ws.length : Int)) = False := eq_false (by omega)
 refine gE Tryz.func79 rfl (by kernel_rfl) 5 rfl fun c => ?_
 (repeat (first | refine gO rfl ?_ | (refine gR fun K1 hK1 => ?_; simp only [go_sem, ↓reduceIte, reduceCtorEq, nA, nB, nC, nD, nE, nF, hll, d1, decide_false] <;> and_intros <;> first | (apply hK1; clear hK1 K1) | (intros; first | omega | decide | (simp_all <;> omega)) | skip)))
 simp only [Tryz.results79, go_sem, ↓reduceIte, reduceCtorEq, nA, nB, nC, nD, nE, nF]
 exact ⟨_, _, Weak.refl _, Hp.le.refl _, rfl, rfl⟩
theorem g_idxLong (f : Fo) (kk : Option Nat) (W : List (List (List Tok))) (hl : W.length ≤ 100000) (fid : Nat) (h : Hp) (hW : ∀ ws ∈ W, ACalls Tryz.prog fid [.row 2 (ws.map (encWd f)) none] h (fun r h' => r = .v (.bool false) ∧ h' = h)) :
  ACalls Tryz.prog 110 [.row 1 (W.map (encPp f)) kk, .fn fid []] h (fun r h' => r = .v (.int .i64 (-1)) ∧ h' = h) := by
 have hll : (W.map (encPp f)).length = W.length := List.length_map _
 refine gE Tryz.func110 rfl (by kernel_rfl) 17 rfl fun c => ?_
 (repeat (first | refine gO rfl ?_ | (refine gR fun K1 hK1 => ?_; simp only [go_sem, ↓reduceIte, reduceCtorEq, nA, nB, nC, nD, nE, nF, hll] <;> and_intros <;> first | (apply hK1; clear hK1 K1) | (intros; first | omega | decide | (simp_all <;> omega)) | skip)))
 refine awp_loopC (rl false [0, 2, 5, 2, 10]) 0 (fun g s => ∃ j : Nat, g + j = W.length ∧ s = ⟨((.row 1 (W.map (encPp f)) kk) :: (.fn fid []) :: (jnk 5 ((.v (.int .i64 W.length)) :: (.v (.int .i64 j)) :: (jnk 10 [])))), [], h⟩) W.length ⟨0, by omega, rfl⟩ ?_
 rintro g _ ⟨j, hj, rfl⟩
 (repeat (first | refine gO rfl ?_ | (refine gR fun K1 hK1 => ?_; simp only [go_sem, ↓reduceIte, reduceCtorEq, nA, nB, nC, nD, nE, nF] <;> and_intros <;> first | (apply hK1; clear hK1 K1) | (intros; first | omega | decide | (simp_all <;> omega)) | skip)))
 refine awp_cond (t := _) rfl (fun h1 => ?_) (fun h1 => ?_)
 ·simp only [decide_eq_true_eq] at h1
  have hjk : j < W.length := by omega
  have hg : (W.map (encPp f)).getD j [] = [.row 2 (W[j].map (encWd f)) none] := by rw [List.getD_eq_getElem?_getD, List.getElem?_map, List.getElem?_eq_getElem hjk]; rfl
  (repeat (first | refine gO rfl ?_ | (refine gR fun K1 hK1 => ?_; simp only [go_sem, ↓reduceIte, reduceCtorEq, nA, nB, nC, nD, nE, nF, Int.toNat_natCast, hg, hll] <;> and_intros <;> first | (apply hK1; clear hK1 K1) | (intros; first | omega | decide | (simp_all <;> omega)) | skip)))
  refine (hW W[j] (List.getElem_mem _)).mono ?_; rintro _ hz ⟨rfl, hh⟩; apply hK1; clear hK1 K1; rw [hh]; clear hh hz
  (repeat (first | refine gO rfl ?_ | (refine gR fun K1 hK1 => ?_; simp only [go_sem, ↓reduceIte, reduceCtorEq, nA, nB, nC, nD, nE, nF] <;> and_intros <;> first | (apply hK1; clear hK1 K1) | (intros; first | omega | decide) | skip)))
  refine awp_cond (t := _) rfl (fun h2 => by cases h2) (fun _ => ?_)
  (repeat (first | refine gO rfl ?_ | (refine gR fun K1 hK1 => ?_; simp only [go_sem, ↓reduceIte, reduceCtorEq, nA, nB, nC, nD, nE, nF] <;> and_intros <;> first | (apply hK1; clear hK1 K1) | (intros; first | omega | decide | (simp_all <;> omega)) | skip)))
  exact ⟨g - 1, by omega, j + 1, by omega, rfl⟩
 ·simp only [decide_eq_false_iff_not] at h1
  (repeat (first | refine gO rfl ?_ | (refine gR fun K1 hK1 => ?_; simp only [go_sem, ↓reduceIte, reduceCtorEq, nA, nB, nC, nD, nE, nF] <;> and_intros <;> first | (apply hK1; clear hK1 K1) | (intros; first | omega | decide | (simp_all <;> omega)) | skip)))
  simp only [Tryz.results110, go_sem, ↓reduceIte, reduceCtorEq, nA, nB, nC, nD, nE, nF]
  exact ⟨_, _, Weak.refl _, Hp.le.refl _, rfl, rfl⟩
theorem g_anyLong (f : Fo) (kk : Option Nat) (W : List (List (List Tok))) (hl : W.length ≤ 100000) (fid : Nat) (h : Hp) (hW : ∀ ws ∈ W, ACalls Tryz.prog fid [.row 2 (ws.map (encWd f)) none] h (fun r h' => r = .v (.bool false) ∧ h' = h)) :
  ACalls Tryz.prog 78 [.row 1 (W.map (encPp f)) kk, .fn fid []] h (fun r h' => r = .v (.bool false) ∧ h' = h) := by
 refine gE Tryz.func78 rfl (by kernel_rfl) 7 rfl fun c => ?_
 (repeat (first | refine gO rfl ?_ | (refine gR fun K1 hK1 => ?_; simp only [go_sem, ↓reduceIte, reduceCtorEq, nA, nB, nC, nD, nE, nF] <;> and_intros <;> first | (apply hK1; clear hK1 K1) | (intros; first | omega | decide | (simp_all <;> omega)) | skip)))
 refine (g_idxLong f kk W hl fid h hW).mono ?_; rintro _ hz ⟨rfl, hh⟩; apply hK1; clear hK1 K1; rw [hh]; clear hh hz
 (repeat (first | refine gO rfl ?_ | (refine gR fun K1 hK1 => ?_; simp only [go_sem, ↓reduceIte, reduceCtorEq, nA, nB, nC, nD, nE, nF] <;> and_intros <;> first | (apply hK1; clear hK1 K1) | (intros; first | omega | decide) | skip)))
 simp only [Tryz.results78, go_sem, ↓reduceIte, reduceCtorEq, nA, nB, nC, nD, nE, nF]
 exact ⟨_, _, Weak.refl _, Hp.le.refl _, by simp, rfl⟩
theorem words_one {f : Fo} {wide : Int} {p w : List Tok} (h : w ∈ wordsT f wide p) : w.length ≤ p.length := by
 have h1 := List.Sublist.length_le (List.sublist_flatten_of_mem h)
 rw [wordsT_flat] at h1
 exact Nat.le_trans h1 (List.length_filter_le _ _)
theorem words_flat (f : Fo) (wide : Int) (p : List Tok) : (wordsT f wide p).flatten.length ≤ p.length := by
 rw [wordsT_flat]; exact List.length_filter_le _ _
theorem para_len : ∀ (g : Nat) (ws : List (List Tok)) (ys : List Way), (paraT g ws ys).length ≤ g
 | 0, _, _ => by simp [paraT]
 | g + 1, ws, ys => by
  rw [paraT]
  split
  ·simp
  ·have := para_len g (ws.drop (ys.getD 0 (0, 0, 0)).2.2) (ys.drop (ys.getD 0 (0, 0, 0)).2.2)
   simp only [List.length_cons]; omega
theorem paragraph_len (f : Fo) (blank wide : Int) (ws : List (List Tok)) : (paragraphT f blank wide ws).length ≤ ws.length + 1 := by
 unfold paragraphT
 split
 ·simp
 ·have := para_len ws.length ws (waysT blank wide (ws.map (sumW f))); omega
theorem flatMap_len {α β : Type} (F : α → List β) (m : Nat) : ∀ l : List α, (∀ x ∈ l, (F x).length ≤ m) → (l.flatMap F).length ≤ m * l.length
 | [], _ => by simp
 | x :: l, h => by
  have h1 := h x (by simp)
  have h2 := flatMap_len F m l (fun y hy => h y (by simp [hy]))
  rw [List.flatMap_cons, List.length_append, List.length_cons, Nat.mul_add]
  omega
theorem piece_len {c : Tok} {ts p : List Tok} (h : p ∈ splitT c ts) : p.length ≤ ts.length := by
 have h1 := List.Sublist.length_le (List.sublist_flatten_of_mem h)
 rw [splitT_flat] at h1
 exact Nat.le_trans h1 (List.length_filter_le _ _)
theorem g_linesOf (f : Fo) (kk : Option Nat) (ts : List Tok) (wide : Int) (hts : ∀ t ∈ ts, t ∈ toks) (hn : ts.length ≤ 2000) (hw : 1 ≤ wide ∧ wide ≤ 100000) (hg : Good f) (k0 : Nat) (h : Hp) (hT : h.T k0 = some (.glb tabU)) :
  ACalls Tryz.prog 51 [encFo f kk, .v (.string (bsOf ts.flatten)), .v (.int .i64 wide)] h (fun r h' => r = .tup [.row 1 ((linesT f wide ts).map encLn) none, .v (.int .i64 0)] ∧ Gr h h') := by
 have hfl : ∀ x, (encFo f x) = .agg [.v (.string f.key), .v (.int .i64 f.hi), .v (.int .i64 f.ot), .row 3 (f.ws.map encW) x] := fun _ => rfl
 have hf2 := flat_le2 ts hts
 have hsp := g_split ts.flatten 10 (by omega)
 rw [splitB_toks 10 lf_ok ts hts] at hsp
 obtain ⟨P, hP⟩ : ∃ P, P = splitT [10] ts := ⟨_, rfl⟩
 have hml : ((P.map List.flatten).map encL1).length = P.length := by rw [List.length_map, List.length_map]
 have hsl : P.length ≤ ts.length + 1 := by rw [hP]; exact splitT_len _ _
 have hPt : ∀ p ∈ P, (∀ t ∈ p, t ∈ toks) ∧ p.length ≤ ts.length := fun p hp => ⟨fun t ht => hts t (splitT_mem (hP ▸ hp) t ht).1, piece_len (hP ▸ hp)⟩
 have hlT : linesT f wide ts = P.flatMap fun p => paragraphT f (widS f blT) wide (wordsT f wide p) := by rw [hP]; rfl
 have hwo := g_wideOf f kk blT (by decide) hg.ws (by have := hg.len; omega) k0 h hT
 rw [hfl] at hwo
 have hbl := hg.fob.widS blT
 rw [← hP] at hsp
 rw [hlT]
 clear hlT
 generalize widS f blT = blank at *
 refine gE Tryz.func51 rfl (by kernel_rfl) 45 rfl fun c => ?_
 (repeat (first | refine gO rfl ?_ | (refine gR fun K1 hK1 => ?_; simp only [go_sem, ↓reduceIte, reduceCtorEq, nA, nB, nC, nD, nE, nF, hfl] <;> and_intros <;> first | (apply hK1; clear hK1 K1) | (intros; first | omega | decide) | skip)))
 refine hwo.mono ?_; rintro _ hz ⟨rfl, hh⟩; apply hK1; clear hK1 K1; rw [hh]; clear hh hz
 (repeat (first | refine gO rfl ?_ | (refine gR fun K1 hK1 => ?_; simp only [go_sem, ↓reduceIte, reduceCtorEq, nA, nB, nC, nD, nE, nF] <;> and_intros <;> first | (apply hK1; clear hK1 K1) | (intros; first | omega | decide) | skip)))
 refine (hsp h).mono ?_; rintro _ hz ⟨rfl, hh⟩; apply hK1; clear hK1 K1; rw [hh]; clear hh hz
 (repeat (first | refine gO rfl ?_ | (refine gR fun K1 hK1 => ?_; simp only [go_sem, ↓reduceIte, reduceCtorEq, nA, nB, nC, nD, nE, nF, hml] <;> and_intros <;> first | (apply hK1; clear hK1 K1) | (intros; first | omega | decide) | skip)))
 refine awp_own 9 1 rfl ⟨rfl, rfl⟩ (fun q hq => ?_)
 replace hq : h.T q = none := hq
 refine awp_loopC (rl false [2, 2, 4, 2, 8, 3, 27]) 0 (fun g s => ∃ (j : Nat) (h1 : Hp), g + j = P.length ∧ Gr h h1 ∧ h1.T q = some (.tail j) ∧
  s = ⟨(AV.junk :: AV.junk :: ((.v (.int .i64 wide)) :: (.ref [.v (.string f.key), .v (.int .i64 f.hi), .v (.int .i64 f.ot), .row 3 (f.ws.map encW) kk] 0) :: (jnk 4 ((.v (.int .i64 blank)) :: (.row 1 (((P.take j).map (wordsT f wide)).map (encPp f)) (some q)) :: (jnk 8 ((.row 1 ((P.map List.flatten).map encL1) none) :: (.v (.int .i64 P.length)) :: (.v (.int .i64 j)) :: (jnk 27 []))))))), [], h1⟩) P.length ⟨0, ⟨h.H, upd h.T q (some (.tail 0))⟩, by omega, Gr.put hq _, upd_same _ _ _, rfl⟩ ?_
 rintro g _ ⟨j, h1, hj, hgr, hq1, rfl⟩
 (repeat (first | refine gO rfl ?_ | (refine gR fun K1 hK1 => ?_; simp only [go_sem, ↓reduceIte, reduceCtorEq, nA, nB, nC, nD, nE, nF] <;> and_intros <;> first | (apply hK1; clear hK1 K1) | (intros; first | omega | decide) | skip)))
 refine awp_cond (t := _) rfl (fun h5 => ?_) (fun h5 => ?_)
 ·simp only [decide_eq_true_eq] at h5
  have hjl : j < P.length := by omega
  have gx := row_piece P j hjl
  have hls : ∀ b, (encL1 b).length = 1 := fun _ => rfl
  have hgs : ∀ b d, (encL1 b).getD 0 d = .v (.string (bsOf b)) := fun _ _ => rfl
  obtain ⟨hp1, hp2⟩ := hPt _ (List.getElem_mem hjl)
  have hwd := (g_wordsOf f kk P[j] wide hp1 (by omega) hw hg k0 h1 (hgr.2 _ _ hT)).weakRes (R2 := fun r h' => r = .row 2 ((wordsT f wide P[j]).map (encWd f)) none ∧ Gr h1 h') (by
   rintro _ h' ⟨q2, rfl, _, hH, hT2⟩
   exact ⟨_, Weak.row _ _ _, rfl, hH, hT2⟩)
  rw [hfl] at hwd
  have htk : ((P.take (j + 1)).map (wordsT f wide)).map (encPp f) = ((P.take j).map (wordsT f wide)).map (encPp f) ++ [[.row 2 ((wordsT f wide P[j]).map (encWd f)) none]] := by
   rw [List.take_succ_eq_append_getElem hjl, List.map_append, List.map_append]; rfl
  have hvl : (((P.take j).map (wordsT f wide)).map (encPp f)).length = j := by rw [List.length_map, List.length_map, List.length_take]; omega
  (repeat (first | refine gO rfl ?_ | (refine gR fun K1 hK1 => ?_; simp only [go_sem, ↓reduceIte, reduceCtorEq, nA, nB, nC, nD, nE, nF, hml, Int.toNat_natCast, gx, hls, hgs] <;> and_intros <;> first | (apply hK1; clear hK1 K1) | (intros; first | omega | decide) | skip)))
  refine hwd.mono ?_
  rintro _ h2 ⟨rfl, hgr2⟩; apply hK1; clear hK1 K1
  have hq2 := hgr2.2 _ _ hq1
  (repeat (first | refine gO rfl ?_ | (refine gR fun K1 hK1 => ?_; simp only [go_sem, ↓reduceIte, reduceCtorEq, nA, nB, nC, nD, nE, nF, hvl, hq2] <;> and_intros <;> first | (apply hK1; clear hK1 K1) | (intros; first | omega | decide) | skip)))
  refine ⟨g - 1, by omega, j + 1, ⟨h2.H, upd h2.T q (some (.tail (j + 1)))⟩, by omega, ⟨hgr2.1.trans hgr.1, fun k x e => ?_⟩, upd_same _ _ _, ?_⟩
  ·show upd h2.T q _ k = _
   rw [upd_other _ _ (by rintro rfl; rw [hq] at e; cases e)]
   exact hgr2.2 _ _ (hgr.2 _ _ e)
  ·rw [htk]; rfl
 simp only [decide_eq_false_iff_not] at h5
 have hjl : j = P.length := by omega
 subst hjl
 rw [List.take_length]
 have hal := g_anyLong f (some q) (P.map (wordsT f wide)) (by rw [List.length_map]; omega) 79 h1 (fun ws hws => by
  obtain ⟨p, hp, rfl⟩ := List.mem_map.1 hws
  have := wordsT_len f wide p
  have := (hPt p hp).2
  exact g_isLong f _ (by omega) h1)
 have hwl : ((P.map (wordsT f wide)).map (encPp f)).length = P.length := by rw [List.length_map, List.length_map]
 (repeat (first | refine gO rfl ?_ | (refine gR fun K1 hK1 => ?_; simp only [go_sem, ↓reduceIte, reduceCtorEq, nA, nB, nC, nD, nE, nF] <;> and_intros <;> first | (apply hK1; clear hK1 K1) | (intros; first | omega | decide) | skip)))
 refine hal.mono ?_; rintro _ hz ⟨rfl, hh⟩; apply hK1; clear hK1 K1; rw [hh]; clear hh hz
 (repeat (first | refine gO rfl ?_ | (refine gR fun K1 hK1 => ?_; simp only [go_sem, ↓reduceIte, reduceCtorEq, nA, nB, nC, nD, nE, nF] <;> and_intros <;> first | (apply hK1; clear hK1 K1) | (intros; first | omega | decide) | skip)))
 refine awp_cond (t := _) rfl (fun h6 => by cases h6) (fun _ => ?_)
 (repeat (first | refine gO rfl ?_ | (refine gR fun K1 hK1 => ?_; simp only [go_sem, ↓reduceIte, reduceCtorEq, nA, nB, nC, nD, nE, nF, hwl] <;> and_intros <;> first | (apply hK1; clear hK1 K1) | (intros; first | omega | decide) | skip)))
 refine awp_own 12 1 rfl ⟨rfl, rfl⟩ (fun p hp => ?_)
 replace hp : h1.T p = none := hp
 refine awp_loopC (rl false [2, 1, 5, 1, 3, 1, 21, 3, 11]) 0 (fun g s => ∃ (j : Nat) (h2 : Hp), g + j = P.length ∧ Gr h1 h2 ∧ h2.T p = some (.tail ((P.take j).flatMap fun p => paragraphT f blank wide (wordsT f wide p)).length) ∧
  s = ⟨(AV.junk :: AV.junk :: ((.v (.int .i64 wide)) :: (jnk 5 ((.v (.int .i64 blank)) :: (jnk 3 ((.row 1 (((P.take j).flatMap fun p => paragraphT f blank wide (wordsT f wide p)).map encLn) (some p)) :: (jnk 21 ((.row 1 ((P.map (wordsT f wide)).map (encPp f)) (some q)) :: (.v (.int .i64 P.length)) :: (.v (.int .i64 j)) :: (jnk 11 []))))))))), [], h2⟩) P.length ⟨0, ⟨h1.H, upd h1.T p (some (.tail 0))⟩, by omega, Gr.put hp _, upd_same _ _ _, rfl⟩ ?_
 rintro g2 _ ⟨j, h2, hj2, hgr2, hp2, rfl⟩
 (repeat (first | refine gO rfl ?_ | (refine gR fun K1 hK1 => ?_; simp only [go_sem, ↓reduceIte, reduceCtorEq, nA, nB, nC, nD, nE, nF] <;> and_intros <;> first | (apply hK1; clear hK1 K1) | (intros; first | omega | decide) | skip)))
 refine awp_cond (t := _) rfl (fun h7 => ?_) (fun h7 => ?_)
 ·simp only [decide_eq_true_eq] at h7
  have hjl : j < P.length := by omega
  have gx : ((P.map (wordsT f wide)).map (encPp f)).getD j [] = [.row 2 ((wordsT f wide P[j]).map (encWd f)) none] := by
   rw [List.getD_eq_getElem?_getD, List.getElem?_map, List.getElem?_map, List.getElem?_eq_getElem hjl]; rfl
  obtain ⟨ht1, ht2⟩ := hPt _ (List.getElem_mem hjl)
  have hwn := wordsT_len f wide P[j]
  have hpa := (g_paragraph f none (wordsT f wide P[j]) blank wide hbl hw (by omega) (fun w hw' => by
   obtain ⟨x, hx, rfl⟩ := List.mem_map.1 hw'
   have h1 := hg.fob.sum x
   have h2 := words_one hx
   omega) (fun w hw' t ht => ht1 t (wordsT_mem hw' t ht).1) (by have := words_flat f wide P[j]; omega) h2).weakRes (R2 := fun r h' => r = .row 1 ((paragraphT f blank wide (wordsT f wide P[j])).map encLn) none ∧ Gr h2 h') (by
   rintro _ h' ⟨o, rfl, hH, hT2⟩
   exact ⟨_, Weak.row _ _ _, rfl, hH, hT2⟩)
  have hpl := paragraph_len f blank wide (wordsT f wide P[j])
  have hfm := flatMap_len (fun p => paragraphT f blank wide (wordsT f wide p)) 2001 (P.take j) (fun p hp => by
   have h1 := paragraph_len f blank wide (wordsT f wide p)
   have h2 := wordsT_len f wide p
   have h3 := (hPt p (List.mem_of_mem_take hp)).2
   omega)
  rw [List.length_take] at hfm
  have htk : ((P.take (j + 1)).flatMap fun p => paragraphT f blank wide (wordsT f wide p)) = ((P.take j).flatMap fun p => paragraphT f blank wide (wordsT f wide p)) ++ paragraphT f blank wide (wordsT f wide P[j]) := by
   rw [List.take_succ_eq_append_getElem hjl, List.flatMap_append]; simp
  generalize ((P.take j).flatMap fun p => paragraphT f blank wide (wordsT f wide p)) = D at *
  generalize paragraphT f blank wide (wordsT f wide P[j]) = E at *
  have hDl : (D.map encLn).length = D.length := List.length_map _
  have hEl : (E.map encLn).length = E.length := List.length_map _
  (repeat (first | refine gO rfl ?_ | (refine gR fun K1 hK1 => ?_; simp only [go_sem, ↓reduceIte, reduceCtorEq, nA, nB, nC, nD, nE, nF, hwl, Int.toNat_natCast, gx] <;> and_intros <;> first | (apply hK1; clear hK1 K1) | (intros; first | omega | decide) | skip)))
  refine hpa.mono ?_
  rintro _ h3 ⟨rfl, hgr3⟩; apply hK1; clear hK1 K1
  have hp3 := hgr3.2 _ _ hp2
  (repeat (first | refine gO rfl ?_ | (refine gR fun K1 hK1 => ?_; simp only [go_sem, ↓reduceIte, reduceCtorEq, nA, nB, nC, nD, nE, nF, hDl, hEl, hp3, true_or] <;> and_intros <;> first | (apply hK1; clear hK1 K1) | (intros; first | omega | decide) | skip)))
  refine ⟨g2 - 1, by omega, j + 1, ⟨h3.H, upd h3.T p (some (.tail (D.length + E.length)))⟩, by omega, ⟨hgr3.1.trans hgr2.1, fun k x e => ?_⟩, ?_, ?_⟩
  ·show upd h3.T p _ k = _
   rw [upd_other _ _ (by rintro rfl; rw [hp] at e; cases e)]
   exact hgr3.2 _ _ (hgr2.2 _ _ e)
  ·rw [htk, List.length_append]; exact upd_same _ _ _
  ·rw [htk, List.map_append]; rfl
 ·simp only [decide_eq_false_iff_not] at h7
  have hjl : j = P.length := by omega
  subst hjl
  rw [List.take_length]
  (repeat (first | refine gO rfl ?_ | (refine gR fun K1 hK1 => ?_; simp only [go_sem, ↓reduceIte, reduceCtorEq, nA, nB, nC, nD, nE, nF] <;> and_intros <;> first | (apply hK1; clear hK1 K1) | (intros; first | omega | decide) | skip)))
  simp only [Tryz.results51, go_sem, ↓reduceIte, reduceCtorEq, nA, nB, nC, nD, nE, nF]
  exact ⟨_, _, Weak.tup1 (Weak.row _ _ _) (Weak.refl _), Hp.le.refl _, rfl, hgr.trans hgr2⟩
theorem g_lines (f : Fo) (kk : Option Nat) (ts : List Tok) (wide : Int) (hts : ∀ t ∈ ts, t ∈ toks) (hn : ts.length ≤ 2000) (hw : 1 ≤ wide ∧ wide ≤ 100000) (hg : Good f) (hks : f.key.size ≤ 1000) (k0 : Nat) (h : Hp) (hT : h.T k0 = some (.glb tabU)) :
  ACalls Tryz.prog 14 [encFo f kk, .v (.string (bsOf ts.flatten)), .v (.int .i64 wide)] h (fun r h' => r = .tup [.row 1 ((linesT f wide ts).map encLn) none, .v (.int .i64 0)] ∧ Gr h h') := by
 have hcf := g_checkFont f kk hg hks h
 have hiw := g_isWide wide hw h
 have hwa := g_linesOf f kk ts wide hts hn hw hg k0 h hT
 have hfl : ∀ x, (encFo f x) = .agg [.v (.string f.key), .v (.int .i64 f.hi), .v (.int .i64 f.ot), .row 3 (f.ws.map encW) x] := fun _ => rfl
 have hsz : (bsOf ts.flatten).size = ts.flatten.length := size_bs _
 have hle := flat_le2 ts hts
 have d1 : ((20000 : Int) < (ts.flatten.length : Int)) = False := eq_false (by omega)
 refine gE Tryz.func14 rfl (by kernel_rfl) 23 rfl fun c => ?_
 (repeat (first | refine gO rfl ?_ | (refine gR fun K1 hK1 => ?_; simp only [go_sem, ↓reduceIte, reduceCtorEq, nA, nB, nC, nD, nE, nF, hfl] <;> and_intros <;> first | (apply hK1; clear hK1 K1) | (intros; first | omega | decide) | skip)))
 refine hcf.mono ?_; rintro _ hz ⟨rfl, hh⟩; apply hK1; clear hK1 K1; rw [hh]; clear hh hz
 (repeat (first | refine gO rfl ?_ | (refine gR fun K1 hK1 => ?_; simp only [go_sem, ↓reduceIte, reduceCtorEq, nA, nB, nC, nD, nE, nF] <;> and_intros <;> first | (apply hK1; clear hK1 K1) | (intros; first | omega | decide) | skip)))
 refine awp_cond (t := _) rfl (fun h6 => by cases h6) (fun _ => ?_)
 (repeat (first | refine gO rfl ?_ | (refine gR fun K1 hK1 => ?_; simp only [go_sem, ↓reduceIte, reduceCtorEq, nA, nB, nC, nD, nE, nF] <;> and_intros <;> first | (apply hK1; clear hK1 K1) | (intros; first | omega | decide) | skip)))
 refine hiw.mono ?_; rintro _ hz ⟨rfl, hh⟩; apply hK1; clear hK1 K1; rw [hh]; clear hh hz
 (repeat (first | refine gO rfl ?_ | (refine gR fun K1 hK1 => ?_; simp only [go_sem, ↓reduceIte, reduceCtorEq, nA, nB, nC, nD, nE, nF] <;> and_intros <;> first | (apply hK1; clear hK1 K1) | (intros; first | omega | decide) | skip)))
 refine awp_cond (t := _) rfl (fun h6 => by cases h6) (fun _ => ?_)
 (repeat (first | refine gO rfl ?_ | (refine gR fun K1 hK1 => ?_; simp only [go_sem, ↓reduceIte, reduceCtorEq, nA, nB, nC, nD, nE, nF, hsz, d1, decide_false] <;> and_intros <;> first | (apply hK1; clear hK1 K1) | (intros; first | omega | decide) | skip)))
 refine awp_cond (t := _) rfl (fun h6 => by cases h6) (fun _ => ?_)
 (repeat (first | refine gO rfl ?_ | (refine gR fun K1 hK1 => ?_; simp only [go_sem, ↓reduceIte, reduceCtorEq, nA, nB, nC, nD, nE, nF] <;> and_intros <;> first | (apply hK1; clear hK1 K1) | (intros; first | omega | decide) | skip)))
 refine hwa.mono ?_
 rintro _ h2 ⟨rfl, hgr⟩; apply hK1; clear hK1 K1
 (repeat (first | refine gO rfl ?_ | (refine gR fun K1 hK1 => ?_; simp only [go_sem, ↓reduceIte, reduceCtorEq, nA, nB, nC, nD, nE, nF] <;> and_intros <;> first | (apply hK1; clear hK1 K1) | (intros; first | omega | decide) | skip)))
 simp only [Tryz.results14, go_sem, ↓reduceIte, reduceCtorEq, nA, nB, nC, nD, nE, nF]
 exact ⟨_, _, Weak.refl _, Hp.le.refl _, rfl, hgr⟩
theorem upd_comm {α : Type} (f : Nat → Option α) {i j : Nat} (x y : Option α) (h : i ≠ j) : upd (upd f i x) j y = upd (upd f j y) i x := by
 funext q
 by_cases e : q = j
 ·subst e; rw [upd_same, upd_other _ _ (fun e => h e.symm), upd_same]
 ·rw [upd_other _ _ e]
  by_cases e2 : q = i
  ·subst e2; rw [upd_same, upd_same]
  ·rw [upd_other _ _ e2, upd_other _ _ e2, upd_other _ _ e]
theorem st_upd {h : Hp} {i b k : Nat} {l : List Int} {a : Int} {o : Option AO} {t : Option TO} (n : b ≠ i) : (⟨upd (h.st i l a).H b o, upd (h.st i l a).T k t⟩ : Hp) = Hp.st ⟨upd h.H b o, upd h.T k t⟩ i l a := by
 simp only [Hp.st]
 congr 1
 exact (upd_comm _ _ _ n).symm
theorem st_updH {h : Hp} {i b : Nat} {l : List Int} {a : Int} {o : Option AO} (n : b ≠ i) : (⟨upd (h.st i l a).H b o, h.T⟩ : Hp) = Hp.st ⟨upd h.H b o, h.T⟩ i l a := by
 simp only [Hp.st]
 congr 1
 exact (upd_comm _ _ _ n).symm
open Go.RowKit in
theorem bString_nil (b : Nat) (p : Value) (w : World) (hbk : w.heap[b]? = some (.cells #[p, .slice none 0 0] 74 (0, 0))) :
  Calls Tryz.prog 42 #[.pointer (some ⟨b, 0, none⟩)] w fun e w' => e = .returned (.string ⟨#[]⟩) ∧ w' = w.drew := by
 have c1 : w.drew.cell? ⟨b, 1, none⟩ = some (.slice none 0 0) := by
  have : w.drew.heap[b]? = some (.cells #[p, .slice none 0 0] 74 (0, 0)) := hbk
  rw [Lib.cell_of_heap this]; rfl
 have hSD : (Builtin.unsafeSliceData_ #[72] 116 #[.slice none 0 0]).run Tryz.prog w.drew = .ok (.pointer none) w.drew := rfl
 have hUS : (Builtin.unsafeString_ #[116, 3] 9 #[.pointer none, .int .i64 0]).run Tryz.prog w.drew = .ok (.string .empty) w.drew := Lib.run_unsafeString_none _ _ _ _ _
 have mixed : Tryz.prog.follows .mixedOrders = true := by kernel_rfl
 go_enter Tryz.func42, Tryz.ntmps42
 go_wp2
 go_region_o
 all_goals (go_wp2; go_ret; exact ⟨rfl, rfl⟩)
theorem g_bString0 (b : Nat) (h : Hp) (hb : h.H b = some (.obj 74 [.v (.pointer none), .v (.slice none 0 0)])) :
  ACalls Tryz.prog 42 [.ptr b 0] h (fun r h' => r = .v (.string ⟨#[]⟩) ∧ h' = h) := by
 refine acalls_mk (by kernel_rfl) fun G w vs hs hv ha => ?_
 obtain ⟨p, rfl, hat⟩ := one_ptr (h := h) (w := w) hv ha
 obtain ⟨p', ob, e', hh, ⟨us, rfl, hrr⟩, hval⟩ := hs.obj b _ hb
 rw [hat] at e'; cases e'
 obtain ⟨x, y, rfl, hx, hy⟩ := two_cells hrr
 cases hx
 cases hy
 refine (bString_nil p _ w hh).mono ?_
 rintro e w' ⟨rfl, rfl⟩
 have hbel : RowKit.Below w.heap.size w w.drew := RowKit.Below.drew (RowKit.Below.refl _ w)
 have hb' : ∀ b, b < w.heap.size → w.drew.heap[b]? = w.heap[b]? := fun _ _ => rfl
 exact ⟨_, rfl, .v (.string ⟨#[]⟩), h, G, ⟨rfl, rfl⟩, GLe.refl _, Fr.below (Fr.refl _ _ _) hb' hbel.os hbel.tape hbel.output hbel.size, hs.below hb', .v _ rfl⟩
def eightT : List (List Tok) := [[[97], [97], [97]], [[98], [98]], [[105]], [[99], [99], [99], [99]], [[97], [98], [99], [100], [101], [102], [103], [104], [105]], [[195, 169], [105]], [[255]], [[97]]]
def sixT : List (List Tok) := [[[32]], [[32]], [[32]], [[32], [32]], [[10]], [[32], [10]]]
theorem eightT_ok : ∀ x ∈ eightT, (∀ t ∈ x, t ∈ toks) ∧ 1 ≤ x.length ∧ x.length ≤ 9 := by decide
theorem sixT_ok : ∀ x ∈ sixT, (∀ t ∈ x, t ∈ toks) ∧ 1 ≤ x.length ∧ x.length ≤ 2 := by decide
def bsT (x : List Tok) : ByteArray := bsOf x.flatten
theorem flat_ge (ts : List Tok) (hts : ∀ t ∈ ts, t ∈ toks) : ts.length ≤ ts.flatten.length := by
 induction ts with
 | nil => simp
 | cons t ts ih =>
  have := toks_pos t (hts t (by simp))
  have := ih fun x hx => hts x (by simp [hx])
  simp only [List.flatten_cons, List.length_append, List.length_cons]
  omega
theorem g_wording (i : Nat) (l : List Int) (a : Int) (h : Hp) (hl : SOk l) (ha : 0 ≤ a ∧ a ≤ 1000000) :
  ACalls Tryz.prog 8 [.ptr i 0] (h.st i l a) (fun r h' => ∃ (ts : List Tok) (a' : Int), r = .v (.string (bsOf ts.flatten)) ∧ (∀ t ∈ ts, t ∈ toks) ∧ ts.length ≤ 200 ∧ (a ≤ a' ∧ a' ≤ a + 30) ∧ h' = h.st i l a') := by
 have hsw := fun a h ha => g_some i l a (eightT.map bsT) none h hl ha (by decide)
 have hsg := fun a h ha => g_some i l a (sixT.map bsT) none h hl ha (by decide)
 have e1 : (eightT.map bsT).map encS = [[.v (.string ⟨#[97, 97, 97]⟩)], [.v (.string ⟨#[98, 98]⟩)], [.v (.string ⟨#[105]⟩)], [.v (.string ⟨#[99, 99, 99, 99]⟩)], [.v (.string ⟨#[97, 98, 99, 100, 101, 102, 103, 104, 105]⟩)], [.v (.string ⟨#[195, 169, 105]⟩)], [.v (.string ⟨#[255]⟩)], [.v (.string ⟨#[97]⟩)]] := rfl
 have e2 : (sixT.map bsT).map encS = [[.v (.string ⟨#[32]⟩)], [.v (.string ⟨#[32]⟩)], [.v (.string ⟨#[32]⟩)], [.v (.string ⟨#[32, 32]⟩)], [.v (.string ⟨#[10]⟩)], [.v (.string ⟨#[32, 10]⟩)]] := rfl
 rw [e1] at hsw
 rw [e2] at hsg
 refine gE Tryz.func8 rfl (by kernel_rfl) 17 rfl fun c => ?_
 (first | refine gO rfl ?_ | (refine gM zM33 fun K1 hK1 => ?_; simp only [go_sem, ↓reduceIte, reduceCtorEq, nA, nB, nC, nD, nE, nF] <;> and_intros <;> first | (apply hK1; clear hK1 K1) | (intros; first | omega | decide | (simp_all <;> omega)) | skip)); (first | refine gO rfl ?_ | (refine gM zM33 fun K1 hK1 => ?_; simp only [go_sem, ↓reduceIte, reduceCtorEq, nA, nB, nC, nD, nE, nF] <;> and_intros <;> first | (apply hK1; clear hK1 K1) | (intros; first | omega | decide | (simp_all <;> omega)) | skip))
 refine awp_seq (awp_allocT tyok rfl rfl ty74 (fun b hb => ?_))
 replace hb : (h.st i l a).H b = none := hb
 have hbi : b ≠ i := by rintro rfl; rw [st_at] at hb; cases hb
 have hb0 : h.H b = none := by rw [← hb]; exact (upd_other _ _ hbi).symm
 refine (?_ : Awp _ c _ _ ⟨((.ptr i 0) :: AV.junk :: ((.v (.string ⟨#[]⟩)) :: (.ptr b 0) :: (jnk 14 []))), [], ⟨upd (h.st i l a).H b (some (.obj 74 [.v (.pointer none), .v (.slice none 0 0)])), h.T⟩⟩)
 rw [st_updH hbi]
 (repeat (first | refine gO rfl ?_ | (refine gM zM33 fun K1 hK1 => ?_; simp only [go_sem, ↓reduceIte, reduceCtorEq, nA, nB, nC, nD, nE, nF] <;> and_intros <;> first | (apply hK1; clear hK1 K1) | (intros; first | omega | decide | (simp_all <;> omega)) | skip)))
 refine (g_next i l a 12 _ hl (by omega) (by omega)).mono ?_
 rintro _ h9 ⟨x, hx, rfl, rfl⟩
 apply hK1; clear hK1 K1
 (repeat (first | refine gO rfl ?_ | (refine gM zM33 fun K1 hK1 => ?_; simp only [go_sem, ↓reduceIte, reduceCtorEq, nA, nB, nC, nD, nE, nF] <;> and_intros <;> first | (apply hK1; clear hK1 K1) | (intros; first | omega | decide | (simp_all <;> omega)) | skip)))
 by_cases hx0 : x = 0
 ·subst hx0
  refine awp_loopC (rl false [0, 1, 2, 1, 1, 2, 11]) 0 (fun g s => s = ⟨((.ptr i 0) :: AV.junk :: AV.junk :: ((.ptr b 0) :: AV.junk :: ((.v (.int .i64 0)) :: (.v (.int .i64 0)) :: (jnk 11 [])))), [], Hp.st ⟨upd h.H b (some (.obj 74 [.v (.pointer none), .v (.slice none 0 0)])), h.T⟩ i l (a + 1)⟩) 0 rfl ?_
  rintro g _ rfl
  (repeat (first | refine gO rfl ?_ | (refine gM zM33 fun K1 hK1 => ?_; simp only [go_sem, ↓reduceIte, reduceCtorEq, nA, nB, nC, nD, nE, nF] <;> and_intros <;> first | (apply hK1; clear hK1 K1) | (intros; first | omega | decide | (simp_all <;> omega)) | skip)))
  refine awp_cond (t := _) rfl (fun h5 => by cases h5) (fun h5 => ?_)
  (repeat (first | refine gO rfl ?_ | (refine gM zM33 fun K1 hK1 => ?_; simp only [go_sem, ↓reduceIte, reduceCtorEq, nA, nB, nC, nD, nE, nF] <;> and_intros <;> first | (apply hK1; clear hK1 K1) | (intros; first | omega | decide | (simp_all <;> omega)) | skip)))
  refine (g_bString0 b _ ((upd_other _ _ hbi).trans (upd_same _ _ _))).mono ?_
  rintro _ h9 ⟨rfl, rfl⟩
  apply hK1; clear hK1 K1
  (repeat (first | refine gO rfl ?_ | (refine gM zM33 fun K1 hK1 => ?_; simp only [go_sem, ↓reduceIte, reduceCtorEq, nA, nB, nC, nD, nE, nF] <;> and_intros <;> first | (apply hK1; clear hK1 K1) | (intros; first | omega | decide | (simp_all <;> omega)) | skip)))
  simp only [Tryz.results8, go_sem, ↓reduceIte, reduceCtorEq, nA, nB, nC, nD, nE, nF]
  refine ⟨_, h.st i l (a + 1), Weak.refl _, ⟨fun q => ?_, fun q => ?_⟩, [], a + 1, rfl, by simp, by simp, by omega, rfl⟩
  ·by_cases e : q = b
   ·left; subst e; exact (upd_other _ _ hbi).trans hb0
   ·right
    show upd h.H i _ q = upd (upd h.H b _) i _ q
    by_cases e2 : q = i
    ·subst e2; rw [upd_same, upd_same]
    ·rw [upd_other _ _ e2, upd_other _ _ e2, upd_other _ _ e]
  ·right; rfl
 ·obtain ⟨many, hm⟩ : ∃ m : Nat, x = (m : Int) := ⟨x.toNat, by omega⟩
  subst hm
  rw [← st_updH hbi]
  refine awp_ownBuf b 1 74 5 (cs := [.v (.pointer none), .v (.slice none 0 0)]) (upd_same _ _ _) rfl (fun k hk => ?_)
  replace hk : h.T k = none := hk
  simp only [upd_upd]
  refine awp_loopC (rl false [0, 1, 2, 1, 1, 2, 11]) 0 (fun g s => ∃ (j : Nat) (X : AV) (ts : List Tok), g + j = many ∧ (X = .v (.pointer none) ∨ X = .ptr b 0) ∧ (∀ t ∈ ts, t ∈ toks) ∧ (j ≤ ts.length ∧ ts.length ≤ 11 * j) ∧
   s = ⟨((.ptr i 0) :: AV.junk :: AV.junk :: ((.ptr b 0) :: AV.junk :: ((.v (.int .i64 many)) :: (.v (.int .i64 j)) :: (jnk 11 [])))), [], Hp.st ⟨upd h.H b (some (.obj 74 [X, .arr 1 k ts.flatten.length])), upd h.T k (some (.buf 5 (rowB ts.flatten)))⟩ i l (a + 1 + 2 * j)⟩) many ⟨0, _, [], by omega, .inl rfl, by simp, by simp, ?_⟩ ?_
  ·rw [← st_upd hbi, show a + 1 + 2 * ((0 : Nat) : Int) = a + 1 by omega]; rfl
  rintro g _ ⟨j, X, ts, hj, hX, htt, hbd, rfl⟩
  have hf1 := flat_ge ts htt
  have hf2 := flat_le2 ts htt
  (repeat (first | refine gO rfl ?_ | (refine gM zM33 fun K1 hK1 => ?_; simp only [go_sem, ↓reduceIte, reduceCtorEq, nA, nB, nC, nD, nE, nF] <;> and_intros <;> first | (apply hK1; clear hK1 K1) | (intros; first | omega | decide | (simp_all <;> omega)) | skip)))
  refine awp_cond (t := _) rfl (fun h5 => ?_) (fun h5 => ?_)
  ·simp only [decide_eq_true_eq] at h5
   (repeat (first | refine gO rfl ?_ | (refine gM zM33 fun K1 hK1 => ?_; simp only [go_sem, ↓reduceIte, reduceCtorEq, nA, nB, nC, nD, nE, nF] <;> and_intros <;> first | (apply hK1; clear hK1 K1) | (intros; first | omega | decide | (simp_all <;> omega)) | skip)))
   refine (hsw (a + 1 + 2 * j) _ (by omega)).mono ?_
   rintro _ h9 ⟨x, hx, rfl, rfl⟩
   obtain ⟨w, hw, rfl⟩ := List.mem_map.1 hx
   obtain ⟨w1, w2, w3⟩ := eightT_ok w hw
   apply hK1; clear hK1 K1
   (repeat (first | refine gO rfl ?_ | (refine gM zM33 fun K1 hK1 => ?_; simp only [go_sem, ↓reduceIte, reduceCtorEq, nA, nB, nC, nD, nE, nF] <;> and_intros <;> first | (apply hK1; clear hK1 K1) | (intros; first | omega | decide | (simp_all <;> omega)) | skip)))
   refine (hsg (a + 1 + 2 * j + 1) _ (by omega)).mono ?_
   rintro _ h9 ⟨y, hy, rfl, rfl⟩
   obtain ⟨v, hv, rfl⟩ := List.mem_map.1 hy
   obtain ⟨v1, v2, v3⟩ := sixT_ok v hv
   apply hK1; clear hK1 K1
   have hs1 : (bsT w).size ≤ 18 := by
    have := flat_le2 w w1
    show w.flatten.length ≤ 18
    omega
   have hs2 : (bsT v).size ≤ 4 := by
    have := flat_le2 v v1
    show v.flatten.length ≤ 4
    omega
   have hcat : bsT w ++ bsT v = bsT (w ++ v) := by unfold bsT; rw [bsOf_append, List.flatten_append]
   (repeat (first | refine gO rfl ?_ | (refine gM zM33 fun K1 hK1 => ?_; simp only [go_sem, ↓reduceIte, reduceCtorEq, nA, nB, nC, nD, nE, nF, hcat] <;> and_intros <;> first | (apply hK1; clear hK1 K1) | (intros; first | omega | decide | (simp_all <;> omega)) | skip)))
   have hd : (bsT (w ++ v)).data.toList = (w ++ v).flatten := rfl
   have hs3 : (bsT (w ++ v)).size = (w ++ v).flatten.length := size_bs _
   have hwv : ∀ t ∈ w ++ v, t ∈ toks := fun t ht => (List.mem_append.1 ht).elim (w1 t) (v1 t)
   have hs4 : (w ++ v).flatten.length ≤ 22 := by
    have := flat_le2 (w ++ v) hwv
    rw [List.length_append] at this
    omega
   refine (g_writeString b k ts.flatten.length X (bsT (w ++ v)) ts.flatten _ ((upd_other _ _ hbi).trans (upd_same _ _ _)) hX (upd_same _ _ _) rfl (by omega)).mono ?_
   rintro _ h9 ⟨rfl, rfl⟩
   apply hK1; clear hK1 K1
   (repeat (first | refine gO rfl ?_ | (refine gM zM33 fun K1 hK1 => ?_; simp only [go_sem, ↓reduceIte, reduceCtorEq, nA, nB, nC, nD, nE, nF] <;> and_intros <;> first | (apply hK1; clear hK1 K1) | (intros; first | omega | decide | (simp_all <;> omega)) | skip)))
   refine ⟨g - 1, by omega, j + 1, _, ts ++ (w ++ v), by omega, .inr rfl, ?_, ?_, ?_⟩
   ·intro t ht
    rcases List.mem_append.1 ht with h | h
    ·exact htt t h
    ·exact hwv t h
   ·simp only [List.length_append]; omega
   ·have hlx : (ts ++ (w ++ v)).flatten = ts.flatten ++ (w ++ v).flatten := List.flatten_append
    rw [hlx, List.length_append, st_upd hbi, hd, hs3]
    simp only [upd_upd]
    rw [show a + 1 + 2 * ((j + 1 : Nat) : Int) = a + 1 + 2 * j + 1 + 1 by omega]; rfl
  ·simp only [decide_eq_false_iff_not] at h5
   obtain rfl : j = many := by omega
   (repeat (first | refine gO rfl ?_ | (refine gM zM33 fun K1 hK1 => ?_; simp only [go_sem, ↓reduceIte, reduceCtorEq, nA, nB, nC, nD, nE, nF] <;> and_intros <;> first | (apply hK1; clear hK1 K1) | (intros; first | omega | decide | (simp_all <;> omega)) | skip)))
   refine (g_bString b k X ts.flatten _ ((upd_other _ _ hbi).trans (upd_same _ _ _)) (upd_same _ _ _) (by intro e; have := congrArg List.length e; simp only [List.length_nil] at this; omega)).mono ?_
   rintro _ h9 ⟨rfl, rfl⟩
   apply hK1; clear hK1 K1
   (repeat (first | refine gO rfl ?_ | (refine gM zM33 fun K1 hK1 => ?_; simp only [go_sem, ↓reduceIte, reduceCtorEq, nA, nB, nC, nD, nE, nF] <;> and_intros <;> first | (apply hK1; clear hK1 K1) | (intros; first | omega | decide | (simp_all <;> omega)) | skip)))
   simp only [Tryz.results8, go_sem, ↓reduceIte, reduceCtorEq, nA, nB, nC, nD, nE, nF]
   refine ⟨_, h.st i l (a + 1 + 2 * j), Weak.refl _, ⟨fun q => ?_, fun q => ?_⟩, ts, _, rfl, htt, by omega, ?_, rfl⟩
   ·by_cases e : q = b
    ·left; subst e; exact (upd_other _ _ hbi).trans hb0
    ·right
     show upd h.H i _ q = upd (upd (upd h.H b _) i _) b none q
     rw [upd_other _ _ e]
     by_cases e2 : q = i
     ·subst e2; rw [upd_same, upd_same]
     ·rw [upd_other _ _ e2, upd_other _ _ e2, upd_other _ _ e]
   ·by_cases e : q = k
    ·left; rw [e]; exact hk
    ·right; show _ = upd (upd _ _ _) _ _ _; rw [upd_other _ _ e, upd_other _ _ e]; rfl
   ·omega
theorem g_clW0 (h : Hp) : ACalls Tryz.prog 39 [.v (.slice none 0 0)] h (fun r h' => r = .v (.slice none 0 0) ∧ h' = h) := by
 refine gE Tryz.func39 rfl (by kernel_rfl) 7 rfl fun c => ?_
 (repeat (first | refine gO rfl ?_ | (refine gM zM3C fun K1 hK1 => ?_; simp only [go_sem, ↓reduceIte, reduceCtorEq, nA, nB, nC, nD, nE, nF] <;> and_intros <;> first | (apply hK1; clear hK1 K1) | (intros; first | omega | decide | (simp_all <;> omega)) | skip)))
 refine awp_cond (t := _) rfl (fun _ => ?_) (fun h1 => by cases h1)
 (repeat (first | refine gO rfl ?_ | (refine gM zM3C fun K1 hK1 => ?_; simp only [go_sem, ↓reduceIte, reduceCtorEq, nA, nB, nC, nD, nE, nF] <;> and_intros <;> first | (apply hK1; clear hK1 K1) | (intros; first | omega | decide | (simp_all <;> omega)) | skip)))
 simp only [Tryz.results39, go_sem, ↓reduceIte, reduceCtorEq, nA, nB, nC, nD, nE, nF]
 exact ⟨_, _, Weak.refl _, Hp.le.refl _, rfl, rfl⟩
theorem g_clW (x : List AV) (xs : List (List AV)) (k : Option Nat) (h : Hp) (hb : xs.length ≤ 1000) : ACalls Tryz.prog 39 [.row 3 (x :: xs) k] h (fun r h' => ∃ q, h.T q = none ∧ r = .row 3 (x :: xs) (some q) ∧ h' = { h with T := upd h.T q (some (.tail (xs.length + 1))) }) := by
 refine gE Tryz.func39 rfl (by kernel_rfl) 7 rfl fun c => ?_
 (repeat (first | refine gO rfl ?_ | (refine gM zM3C fun K1 hK1 => ?_; simp only [go_sem, ↓reduceIte, reduceCtorEq, nA, nB, nC, nD, nE, nF] <;> and_intros <;> first | (apply hK1; clear hK1 K1) | (intros; first | omega | decide | (simp_all <;> omega)) | skip)))
 refine awp_cond (t := _) rfl (fun h1 => by cases h1) (fun _ => ?_)
 (repeat (first | refine gO rfl ?_ | (refine gM zM3C fun K1 hK1 => ?_; simp only [go_sem, ↓reduceIte, reduceCtorEq, nA, nB, nC, nD, nE, nF] <;> and_intros <;> first | (apply hK1; clear hK1 K1) | (intros; first | omega | decide | (simp_all <;> omega)) | skip)))
 intro q hq
 and_intros <;> first | (refine hK1 _ ?_; clear hK1 K1) | exact .inl trivial | exact .inr rfl | exact .inr True.intro | exact True.intro | omega
 (repeat (first | refine gO rfl ?_ | (refine gM zM3C fun K1 hK1 => ?_; simp only [go_sem, ↓reduceIte, reduceCtorEq, nA, nB, nC, nD, nE, nF] <;> and_intros <;> first | (apply hK1; clear hK1 K1) | (intros; first | omega | decide | (simp_all <;> omega)) | skip)))
 simp only [Tryz.results39, go_sem, ↓reduceIte, reduceCtorEq, nA, nB, nC, nD, nE, nF]
 exact ⟨_, _, Weak.refl _, Hp.le.refl _, q, hq, rfl, rfl⟩
theorem WL.of4 {a b c d a' b' c' d' : AV} (h1 : Weak a a') (h2 : Weak b b') (h3 : Weak c c') (h4 : Weak d d') : WL [a, b, c, d] [a', b', c', d'] := WL.cons h1 (WL.cons h2 (WL.cons h3 (WL.cons h4 WL.nil)))
theorem weak_fo (key : ByteArray) (hi ot : Int) (ws : List Wd) (kk : Option Nat) : Weak (.agg [.v (.string key), .v (.int .i64 hi), .v (.int .i64 ot), .row 3 (ws.map encW) kk]) (encFo ⟨key, hi, ot, ws⟩ none) :=
 Weak.agg (WL.of4 (Weak.refl _) (Weak.refl _) (Weak.refl _) (Weak.row _ _ _))
theorem weak_fo0 (key : ByteArray) (hi ot : Int) : Weak (.agg [.v (.string key), .v (.int .i64 hi), .v (.int .i64 ot), .v (.slice none 0 0)]) (encFo ⟨key, hi, ot, []⟩ none) :=
 Weak.agg (WL.of4 (Weak.refl _) (Weak.refl _) (Weak.refl _) (Weak.nil _ _ _ ⟨rfl, rfl⟩))
theorem le_tok {h : Hp} {i q : Nat} {l : List Int} {a : Int} {o : Option TO} (hq : h.T q = none) : Hp.le (h.st i l a) ⟨(h.st i l a).H, upd (h.st i l a).T q o⟩ := ⟨fun _ => .inr rfl, fun j => by
 by_cases e : j = q
 ·left; rw [e]; exact hq
 ·right; exact (upd_other _ _ e).symm⟩
theorem two_len (k : ByteArray) : 1 ≤ [k, (⟨#[]⟩ : ByteArray)].length ∧ [k, (⟨#[]⟩ : ByteArray)].length ≤ 100 := ⟨by simp, by simp⟩
theorem two_mem {k x : ByteArray} (h : x ∈ [k, (⟨#[]⟩ : ByteArray)]) : x = k ∨ x = ⟨#[]⟩ := by simpa using h
theorem g_font (i : Nat) (l : List Int) (a : Int) (key : ByteArray) (h : Hp) (hl : SOk l) (ha : 0 ≤ a ∧ a ≤ 1000000) :
  ACalls Tryz.prog 7 [.ptr i 0, .v (.string key)] (h.st i l a) (fun r h' => ∃ (f : Fo) (a' : Int), r = encFo f none ∧ (f.key = key ∨ f.key = ⟨#[]⟩) ∧ f.ws.length ≤ 4 ∧ (a ≤ a' ∧ a' ≤ a + 30) ∧ h' = h.st i l a') := by
 refine gE Tryz.func7 rfl (by kernel_rfl) 57 rfl fun c => ?_
 (repeat (first | refine gO rfl ?_ | (refine gM zM3D fun K1 hK1 => ?_; simp only [go_sem, ↓reduceIte, reduceCtorEq, nA, nB, nC, nD, nE, nF] <;> and_intros <;> first | (apply hK1; clear hK1 K1) | (intros; first | omega | decide | (simp_all <;> omega)) | skip)))
 refine (g_pick i l a [1, 8, 10, 16] none h hl (by omega) (by decide)).mono ?_
 rintro _ h9 ⟨hi, _, rfl, rfl⟩
 apply hK1; clear hK1 K1
 (repeat (first | refine gO rfl ?_ | (refine gM zM3D fun K1 hK1 => ?_; simp only [go_sem, ↓reduceIte, reduceCtorEq, nA, nB, nC, nD, nE, nF] <;> and_intros <;> first | (apply hK1; clear hK1 K1) | (intros; first | omega | decide | (simp_all <;> omega)) | skip)))
 refine (g_pick i l (a + 1) [0, 1, 1, 2] none h hl (by omega) (by decide)).mono ?_
 rintro _ h9 ⟨ot, _, rfl, rfl⟩
 apply hK1; clear hK1 K1
 (repeat (first | refine gO rfl ?_ | (refine gM zM3D fun K1 hK1 => ?_; simp only [go_sem, ↓reduceIte, reduceCtorEq, nA, nB, nC, nD, nE, nF] <;> and_intros <;> first | (apply hK1; clear hK1 K1) | (intros; first | omega | decide | (simp_all <;> omega)) | skip)))
 refine (g_flip i l (a + 1 + 1) 2 h hl (by omega) (by omega)).mono ?_
 rintro _ h9 ⟨b, rfl, rfl⟩
 apply hK1; clear hK1 K1
 (repeat (first | refine gO rfl ?_ | (refine gM zM3D fun K1 hK1 => ?_; simp only [go_sem, ↓reduceIte, reduceCtorEq, nA, nB, nC, nD, nE, nF] <;> and_intros <;> first | (apply hK1; clear hK1 K1) | (intros; first | omega | decide | (simp_all <;> omega)) | skip)))
 refine awp_cond (t := _) rfl (fun hb => ?_) (fun hb => ?_)
 ·(repeat (first | refine gO rfl ?_ | (refine gM zM3D fun K1 hK1 => ?_; simp only [go_sem, ↓reduceIte, reduceCtorEq, nA, nB, nC, nD, nE, nF] <;> and_intros <;> first | (apply hK1; clear hK1 K1) | (intros; first | omega | decide | (simp_all <;> omega)) | skip)))
  refine (g_pick i l (a + 1 + 1 + 1) [0, 1, 1] none _ hl (by omega) (by decide)).mono ?_
  rintro _ h9 ⟨x1, _, rfl, rfl⟩
  apply hK1; clear hK1 K1
  (repeat (first | refine gO rfl ?_ | (refine gM zM3D fun K1 hK1 => ?_; simp only [go_sem, ↓reduceIte, reduceCtorEq, nA, nB, nC, nD, nE, nF] <;> and_intros <;> first | (apply hK1; clear hK1 K1) | (intros; first | omega | decide | (simp_all <;> omega)) | skip)))
  refine (g_pick i l (a + 1 + 1 + 1 + 1) [1, 2] none _ hl (by omega) (by decide)).mono ?_
  rintro _ h9 ⟨x2, _, rfl, rfl⟩
  apply hK1; clear hK1 K1
  (repeat (first | refine gO rfl ?_ | (refine gM zM3D fun K1 hK1 => ?_; simp only [go_sem, ↓reduceIte, reduceCtorEq, nA, nB, nC, nD, nE, nF] <;> and_intros <;> first | (apply hK1; clear hK1 K1) | (intros; first | omega | decide | (simp_all <;> omega)) | skip)))
  refine (g_pick i l (a + 1 + 1 + 1 + 1 + 1) [0, 1, 3] none _ hl (by omega) (by decide)).mono ?_
  rintro _ h9 ⟨x3, _, rfl, rfl⟩
  apply hK1; clear hK1 K1
  (repeat (first | refine gO rfl ?_ | (refine gM zM3D fun K1 hK1 => ?_; simp only [go_sem, ↓reduceIte, reduceCtorEq, nA, nB, nC, nD, nE, nF] <;> and_intros <;> first | (apply hK1; clear hK1 K1) | (intros; first | omega | decide | (simp_all <;> omega)) | skip)))
  refine (g_flip i l (a + 1 + 1 + 1 + 1 + 1 + 1) 15 _ hl (by omega) (by omega)).mono ?_
  rintro _ h9 ⟨b2, rfl, rfl⟩
  apply hK1; clear hK1 K1
  (repeat (first | refine gO rfl ?_ | (refine gM zM3D fun K1 hK1 => ?_; simp only [go_sem, ↓reduceIte, reduceCtorEq, nA, nB, nC, nD, nE, nF] <;> and_intros <;> first | (apply hK1; clear hK1 K1) | (intros; first | omega | decide | (simp_all <;> omega)) | skip)))
  refine awp_cond (t := _) rfl (fun hb2 => ?_) (fun hb2 => ?_)
  ·(repeat (first | refine gO rfl ?_ | (refine gM zM3D fun K1 hK1 => ?_; simp only [go_sem, ↓reduceIte, reduceCtorEq, nA, nB, nC, nD, nE, nF] <;> and_intros <;> first | (apply hK1; clear hK1 K1) | (intros; first | omega | decide | (simp_all <;> omega)) | skip)))
   refine (g_some i l (a + 1 + 1 + 1 + 1 + 1 + 1 + 1) [key, ⟨#[]⟩] none _ hl (by omega) (two_len key)).mono ?_
   rintro _ h9 ⟨key2, hk2, rfl, rfl⟩
   apply hK1; clear hK1 K1
   (repeat (first | refine gO rfl ?_ | (refine gM zM3D fun K1 hK1 => ?_; simp only [go_sem, ↓reduceIte, reduceCtorEq, nA, nB, nC, nD, nE, nF] <;> and_intros <;> first | (apply hK1; clear hK1 K1) | (intros; first | omega | decide | (simp_all <;> omega)) | skip)))
   refine (g_odd i l (a + 1 + 1 + 1 + 1 + 1 + 1 + 1 + 1) 1 1000 _ hl (by omega) (by omega) (by omega) (by omega)).mono ?_
   rintro _ h9 ⟨hi2, p1, hhi2, hp1, rfl, rfl⟩
   apply hK1; clear hK1 K1
   (repeat (first | refine gO rfl ?_ | (refine gM zM3D fun K1 hK1 => ?_; simp only [go_sem, ↓reduceIte, reduceCtorEq, nA, nB, nC, nD, nE, nF] <;> and_intros <;> first | (apply hK1; clear hK1 K1) | (intros; first | omega | decide | (simp_all <;> omega)) | skip)))
   refine (g_odd i l (p1) 0 1000 _ hl (by omega) (by omega) (by omega) (by omega)).mono ?_
   rintro _ h9 ⟨ot2, p2, hot2, hp2, rfl, rfl⟩
   apply hK1; clear hK1 K1
   (repeat (first | refine gO rfl ?_ | (refine gM zM3D fun K1 hK1 => ?_; simp only [go_sem, ↓reduceIte, reduceCtorEq, nA, nB, nC, nD, nE, nF] <;> and_intros <;> first | (apply hK1; clear hK1 K1) | (intros; first | omega | decide | (simp_all <;> omega)) | skip)))
   refine (g_clW _ _ none _ (by simp)).mono ?_
   rintro _ h9 ⟨q, hq, rfl, rfl⟩
   replace hq : h.T q = none := hq
   apply hK1; clear hK1 K1
   (repeat (first | refine gO rfl ?_ | (refine gM zM3D fun K1 hK1 => ?_; simp only [go_sem, ↓reduceIte, reduceCtorEq, nA, nB, nC, nD, nE, nF] <;> and_intros <;> first | (apply hK1; clear hK1 K1) | (intros; first | omega | decide | (simp_all <;> omega)) | skip)))
   refine (g_pick i l (p2) [106, 97, -1] none ⟨h.H, upd h.T q (some (.tail 3))⟩ hl (by omega) (by decide)).mono ?_
   rintro _ h9 ⟨y1, _, rfl, rfl⟩
   apply hK1; clear hK1 K1
   (repeat (first | refine gO rfl ?_ | (refine gM zM3D fun K1 hK1 => ?_; simp only [go_sem, ↓reduceIte, reduceCtorEq, nA, nB, nC, nD, nE, nF] <;> and_intros <;> first | (apply hK1; clear hK1 K1) | (intros; first | omega | decide | (simp_all <;> omega)) | skip)))
   refine (g_pick i l (p2 + 1) [106, 122, 1114112] none ⟨h.H, upd h.T q (some (.tail 3))⟩ hl (by omega) (by decide)).mono ?_
   rintro _ h9 ⟨y2, _, rfl, rfl⟩
   apply hK1; clear hK1 K1
   (repeat (first | refine gO rfl ?_ | (refine gM zM3D fun K1 hK1 => ?_; simp only [go_sem, ↓reduceIte, reduceCtorEq, nA, nB, nC, nD, nE, nF] <;> and_intros <;> first | (apply hK1; clear hK1 K1) | (intros; first | omega | decide | (simp_all <;> omega)) | skip)))
   refine (g_odd i l (p2 + 1 + 1) 0 1000 ⟨h.H, upd h.T q (some (.tail 3))⟩ hl (by omega) (by omega) (by omega) (by omega)).mono ?_
   rintro _ h9 ⟨y3, p3, hy3, hp3, rfl, rfl⟩
   apply hK1; clear hK1 K1
   have hTq : (Hp.st ⟨h.H, upd h.T q (some (.tail 3))⟩ i l p3).T q = some (.tail 3) := upd_same _ _ _
   (repeat (first | refine gO rfl ?_ | (refine gM zM3D fun K1 hK1 => ?_; simp only [go_sem, ↓reduceIte, reduceCtorEq, nA, nB, nC, nD, nE, nF, hTq] <;> and_intros <;> first | (apply hK1; clear hK1 K1) | (intros; first | omega | decide | (simp_all <;> omega)) | skip)))
   simp only [Tryz.results7, go_sem, ↓reduceIte, reduceCtorEq, nA, nB, nC, nD, nE, nF]
   have hle : Hp.le (h.st i l p3) ⟨(Hp.st ⟨h.H, upd h.T q (some (.tail 3))⟩ i l p3).H, upd (upd h.T q (some (.tail 3))) q (some (.tail 4))⟩ := by
    rw [upd_upd]; exact le_tok hq
   exact ⟨_, h.st i l p3, weak_fo key2 hi2 ot2 [(32, 32, x1), (97, 102, x2), (105, 105, x3), (y1, y2, y3)] (some q), hle, ⟨key2, hi2, ot2, [(32, 32, x1), (97, 102, x2), (105, 105, x3), (y1, y2, y3)]⟩, p3, rfl, two_mem hk2, by simp, by omega, rfl⟩
  ·(repeat (first | refine gO rfl ?_ | (refine gM zM3D fun K1 hK1 => ?_; simp only [go_sem, ↓reduceIte, reduceCtorEq, nA, nB, nC, nD, nE, nF] <;> and_intros <;> first | (apply hK1; clear hK1 K1) | (intros; first | omega | decide | (simp_all <;> omega)) | skip)))
   simp only [Tryz.results7, go_sem, ↓reduceIte, reduceCtorEq, nA, nB, nC, nD, nE, nF]
   exact ⟨_, _, weak_fo key hi ot [(32, 32, x1), (97, 102, x2), (105, 105, x3)] none, Hp.le.refl _, ⟨key, hi, ot, [(32, 32, x1), (97, 102, x2), (105, 105, x3)]⟩, _, rfl, .inl rfl, by simp, by omega, rfl⟩
 ·(repeat (first | refine gO rfl ?_ | (refine gM zM3D fun K1 hK1 => ?_; simp only [go_sem, ↓reduceIte, reduceCtorEq, nA, nB, nC, nD, nE, nF] <;> and_intros <;> first | (apply hK1; clear hK1 K1) | (intros; first | omega | decide | (simp_all <;> omega)) | skip)))
  refine (g_flip i l (a + 1 + 1 + 1) 15 _ hl (by omega) (by omega)).mono ?_
  rintro _ h9 ⟨b2, rfl, rfl⟩
  apply hK1; clear hK1 K1
  (repeat (first | refine gO rfl ?_ | (refine gM zM3D fun K1 hK1 => ?_; simp only [go_sem, ↓reduceIte, reduceCtorEq, nA, nB, nC, nD, nE, nF] <;> and_intros <;> first | (apply hK1; clear hK1 K1) | (intros; first | omega | decide | (simp_all <;> omega)) | skip)))
  refine awp_cond (t := _) rfl (fun hb2 => ?_) (fun hb2 => ?_)
  ·(repeat (first | refine gO rfl ?_ | (refine gM zM3D fun K1 hK1 => ?_; simp only [go_sem, ↓reduceIte, reduceCtorEq, nA, nB, nC, nD, nE, nF] <;> and_intros <;> first | (apply hK1; clear hK1 K1) | (intros; first | omega | decide | (simp_all <;> omega)) | skip)))
   refine (g_some i l (a + 1 + 1 + 1 + 1) [key, ⟨#[]⟩] none _ hl (by omega) (two_len key)).mono ?_
   rintro _ h9 ⟨key2, hk2, rfl, rfl⟩
   apply hK1; clear hK1 K1
   (repeat (first | refine gO rfl ?_ | (refine gM zM3D fun K1 hK1 => ?_; simp only [go_sem, ↓reduceIte, reduceCtorEq, nA, nB, nC, nD, nE, nF] <;> and_intros <;> first | (apply hK1; clear hK1 K1) | (intros; first | omega | decide | (simp_all <;> omega)) | skip)))
   refine (g_odd i l (a + 1 + 1 + 1 + 1 + 1) 1 1000 _ hl (by omega) (by omega) (by omega) (by omega)).mono ?_
   rintro _ h9 ⟨hi2, p1, hhi2, hp1, rfl, rfl⟩
   apply hK1; clear hK1 K1
   (repeat (first | refine gO rfl ?_ | (refine gM zM3D fun K1 hK1 => ?_; simp only [go_sem, ↓reduceIte, reduceCtorEq, nA, nB, nC, nD, nE, nF] <;> and_intros <;> first | (apply hK1; clear hK1 K1) | (intros; first | omega | decide | (simp_all <;> omega)) | skip)))
   refine (g_odd i l (p1) 0 1000 _ hl (by omega) (by omega) (by omega) (by omega)).mono ?_
   rintro _ h9 ⟨ot2, p2, hot2, hp2, rfl, rfl⟩
   apply hK1; clear hK1 K1
   (repeat (first | refine gO rfl ?_ | (refine gM zM3D fun K1 hK1 => ?_; simp only [go_sem, ↓reduceIte, reduceCtorEq, nA, nB, nC, nD, nE, nF] <;> and_intros <;> first | (apply hK1; clear hK1 K1) | (intros; first | omega | decide | (simp_all <;> omega)) | skip)))
   refine (g_clW0 _).mono ?_
   rintro _ h9 ⟨rfl, rfl⟩
   apply hK1; clear hK1 K1
   (repeat (first | refine gO rfl ?_ | (refine gM zM3D fun K1 hK1 => ?_; simp only [go_sem, ↓reduceIte, reduceCtorEq, nA, nB, nC, nD, nE, nF] <;> and_intros <;> first | (apply hK1; clear hK1 K1) | (intros; first | omega | decide | (simp_all <;> omega)) | skip)))
   refine (g_pick i l (p2) [106, 97, -1] none _ hl (by omega) (by decide)).mono ?_
   rintro _ h9 ⟨y1, _, rfl, rfl⟩
   apply hK1; clear hK1 K1
   (repeat (first | refine gO rfl ?_ | (refine gM zM3D fun K1 hK1 => ?_; simp only [go_sem, ↓reduceIte, reduceCtorEq, nA, nB, nC, nD, nE, nF] <;> and_intros <;> first | (apply hK1; clear hK1 K1) | (intros; first | omega | decide | (simp_all <;> omega)) | skip)))
   refine (g_pick i l (p2 + 1) [106, 122, 1114112] none _ hl (by omega) (by decide)).mono ?_
   rintro _ h9 ⟨y2, _, rfl, rfl⟩
   apply hK1; clear hK1 K1
   (repeat (first | refine gO rfl ?_ | (refine gM zM3D fun K1 hK1 => ?_; simp only [go_sem, ↓reduceIte, reduceCtorEq, nA, nB, nC, nD, nE, nF] <;> and_intros <;> first | (apply hK1; clear hK1 K1) | (intros; first | omega | decide | (simp_all <;> omega)) | skip)))
   refine (g_odd i l (p2 + 1 + 1) 0 1000 _ hl (by omega) (by omega) (by omega) (by omega)).mono ?_
   rintro _ h9 ⟨y3, p3, hy3, hp3, rfl, rfl⟩
   apply hK1; clear hK1 K1
   (repeat (first | refine gO rfl ?_ | (refine gM zM3D fun K1 hK1 => ?_; simp only [go_sem, ↓reduceIte, reduceCtorEq, nA, nB, nC, nD, nE, nF] <;> and_intros <;> first | (apply hK1; clear hK1 K1) | (intros; first | omega | decide | (simp_all <;> omega)) | skip)))
   intro q hq
   replace hq : h.T q = none := hq
   apply hK1; clear hK1 K1
   (repeat (first | refine gO rfl ?_ | (refine gM zM3D fun K1 hK1 => ?_; simp only [go_sem, ↓reduceIte, reduceCtorEq, nA, nB, nC, nD, nE, nF] <;> and_intros <;> first | (apply hK1; clear hK1 K1) | (intros; first | omega | decide | (simp_all <;> omega)) | skip)))
   simp only [Tryz.results7, go_sem, ↓reduceIte, reduceCtorEq, nA, nB, nC, nD, nE, nF]
   exact ⟨_, _, weak_fo key2 hi2 ot2 [(y1, y2, y3)] (some q), le_tok hq, ⟨key2, hi2, ot2, [(y1, y2, y3)]⟩, _, rfl, two_mem hk2, by simp, by omega, rfl⟩
  ·(repeat (first | refine gO rfl ?_ | (refine gM zM3D fun K1 hK1 => ?_; simp only [go_sem, ↓reduceIte, reduceCtorEq, nA, nB, nC, nD, nE, nF] <;> and_intros <;> first | (apply hK1; clear hK1 K1) | (intros; first | omega | decide | (simp_all <;> omega)) | skip)))
   simp only [Tryz.results7, go_sem, ↓reduceIte, reduceCtorEq, nA, nB, nC, nD, nE, nF]
   exact ⟨_, _, weak_fo0 key hi ot, Hp.le.refl _, ⟨key, hi, ot, []⟩, _, rfl, .inl rfl, by simp, by omega, rfl⟩
end Go.Proofs.YtlaakjlpfgfdkaaGreatDoor
