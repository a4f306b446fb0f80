/- (*asset.Cache).order: the items that are not pinned, as they would go. -/
import Derived.Test.YtidkkmoiolffnaaGreatDoorM1
import Derived.Test.YtidkkmoiolffnaaGreatDoorAvUn
namespace Go.Proofs.YtidkkmoiolffnaaGreatDoor
open Go
set_option linter.unusedVariables false
set_option linter.unusedSimpArgs false
open Nat renaming reduceAdd → nA, reduceSub → nB, reduceMul → nC, reduceLT → nD, reduceLeDiff → nE, reduceEqDiff → nF, reduceMod → nG, reduceDiv → nH, reducePow → nI
set_option maxRecDepth 100000
set_option maxHeartbeats 8000000
abbrev zM20 : Option Tmp → Nat := mdL [(8, 2), (77, 2)]
abbrev zM21 : Option Tmp → Nat := mdL [(32, 2)]
abbrev zM22 : Option Tmp → Nat := mdL []
abbrev zM23 : Option Tmp → Nat := mdL [(6, 1)]
abbrev zM24 : Option Tmp → Nat := mdL [(3, 2)]
abbrev zM25 : Option Tmp → Nat := mdL [(5, 1), (14, 2)]
abbrev zM26 : Option Tmp → Nat := mdL [(2, 1), (6, 1), (8, 1), (12, 2)]
abbrev zM27 : Option Tmp → Nat := mdL [(2, 1)]
abbrev zM28 : Option Tmp → Nat := mdL [(4, 1)]
abbrev zM29 : Option Tmp → Nat := mdL [(9, 1)]
abbrev zK20 : Nat := 274877939775
abbrev zK21 : Nat := 35184372150525
attribute [go_sem] zM20 zM21 zM22 zM23 zM24 zM25 zM26 zM27 zM28 zM29 zK20 zK21
theorem g_order {K : Nat → Kp} {ci k : Nat} {room rule now : Int} {ps : List Nat} {h : Hp} (hC : h.H ci = some (.cells (encCa room rule now k ps.length))) (hT : h.T k = some (.cont 1 (ps.map encR))) (hl : ps.length ≤ 12) (hK : CacheH h K ps) :
  ACalls Tryz.prog 243 [.ptr ci 0] h (fun r h' => ∃ q, r = .arr 1 q (orderF rule K ps).length ∧ h'.H = h.H ∧ h'.T q = some (.cont 1 ((orderF rule K ps).map encR)) ∧ h.T q = none ∧ ∀ t, h.T t ≠ none → h'.T t = h.T t) := by
 have hcl := g_cloneK k ps h hT (by omega)
 refine gE Tryz.func243 rfl (by kernel_rfl) 14 rfl fun c => ?_
 (repeat (first | refine gO rfl ?_ | (refine gR fun K1 hK1 => ?_; simp only [go_sem, ↓reduceIte, reduceCtorEq, nA, nB, nC, nD, nE, nF, hC, encCa] <;> and_intros <;> first | (apply hK1; clear hK1 K1) | skip)))
 refine hcl.mono ?_
 rintro _ _ ⟨q, rfl, hq, rfl⟩
 refine hK1 _ ?_; clear hK1 K1
 have hqk : k ≠ q := by rintro rfl; rw [hT] at hq; cases hq
 have hde := g_delK (caps := []) (fun p => (K p).2.2.1) q ps ⟨h.H, upd h.T q (some (.cont 1 (ps.map encR)))⟩ (upd_same _ _ _) (by omega) (fun p hp T' => g_order1 (h := ⟨h.H, T'⟩) (hK p hp))
 (repeat ((refine gR fun K1 hK1 => ?_; simp only [go_sem, ↓reduceIte, reduceCtorEq, nA, nB, nC, nD, nE, nF] <;> and_intros)))
 refine hde.mono ?_
 rintro _ ⟨H2, T2⟩ ⟨q1, rfl, hH, hT1, hoth⟩
 simp only at hH hT1
 subst hH
 refine hK1 _ ?_; clear hK1 K1
 have hf1 : (ps.filter fun p => !(K p).2.2.1).length ≤ 12 := Nat.le_trans (List.length_filter_le _ _) hl
 have hsr := g_srtK (caps := [.ptr ci 0]) (fun p q => cmpK rule (K p) (K q)) q1 (ps.filter fun p => !(K p).2.2.1) ⟨h.H, T2⟩ hT1 hf1 (fun a ha b hb T' => g_compK (h := ⟨h.H, T'⟩) hC (hK a (List.mem_filter.1 ha).1) (hK b (List.mem_filter.1 hb).1))
 (repeat (first | refine gO rfl ?_ | (refine gR fun K1 hK1 => ?_; simp only [go_sem, ↓reduceIte, reduceCtorEq, nA, nB, nC, nD, nE, nF] <;> and_intros <;> first | (apply hK1; clear hK1 K1) | (intros; (decide)) | skip)))
 refine hsr.mono ?_
 rintro _ _ ⟨rfl, rfl⟩
 refine hK1 _ ?_; clear hK1 K1
 (repeat (first | refine gO rfl ?_ | (refine gR fun K1 hK1 => ?_; simp only [go_sem, ↓reduceIte, reduceCtorEq, nA, nB, nC, nD, nE, nF] <;> and_intros <;> (apply hK1; clear hK1 K1))))
 simp only [Tryz.results243, go_sem, ↓reduceIte, reduceCtorEq, nA, nB, nC, nD, nE, nF]
 refine ⟨_, _, Weak.refl _, Hp.le.refl _, q1, ?_, rfl, upd_same _ _ _, ?_, ?_⟩
 ·rw [orderF, sortI_len]
 ·by_cases e : q1 = q
  ·rw [e]; exact hq
  ·cases e9 : h.T q1 with
   | none => rfl
   | some o =>
    have := (hoth q1 e (by simp only [upd_other _ _ e, e9]; simp)).1
    exact absurd rfl this
 ·intro t ht
  have htq : t ≠ q := by rintro rfl; exact ht hq
  have h9 := hoth t htq (by simp only [upd_other _ _ htq]; exact ht)
  show upd T2 q1 _ t = _
  rw [upd_other _ _ h9.1]
  refine h9.2.trans ?_
  exact upd_other _ _ htq
theorem g_going {K : Nat → Kp} {ci k : Nat} {room rule now bytes : Int} {item : ByteArray} {ps : List Nat} {h : Hp} (hC : h.H ci = some (.cells (encCa room rule now k ps.length))) (hT : h.T k = some (.cont 1 (ps.map encR))) (hl : ps.length ≤ 12) (hK : CacheH h K ps)
  (hB : ∀ p ∈ ps, 0 ≤ (K p).2.1 ∧ (K p).2.1 ≤ 1000000000000) (hr : 0 ≤ room ∧ room ≤ 1000000000000) (hb : 0 ≤ bytes ∧ bytes ≤ 1000000000000) :
  ACalls Tryz.prog 190 [.ptr ci 0, .v (.string item), .v (.int .i64 bytes)] h (fun r h' => ∃ kt, r = .tup [.row 1 ((goingF item bytes room rule K ps).1.map encR) (some kt), .v (.bool (decide ((goingF item bytes room rule K ps).2 ≤ 0)))] ∧ h'.H = h.H ∧ ∀ t, h.T t ≠ none → h'.T t = h.T t) := by
 have hml : (ps.map encR).length = ps.length := List.length_map _
 refine gE Tryz.func190 rfl (by kernel_rfl) 68 rfl fun c => ?_
 (repeat (first | refine gO rfl ?_ | (refine gR fun K1 hK1 => ?_; simp only [go_sem, ↓reduceIte, reduceCtorEq, nA, nB, nC, nD, nE, nF, hC, encCa] <;> and_intros <;> first | (apply hK1; clear hK1 K1) | (intros; (omega)))))
 refine awp_loopC (rl false [0, 3, 5, 1, 14, 3, 45]) 0 (fun g s => ∃ (j : Nat) (o : Int), g + j = ps.length ∧ overF item K (ps.drop j) o = overF item K ps (bytes - room) ∧ -1000000000000 ≤ o ∧ o ≤ 1000000000000 + j * 1000000000000 ∧
  s = ⟨((.ptr ci 0) :: (.v (.string item)) :: (.v (.int .i64 bytes)) :: (jnk 5 ((.v (.int .i64 o)) :: (jnk 14 ((.arr 1 k ps.length) :: (.v (.int .i64 ps.length)) :: (.v (.int .i64 j)) :: (jnk 45 [])))))), [], h⟩) ps.length ⟨0, bytes - room, by omega, by rw [List.drop_zero], by omega, by omega, rfl⟩ ?_
 rintro g _ ⟨j, o, hj, ho, ho1, ho2, rfl⟩
 (repeat (first | refine gO rfl ?_ | (refine gR fun K1 hK1 => ?_; simp only [go_sem, ↓reduceIte, reduceCtorEq, nA, nB, nC, nD, nE, nF] <;> and_intros <;> (apply hK1; clear hK1 K1))))
 refine awp_cond (t := _) rfl (fun h1 => ?_) (fun h1 => ?_)
 ·simp only [decide_eq_true_eq] at h1
  have hjl : j < ps.length := by omega
  have gx : (ps.map encR).getD j [] = encR (ps.getD j default) := getD_enc encR ps j default hjl
  have hdj := drop_at' ps j default hjl
  have hpm : ps.getD j default ∈ ps := by rw [List.getD_eq_getElem?_getD, List.getElem?_eq_getElem hjl]; exact List.getElem_mem _
  obtain ⟨p, hp⟩ : ∃ p, ps.getD j default = p := ⟨_, rfl⟩
  rw [hp] at gx hdj hpm
  have hhp := hK p hpm
  have hbp := hB p hpm
  obtain ⟨o9, ho9⟩ : ∃ o9, overF item K ps (bytes - room) = o9 := ⟨_, rfl⟩
  rw [ho9] at ho ⊢
  rw [hdj, overF] at ho
  generalize K p = x at *
  obtain ⟨ke, by1, pi, ca, la, ma⟩ := x
  simp only at ho hbp
  (repeat (first | refine gO rfl ?_ | (refine gR fun K1 hK1 => ?_; simp only [go_sem, ↓reduceIte, reduceCtorEq, nA, nB, nC, nD, nE, nF, hT, hml, Int.toNat_natCast, gx, encR, hhp, encKp] <;> and_intros <;> first | (apply hK1; clear hK1 K1) | (intros; (omega)))))
  by_cases e : ke = item
  ·refine awp_cond (t := _) rfl (fun h9 => absurd h9 (by rw [e]; simp [ba_beq])) (fun _ => ?_)
   rw [if_pos e] at ho
   (repeat (first | refine gO rfl ?_ | (refine gR fun K1 hK1 => ?_; simp only [go_sem, ↓reduceIte, reduceCtorEq, nA, nB, nC, nD, nE, nF] <;> and_intros <;> first | (apply hK1; clear hK1 K1) | (intros; (omega)))))
   exact ⟨g - 1, by omega, j + 1, o, by omega, ho, ho1, by omega, rfl⟩
  ·refine awp_cond (t := _) rfl (fun _ => ?_) (fun h9 => absurd (by simpa [ba_beq] using h9) e)
   rw [if_neg e] at ho
   (repeat (first | refine gO rfl ?_ | (refine gR fun K1 hK1 => ?_; simp only [go_sem, ↓reduceIte, reduceCtorEq, nA, nB, nC, nD, nE, nF, hhp, encKp] <;> and_intros <;> first | (apply hK1; clear hK1 K1) | (intros; (omega)))))
   exact ⟨g - 1, by omega, j + 1, o + by1, by omega, ho, by omega, by omega, rfl⟩
 ·simp only [decide_eq_false_iff_not] at h1
  have hjl : j = ps.length := by omega
  subst hjl
  rw [List.drop_length] at ho
  simp only [overF] at ho
  (repeat refine gO rfl ?_)
  refine awp_seq ?_
  refine awp_AL ?_
  refine AL.cons rfl (Quiet.aop (q_move (.inr rfl)) ?_)
  refine AL.nil ?_
  refine awp_own 11 1 rfl ⟨rfl, rfl⟩ (fun kt hkt => ?_)
  refine awp_cut (rl false [0, 3, 5, 1, 2, 1, 59]) 0 (?_ : Awp _ _ _ _ ⟨((.ptr ci 0) :: (.v (.string item)) :: (.v (.int .i64 bytes)) :: (jnk 5 ((.v (.int .i64 o)) :: AV.junk :: AV.junk :: ((.row 1 [] (some kt)) :: (jnk 59 []))))), [], ⟨h.H, upd h.T kt (some (.tail 0))⟩⟩)
  have hkt' : h.T kt = none := hkt
  have hkk : k ≠ kt := by rintro rfl; rw [hT] at hkt'; cases hkt'
  have hor := g_order (K := K) (rule := rule) (h := ⟨h.H, upd h.T kt (some (.tail 0))⟩) hC ((upd_other _ _ hkk).trans hT) hl hK
  (repeat (first | refine gO rfl ?_ | (refine gR fun K1 hK1 => ?_; simp only [go_sem, ↓reduceIte, reduceCtorEq, nA, nB, nC, nD, nE, nF] <;> and_intros)))
  refine hor.mono ?_
  rintro _ ⟨H2, T2⟩ ⟨q, rfl, hH, hT2, hq, hoth⟩
  simp only at hH hT2
  subst hH
  refine hK1 _ ?_; clear hK1 K1 hor
  have hqkt : q ≠ kt := by
   intro e
   have hq' : upd h.T kt (some (.tail 0)) q = none := hq
   rw [e, upd_same] at hq'; cases hq'
  have hT2k : T2 kt = some (.tail 0) := by
   have := hoth kt (by show upd h.T kt _ kt ≠ none; rw [upd_same]; simp)
   exact this.trans (upd_same _ _ _)
  have hold : ∀ t, h.T t ≠ none → T2 t = h.T t ∧ t ≠ kt := fun t ht => by
   have htk : t ≠ kt := by rintro rfl; exact ht hkt'
   have := hoth t (by show upd h.T kt _ t ≠ none; rw [upd_other _ _ htk]; exact ht)
   exact ⟨this.trans (upd_other _ _ htk), htk⟩
  have hom : ∀ p ∈ orderF rule K ps, p ∈ ps := fun p hp => orderF_mem hp
  have hol := orderF_len rule K ps
  unfold goingF
  rw [← ho]
  generalize orderF rule K ps = ord at *
  generalize hG : goF item K ord o = G
  have hol2 : (ord.map encR).length = ord.length := List.length_map _
  clear hoth
  (repeat (first | refine gO rfl ?_ | (refine gR fun K1 hK1 => ?_; simp only [go_sem, ↓reduceIte, reduceCtorEq, nA, nB, nC, nD, nE, nF] <;> and_intros <;> (apply hK1; clear hK1 K1))))
  refine awp_loopC (rl false [0, 3, 5, 1, 2, 1, 31, 3, 25]) 0 (fun g s => ∃ (j : Nat) (o : Int) (acc : List Nat), g + j = ord.length ∧ acc ++ (goF item K (ord.drop j) o).1 = G.1 ∧ (goF item K (ord.drop j) o).2 = G.2 ∧ acc.length ≤ j ∧ -1000000000000 ≤ o ∧ o ≤ 100000000000000 ∧
   s = ⟨((.ptr ci 0) :: (.v (.string item)) :: (.v (.int .i64 bytes)) :: (jnk 5 ((.v (.int .i64 o)) :: AV.junk :: AV.junk :: ((.row 1 (acc.map encR) (some kt)) :: (jnk 31 ((.arr 1 q ord.length) :: (.v (.int .i64 ord.length)) :: (.v (.int .i64 j)) :: (jnk 25 []))))))), [], ⟨h.H, upd T2 kt (some (.tail acc.length))⟩⟩) ord.length ⟨0, o, [], by omega, by rw [List.drop_zero, hG]; rfl, by rw [List.drop_zero, hG], Nat.le_refl _, ho1, by omega, ?_⟩ ?_
  ·have e2 : upd T2 kt (some (TO.tail ([] : List Nat).length)) = T2 := by
    funext t
    by_cases e : t = kt
    ·rw [e, upd_same, hT2k]; rfl
    ·rw [upd_other _ _ e]
   rw [e2]; rfl
  rintro g _ ⟨j, o2, acc, hj, hg1, hg2, hac, hb1, hb2, rfl⟩
  (repeat (first | refine gO rfl ?_ | (refine gR fun K1 hK1 => ?_; simp only [go_sem, ↓reduceIte, reduceCtorEq, nA, nB, nC, nD, nE, nF] <;> and_intros <;> (apply hK1; clear hK1 K1))))
  refine awp_cond (t := _) rfl (fun h1 => ?_) (fun h1 => ?_)
  ·simp only [decide_eq_true_eq] at h1
   have hjl : j < ord.length := by omega
   have gx : (ord.map encR).getD j [] = encR (ord.getD j default) := getD_enc encR ord j default hjl
   have hdj := drop_at' ord j default hjl
   have hpm : ord.getD j default ∈ ord := by rw [List.getD_eq_getElem?_getD, List.getElem?_eq_getElem hjl]; exact List.getElem_mem _
   obtain ⟨p, hp⟩ : ∃ p, ord.getD j default = p := ⟨_, rfl⟩
   rw [hp] at gx hdj hpm
   have hhp := hK p (hom p hpm)
   have hbp := hB p (hom p hpm)
   have htq : upd T2 kt (some (TO.tail acc.length)) q = some (.cont 1 (ord.map encR)) := (upd_other _ _ hqkt).trans hT2
   have htk2 : upd T2 kt (some (TO.tail acc.length)) kt = some (.tail acc.length) := upd_same _ _ _
   rw [hdj, goF] at hg1 hg2
   generalize K p = x at *
   obtain ⟨ke, by1, pi, ca, la, ma⟩ := x
   simp only at hg1 hg2 hbp
   (repeat (first | refine gO rfl ?_ | (refine gR fun K1 hK1 => ?_; simp only [go_sem, ↓reduceIte, reduceCtorEq, nA, nB, nC, nD, nE, nF, htq, hol2, Int.toNat_natCast, gx, encR] <;> and_intros <;> first | (apply hK1; clear hK1 K1) | (intros; (omega)))))
   refine awp_cond (t := _) rfl (fun h2 => ?_) (fun h2 => ?_)
   ·simp only [decide_eq_true_eq] at h2
    rw [if_pos h2] at hg1 hg2
    simp only at hg1 hg2
    (repeat (first | refine gO rfl ?_ | (refine gR fun K1 hK1 => ?_; simp only [go_sem, ↓reduceIte, reduceCtorEq, nA, nB, nC, nD, nE, nF] <;> and_intros <;> (apply hK1; clear hK1 K1))))
    simp only [Tryz.results190, go_sem, ↓reduceIte, reduceCtorEq, nA, nB, nC, nD, nE, nF]
    refine ⟨_, _, Weak.refl _, Hp.le.refl _, kt, by rw [← hg1, ← hg2, List.append_nil], rfl, fun t ht => ?_⟩
    exact (upd_other _ _ (hold t ht).2).trans (hold t ht).1
   ·simp only [decide_eq_false_iff_not] at h2
    rw [if_neg h2] at hg1 hg2
    (repeat (first | refine gO rfl ?_ | (refine gR fun K1 hK1 => ?_; simp only [go_sem, ↓reduceIte, reduceCtorEq, nA, nB, nC, nD, nE, nF, hhp, encKp] <;> and_intros <;> (apply hK1; clear hK1 K1))))
    by_cases e : ke = item
    ·refine awp_cond (t := _) rfl (fun h9 => absurd h9 (by rw [e]; simp [ba_beq])) (fun _ => ?_)
     rw [if_pos e] at hg1 hg2
     (repeat (first | refine gO rfl ?_ | (refine gR fun K1 hK1 => ?_; simp only [go_sem, ↓reduceIte, reduceCtorEq, nA, nB, nC, nD, nE, nF] <;> and_intros <;> first | (apply hK1; clear hK1 K1) | (intros; (omega)))))
     exact ⟨g - 1, by omega, j + 1, o2, acc, by omega, hg1, hg2, by omega, hb1, hb2, rfl⟩
    ·refine awp_cond (t := _) rfl (fun _ => ?_) (fun h9 => absurd (by simpa [ba_beq] using h9) e)
     rw [if_neg e] at hg1 hg2
     (repeat (first | refine gO rfl ?_ | (refine gR fun K1 hK1 => ?_; simp only [go_sem, ↓reduceIte, reduceCtorEq, nA, nB, nC, nD, nE, nF, hhp, encKp, htk2, List.length_map] <;> and_intros <;> first | (apply hK1; clear hK1 K1) | (intros; first | omega | decide))))
     refine ⟨g - 1, by omega, j + 1, o2 - by1, acc ++ [p], by omega, by rw [List.append_assoc]; exact hg1, hg2, by rw [List.length_append, List.length_singleton]; omega, by omega, by omega, ?_⟩
     rw [List.map_append, List.length_append]
     rfl
  ·simp only [decide_eq_false_iff_not] at h1
   have hjl : j = ord.length := by omega
   subst hjl
   rw [List.drop_length, goF] at hg1 hg2
   simp only at hg1 hg2
   (repeat (first | refine gO rfl ?_ | (refine gR fun K1 hK1 => ?_; simp only [go_sem, ↓reduceIte, reduceCtorEq, nA, nB, nC, nD, nE, nF] <;> and_intros <;> (apply hK1; clear hK1 K1))))
   simp only [Tryz.results190, go_sem, ↓reduceIte, reduceCtorEq, nA, nB, nC, nD, nE, nF]
   refine ⟨_, _, Weak.refl _, Hp.le.refl _, kt, by rw [← hg1, ← hg2, List.append_nil], rfl, fun t ht => ?_⟩
   exact (upd_other _ _ (hold t ht).2).trans (hold t ht).1
abbrev zPVE : List Nat := [0, 1, 2, 3, 4, 5, 6, 7, 8, 9, 10, 11, 12, 13]
abbrev zPVP : List (Nat × List Nat × List Nat) := []
attribute [go_sem] zPVE zPVP
def encNm (x : Kp) : List AV := [.v (.string x.1)]
def PutR (room rule now bytes : Int) (item : ByteArray) (K : Nat → Kp) (ps : List Nat) (ci k : Nat) (h : Hp) (r : AV) (h' : Hp) : Prop :=
 match putL room rule now (ps.map K) item bytes with
 | none => r = .tup [.v (.slice none 0 0), .v (.int .i64 12)] ∧ h'.H = h.H ∧ ∀ t, h.T t ≠ none → h'.T t = h.T t
 | some (L', g) => ∃ (K' : Nat → Kp) (ps' : List Nat) (k' kt : Nat), r = .tup [.row 1 (g.map encNm) (some kt), .v (.int .i64 0)] ∧ ps'.map K' = L' ∧ CacheH h' K' ps' ∧ h'.H ci = some (.cells (encCa room rule (now + 1) k' ps'.length)) ∧
   h'.T k' = some (.cont 1 (ps'.map encR)) ∧ ci ∉ ps' ∧ (∀ q, h.H q ≠ none → q ≠ ci → q ∉ ps → h'.H q = h.H q) ∧ ∀ t, h.T t ≠ none → t ≠ k → h'.T t = h.T t
theorem goingF_mem {item : ByteArray} {bytes room rule : Int} {K : Nat → Kp} {ps : List Nat} {p : Nat} (h : p ∈ (goingF item bytes room rule K ps).1) : p ∈ ps := orderF_mem (goF_mem h)
theorem goF_not {item : ByteArray} {K : Nat → Kp} : ∀ {ps : List Nat} {o : Int} {p : Nat}, p ∈ (goF item K ps o).1 → (K p).1 ≠ item
 | [], _, _, h => by simp [goF] at h
 | q :: ps, o, p, h => by
  unfold goF at h
  split at h
  ·simp at h
  ·split at h
   ·exact goF_not h
   ·rename_i e
    rcases List.mem_cons.1 h with rfl | h
    ·exact e
    ·exact goF_not h
theorem findF_cases (item : ByteArray) (K : Nat → Kp) (ps : List Nat) : (hasL item (ps.map K) = false ∧ findF item K ps = nilP) ∨ ∃ p ∈ ps, (K p).1 = item ∧ hasL item (ps.map K) = true ∧ findF item K ps = .ptr p 0 := by
 unfold findF
 cases e : ps.find? (fun p => (K p).1 == item) with
 | none =>
  refine .inl ⟨?_, rfl⟩
  cases hh : hasL item (ps.map K) with
  | false => rfl
  | true =>
   obtain ⟨x, hx, e2⟩ := hasL_iff.1 hh
   obtain ⟨p, hp, rfl⟩ := List.mem_map.1 hx
   have := List.find?_eq_none.1 e p hp
   rw [ba_beq] at this
   simp [e2] at this
 | some p =>
  have h1 := List.find?_some e
  have h2 := List.mem_of_find?_eq_some e
  rw [ba_beq] at h1
  have h3 : (K p).1 = item := by simpa using h1
  exact .inr ⟨p, h2, h3, hasL_iff.2 ⟨K p, List.mem_map_of_mem h2, h3⟩, rfl⟩
theorem g_put {K : Nat → Kp} {ci k : Nat} {room rule now bytes : Int} {item : ByteArray} {ps : List Nat} {h : Hp} (hC : h.H ci = some (.cells (encCa room rule now k ps.length))) (hT : h.T k = some (.cont 1 (ps.map encR))) (hl : ps.length ≤ 11) (hK : CacheH h K ps)
  (hci : ci ∉ ps) (hone : KeysOne (ps.map K)) (hKey : ∀ h, ACalls Tryz.prog 151 [.v (.string item)] h (fun r h' => r = .v (.bool true) ∧ h' = h))
  (hB : ∀ p ∈ ps, 0 ≤ (K p).2.1 ∧ (K p).2.1 ≤ 1000000000000) (hM : ∀ p ∈ ps, 0 ≤ (K p).2.2.2.2.2 ∧ (K p).2.2.2.2.2 ≤ 1000000000) (hr : 0 ≤ room ∧ room ≤ 1000000000000) (hb : 1 ≤ bytes ∧ bytes ≤ 1000000000000) (hnow : 0 ≤ now ∧ now ≤ 1000000000) :
  ACalls Tryz.prog 135 [.ptr ci 0, .v (.string item), .v (.int .i64 bytes)] h (PutR room rule now bytes item K ps ci k h) := by
 have hgo := g_going (item := item) (bytes := bytes) hC hT (by omega) hK hB hr (by omega)
 have hgm := goingF_map item bytes room rule K ps
 have hgmem : ∀ p ∈ (goingF item bytes room rule K ps).1, p ∈ ps := fun p hp => goingF_mem hp
 have hgnot : ∀ p ∈ (goingF item bytes room rule K ps).1, (K p).1 ≠ item := fun p hp => goF_not hp
 have hglen : (goingF item bytes room rule K ps).1.length ≤ ps.length := Nat.le_trans (goF_len item K _ _) (orderF_len rule K ps)
 have hP : putL room rule now (ps.map K) item bytes = putL room rule now (ps.map K) item bytes := rfl
 conv at hP => rhs; unfold putL; rw [← hgm]
 simp only at hP
 generalize goingF item bytes room rule K ps = go at *
 obtain ⟨gone, over⟩ := go
 simp only at hP hgmem hgnot hglen hgo
 clear hgm
 have hOut := a_outside bytes 1 1000000000000
 have hOutE : (decide (bytes < 1) || decide (1000000000000 < bytes)) = false := by simp; omega
 refine gE Tryz.func135 rfl (by kernel_rfl) 93 rfl fun c => ?_
 (repeat (first | refine gO rfl ?_ | ((refine gM zM20 fun K1 hK1 => ?_; simp only [go_sem, ↓reduceIte, reduceCtorEq, nA, nB, nC, nD, nE, nF] <;> and_intros <;> first | (apply hK1; clear hK1 K1) | skip))))
 refine (hKey _).mono ?_; rintro _ hz ⟨rfl, hh⟩; apply hK1; clear hK1 K1; rw [hh]; clear hh hz
 (repeat (first | refine gO rfl ?_ | ((refine gM zM20 fun K1 hK1 => ?_; simp only [go_sem, ↓reduceIte, reduceCtorEq, nA, nB, nC, nD, nE, nF] <;> and_intros <;> (apply hK1; clear hK1 K1)))))
 refine awp_cond (t := _) rfl (fun h9 => by cases h9) (fun _ => ?_)
 (repeat (first | refine gO rfl ?_ | ((refine gM zM20 fun K1 hK1 => ?_; simp only [go_sem, ↓reduceIte, reduceCtorEq, nA, nB, nC, nD, nE, nF] <;> and_intros))))
 refine (hOut _).mono ?_; rintro _ hz ⟨rfl, hh⟩; apply hK1; clear hK1 K1; rw [hh]; clear hh hz
 rw [hOutE]
 clear hKey hOut hOutE
 (repeat ((refine gO rfl ?_)))
 refine awp_cond (t := _) rfl (fun h9 => by cases h9) (fun _ => ?_)
 (repeat (first | refine gO rfl ?_ | ((refine gM zM20 fun K1 hK1 => ?_; simp only [go_sem, ↓reduceIte, reduceCtorEq, nA, nB, nC, nD, nE, nF] <;> and_intros))))
 refine hgo.mono ?_
 rintro _ ⟨H2, T2⟩ ⟨kg, rfl, hH, hold⟩
 simp only at hH hold
 subst hH
 refine hK1 _ ?_; clear hK1 K1 hgo
 (repeat (((refine gM zM20 fun K1 hK1 => ?_; simp only [go_sem, ↓reduceIte, reduceCtorEq, nA, nB, nC, nD, nE, nF] <;> and_intros))))
 intro i hi
 replace hi : h.H i = none := hi
 refine hK1 _ ?_; clear hK1 K1
 (repeat (first | refine gO rfl ?_ | ((refine gM zM20 fun K1 hK1 => ?_; simp only [go_sem, ↓reduceIte, reduceCtorEq, nA, nB, nC, nD, nE, nF, upd_same, upd_upd] <;> and_intros <;> (apply hK1; clear hK1 K1)))))
 by_cases ho : over ≤ 0
 case neg =>
  have hof : decide (over ≤ 0) = false := by simpa using ho
  rw [if_neg ho] at hP
  refine awp_cond (t := !decide (over ≤ 0)) rfl (fun _ => ?_) (fun h9 => by rw [hof] at h9; cases h9)
  (repeat (first | refine gO rfl ?_ | ((refine gM zM20 fun K1 hK1 => ?_; simp only [go_sem, ↓reduceIte, reduceCtorEq, nA, nB, nC, nD, nE, nF] <;> and_intros <;> (apply hK1; clear hK1 K1)))))
  simp only [Tryz.results135, go_sem, ↓reduceIte, reduceCtorEq, nA, nB, nC, nD, nE, nF]
  refine ⟨_, ⟨h.H, T2⟩, Weak.refl _, ⟨fun q => ?_, fun _ => .inr rfl⟩, ?_⟩
  ·by_cases e : q = i
   ·rw [e]; exact .inl hi
   ·exact .inr (upd_other _ _ e).symm
  ·unfold PutR
   rw [hP]
   exact ⟨rfl, rfl, hold⟩
 have hot : decide (over ≤ 0) = true := by simpa using ho
 rw [if_pos ho] at hP
 refine awp_cond (t := !decide (over ≤ 0)) rfl (fun h9 => by rw [hot] at h9; cases h9) (fun _ => ?_)
 have hcii : ci ≠ i := by rintro rfl; rw [hC] at hi; cases hi
 have hpi : ∀ p ∈ ps, p ≠ i := fun p hp => by rintro rfl; have := hK p hp; rw [hi] at this; cases this
 have hne : h.T k ≠ none := by rw [hT]; simp
 have hT2 : T2 k = some (.cont 1 (ps.map encR)) := (hold k hne).trans hT
 have hC3 : upd h.H i (some (.cells [.row 1 (gone.map encR) (some kg)])) ci = some (.cells (encCa room rule now k ps.length)) := (upd_other _ _ hcii).trans hC
 have hI3 : upd h.H i (some (.cells [.row 1 (gone.map encR) (some kg)])) i = some (.cells [.row 1 (gone.map encR) (some kg)]) := upd_same _ _ _
 have hK3 : CacheH ⟨upd h.H i (some (.cells [.row 1 (gone.map encR) (some kg)])), T2⟩ K ps := fun p hp => (upd_other _ _ (hpi p hp)).trans (hK p hp)
 have hfi := g_find (item := item) K ci k room rule now ps ⟨upd h.H i (some (.cells [.row 1 (gone.map encR) (some kg)])), T2⟩ hC3 hT2 (by omega) hK3
 have hfc := findF_cases item K ps
 have hus : uside (findF item K ps) := by rcases hfc with ⟨_, e⟩ | ⟨_, _, _, _, e⟩ <;> rw [e] <;> trivial
 have hun : unw (findF item K ps) = findF item K ps := by rcases hfc with ⟨_, e⟩ | ⟨_, _, _, _, e⟩ <;> rw [e] <;> rfl
 have hcl : cutLoc 0 (findF item K ps) = findF item K ps := by rcases hfc with ⟨_, e⟩ | ⟨_, _, _, _, e⟩ <;> rw [e] <;> rfl
 generalize findF item K ps = fk at *
 unfold uside at hus
 unfold unw at hun
 (repeat (first | refine gO rfl ?_ | ((refine gM zM20 fun K1 hK1 => ?_; simp only [go_sem, ↓reduceIte, reduceCtorEq, nA, nB, nC, nD, nE, nF] <;> and_intros))))
 refine hfi.mono ?_
 rintro fk hz ⟨rfl, hh⟩; apply hK1; clear hK1 K1; rw [hh]; clear hh hz
 clear hfi
 (repeat (first | refine gQ rfl ?_ | ((refine gM zM20 fun K1 hK1 => ?_; simp only [go_sem, ↓reduceIte, reduceCtorEq, nA, nB, nC, nD, nE, nF, hus, hun] <;> and_intros <;> (apply hK1; clear hK1 K1)))))
 refine awp_seq ?_
 have hlen2 : -1000000000 ≤ (ps.length : Int) - (gone.length : Int) + 1 ∧ (ps.length : Int) - (gone.length : Int) + 1 ≤ 500 := by omega
 have hbig : decide ((500 : Int) < (ps.length : Int) - (gone.length : Int) + 1) = false := by simp; omega
 have hml : (gone.map encR).length = gone.length := List.length_map _
 refine awp_join (rl false [0, 3, 5, 1, 1, 1, 85]) 0 (fun s => s = ⟨((.ptr ci 0) :: (.v (.string item)) :: (.v (.int .i64 bytes)) :: (jnk 5 ((.ptr i 0) :: AV.junk :: ((fk) :: (jnk 85 []))))), [], ⟨upd h.H i (some (.cells [.row 1 (gone.map encR) (some kg)])), T2⟩⟩) ?_ ?_
 ·rcases hfc with ⟨_, rfl⟩ | ⟨p, hp, hpk, hhas, rfl⟩
  ·unfold nilP
   (repeat (first | refine gO rfl ?_ | ((((with_reducible refine xS ?_); refine uD 9 zM20 zPVE zPVP 96 rfl (by kernel_rfl) ?_)) <;> ((try with_reducible intro K1 hK1); simp only [go_sem, ↓reduceIte, reduceCtorEq, nA, nB, nC, nD, nE, nF, hC3, hI3, encCa, hml] <;> and_intros <;> first | (apply hK1; clear hK1 K1) | (intros; (omega))))))
   refine awp_cond (t := _) rfl (fun h9 => by rw [hbig] at h9; cases h9) (fun _ => ?_)
   (repeat ((refine gO rfl ?_)))
   rfl
  ·(repeat (first | refine gO rfl ?_ | ((((with_reducible refine xS ?_); refine uD 9 zM20 zPVE zPVP 96 rfl (by kernel_rfl) ?_)) <;> ((try with_reducible intro K1 hK1); simp only [go_sem, ↓reduceIte, reduceCtorEq, nA, nB, nC, nD, nE, nF, hC3, hI3, encCa, hml] <;> and_intros <;> (apply hK1; clear hK1 K1)))))
   refine awp_cond (t := _) rfl (fun h9 => by cases h9) (fun _ => ?_)
   (repeat ((refine gO rfl ?_)))
   rfl
 rintro _ rfl
 clear hbig hlen2
 (repeat (first | refine gQ rfl ?_ | ((refine gM zM20 fun K1 hK1 => ?_; simp only [go_sem, ↓reduceIte, reduceCtorEq, nA, nB, nC, nD, nE, nF] <;> and_intros <;> (apply hK1; clear hK1 K1)))))
 refine awp_own 11 1 rfl ⟨rfl, rfl⟩ (fun kt hkt => ?_)
 replace hkt : T2 kt = none := hkt
 refine awp_cut (rl false [0, 3, 5, 1, 1, 2, 84]) 0 (?_ : Awp _ _ _ _ ⟨((.ptr ci 0) :: (.v (.string item)) :: (.v (.int .i64 bytes)) :: (jnk 5 ((.ptr i 0) :: AV.junk :: ((cutLoc 0 fk) :: (.row 1 [] (some kt)) :: (jnk 84 []))))), [], ⟨upd h.H i (some (.cells [.row 1 (gone.map encR) (some kg)])), upd T2 kt (some (.tail 0))⟩⟩)
 rw [hcl]
 have hkk : k ≠ kt := by rintro rfl; rw [hT2] at hkt; cases hkt
 have hl2 := hglen
 skip
 refine awp_seq ?_
 (repeat (first | refine gQ rfl ?_ | ((refine gM zM20 fun K1 hK1 => ?_; simp only [go_sem, ↓reduceIte, reduceCtorEq, nA, nB, nC, nD, nE, nF, hI3, hml] <;> and_intros <;> (apply hK1; clear hK1 K1)))))
 refine awp_loopC (rl false [0, 3, 5, 1, 1, 2, 33, 3, 48]) 0 (fun g s => ∃ j : Nat, g + j = gone.length ∧
  s = ⟨((.ptr ci 0) :: (.v (.string item)) :: (.v (.int .i64 bytes)) :: (jnk 5 ((.ptr i 0) :: AV.junk :: ((fk) :: (.row 1 ((gone.take j).map fun p => encNm (K p)) (some kt)) :: (jnk 33 ((.row 1 (gone.map encR) (some kg)) :: (.v (.int .i64 gone.length)) :: (.v (.int .i64 j)) :: (jnk 48 []))))))), [], ⟨upd h.H i (some (.cells [.row 1 (gone.map encR) (some kg)])), upd T2 kt (some (.tail j))⟩⟩) gone.length ⟨0, by omega, congrArg (fun z => (⟨((.ptr ci 0) :: (.v (.string item)) :: (.v (.int .i64 bytes)) :: (jnk 5 ((.ptr i 0) :: AV.junk :: ((z) :: (.row 1 ((gone.take 0).map fun p => encNm (K p)) (some kt)) :: (jnk 33 ((.row 1 (gone.map encR) (some kg)) :: (.v (.int .i64 gone.length)) :: (.v (.int .i64 ((0 : Nat) : Int))) :: (jnk 48 []))))))), [], ⟨upd h.H i (some (.cells [.row 1 (gone.map encR) (some kg)])), upd T2 kt (some (.tail 0))⟩⟩ : St)) hcl⟩ ?_
 rintro g _ ⟨j, hj, rfl⟩
 (repeat (first | refine gO rfl ?_ | ((refine gM zM20 fun K1 hK1 => ?_; simp only [go_sem, ↓reduceIte, reduceCtorEq, nA, nB, nC, nD, nE, nF] <;> and_intros <;> (apply hK1; clear hK1 K1)))))
 refine awp_cond (t := _) rfl (fun h1 => ?_) (fun h1 => ?_)
 ·simp only [decide_eq_true_eq] at h1
  have hjl : j < gone.length := by omega
  have gx : (gone.map encR).getD j [] = encR (gone.getD j default) := getD_enc encR gone j default hjl
  have htj := take_at' gone j default hjl
  have hpm : gone.getD j default ∈ ps := hgmem _ (by rw [List.getD_eq_getElem?_getD, List.getElem?_eq_getElem hjl]; exact List.getElem_mem _)
  obtain ⟨p, hp⟩ : ∃ p, gone.getD j default = p := ⟨_, rfl⟩
  rw [hp] at gx htj hpm
  have hhp := hK3 p hpm
  have hen : encNm (K p) = [.v (.string (K p).1)] := rfl
  have htl : (gone.take j).length = j := by rw [List.length_take]; omega
  have htk : upd T2 kt (some (TO.tail j)) kt = some (.tail j) := upd_same _ _ _
  generalize hx : K p = x at *
  obtain ⟨ke, by1, pi, ca, la, ma⟩ := x
  (repeat (first | refine gO rfl ?_ | ((refine gM zM20 fun K1 hK1 => ?_; simp only [go_sem, ↓reduceIte, reduceCtorEq, nA, nB, nC, nD, nE, nF, hml, Int.toNat_natCast, gx, encR, hhp, encKp, List.length_map, htl, htk] <;> and_intros <;> first | (apply hK1; clear hK1 K1) | (intros; first | omega | decide)))))
  refine ⟨g - 1, by omega, j + 1, by omega, ?_⟩
  rw [htj, List.map_append, List.map_cons, hx, hen]
  exact congrArg (fun z => (⟨((.ptr ci 0) :: (.v (.string item)) :: (.v (.int .i64 bytes)) :: (jnk 5 ((.ptr i 0) :: AV.junk :: ((z) :: (.row 1 (((gone.take j).map fun p => encNm (K p)) ++ [[.v (.string ke)]]) (some kt)) :: (jnk 33 ((.row 1 (gone.map encR) (some kg)) :: (.v (.int .i64 gone.length)) :: (.v (.int .i64 ((j : Int) + 1))) :: (jnk 48 []))))))), [], ⟨upd h.H i (some (.cells [.row 1 (gone.map encR) (some kg)])), upd T2 kt (some (.tail (j + 1)))⟩⟩ : St)) hcl
 simp only [decide_eq_false_iff_not] at h1
 have hjl : j = gone.length := by omega
 subst hjl
 rw [List.take_length]
 have hT4 : upd T2 kt (some (TO.tail gone.length)) k = some (.cont 1 (ps.map encR)) := (upd_other _ _ hkk).trans hT2
 have hde := g_delK (caps := [.ptr i 0]) (fun p => gone.contains p) k ps ⟨upd h.H i (some (.cells [.row 1 (gone.map encR) (some kg)])), upd T2 kt (some (.tail gone.length))⟩ hT4 (by omega) (fun p hp T' => g_put1 (K := K) p kg i gone ⟨_, T'⟩ hI3 (hK3 p hp) (fun q hq => hK3 q (hgmem q hq)) (by omega))
 (repeat (first | refine gO rfl ?_ | ((refine gM zM20 fun K1 hK1 => ?_; simp only [go_sem, ↓reduceIte, reduceCtorEq, nA, nB, nC, nD, nE, nF, hC3, encCa] <;> and_intros <;> first | (intros; (decide)) | skip))))
 refine hde.mono ?_
 rintro _ ⟨H5, T5⟩ ⟨q, rfl, hH5, hT5, hoth⟩
 simp only at hH5 hT5 hoth
 subst hH5
 refine hK1 _ ?_; clear hK1 K1 hde
 have hst : ps.filter (fun p => !gone.contains p) = stayF gone ps := rfl
 rw [hst] at hT5 ⊢
 have hsm : ∀ p ∈ stayF gone ps, p ∈ ps := fun p hp => (List.mem_filter.1 hp).1
 have hsl : (stayF gone ps).length ≤ ps.length := List.length_filter_le _ _
 have hsmap := stayF_map (K := K) hone hgmem
 have hone2 : KeysOne ((stayF gone ps).map K) := by rw [hsmap]; exact keysOne_filter hone _
 have hrow : gone.map (fun p => encNm (K p)) = (gone.map K).map encNm := by rw [List.map_map]; rfl
 have hTfr : ∀ t, h.T t ≠ none → t ≠ k → T5 t = h.T t ∧ t ≠ q := fun t ht htk => by
  have h1 := hold t ht
  have h2 : t ≠ kt := by rintro rfl; rw [h1] at hkt; exact ht hkt
  have h3 := hoth t htk (by rw [upd_other _ _ h2, h1]; exact ht)
  exact ⟨h3.2.trans ((upd_other _ _ h2).trans h1), h3.1⟩
 have hpci : ∀ p ∈ ps, p ≠ ci := fun p hp => by rintro rfl; exact hci hp
 generalize hSt : stayF gone ps = st at *
 rcases hfc with ⟨hhas, rfl⟩ | ⟨p, hp, hpk, hhas, rfl⟩
 ·unfold nilP
  (repeat (first | refine gO rfl ?_ | ((refine gM zM20 fun K1 hK1 => ?_; simp only [go_sem, ↓reduceIte, reduceCtorEq, nA, nB, nC, nD, nE, nF, hC3, encCa] <;> and_intros <;> (apply hK1; clear hK1 K1)))))
  obtain ⟨H6, hH6⟩ : ∃ H6, H6 = upd (upd h.H i (some (AO.cells [AV.row 1 (List.map encR gone) (some kg)]))) ci (some (AO.cells [.v (.int .i64 room), .v (.int .i64 rule), .v (.int .i64 now), AV.arr 1 q st.length])) := ⟨_, rfl⟩
  rw [← hH6]
  have c6 : H6 ci = some (.cells (encCa room rule now q st.length)) := by rw [hH6]; exact upd_same _ _ _
  have k6 : ∀ r, r ≠ ci → r ≠ i → H6 r = h.H r := fun r h1 h2 => by rw [hH6, upd_other _ _ h1, upd_other _ _ h2]
  clear hH6
  refine awp_cond (t := _) rfl (fun _ => ?_) (fun h9 => by cases h9)
  (repeat (((refine gM zM20 fun K1 hK1 => ?_; simp only [go_sem, ↓reduceIte, reduceCtorEq, nA, nB, nC, nD, nE, nF, c6, encCa] <;> and_intros <;> first | (intros; (omega)) | skip))))
  intro pn hpn
  replace hpn : H6 pn = none := hpn
  refine hK1 _ ?_; clear hK1 K1
  have hcn : ci ≠ pn := by rintro rfl; rw [c6] at hpn; cases hpn
  have hnc : pn ≠ ci := fun e => hcn e.symm
  have hrn : ∀ r, h.H r ≠ none → r ≠ ci → r ≠ pn := fun r hr h1 => by
   rintro rfl
   rw [k6 r h1 (by rintro rfl; exact hr hi)] at hpn
   exact hr hpn
  have hstl : (st.map encR).length = st.length := List.length_map _
  have hTq : ∀ X, upd T5 q (some (TO.cont 1 X)) q = some (.cont 1 X) := fun X => upd_same _ _ _
  have hask := fun H T n (hc : H ci = some (.cells (encCa room rule now q n))) (hpp : H pn = some (.cells (encKp (item, bytes, false, now + 1, 0, 0)))) => g_ask (x := (item, bytes, false, now + 1, 0, 0)) (h := ⟨H, T⟩) hc hpp hcn (by omega) (by show (0 : Int) ≤ 0 ∧ (0 : Int) ≤ 1000000000; omega)
  (repeat (first | refine gO rfl ?_ | ((refine gM zM20 fun K1 hK1 => ?_; simp only [go_sem, ↓reduceIte, reduceCtorEq, nA, nB, nC, nD, nE, nF, c6, encCa, upd_other _ _ hcn, upd_other _ _ hnc, upd_same, hT5, hstl] <;> and_intros <;> first | (apply hK1; clear hK1 K1) | (intros; first | omega | decide) | skip))))
  refine (hask _ _ (st.length + 1) ((upd_other _ _ hcn).trans (upd_same _ _ _)) (upd_same _ _ _)).mono ?_; rintro _ hz ⟨rfl, hh⟩; apply hK1; clear hK1 K1; rw [hh]; clear hh hz
  (repeat (first | refine gO rfl ?_ | ((refine gM zM20 fun K1 hK1 => ?_; simp only [go_sem, ↓reduceIte, reduceCtorEq, nA, nB, nC, nD, nE, nF] <;> and_intros <;> (apply hK1; clear hK1 K1)))))
  simp only [Tryz.results135, go_sem, ↓reduceIte, reduceCtorEq, nA, nB, nC, nD, nE, nF]
  refine ⟨_, _, Weak.refl _, Hp.le.refl _, ?_⟩
  unfold PutR
  rw [hP, hhas, if_neg (by decide)]
  have hnst : pn ∉ st := fun hm => hrn pn (by rw [hK pn (hsm pn hm)]; simp) (hpci pn (hsm pn hm)) rfl
  have hKK : st.map (fun r => if r = pn then newK item bytes now else K r) = st.map K := List.map_congr_left fun r hr => if_neg (fun (e : r = pn) => hnst (e ▸ hr))
  refine ⟨fun r => if r = pn then newK item bytes now else K r, st ++ [pn], q, kt, by rw [hrow], ?_, fun r hr => ?_, ?_, ?_, fun hm => ?_, fun r hr h1 h2 => ?_, fun t ht htk => ?_⟩
  ·rw [List.map_append, hKK, hsmap, List.map_cons, List.map_nil, if_pos rfl]
  ·show upd (upd _ ci _) pn _ r = some (AO.cells (encKp (if r = pn then newK item bytes now else K r)))
   by_cases e : r = pn
   ·rw [e, upd_same, if_pos rfl]; rfl
   ·have hrs : r ∈ st := by
     rcases List.mem_append.1 hr with h1 | h1
     ·exact h1
     ·exact absurd (List.mem_singleton.1 h1) e
    rw [upd_other _ _ e, upd_other _ _ (hpci r (hsm r hrs)), upd_other _ _ e, upd_other _ _ (hpci r (hsm r hrs)), upd_other _ _ e, k6 r (hpci r (hsm r hrs)) (hpi r (hsm r hrs)), if_neg e]
    exact hK r (hsm r hrs)
  ·show upd (upd _ ci _) pn _ ci = _
   rw [upd_other _ _ hcn, upd_same, List.length_append, List.length_singleton]
  ·show upd T5 q _ q = _
   rw [upd_same, List.map_append]; rfl
  ·rcases List.mem_append.1 hm with h1 | h1
   ·exact hci (hsm ci h1)
   ·exact hcn (List.mem_singleton.1 h1)
  ·show upd (upd _ ci _) pn _ r = _
   have e : r ≠ pn := hrn r hr h1
   have ei : r ≠ i := by rintro rfl; exact hr hi
   rw [upd_other _ _ e, upd_other _ _ h1, upd_other _ _ e, upd_other _ _ h1, upd_other _ _ e, k6 r h1 ei]
  ·show upd T5 q _ t = _
   rw [upd_other _ _ (hTfr t ht htk).2]; exact (hTfr t ht htk).1
 ·(repeat (first | refine gO rfl ?_ | ((refine gM zM20 fun K1 hK1 => ?_; simp only [go_sem, ↓reduceIte, reduceCtorEq, nA, nB, nC, nD, nE, nF, hC3, encCa] <;> and_intros <;> (apply hK1; clear hK1 K1)))))
  obtain ⟨H6, hH6⟩ : ∃ H6, H6 = upd (upd h.H i (some (AO.cells [AV.row 1 (List.map encR gone) (some kg)]))) ci (some (AO.cells [.v (.int .i64 room), .v (.int .i64 rule), .v (.int .i64 now), AV.arr 1 q st.length])) := ⟨_, rfl⟩
  rw [← hH6]
  have c6 : H6 ci = some (.cells (encCa room rule now q st.length)) := by rw [hH6]; exact upd_same _ _ _
  have k6 : ∀ r, r ≠ ci → r ≠ i → H6 r = h.H r := fun r h1 h2 => by rw [hH6, upd_other _ _ h1, upd_other _ _ h2]
  clear hH6
  refine awp_cond (t := _) rfl (fun h9 => by cases h9) (fun _ => ?_)
  have p6 : H6 p = some (.cells (encKp (K p))) := (k6 p (hpci p hp) (hpi p hp)).trans (hK p hp)
  have hMp := hM p hp
  have hask := fun H (hc : H ci = some (.cells (encCa room rule now q st.length))) (hpp : H p = some (.cells (encKp (setB bytes (K p))))) => g_ask (x := setB bytes (K p)) (h := ⟨H, T5⟩) hc hpp (hpci p hp).symm (by omega) hMp
  have hcp : ci ≠ p := (hpci p hp).symm
  have hKe : encKp (setB bytes (K p)) = [.v (.string (K p).1), .v (.int .i64 bytes), .v (.bool (K p).2.2.1), .v (.int .i64 (K p).2.2.2.1), .v (.int .i64 (K p).2.2.2.2.1), .v (.int .i64 (K p).2.2.2.2.2)] := rfl
  have hKe2 : encKp (K p) = [.v (.string (K p).1), .v (.int .i64 (K p).2.1), .v (.bool (K p).2.2.1), .v (.int .i64 (K p).2.2.2.1), .v (.int .i64 (K p).2.2.2.2.1), .v (.int .i64 (K p).2.2.2.2.2)] := rfl
  rw [hKe2] at p6
  (repeat (first | refine gO rfl ?_ | ((refine gM zM20 fun K1 hK1 => ?_; simp only [go_sem, ↓reduceIte, reduceCtorEq, nA, nB, nC, nD, nE, nF, p6] <;> and_intros <;> first | (apply hK1; clear hK1 K1) | skip))))
  refine (hask _ ((upd_other _ _ hcp).trans c6) (by rw [hKe]; exact upd_same _ _ _)).mono ?_; rintro _ hz ⟨rfl, hh⟩; apply hK1; clear hK1 K1; rw [hh]; clear hh hz
  (repeat (first | refine gO rfl ?_ | ((refine gM zM20 fun K1 hK1 => ?_; simp only [go_sem, ↓reduceIte, reduceCtorEq, nA, nB, nC, nD, nE, nF] <;> and_intros <;> (apply hK1; clear hK1 K1)))))
  simp only [Tryz.results135, go_sem, ↓reduceIte, reduceCtorEq, nA, nB, nC, nD, nE, nF]
  refine ⟨_, _, Weak.refl _, Hp.le.refl _, ?_⟩
  unfold PutR
  rw [hP, hhas, if_pos rfl]
  have hps : p ∈ st := by
   rw [← hSt]
   refine List.mem_filter.2 ⟨hp, ?_⟩
   cases hc : gone.contains p with
   | false => rfl
   | true => exact absurd hpk (hgnot p (List.contains_iff_mem.1 hc))
  refine ⟨fun r => if r = p then askF (now + 1) (setB bytes (K p)) else K r, st, q, kt, by rw [hrow], ?_, fun r hr => ?_, ?_, hT5, fun hm => hci (hsm ci hm), fun r hr h1 h2 => ?_, fun t ht htk => (hTfr t ht htk).1⟩
  ·rw [← hsmap]
   exact atK_map (fun x => askF (now + 1) (setB bytes x)) hone2 hps hpk
  ·show upd (upd _ ci _) p _ r = some (AO.cells (encKp (if r = p then askF (now + 1) (setB bytes (K p)) else K r)))
   by_cases e : r = p
   ·subst e; rw [upd_same, if_pos rfl]
   ·rw [upd_other _ _ e, upd_other _ _ (hpci r (hsm r hr)), upd_other _ _ e, k6 r (hpci r (hsm r hr)) (hpi r (hsm r hr)), if_neg e]
    exact hK r (hsm r hr)
  ·show upd (upd _ ci _) p _ ci = _
   rw [upd_other _ _ hcp, upd_same]
  ·show upd (upd _ ci _) p _ r = _
   have e : r ≠ p := fun e => h2 (e ▸ hp)
   have ei : r ≠ i := by rintro rfl; exact hr hi
   rw [upd_other _ _ e, upd_other _ _ h1, upd_other _ _ e, k6 r h1 ei]
def missB (room rule : Int) : List ByteArray → Int → List Kp → Bool
  | [], _, _ => true
  | s :: l, now, L => decide (L.length ≤ 11) && (if hasL s L then missB room rule l (now + 1) (atK s (askF (now + 1)) L) else
    match putL room rule now L s 1 with
    | some (L', _) => missB room rule l (now + 1) L'
    | none => false)
def OkL (now : Int) (L : List Kp) : Prop := ∀ x ∈ L, x.2.1 = 1 ∧ 0 ≤ x.2.2.2.2.2 ∧ x.2.2.2.2.2 ≤ now
theorem OkL.ask {now : Int} {L : List Kp} (h : OkL now L) (s : ByteArray) : OkL (now + 1) (atK s (askF (now + 1)) L) := fun x hx => by
  obtain ⟨y, hy, rfl⟩ := List.mem_map.1 hx
  have := h y hy
  split
  · exact ⟨this.1, by show 0 ≤ y.2.2.2.2.2 + 1 ∧ y.2.2.2.2.2 + 1 ≤ now + 1; omega⟩
  · exact ⟨this.1, by omega⟩
theorem OkL.put {now : Int} {L L' g : List Kp} (h : OkL now L) (h0 : 0 ≤ now) {room rule : Int} {s : ByteArray} (hp : putL room rule now L s 1 = some (L', g)) : OkL (now + 1) L' := by
  unfold putL at hp
  split at hp
  · simp only [Option.some.injEq, Prod.mk.injEq] at hp
    obtain ⟨rfl, _⟩ := hp
    split
    · intro x hx
      obtain ⟨y, hy, rfl⟩ := List.mem_map.1 hx
      have := h y (leftL_sub hy)
      split
      · exact ⟨rfl, by show 0 ≤ y.2.2.2.2.2 + 1 ∧ y.2.2.2.2.2 + 1 ≤ now + 1; omega⟩
      · exact ⟨this.1, by omega⟩
    · intro x hx
      rcases List.mem_append.1 hx with hx | hx
      · have := h x (leftL_sub hx)
        exact ⟨this.1, by omega⟩
      · rw [List.mem_singleton] at hx
        subst hx
        exact ⟨rfl, by show (0 : Int) ≤ 1 ∧ (1 : Int) ≤ now + 1; omega⟩
  · cases hp
theorem missL_cons (room rule : Int) (s : ByteArray) (l : List ByteArray) (now : Int) (L : List Kp) (n : Int) : missL room rule (s :: l) now L n = if hasL s L then missL room rule l (now + 1) (atK s (askF (now + 1)) L) n else
    match putL room rule now L s 1 with
    | some (L', _) => missL room rule l (now + 1) L' (n + 1)
    | none => none := rfl
theorem missB_cons (room rule : Int) (s : ByteArray) (l : List ByteArray) (now : Int) (L : List Kp) : missB room rule (s :: l) now L = (decide (L.length ≤ 11) && (if hasL s L then missB room rule l (now + 1) (atK s (askF (now + 1)) L) else
    match putL room rule now L s 1 with
    | some (L', _) => missB room rule l (now + 1) L'
    | none => false)) := rfl
def encT (x : ByteArray) : List AV := [.v (.string x)]
theorem g_ruleFault (rule : Int) (h : Hp) (h1 : 1 ≤ rule ∧ rule ≤ 4) : ACalls Tryz.prog 131 [.v (.int .i64 rule)] h (fun r h' => r = .v (.int .i64 0) ∧ h' = h) := by
 have hO := a_outside rule 1 4
 have hE : (decide (rule < 1) || decide (4 < rule)) = false := by simp; omega
 refine gE Tryz.func131 rfl (by kernel_rfl) 4 rfl fun c => ?_
 (repeat (first | refine gO rfl ?_ | (refine gR fun K1 hK1 => ?_; simp only [go_sem, ↓reduceIte, reduceCtorEq, nA, nB, nC, nD, nE, nF] <;> and_intros <;> first | (apply hK1; clear hK1 K1) | skip)))
 refine (hO _).mono ?_; rintro _ hz ⟨rfl, hh⟩; apply hK1; clear hK1 K1; rw [hh]; clear hh hz
 rw [hE]
 (repeat ((refine gO rfl ?_)))
 refine awp_cond (t := _) rfl (fun h9 => by cases h9) (fun _ => ?_)
 (repeat (first | refine gO rfl ?_ | (refine gR fun K1 hK1 => ?_; simp only [go_sem, ↓reduceIte, reduceCtorEq, nA, nB, nC, nD, nE, nF] <;> and_intros <;> (apply hK1; clear hK1 K1))))
 simp only [Tryz.results131, go_sem, ↓reduceIte, reduceCtorEq, nA, nB, nC, nD, nE, nF]
 exact ⟨_, _, Weak.refl _, Hp.le.refl _, rfl, rfl⟩
theorem g_usesFault (l : List ByteArray) (h : Hp) (hl : l.length ≤ 2000) (hk : ∀ s ∈ l, keyB s = true ∧ s.size ≤ 1000) : ACalls Tryz.prog 132 [.row 1 (l.map encT) none] h (fun r h' => r = .v (.int .i64 0) ∧ h' = h) := by
 have hml : (l.map encT).length = l.length := List.length_map _
 have hb : decide ((2000 : Int) < (l.length : Int)) = false := by simp; omega
 refine gE Tryz.func132 rfl (by kernel_rfl) 17 rfl fun c => ?_
 (repeat (first | refine gO rfl ?_ | (refine gR fun K1 hK1 => ?_; simp only [go_sem, ↓reduceIte, reduceCtorEq, nA, nB, nC, nD, nE, nF, hml] <;> and_intros <;> (apply hK1; clear hK1 K1))))
 refine awp_cond (t := _) rfl (fun h9 => by rw [hb] at h9; cases h9) (fun _ => ?_)
 (repeat (first | refine gO rfl ?_ | (refine gR fun K1 hK1 => ?_; simp only [go_sem, ↓reduceIte, reduceCtorEq, nA, nB, nC, nD, nE, nF, hml] <;> and_intros <;> (apply hK1; clear hK1 K1))))
 refine awp_loopC (rl false [8, 3, 7]) 0 (fun g s => ∃ j : Nat, g + j = l.length ∧
  s = ⟨((jnk 8 ((.row 1 (l.map encT) none) :: (.v (.int .i64 l.length)) :: (.v (.int .i64 j)) :: (jnk 7 [])))), [], h⟩) l.length ⟨0, by omega, rfl⟩ ?_
 rintro g _ ⟨j, hj, rfl⟩
 (repeat (first | refine gO rfl ?_ | (refine gR fun K1 hK1 => ?_; simp only [go_sem, ↓reduceIte, reduceCtorEq, nA, nB, nC, nD, nE, nF] <;> and_intros <;> (apply hK1; clear hK1 K1))))
 refine awp_cond (t := _) rfl (fun h1 => ?_) (fun h1 => ?_)
 ·simp only [decide_eq_true_eq] at h1
  have hjl : j < l.length := by omega
  have gx : (l.map encT).getD j [] = encT (l.getD j default) := getD_enc encT l j default hjl
  obtain ⟨hk1, hk2⟩ := hk (l.getD j default) (by rw [List.getD_eq_getElem?_getD, List.getElem?_eq_getElem hjl]; exact List.getElem_mem _)
  generalize l.getD j default = s at *
  have hkk := a_isKey s (by omega) h
  rw [hk1] at hkk
  (repeat (first | refine gO rfl ?_ | (refine gR fun K1 hK1 => ?_; simp only [go_sem, ↓reduceIte, reduceCtorEq, nA, nB, nC, nD, nE, nF, hml, Int.toNat_natCast, gx, encT] <;> and_intros <;> first | (apply hK1; clear hK1 K1) | (intros; (omega)) | skip)))
  refine hkk.mono ?_; rintro _ hz ⟨rfl, hh⟩; apply hK1; clear hK1 K1; rw [hh]; clear hh hz
  (repeat (first | refine gO rfl ?_ | (refine gR fun K1 hK1 => ?_; simp only [go_sem, ↓reduceIte, reduceCtorEq, nA, nB, nC, nD, nE, nF] <;> and_intros <;> (apply hK1; clear hK1 K1))))
  refine awp_cond (t := _) rfl (fun h9 => by cases h9) (fun _ => ?_)
  (repeat (first | refine gO rfl ?_ | (refine gR fun K1 hK1 => ?_; simp only [go_sem, ↓reduceIte, reduceCtorEq, nA, nB, nC, nD, nE, nF] <;> and_intros <;> first | (apply hK1; clear hK1 K1) | (intros; (omega)))))
  exact ⟨g - 1, by omega, j + 1, by omega, rfl⟩
 ·(repeat (first | refine gO rfl ?_ | (refine gR fun K1 hK1 => ?_; simp only [go_sem, ↓reduceIte, reduceCtorEq, nA, nB, nC, nD, nE, nF] <;> and_intros <;> (apply hK1; clear hK1 K1))))
  simp only [Tryz.results132, go_sem, ↓reduceIte, reduceCtorEq, nA, nB, nC, nD, nE, nF]
  exact ⟨_, _, Weak.refl _, Hp.le.refl _, rfl, rfl⟩
theorem g_misses (room rule N : Int) (l : List ByteArray) (h : Hp) (hr : 1 ≤ room ∧ room ≤ 500) (hru : 1 ≤ rule ∧ rule ≤ 4) (hl : l.length ≤ 2000) (hk : ∀ s ∈ l, keyB s = true ∧ s.size ≤ 1000) (hm : missL room rule l 0 [] 0 = some N) (hmb : missB room rule l 0 [] = true) :
  ACalls Tryz.prog 71 [.v (.int .i64 room), .v (.int .i64 rule), .row 1 (l.map encT) none] h (fun r h' => r = .tup [.v (.int .i64 N), .v (.int .i64 0)]) := by
 have hml : (l.map encT).length = l.length := List.length_map _
 have hO := a_outside room 1 500
 have hE : (decide (room < 1) || decide (500 < room)) = false := by simp; omega
 refine gE Tryz.func71 rfl (by kernel_rfl) 57 rfl fun c => ?_
 (repeat (first | refine gO rfl ?_ | (refine gM zM21 fun K1 hK1 => ?_; simp only [go_sem, ↓reduceIte, reduceCtorEq, nA, nB, nC, nD, nE, nF] <;> and_intros <;> first | (apply hK1; clear hK1 K1) | skip)))
 refine (hO _).mono ?_; rintro _ hz ⟨rfl, hh⟩; apply hK1; clear hK1 K1; rw [hh]; clear hh hz
 rw [hE]
 (repeat ((refine gO rfl ?_)))
 refine awp_cond (t := _) rfl (fun h9 => by cases h9) (fun _ => ?_)
 (repeat (first | refine gO rfl ?_ | (refine gM zM21 fun K1 hK1 => ?_; simp only [go_sem, ↓reduceIte, reduceCtorEq, nA, nB, nC, nD, nE, nF] <;> and_intros)))
 refine (g_ruleFault rule _ hru).mono ?_; rintro _ hz ⟨rfl, hh⟩; apply hK1; clear hK1 K1; rw [hh]; clear hh hz
 (repeat (first | refine gO rfl ?_ | (refine gM zM21 fun K1 hK1 => ?_; simp only [go_sem, ↓reduceIte, reduceCtorEq, nA, nB, nC, nD, nE, nF] <;> and_intros <;> (apply hK1; clear hK1 K1))))
 refine awp_cond (t := _) rfl (fun h9 => by cases h9) (fun _ => ?_)
 (repeat (first | refine gO rfl ?_ | (refine gM zM21 fun K1 hK1 => ?_; simp only [go_sem, ↓reduceIte, reduceCtorEq, nA, nB, nC, nD, nE, nF] <;> and_intros)))
 refine (g_usesFault l _ hl hk).mono ?_; rintro _ hz ⟨rfl, hh⟩; apply hK1; clear hK1 K1; rw [hh]; clear hh hz
 (repeat (first | refine gO rfl ?_ | (refine gM zM21 fun K1 hK1 => ?_; simp only [go_sem, ↓reduceIte, reduceCtorEq, nA, nB, nC, nD, nE, nF] <;> and_intros <;> (apply hK1; clear hK1 K1))))
 refine awp_cond (t := _) rfl (fun h9 => by cases h9) (fun _ => ?_)
 (repeat (first | refine gO rfl ?_ | (refine gM zM21 fun K1 hK1 => ?_; simp only [go_sem, ↓reduceIte, reduceCtorEq, nA, nB, nC, nD, nE, nF] <;> and_intros)))
 intro ci hci
 refine hK1 _ ?_; clear hK1 K1
 (repeat (first | refine gO rfl ?_ | (refine gM zM21 fun K1 hK1 => ?_; simp only [go_sem, ↓reduceIte, reduceCtorEq, nA, nB, nC, nD, nE, nF, hml] <;> and_intros <;> (apply hK1; clear hK1 K1))))
 refine awp_ownObj ci 3 1 (cs := [.v (.int .i64 room), .v (.int .i64 rule), .v (.int .i64 0), .v (.slice none 0 0)]) (upd_same _ _ _) rfl (fun k0 hk0 => ?_)
 refine awp_loopC (rl false [10, 2, 21, 3, 24]) 0 (fun g s => ∃ (j : Nat) (n : Int) (K : Nat → Kp) (ps : List Nat) (k : Nat) (h' : Hp), g + j = l.length ∧ missL room rule (l.drop j) j (ps.map K) n = some N ∧ missB room rule (l.drop j) j (ps.map K) = true ∧ 0 ≤ n ∧ n ≤ j ∧
   h'.H ci = some (.cells (encCa room rule j k ps.length)) ∧ h'.T k = some (.cont 1 (ps.map encR)) ∧ CacheH h' K ps ∧ ci ∉ ps ∧ KeysOne (ps.map K) ∧ OkL j (ps.map K) ∧
  s = ⟨((jnk 10 ((.ptr ci 0) :: (.v (.int .i64 n)) :: (jnk 21 ((.row 1 (l.map encT) none) :: (.v (.int .i64 l.length)) :: (.v (.int .i64 j)) :: (jnk 24 [])))))), [], h'⟩) l.length
  ⟨0, 0, fun _ => default, [], k0, ⟨upd (upd h.H ci (some (.cells [.v (.int .i64 room), .v (.int .i64 rule), .v (.int .i64 0), .v (.slice none 0 0)]))) ci (some (.cells (encCa room rule ((0 : Nat) : Int) k0 0))), upd h.T k0 (some (.cont 1 []))⟩, by omega, by rw [List.drop_zero]; exact hm, by rw [List.drop_zero]; exact hmb, by omega, by omega, upd_same _ _ _, upd_same _ _ _, (fun p hp => by cases hp), (by simp), List.Pairwise.nil, (fun x hx => by cases hx), rfl⟩ ?_
 rintro g _ ⟨j, n, K, ps, k, h', hj, hmj, hbj, hn0, hnj, hC, hT, hK, hcp, hone, hok, rfl⟩
 (repeat (first | refine gO rfl ?_ | (refine gM zM21 fun K1 hK1 => ?_; simp only [go_sem, ↓reduceIte, reduceCtorEq, nA, nB, nC, nD, nE, nF] <;> and_intros <;> (apply hK1; clear hK1 K1))))
 refine awp_cond (t := _) rfl (fun h1 => ?_) (fun h1 => ?_)
 ·simp only [decide_eq_true_eq] at h1
  have hjl : j < l.length := by omega
  have gx : (l.map encT).getD j [] = encT (l.getD j default) := getD_enc encT l j default hjl
  have hdj := drop_at' l j default hjl
  obtain ⟨hk1, hk2⟩ := hk (l.getD j default) (by rw [List.getD_eq_getElem?_getD, List.getElem?_eq_getElem hjl]; exact List.getElem_mem _)
  generalize l.getD j default = s at *
  rw [hdj, missL_cons] at hmj
  rw [hdj, missB_cons, Bool.and_eq_true, decide_eq_true_eq, List.length_map] at hbj
  obtain ⟨hp11, hbj⟩ := hbj
  have hkk := fun h => a_isKey s (by omega) h
  rw [hk1] at hkk
  have hokp : ∀ p ∈ ps, (K p).2.1 = 1 ∧ 0 ≤ (K p).2.2.2.2.2 ∧ (K p).2.2.2.2.2 ≤ j := fun p hp => hok (K p) (List.mem_map_of_mem hp)
  have hfi := g_find (item := s) K ci k room rule j ps h' hC hT (by omega) hK
  have hfc := findF_cases s K ps
  (repeat (first | refine gO rfl ?_ | (refine gM zM21 fun K1 hK1 => ?_; simp only [go_sem, ↓reduceIte, reduceCtorEq, nA, nB, nC, nD, nE, nF, hml, Int.toNat_natCast, gx, encT] <;> and_intros <;> first | (apply hK1; clear hK1 K1) | (intros; (omega)) | skip)))
  refine hfi.mono ?_
  rintro fk hz ⟨rfl, hh⟩; apply hK1; clear hK1 K1; rw [hh]; clear hh hz hfi
  rcases hfc with ⟨hhas, e⟩ | ⟨p, hp, hpk, hhas, e⟩
  ·rw [e]
   unfold nilP
   rw [hhas, if_neg (by decide)] at hmj hbj
   have hpu := g_put (room := room) (rule := rule) (now := j) (bytes := 1) (item := s) hC hT hp11 hK hcp hone hkk (fun p hp => by have := hokp p hp; omega) (fun p hp => by have := hokp p hp; omega) (by omega) (by omega) (by omega)
   unfold PutR at hpu
   cases hput : putL room rule j (ps.map K) s 1 with
   | none => rw [hput] at hmj; cases hmj
   | some y =>
    obtain ⟨L', gn⟩ := y
    rw [hput] at hmj hbj hpu
    simp only at hmj hbj hpu
    (repeat (first | refine gO rfl ?_ | (refine gM zM21 fun K1 hK1 => ?_; simp only [go_sem, ↓reduceIte, reduceCtorEq, nA, nB, nC, nD, nE, nF] <;> and_intros <;> (apply hK1; clear hK1 K1))))
    refine awp_cond (t := _) rfl (fun h9 => by cases h9) (fun _ => ?_)
    (repeat (first | refine gO rfl ?_ | (refine gM zM21 fun K1 hK1 => ?_; simp only [go_sem, ↓reduceIte, reduceCtorEq, nA, nB, nC, nD, nE, nF] <;> and_intros <;> first | (apply hK1; clear hK1 K1) | (intros; (omega)) | skip)))
    refine hpu.mono ?_
    rintro _ h2 ⟨K2, ps2, k2, kt, rfl, hL, hK2, hC2, hT2, hcp2, _, _⟩
    refine hK1 _ ?_; clear hK1 K1 hpu
    (repeat (first | refine gO rfl ?_ | (refine gM zM21 fun K1 hK1 => ?_; simp only [go_sem, ↓reduceIte, reduceCtorEq, nA, nB, nC, nD, nE, nF] <;> and_intros <;> (apply hK1; clear hK1 K1))))
    refine awp_cond (t := _) rfl (fun h9 => by cases h9) (fun _ => ?_)
    (repeat (first | refine gO rfl ?_ | (refine gM zM21 fun K1 hK1 => ?_; simp only [go_sem, ↓reduceIte, reduceCtorEq, nA, nB, nC, nD, nE, nF] <;> and_intros <;> first | (apply hK1; clear hK1 K1) | (intros; (omega)))))
    have hone2 := putL_one hput hone
    have hok2 := hok.put (by omega) hput
    rw [← hL] at hmj hbj hone2 hok2
    refine ⟨g - 1, by omega, j + 1, n + 1, K2, ps2, k2, h2, by omega, hmj, hbj, by omega, by omega, hC2, hT2, hK2, hcp2, hone2, hok2, rfl⟩
  ·rw [e]
   rw [hhas, if_pos rfl] at hmj hbj
   have hokk := hokp p hp
   have hpc : ci ≠ p := by rintro rfl; exact hcp hp
   have has := g_ask (now := j) hC (hK p hp) hpc (by omega) (by omega)
   (repeat (first | refine gO rfl ?_ | (refine gM zM21 fun K1 hK1 => ?_; simp only [go_sem, ↓reduceIte, reduceCtorEq, nA, nB, nC, nD, nE, nF] <;> and_intros <;> (apply hK1; clear hK1 K1))))
   refine awp_cond (t := _) rfl (fun _ => ?_) (fun h9 => by cases h9)
   (repeat ((refine gM zM21 fun K1 hK1 => ?_; simp only [go_sem, ↓reduceIte, reduceCtorEq, nA, nB, nC, nD, nE, nF] <;> and_intros)))
   refine has.mono ?_; rintro _ hz ⟨rfl, hh⟩; apply hK1; clear hK1 K1; rw [hh]; clear hh hz
   (repeat (first | refine gO rfl ?_ | (refine gM zM21 fun K1 hK1 => ?_; simp only [go_sem, ↓reduceIte, reduceCtorEq, nA, nB, nC, nD, nE, nF] <;> and_intros <;> first | (apply hK1; clear hK1 K1) | (intros; (omega)))))
   have hat := atK_map (item := s) (fun x => askF ((j : Int) + 1) x) hone hp hpk
   have hone2 := atK_one (item := s) (f := askF ((j : Int) + 1)) (fun _ => rfl) hone
   have hok2 := hok.ask s
   rw [← hat] at hmj hbj hone2 hok2
   refine ⟨g - 1, by omega, j + 1, n, fun q => if q = p then askF ((j : Int) + 1) (K p) else K q, ps, k, ⟨upd (upd h'.H ci (some (.cells (encCa room rule ((j : Int) + 1) k ps.length)))) p (some (.cells (encKp (askF ((j : Int) + 1) (K p))))), h'.T⟩, by omega, hmj, hbj, by omega, by omega, (upd_other _ _ hpc).trans (upd_same _ _ _), hT, fun q hq => ?_, hcp, hone2, hok2, rfl⟩
   show upd (upd _ ci _) p _ q = some (AO.cells (encKp (if q = p then askF ((j : Int) + 1) (K p) else K q)))
   by_cases e2 : q = p
   ·rw [e2, upd_same, if_pos rfl]
   ·rw [upd_other _ _ e2, upd_other _ _ (by rintro rfl; exact hcp hq), if_neg e2]
    exact hK q hq
 ·simp only [decide_eq_false_iff_not] at h1
  have hjl : j = l.length := by omega
  subst hjl
  rw [List.drop_length] at hmj
  obtain rfl : n = N := by simpa [missL] using hmj
  (repeat (first | refine gO rfl ?_ | (refine gM zM21 fun K1 hK1 => ?_; simp only [go_sem, ↓reduceIte, reduceCtorEq, nA, nB, nC, nD, nE, nF] <;> and_intros <;> (apply hK1; clear hK1 K1))))
  simp only [Tryz.results71, go_sem, ↓reduceIte, reduceCtorEq, nA, nB, nC, nD, nE, nF]
  exact ⟨_, _, Weak.refl _, Hp.le.refl _, rfl⟩
theorem g_miss5 (h : Hp) : ACalls Tryz.prog 71 [.v (.int .i64 2), .v (.int .i64 1), .row 1 [[.v (.string ⟨#[97]⟩)], [.v (.string ⟨#[98]⟩)], [.v (.string ⟨#[97]⟩)], [.v (.string ⟨#[99]⟩)], [.v (.string ⟨#[98]⟩)]] none] h (fun r h' => r = .tup [.v (.int .i64 4), .v (.int .i64 0)]) :=
 g_misses 2 1 4 [⟨#[97]⟩, ⟨#[98]⟩, ⟨#[97]⟩, ⟨#[99]⟩, ⟨#[98]⟩] h (by omega) (by omega) (by decide) (by decide) (by decide) (by decide)
abbrev zPWE : List Nat := [0, 1, 2, 3, 4, 5, 6, 7, 8, 9, 10, 11]
abbrev zPWP : List (Nat × List Nat × List Nat) := []
abbrev zPXE : List Nat := [0, 1, 2, 3]
abbrev zPXP : List (Nat × List Nat × List Nat) := [(4, [0], [5]), (6, [], [7])]
abbrev zPYE : List Nat := [0, 1, 2, 3, 4, 5]
abbrev zPYP : List (Nat × List Nat × List Nat) := [(6, [4], [7]), (8, [], [9, 10]), (11, [], [])]
abbrev zPZE : List Nat := [0, 1, 2, 3, 4, 5, 6, 7, 8, 9, 10]
abbrev zPZP : List (Nat × List Nat × List Nat) := []
abbrev zP10E : List Nat := [0, 1, 2, 3, 4, 5, 6, 7, 8, 9, 10, 11, 12, 13, 14, 15, 16]
abbrev zP10P : List (Nat × List Nat × List Nat) := [(17, [], [18, 19]), (20, [], [])]
abbrev zP11E : List Nat := [0, 1, 2, 3, 4, 5, 6, 7, 8, 9, 10, 11, 12, 13, 14, 15, 16]
abbrev zP11P : List (Nat × List Nat × List Nat) := [(17, [], [])]
abbrev zP12E : List Nat := [0, 1, 2, 3, 4, 5, 6, 7, 8]
abbrev zP12P : List (Nat × List Nat × List Nat) := [(9, [3], [10, 11])]
abbrev zP13E : List Nat := [0, 1, 2, 3, 4, 5, 6, 7, 8, 9, 10]
abbrev zP13P : List (Nat × List Nat × List Nat) := []
attribute [go_sem] zPWE zPWP zPXE zPXP zPYE zPYP zPZE zPZP zP10E zP10P zP11E zP11P zP12E zP12P zP13E zP13P
def nlS : AV := .v (.slice none 0 0)
def lA : List AV := [.v (.int .i64 1), .v (.string ⟨#[97]⟩), .v (.int .i64 5), .v (.int .i64 0), nlS, nlS]
theorem ba1 : ((⟨#[97]⟩ : ByteArray) == ⟨#[]⟩) = false := by decide
theorem c_ixL (f : Nat) (caps : List AV) (h : Hp) : ACalls Tryz.prog 255 [nlS, .fn f caps] h (fun r h' => r = .v (.int .i64 (-1)) ∧ h' = h) := by
 unfold nlS
 refine gE Tryz.func255 rfl (by kernel_rfl) 17 rfl fun c => ?_
 (repeat (first | refine gO rfl ?_ | (refine gR fun K1 hK1 => ?_; simp only [go_sem, ↓reduceIte, reduceCtorEq, nA, nB, nC, nD, nE, nF, Int.reduceBEq, Int.reduceTMod, Int.reduceTDiv, Int.reduceMul, Int.reduceBNe, Int.reduceLT, Int.reduceLE, Int.reduceAdd, Int.reduceSub, Int.reduceNeg, decide_true, decide_false, Bool.true_and, Bool.false_and, Bool.and_true, Bool.and_false, Bool.or_false, Bool.or_true, Bool.true_or, Bool.false_or, Bool.not_true, Bool.not_false, true_implies, false_implies, true_and, and_true, Int.reduceToNat] <;> and_intros <;> (apply hK1; clear hK1 K1)) | (refine awp_cond (t := _) rfl (fun hq => ?_) (fun hq => ?_) <;> first | (exact absurd hq (by decide)) | (clear hq)) | (refine awp_un 8 ?_)))
 simp only [Tryz.results255, go_sem, ↓reduceIte, reduceCtorEq, nA, nB, nC, nD, nE, nF]
 exact ⟨_, _, Weak.refl _, Hp.le.refl _, rfl, rfl⟩
theorem c_coL (f : Nat) (caps : List AV) (h : Hp) : ACalls Tryz.prog 197 [nlS, .fn f caps] h (fun r h' => r = .v (.bool false) ∧ h' = h) := by
 have h1 := c_ixL f caps h
 unfold nlS at *
 refine gE Tryz.func197 rfl (by kernel_rfl) 7 rfl fun c => ?_
 (repeat (first | refine gO rfl ?_ | (refine gR fun K1 hK1 => ?_; simp only [go_sem, ↓reduceIte, reduceCtorEq, nA, nB, nC, nD, nE, nF, Int.reduceBEq, Int.reduceTMod, Int.reduceTDiv, Int.reduceMul, Int.reduceBNe, Int.reduceLT, Int.reduceLE, Int.reduceAdd, Int.reduceSub, Int.reduceNeg, decide_true, decide_false, Bool.true_and, Bool.false_and, Bool.and_true, Bool.and_false, Bool.or_false, Bool.or_true, Bool.true_or, Bool.false_or, Bool.not_true, Bool.not_false, true_implies, false_implies, true_and, and_true, Int.reduceToNat] <;> and_intros <;> first | (apply hK1; clear hK1 K1) | skip) | (refine (h1).mono ?_; rintro _ hz ⟨rfl, hh⟩; ((refine hK1 _ ?_)); clear hK1 K1; rw [hh]; clear hh hz)))
 simp only [Tryz.results197, go_sem, ↓reduceIte, reduceCtorEq, nA, nB, nC, nD, nE, nF]
 exact ⟨_, _, Weak.refl _, Hp.le.refl _, rfl, rfl⟩
theorem c_large (i : Nat) (h : Hp) (hi : h.H i = some (.cells [.v (.int .i64 0)])) : ACalls Tryz.prog 139 [.ptr i 0, .agg lA, .v (.int .i64 1)] h (fun r h' => r = .v (.bool false) ∧ h' = ⟨upd h.H i (some (.cells [.v (.int .i64 1)])), h.T⟩) := by
 have h1 := fun f caps h => c_coL f caps h
 unfold lA
 unfold nlS at *
 refine gE Tryz.func139 rfl (by kernel_rfl) 24 rfl fun c => ?_
 (repeat (first | refine gO rfl ?_ | (refine gR fun K1 hK1 => ?_; simp only [go_sem, ↓reduceIte, reduceCtorEq, nA, nB, nC, nD, nE, nF, Int.reduceBEq, Int.reduceTMod, Int.reduceTDiv, Int.reduceMul, Int.reduceBNe, Int.reduceLT, Int.reduceLE, Int.reduceAdd, Int.reduceSub, Int.reduceNeg, decide_true, decide_false, Bool.true_and, Bool.false_and, Bool.and_true, Bool.and_false, Bool.or_false, Bool.or_true, Bool.true_or, Bool.false_or, Bool.not_true, Bool.not_false, true_implies, false_implies, true_and, and_true, Int.reduceToNat, hi, upd_same] <;> and_intros <;> first | (apply hK1; clear hK1 K1) | (intros; (decide)) | skip) | (refine awp_cond (t := _) rfl (fun hq => ?_) (fun hq => ?_) <;> first | (exact absurd hq (by decide)) | (clear hq)) | (refine (h1 _ _ _).mono ?_; rintro _ hz ⟨rfl, hh⟩; ((refine hK1 _ ?_)); clear hK1 K1; rw [hh]; clear hh hz)))
 simp only [Tryz.results139, go_sem, ↓reduceIte, reduceCtorEq, nA, nB, nC, nD, nE, nF]
 exact ⟨_, _, Weak.refl _, Hp.le.refl _, rfl, rfl⟩
theorem c_form (h : Hp) : ACalls Tryz.prog 199 [.agg lA] h (fun r h' => r = .v (.bool false) ∧ h' = h) := by
 unfold lA
 unfold nlS at *
 refine gE Tryz.func199 rfl (by kernel_rfl) 77 rfl fun c => ?_
 (repeat (first | refine gO rfl ?_ | ((first | refine gR ?_ | ((with_reducible refine xS ?_); refine uD 1 zM22 zPWE zPWP 78 rfl (by kernel_rfl) ?_)) <;> ((try with_reducible intro K1 hK1); simp only [go_sem, ↓reduceIte, reduceCtorEq, nA, nB, nC, nD, nE, nF, Int.reduceBEq, Int.reduceTMod, Int.reduceTDiv, Int.reduceMul, Int.reduceBNe, Int.reduceLT, Int.reduceLE, Int.reduceAdd, Int.reduceSub, Int.reduceNeg, decide_true, decide_false, Bool.true_and, Bool.false_and, Bool.and_true, Bool.and_false, Bool.or_false, Bool.or_true, Bool.true_or, Bool.false_or, Bool.not_true, Bool.not_false, true_implies, false_implies, true_and, and_true, Int.reduceToNat, ba1] <;> and_intros <;> (apply hK1; clear hK1 K1))) | (refine awp_cond (t := _) rfl (fun hq => ?_) (fun hq => ?_) <;> first | (exact absurd hq (by decide)) | (clear hq))))
 simp only [Tryz.results199, go_sem, ↓reduceIte, reduceCtorEq, nA, nB, nC, nD, nE, nF]
 exact ⟨_, _, Weak.refl _, Hp.le.refl _, rfl, rfl⟩
theorem c_partFault (h : Hp) : ACalls Tryz.prog 140 [.agg lA] h (fun r h' => r = .v (.int .i64 0) ∧ h' = h) := by
 have h1 := fun h => a_outside 1 1 5 h
 have h2 := fun h => c_form h
 have h3 := fun h => a_isKey ⟨#[97]⟩ (by decide) h
 have h4 := fun h => a_outside 5 1 3600000 h
 rw [show keyB ⟨#[97]⟩ = true by decide] at h3
 unfold lA at *
 unfold nlS at *
 refine gE Tryz.func140 rfl (by kernel_rfl) 63 rfl fun c => ?_
 (repeat (first | refine gO rfl ?_ | (refine gM zM23 fun K1 hK1 => ?_; simp only [go_sem, ↓reduceIte, reduceCtorEq, nA, nB, nC, nD, nE, nF, Int.reduceBEq, Int.reduceTMod, Int.reduceTDiv, Int.reduceMul, Int.reduceBNe, Int.reduceLT, Int.reduceLE, Int.reduceAdd, Int.reduceSub, Int.reduceNeg, decide_true, decide_false, Bool.true_and, Bool.false_and, Bool.and_true, Bool.and_false, Bool.or_false, Bool.or_true, Bool.true_or, Bool.false_or, Bool.not_true, Bool.not_false, true_implies, false_implies, true_and, and_true, Int.reduceToNat] <;> and_intros <;> first | (apply hK1; clear hK1 K1) | skip) | (refine awp_cond (t := _) rfl (fun hq => ?_) (fun hq => ?_) <;> first | (exact absurd hq (by decide)) | (clear hq)) | (refine awp_un 8 ?_) | (refine (h1 _).mono ?_; rintro _ hz ⟨rfl, hh⟩; ((refine hK1 _ ?_)); clear hK1 K1; rw [hh]; clear hh hz) | (refine (h2 _).mono ?_; rintro _ hz ⟨rfl, hh⟩; ((refine hK1 _ ?_)); clear hK1 K1; rw [hh]; clear hh hz) | (refine (h3 _).mono ?_; rintro _ hz ⟨rfl, hh⟩; ((refine ⟨rfl, hK1 _ ?_⟩)); clear hK1 K1; rw [hh]; clear hh hz) | (refine (h4 _).mono ?_; rintro _ hz ⟨rfl, hh⟩; ((refine ⟨rfl, hK1 _ ?_⟩)); clear hK1 K1; rw [hh]; clear hh hz)))
 simp only [Tryz.results140, go_sem, ↓reduceIte, reduceCtorEq, nA, nB, nC, nD, nE, nF]
 exact ⟨_, _, Weak.refl _, Hp.le.refl _, rfl, rfl⟩
theorem c_check (h : Hp) : ACalls Tryz.prog 73 [.agg lA] h (fun r h' => r = .v (.int .i64 0)) := by
 have h1 := fun i h (hi : h.H i = some (.cells [.v (.int .i64 0)])) => c_large i h hi
 have h2 := fun h => c_partFault h
 unfold lA at *
 unfold nlS at *
 refine gE Tryz.func73 rfl (by kernel_rfl) 8 rfl fun c => ?_
 (repeat (first | refine gO rfl ?_ | (refine gM zM24 fun K1 hK1 => ?_; simp only [go_sem, ↓reduceIte, reduceCtorEq, nA, nB, nC, nD, nE, nF, Int.reduceBEq, Int.reduceTMod, Int.reduceTDiv, Int.reduceMul, Int.reduceBNe, Int.reduceLT, Int.reduceLE, Int.reduceAdd, Int.reduceSub, Int.reduceNeg, decide_true, decide_false, Bool.true_and, Bool.false_and, Bool.and_true, Bool.and_false, Bool.or_false, Bool.or_true, Bool.true_or, Bool.false_or, Bool.not_true, Bool.not_false, true_implies, false_implies, true_and, and_true, Int.reduceToNat] <;> and_intros <;> first | (apply hK1; clear hK1 K1) | skip)))
 intro i hi
 refine hK1 _ ?_; clear hK1 K1
 have h3 := h1 i ⟨upd h.H i (some (.cells [.v (.int .i64 0)])), h.T⟩ (upd_same _ _ _)
 (repeat (first | refine gO rfl ?_ | (refine gM zM24 fun K1 hK1 => ?_; simp only [go_sem, ↓reduceIte, reduceCtorEq, nA, nB, nC, nD, nE, nF, Int.reduceBEq, Int.reduceTMod, Int.reduceTDiv, Int.reduceMul, Int.reduceBNe, Int.reduceLT, Int.reduceLE, Int.reduceAdd, Int.reduceSub, Int.reduceNeg, decide_true, decide_false, Bool.true_and, Bool.false_and, Bool.and_true, Bool.and_false, Bool.or_false, Bool.or_true, Bool.true_or, Bool.false_or, Bool.not_true, Bool.not_false, true_implies, false_implies, true_and, and_true, Int.reduceToNat] <;> and_intros <;> first | (apply hK1; clear hK1 K1) | skip) | (refine awp_cond (t := _) rfl (fun hq => ?_) (fun hq => ?_) <;> first | (exact absurd hq (by decide)) | (clear hq)) | (refine (h3).mono ?_; rintro _ hz ⟨rfl, hh⟩; ((refine hK1 _ ?_)); clear hK1 K1; rw [hh]; clear hh hz) | (refine (h2 _).mono ?_; rintro _ hz ⟨rfl, hh⟩; ((refine hK1 _ ?_)); clear hK1 K1; rw [hh]; clear hh hz)))
 simp only [Tryz.results73, go_sem, ↓reduceIte, reduceCtorEq, nA, nB, nC, nD, nE, nF]
 exact ⟨_, _, Weak.refl _, Hp.le.refl _, rfl⟩
def pA (had : Int) (k : Nat) : List AV := lA ++ [nlS, .v (.int .i64 had), .arr 1 k 0, .v (.int .i64 0)]
theorem c_newPart (h : Hp) : ACalls Tryz.prog 75 [.agg lA] h (fun r h' => ∃ p k, r = .ptr p 0 ∧ h'.H p = some (.cells (pA 0 k))) := by
 unfold lA
 unfold nlS at *
 refine gE Tryz.func75 rfl (by kernel_rfl) 50 rfl fun c => ?_
 (repeat (first | refine gO rfl ?_ | ((first | refine gM zM25 ?_ | ((with_reducible refine xS ?_); refine uD 1 zM25 zPXE zPXP 51 rfl (by kernel_rfl) ?_)) <;> ((try with_reducible intro K1 hK1); simp only [go_sem, ↓reduceIte, reduceCtorEq, nA, nB, nC, nD, nE, nF, Int.reduceBEq, Int.reduceTMod, Int.reduceTDiv, Int.reduceMul, Int.reduceBNe, Int.reduceLT, Int.reduceLE, Int.reduceAdd, Int.reduceSub, Int.reduceNeg, decide_true, decide_false, Bool.true_and, Bool.false_and, Bool.and_true, Bool.and_false, Bool.or_false, Bool.or_true, Bool.true_or, Bool.false_or, Bool.not_true, Bool.not_false, true_implies, false_implies, true_and, and_true, Int.reduceToNat] <;> and_intros <;> first | (apply hK1; clear hK1 K1) | (intros; (omega)) | skip))))
 intro k hk
 refine hK1 _ ?_; clear hK1 K1
 (repeat (first | ((first | refine gM zM25 ?_ | (with_reducible refine wM ?_ ?_)) <;> ((try with_reducible intro K1 hK1); simp only [go_sem, ↓reduceIte, reduceCtorEq, nA, nB, nC, nD, nE, nF, Int.reduceBEq, Int.reduceTMod, Int.reduceTDiv, Int.reduceMul, Int.reduceBNe, Int.reduceLT, Int.reduceLE, Int.reduceAdd, Int.reduceSub, Int.reduceNeg, decide_true, decide_false, Bool.true_and, Bool.false_and, Bool.and_true, Bool.and_false, Bool.or_false, Bool.or_true, Bool.true_or, Bool.false_or, Bool.not_true, Bool.not_false, true_implies, false_implies, true_and, and_true, Int.reduceToNat] <;> and_intros <;> first | (apply hK1; clear hK1 K1) | (intros; (decide)) | skip)) | (with_reducible exact rfl)))
 intro p hp
 refine hK1 _ ?_; clear hK1 K1
 (repeat (first | refine gO rfl ?_ | ((first | refine gM zM25 ?_ | (with_reducible refine wM ?_ ?_)) <;> ((try with_reducible intro K1 hK1); simp only [go_sem, ↓reduceIte, reduceCtorEq, nA, nB, nC, nD, nE, nF, Int.reduceBEq, Int.reduceTMod, Int.reduceTDiv, Int.reduceMul, Int.reduceBNe, Int.reduceLT, Int.reduceLE, Int.reduceAdd, Int.reduceSub, Int.reduceNeg, decide_true, decide_false, Bool.true_and, Bool.false_and, Bool.and_true, Bool.and_false, Bool.or_false, Bool.or_true, Bool.true_or, Bool.false_or, Bool.not_true, Bool.not_false, true_implies, false_implies, true_and, and_true, Int.reduceToNat] <;> and_intros <;> (apply hK1; clear hK1 K1))) | (refine awp_cond (t := _) rfl (fun hq => ?_) (fun hq => ?_) <;> first | (exact absurd hq (by decide)) | (clear hq)) | (refine awp_un 8 ?_)))
 simp only [Tryz.results75, go_sem, ↓reduceIte, reduceCtorEq, nA, nB, nC, nD, nE, nF]
 exact ⟨_, _, Weak.refl _, Hp.le.refl _, p, k, rfl, upd_same _ _ _⟩
theorem c_full (o : Nat) (h : Hp) (ho : h.H o = some (.cells [nlS, .v (.int .i64 5000)])) : ACalls Tryz.prog 77 [.ptr o 0] h (fun r h' => r = .v (.bool false) ∧ h' = h) := by
 unfold nlS at *
 refine gE Tryz.func77 rfl (by kernel_rfl) 12 rfl fun c => ?_
 (repeat (first | refine gO rfl ?_ | ((first | refine gR ?_ | ((with_reducible refine xS ?_); refine uD 1 zM22 zPZE zPZP 13 rfl (by kernel_rfl) ?_)) <;> ((try with_reducible intro K1 hK1); simp only [go_sem, ↓reduceIte, reduceCtorEq, nA, nB, nC, nD, nE, nF, Int.reduceBEq, Int.reduceTMod, Int.reduceTDiv, Int.reduceMul, Int.reduceBNe, Int.reduceLT, Int.reduceLE, Int.reduceAdd, Int.reduceSub, Int.reduceNeg, decide_true, decide_false, Bool.true_and, Bool.false_and, Bool.and_true, Bool.and_false, Bool.or_false, Bool.or_true, Bool.true_or, Bool.false_or, Bool.not_true, Bool.not_false, true_implies, false_implies, true_and, and_true, Int.reduceToNat, ho] <;> and_intros <;> (apply hK1; clear hK1 K1)))))
 simp only [Tryz.results77, go_sem, ↓reduceIte, reduceCtorEq, nA, nB, nC, nD, nE, nF]
 exact ⟨_, _, Weak.refl _, Hp.le.refl _, rfl, rfl⟩
def rA (k : Nat) : AV := .row 2 [[.v (.string ⟨#[97]⟩), .v (.int .i64 5)]] (some k)
theorem c_full1 (o k : Nat) (h : Hp) (ho : h.H o = some (.cells [rA k, .v (.int .i64 5000)])) : ACalls Tryz.prog 77 [.ptr o 0] h (fun r h' => r = .v (.bool false) ∧ h' = h) := by
 unfold rA at *
 refine gE Tryz.func77 rfl (by kernel_rfl) 12 rfl fun c => ?_
 (repeat (first | refine gO rfl ?_ | ((first | refine gR ?_ | ((with_reducible refine xS ?_); refine uD 1 zM22 zPZE zPZP 13 rfl (by kernel_rfl) ?_)) <;> ((try with_reducible intro K1 hK1); simp only [go_sem, ↓reduceIte, reduceCtorEq, nA, nB, nC, nD, nE, nF, Int.reduceBEq, Int.reduceTMod, Int.reduceTDiv, Int.reduceMul, Int.reduceBNe, Int.reduceLT, Int.reduceLE, Int.reduceAdd, Int.reduceSub, Int.reduceNeg, decide_true, decide_false, Bool.true_and, Bool.false_and, Bool.and_true, Bool.and_false, Bool.or_false, Bool.or_true, Bool.true_or, Bool.false_or, Bool.not_true, Bool.not_false, true_implies, false_implies, true_and, and_true, Int.reduceToNat, ho] <;> and_intros <;> (apply hK1; clear hK1 K1)))))
 simp only [Tryz.results77, go_sem, ↓reduceIte, reduceCtorEq, nA, nB, nC, nD, nE, nF]
 exact ⟨_, _, Weak.refl _, Hp.le.refl _, rfl, rfl⟩
theorem c_pass (p o k : Nat) (h : Hp) (hp : h.H p = some (.cells (pA 0 k))) (ho : h.H o = some (.cells [nlS, .v (.int .i64 5000)])) (hpo : p ≠ o) : ACalls Tryz.prog 76 [.ptr p 0, .ptr o 0] h (fun r h' => r = .tup [] ∧ ∃ q, h'.H p = some (.cells (pA 1 k)) ∧ h'.H o = some (.cells [rA q, .v (.int .i64 5000)])) := by
 have h1 := c_full o h ho
 have hop : o ≠ p := fun e => hpo e.symm
 unfold pA lA nlS at *
 simp only [List.cons_append, List.nil_append] at *
 refine gE Tryz.func76 rfl (by kernel_rfl) 114 rfl fun c => ?_
 (repeat (first | refine gO rfl ?_ | ((first | refine gR ?_ | ((with_reducible refine xR ?_); refine uE 7 zM22 zP10E zP10P 116 rfl (by kernel_rfl) ?_)) <;> ((try with_reducible intro K1 hK1); simp only [go_sem, ↓reduceIte, reduceCtorEq, nA, nB, nC, nD, nE, nF, Int.reduceBEq, Int.reduceTMod, Int.reduceTDiv, Int.reduceMul, Int.reduceBNe, Int.reduceLT, Int.reduceLE, Int.reduceAdd, Int.reduceSub, Int.reduceNeg, decide_true, decide_false, Bool.true_and, Bool.false_and, Bool.and_true, Bool.and_false, Bool.or_false, Bool.or_true, Bool.true_or, Bool.false_or, Bool.not_true, Bool.not_false, true_implies, false_implies, true_and, and_true, Int.reduceToNat, hp, ho] <;> and_intros <;> first | (apply hK1; clear hK1 K1) | (intros; (decide)) | skip)) | (refine awp_cond (t := _) rfl (fun hq => ?_) (fun hq => ?_) <;> first | (exact absurd hq (by decide)) | (clear hq)) | (refine (h1).mono ?_; rintro _ hz ⟨rfl, hh⟩; ((refine hK1 _ ?_)); clear hK1 K1; rw [hh]; clear hh hz)))
 intro q hq
 refine hK1 _ ?_; clear hK1 K1
 (repeat (first | refine gO rfl ?_ | ((first | refine gR ?_ | (with_reducible refine wM ?_ ?_)) <;> ((try with_reducible intro K1 hK1); simp only [go_sem, ↓reduceIte, reduceCtorEq, nA, nB, nC, nD, nE, nF, Int.reduceBEq, Int.reduceTMod, Int.reduceTDiv, Int.reduceMul, Int.reduceBNe, Int.reduceLT, Int.reduceLE, Int.reduceAdd, Int.reduceSub, Int.reduceNeg, decide_true, decide_false, Bool.true_and, Bool.false_and, Bool.and_true, Bool.and_false, Bool.or_false, Bool.or_true, Bool.true_or, Bool.false_or, Bool.not_true, Bool.not_false, true_implies, false_implies, true_and, and_true, Int.reduceToNat, hp, ho, upd_other _ _ hpo, upd_other _ _ hop] <;> and_intros <;> (apply hK1; clear hK1 K1)))))
 simp only [Tryz.results76, go_sem, ↓reduceIte, reduceCtorEq, nA, nB, nC, nD, nE, nF]
 refine ⟨_, _, Weak.refl _, Hp.le.refl _, rfl, q, upd_same _ _ _, ?_⟩
 exact (upd_other _ _ hop).trans (upd_same _ _ _)
theorem c_ixP (f : Nat) (h : Hp) : ACalls Tryz.prog 256 [nlS, .fn f []] h (fun r h' => r = .v (.int .i64 (-1)) ∧ h' = h) := by
 unfold nlS
 refine gE Tryz.func256 rfl (by kernel_rfl) 17 rfl fun c => ?_
 (repeat (first | refine gO rfl ?_ | (refine gR fun K1 hK1 => ?_; simp only [go_sem, ↓reduceIte, reduceCtorEq, nA, nB, nC, nD, nE, nF, Int.reduceBEq, Int.reduceTMod, Int.reduceTDiv, Int.reduceMul, Int.reduceBNe, Int.reduceLT, Int.reduceLE, Int.reduceAdd, Int.reduceSub, Int.reduceNeg, decide_true, decide_false, Bool.true_and, Bool.false_and, Bool.and_true, Bool.and_false, Bool.or_false, Bool.or_true, Bool.true_or, Bool.false_or, Bool.not_true, Bool.not_false, true_implies, false_implies, true_and, and_true, Int.reduceToNat] <;> and_intros <;> (apply hK1; clear hK1 K1)) | (refine awp_cond (t := _) rfl (fun hq => ?_) (fun hq => ?_) <;> first | (exact absurd hq (by decide)) | (clear hq)) | (refine awp_un 8 ?_)))
 simp only [Tryz.results256, go_sem, ↓reduceIte, reduceCtorEq, nA, nB, nC, nD, nE, nF]
 exact ⟨_, _, Weak.refl _, Hp.le.refl _, rfl, rfl⟩
theorem c_coP (f : Nat) (h : Hp) : ACalls Tryz.prog 201 [nlS, .fn f []] h (fun r h' => r = .v (.bool false) ∧ h' = h) := by
 have h1 := c_ixP f h
 unfold nlS at *
 refine gE Tryz.func201 rfl (by kernel_rfl) 7 rfl fun c => ?_
 (repeat (first | refine gO rfl ?_ | (refine gR fun K1 hK1 => ?_; simp only [go_sem, ↓reduceIte, reduceCtorEq, nA, nB, nC, nD, nE, nF, Int.reduceBEq, Int.reduceTMod, Int.reduceTDiv, Int.reduceMul, Int.reduceBNe, Int.reduceLT, Int.reduceLE, Int.reduceAdd, Int.reduceSub, Int.reduceNeg, decide_true, decide_false, Bool.true_and, Bool.false_and, Bool.and_true, Bool.and_false, Bool.or_false, Bool.or_true, Bool.true_or, Bool.false_or, Bool.not_true, Bool.not_false, true_implies, false_implies, true_and, and_true, Int.reduceToNat] <;> and_intros <;> first | (apply hK1; clear hK1 K1) | skip) | (refine (h1).mono ?_; rintro _ hz ⟨rfl, hh⟩; ((refine hK1 _ ?_)); clear hK1 K1; rw [hh]; clear hh hz)))
 simp only [Tryz.results201, go_sem, ↓reduceIte, reduceCtorEq, nA, nB, nC, nD, nE, nF]
 exact ⟨_, _, Weak.refl _, Hp.le.refl _, rfl, rfl⟩
theorem c_begins (p k : Nat) (h : Hp) (hp : h.H p = some (.cells (pA 1 k))) : ACalls Tryz.prog 142 [.ptr p 0] h (fun r h' => r = .v (.bool true) ∧ h' = h) := by
 have h1 := fun f h => c_coP f h
 unfold pA lA nlS at *
 simp only [List.cons_append, List.nil_append] at *
 refine gE Tryz.func142 rfl (by kernel_rfl) 43 rfl fun c => ?_
 (repeat (first | refine gO rfl ?_ | ((refine gR fun K1 hK1 => ?_; simp only [go_sem, ↓reduceIte, reduceCtorEq, nA, nB, nC, nD, nE, nF, Int.reduceBEq, Int.reduceTMod, Int.reduceTDiv, Int.reduceMul, Int.reduceBNe, Int.reduceLT, Int.reduceLE, Int.reduceAdd, Int.reduceSub, Int.reduceNeg, decide_true, decide_false, Bool.true_and, Bool.false_and, Bool.and_true, Bool.and_false, Bool.or_false, Bool.or_true, Bool.true_or, Bool.false_or, Bool.not_true, Bool.not_false, true_implies, false_implies, true_and, and_true, Int.reduceToNat, hp] <;> and_intros <;> first | (apply hK1; clear hK1 K1) | (intros; (omega)) | skip)) | (refine awp_cond (t := _) rfl (fun hq => ?_) (fun hq => ?_) <;> first | (exact absurd hq (by decide)) | (clear hq)) | (refine (h1 _ _).mono ?_; rintro _ hz ⟨rfl, hh⟩; ((refine ⟨rfl, hK1 _ ?_⟩)); clear hK1 K1; rw [hh]; clear hh hz)))
 simp only [Tryz.results142, go_sem, ↓reduceIte, reduceCtorEq, nA, nB, nC, nD, nE, nF]
 exact ⟨_, _, Weak.refl _, Hp.le.refl _, rfl, rfl⟩
theorem c_roundOf (h : Hp) : ACalls Tryz.prog 79 [.agg lA] h (fun r h' => ∃ q, r = .tup [.agg [.v (.int .i64 1), rA q, .v (.int .i64 5)], .v (.int .i64 0)]) := by
 have h1 := c_newPart h
 have h2 := fun p o k h => c_pass p o k h
 have h3 := fun o k h => c_full1 o k h
 have h4 := fun p k h => c_begins p k h
 have hl : lA = [.v (.int .i64 1), .v (.string ⟨#[97]⟩), .v (.int .i64 5), .v (.int .i64 0), nlS, nlS] := rfl
 unfold lA nlS at h1
 unfold lA nlS
 refine gE Tryz.func79 rfl (by kernel_rfl) 56 rfl fun c => ?_
 (repeat (first | refine gO rfl ?_ | (refine gM zM26 fun K1 hK1 => ?_; simp only [go_sem, ↓reduceIte, reduceCtorEq, nA, nB, nC, nD, nE, nF, Int.reduceBEq, Int.reduceTMod, Int.reduceTDiv, Int.reduceMul, Int.reduceBNe, Int.reduceLT, Int.reduceLE, Int.reduceAdd, Int.reduceSub, Int.reduceNeg, decide_true, decide_false, Bool.true_and, Bool.false_and, Bool.and_true, Bool.and_false, Bool.or_false, Bool.or_true, Bool.true_or, Bool.false_or, Bool.not_true, Bool.not_false, true_implies, false_implies, true_and, and_true, Int.reduceToNat] <;> and_intros <;> first | (apply hK1; clear hK1 K1) | skip)))
 refine h1.mono ?_
 rintro _ ha ⟨p, k, rfl, hp⟩
 refine hK1 _ ?_; clear hK1 K1 h1
 (repeat ((refine gM zM26 fun K1 hK1 => ?_; simp only [go_sem, ↓reduceIte, reduceCtorEq, nA, nB, nC, nD, nE, nF, Int.reduceBEq, Int.reduceTMod, Int.reduceTDiv, Int.reduceMul, Int.reduceBNe, Int.reduceLT, Int.reduceLE, Int.reduceAdd, Int.reduceSub, Int.reduceNeg, decide_true, decide_false, Bool.true_and, Bool.false_and, Bool.and_true, Bool.and_false, Bool.or_false, Bool.or_true, Bool.true_or, Bool.false_or, Bool.not_true, Bool.not_false, true_implies, false_implies, true_and, and_true, Int.reduceToNat] <;> and_intros)))
 intro o ho
 refine hK1 _ ?_; clear hK1 K1
 have hpo : p ≠ o := by rintro rfl; rw [hp] at ho; cases ho
 have h5 := h2 p o k ⟨upd ha.H o (some (.cells [nlS, .v (.int .i64 5000)])), ha.T⟩ ((upd_other _ _ hpo).trans hp) (upd_same _ _ _) hpo
 unfold nlS at h5
 (repeat (first | refine gO rfl ?_ | (refine gM zM26 fun K1 hK1 => ?_; simp only [go_sem, ↓reduceIte, reduceCtorEq, nA, nB, nC, nD, nE, nF, Int.reduceBEq, Int.reduceTMod, Int.reduceTDiv, Int.reduceMul, Int.reduceBNe, Int.reduceLT, Int.reduceLE, Int.reduceAdd, Int.reduceSub, Int.reduceNeg, decide_true, decide_false, Bool.true_and, Bool.false_and, Bool.and_true, Bool.and_false, Bool.or_false, Bool.or_true, Bool.true_or, Bool.false_or, Bool.not_true, Bool.not_false, true_implies, false_implies, true_and, and_true, Int.reduceToNat] <;> and_intros <;> first | (apply hK1; clear hK1 K1) | skip) | (refine awp_cond (t := _) rfl (fun hq => ?_) (fun hq => ?_) <;> first | (exact absurd hq (by decide)) | (clear hq)) | (refine awp_un 8 ?_) | (refine ⟨AV.v (.bool true), rfl, hK1 _ ?_⟩; clear hK1 K1)))
 refine h5.mono ?_
 rintro _ hb ⟨rfl, q, hpb, hob⟩
 refine hK1 _ ?_; clear hK1 K1 h5
 have h6 := h3 o q hb hob
 have h7 := h4 p k hb hpb
 unfold nlS rA at *
 (repeat (first | refine gO rfl ?_ | (refine gM zM26 fun K1 hK1 => ?_; simp only [go_sem, ↓reduceIte, reduceCtorEq, nA, nB, nC, nD, nE, nF, Int.reduceBEq, Int.reduceTMod, Int.reduceTDiv, Int.reduceMul, Int.reduceBNe, Int.reduceLT, Int.reduceLE, Int.reduceAdd, Int.reduceSub, Int.reduceNeg, decide_true, decide_false, Bool.true_and, Bool.false_and, Bool.and_true, Bool.and_false, Bool.or_false, Bool.or_true, Bool.true_or, Bool.false_or, Bool.not_true, Bool.not_false, true_implies, false_implies, true_and, and_true, Int.reduceToNat, hob] <;> and_intros <;> first | (apply hK1; clear hK1 K1) | (intros; (omega)) | skip) | (refine awp_cond (t := _) rfl (fun hq => ?_) (fun hq => ?_) <;> first | (exact absurd hq (by decide)) | (clear hq)) | (refine awp_un 8 ?_) | (refine (h6).mono ?_; rintro _ hz ⟨rfl, hh⟩; ((refine hK1 _ ?_)); clear hK1 K1; rw [hh]; clear hh hz) | (refine (h7).mono ?_; rintro _ hz ⟨rfl, hh⟩; ((refine ⟨rfl, hK1 _ ?_⟩)); clear hK1 K1; rw [hh]; clear hh hz)))
 simp only [Tryz.results79, go_sem, ↓reduceIte, reduceCtorEq, nA, nB, nC, nD, nE, nF]
 exact ⟨_, _, Weak.refl _, Hp.le.refl _, q, rfl⟩
theorem c_checked (h : Hp) : ACalls Tryz.prog 70 [.agg lA] h (fun r h' => ∃ q, r = .tup [.agg [.v (.int .i64 1), rA q, .v (.int .i64 5)], .v (.int .i64 0)]) := by
 have h1 := c_check h
 have h2 := fun h => c_roundOf h
 unfold lA nlS rA at *
 refine gE Tryz.func70 rfl (by kernel_rfl) 14 rfl fun c => ?_
 (repeat (first | refine gO rfl ?_ | (refine gM zM27 fun K1 hK1 => ?_; simp only [go_sem, ↓reduceIte, reduceCtorEq, nA, nB, nC, nD, nE, nF, Int.reduceBEq, Int.reduceTMod, Int.reduceTDiv, Int.reduceMul, Int.reduceBNe, Int.reduceLT, Int.reduceLE, Int.reduceAdd, Int.reduceSub, Int.reduceNeg, decide_true, decide_false, Bool.true_and, Bool.false_and, Bool.and_true, Bool.and_false, Bool.or_false, Bool.or_true, Bool.true_or, Bool.false_or, Bool.not_true, Bool.not_false, true_implies, false_implies, true_and, and_true, Int.reduceToNat] <;> and_intros <;> first | (apply hK1; clear hK1 K1) | skip)))
 refine h1.mono ?_
 rintro _ ha rfl
 refine hK1 _ ?_; clear hK1 K1 h1
 (repeat (first | refine gO rfl ?_ | (refine gM zM27 fun K1 hK1 => ?_; simp only [go_sem, ↓reduceIte, reduceCtorEq, nA, nB, nC, nD, nE, nF, Int.reduceBEq, Int.reduceTMod, Int.reduceTDiv, Int.reduceMul, Int.reduceBNe, Int.reduceLT, Int.reduceLE, Int.reduceAdd, Int.reduceSub, Int.reduceNeg, decide_true, decide_false, Bool.true_and, Bool.false_and, Bool.and_true, Bool.and_false, Bool.or_false, Bool.or_true, Bool.true_or, Bool.false_or, Bool.not_true, Bool.not_false, true_implies, false_implies, true_and, and_true, Int.reduceToNat] <;> and_intros <;> first | (apply hK1; clear hK1 K1) | skip) | (refine awp_cond (t := _) rfl (fun hq => ?_) (fun hq => ?_) <;> first | (exact absurd hq (by decide)) | (clear hq))))
 refine (h2 _).mono ?_
 rintro _ hb ⟨q, rfl⟩
 refine hK1 _ ?_; clear hK1 K1 h2
 (repeat (first | refine gO rfl ?_ | (refine gM zM27 fun K1 hK1 => ?_; simp only [go_sem, ↓reduceIte, reduceCtorEq, nA, nB, nC, nD, nE, nF, Int.reduceBEq, Int.reduceTMod, Int.reduceTDiv, Int.reduceMul, Int.reduceBNe, Int.reduceLT, Int.reduceLE, Int.reduceAdd, Int.reduceSub, Int.reduceNeg, decide_true, decide_false, Bool.true_and, Bool.false_and, Bool.and_true, Bool.and_false, Bool.or_false, Bool.or_true, Bool.true_or, Bool.false_or, Bool.not_true, Bool.not_false, true_implies, false_implies, true_and, and_true, Int.reduceToNat] <;> and_intros <;> (apply hK1; clear hK1 K1))))
 simp only [Tryz.results70, go_sem, ↓reduceIte, reduceCtorEq, nA, nB, nC, nD, nE, nF]
 exact ⟨_, _, Weak.refl _, Hp.le.refl _, q, rfl⟩
theorem g_round1 (h : Hp) : ACalls Tryz.prog 15 [.agg lA] h (fun r h' => r = .tup [.v (.int .i64 1), .v (.int .i64 1), .v (.int .i64 5), .v (.int .i64 0)]) := by
 have h2 := fun h => c_checked h
 unfold lA nlS rA at *
 refine gE Tryz.func15 rfl (by kernel_rfl) 21 rfl fun c => ?_
 (repeat (first | refine gO rfl ?_ | ((refine gM zM23 fun K1 hK1 => ?_; simp only [go_sem, ↓reduceIte, reduceCtorEq, nA, nB, nC, nD, nE, nF, Int.reduceBEq, Int.reduceTMod, Int.reduceTDiv, Int.reduceMul, Int.reduceBNe, Int.reduceLT, Int.reduceLE, Int.reduceAdd, Int.reduceSub, Int.reduceNeg, decide_true, decide_false, Bool.true_and, Bool.false_and, Bool.and_true, Bool.and_false, Bool.or_false, Bool.or_true, Bool.true_or, Bool.false_or, Bool.not_true, Bool.not_false, true_implies, false_implies, true_and, and_true, Int.reduceToNat] <;> and_intros <;> first | (apply hK1; clear hK1 K1) | skip))))
 refine (h2 _).mono ?_
 rintro _ hb ⟨q, rfl⟩
 refine hK1 _ ?_; clear hK1 K1 h2
 (repeat (first | refine gO rfl ?_ | ((first | refine gM zM23 ?_ | ((with_reducible refine xS ?_); refine uD 4 zM23 zP13E zP13P 22 rfl (by kernel_rfl) ?_)) <;> ((try with_reducible intro K1 hK1); simp only [go_sem, ↓reduceIte, reduceCtorEq, nA, nB, nC, nD, nE, nF, Int.reduceBEq, Int.reduceTMod, Int.reduceTDiv, Int.reduceMul, Int.reduceBNe, Int.reduceLT, Int.reduceLE, Int.reduceAdd, Int.reduceSub, Int.reduceNeg, decide_true, decide_false, Bool.true_and, Bool.false_and, Bool.and_true, Bool.and_false, Bool.or_false, Bool.or_true, Bool.true_or, Bool.false_or, Bool.not_true, Bool.not_false, true_implies, false_implies, true_and, and_true, Int.reduceToNat] <;> and_intros <;> (apply hK1; clear hK1 K1))) | (refine awp_cond (t := _) rfl (fun hq => ?_) (fun hq => ?_) <;> first | (exact absurd hq (by decide)) | (clear hq))))
 simp only [Tryz.results15, go_sem, ↓reduceIte, reduceCtorEq, nA, nB, nC, nD, nE, nF]
 exact ⟨_, _, Weak.refl _, Hp.le.refl _, rfl⟩
abbrev zP14E : List Nat := [0, 1, 2, 3, 4, 5, 6, 7, 8, 9, 10, 11, 12, 13, 14]
abbrev zP14P : List (Nat × List Nat × List Nat) := []
attribute [go_sem] zP14E zP14P
def kA : AV := .row 3 [[.v (.int .i64 0), .v (.int .i64 10), .v (.int .i64 5)]] none
theorem c_checkLinks (h : Hp) : ACalls Tryz.prog 101 [kA] h (fun r h' => r = .v (.int .i64 0)) := by
 have h1 := fun h => a_outside 5 1 1000000 h
 unfold kA
 refine gE Tryz.func101 rfl (by kernel_rfl) 54 rfl fun c => ?_
 (repeat (first | refine gO rfl ?_ | ((first | refine gM zM28 ?_ | ((with_reducible refine xS ?_); refine uD 8 zM28 zP14E zP14P 55 rfl (by kernel_rfl) ?_)) <;> ((try with_reducible intro K1 hK1); simp only [go_sem, ↓reduceIte, reduceCtorEq, nA, nB, nC, nD, nE, nF, Int.reduceBEq, Int.reduceTMod, Int.reduceTDiv, Int.reduceMul, Int.reduceBNe, Int.reduceLT, Int.reduceLE, Int.reduceAdd, Int.reduceSub, Int.reduceNeg, decide_true, decide_false, Bool.true_and, Bool.false_and, Bool.and_true, Bool.and_false, Bool.or_false, Bool.or_true, Bool.true_or, Bool.false_or, Bool.not_true, Bool.not_false, true_implies, false_implies, true_and, and_true, Int.reduceToNat] <;> and_intros <;> first | (apply hK1; clear hK1 K1) | (intros; (omega)) | skip)) | (refine awp_cond (t := _) rfl (fun hq => ?_) (fun hq => ?_) <;> first | (exact absurd hq (by decide)) | (clear hq)) | (refine awp_un 8 ?_) | (refine (h1 _).mono ?_; rintro _ hz ⟨rfl, hh⟩; ((refine ⟨rfl, hK1 _ ?_⟩)); clear hK1 K1; rw [hh]; clear hh hz)))
 simp only [Tryz.results101, go_sem, ↓reduceIte, reduceCtorEq, nA, nB, nC, nD, nE, nF]
 exact ⟨_, _, Weak.refl _, Hp.le.refl _, rfl⟩
theorem c_isMoment (h : Hp) : ACalls Tryz.prog 102 [.v (.int .i64 3)] h (fun r h' => r = .v (.bool true) ∧ h' = h) := by
 refine gE Tryz.func102 rfl (by kernel_rfl) 8 rfl fun c => ?_
 (repeat (first | refine gO rfl ?_ | (refine gR fun K1 hK1 => ?_; simp only [go_sem, ↓reduceIte, reduceCtorEq, nA, nB, nC, nD, nE, nF, Int.reduceBEq, Int.reduceTMod, Int.reduceTDiv, Int.reduceMul, Int.reduceBNe, Int.reduceLT, Int.reduceLE, Int.reduceAdd, Int.reduceSub, Int.reduceNeg, decide_true, decide_false, Bool.true_and, Bool.false_and, Bool.and_true, Bool.and_false, Bool.or_false, Bool.or_true, Bool.true_or, Bool.false_or, Bool.not_true, Bool.not_false, true_implies, false_implies, true_and, and_true, Int.reduceToNat] <;> and_intros <;> (apply hK1; clear hK1 K1))))
 simp only [Tryz.results102, go_sem, ↓reduceIte, reduceCtorEq, nA, nB, nC, nD, nE, nF]
 exact ⟨_, _, Weak.refl _, Hp.le.refl _, rfl, rfl⟩
theorem c_done (h : Hp) : ACalls Tryz.prog 103 [kA, .v (.int .i64 3), .v (.int .i64 12)] h (fun r h' => r = .tup [.v (.int .i64 6), .v (.bool true)]) := by
 unfold kA
 refine gE Tryz.func103 rfl (by kernel_rfl) 49 rfl fun c => ?_
 (repeat (first | refine gO rfl ?_ | (refine gM zM29 fun K1 hK1 => ?_; simp only [go_sem, ↓reduceIte, reduceCtorEq, nA, nB, nC, nD, nE, nF, Int.reduceBEq, Int.reduceTMod, Int.reduceTDiv, Int.reduceMul, Int.reduceBNe, Int.reduceLT, Int.reduceLE, Int.reduceAdd, Int.reduceSub, Int.reduceNeg, decide_true, decide_false, Bool.true_and, Bool.false_and, Bool.and_true, Bool.and_false, Bool.or_false, Bool.or_true, Bool.true_or, Bool.false_or, Bool.not_true, Bool.not_false, true_implies, false_implies, true_and, and_true, Int.reduceToNat] <;> and_intros <;> first | (apply hK1; clear hK1 K1) | (intros; (omega))) | (refine awp_cond (t := _) rfl (fun hq => ?_) (fun hq => ?_) <;> first | (exact absurd hq (by decide)) | (clear hq)) | (refine awp_un 8 ?_)))
 simp only [Tryz.results103, go_sem, ↓reduceIte, reduceCtorEq, nA, nB, nC, nD, nE, nF]
 exact ⟨_, _, Weak.refl _, Hp.le.refl _, rfl⟩
theorem g_done1 (h : Hp) : ACalls Tryz.prog 39 [kA, .v (.int .i64 3), .v (.int .i64 12)] h (fun r h' => r = .tup [.v (.int .i64 6), .v (.bool true), .v (.int .i64 0)]) := by
 have h1 := c_checkLinks h
 have h2 := fun h => c_isMoment h
 have h3 := fun h => a_outside 12 0 1000000000000 h
 have h4 := fun h => c_done h
 unfold kA at *
 refine gE Tryz.func39 rfl (by kernel_rfl) 30 rfl fun c => ?_
 (repeat (first | refine gO rfl ?_ | (refine gR fun K1 hK1 => ?_; simp only [go_sem, ↓reduceIte, reduceCtorEq, nA, nB, nC, nD, nE, nF, Int.reduceBEq, Int.reduceTMod, Int.reduceTDiv, Int.reduceMul, Int.reduceBNe, Int.reduceLT, Int.reduceLE, Int.reduceAdd, Int.reduceSub, Int.reduceNeg, decide_true, decide_false, Bool.true_and, Bool.false_and, Bool.and_true, Bool.and_false, Bool.or_false, Bool.or_true, Bool.true_or, Bool.false_or, Bool.not_true, Bool.not_false, true_implies, false_implies, true_and, and_true, Int.reduceToNat] <;> and_intros <;> first | (apply hK1; clear hK1 K1) | skip)))
 refine h1.mono ?_
 rintro _ ha rfl
 refine hK1 _ ?_; clear hK1 K1 h1
 (repeat (first | refine gO rfl ?_ | (refine gR fun K1 hK1 => ?_; simp only [go_sem, ↓reduceIte, reduceCtorEq, nA, nB, nC, nD, nE, nF, Int.reduceBEq, Int.reduceTMod, Int.reduceTDiv, Int.reduceMul, Int.reduceBNe, Int.reduceLT, Int.reduceLE, Int.reduceAdd, Int.reduceSub, Int.reduceNeg, decide_true, decide_false, Bool.true_and, Bool.false_and, Bool.and_true, Bool.and_false, Bool.or_false, Bool.or_true, Bool.true_or, Bool.false_or, Bool.not_true, Bool.not_false, true_implies, false_implies, true_and, and_true, Int.reduceToNat] <;> and_intros <;> first | (apply hK1; clear hK1 K1) | skip) | (refine awp_cond (t := _) rfl (fun hq => ?_) (fun hq => ?_) <;> first | (exact absurd hq (by decide)) | (clear hq)) | (refine (h2 _).mono ?_; rintro _ hz ⟨rfl, hh⟩; ((refine hK1 _ ?_)); clear hK1 K1; rw [hh]; clear hh hz) | (refine (h3 _).mono ?_; rintro _ hz ⟨rfl, hh⟩; ((refine ⟨rfl, hK1 _ ?_⟩)); clear hK1 K1; rw [hh]; clear hh hz)))
 refine (h4 _).mono ?_
 rintro _ hb rfl
 refine hK1 _ ?_; clear hK1 K1
 (repeat (first | refine gO rfl ?_ | (refine gR fun K1 hK1 => ?_; simp only [go_sem, ↓reduceIte, reduceCtorEq, nA, nB, nC, nD, nE, nF, Int.reduceBEq, Int.reduceTMod, Int.reduceTDiv, Int.reduceMul, Int.reduceBNe, Int.reduceLT, Int.reduceLE, Int.reduceAdd, Int.reduceSub, Int.reduceNeg, decide_true, decide_false, Bool.true_and, Bool.false_and, Bool.and_true, Bool.and_false, Bool.or_false, Bool.or_true, Bool.true_or, Bool.false_or, Bool.not_true, Bool.not_false, true_implies, false_implies, true_and, and_true, Int.reduceToNat] <;> and_intros <;> (apply hK1; clear hK1 K1))))
 simp only [Tryz.results39, go_sem, ↓reduceIte, reduceCtorEq, nA, nB, nC, nD, nE, nF]
 exact ⟨_, _, Weak.refl _, Hp.le.refl _, rfl⟩
theorem g_ready (h : Hp) : ACalls Tryz.prog 16 [] h (fun r _ => r = .v (.bool true)) := by
 have h1 := fun h => g_miss5 h
 have h2 := fun h => g_round1 h
 have h3 := fun h => g_done1 h
 have h4 := fun h => g_bind1 h
 have e5 : (s5 == ⟨#[53]⟩) = true := by decide
 unfold lA nlS at h2
 unfold kA at h3
 rw [fC_eq] at h4
 unfold sT at h4
 refine gE Tryz.func16 rfl (by kernel_rfl) 75 rfl fun c => ?_
 (repeat (first | refine gO rfl ?_ | (refine gR fun K1 hK1 => ?_; simp only [go_sem, ↓reduceIte, reduceCtorEq, nA, nB, nC, nD, nE, nF, Int.reduceBEq, Int.reduceTMod, Int.reduceTDiv, Int.reduceMul, Int.reduceBNe, Int.reduceLT, Int.reduceLE, Int.reduceAdd, Int.reduceSub, Int.reduceNeg, decide_true, decide_false, Bool.true_and, Bool.false_and, Bool.and_true, Bool.and_false, Bool.or_false, Bool.or_true, Bool.true_or, Bool.false_or, Bool.not_true, Bool.not_false, true_implies, false_implies, true_and, and_true, Int.reduceToNat] <;> and_intros <;> first | (apply hK1; clear hK1 K1) | (intros; (decide)) | skip)))
 refine (h1 _).mono ?_
 rintro _ ha rfl
 refine hK1 _ ?_; clear hK1 K1 h1
 (repeat (first | refine gO rfl ?_ | (refine gR fun K1 hK1 => ?_; simp only [go_sem, ↓reduceIte, reduceCtorEq, nA, nB, nC, nD, nE, nF, Int.reduceBEq, Int.reduceTMod, Int.reduceTDiv, Int.reduceMul, Int.reduceBNe, Int.reduceLT, Int.reduceLE, Int.reduceAdd, Int.reduceSub, Int.reduceNeg, decide_true, decide_false, Bool.true_and, Bool.false_and, Bool.and_true, Bool.and_false, Bool.or_false, Bool.or_true, Bool.true_or, Bool.false_or, Bool.not_true, Bool.not_false, true_implies, false_implies, true_and, and_true, Int.reduceToNat] <;> and_intros <;> first | (apply hK1; clear hK1 K1) | skip)))
 refine (h2 _).mono ?_
 rintro _ hb rfl
 refine hK1 _ ?_; clear hK1 K1 h2
 (repeat (first | refine gO rfl ?_ | (refine gR fun K1 hK1 => ?_; simp only [go_sem, ↓reduceIte, reduceCtorEq, nA, nB, nC, nD, nE, nF, Int.reduceBEq, Int.reduceTMod, Int.reduceTDiv, Int.reduceMul, Int.reduceBNe, Int.reduceLT, Int.reduceLE, Int.reduceAdd, Int.reduceSub, Int.reduceNeg, decide_true, decide_false, Bool.true_and, Bool.false_and, Bool.and_true, Bool.and_false, Bool.or_false, Bool.or_true, Bool.true_or, Bool.false_or, Bool.not_true, Bool.not_false, true_implies, false_implies, true_and, and_true, Int.reduceToNat] <;> and_intros <;> first | (apply hK1; clear hK1 K1) | (intros; (decide)) | skip)))
 refine (h3 _).mono ?_
 rintro _ hd rfl
 refine hK1 _ ?_; clear hK1 K1 h3
 (repeat (first | refine gO rfl ?_ | (refine gR fun K1 hK1 => ?_; simp only [go_sem, ↓reduceIte, reduceCtorEq, nA, nB, nC, nD, nE, nF, Int.reduceBEq, Int.reduceTMod, Int.reduceTDiv, Int.reduceMul, Int.reduceBNe, Int.reduceLT, Int.reduceLE, Int.reduceAdd, Int.reduceSub, Int.reduceNeg, decide_true, decide_false, Bool.true_and, Bool.false_and, Bool.and_true, Bool.and_false, Bool.or_false, Bool.or_true, Bool.true_or, Bool.false_or, Bool.not_true, Bool.not_false, true_implies, false_implies, true_and, and_true, Int.reduceToNat] <;> and_intros <;> first | (apply hK1; clear hK1 K1) | (intros; (decide)) | skip)))
 refine (h4 _).mono ?_
 rintro _ he rfl
 refine hK1 _ ?_; clear hK1 K1 h4
 (repeat (first | refine gO rfl ?_ | (refine gR fun K1 hK1 => ?_; simp only [go_sem, ↓reduceIte, reduceCtorEq, nA, nB, nC, nD, nE, nF, Int.reduceBEq, Int.reduceTMod, Int.reduceTDiv, Int.reduceMul, Int.reduceBNe, Int.reduceLT, Int.reduceLE, Int.reduceAdd, Int.reduceSub, Int.reduceNeg, decide_true, decide_false, Bool.true_and, Bool.false_and, Bool.and_true, Bool.and_false, Bool.or_false, Bool.or_true, Bool.true_or, Bool.false_or, Bool.not_true, Bool.not_false, true_implies, false_implies, true_and, and_true, Int.reduceToNat, e5] <;> and_intros <;> (apply hK1; clear hK1 K1))))
 simp only [Tryz.results16, go_sem, ↓reduceIte, reduceCtorEq, nA, nB, nC, nD, nE, nF]
 exact ⟨_, _, Weak.refl _, Hp.le.refl _, rfl⟩
abbrev zP15E : List Nat := [0, 1, 2, 3, 4, 5, 6, 7, 8, 9, 10, 11]
abbrev zP15P : List (Nat × List Nat × List Nat) := []
attribute [go_sem] zP15E zP15P
def formB (kind : Int) (item : ByteArray) (long many : Int) (nk ns : Int) : Bool :=
 (kind == 1 && nk != 0) || (kind == 5 && nk != 1) || (kind != 1 && nk == 0) || (kind == 4 && ns != nk) || (kind != 4 && ns != 0) || (kind != 1 && (item != ⟨#[]⟩ || long != 0)) || (kind != 5 && many != 0)
theorem g_form (kind : Int) (item : ByteArray) (long many : Int) (kids : List LT) (shares : List Int) (h : Hp) (hk : kids.length ≤ 1000) (hs : shares.length ≤ 1000) :
  ACalls Tryz.prog 199 [.agg (encL (.mk kind item long many kids shares))] h (fun r h' => r = .v (.bool (formB kind item long many kids.length shares.length)) ∧ h' = h) := by
 rw [encL_eq]
 have key : ∀ b1 b4 b5 : Bool, (kind == 1) = b1 → (kind == 4) = b4 → (kind == 5) = b5 → (b1 && b4) = false → (b1 && b5) = false → (b4 && b5) = false →
   ACalls Tryz.prog 199 [.agg [.v (.int .i64 kind), .v (.string item), .v (.int .i64 long), .v (.int .i64 many), .row 6 (kids.map encL) none, .row 1 (shares.map encI) none]] h (fun r h' => r = .v (.bool (formB kind item long many kids.length shares.length)) ∧ h' = h) := by
  intro b1 b4 b5 e1 e4 e5
  cases b1 <;> cases b4 <;> cases b5 <;> intro f1 f2 f3 <;> first | (cases f1; done) | (cases f2; done) | (cases f3; done) | skip
  all_goals
   refine gE Tryz.func199 rfl (by kernel_rfl) 77 rfl fun c => ?_
   (repeat' (first | refine gO rfl ?_ | ((first | ((with_reducible refine yS ?_); refine awp_keep zK20 100 (kS ?_)) | ((with_reducible refine yR ?_); refine awp_keep zK20 100 (kR ?_)) | refine gR ?_ | (with_reducible refine wM ?_ ?_) | ((with_reducible refine xS ?_); refine awp_keep zK20 100 (uD 1 zM22 zP15E zP15P 78 rfl (by kernel_rfl) ?_))) <;> ((try with_reducible intro K1 hK1); simp only [go_sem, ↓reduceIte, reduceCtorEq, nA, nB, nC, nD, nE, nF, e1, e4, e5, nG, nH, nI] <;> and_intros <;> first | (apply hK1; clear hK1 K1) | (intros; first | omega | decide | (simp_all <;> omega)) | skip)) | (refine awp_cond (t := _) rfl (fun hcnd => ?_) (fun hcnd => ?_) <;> first | (cases hcnd; done) | (simp only [hcnd]) | skip)))
  all_goals simp only [Tryz.results199, go_sem, ↓reduceIte, reduceCtorEq, nA, nB, nC, nD, nE, nF]
  all_goals exact ⟨_, _, Weak.refl _, Hp.le.refl _, by clear hs hk c; simp only [formB, bne, Bool.not_eq_true', Bool.not_eq_false'] at *; simp only [*, Bool.not_true, Bool.not_false, Bool.false_and, Bool.true_and, Bool.and_false, Bool.false_or, Bool.true_or, Bool.or_true, Bool.or_false], rfl⟩
 exact key _ _ _ rfl rfl rfl (by simp; omega) (by simp; omega) (by simp; omega)
def manyF : LT → Int
 | .mk _ _ _ _ kids _ => (kids.map manyF).sum + 1
def deepF : LT → Int
 | .mk _ _ _ _ kids _ => (kids.map deepF).foldl max 0 + 1
theorem manyF_eq (kind : Int) (item : ByteArray) (long many : Int) (kids : List LT) (shares : List Int) : manyF (.mk kind item long many kids shares) = (kids.map manyF).sum + 1 := by rw [manyF]
theorem deepF_eq (kind : Int) (item : ByteArray) (long many : Int) (kids : List LT) (shares : List Int) : deepF (.mk kind item long many kids shares) = (kids.map deepF).foldl max 0 + 1 := by rw [deepF]
theorem sum_bd {α : Type} (f : α → Int) (b : Int) (hb : 0 ≤ b) : ∀ (l : List α), (∀ x ∈ l, 0 ≤ f x ∧ f x ≤ b) → 0 ≤ (l.map f).sum ∧ (l.map f).sum ≤ l.length * b
 | [], _ => by simp
 | x :: l, h => by
  have h1 := h x (by simp)
  have h2 := sum_bd f b hb l fun y hy => h y (by simp [hy])
  have e : ((l.length + 1 : Nat) : Int) * b = l.length * b + b := by rw [show ((l.length + 1 : Nat) : Int) = l.length + 1 by omega, Int.add_mul, Int.one_mul]
  simp only [List.map_cons, List.sum_cons, List.length_cons, e]
  omega
theorem max_bd {α : Type} (f : α → Int) (b : Int) : ∀ (l : List α) (a : Int), a ≤ b → (∀ x ∈ l, f x ≤ b) → a ≤ (l.map f).foldl max a ∧ (l.map f).foldl max a ≤ b
 | [], a, ha, _ => by simp; omega
 | x :: l, a, ha, h => by
  have h1 := h x (by simp)
  have h2 := max_bd f b l (max a (f x)) (by omega) fun y hy => h y (by simp [hy])
  simp only [List.map_cons, List.foldl_cons]
  omega
def KC : Nat → LT → Prop
 | 0, _ => False
 | d + 1, .mk kind item long many kids shares => NB kind ∧ item.size ≤ 2 ∧ NB long ∧ NB many ∧ kids.length ≤ 1000 ∧ shares.length ≤ 1000 ∧ (∀ x ∈ shares, NB x) ∧ ∀ k ∈ kids, KC d k
theorem KC.mono : ∀ {d e : Nat} {t : LT}, KC d t → d ≤ e → KC e t
 | 0, _, _, h, _ => h.elim
 | d + 1, 0, _, _, h => by omega
 | d + 1, e + 1, .mk .., h, hd => ⟨h.1, h.2.1, h.2.2.1, h.2.2.2.1, h.2.2.2.2.1, h.2.2.2.2.2.1, h.2.2.2.2.2.2.1, fun k hk => (h.2.2.2.2.2.2.2 k hk).mono (by omega)⟩
theorem LC.kc : ∀ {d : Nat} {t : LT}, LC d t → KC d t
 | 0, _, h => h.elim
 | d + 1, .mk .., h => ⟨h.1, h.2.1, h.2.2.1, h.2.2.2.1, by have := h.2.2.2.2.1; omega, by have := h.2.2.2.2.2.1; omega, h.2.2.2.2.2.2.1, fun k hk => (h.2.2.2.2.2.2.2 k hk).kc⟩
theorem size_small : ∀ (d : Nat) (t : LT), LC d t → 1 ≤ manyF t ∧ manyF t ≤ 4 ^ d
 | 0, _, h => h.elim
 | d + 1, .mk kind item long many kids shares, h => by
  obtain ⟨_, _, _, _, hk, _, _, hkk⟩ := h
  have h1 := sum_bd manyF (4 ^ d) (Int.le_of_lt (Int.pow_pos (by decide))) kids fun x hx => by have := size_small d x (hkk x hx); omega
  have h3 : (kids.length : Int) * 4 ^ d ≤ 3 * 4 ^ d := Int.mul_le_mul_of_nonneg_right (by omega) (Int.le_of_lt (Int.pow_pos (by decide)))
  have h4 : (1 : Int) ≤ 4 ^ d := Int.pow_pos (by decide)
  rw [manyF_eq]
  refine ⟨by omega, ?_⟩
  rw [Int.pow_succ]; omega
theorem size_small23 {t : LT} (h : LC 23 t) : manyF t ≤ 1000000000000000 ∧ 23 ≤ 1000 := by
 have := (size_small 23 t h).2
 have e : (4 : Int) ^ 23 = 70368744177664 := by decide
 omega
theorem size_bd : ∀ (d : Nat) (t : LT), KC d t → 1 ≤ manyF t ∧ 1 ≤ deepF t ∧ deepF t ≤ d
 | 0, _, h => h.elim
 | d + 1, .mk kind item long many kids shares, h => by
  obtain ⟨_, _, _, _, hk, _, _, hkk⟩ := h
  have h1 : ∀ l : List LT, (∀ x ∈ l, KC d x) → 0 ≤ (l.map manyF).sum := fun l => by
   induction l with
   | nil => simp
   | cons x l ih => intro h; have h1 := size_bd d x (h x (by simp)); have h2 := ih fun y hy => h y (by simp [hy]); simp only [List.map_cons, List.sum_cons]; omega
  have h0 := h1 kids hkk
  have h2 := max_bd deepF d kids 0 (by omega) fun x hx => (size_bd d x (hkk x hx)).2.2
  rw [manyF_eq, deepF_eq]
  omega
theorem many_take {kids : List LT} (hp : ∀ x ∈ kids, 0 ≤ manyF x) (j : Nat) : 0 ≤ ((kids.take j).map manyF).sum ∧ ((kids.take j).map manyF).sum ≤ (kids.map manyF).sum := by
 have e : (kids.map manyF).sum = ((kids.take j).map manyF).sum + ((kids.drop j).map manyF).sum := by rw [← List.sum_append, ← List.map_append, List.take_append_drop]
 have : ∀ l : List LT, (∀ x ∈ l, 0 ≤ manyF x) → 0 ≤ (l.map manyF).sum := fun l => by
  induction l with
  | nil => simp
  | cons x l ih => intro h; have h1 := h x (by simp); have h2 := ih fun y hy => h y (by simp [hy]); simp only [List.map_cons, List.sum_cons]; omega
 have a := this (kids.drop j) fun x hx => hp x (List.mem_of_mem_drop hx)
 have b := this (kids.take j) fun x hx => hp x (List.mem_of_mem_take hx)
 omega
theorem many_kid {kids : List LT} (hp : ∀ x ∈ kids, 0 ≤ manyF x) {k : LT} (hk : k ∈ kids) : manyF k ≤ (kids.map manyF).sum := by
 induction kids with
 | nil => cases hk
 | cons x l ih =>
  have h2 := many_take (kids := l) (fun y hy => hp y (by simp [hy])) 0
  have h1 := hp x (by simp)
  simp only [List.take_zero, List.map_nil, List.sum_nil] at h2
  simp only [List.map_cons, List.sum_cons]
  rcases List.mem_cons.1 hk with rfl | h
  ·omega
  ·have := ih (fun y hy => hp y (by simp [hy])) h; omega
theorem take_succ_map {α : Type} {β : Type} [Inhabited α] (f : α → β) (l : List α) (j : Nat) (h : j < l.length) : (l.take (j + 1)).map f = (l.take j).map f ++ [f (l.getD j default)] := by
 rw [List.take_add_one, List.getD_eq_getElem?_getD, List.getElem?_eq_getElem h]; simp only [List.map_append, Option.toList_some, List.map_cons, List.map_nil, Option.getD_some]
theorem getD_mem' {α : Type} (l : List α) (j : Nat) (d : α) (h : j < l.length) : l.getD j d ∈ l := by
 rw [List.getD_eq_getElem?_getD, List.getElem?_eq_getElem h]; exact List.getElem_mem _
abbrev zP16E : List Nat := [0, 1, 2, 3, 4, 5, 6, 7, 8, 9, 10]
abbrev zP16P : List (Nat × List Nat × List Nat) := []
attribute [go_sem] zP16E zP16P
def aggOf (cs : List AV) : AV := .agg cs
theorem g_index51 (fid : Nat) (caps : List AV) (xs : List (List AV)) (hx : ∀ j, j < xs.length → (xs.getD j []).length = 6) (hl : xs.length ≤ 100000) (I P : Nat → Hp → Prop) (h : Hp) (h0 : I 0 h)
  (step : ∀ j h, j < xs.length → I j h → ACalls Tryz.prog fid (aggOf (xs.getD j []) :: caps) h (fun r h' => ∃ b, r = .v (.bool b) ∧ (b = true → P j h') ∧ (b = false → I (j + 1) h'))) :
  ACalls Tryz.prog 255 [.row 6 xs none, .fn fid caps] h (fun r h' => (∃ j : Nat, j < xs.length ∧ r = .v (.int .i64 j) ∧ P j h') ∨ r = .v (.int .i64 (-1)) ∧ I xs.length h') := by
 refine gE Tryz.func255 rfl (by kernel_rfl) 17 rfl fun c => ?_
 (repeat (first | refine gO rfl ?_ | (refine gR fun K1 hK1 => ?_; simp only [go_sem, ↓reduceIte, reduceCtorEq, nA, nB, nC, nD, nE, nF] <;> and_intros <;> (apply hK1; clear hK1 K1))))
 refine awp_loopC (rl false [0, 2, 5, 2, 10]) 0 (fun g s => ∃ (j : Nat) (h' : Hp), g + j = xs.length ∧ I j h' ∧ s = ⟨((.row 6 xs none) :: (.fn fid caps) :: (jnk 5 ((.v (.int .i64 xs.length)) :: (.v (.int .i64 j)) :: (jnk 10 [])))), [], h'⟩) xs.length ⟨0, h, by omega, h0, rfl⟩ ?_
 rintro g _ ⟨j, h', hj, hI, rfl⟩
 (repeat (first | refine gO rfl ?_ | (refine gR fun K1 hK1 => ?_; simp only [go_sem, ↓reduceIte, reduceCtorEq, nA, nB, nC, nD, nE, nF] <;> and_intros <;> (apply hK1; clear hK1 K1))))
 refine awp_cond (t := _) rfl (fun h1 => ?_) (fun h1 => ?_)
 ·simp only [decide_eq_true_eq] at h1
  have hjk : j < xs.length := by omega
  have hlen := hx j hjk
  have st := step j h' hjk hI
  (repeat (first | refine gO rfl ?_ | (refine gR fun K1 hK1 => ?_; simp only [go_sem, ↓reduceIte, reduceCtorEq, nA, nB, nC, nD, nE, nF, Int.toNat_natCast, hlen] <;> and_intros <;> first | (apply hK1; clear hK1 K1) | (intros; (omega)) | skip)))
  rw [show List.take 6 (xs.getD j []) = xs.getD j [] from List.take_of_length_le (Nat.le_of_eq hlen)]
  refine st.mono ?_; rintro _ _ ⟨b, rfl, hb1, hb2⟩; apply hK1; clear hK1 K1
  (repeat ((refine gO rfl ?_)))
  refine awp_cond (t := _) rfl (fun h2 => ?_) (fun h2 => ?_)
  ·(repeat (first | refine gO rfl ?_ | (refine gR fun K1 hK1 => ?_; simp only [go_sem, ↓reduceIte, reduceCtorEq, nA, nB, nC, nD, nE, nF] <;> and_intros <;> (apply hK1; clear hK1 K1))))
   simp only [Tryz.results255, go_sem, ↓reduceIte, reduceCtorEq, nA, nB, nC, nD, nE, nF]
   exact ⟨_, _, Weak.refl _, Hp.le.refl _, .inl ⟨j, hjk, rfl, hb1 h2⟩⟩
  ·(repeat (first | refine gO rfl ?_ | (refine gR fun K1 hK1 => ?_; simp only [go_sem, ↓reduceIte, reduceCtorEq, nA, nB, nC, nD, nE, nF] <;> and_intros <;> first | (apply hK1; clear hK1 K1) | (intros; (omega)))))
   exact ⟨g - 1, by omega, j + 1, _, by omega, hb2 h2, rfl⟩
 ·simp only [decide_eq_false_iff_not] at h1
  have hjk : j = xs.length := by omega
  subst hjk
  (repeat (first | refine gO rfl ?_ | (refine gR fun K1 hK1 => ?_; simp only [go_sem, ↓reduceIte, reduceCtorEq, nA, nB, nC, nD, nE, nF] <;> and_intros <;> (apply hK1; clear hK1 K1))))
  simp only [Tryz.results255, go_sem, ↓reduceIte, reduceCtorEq, nA, nB, nC, nD, nE, nF]
  exact ⟨_, _, Weak.refl _, Hp.le.refl _, .inr ⟨rfl, hI⟩⟩
theorem g_contains41 (fid : Nat) (caps : List AV) (xs : List (List AV)) (hx : ∀ j, j < xs.length → (xs.getD j []).length = 6) (hl : xs.length ≤ 100000) (I P : Nat → Hp → Prop) (h : Hp) (h0 : I 0 h)
  (step : ∀ j h, j < xs.length → I j h → ACalls Tryz.prog fid (aggOf (xs.getD j []) :: caps) h (fun r h' => ∃ b, r = .v (.bool b) ∧ (b = true → P j h') ∧ (b = false → I (j + 1) h'))) :
  ACalls Tryz.prog 197 [.row 6 xs none, .fn fid caps] h (fun r h' => (∃ j : Nat, j < xs.length ∧ r = .v (.bool true) ∧ P j h') ∨ r = .v (.bool false) ∧ I xs.length h') := by
 refine gE Tryz.func197 rfl (by kernel_rfl) 7 rfl fun c => ?_
 (repeat (first | refine gO rfl ?_ | (refine gR fun K1 hK1 => ?_; simp only [go_sem, ↓reduceIte, reduceCtorEq, nA, nB, nC, nD, nE, nF] <;> and_intros <;> first | (apply hK1; clear hK1 K1) | skip)))
 refine (g_index51 fid caps xs hx hl I P h h0 step).mono ?_
 rintro _ h' (⟨j, hj, rfl, hp⟩ | ⟨rfl, hi⟩)
 ·refine hK1 _ ?_; clear hK1 K1
  (repeat (first | refine gO rfl ?_ | (refine gR fun K1 hK1 => ?_; simp only [go_sem, ↓reduceIte, reduceCtorEq, nA, nB, nC, nD, nE, nF] <;> and_intros <;> (apply hK1; clear hK1 K1))))
  simp only [Tryz.results197, go_sem, ↓reduceIte, reduceCtorEq, nA, nB, nC, nD, nE, nF]
  exact ⟨_, _, Weak.refl _, Hp.le.refl _, .inl ⟨j, hj, by simp, hp⟩⟩
 ·refine hK1 _ ?_; clear hK1 K1
  (repeat (first | refine gO rfl ?_ | (refine gR fun K1 hK1 => ?_; simp only [go_sem, ↓reduceIte, reduceCtorEq, nA, nB, nC, nD, nE, nF] <;> and_intros <;> (apply hK1; clear hK1 K1))))
  simp only [Tryz.results197, go_sem, ↓reduceIte, reduceCtorEq, nA, nB, nC, nD, nE, nF]
  exact ⟨_, _, Weak.refl _, Hp.le.refl _, .inr ⟨by simp, hi⟩⟩
def outB (x lo hi : Int) : Bool := decide (x < lo) || decide (hi < x)
def firstNZ : List Int → Int
 | [] => 0
 | x :: xs => if x = 0 then firstNZ xs else x
def partF : LT → Int
 | .mk kind item long many kids shares =>
  if outB kind 1 5 then 4 else if formB kind item long many kids.length shares.length then 3 else if kind == 1 && !keyB item then 5 else if kind == 1 && outB long 1 3600000 then 1
   else if kind == 5 && outB many 1 100 then 1 else if shares.any (fun n => outB n 1 1000) then 1 else firstNZ (kids.map partF)
theorem partF_eq (kind : Int) (item : ByteArray) (long many : Int) (kids : List LT) (shares : List Int) : partF (.mk kind item long many kids shares) =
  if outB kind 1 5 then 4 else if formB kind item long many kids.length shares.length then 3 else if kind == 1 && !keyB item then 5 else if kind == 1 && outB long 1 3600000 then 1
   else if kind == 5 && outB many 1 100 then 1 else if shares.any (fun n => outB n 1 1000) then 1 else firstNZ (kids.map partF) := by rw [partF]
theorem firstNZ_app (l : List Int) (x : Int) : firstNZ (l ++ [x]) = if firstNZ l = 0 then x else firstNZ l := by
 induction l with
 | nil => simp only [List.nil_append, firstNZ]; split <;> simp_all
 | cons y l ih =>
  simp only [List.cons_append, firstNZ]
  split
  ·exact ih
  ·simp_all
theorem firstNZ_pre : ∀ (l : List Int) (j : Nat) (x : Int), l[j]? = some x → x ≠ 0 → firstNZ (l.take j) = 0 → firstNZ l = x
 | [], _, _, h, _, _ => by simp at h
 | y :: l, 0, x, h, hx, _ => by simp at h; subst h; simp [firstNZ, hx]
 | y :: l, j + 1, x, h, hx, h0 => by
  simp only [List.take_succ_cons, firstNZ] at h0 ⊢
  split at h0
  ·rename_i hy; rw [if_pos hy]; exact firstNZ_pre l j x (by simpa using h) hx h0
  ·rename_i hy; exact absurd h0 hy
theorem g_part24 : ∀ (d : Nat) (t : LT) (h : Hp), KC d t → ACalls Tryz.prog 140 [.agg (encL t)] h (fun r h' => r = .v (.int .i64 (partF t)) ∧ h' = h)
 | 0, _, _, hb => hb.elim
 | d + 1, .mk kind item long many kids shares, h0, hb => by
  obtain ⟨b1, b2, b3, b4, b5, b6, b7, b8⟩ := hb
  have hf := fun h => g_form kind item long many kids shares h b5 b6
  simp only [encL_eq] at hf ⊢
  refine gE Tryz.func140 rfl (by kernel_rfl) 63 rfl fun c => ?_
  (repeat (first | refine gO rfl ?_ | (refine gM zM23 fun K1 hK1 => ?_; simp only [go_sem, ↓reduceIte, reduceCtorEq, nA, nB, nC, nD, nE, nF] <;> and_intros <;> first | (apply hK1; clear hK1 K1) | skip)))
  refine (a_outside kind 1 5 _).mono ?_; rintro _ hz ⟨rfl, hh⟩; apply hK1; clear hK1 K1; rw [hh]; clear hh hz
  (repeat ((refine gO rfl ?_)))
  refine awp_cond (t := _) rfl (fun h1 => ?_) (fun h1 => ?_)
  ·(repeat (first | refine gO rfl ?_ | (refine gM zM23 fun K1 hK1 => ?_; simp only [go_sem, ↓reduceIte, reduceCtorEq, nA, nB, nC, nD, nE, nF] <;> and_intros <;> (apply hK1; clear hK1 K1))))
   simp only [Tryz.results140, go_sem, ↓reduceIte, reduceCtorEq, nA, nB, nC, nD, nE, nF]
   exact ⟨_, _, Weak.refl _, Hp.le.refl _, by rw [partF_eq, show outB kind 1 5 = true from h1]; rfl, rfl⟩
  ·(repeat (first | refine gO rfl ?_ | (refine gM zM23 fun K1 hK1 => ?_; simp only [go_sem, ↓reduceIte, reduceCtorEq, nA, nB, nC, nD, nE, nF] <;> and_intros)))
   refine (hf _).mono ?_; rintro _ hz ⟨rfl, hh⟩; apply hK1; clear hK1 K1; rw [hh]; clear hh hz
   (repeat ((refine gO rfl ?_)))
   refine awp_cond (t := _) rfl (fun h2 => ?_) (fun h2 => ?_)
   ·(repeat (first | refine gO rfl ?_ | (refine gM zM23 fun K1 hK1 => ?_; simp only [go_sem, ↓reduceIte, reduceCtorEq, nA, nB, nC, nD, nE, nF] <;> and_intros <;> (apply hK1; clear hK1 K1))))
    simp only [Tryz.results140, go_sem, ↓reduceIte, reduceCtorEq, nA, nB, nC, nD, nE, nF]
    exact ⟨_, _, Weak.refl _, Hp.le.refl _, by rw [partF_eq, show outB kind 1 5 = false from h1, h2]; rfl, rfl⟩
   ·(repeat ((refine gQ rfl ?_)))
    refine awp_seq ?_
    refine awp_join (rl false [1, 1, 62]) 0 (fun s => ((kind == 1 && !keyB item) = false ∧ (kind == 1 && outB long 1 3600000) = false ∧ (kind == 5 && outB many 1 100) = false) ∧
     s = ⟨(AV.junk :: ((.ref [.v (.int .i64 kind), .v (.string item), .v (.int .i64 long), .v (.int .i64 many), .row 6 (kids.map encL) none, .row 1 (shares.map encI) none] 0) :: (jnk 62 []))), [], h0⟩) ?_ ?_
    ·have key : ∀ q1 q5 : Bool, (kind == 1) = q1 → (kind == 5) = q5 → (q1 && q5) = false → (q1 = true ∧ q5 = false ∨ q1 = false ∧ q5 = true ∨ q1 = false ∧ q5 = false) := by intro q1 q5 _ _; cases q1 <;> cases q5 <;> simp
     rcases key _ _ rfl rfl (by simp; omega) with ⟨e1, e5⟩ | ⟨e1, e5⟩ | ⟨e1, e5⟩
     ·(repeat (first | refine gO rfl ?_ | (refine gM zM23 fun K1 hK1 => ?_; simp only [go_sem, ↓reduceIte, reduceCtorEq, nA, nB, nC, nD, nE, nF, e1, e5] <;> and_intros <;> first | (intros; (simp_all <;> omega)) | skip)))
      refine (a_isKey item (by omega) _).mono ?_; rintro _ hz ⟨rfl, hh⟩; refine ⟨rfl, hK1 _ ?_⟩; clear hK1 K1; rw [hh]; clear hh hz
      (repeat (first | refine gO rfl ?_ | (refine gM zM23 fun K1 hK1 => ?_; simp only [go_sem, ↓reduceIte, reduceCtorEq, nA, nB, nC, nD, nE, nF, e1, e5] <;> and_intros <;> (apply hK1; clear hK1 K1))))
      refine awp_cond (t := _) rfl (fun h3 => ?_) (fun h3 => ?_)
      ·(repeat (first | refine gO rfl ?_ | (refine gM zM23 fun K1 hK1 => ?_; simp only [go_sem, ↓reduceIte, reduceCtorEq, nA, nB, nC, nD, nE, nF] <;> and_intros <;> (apply hK1; clear hK1 K1))))
       simp only [Tryz.results140, go_sem, ↓reduceIte, reduceCtorEq, nA, nB, nC, nD, nE, nF]
       exact ⟨_, _, Weak.refl _, Hp.le.refl _, by rw [partF_eq, show outB kind 1 5 = false from h1, h2, e1, h3]; rfl, rfl⟩
      ·(repeat ((refine gM zM23 fun K1 hK1 => ?_; simp only [go_sem, ↓reduceIte, reduceCtorEq, nA, nB, nC, nD, nE, nF, e1, e5] <;> and_intros <;> first | (intros; (simp_all <;> omega)) | skip)))
       refine (a_outside long 1 3600000 _).mono ?_; rintro _ hz ⟨rfl, hh⟩; refine ⟨rfl, hK1 _ ?_⟩; clear hK1 K1; rw [hh]; clear hh hz
       (repeat (first | refine gO rfl ?_ | (refine gM zM23 fun K1 hK1 => ?_; simp only [go_sem, ↓reduceIte, reduceCtorEq, nA, nB, nC, nD, nE, nF, e1, e5] <;> and_intros <;> (apply hK1; clear hK1 K1))))
       refine awp_cond (t := _) rfl (fun h4 => ?_) (fun h4 => ?_)
       ·(repeat (first | refine gO rfl ?_ | (refine gM zM23 fun K1 hK1 => ?_; simp only [go_sem, ↓reduceIte, reduceCtorEq, nA, nB, nC, nD, nE, nF] <;> and_intros <;> (apply hK1; clear hK1 K1))))
        simp only [Tryz.results140, go_sem, ↓reduceIte, reduceCtorEq, nA, nB, nC, nD, nE, nF]
        exact ⟨_, _, Weak.refl _, Hp.le.refl _, by rw [partF_eq, show outB kind 1 5 = false from h1, h2, e1, h3, show outB long 1 3600000 = true from h4]; rfl, rfl⟩
       ·(repeat (first | refine gO rfl ?_ | (refine gM zM23 fun K1 hK1 => ?_; simp only [go_sem, ↓reduceIte, reduceCtorEq, nA, nB, nC, nD, nE, nF, e1, e5] <;> and_intros <;> (apply hK1; clear hK1 K1))))
        refine awp_cond (t := _) rfl (fun h5 => by cases h5) (fun h5 => ?_)
        (repeat ((refine gO rfl ?_)))
        exact ⟨⟨by simp only [e1, e5, h3, Bool.true_and, Bool.false_and], by simp only [e1, e5, outB, h4, Bool.true_and, Bool.false_and], by simp only [e1, e5, outB, h4, Bool.true_and, Bool.false_and]⟩, rfl⟩
     ·(repeat (first | refine gO rfl ?_ | (refine gM zM23 fun K1 hK1 => ?_; simp only [go_sem, ↓reduceIte, reduceCtorEq, nA, nB, nC, nD, nE, nF, e1, e5] <;> and_intros <;> first | (apply hK1; clear hK1 K1) | skip)))
      refine ⟨.v (.bool false), rfl, True.intro, hK1 _ ?_⟩; clear hK1 K1
      (repeat ((refine gO rfl ?_)))
      refine awp_cond (t := _) rfl (fun h5 => by cases h5) (fun h5 => ?_)
      (repeat (first | refine gO rfl ?_ | (refine gM zM23 fun K1 hK1 => ?_; simp only [go_sem, ↓reduceIte, reduceCtorEq, nA, nB, nC, nD, nE, nF, e1, e5] <;> and_intros <;> (apply hK1; clear hK1 K1))))
      refine awp_cond (t := _) rfl (fun h5 => by cases h5) (fun h5 => ?_)
      (repeat ((refine gM zM23 fun K1 hK1 => ?_; simp only [go_sem, ↓reduceIte, reduceCtorEq, nA, nB, nC, nD, nE, nF, e1, e5] <;> and_intros <;> first | (intros; (simp_all <;> omega)) | skip)))
      refine (a_outside many 1 100 _).mono ?_; rintro _ hz ⟨rfl, hh⟩; refine ⟨rfl, hK1 _ ?_⟩; clear hK1 K1; rw [hh]; clear hh hz
      (repeat (first | refine gO rfl ?_ | (refine gM zM23 fun K1 hK1 => ?_; simp only [go_sem, ↓reduceIte, reduceCtorEq, nA, nB, nC, nD, nE, nF, e1, e5] <;> and_intros <;> (apply hK1; clear hK1 K1))))
      refine awp_cond (t := _) rfl (fun h4 => ?_) (fun h4 => ?_)
      ·(repeat (first | refine gO rfl ?_ | (refine gM zM23 fun K1 hK1 => ?_; simp only [go_sem, ↓reduceIte, reduceCtorEq, nA, nB, nC, nD, nE, nF] <;> and_intros <;> (apply hK1; clear hK1 K1))))
       simp only [Tryz.results140, go_sem, ↓reduceIte, reduceCtorEq, nA, nB, nC, nD, nE, nF]
       exact ⟨_, _, Weak.refl _, Hp.le.refl _, by rw [partF_eq, show outB kind 1 5 = false from h1, h2, e1, e5, show outB many 1 100 = true from h4]; rfl, rfl⟩
      ·(repeat ((refine gO rfl ?_)))
       exact ⟨⟨by simp only [e1, e5, h4, Bool.true_and, Bool.false_and], by simp only [e1, e5, outB, h4, Bool.true_and, Bool.false_and], by simp only [e1, e5, outB, h4, Bool.true_and, Bool.false_and]⟩, rfl⟩
     ·(repeat (first | refine gO rfl ?_ | (refine gM zM23 fun K1 hK1 => ?_; simp only [go_sem, ↓reduceIte, reduceCtorEq, nA, nB, nC, nD, nE, nF, e1, e5] <;> and_intros <;> first | (apply hK1; clear hK1 K1) | skip)))
      refine ⟨.v (.bool false), rfl, True.intro, hK1 _ ?_⟩; clear hK1 K1
      (repeat ((refine gO rfl ?_)))
      refine awp_cond (t := _) rfl (fun h5 => by cases h5) (fun h5 => ?_)
      (repeat (first | refine gO rfl ?_ | (refine gM zM23 fun K1 hK1 => ?_; simp only [go_sem, ↓reduceIte, reduceCtorEq, nA, nB, nC, nD, nE, nF, e1, e5] <;> and_intros <;> (apply hK1; clear hK1 K1))))
      refine awp_cond (t := _) rfl (fun h5 => by cases h5) (fun h5 => ?_)
      (repeat (first | refine gO rfl ?_ | (refine gM zM23 fun K1 hK1 => ?_; simp only [go_sem, ↓reduceIte, reduceCtorEq, nA, nB, nC, nD, nE, nF, e1, e5] <;> and_intros <;> (apply hK1; clear hK1 K1))))
      refine awp_cond (t := _) rfl (fun h5 => by cases h5) (fun h5 => ?_)
      (repeat ((refine gO rfl ?_)))
      exact ⟨⟨by simp only [e1, e5, h1, Bool.true_and, Bool.false_and], by simp only [e1, e5, outB, h1, Bool.true_and, Bool.false_and], by simp only [e1, e5, outB, h1, Bool.true_and, Bool.false_and]⟩, rfl⟩
    ·rintro _ ⟨⟨h3, h4, h5⟩, rfl⟩
     have hpf : partF (.mk kind item long many kids shares) = if shares.any (fun n => outB n 1 1000) then 1 else firstNZ (kids.map partF) := by
      rw [partF_eq, show outB kind 1 5 = false from h1, h2, h3, h4, h5]; rfl
     skip
     refine awp_seq ?_
     refine awp_join (rl false [1, 1, 62]) 0 (fun s => shares.any (fun n => outB n 1 1000) = false ∧
      s = ⟨(AV.junk :: ((.ref [.v (.int .i64 kind), .v (.string item), .v (.int .i64 long), .v (.int .i64 many), .row 6 (kids.map encL) none, .row 1 (shares.map encI) none] 0) :: (jnk 62 []))), [], h0⟩) ?_ ?_
     ·(repeat (first | refine gO rfl ?_ | (refine gM zM23 fun K1 hK1 => ?_; simp only [go_sem, ↓reduceIte, reduceCtorEq, nA, nB, nC, nD, nE, nF] <;> and_intros <;> (apply hK1; clear hK1 K1))))
      refine awp_loopC (rl false [1, 1, 40, 3, 19]) 0 (fun g s => ∃ j : Nat, g + j = shares.length ∧ (shares.take j).any (fun n => outB n 1 1000) = false ∧
       s = ⟨(AV.junk :: ((.ref [.v (.int .i64 kind), .v (.string item), .v (.int .i64 long), .v (.int .i64 many), .row 6 (kids.map encL) none, .row 1 (shares.map encI) none] 0) :: (jnk 40 ((.row 1 (shares.map encI) none) :: (.v (.int .i64 shares.length)) :: (.v (.int .i64 j)) :: (jnk 19 []))))), [], h0⟩) shares.length ⟨0, by omega, rfl, rfl⟩ ?_
      rintro g _ ⟨j, hj, hany, rfl⟩
      (repeat (first | refine gO rfl ?_ | (refine gM zM23 fun K1 hK1 => ?_; simp only [go_sem, ↓reduceIte, reduceCtorEq, nA, nB, nC, nD, nE, nF] <;> and_intros <;> (apply hK1; clear hK1 K1))))
      refine awp_cond (t := _) rfl (fun h6 => ?_) (fun h6 => ?_)
      ·simp only [decide_eq_true_eq] at h6
       have hjk : j < shares.length := by omega
       have hg : (shares.map encI).getD j [] = encI (shares.getD j default) := getD_enc encI shares j default hjk
       have e1 := take_succ_map (fun n => outB n 1 1000) shares j hjk
       generalize hsv : shares.getD j default = sv at hg e1
       have hmem := getD_mem' shares j default hjk
       rw [hsv] at hmem
       (repeat (first | refine gO rfl ?_ | (refine gM zM23 fun K1 hK1 => ?_; simp only [go_sem, ↓reduceIte, reduceCtorEq, nA, nB, nC, nD, nE, nF, Int.toNat_natCast, hg, encI] <;> and_intros <;> first | (apply hK1; clear hK1 K1) | (intros; (omega)) | skip)))
       refine (a_outside sv 1 1000 _).mono ?_; rintro _ hz ⟨rfl, hh⟩; apply hK1; clear hK1 K1; rw [hh]; clear hh hz
       (repeat ((refine gO rfl ?_)))
       refine awp_cond (t := _) rfl (fun h7 => ?_) (fun h7 => ?_)
       ·(repeat (first | refine gO rfl ?_ | (refine gM zM23 fun K1 hK1 => ?_; simp only [go_sem, ↓reduceIte, reduceCtorEq, nA, nB, nC, nD, nE, nF] <;> and_intros <;> (apply hK1; clear hK1 K1))))
        simp only [Tryz.results140, go_sem, ↓reduceIte, reduceCtorEq, nA, nB, nC, nD, nE, nF]
        exact ⟨_, _, Weak.refl _, Hp.le.refl _, by rw [hpf, if_pos (List.any_eq_true.2 ⟨sv, hmem, h7⟩)], rfl⟩
       ·(repeat (first | refine gO rfl ?_ | (refine gM zM23 fun K1 hK1 => ?_; simp only [go_sem, ↓reduceIte, reduceCtorEq, nA, nB, nC, nD, nE, nF] <;> and_intros <;> first | (apply hK1; clear hK1 K1) | (intros; (omega)))))
        refine ⟨g - 1, by omega, j + 1, by omega, ?_, rfl⟩
        rw [List.any_eq_false] at hany ⊢
        intro x hx
        rw [List.take_add_one] at hx
        rcases List.mem_append.1 hx with hx | hx
        ·exact hany x hx
        ·rw [List.getElem?_eq_getElem hjk] at hx
         rw [List.getD_eq_getElem?_getD, List.getElem?_eq_getElem hjk] at hsv
         simp at hx hsv
         rw [hx, hsv]
         exact by simpa [outB] using h7
      ·simp only [decide_eq_false_iff_not] at h6
       have hjk : j = shares.length := by omega
       subst hjk
       rw [List.take_length] at hany
       (repeat ((refine gO rfl ?_)))
       exact ⟨hany, rfl⟩
     ·rintro _ ⟨hany, rfl⟩
      rw [if_neg (by rw [hany]; simp)] at hpf
      (repeat (first | refine gO rfl ?_ | (refine gM zM23 fun K1 hK1 => ?_; simp only [go_sem, ↓reduceIte, reduceCtorEq, nA, nB, nC, nD, nE, nF] <;> and_intros <;> (apply hK1; clear hK1 K1))))
      refine awp_loopC (rl false [52, 3, 9]) 0 (fun g s => ∃ j : Nat, g + j = kids.length ∧ firstNZ ((kids.map partF).take j) = 0 ∧
       s = ⟨((jnk 52 ((.row 6 (kids.map encL) none) :: (.v (.int .i64 kids.length)) :: (.v (.int .i64 j)) :: (jnk 9 [])))), [], h0⟩) kids.length ⟨0, by omega, rfl, rfl⟩ ?_
      rintro g _ ⟨j, hj, hnz, rfl⟩
      (repeat (first | refine gO rfl ?_ | (refine gM zM23 fun K1 hK1 => ?_; simp only [go_sem, ↓reduceIte, reduceCtorEq, nA, nB, nC, nD, nE, nF] <;> and_intros <;> (apply hK1; clear hK1 K1))))
      refine awp_cond (t := _) rfl (fun h6 => ?_) (fun h6 => ?_)
      ·simp only [decide_eq_true_eq] at h6
       have hjk : j < kids.length := by omega
       have hg : (kids.map encL).getD j [] = encL (kids.getD j default) := getD_enc encL kids j default hjk
       have hmem := getD_mem' kids j default hjk
       have hbt := b8 _ hmem
       have hgp : (kids.map partF)[j]? = some (partF (kids.getD j default)) := by rw [List.getElem?_map, List.getElem?_eq_getElem hjk, List.getD_eq_getElem?_getD, List.getElem?_eq_getElem hjk]; rfl
       have e1 : (kids.map partF).take (j + 1) = (kids.map partF).take j ++ [partF (kids.getD j default)] := by rw [List.take_add_one, hgp]; rfl
       generalize kids.getD j default = t2 at hg hmem hbt hgp e1
       have hlen := encL_len t2
       have htk : List.take 6 (encL t2) = encL t2 := List.take_of_length_le (Nat.le_of_eq hlen)
       have hdr : List.drop 6 (encL t2) = [] := List.drop_of_length_le (Nat.le_of_eq hlen)
       (repeat (first | refine gO rfl ?_ | (refine gM zM23 fun K1 hK1 => ?_; simp only [go_sem, ↓reduceIte, reduceCtorEq, nA, nB, nC, nD, nE, nF, Int.toNat_natCast, hg, hlen, htk, hdr] <;> and_intros <;> first | (apply hK1; clear hK1 K1) | (intros; (omega)) | skip)))
       refine (g_part24 d t2 h0 hbt).mono ?_; rintro _ hz ⟨rfl, hh⟩; apply hK1; clear hK1 K1; rw [hh]; clear hh hz
       (repeat (first | refine gO rfl ?_ | (refine gM zM23 fun K1 hK1 => ?_; simp only [go_sem, ↓reduceIte, reduceCtorEq, nA, nB, nC, nD, nE, nF] <;> and_intros <;> (apply hK1; clear hK1 K1))))
       refine awp_cond (t := _) rfl (fun h7 => ?_) (fun h7 => ?_)
       ·(repeat (first | refine gO rfl ?_ | (refine gM zM23 fun K1 hK1 => ?_; simp only [go_sem, ↓reduceIte, reduceCtorEq, nA, nB, nC, nD, nE, nF] <;> and_intros <;> (apply hK1; clear hK1 K1))))
        simp only [Tryz.results140, go_sem, ↓reduceIte, reduceCtorEq, nA, nB, nC, nD, nE, nF]
        exact ⟨_, _, Weak.refl _, Hp.le.refl _, by rw [hpf, firstNZ_pre _ j _ hgp (by simpa using h7) hnz], rfl⟩
       ·(repeat (first | refine gO rfl ?_ | (refine gM zM23 fun K1 hK1 => ?_; simp only [go_sem, ↓reduceIte, reduceCtorEq, nA, nB, nC, nD, nE, nF] <;> and_intros <;> first | (apply hK1; clear hK1 K1) | (intros; (omega)))))
        refine ⟨g - 1, by omega, j + 1, by omega, ?_, rfl⟩
        rw [e1, firstNZ_app, if_pos hnz]
        simpa using h7
      ·simp only [decide_eq_false_iff_not] at h6
       have hjk : j = kids.length := by omega
       rw [List.take_of_length_le (by simp; omega)] at hnz
       (repeat (first | refine gO rfl ?_ | (refine gM zM23 fun K1 hK1 => ?_; simp only [go_sem, ↓reduceIte, reduceCtorEq, nA, nB, nC, nD, nE, nF] <;> and_intros <;> (apply hK1; clear hK1 K1))))
       simp only [Tryz.results140, go_sem, ↓reduceIte, reduceCtorEq, nA, nB, nC, nD, nE, nF]
       exact ⟨_, _, Weak.refl _, Hp.le.refl _, by rw [hpf, hnz], rfl⟩
def oMany (m : Int) : AO := .cells [.v (.int .i64 m)]
theorem sum_take_le (kids : List LT) (f : LT → Int) (hf : ∀ x ∈ kids, 0 ≤ f x) (j : Nat) : ((kids.take j).map f).sum ≤ (kids.map f).sum := by
 have e : (kids.map f).sum = ((kids.take j).map f).sum + ((kids.drop j).map f).sum := by rw [← List.sum_append, ← List.map_append, List.take_append_drop]
 have : ∀ l : List LT, (∀ x ∈ l, 0 ≤ f x) → 0 ≤ (l.map f).sum := fun l => by
  induction l with
  | nil => simp
  | cons x l ih => intro h; have h1 := h x (by simp); have h2 := ih fun y hy => h y (by simp [hy]); simp only [List.map_cons, List.sum_cons]; omega
 have := this (kids.drop j) fun x hx => hf x (List.mem_of_mem_drop hx)
 omega
theorem max_take (kids : List LT) (f : LT → Int) : ∀ (j : Nat) (_ : j < kids.length), f (kids.getD j default) ≤ (kids.map f).foldl max 0 := by
 have key : ∀ (l : List LT) (a : Int) (j : Nat), j < l.length → a ≤ (l.map f).foldl max a ∧ f (l.getD j default) ≤ (l.map f).foldl max a := by
  intro l
  induction l with
  | nil => intro a j h; simp at h
  | cons x l ih =>
   intro a j h
   simp only [List.map_cons, List.foldl_cons]
   have mono : ∀ (l : List Int) (a : Int), a ≤ l.foldl max a := fun l => by
    induction l with
    | nil => intro a; exact Int.le_refl _
    | cons y l ih => intro a; have := ih (max a y); simp only [List.foldl_cons]; omega
   cases j with
   | zero => have := mono (l.map f) (max a (f x)); simp only [List.getD_cons_zero]; omega
   | succ j => have := ih (max a (f x)) j (by simpa using h); simp only [List.getD_cons_succ]; omega
 exact fun j hj => (key kids 0 j hj).2
def LargeR (t : LT) (deep m : Int) (h : Hp) (i : Nat) (r : AV) (h' : Hp) : Prop :=
 ∃ (b : Bool) (m' : Int), r = .v (.bool b) ∧ h' = { h with H := upd h.H i (some (oMany m')) } ∧ (b = true → 200 < m + manyF t ∨ 12 < deep + deepF t - 1) ∧ (b = false → m + manyF t ≤ 200 ∧ deep + deepF t - 1 ≤ 12 ∧ m' = m + manyF t)
theorem g_large : ∀ (d : Nat) (t : LT) (h : Hp) (i : Nat) (m deep : Int), KC d t → manyF t ≤ 1000000000000000 ∧ d ≤ 1000 → (0 ≤ m ∧ m ≤ 200) → (0 ≤ deep ∧ deep ≤ 1000) → h.H i = some (oMany m) →
  ACalls Tryz.prog 139 [.ptr i 0, .agg (encL t), .v (.int .i64 deep)] h (LargeR t deep m h i)
 | 0, _, _, _, _, _, hb, _, _, _, _ => hb.elim
 | d + 1, t, h, i, m, deep, hb, hd, hm, hdp, hi => by
  cases t with
  | mk kind item long many kids shares =>
  obtain ⟨b1, b2, b3, b4, b5, b6, b7, b8⟩ := id hb
  have hi' : h.H i = some (.cells [.v (.int .i64 m)]) := hi
  have hpos : ∀ x ∈ kids, 1 ≤ manyF x ∧ 1 ≤ deepF x := fun x hx => by have := size_bd d x (b8 x hx); omega
  refine gE Tryz.func139 rfl (by kernel_rfl) 24 rfl fun c => ?_
  rw [encL_eq]
  (repeat (first | refine gO rfl ?_ | (refine gR fun K1 hK1 => ?_; simp only [go_sem, ↓reduceIte, reduceCtorEq, nA, nB, nC, nD, nE, nF, hi'] <;> and_intros <;> first | (apply hK1; clear hK1 K1) | (intros; (omega)))))
  refine awp_cond (t := _) rfl (fun h1 => ?_) (fun h1 => ?_)
  ·(repeat (first | refine gO rfl ?_ | (refine gR fun K1 hK1 => ?_; simp only [go_sem, ↓reduceIte, reduceCtorEq, nA, nB, nC, nD, nE, nF, hi'] <;> and_intros <;> (apply hK1; clear hK1 K1))))
   simp only [Tryz.results139, go_sem, ↓reduceIte, reduceCtorEq, nA, nB, nC, nD, nE, nF]
   simp only [Bool.or_eq_true, decide_eq_true_eq] at h1
   have hs := sum_bd manyF 0 (Int.le_refl _) ([] : List LT) (by simp)
   have hd1 := size_bd (d + 1) _ hb
   refine ⟨_, _, Weak.refl _, Hp.le.refl _, true, m + 1, rfl, rfl, fun _ => ?_, fun h => by cases h⟩
   rw [manyF_eq, deepF_eq] at *
   have h2 := sum_take_le kids manyF (fun x hx => by have := hpos x hx; omega) 0
   have h3 := max_bd deepF 1000 kids 0 (by omega) fun x hx => by have := size_bd d x (b8 x hx); omega
   simp only [List.take_zero, List.map_nil, List.sum_nil] at h2
   omega
  ·(repeat (first | refine gO rfl ?_ | (refine gR fun K1 hK1 => ?_; simp only [go_sem, ↓reduceIte, reduceCtorEq, nA, nB, nC, nD, nE, nF, hi'] <;> and_intros <;> first | (intros; (decide)) | skip)))
   simp only [Bool.or_eq_false_iff, decide_eq_false_iff_not] at h1
   refine (g_contains41 198 [.ref [.ptr i 0] 0, .ref [.v (.int .i64 deep)] 0] (kids.map encL) (fun j hj => ?_) (by simp; omega)
    (fun j h' => h' = { h with H := upd h.H i (some (oMany (m + 1 + ((kids.take j).map manyF).sum))) } ∧ m + 1 + ((kids.take j).map manyF).sum ≤ 200 ∧ (((kids.take j).map deepF).foldl max 0 + deep ≤ 12))
    (fun j h' => ∃ m', h' = { h with H := upd h.H i (some (oMany m')) } ∧ (200 < m + 1 + ((kids.take (j + 1)).map manyF).sum ∨ 12 < deep + deepF (kids.getD j default)))
    _ ⟨by simp; rfl, by simp; omega, by simp; omega⟩ ?_).mono ?_
   ·have hj' : j < kids.length := by simpa using hj
    rw [show (kids.map encL).getD j [] = encL (kids.getD j default) from getD_enc encL kids j default hj']
    exact encL_len _
   ·rintro j h' hj ⟨rfl, hs1, hs2⟩
    have hjk : j < kids.length := by simpa using hj
    rw [show (kids.map encL).getD j [] = encL (kids.getD j default) from getD_enc encL kids j default hjk]
    have hmem := getD_mem' kids j default hjk
    have e1 := take_succ_map manyF kids j hjk
    have e2 := take_succ_map deepF kids j hjk
    have hbt := b8 _ hmem
    have hp2 := hpos _ hmem
    have h0 := many_take (kids := kids) (fun x hx => by have := hpos x hx; omega) j
    have hmk := many_kid (kids := kids) (fun x hx => by have := hpos x hx; omega) hmem
    have hd1 := hd.1
    rw [manyF_eq] at hd1
    rw [e1, List.sum_append]
    have hl42 : ∀ t2, KC d t2 → manyF t2 ≤ 1000000000000000 → ACalls Tryz.prog 198 [aggOf (encL t2), .ref [.ptr i 0] 0, .ref [.v (.int .i64 deep)] 0] { h with H := upd h.H i (some (oMany (m + 1 + ((kids.take j).map manyF).sum))) } (LargeR t2 (deep + 1) (m + 1 + ((kids.take j).map manyF).sum) h i) := fun t2 ht2 hm2 => by
     have hlen := encL_len t2
     have htk : List.take 6 (encL t2) = encL t2 := List.take_of_length_le (Nat.le_of_eq hlen)
     unfold aggOf
     refine gE Tryz.func198 rfl (by kernel_rfl) 7 rfl fun c => ?_
     (repeat (first | refine gO rfl ?_ | (refine gR fun K1 hK1 => ?_; simp only [go_sem, ↓reduceIte, reduceCtorEq, nA, nB, nC, nD, nE, nF, hlen, htk] <;> and_intros <;> first | (apply hK1; clear hK1 K1) | (intros; (omega)) | skip)))
     refine (g_large d t2 _ i _ (deep + 1) ht2 ⟨hm2, by omega⟩ (by omega) (by omega) (upd_same _ _ _)).mono ?_
     rintro _ _ ⟨b, m', rfl, rfl, hb1, hb2⟩
     refine hK1 _ ?_; clear hK1 K1
     (repeat (first | refine gO rfl ?_ | (refine gR fun K1 hK1 => ?_; simp only [go_sem, ↓reduceIte, reduceCtorEq, nA, nB, nC, nD, nE, nF] <;> and_intros <;> (apply hK1; clear hK1 K1))))
     simp only [Tryz.results198, go_sem, ↓reduceIte, reduceCtorEq, nA, nB, nC, nD, nE, nF]
     exact ⟨_, _, Weak.refl _, Hp.le.refl _, b, m', rfl, by simp only [upd_upd], hb1, hb2⟩
    refine (hl42 _ hbt (by omega)).mono ?_
    rintro _ _ ⟨b, m', rfl, rfl, hb1, hb2⟩
    refine ⟨b, rfl, fun hb => ⟨m', rfl, ?_⟩, fun hb => ?_⟩
    ·have := hb1 hb
     simp only [List.sum_cons, List.sum_nil]
     omega
    ·obtain ⟨h6, h7, rfl⟩ := hb2 hb
     rw [e2, List.foldl_append]
     simp only [List.sum_cons, List.sum_nil, List.foldl_cons, List.foldl_nil, Int.add_zero]
     exact ⟨by rw [Int.add_assoc (m + 1)], by omega, by omega⟩
   ·rintro _ h' (⟨j, hj, rfl, m', rfl, hP⟩ | ⟨rfl, rfl, hs1, hs2⟩)
    ·have hjk : j < kids.length := by simpa using hj
     refine hK1 _ ?_; clear hK1 K1
     (repeat (first | refine gO rfl ?_ | (refine gR fun K1 hK1 => ?_; simp only [go_sem, ↓reduceIte, reduceCtorEq, nA, nB, nC, nD, nE, nF] <;> and_intros <;> (apply hK1; clear hK1 K1))))
     simp only [Tryz.results139, go_sem, ↓reduceIte, reduceCtorEq, nA, nB, nC, nD, nE, nF]
     refine ⟨_, _, Weak.refl _, Hp.le.refl _, true, m', rfl, rfl, fun _ => ?_, fun h => by cases h⟩
     rw [manyF_eq, deepF_eq]
     have h2 := sum_take_le kids manyF (fun x hx => by have := hpos x hx; omega) (j + 1)
     have h3 := max_take kids deepF j hjk
     omega
    ·refine hK1 _ ?_; clear hK1 K1
     (repeat (first | refine gO rfl ?_ | (refine gR fun K1 hK1 => ?_; simp only [go_sem, ↓reduceIte, reduceCtorEq, nA, nB, nC, nD, nE, nF] <;> and_intros <;> (apply hK1; clear hK1 K1))))
     simp only [Tryz.results139, go_sem, ↓reduceIte, reduceCtorEq, nA, nB, nC, nD, nE, nF]
     simp only [List.length_map, List.take_length] at hs1 hs2 ⊢
     refine ⟨_, _, Weak.refl _, Hp.le.refl _, false, _, rfl, rfl, fun h => (by cases h), fun _ => ?_⟩
     rw [manyF_eq, deepF_eq]
     omega
def faultF (t : LT) : Int := if 200 < manyF t ∨ 12 < deepF t then 2 else partF t
theorem g_check7 (d : Nat) (t : LT) (h0 : Hp) (hb : KC d t) (hd : manyF t ≤ 1000000000000000 ∧ d ≤ 1000) : ACalls Tryz.prog 73 [.agg (encL t)] h0 (fun r h' => r = .v (.int .i64 (faultF t)) ∧ h' = h0) := by
 have hlen := encL_len t
 have htk : List.take 6 (encL t) = encL t := List.take_of_length_le (Nat.le_of_eq hlen)
 have hz := size_bd d t hb
 refine gE Tryz.func73 rfl (by kernel_rfl) 8 rfl fun c => ?_
 (repeat (first | refine gO rfl ?_ | (refine gM zM24 fun K1 hK1 => ?_; simp only [go_sem, ↓reduceIte, reduceCtorEq, nA, nB, nC, nD, nE, nF, hlen, htk] <;> and_intros <;> first | (apply hK1; clear hK1 K1) | skip)))
 intro i hi
 and_intros <;> first | (refine hK1 _ ?_; clear hK1 K1) | exact .inl trivial | exact .inr rfl | exact .inr True.intro | exact True.intro | omega
 (repeat (first | refine gO rfl ?_ | (refine gM zM24 fun K1 hK1 => ?_; simp only [go_sem, ↓reduceIte, reduceCtorEq, nA, nB, nC, nD, nE, nF, hlen, htk] <;> and_intros)))
 refine (g_large d t _ i 0 1 hb hd (by omega) (by omega) (upd_same _ _ _)).mono ?_
 rintro _ _ ⟨b, m', rfl, rfl, hb1, hb2⟩
 refine hK1 _ ?_; clear hK1 K1
 (repeat ((refine gO rfl ?_)))
 have hle : Hp.le h0 { H := upd h0.H i (some (oMany m')), T := h0.T } := ⟨fun j => by
  by_cases hj : j = i
  ·rw [hj]; exact .inl hi
  ·exact .inr (upd_other _ _ hj).symm, fun _ => .inr rfl⟩
 refine awp_cond (t := _) rfl (fun h1 => ?_) (fun h1 => ?_)
 ·(repeat (first | refine gO rfl ?_ | (refine gM zM24 fun K1 hK1 => ?_; simp only [go_sem, ↓reduceIte, reduceCtorEq, nA, nB, nC, nD, nE, nF, hlen, htk] <;> and_intros <;> (apply hK1; clear hK1 K1))))
  simp only [Tryz.results73, go_sem, ↓reduceIte, reduceCtorEq, nA, nB, nC, nD, nE, nF]
  exact ⟨_, h0, Weak.refl _, by simpa using hle, by rw [faultF, if_pos (by have := hb1 h1; omega)], rfl⟩
 ·(repeat (first | refine gO rfl ?_ | (refine gM zM24 fun K1 hK1 => ?_; simp only [go_sem, ↓reduceIte, reduceCtorEq, nA, nB, nC, nD, nE, nF, hlen, htk] <;> and_intros)))
  refine (g_part24 d t _ hb).mono ?_; rintro _ hz ⟨rfl, hh⟩; apply hK1; clear hK1 K1; rw [hh]; clear hh hz
  (repeat (first | refine gO rfl ?_ | (refine gM zM24 fun K1 hK1 => ?_; simp only [go_sem, ↓reduceIte, reduceCtorEq, nA, nB, nC, nD, nE, nF] <;> and_intros <;> (apply hK1; clear hK1 K1))))
  simp only [Tryz.results73, go_sem, ↓reduceIte, reduceCtorEq, nA, nB, nC, nD, nE, nF]
  exact ⟨_, h0, Weak.refl _, by simpa using hle, by rw [faultF, if_neg (by have := hb2 h1; omega)], rfl⟩
theorem mem_idsT {i c : Nat} {az : List AT} {x : Nat} (h : x ∈ idsT (.mk i c az)) : x = i ∨ ∃ j, j < az.length ∧ x ∈ idsT (az.getD j default) := by
 rw [idsT_eq] at h
 rcases List.mem_cons.1 h with h | h
 ·exact .inl h
 ·obtain ⟨l, hl, hx⟩ := List.mem_flatten.1 h
  obtain ⟨a, ha, rfl⟩ := List.mem_map.1 hl
  obtain ⟨j, hj, rfl⟩ := List.getElem_of_mem ha
  exact .inr ⟨j, hj, by rw [List.getD_eq_getElem?_getD, List.getElem?_eq_getElem hj]; exact hx⟩
theorem mem_toksT {i c : Nat} {az : List AT} {x : Nat} (h : x ∈ toksT (.mk i c az)) : x = c ∨ ∃ j, j < az.length ∧ x ∈ toksT (az.getD j default) := by
 rw [toksT_eq] at h
 rcases List.mem_cons.1 h with h | h
 ·exact .inl h
 ·obtain ⟨l, hl, hx⟩ := List.mem_flatten.1 h
  obtain ⟨a, ha, rfl⟩ := List.mem_map.1 hl
  obtain ⟨j, hj, rfl⟩ := List.getElem_of_mem ha
  exact .inr ⟨j, hj, by rw [List.getD_eq_getElem?_getD, List.getElem?_eq_getElem hj]; exact hx⟩
theorem RAt.ne {X : RK} {h : Hp} : ∀ {d : Nat} {t : LT} {a : AT} {s : PS}, RAt X h d t a s → (∀ i ∈ idsT a, h.H i ≠ none) ∧ (∀ c ∈ toksT a, h.T c ≠ none)
 | 0, _, _, _, h => h.elim
 | d + 1, .mk kind item long many kids shares, .mk i c az, .mk p cs ks, ⟨⟨K, h1, hK⟩, h2, h3, h4⟩ => by
  refine ⟨fun x hx => ?_, fun x hx => ?_⟩
  ·rcases mem_idsT hx with rfl | ⟨j, hj, hx⟩
   ·rw [h1]; simp
   ·exact (h4 j (by omega)).ne.1 x hx
  ·rcases mem_toksT hx with rfl | ⟨j, hj, hx⟩
   ·rw [h2]; simp
   ·exact (h4 j (by omega)).ne.2 x hx
theorem RAt.cont {X : RK} {h : Hp} : ∀ {d : Nat} {t : LT} {a : AT} {s : PS}, RAt X h d t a s → ∀ c ∈ toksT a, ∃ xs, h.T c = some (.cont 1 xs)
 | 0, _, _, _, h => h.elim
 | d + 1, .mk kind item long many kids shares, .mk i c az, .mk p cs ks, ⟨_, h2, h3, h4⟩ => fun x hx => by
  rcases mem_toksT hx with rfl | ⟨j, hj, hx⟩
  ·exact ⟨_, h2⟩
  ·exact (h4 j (by omega)).cont x hx
def cells9 (kind : Int) (item : ByteArray) (long many : Int) (kids : List LT) (shares : List Int) (K : AV) (p : Int) (c : Nat) : List AV :=
 [.v (.int .i64 kind), .v (.string item), .v (.int .i64 long), .v (.int .i64 many), .row 6 (kids.map encL) none, .row 1 (shares.map encI) none, K, .v (.int .i64 p), .arr 1 c kids.length]
def NewI (X : RK) (d : Nat) (kids : List LT) (h : Hp) (i c : Nat) (az : List AT) (h' : Hp) : Prop :=
 (∀ l, l < az.length → RAt X h' d (kids.getD l default) (az.getD l default) (ps0 (kids.getD l default)) ∧ (i ∉ idsT (az.getD l default) ∧ c ∉ toksT (az.getD l default) ∧ Sep d (az.getD l default)) ∧
  (∀ x ∈ idsT (az.getD l default), h.H x = none) ∧ (∀ x ∈ toksT (az.getD l default), h.T x = none)) ∧
 (∀ j l, j < az.length → l < az.length → l ≠ j → (∀ x ∈ idsT (az.getD j default), x ∉ idsT (az.getD l default)) ∧ (∀ x ∈ toksT (az.getD j default), x ∉ toksT (az.getD l default))) ∧
 (∀ x, h.H x ≠ none → h'.H x = h.H x) ∧ (∀ x, h.T x ≠ none → h'.T x = h.T x)
def kidsK (h : Hp) (az : List AT) (K : AV) (T : Nat → Option TO) : Prop := az = [] ∧ K = .v (.slice none 0 0) ∨ ∃ tk, az ≠ [] ∧ K = .row 1 (az.map fun a => [.ptr a.id 0]) (some tk) ∧ T tk = some (.tail az.length) ∧ h.T tk = none
def NewR (X : RK) (d : Nat) (t : LT) (h : Hp) (r : AV) (h' : Hp) : Prop :=
 ∃ a, r = .ptr a.id 0 ∧ RAt X h' d t a (ps0 t) ∧ Sep d a ∧ (∀ i ∈ idsT a, h.H i = none) ∧ (∀ c ∈ toksT a, h.T c = none) ∧ (∀ i, h.H i ≠ none → h'.H i = h.H i) ∧ (∀ k, h.T k ≠ none → h'.T k = h.T k)
theorem getD_snoc {α : Type} (l : List α) (x d : α) (j : Nat) : (l ++ [x]).getD j d = if j = l.length then x else l.getD j d := by
 simp only [List.getD_eq_getElem?_getD]
 split
 ·rename_i h; subst h; simp
 ·rename_i h
  by_cases hj : j < l.length
  ·rw [List.getElem?_append_left hj]
  ·rw [List.getElem?_eq_none (by simp; omega), List.getElem?_eq_none (by omega)]
theorem NewI.more {X : RK} {d : Nat} {kids : List LT} {h h1 h2 : Hp} {i c : Nat} {az : List AT} (hI : NewI X d kids h i c az h1) (hi0 : h.H i = none) (hi : h1.H i ≠ none) (hc : h1.T c ≠ none) {a : AT}
  (hR : RAt X h2 d (kids.getD az.length default) a (ps0 (kids.getD az.length default))) (hS : Sep d a) (hn1 : ∀ x ∈ idsT a, h1.H x = none) (hn2 : ∀ x ∈ toksT a, h1.T x = none) (hk1 : ∀ x, h1.H x ≠ none → x ≠ i → h2.H x = h1.H x) (hk2 : ∀ x xs, h1.T x = some (.cont 1 xs) → h2.T x = h1.T x) (hk3 : ∀ x, h.T x ≠ none → h2.T x = h.T x) : NewI X d kids h i c (az ++ [a]) h2 := by
 obtain ⟨g1, g2, g3, g4⟩ := hI
 have o1 : ∀ x, h1.H x = none → h.H x = none := fun x hx => by
  cases e : h.H x with
  | none => rfl
  | some y => have := g3 x (by rw [e]; simp); rw [hx, e] at this; cases this
 have o2 : ∀ x, h1.T x = none → h.T x = none := fun x hx => by
  cases e : h.T x with
  | none => rfl
  | some y => have := g4 x (by rw [e]; simp); rw [hx, e] at this; cases this
 refine ⟨fun l hl => ?_, fun j l hj hl hne => ?_, fun x hx => (hk1 x (by rw [g3 x hx]; exact hx) (fun e => by subst e; exact hx hi0)).trans (g3 x hx), hk3⟩
 ·rw [getD_snoc]
  split
  ·rename_i e
   subst e
   exact ⟨hR, ⟨fun hx => hi (hn1 _ hx), fun hx => hc (hn2 _ hx), hS⟩, fun x hx => o1 x (hn1 x hx), fun x hx => o2 x (hn2 x hx)⟩
  ·rename_i e
   obtain ⟨f1, f2, f3, f4⟩ := g1 l (by simp at hl; omega)
   exact ⟨f1.frame (fun x hx => hk1 x (f1.ne.1 x hx) (fun e => by subst e; exact f2.1 hx)) (fun x hx => let ⟨xs, e⟩ := f1.cont x hx; hk2 x xs e), f2, f3, f4⟩
 ·simp only [List.length_append, List.length_cons, List.length_nil] at hj hl
  rw [getD_snoc, getD_snoc]
  split <;> split
  ·omega
  ·have f1 := (g1 l (by omega)).1
   exact ⟨fun x hx hx2 => f1.ne.1 x hx2 (hn1 x hx), fun x hx hx2 => f1.ne.2 x hx2 (hn2 x hx)⟩
  ·have f1 := (g1 j (by omega)).1
   exact ⟨fun x hx hx2 => f1.ne.1 x hx (hn1 x hx2), fun x hx hx2 => f1.ne.2 x hx (hn2 x hx2)⟩
  ·exact g2 j l (by omega) (by omega) hne
abbrev zP17E : List Nat := [0, 1, 2, 3]
abbrev zP17P : List (Nat × List Nat × List Nat) := [(4, [0], [5]), (6, [], [7])]
abbrev zP18E : List Nat := [0, 1, 2, 3, 4, 5]
abbrev zP18P : List (Nat × List Nat × List Nat) := [(6, [4], [7]), (8, [], [9, 10]), (11, [], [])]
attribute [go_sem] zP17E zP17P zP18E zP18P
def XP : RK := ⟨fun t => match t with | .mk _ _ _ _ _ shares => [.v (.int .i64 shares.sum)], fun kind cs => if kind = 4 then cs else List.replicate cs.length 0⟩
theorem upd_self {α : Type} {f : Nat → Option α} {i : Nat} {x : Option α} (h : f i = x) : upd f i x = f := by
 funext j
 by_cases hj : j = i
 ·subst hj; rw [upd_same, h]
 ·rw [upd_other _ _ hj]
theorem sum_nb : ∀ (l : List Int), (∀ x ∈ l, NB x) → -(l.length * 5000000000000000) ≤ l.sum ∧ l.sum ≤ l.length * 5000000000000000
 | [], _ => by simp
 | x :: l, h => by
  have h1 := h x (by simp)
  have h2 := sum_nb l fun y hy => h y (by simp [hy])
  unfold NB at h1
  simp only [List.sum_cons, List.length_cons]
  omega
def NewPI (d : Nat) (kind : Int) (item : ByteArray) (long many : Int) (kids : List LT) (shares : List Int) (h : Hp) (i c : Nat) (g : Nat) (s : St) : Prop :=
 ∃ (az : List AT) (K : AV) (h' : Hp), g + az.length = kids.length ∧ NewI XP d kids h i c az h' ∧ kidsK h az K h'.T ∧ h'.H i = some (.cells (cells9 kind item long many kids shares K 0 c ++ [.v (.int .i64 0)])) ∧ h'.T c = some (.cont 1 ((kids.map fun _ => (0 : Int)).map encI)) ∧
  s = ⟨(AV.junk :: ((.ref [.v (.int .i64 kind), .v (.string item), .v (.int .i64 long), .v (.int .i64 many), .row 6 (kids.map encL) none, .row 1 (shares.map encI) none] 0) :: AV.junk :: ((.ptr i 0) :: (jnk 12 ((.row 6 (kids.map encL) none) :: (.v (.int .i64 kids.length)) :: (.v (.int .i64 az.length)) :: (jnk 32 [])))))), [], h'⟩
theorem g_newPart : ∀ (d : Nat) (t : LT) (h : Hp), KC d t → ACalls Tryz.prog 75 [.agg (encL t)] h (NewR XP d t h)
 | 0, _, _, hb => hb.elim
 | d + 1, .mk kind item long many kids shares, h, hb => by
  obtain ⟨b1, b2, b3, b4, b5, b6, b7, b8⟩ := id hb
  simp only [encL_eq]
  refine gE Tryz.func75 rfl (by kernel_rfl) 50 rfl fun c => ?_
  (repeat (first | refine gO rfl ?_ | ((first | refine gM zM25 ?_ | ((with_reducible refine xS ?_); refine uD 1 zM25 zP17E zP17P 51 rfl (by kernel_rfl) ?_)) <;> ((try with_reducible intro K1 hK1); simp only [go_sem, ↓reduceIte, reduceCtorEq, nA, nB, nC, nD, nE, nF, Int.toNat_natCast] <;> and_intros <;> first | (apply hK1; clear hK1 K1) | (intros; (omega)) | skip))))
  intro c0 hc0
  refine hK1 _ ?_; clear hK1 K1
  (repeat (((first | refine gM zM25 ?_ | (with_reducible refine wM ?_ ?_)) <;> ((try with_reducible intro K1 hK1); simp only [go_sem, ↓reduceIte, reduceCtorEq, nA, nB, nC, nD, nE, nF, Int.toNat_natCast] <;> and_intros <;> first | (apply hK1; clear hK1 K1) | (intros; first | decide | (simp_all <;> omega)) | skip))))
  intro i hi
  refine hK1 _ ?_; clear hK1 K1
  (repeat (first | refine gO rfl ?_ | ((first | refine gM zM25 ?_ | (with_reducible refine wM ?_ ?_)) <;> ((try with_reducible intro K1 hK1); simp only [go_sem, ↓reduceIte, reduceCtorEq, nA, nB, nC, nD, nE, nF, Int.toNat_natCast] <;> and_intros <;> (apply hK1; clear hK1 K1)))))
  have hrep : List.replicate kids.length [AV.v (.int .i64 0)] = (kids.map fun _ => (0 : Int)).map encI := by
   rw [List.map_map, ← List.map_const]; rfl
  refine awp_loopC (rl false [1, 1, 1, 1, 12, 3, 32]) 0 (fun g s => NewPI d kind item long many kids shares h i c0 g s) kids.length ⟨[], _, _, by simp, ⟨fun l hl => by simp at hl, fun j l hj => by simp at hj, fun x hx => upd_other _ _ (fun e => by subst e; exact hx hi), fun x hx => upd_other _ _ (fun e => by subst e; exact hx hc0)⟩, .inl ⟨rfl, rfl⟩, upd_same _ _ _, by rw [← hrep]; exact upd_same _ _ _, rfl⟩ ?_
  rintro g _ ⟨az, K, h', hg, hI, hK, hH, hT, rfl⟩
  have hH0 : h'.H i = some (.cells [.v (.int .i64 kind), .v (.string item), .v (.int .i64 long), .v (.int .i64 many), .row 6 (kids.map encL) none, .row 1 (shares.map encI) none, K, .v (.int .i64 0), .arr 1 c0 kids.length, .v (.int .i64 0)]) := hH
  (repeat (first | refine gO rfl ?_ | ((refine gM zM25 fun K1 hK1 => ?_; simp only [go_sem, ↓reduceIte, reduceCtorEq, nA, nB, nC, nD, nE, nF] <;> and_intros <;> (apply hK1; clear hK1 K1)))))
  refine awp_cond (t := _) rfl (fun h6 => ?_) (fun h6 => ?_)
  ·simp only [decide_eq_true_eq] at h6
   have hjk : az.length < kids.length := by omega
   have hge : (kids.map encL).getD az.length [] = encL (kids.getD az.length default) := getD_enc encL kids az.length default hjk
   have hmem := getD_mem' kids az.length default hjk
   have hbt := b8 _ hmem
   have hlen := encL_len (kids.getD az.length default)
   have htk : List.take 6 (encL (kids.getD az.length default)) = encL (kids.getD az.length default) := List.take_of_length_le (Nat.le_of_eq hlen)
   have hdr : List.drop 6 (encL (kids.getD az.length default)) = [] := List.drop_of_length_le (Nat.le_of_eq hlen)
   obtain ⟨jn, hjn⟩ : ∃ jn, az.length = jn := ⟨_, rfl⟩
   rw [hjn] at hjk hge hmem hbt hlen htk hdr h6 hg ⊢
   rcases hK with ⟨rfl, rfl⟩ | ⟨tk, hne, rfl, htkT, htk0⟩
   ·(repeat (first | refine gO rfl ?_ | ((first | refine gM zM25 ?_ | ((with_reducible refine xR ?_); refine uE 5 zM25 zP18E zP18P 51 rfl (by kernel_rfl) ?_)) <;> ((try with_reducible intro K1 hK1); simp only [go_sem, ↓reduceIte, reduceCtorEq, nA, nB, nC, nD, nE, nF, Int.toNat_natCast, hge, hlen, htk, hdr, hH0] <;> and_intros <;> first | (apply hK1; clear hK1 K1) | (intros; (omega)) | skip))))
    refine (g_newPart d (kids.getD jn default) h' hbt).mono ?_
    rintro _ h2 ⟨a, rfl, hR, hS, hn1, hn2, hk1, hk2⟩
    have hH2 := (hk1 i (by rw [hH0]; simp)).trans hH0
    have hT2 := (hk2 c0 (by rw [hT]; simp)).trans hT
    refine hK1 _ ?_; clear hK1 K1
    (repeat (((first | refine gM zM25 ?_ | (with_reducible refine wM ?_ ?_)) <;> ((try with_reducible intro K1 hK1); simp only [go_sem, ↓reduceIte, reduceCtorEq, nA, nB, nC, nD, nE, nF, Int.toNat_natCast, hge, hlen, htk, hdr, hH2] <;> and_intros <;> first | (apply hK1; clear hK1 K1) | (intros; first | decide | (simp_all <;> omega)) | skip))))
    intro tk htkn
    refine hK1 _ ?_; clear hK1 K1
    replace htkn : h2.T tk = none := htkn
    (repeat (first | refine gO rfl ?_ | ((first | refine gM zM25 ?_ | (with_reducible refine wM ?_ ?_)) <;> ((try with_reducible intro K1 hK1); simp only [go_sem, ↓reduceIte, reduceCtorEq, nA, nB, nC, nD, nE, nF, Int.toNat_natCast, hge, hlen, htk, hdr, hH2] <;> and_intros <;> first | (apply hK1; clear hK1 K1) | (intros; (omega))))))
    have htk1 : h'.T tk = none := Classical.byContradiction fun hn => by have := hk2 tk hn; rw [htkn] at this; exact hn this.symm
    have htk0 : h.T tk = none := Classical.byContradiction fun hn => by have := hI.2.2.2 tk hn; rw [htk1] at this; exact hn this.symm
    have hfr : ∀ (Y : AO) (n : Nat) (tk : Nat), (∀ xs, h2.T tk ≠ some (.cont 1 xs)) → RAt XP { H := upd h2.H i (some Y), T := upd h2.T tk (some (.tail n)) } d (kids.getD jn default) a (ps0 (kids.getD jn default)) := fun Y n tk htk => hR.frame (fun x hx => upd_other _ _ (fun e => by subst e; exact absurd (hn1 _ hx) (by rw [hH0]; simp))) (fun x hx => upd_other _ _ (fun e => by subst e; obtain ⟨xs, e2⟩ := hR.cont _ hx; exact htk xs e2))
    refine ⟨g - 1, by omega, ([] : List AT) ++ [a], .row 1 ((([] : List AT) ++ [a]).map fun a => [.ptr a.id 0]) (some tk), { H := upd h2.H i (some (.cells (cells9 kind item long many kids shares (.row 1 ((([] : List AT) ++ [a]).map fun a => [.ptr a.id 0]) (some tk)) 0 c0 ++ [.v (.int .i64 0)]))), T := upd h2.T tk (some (.tail 1)) }, by simp at hjn hg ⊢; omega, NewI.more (c := c0) (az := ([] : List AT)) hI hi (by rw [hH0]; simp) (by rw [hT]; simp) (by rw [hjn]; exact hfr _ 1 tk (fun xs e => by rw [htkn] at e; cases e)) hS hn1 hn2 (fun x hx hxi => (upd_other _ _ hxi).trans (hk1 x hx)) (fun x xs hx => (upd_other _ _ (fun e => by subst e; exact (by have := hk2 _ (show h'.T _ ≠ none by rw [hx]; simp); rw [hx, htkn] at this; cases this))).trans (hk2 x (by rw [hx]; simp))) (fun x hx => (upd_other _ _ (fun e => by subst e; exact hx htk0)).trans ((hk2 x (by rw [hI.2.2.2 x hx]; exact hx)).trans (hI.2.2.2 x hx))),
     .inr ⟨tk, by simp, rfl, by rw [show (([] : List AT) ++ [a]).length = 1 from rfl]; exact upd_same _ _ _, htk0⟩, upd_same _ _ _, (upd_other _ _ (fun e => by subst e; exact (by rw [hT2] at htkn; cases htkn))).trans hT2, by subst hjn; rfl⟩
   ·(repeat (first | refine gO rfl ?_ | ((first | refine gM zM25 ?_ | ((with_reducible refine xR ?_); refine uE 5 zM25 zP18E zP18P 51 rfl (by kernel_rfl) ?_)) <;> ((try with_reducible intro K1 hK1); simp only [go_sem, ↓reduceIte, reduceCtorEq, nA, nB, nC, nD, nE, nF, Int.toNat_natCast, hge, hlen, htk, hdr, hH0] <;> and_intros <;> first | (apply hK1; clear hK1 K1) | (intros; (omega)) | skip))))
    refine (g_newPart d (kids.getD jn default) h' hbt).mono ?_
    rintro _ h2 ⟨a, rfl, hR, hS, hn1, hn2, hk1, hk2⟩
    have hH2 := (hk1 i (by rw [hH0]; simp)).trans hH0
    have hT2 := (hk2 c0 (by rw [hT]; simp)).trans hT
    refine hK1 _ ?_; clear hK1 K1
    have htk2 := (hk2 tk (by rw [htkT]; simp)).trans htkT
    (repeat (first | refine gO rfl ?_ | ((first | refine gM zM25 ?_ | (with_reducible refine wM ?_ ?_)) <;> ((try with_reducible intro K1 hK1); simp only [go_sem, ↓reduceIte, reduceCtorEq, nA, nB, nC, nD, nE, nF, Int.toNat_natCast, hge, hlen, htk, hdr, hH2, htk2] <;> and_intros <;> first | (apply hK1; clear hK1 K1) | (intros; first | omega | decide | (simp_all <;> omega))))))
    have hfr : ∀ (Y : AO) (n : Nat) (tk : Nat), (∀ xs, h2.T tk ≠ some (.cont 1 xs)) → RAt XP { H := upd h2.H i (some Y), T := upd h2.T tk (some (.tail n)) } d (kids.getD jn default) a (ps0 (kids.getD jn default)) := fun Y n tk htk => hR.frame (fun x hx => upd_other _ _ (fun e => by subst e; exact absurd (hn1 _ hx) (by rw [hH0]; simp))) (fun x hx => upd_other _ _ (fun e => by subst e; obtain ⟨xs, e2⟩ := hR.cont _ hx; exact htk xs e2))
    have hrow : az.map (fun a : AT => [AV.ptr a.id 0]) ++ [[AV.ptr a.id 0]] = (az ++ [a]).map (fun a : AT => [AV.ptr a.id 0]) := by simp
    rw [hrow]
    refine ⟨g - 1, by omega, az ++ [a], .row 1 ((az ++ [a]).map fun a => [.ptr a.id 0]) (some tk), { H := upd h2.H i (some (.cells (cells9 kind item long many kids shares (.row 1 ((az ++ [a]).map fun a => [.ptr a.id 0]) (some tk)) 0 c0 ++ [.v (.int .i64 0)]))), T := upd h2.T tk (some (.tail (az.length + 1))) }, by simp at hjn hg ⊢; omega, NewI.more (c := c0) (az := az) hI hi (by rw [hH0]; simp) (by rw [hT]; simp) (by rw [hjn]; exact hfr _ (jn + 1) tk (fun xs e => by rw [htk2] at e; cases e)) hS hn1 hn2 (fun x hx hxi => (upd_other _ _ hxi).trans (hk1 x hx)) (fun x xs hx => (upd_other _ _ (fun e => by subst e; exact (by rw [htkT] at hx; cases hx))).trans (hk2 x (by rw [hx]; simp))) (fun x hx => (upd_other _ _ (fun e => by subst e; exact hx htk0)).trans ((hk2 x (by rw [hI.2.2.2 x hx]; exact hx)).trans (hI.2.2.2 x hx))),
     .inr ⟨tk, by simp, rfl, by rw [show (az ++ [a]).length = az.length + 1 by simp]; exact upd_same _ _ _, htk0⟩, upd_same _ _ _, (upd_other _ _ (fun e => by subst e; exact (by rw [hT2] at htk2; cases htk2))).trans hT2, by rw [show ((az ++ [a]).length : Int) = (jn : Int) + 1 by simp; omega]; rfl⟩
  ·simp only [decide_eq_false_iff_not] at h6
   have hjk : az.length = kids.length := by omega
   have hK' : kidsC az K := by
    rcases hK with ⟨rfl, rfl⟩ | ⟨tk, _, rfl, _, _⟩
    ·exact .inl ⟨rfl, rfl⟩
    ·exact .inr ⟨some tk, rfl⟩
   clear hK hH0
   (repeat ((refine gQ rfl ?_)))
   refine awp_seq ?_
   (repeat (first | refine gO rfl ?_ | ((refine gM zM25 fun K1 hK1 => ?_; simp only [go_sem, ↓reduceIte, reduceCtorEq, nA, nB, nC, nD, nE, nF] <;> and_intros <;> (apply hK1; clear hK1 K1)))))
   refine awp_loopC (rl false [3, 1, 31, 3, 13]) 0 (fun g s => ∃ j : Nat, g + j = shares.length ∧ s = ⟨((jnk 3 ((.ptr i 0) :: (jnk 31 ((.row 1 (shares.map encI) none) :: (.v (.int .i64 shares.length)) :: (.v (.int .i64 j)) :: (jnk 13 [])))))), [],
    { H := upd h'.H i (some (.cells (cells9 kind item long many kids shares K 0 c0 ++ [.v (.int .i64 (shares.take j).sum)]))), T := h'.T }⟩) shares.length ⟨0, by omega, ?_⟩ ?_
   ·have e0 : ({ H := upd h'.H i (some (.cells (cells9 kind item long many kids shares K 0 c0 ++ [.v (.int .i64 (shares.take 0).sum)]))), T := h'.T } : Hp) = h' := by
     show (⟨upd h'.H i (some (.cells (cells9 kind item long many kids shares K 0 c0 ++ [.v (.int .i64 0)]))), h'.T⟩ : Hp) = h'
     rw [upd_self hH]
    rw [e0]; rfl
   rintro g _ ⟨j, hj, rfl⟩
   have hnb := sum_nb (shares.take j) fun x hx => b7 x (List.mem_of_mem_take hx)
   have hjl : (shares.take j).length ≤ 1000 := by simp; omega
   have hH1 : (upd h'.H i (some (AO.cells (cells9 kind item long many kids shares K 0 c0 ++ [.v (.int .i64 (shares.take j).sum)])))) i = some (.cells [.v (.int .i64 kind), .v (.string item), .v (.int .i64 long), .v (.int .i64 many), .row 6 (kids.map encL) none, .row 1 (shares.map encI) none, K, .v (.int .i64 0), .arr 1 c0 kids.length, .v (.int .i64 (shares.take j).sum)]) := upd_same _ _ _
   (repeat (first | refine gO rfl ?_ | ((refine gM zM25 fun K1 hK1 => ?_; simp only [go_sem, ↓reduceIte, reduceCtorEq, nA, nB, nC, nD, nE, nF] <;> and_intros <;> (apply hK1; clear hK1 K1)))))
   refine awp_cond (t := _) rfl (fun h7 => ?_) (fun h7 => ?_)
   ·simp only [decide_eq_true_eq] at h7
    have hjs : j < shares.length := by omega
    have hgs : (shares.map encI).getD j [] = encI (shares.getD j 0) := getD_enc encI shares j 0 hjs
    have hms := b7 _ (getD_mem' shares j 0 hjs)
    have e1 : (shares.take (j + 1)).sum = (shares.take j).sum + shares.getD j 0 := by
     rw [List.take_add_one, List.getD_eq_getElem?_getD, List.getElem?_eq_getElem hjs, List.sum_append]; simp only [Option.toList_some, List.sum_cons, List.sum_nil, Option.getD_some]; omega
    have hb2 : NB (shares.getD j 0) := hms
    unfold NB at hb2
    (repeat (first | refine gO rfl ?_ | ((refine gM zM25 fun K1 hK1 => ?_; simp only [go_sem, ↓reduceIte, reduceCtorEq, nA, nB, nC, nD, nE, nF, Int.toNat_natCast, hgs, encI, cells9] <;> and_intros <;> first | (apply hK1; clear hK1 K1) | (intros; (omega))))))
    refine ⟨g - 1, by omega, j + 1, by omega, ?_⟩
    rw [e1]; rfl
   ·simp only [decide_eq_false_iff_not] at h7
    have hjs : j = shares.length := by omega
    subst hjs
    rw [List.take_length]
    (repeat (first | refine gO rfl ?_ | ((refine gM zM25 fun K1 hK1 => ?_; simp only [go_sem, ↓reduceIte, reduceCtorEq, nA, nB, nC, nD, nE, nF] <;> and_intros <;> (apply hK1; clear hK1 K1)))))
    simp only [Tryz.results75, go_sem, ↓reduceIte, reduceCtorEq, nA, nB, nC, nD, nE, nF]
    obtain ⟨g1, g2, g3, g4⟩ := hI
    refine ⟨_, _, Weak.refl _, Hp.le.refl _, .mk i c0 az, rfl, ?_, ?_, ?_, ?_, fun x hx => (upd_other _ _ (fun e => by subst e; exact hx hi)).trans (g3 x hx), g4⟩
    ·rw [ps0_eq]
     have hcf : XP.cf kind (kids.map fun _ => (0 : Int)) = kids.map fun _ => (0 : Int) := by
      simp only [XP]
      split
      ·rfl
      ·rw [List.length_map, ← List.map_const]; rfl
     refine ⟨⟨K, upd_same _ _ _, hK'⟩, by rw [hcf]; exact hT, by rw [hcf]; simp; omega, fun j hj => ?_⟩
     have e : (kids.map ps0).getD j default = ps0 (kids.getD j default) := by
      rw [List.getD_eq_getElem?_getD, List.getD_eq_getElem?_getD, List.getElem?_map, List.getElem?_eq_getElem hj]; rfl
     rw [e]
     exact (g1 j (by omega)).1.frame (fun x hx => upd_other _ _ (fun e => by subst e; exact (g1 j (by omega)).2.1.1 hx)) (fun _ _ => rfl)
    ·exact fun j hj => ⟨(g1 j hj).2.1, fun l hl hne => g2 j l hj hl hne⟩
    ·intro x hx
     rcases mem_idsT hx with rfl | ⟨j, hj, hx⟩
     ·exact hi
     ·exact (g1 j hj).2.2.1 x hx
    ·intro x hx
     rcases mem_toksT hx with rfl | ⟨j, hj, hx⟩
     ·exact hc0
     ·exact (g1 j hj).2.2.2 x hx
theorem mul_bd {a b A B : Int} (ha : 0 ≤ a ∧ a ≤ A) (hb : 0 ≤ b ∧ b ≤ B) : 0 ≤ a * b ∧ a * b ≤ A * B :=
 ⟨Int.mul_nonneg ha.1 hb.1, Int.mul_le_mul ha.2 hb.2 hb.1 (by omega)⟩
theorem sum_take_succ (l : List Int) (j : Nat) (h : j < l.length) : (l.take (j + 1)).sum = (l.take j).sum + l.getD j 0 := by
 rw [List.take_add_one, List.getD_eq_getElem?_getD, List.getElem?_eq_getElem h, List.sum_append]; simp only [Option.toList_some, List.sum_cons, List.sum_nil, Option.getD_some]; omega
theorem sum_01 : ∀ (l : List Int), (∀ x ∈ l, 1 ≤ x ∧ x ≤ 1000) → 0 ≤ l.sum ∧ l.sum ≤ l.length * 1000
 | [], _ => by simp
 | x :: l, h => by
  have h1 := h x (by simp)
  have h2 := sum_01 l fun y hy => h y (by simp [hy])
  simp only [List.sum_cons, List.length_cons]
  omega
abbrev zP19E : List Nat := [0, 1, 2, 3, 4, 5, 6, 7, 8, 9, 10, 11, 12, 13, 14, 15, 16, 17, 18, 19, 20]
abbrev zP19P : List (Nat × List Nat × List Nat) := []
abbrev zP1AE : List Nat := [0, 1, 2, 3, 4, 5, 6, 7, 8, 9, 10]
abbrev zP1AP : List (Nat × List Nat × List Nat) := []
attribute [go_sem] zP19E zP19P zP1AE zP1AP
theorem g_behind45 (kind : Int) (item : ByteArray) (long many : Int) (kr : AV) (shares : List Int) (K : AV) (p : Int) (i c0 : Nat) (cs : List Int) (h : Hp) (hH : h.H i = some (.cells [.v (.int .i64 kind), .v (.string item), .v (.int .i64 long), .v (.int .i64 many), kr, .row 1 (shares.map encI) none, K, .v (.int .i64 p), .arr 1 c0 shares.length, .v (.int .i64 shares.sum)]))
  (hT : h.T c0 = some (.cont 1 (cs.map encI))) (hl : cs.length = shares.length) (hl2 : shares.length ≤ 1000) (hs : ∀ x ∈ shares, 1 ≤ x ∧ x ≤ 1000) (hp : 0 ≤ p ∧ p ≤ 1000000) (hc : ∀ x ∈ cs, 0 ≤ x ∧ x ≤ 1000000) :
  ACalls Tryz.prog 141 [.ptr i 0] h (fun r h' => r = .v (.int .i64 (nextF shares p cs)) ∧ h' = h) := by
 refine gE Tryz.func141 rfl (by kernel_rfl) 49 rfl fun c => ?_
 (repeat (first | refine gQ rfl ?_ | ((((with_reducible refine yS ?_); refine awp_keep zK21 100 (kS ?_))) <;> ((try with_reducible intro K1 hK1); simp only [go_sem, ↓reduceIte, reduceCtorEq, nA, nB, nC, nD, nE, nF, hH, nG, nH, nI] <;> and_intros <;> (apply hK1; clear hK1 K1)))))
 refine awp_seq ?_
 (repeat (first | refine gO rfl ?_ | ((((with_reducible refine yS ?_); refine awp_keep zK21 100 (kS ?_))) <;> ((try with_reducible intro K1 hK1); simp only [go_sem, ↓reduceIte, reduceCtorEq, nA, nB, nC, nD, nE, nF, hH, nG, nH, nI] <;> and_intros <;> (apply hK1; clear hK1 K1)))))
 refine awp_loopC (rl false [0, 1, 2, 2, 7, 3, 35]) 0 (fun g s => ∃ (j : Nat) (m : Int), g + j = shares.length ∧ (j ≠ 0 → m = shareV shares p cs (bestTo (shareV shares p cs) j)) ∧ (-10000000000000 ≤ m ∧ m ≤ 10000000000000) ∧
  s = ⟨((.ptr i 0) :: AV.junk :: AV.junk :: ((.v (.int .i64 (bestTo (shareV shares p cs) j))) :: (.v (.int .i64 m)) :: (jnk 7 ((.row 1 (shares.map encI) none) :: (.v (.int .i64 shares.length)) :: (.v (.int .i64 j)) :: (jnk 35 []))))), [], h⟩) shares.length ⟨0, 0, by omega, fun h => absurd rfl h, by omega, rfl⟩ ?_
 rintro g _ ⟨j, m, hj, hm, hmb, rfl⟩
 (repeat (first | refine gO rfl ?_ | ((((with_reducible refine yS ?_); refine awp_keep zK21 100 (kS ?_))) <;> ((try with_reducible intro K1 hK1); simp only [go_sem, ↓reduceIte, reduceCtorEq, nA, nB, nC, nD, nE, nF, hH, nG, nH, nI] <;> and_intros <;> (apply hK1; clear hK1 K1)))))
 refine awp_cond (t := _) rfl (fun h1 => ?_) (fun h1 => ?_)
 ·simp only [decide_eq_true_eq] at h1
  have hjs : j < shares.length := by omega
  have e2 : bestTo (shareV shares p cs) (j + 1) = if shareV shares p cs j > shareV shares p cs (bestTo (shareV shares p cs) j) then j else bestTo (shareV shares p cs) j := rfl
  have e0 : j = 0 → bestTo (shareV shares p cs) (j + 1) = j := fun h => by subst h; simp [bestTo]
  have e2t : j ≠ 0 → m < shareV shares p cs j → bestTo (shareV shares p cs) (j + 1) = j := fun h0 h => by rw [e2, if_pos (by rw [hm h0] at h; exact h)]
  have e2f : j ≠ 0 → ¬ m < shareV shares p cs j → bestTo (shareV shares p cs) (j + 1) = bestTo (shareV shares p cs) j := fun h0 h => by rw [e2, if_neg (by rw [hm h0] at h; exact h)]
  clear e2
  have hg : (shares.map encI).getD j [] = encI (shares.getD j 0) := getD_enc encI shares j 0 hjs
  have hcj : (cs.map encI).getD j [] = encI (cs.getD j 0) := getD_enc encI cs j 0 (by omega)
  have b1 := hs _ (getD_mem' shares j 0 hjs)
  have b3 := hc _ (getD_mem' cs j 0 (by omega))
  have hss := sum_01 shares hs
  have m1 := mul_bd (a := shares.getD j 0) (b := p + 1) (A := 1000) (B := 1000001) (by omega) (by omega)
  have m3 := mul_bd (a := cs.getD j 0) (b := shares.sum) (A := 1000000) (B := 1000000) (by omega) (by omega)
  have hv : shareV shares p cs j = shares.getD j 0 * (p + 1) - cs.getD j 0 * shares.sum := rfl
  (repeat (first | refine gO rfl ?_ | ((first | ((with_reducible refine yS ?_); refine awp_keep zK21 100 (kS ?_)) | ((with_reducible refine xS ?_); refine awp_keep zK21 100 (uD 5 zM22 zP19E zP19P 50 rfl (by kernel_rfl) ?_))) <;> ((try with_reducible intro K1 hK1); simp only [go_sem, ↓reduceIte, reduceCtorEq, nA, nB, nC, nD, nE, nF, hH, hT, hl, Int.toNat_natCast, hg, hcj, encI, nG, nH, nI] <;> and_intros <;> first | (apply hK1; clear hK1 K1) | (intros; (omega))))))
  refine awp_cond (t := _) rfl (fun h2 => ?_) (fun h2 => ?_)
  ·(repeat (first | refine gO rfl ?_ | ((((with_reducible refine yR ?_); refine awp_keep zK21 100 (kR ?_))) <;> ((try with_reducible intro K1 hK1); simp only [go_sem, ↓reduceIte, reduceCtorEq, nA, nB, nC, nD, nE, nF, nG, nH, nI] <;> and_intros <;> first | (apply hK1; clear hK1 K1) | (intros; (omega))))))
   have e3 : bestTo (shareV shares p cs) (j + 1) = j := by
    simp only [Bool.or_eq_true, beq_iff_eq, decide_eq_true_eq] at h2
    by_cases h0 : j = 0
    ·exact e0 h0
    ·exact e2t h0 (by rw [hv]; omega)
   exact ⟨g - 1, by omega, j + 1, shares.getD j 0 * (p + 1) - cs.getD j 0 * shares.sum, by omega, fun _ => by rw [e3, hv], by omega, by rw [e3]; rfl⟩
  ·(repeat (first | refine gO rfl ?_ | ((((with_reducible refine yR ?_); refine awp_keep zK21 100 (kR ?_))) <;> ((try with_reducible intro K1 hK1); simp only [go_sem, ↓reduceIte, reduceCtorEq, nA, nB, nC, nD, nE, nF, nG, nH, nI] <;> and_intros <;> first | (apply hK1; clear hK1 K1) | (intros; (omega))))))
   simp only [Bool.or_eq_false_iff, beq_eq_false_iff_ne, decide_eq_false_iff_not] at h2
   have h0 : j ≠ 0 := by omega
   have e3 := e2f h0 (by rw [hv]; omega)
   exact ⟨g - 1, by omega, j + 1, m, by omega, fun _ => by rw [e3]; exact hm h0, by omega, by rw [e3]; rfl⟩
 ·simp only [decide_eq_false_iff_not] at h1
  have hjs : j = shares.length := by omega
  subst hjs
  (repeat (first | refine gO rfl ?_ | ((((with_reducible refine yS ?_); refine awp_keep zK21 100 (kS ?_))) <;> ((try with_reducible intro K1 hK1); simp only [go_sem, ↓reduceIte, reduceCtorEq, nA, nB, nC, nD, nE, nF, nG, nH, nI] <;> and_intros <;> (apply hK1; clear hK1 K1)))))
  simp only [Tryz.results141, go_sem, ↓reduceIte, reduceCtorEq, nA, nB, nC, nD, nE, nF]
  exact ⟨_, _, Weak.refl _, Hp.le.refl _, rfl, rfl⟩
theorem g_full28 (o k : Nat) (h : Hp) (xs : List (ByteArray × Int)) (hO : OutAt h o k [.v (.int .i64 5000)] xs) : ACalls Tryz.prog 77 [.ptr o 0] h (fun r h' => r = .v (.bool (decide (5000 < (xs.length : Int)))) ∧ h' = h) := by
 have hH : h.H o = some (.cells [.row 2 (xs.map encStep) (some k), .v (.int .i64 5000)]) := hO.1
 refine gE Tryz.func77 rfl (by kernel_rfl) 12 rfl fun c => ?_
 (repeat (first | refine gO rfl ?_ | ((first | refine gR ?_ | ((with_reducible refine xS ?_); refine uD 1 zM22 zP1AE zP1AP 13 rfl (by kernel_rfl) ?_)) <;> ((try with_reducible intro K1 hK1); simp only [go_sem, ↓reduceIte, reduceCtorEq, nA, nB, nC, nD, nE, nF, hH] <;> and_intros <;> (apply hK1; clear hK1 K1)))))
 simp only [Tryz.results77, go_sem, ↓reduceIte, reduceCtorEq, nA, nB, nC, nD, nE, nF]
 exact ⟨_, _, Weak.refl _, Hp.le.refl _, rfl, rfl⟩
def FrP (a : AT) (o k : Nat) (h h' : Hp) : Prop := (∀ i, i ∉ idsT a → i ≠ o → h'.H i = h.H i) ∧ (∀ c, c ∉ toksT a → c ≠ k → h'.T c = h.T c)
theorem FrP.trans {a : AT} {o k : Nat} {h h1 h2 : Hp} (f : FrP a o k h h1) (g : FrP a o k h1 h2) : FrP a o k h h2 :=
 ⟨fun i x y => (g.1 i x y).trans (f.1 i x y), fun i x y => (g.2 i x y).trans (f.2 i x y)⟩
theorem FrP.kid {i c : Nat} {az : List AT} {j : Nat} {o k : Nat} {h h' : Hp} (hj : j < az.length) (f : FrP (az.getD j default) o k h h') : FrP (.mk i c az) o k h h' :=
 ⟨fun x hx ho => f.1 x (fun h => hx (idsT_kid hj h)) ho, fun x hx ho => f.2 x (fun h => hx (toksT_kid hj h)) ho⟩
theorem getD_setS {α : Type} (l : List α) (j : Nat) (x d : α) (h : j < l.length) : (l.set j x).getD j d = x := by rw [List.getD_eq_getElem?_getD, List.getElem?_set_self h]; rfl
theorem getD_setN {α : Type} (l : List α) (j i : Nat) (x d : α) (h : j ≠ i) : (l.set j x).getD i d = l.getD i d := by rw [List.getD_eq_getElem?_getD, List.getElem?_set_ne h, ← List.getD_eq_getElem?_getD]
theorem RAt.kid {X : RK} {h h' : Hp} {d : Nat} {kind : Int} {item : ByteArray} {long many : Int} {kids : List LT} {shares : List Int} {i c : Nat} {az : List AT} {p : Int} {cs : List Int} {ks : List PS}
  (hR : RAt X h (d + 1) (.mk kind item long many kids shares) (.mk i c az) (.mk p cs ks)) (hS : Sep (d + 1) (.mk i c az)) {o k : Nat} (ho : o ∉ idsT (.mk i c az)) (hk : k ∉ toksT (.mk i c az)) {j : Nat} (hj : j < kids.length) {s' : PS}
  (hj' : RAt X h' d (kids.getD j default) (az.getD j default) s') (hf : FrP (az.getD j default) o k h h') : RAt X h' (d + 1) (.mk kind item long many kids shares) (.mk i c az) (.mk p cs (ks.set j s')) := by
 obtain ⟨⟨K, h1, hK⟩, h2, ⟨l1, l2, l3, l4⟩, h4⟩ := hR
 have hjz : j < az.length := by omega
 have hSj := hS j hjz
 refine ⟨⟨K, (hf.1 i hSj.1.1 (fun e => ho (by rw [idsT_eq, e]; simp))).trans h1, hK⟩, (hf.2 c hSj.1.2.1 (fun e => hk (by rw [toksT_eq, e]; simp))).trans h2, ⟨l1, l2, l3, by simpa using l4⟩, fun l hl => ?_⟩
 by_cases hlj : j = l
 ·subst hlj
  rw [getD_setS _ _ _ _ (by omega)]
  exact hj'
 ·rw [getD_setN _ _ _ _ _ hlj]
  have hd := hSj.2 l (by omega) (fun e => hlj e.symm)
  exact (h4 l hl).frame (fun x hx => hf.1 x (fun hx2 => hd.1 x hx2 hx) (fun e => ho (by rw [← e]; exact idsT_kid (by omega) hx))) (fun x hx => hf.2 x (fun hx2 => hd.2 x hx2 hx) (fun e => hk (by rw [← e]; exact toksT_kid (by omega) hx)))
theorem RAt.tokNe {X : RK} {h : Hp} {d : Nat} {t : LT} {a : AT} {s : PS} (hR : RAt X h d t a s) {k n : Nat} (hk : h.T k = some (.tail n)) : k ∉ toksT a := fun hx => by
 obtain ⟨xs, e⟩ := hR.cont k hx
 rw [hk] at e; cases e
def FOk (d : Nat) (kids : List LT) (n : Int) (a : List Int × List PS) : Prop :=
 (a.1.length = kids.length ∧ a.2.length = kids.length) ∧ (∀ x ∈ a.1, 0 ≤ x ∧ x ≤ n) ∧ ∀ j, j < kids.length → PSB d (kids.getD j default) (a.2.getD j default) n
theorem mem_set_or {l : List Int} {j : Nat} {v x : Int} (h : x ∈ l.set j v) : x ∈ l ∨ x = v := List.mem_or_eq_of_mem_set h
theorem stepU_ok {d : Nat} {f : LT → PS → PS × List (ByteArray × Int)} {kids : List LT} {n : Int} {a : (List Int × List PS) × List (ByteArray × Int)} (hf : FOk d kids n a.1) {i : Nat} (hi : i < kids.length) {m : Nat}
  (hm : (f (kids.getD i default) (a.1.2.getD i default)).2.length = m) (hm1 : 1 ≤ m) (hp : PSB d (kids.getD i default) (f (kids.getD i default) (a.1.2.getD i default)).1 (n + m)) : FOk d kids (n + m) (stepU f kids a i).1 ∧ (stepU f kids a i).2.length = a.2.length + m := by
 obtain ⟨⟨l1, l2⟩, h1, h2⟩ := hf
 refine ⟨⟨⟨by simp [stepU, l1], by simp [stepU, l2]⟩, fun x hx => ?_, fun j hj => ?_⟩, by simp only [stepU, List.length_append, hm]⟩
 ·rcases mem_set_or hx with h | h
  ·have := h1 x h; omega
  ·have := h1 _ (getD_mem' a.1.1 i 0 (by omega)); omega
 ·simp only [stepU]
  by_cases hij : i = j
  ·subst hij; rw [getD_setS _ _ _ _ (by omega)]; exact hp
  ·rw [getD_setN _ _ _ _ _ hij]; exact (h2 j hj).mono (by omega)
theorem idxL_lt {kind p many : Int} {nk nx : Nat} (hk : 1 ≤ kind ∧ kind ≤ 5) (hn : kind ≠ 1 → 0 < nk) (hx : kind = 4 → nx < nk) (hp : 0 ≤ p) : ∀ i ∈ idxL kind p many nk nx, i < nk := by
 intro i hi
 unfold idxL at hi
 split at hi
 ·simp at hi
 ·rename_i h1
  have h0 := hn h1
  split at hi
  ·simpa using hi
  ·split at hi
   ·simp only [List.mem_singleton] at hi
    subst hi
    have := Int.tmod_lt_of_pos p (show (0 : Int) < nk by omega)
    have := Int.tmod_nonneg (nk : Int) hp
    omega
   ·split at hi
    ·simp only [List.mem_singleton] at hi; subst hi; exact hx (by assumption)
    ·have := (List.mem_replicate.1 hi).2; omega
theorem idxL_ne {kind p many : Int} {nk nx : Nat} (hk : 1 ≤ kind ∧ kind ≤ 5) (h1 : kind ≠ 1) (hn : 0 < nk) (hm : kind = 5 → 1 ≤ many) : idxL kind p many nk nx ≠ [] := by
 unfold idxL
 rw [if_neg h1]
 split
 ·intro h; have := congrArg List.length h; simp at this; omega
 ·split
  ·simp
  ·split
   ·simp
   ·intro h; have := congrArg List.length h; simp at this; have := hm (by omega); omega
def Fits : Nat → LT → PS → Prop
 | 0, _, _ => False
 | d + 1, .mk _ _ _ _ kids _, .mk _ cs ks => (cs.length = kids.length ∧ ks.length = kids.length) ∧ ∀ j, j < kids.length → Fits d (kids.getD j default) (ks.getD j default)
theorem RAt.fits {X : RK} {h : Hp} : ∀ {d : Nat} {t : LT} {a : AT} {s : PS}, RAt X h d t a s → Fits d t s
 | 0, _, _, _, h => h.elim
 | d + 1, .mk .., .mk .., .mk .., ⟨_, _, h3, h4⟩ => ⟨⟨h3.2.1, h3.2.2.2⟩, fun j hj => (h4 j hj).fits⟩
theorem passU_ok : ∀ (d : Nat) (t : LT) (s : PS) (n : Int), VL d t → Fits d t s → 0 ≤ n → PSB d t s n → 1 ≤ (passU d t s).2.length ∧ PSB d t (passU d t s).1 (n + (passU d t s).2.length) ∧ Fits d t (passU d t s).1
 | 0, _, _, _, h, _, _, _ => h.elim
 | d + 1, .mk kind item long many kids shares, .mk p cs ks, n, hv, hft, hn, hb => by
  obtain ⟨v1, v2, v3, v4, v5, v6, v7, v8⟩ := hv
  obtain ⟨⟨f1, f2⟩, f3⟩ := hft
  obtain ⟨c1, c2, c3⟩ := hb
  rw [passU_succ]
  have hnk : kind ≠ 1 → 0 < kids.length := fun h => List.length_pos_iff.2 (v3 h)
  have hidx := idxL_lt (many := many) (nx := nextF shares p cs) v1 hnk (fun h4 => by rw [← v5 h4]; exact bestTo_lt _ _ (by rw [v5 h4]; exact hnk (by omega))) c1.1
  have hne := fun h => idxL_ne (p := p) (nx := nextF shares p cs) v1 h (hnk h) (fun h5 => (v4 h5).2.1)
  have hnil : kind = 1 → idxL kind p many kids.length (nextF shares p cs) = [] := fun h => by unfold idxL; rw [if_pos h]
  generalize idxL kind p many kids.length (nextF shares p cs) = L at *
  -- the fold
  have key : ∀ (L : List Nat), (∀ i ∈ L, i < kids.length) → ∀ (a : (List Int × List PS) × List (ByteArray × Int)) (m : Int), 0 ≤ m → FOk d kids m a.1 → (∀ j, j < kids.length → Fits d (kids.getD j default) (a.1.2.getD j default)) →
    FOk d kids (m + ((L.foldl (stepU (passU d) kids) a).2.length - a.2.length)) (L.foldl (stepU (passU d) kids) a).1 ∧ (∀ j, j < kids.length → Fits d (kids.getD j default) ((L.foldl (stepU (passU d) kids) a).1.2.getD j default)) ∧
    a.2.length + L.length ≤ (L.foldl (stepU (passU d) kids) a).2.length := by
   intro L
   induction L with
   | nil => intro _ a m _ ha hfi; exact ⟨by simpa using ha, hfi, by simp⟩
   | cons i L ih =>
    intro hL a m hm ha hfi
    have hi := hL i (by simp)
    have hmem := getD_mem' kids i default hi
    obtain ⟨g1, g2, g3⟩ := passU_ok d (kids.getD i default) (a.1.2.getD i default) m (v8 _ hmem) (hfi i hi) hm (ha.2.2 i hi)
    obtain ⟨s1, s2⟩ := stepU_ok (f := passU d) ha hi rfl g1 g2
    have hfi2 : ∀ j, j < kids.length → Fits d (kids.getD j default) ((stepU (passU d) kids a i).1.2.getD j default) := fun j hj => by
     simp only [stepU]
     by_cases hij : i = j
     ·subst hij; rw [getD_setS _ _ _ _ (by rw [ha.1.2]; exact hi)]; exact g3
     ·rw [getD_setN _ _ _ _ _ hij]; exact hfi j hj
    obtain ⟨r1, r2, r3⟩ := ih (fun j hj => hL j (by simp [hj])) (stepU (passU d) kids a i) _ (by omega) s1 hfi2
    simp only [List.foldl_cons]
    refine ⟨?_, r2, by simp only [List.length_cons]; omega⟩
    have e : m + (((L.foldl (stepU (passU d) kids) (stepU (passU d) kids a i)).2.length : Int) - a.2.length) = m + ((passU d (kids.getD i default) (a.1.2.getD i default)).2.length) + (((L.foldl (stepU (passU d) kids) (stepU (passU d) kids a i)).2.length : Int) - (stepU (passU d) kids a i).2.length) := by rw [s2]; omega
    rw [e]; exact r1
  obtain ⟨r1, r2, r3⟩ := key L hidx ((cs, ks), if kind = 1 then [(item, long)] else []) n hn ⟨⟨f1, f2⟩, c2, c3⟩ f3
  have hlen : 1 ≤ (L.foldl (stepU (passU d) kids) ((cs, ks), if kind = 1 then [(item, long)] else [])).2.length ∧ n + (((L.foldl (stepU (passU d) kids) ((cs, ks), if kind = 1 then [(item, long)] else [])).2.length : Int) - (if kind = 1 then [(item, long)] else []).length) ≤ n + (L.foldl (stepU (passU d) kids) ((cs, ks), if kind = 1 then [(item, long)] else [])).2.length := by
   by_cases h1 : kind = 1
   ·rw [hnil h1]; simp [h1]; omega
   ·have := List.length_pos_iff.2 (hne h1)
    rw [if_neg h1] at r3 ⊢
    simp only [List.length_nil] at r3 ⊢
    omega
  refine ⟨hlen.1, ⟨by simp only []; omega, fun x hx => ⟨(r1.2.1 x hx).1, Int.le_trans (r1.2.1 x hx).2 hlen.2⟩, fun j hj => (r1.2.2 j hj).mono hlen.2⟩, ⟨r1.1, r2⟩⟩
theorem RAt.count {X : RK} {h : Hp} {d : Nat} {kind : Int} {item : ByteArray} {long many : Int} {kids : List LT} {shares : List Int} {i c : Nat} {az : List AT} {p : Int} {cs cs' : List Int} {ks : List PS}
  (hR : RAt X h (d + 1) (.mk kind item long many kids shares) (.mk i c az) (.mk p cs ks)) (hS : Sep (d + 1) (.mk i c az)) (hl : cs'.length = cs.length) (hl2 : (X.cf kind cs').length = kids.length) :
  RAt X { h with T := upd h.T c (some (.cont 1 ((X.cf kind cs').map encI))) } (d + 1) (.mk kind item long many kids shares) (.mk i c az) (.mk p cs' ks) := by
 obtain ⟨h1, h2, ⟨l1, l2, l3, l4⟩, h4⟩ := hR
 exact ⟨h1, upd_same _ _ _, ⟨hl2, by omega, l3, l4⟩, fun j hj => (h4 j hj).frame (fun _ _ => rfl) (fun x hx => upd_other _ _ (fun e => by subst e; exact (hS j (by omega)).1.2.1 hx))⟩
theorem RAt.hadOne {X : RK} {h : Hp} {d : Nat} {kind : Int} {item : ByteArray} {long many : Int} {kids : List LT} {shares : List Int} {i c : Nat} {az : List AT} {p p' : Int} {cs : List Int} {ks : List PS} {K : AV}
  (hR : RAt X h (d + 1) (.mk kind item long many kids shares) (.mk i c az) (.mk p cs ks)) (hS : Sep (d + 1) (.mk i c az)) (hK : kidsC az K) :
  RAt X { h with H := upd h.H i (some (.cells (cells9 kind item long many kids shares K p' c ++ X.ex (.mk kind item long many kids shares)))) } (d + 1) (.mk kind item long many kids shares) (.mk i c az) (.mk p' cs ks) := by
 obtain ⟨h1, h2, ⟨l1, l2, l3, l4⟩, h4⟩ := hR
 exact ⟨⟨K, upd_same _ _ _, hK⟩, h2, ⟨l1, l2, l3, l4⟩, fun j hj => (h4 j hj).frame (fun x hx => upd_other _ _ (fun e => by subst e; exact (hS j (by omega)).1.1 hx)) (fun _ _ => rfl)⟩
def LT.kd : LT → Int
 | .mk k _ _ _ _ _ => k
def LT.mn : LT → Int
 | .mk _ _ _ m _ _ => m
def LT.ks : LT → List LT
 | .mk _ _ _ _ l _ => l
def LT.hd (t : LT) : LT := t.ks.getD 0 default
def repK (n : Int) (l : List LT) : LT := .mk 5 ⟨#[]⟩ 0 n l []
def rowT (l : List LT) : LT := .mk 2 ⟨#[]⟩ 0 0 l []
def cnt (t : LT) : Option (LT × Int) := if t.kd = 1 then some (t, 1) else if t.kd = 5 ∧ t.hd.kd = 1 then some (t.hd, t.mn) else none
theorem cnt_mk (k : Int) (i : ByteArray) (l m : Int) (ks : List LT) (s : List Int) : cnt (.mk k i l m ks s) = if k = 1 then some (.mk k i l m ks s, 1) else if k = 5 ∧ (ks.getD 0 default).kd = 1 then some (ks.getD 0 default, m) else none := rfl
open Classical in
noncomputable def runN (it : LT) : List LT → Int × Nat
 | [] => (0, 0)
 | x :: xs => match cnt x with
  | some (y, n) => if y = it then (n + (runN it xs).1, (runN it xs).2 + 1) else (0, 0)
  | none => (0, 0)
def manyT (it : LT) (n : Nat) : List LT := List.replicate (n / 100) (repK 100 [it]) ++ if n % 100 = 0 then [] else if n % 100 = 1 then [it] else [repK (n % 100 : Nat) [it]]
noncomputable def gathF : Nat → List LT → List LT
 | 0, _ => []
 | _ + 1, [] => []
 | f + 1, x :: xs => match cnt x with
  | none => x :: gathF f xs
  | some (it, n) => manyT it (n + (runN it xs).1).toNat ++ gathF f (xs.drop (runN it xs).2)
noncomputable def gath (l : List LT) : List LT := gathF l.length l
theorem gathF_fuel : ∀ (f g : Nat) (l : List LT), l.length ≤ f → l.length ≤ g → gathF f l = gathF g l
 | 0, 0, _, _, _ => rfl
 | 0, g + 1, [], _, _ => rfl
 | f + 1, 0, [], _, _ => rfl
 | 0, _, _ :: _, h, _ => by simp at h
 | f + 1, 0, _ :: _, _, h => by simp at h
 | f + 1, g + 1, [], _, _ => rfl
 | f + 1, g + 1, x :: xs, hf, hg => by
  simp only [List.length_cons] at hf hg
  rw [gathF, gathF]
  cases cnt x with
  | none => simp only [gathF_fuel f g xs (by omega) (by omega)]
  | some p =>
   obtain ⟨it, n⟩ := p
   simp only [gathF_fuel f g (xs.drop (runN it xs).2) (by simp; omega) (by simp; omega)]
theorem gath_nil : gath [] = [] := rfl
theorem gath_none {x : LT} (xs : List LT) (h : cnt x = none) : gath (x :: xs) = x :: gath xs := by
 rw [gath, List.length_cons, gathF, h]; rfl
theorem gath_some {x it : LT} {n : Int} (xs : List LT) (h : cnt x = some (it, n)) : gath (x :: xs) = manyT it (n + (runN it xs).1).toNat ++ gath (xs.drop (runN it xs).2) := by
 rw [gath, List.length_cons, gathF, h]
 simp only
 rw [gath, gathF_fuel xs.length _ _ (by simp) (Nat.le_refl _)]
def flatT (l : List LT) : List LT := l.flatMap fun k => if k.kd = 2 then k.ks else [k]
def gcdN : List Nat → Nat
 | [] => 0
 | x :: xs => Nat.gcd x (gcdN xs)
theorem foldl_gcd : ∀ (l : List Nat) (a : Nat), l.foldl Nat.gcd a = Nat.gcd a (gcdN l)
 | [], a => by simp [gcdN]
 | x :: xs, a => by rw [List.foldl_cons, foldl_gcd xs, gcdN, Nat.gcd_assoc]
theorem gcdN_dvd : ∀ (l : List Nat), ∀ x ∈ l, gcdN l ∣ x
 | y :: ys, x, hx => by
  rcases List.mem_cons.1 hx with rfl | h
  ·exact Nat.gcd_dvd_left _ _
  ·exact Nat.dvd_trans (Nat.gcd_dvd_right _ _) (gcdN_dvd ys x h)
theorem gcdN_div (g : Nat) (hg : 0 < g) : ∀ (l : List Nat), (∀ x ∈ l, g ∣ x) → gcdN (l.map (· / g)) * g = gcdN l
 | [], _ => by simp [gcdN]
 | x :: xs, h => by
  rw [List.map_cons, gcdN, gcdN, ← Nat.gcd_mul_right, gcdN_div g hg xs fun y hy => h y (by simp [hy]), Nat.div_mul_cancel (h x (by simp))]
def gcdI (l : List Int) : Nat := gcdN (l.map Int.toNat)
def divI (g : Nat) (l : List Int) : List Int := l.map fun x => x / (g : Int)
theorem gcdI_pos {l : List Int} (h : ∀ x ∈ l, 1 ≤ x) (hn : l ≠ []) : 0 < gcdI l := by
 cases l with
 | nil => exact absurd rfl hn
 | cons x xs =>
  rw [gcdI, List.map_cons, gcdN]
  exact Nat.gcd_pos_of_pos_left _ (by have := h x (by simp); omega)
theorem gcdI_dvd {l : List Int} (h : ∀ x ∈ l, 1 ≤ x) {x : Int} (hx : x ∈ l) : (gcdI l : Int) ∣ x := by
 have h1 := gcdN_dvd (l.map Int.toNat) x.toNat (List.mem_map.2 ⟨x, hx, rfl⟩)
 have h2 : ((x.toNat : Nat) : Int) = x := by have := h x hx; omega
 rw [← h2]
 exact Int.natCast_dvd_natCast.2 h1
theorem gcdI_div {l : List Int} (h : ∀ x ∈ l, 1 ≤ x) (hn : l ≠ []) : gcdI (divI (gcdI l) l) = 1 := by
 have hg := gcdI_pos h hn
 have h1 := gcdN_div (gcdI l) hg (l.map Int.toNat) (gcdN_dvd _)
 have e : (divI (gcdI l) l).map Int.toNat = (l.map Int.toNat).map (· / gcdI l) := by
  rw [divI, List.map_map, List.map_map]
  refine List.map_congr_left fun x hx => ?_
  have h2 : ((x.toNat : Nat) : Int) = x := by have := h x hx; omega
  simp only [Function.comp]
  conv => lhs; rw [← h2]
  rw [← Int.natCast_ediv, Int.toNat_natCast]
 show gcdN ((divI (gcdI l) l).map Int.toNat) = 1
 rw [e]
 have h3 : gcdN ((l.map Int.toNat).map (· / gcdI l)) * gcdI l = 1 * gcdI l := by rw [h1, Nat.one_mul]; rfl
 exact Nat.eq_of_mul_eq_mul_right hg h3
theorem divI_bd {l : List Int} (h : ∀ x ∈ l, 1 ≤ x ∧ x ≤ 1000) : ∀ x ∈ divI (gcdI l) l, 1 ≤ x ∧ x ≤ 1000 := fun y hy => by
 obtain ⟨x, hx, rfl⟩ := List.mem_map.1 hy
 have hd := gcdI_dvd (fun x hx => (h x hx).1) hx
 have hp := gcdI_pos (fun x hx => (h x hx).1) (fun e => by rw [e] at hx; cases hx)
 obtain ⟨q, rfl⟩ := hd
 have hb := h _ hx
 rw [Int.mul_ediv_cancel_left _ (by omega)]
 have hq : 1 ≤ q := by
  rcases Int.lt_or_le q 1 with h' | h'
  ·have : (gcdI l : Int) * q ≤ (gcdI l : Int) * 0 := Int.mul_le_mul_of_nonneg_left (by omega) (by omega)
   omega
  ·exact h'
 have : 1 * q ≤ (gcdI l : Int) * q := Int.mul_le_mul_of_nonneg_right (by omega) (by omega)
 omega
def plainT : LT → Bool
 | .mk kind _ _ _ kids _ => kind != 3 && kind != 4 && (kids.map plainT).all id
theorem plainT_eq (kind : Int) (item : ByteArray) (long many : Int) (kids : List LT) (shares : List Int) : plainT (.mk kind item long many kids shares) = (kind != 3 && kind != 4 && kids.all plainT) := by rw [plainT, List.all_map]; rfl
def WF : LT → Prop
 | .mk kind item long many kids shares => (1 ≤ kind ∧ kind ≤ 5) ∧ (kind = 1 → kids = [] ∧ shares = [] ∧ many = 0) ∧ (kind ≠ 1 → item = ⟨#[]⟩ ∧ long = 0 ∧ kids ≠ []) ∧ (kind = 5 → kids.length = 1 ∧ 1 ≤ many ∧ many ≤ 100) ∧ (kind ≠ 5 → many = 0) ∧
   (kind = 4 → shares.length = kids.length) ∧ (kind ≠ 4 → shares = []) ∧ (∀ x ∈ shares, 1 ≤ x ∧ x ≤ 1000) ∧ (NB long ∧ item.size ≤ 2) ∧ ∀ k ∈ kids, WF k
theorem WF_eq (kind : Int) (item : ByteArray) (long many : Int) (kids : List LT) (shares : List Int) : WF (.mk kind item long many kids shares) = ((1 ≤ kind ∧ kind ≤ 5) ∧ (kind = 1 → kids = [] ∧ shares = [] ∧ many = 0) ∧ (kind ≠ 1 → item = ⟨#[]⟩ ∧ long = 0 ∧ kids ≠ []) ∧ (kind = 5 → kids.length = 1 ∧ 1 ≤ many ∧ many ≤ 100) ∧ (kind ≠ 5 → many = 0) ∧
   (kind = 4 → shares.length = kids.length) ∧ (kind ≠ 4 → shares = []) ∧ (∀ x ∈ shares, 1 ≤ x ∧ x ≤ 1000) ∧ (NB long ∧ item.size ≤ 2) ∧ ∀ k ∈ kids, WF k) := by rw [WF]
def lv : LT → Nat
 | .mk _ _ _ _ kids _ => if kids.isEmpty then 1 else (kids.map lv).sum
theorem lv_eq (kind : Int) (item : ByteArray) (long many : Int) (kids : List LT) (shares : List Int) : lv (.mk kind item long many kids shares) = if kids.isEmpty then 1 else (kids.map lv).sum := by rw [lv]
open Classical in
noncomputable def stepT : LT → Option LT
 | .mk kind item long many kids shares =>
  if kind = 1 then none
  else if kind = 5 then if many = 1 then some (kids.getD 0 default) else if (kids.getD 0 default).kd = 5 ∧ many * (kids.getD 0 default).mn ≤ 100 then some (repK (many * (kids.getD 0 default).mn) (kids.getD 0 default).ks) else none
  else if kids.length = 1 then some (kids.getD 0 default)
  else if kind = 2 then if gath (flatT kids) = kids then none else some (rowT (gath (flatT kids)))
  else if kind = 4 then if 1 < gcdI shares then some (.mk 4 item long many kids (divI (gcdI shares) shares)) else none
  else if plainT (kids.getD 0 default) = true ∧ ∀ k ∈ kids, k = kids.getD 0 default then some (kids.getD 0 default) else none
def HS : LT → Prop
 | .mk kind item long many kids shares => stepT (.mk kind item long many kids shares) = none ∧ ∀ k ∈ kids, HS k
theorem HS_eq (kind : Int) (item : ByteArray) (long many : Int) (kids : List LT) (shares : List Int) : HS (.mk kind item long many kids shares) = (stepT (.mk kind item long many kids shares) = none ∧ ∀ k ∈ kids, HS k) := by rw [HS]
theorem HS.st {t : LT} (h : HS t) : stepT t = none := by cases t; rw [HS_eq] at h; exact h.1
theorem HS.kids {t : LT} (h : HS t) : ∀ k ∈ t.ks, HS k := by cases t; rw [HS_eq] at h; exact h.2
theorem WF.kids {t : LT} (h : WF t) : ∀ k ∈ t.ks, WF k := by cases t; rw [WF_eq] at h; exact h.2.2.2.2.2.2.2.2.2
theorem cnt_ok {t it : LT} {n : Int} (hw : WF t) (h : cnt t = some (it, n)) : it.kd = 1 ∧ WF it ∧ 1 ≤ n ∧ n ≤ 100 ∧ t.kd ≠ 2 := by
 cases t with
 | mk k i l m ks s =>
  rw [cnt_mk] at h
  rw [WF_eq] at hw
  obtain ⟨w1, w2, w3, w4, w5, w6, w7, w8, w9, w10⟩ := hw
  split at h
  ·rename_i h1
   simp only [Option.some.injEq, Prod.mk.injEq] at h
   obtain ⟨rfl, rfl⟩ := h
   exact ⟨h1, by rw [WF_eq]; exact ⟨w1, w2, w3, w4, w5, w6, w7, w8, w9, w10⟩, by omega, by omega, by simp only [LT.kd]; omega⟩
  ·split at h
   ·rename_i h1 h2
    simp only [Option.some.injEq, Prod.mk.injEq] at h
    obtain ⟨rfl, rfl⟩ := h
    have h3 := w4 h2.1
    refine ⟨h2.2, w10 _ ?_, h3.2.1, h3.2.2, by simp only [LT.kd]; omega⟩
    rw [List.getD_eq_getElem?_getD, List.getElem?_eq_getElem (by omega)]
    exact List.getElem_mem _
   ·cases h
theorem cnt_lv {t it : LT} {n : Int} (hw : WF t) (h : cnt t = some (it, n)) : lv t = 1 ∧ lv it = 1 := by
 cases t with
 | mk k i l m ks s =>
  have hok := cnt_ok hw h
  rw [cnt_mk] at h
  have hlv : ∀ u : LT, WF u → u.kd = 1 → lv u = 1 := fun u hu hk => by
   cases u with
   | mk k i l m ks s =>
    rw [WF_eq] at hu
    rw [lv_eq, (hu.2.1 hk).1]; rfl
  rw [WF_eq] at hw
  split at h
  ·rename_i h1
   simp only [Option.some.injEq, Prod.mk.injEq] at h
   obtain ⟨rfl, rfl⟩ := h
   exact ⟨hlv _ hok.2.1 h1, hlv _ hok.2.1 h1⟩
  ·split at h
   ·rename_i h1 h2
    simp only [Option.some.injEq, Prod.mk.injEq] at h
    obtain ⟨rfl, rfl⟩ := h
    have h3 := (hw.2.2.2.1 h2.1).1
    refine ⟨?_, hlv _ hok.2.1 h2.2⟩
    match ks, h3 with
    | [x], _ =>
     rw [lv_eq]
     simp only [List.isEmpty_cons, Bool.false_eq_true, if_false, List.map_cons, List.map_nil, List.sum_cons, List.sum_nil, Nat.add_zero]
     exact hlv _ hok.2.1 h2.2
   ·cases h
theorem runN_len (it : LT) : ∀ l : List LT, (runN it l).2 ≤ l.length
 | [] => Nat.le_refl _
 | x :: xs => by
  rw [runN]
  split
  ·split
   ·have := runN_len it xs; simp only [List.length_cons]; omega
   ·simp
  ·simp
theorem runN_bd (it : LT) : ∀ l : List LT, (∀ x ∈ l, WF x) → 0 ≤ (runN it l).1 ∧ (runN it l).1 ≤ 100 * (runN it l).2
 | [], _ => by simp [runN]
 | x :: xs, h => by
  rw [runN]
  have ih := runN_bd it xs fun y hy => h y (by simp [hy])
  cases hc : cnt x with
  | none => simp
  | some p =>
   obtain ⟨y, n⟩ := p
   have := cnt_ok (h x (by simp)) hc
   simp only
   split <;> (simp only; omega)
theorem runN_lv (it : LT) : ∀ l : List LT, (∀ x ∈ l, WF x) → ((l.take (runN it l).2).map lv).sum = (runN it l).2
 | [], _ => by simp [runN]
 | x :: xs, h => by
  rw [runN]
  have ih := runN_lv it xs fun y hy => h y (by simp [hy])
  cases hc : cnt x with
  | none => simp
  | some p =>
   obtain ⟨y, n⟩ := p
   have := cnt_lv (h x (by simp)) hc
   simp only
   split
   ·simp only [List.take_succ_cons, List.map_cons, List.sum_cons, ih, this.1]; omega
   ·simp
theorem manyT_len (it : LT) (n : Nat) (m : Nat) (h : n ≤ 100 * m) : (manyT it n).length ≤ m := by
 unfold manyT
 rw [List.length_append, List.length_replicate]
 split
 ·simp; omega
 ·split <;> (simp only [List.length_singleton]; omega)
theorem manyT_ne (it : LT) (n : Nat) (h : 1 ≤ n) : manyT it n ≠ [] := by
 unfold manyT
 intro e
 have := congrArg List.length e
 rw [List.length_append, List.length_replicate] at this
 split at this
 ·simp at this; omega
 ·split at this <;> simp at this
theorem manyT_mem {it x : LT} {n : Nat} (h : x ∈ manyT it n) : x = it ∨ ∃ m : Int, 2 ≤ m ∧ m ≤ 100 ∧ x = repK m [it] := by
 unfold manyT at h
 rcases List.mem_append.1 h with h | h
 ·exact .inr ⟨100, by omega, by omega, List.eq_of_mem_replicate h⟩
 ·split at h
  ·simp at h
  ·split at h
   ·simp at h; exact .inl h
   ·simp only [List.mem_singleton] at h; exact .inr ⟨_, by omega, by omega, h⟩
theorem repK_cnt {it : LT} (h : it.kd = 1) (m : Int) : cnt (repK m [it]) = some (it, m) := by
 simp only [cnt, repK, LT.kd, LT.hd, LT.ks, LT.mn, List.getD_cons_zero]
 rw [if_neg (by decide), if_pos ⟨trivial, h⟩]
theorem item_cnt {it : LT} (h : it.kd = 1) : cnt it = some (it, 1) := by rw [cnt, if_pos h]
theorem manyT_cnt {it : LT} (hk : it.kd = 1) {x : LT} {n : Nat} (h : x ∈ manyT it n) : ∃ m, cnt x = some (it, m) := by
 rcases manyT_mem h with rfl | ⟨m, _, _, rfl⟩
 ·exact ⟨1, item_cnt hk⟩
 ·exact ⟨m, repK_cnt hk m⟩
def HeadNot (it : LT) (l : List LT) : Prop := ∀ x xs, l = x :: xs → ∀ n, cnt x ≠ some (it, n)
theorem runN_stop {it : LT} {l : List LT} (h : HeadNot it l) : runN it l = (0, 0) := by
 cases l with
 | nil => rfl
 | cons x xs =>
  rw [runN]
  cases hc : cnt x with
  | none => rfl
  | some p =>
   obtain ⟨y, n⟩ := p
   simp only
   rw [if_neg]
   intro e
   subst e
   exact h x xs rfl n hc
theorem runN_rest (it : LT) : ∀ l : List LT, HeadNot it (l.drop (runN it l).2)
 | [] => by intro x xs h; simp at h
 | y :: ys => by
  rw [runN]
  cases hc : cnt y with
  | none => intro x xs h n hn; simp at h; obtain ⟨rfl, _⟩ := h; rw [hc] at hn; cases hn
  | some p =>
   obtain ⟨z, n⟩ := p
   simp only
   split
   ·simpa using runN_rest it ys
   ·rename_i hne
    intro x xs h m hm
    simp at h
    obtain ⟨rfl, _⟩ := h
    rw [hc] at hm
    simp only [Option.some.injEq, Prod.mk.injEq] at hm
    exact hne hm.1
theorem runN_rep {it : LT} (hk : it.kd = 1) (R : List LT) (h : HeadNot it R) : ∀ (q : Nat) (T : List LT) (s : Int), (runN it (T ++ R) = (s, T.length)) → runN it (List.replicate q (repK 100 [it]) ++ T ++ R) = (100 * q + s, q + T.length)
 | 0, T, s, hT => by simp [hT]
 | q + 1, T, s, hT => by
  rw [List.replicate_succ, List.cons_append, List.cons_append, runN, repK_cnt hk]
  simp only [if_true, runN_rep hk R h q T s hT, Prod.mk.injEq]
  omega
theorem runN_many {it : LT} (hk : it.kd = 1) (R : List LT) (h : HeadNot it R) (n : Nat) : runN it (manyT it n ++ R) = ((n : Int), (manyT it n).length) := by
 unfold manyT
 have hT : ∀ T : List LT, T = (if n % 100 = 0 then [] else if n % 100 = 1 then [it] else [repK (n % 100 : Nat) [it]]) → runN it (T ++ R) = (((n % 100 : Nat) : Int), T.length) := by
  intro T hT
  split at hT
  ·subst hT; simp only [List.nil_append, runN_stop h, List.length_nil]; simp; omega
  ·split at hT
   ·subst hT
    rename_i h1
    simp only [List.cons_append, List.nil_append, runN, item_cnt hk, if_true, runN_stop h, List.length_singleton, Prod.mk.injEq]
    exact ⟨by rw [h1]; rfl, trivial⟩
   ·subst hT
    simp only [List.cons_append, List.nil_append, runN, repK_cnt hk, if_true, runN_stop h, List.length_singleton, Prod.mk.injEq]
    exact ⟨Int.add_zero _, trivial⟩
 generalize hTT : (if n % 100 = 0 then [] else if n % 100 = 1 then [it] else [repK (n % 100 : Nat) [it]]) = T
 rw [runN_rep hk R h _ _ _ (hT T hTT.symm)]
 rw [List.length_append, List.length_replicate, Prod.mk.injEq]
 omega
theorem gath_many {it : LT} (hk : it.kd = 1) (R : List LT) (h : HeadNot it R) (n : Nat) (hn : 1 ≤ n) : gath (manyT it n ++ R) = manyT it n ++ gath R := by
 cases hm : manyT it n with
 | nil => exact absurd hm (manyT_ne it n hn)
 | cons x xs =>
  obtain ⟨m, hc⟩ := manyT_cnt hk (n := n) (x := x) (by rw [hm]; simp)
  have hr := runN_many hk R h n
  rw [hm, List.cons_append, runN, hc] at hr
  simp only [if_true, Prod.mk.injEq, List.length_cons] at hr
  rw [List.cons_append, gath_some _ hc, hr.1]
  have h2 : (runN it (xs ++ R)).2 = xs.length := by omega
  rw [h2, List.drop_left, Int.toNat_natCast, hm, List.cons_append]
theorem gath_head : ∀ (f : Nat) (l : List LT), l.length ≤ f → (∀ x ∈ l, WF x) → ∀ it, HeadNot it l → HeadNot it (gath l)
 | _, [], _, _, it, h => by rw [gath_nil]; exact h
 | 0, _ :: _, hl, _, _, _ => by simp at hl
 | f + 1, x :: xs, hl, hw, it, h => by
  cases hc : cnt x with
  | none =>
   rw [gath_none xs hc]
   intro y ys e n hn
   simp only [List.cons.injEq] at e
   rw [← e.1, hc] at hn; cases hn
  | some p =>
   obtain ⟨it2, n2⟩ := p
   have hok := cnt_ok (hw x (by simp)) hc
   have hb := runN_bd it2 xs fun y hy => hw y (by simp [hy])
   rw [gath_some xs hc]
   cases hm : manyT it2 (n2 + (runN it2 xs).1).toNat with
   | nil => exact absurd hm (manyT_ne _ _ (by omega))
   | cons z zs =>
    intro y ys e n hn
    simp only [List.cons_append, List.cons.injEq] at e
    obtain ⟨m, hz⟩ := manyT_cnt hok.1 (x := z) (by rw [hm]; simp)
    rw [← e.1, hz] at hn
    simp only [Option.some.injEq, Prod.mk.injEq] at hn
    exact h x xs rfl n2 (by rw [hc, hn.1])
theorem gath_gath : ∀ (f : Nat) (l : List LT), l.length ≤ f → (∀ x ∈ l, WF x) → gath (gath l) = gath l
 | _, [], _, _ => rfl
 | 0, _ :: _, hl, _ => by simp at hl
 | f + 1, x :: xs, hl, hw => by
  simp only [List.length_cons] at hl
  cases hc : cnt x with
  | none => rw [gath_none xs hc, gath_none _ hc, gath_gath f xs (by omega) fun y hy => hw y (by simp [hy])]
  | some p =>
   obtain ⟨it, n⟩ := p
   have hok := cnt_ok (hw x (by simp)) hc
   have hb := runN_bd it xs fun y hy => hw y (by simp [hy])
   have hw2 : ∀ y ∈ xs.drop (runN it xs).2, WF y := fun y hy => hw y (by simp [List.mem_of_mem_drop hy])
   rw [gath_some xs hc, gath_many hok.1 _ (gath_head _ _ (Nat.le_refl _) hw2 it (runN_rest it xs)) _ (by omega), gath_gath f _ (by simp; omega) hw2]
theorem gath_all {p : LT → Prop} (hp : ∀ it, it.kd = 1 → WF it → p it ∧ ∀ m : Int, 2 ≤ m → m ≤ 100 → p (repK m [it])) : ∀ (f : Nat) (l : List LT), l.length ≤ f → (∀ x ∈ l, WF x) → (∀ x ∈ l, cnt x = none → p x) → ∀ x ∈ gath l, p x
 | _, [], _, _, _, x, hx => by simp [gath_nil] at hx
 | 0, _ :: _, hl, _, _, _, _ => by simp at hl
 | f + 1, y :: ys, hl, hw, ha, x, hx => by
  simp only [List.length_cons] at hl
  cases hc : cnt y with
  | none =>
   rw [gath_none ys hc] at hx
   rcases List.mem_cons.1 hx with rfl | hx
   ·exact ha x (by simp) hc
   ·exact gath_all hp f ys (by omega) (fun y hy => hw y (by simp [hy])) (fun y hy => ha y (by simp [hy])) x hx
  | some q =>
   obtain ⟨it, n⟩ := q
   have hok := cnt_ok (hw y (by simp)) hc
   rw [gath_some ys hc] at hx
   rcases List.mem_append.1 hx with hx | hx
   ·rcases manyT_mem hx with rfl | ⟨m, h1, h2, rfl⟩
    ·exact (hp _ hok.1 hok.2.1).1
    ·exact (hp _ hok.1 hok.2.1).2 m h1 h2
   ·exact gath_all hp f _ (by simp; omega) (fun y hy => hw y (by simp [List.mem_of_mem_drop hy])) (fun y hy => ha y (by simp [List.mem_of_mem_drop hy])) x hx
theorem gath_ne {l : List LT} (hw : ∀ x ∈ l, WF x) (h : l ≠ []) : gath l ≠ [] := by
 cases l with
 | nil => exact absurd rfl h
 | cons y ys =>
  cases hc : cnt y with
  | none => rw [gath_none ys hc]; simp
  | some q =>
   obtain ⟨it, n⟩ := q
   have hok := cnt_ok (hw y (by simp)) hc
   have hb := runN_bd it ys fun y hy => hw y (by simp [hy])
   rw [gath_some ys hc]
   intro e
   exact manyT_ne it _ (by omega) (List.append_eq_nil_iff.1 e).1
theorem manyT_lv {it : LT} (h1 : lv it = 1) (n : Nat) : ((manyT it n).map lv).sum = (manyT it n).length := by
 have : ∀ l : List LT, (∀ x ∈ l, lv x = 1) → (l.map lv).sum = l.length := fun l => by
  induction l with
  | nil => intro _; rfl
  | cons x xs ih => intro h; rw [List.map_cons, List.sum_cons, h x (by simp), ih fun y hy => h y (by simp [hy]), List.length_cons]; omega
 refine this _ fun x hx => ?_
 rcases manyT_mem hx with rfl | ⟨m, _, _, rfl⟩
 ·exact h1
 ·rw [repK, lv_eq]; simp [h1]
theorem gath_lv : ∀ (f : Nat) (l : List LT), l.length ≤ f → (∀ x ∈ l, WF x) → ((gath l).map lv).sum ≤ (l.map lv).sum
 | _, [], _, _ => by rw [gath_nil]; exact Nat.le_refl _
 | 0, _ :: _, hl, _ => by simp at hl
 | f + 1, y :: ys, hl, hw => by
  simp only [List.length_cons] at hl
  cases hc : cnt y with
  | none =>
   have := gath_lv f ys (by omega) fun y hy => hw y (by simp [hy])
   rw [gath_none ys hc, List.map_cons, List.map_cons, List.sum_cons, List.sum_cons]; omega
  | some q =>
   obtain ⟨it, n⟩ := q
   have hok := cnt_ok (hw y (by simp)) hc
   have hlv := cnt_lv (hw y (by simp)) hc
   have hb := runN_bd it ys fun y hy => hw y (by simp [hy])
   have hr := runN_lv it ys fun y hy => hw y (by simp [hy])
   have ih := gath_lv f (ys.drop (runN it ys).2) (by simp; omega) fun y hy => hw y (by simp [List.mem_of_mem_drop hy])
   have e : (ys.map lv).sum = ((ys.take (runN it ys).2).map lv).sum + ((ys.drop (runN it ys).2).map lv).sum := by
    conv => lhs; rw [← List.take_append_drop (runN it ys).2 ys]
    rw [List.map_append, List.sum_append]
   have hm := manyT_len it (n + (runN it ys).1).toNat ((runN it ys).2 + 1) (by omega)
   rw [gath_some ys hc, List.map_append, List.sum_append, manyT_lv hlv.2, List.map_cons, List.sum_cons, e, hlv.1, hr]
   omega
open Classical in
theorem stepT_mk (kind : Int) (item : ByteArray) (long many : Int) (kids : List LT) (shares : List Int) : stepT (.mk kind item long many kids shares) = 
  if kind = 1 then none
  else if kind = 5 then if many = 1 then some (kids.getD 0 default) else if (kids.getD 0 default).kd = 5 ∧ many * (kids.getD 0 default).mn ≤ 100 then some (repK (many * (kids.getD 0 default).mn) (kids.getD 0 default).ks) else none
  else if kids.length = 1 then some (kids.getD 0 default)
  else if kind = 2 then if gath (flatT kids) = kids then none else some (rowT (gath (flatT kids)))
  else if kind = 4 then if 1 < gcdI shares then some (.mk 4 item long many kids (divI (gcdI shares) shares)) else none
  else if plainT (kids.getD 0 default) = true ∧ ∀ k ∈ kids, k = kids.getD 0 default then some (kids.getD 0 default) else none := rfl
theorem flatT_wf {l : List LT} (h : ∀ k ∈ l, WF k) : ∀ x ∈ flatT l, WF x := fun x hx => by
 obtain ⟨k, hk, hxk⟩ := List.mem_flatMap.1 hx
 split at hxk
 ·exact (h k hk).kids x hxk
 ·rw [List.mem_singleton.1 hxk]; exact h k hk
theorem flatT_hs {l : List LT} (h : ∀ k ∈ l, HS k) : ∀ x ∈ flatT l, HS x := fun x hx => by
 obtain ⟨k, hk, hxk⟩ := List.mem_flatMap.1 hx
 split at hxk
 ·exact (h k hk).kids x hxk
 ·rw [List.mem_singleton.1 hxk]; exact h k hk
theorem lv_ks {t : LT} (h : t.ks ≠ []) : lv t = (t.ks.map lv).sum := by
 cases t with
 | mk k i l m ks s =>
  rw [lv_eq]
  cases ks with
  | nil => exact absurd rfl h
  | cons x xs => rfl
theorem WF.ne {t : LT} (h : WF t) (hk : t.kd ≠ 1) : t.ks ≠ [] := by
 cases t; rw [WF_eq] at h; exact (h.2.2.1 hk).2.2
theorem lv_pos : ∀ t : LT, WF t → 1 ≤ lv t
 | .mk k i l m ks s, h => by
  rw [lv_eq]
  cases ks with
  | nil => exact Nat.le_refl _
  | cons x xs =>
   have := lv_pos x (h.kids x (List.mem_cons_self ..))
   simp only [List.isEmpty_cons, Bool.false_eq_true, if_false, List.map_cons, List.sum_cons]
   omega
theorem sum_lv_len : ∀ {l : List LT}, (∀ x ∈ l, WF x) → l.length ≤ (l.map lv).sum
 | [], _ => Nat.le_refl _
 | x :: xs, h => by
  have := lv_pos x (h x (by simp))
  have ih := sum_lv_len fun y hy => h y (List.mem_cons_of_mem x hy)
  rw [List.map_cons, List.sum_cons, List.length_cons]; omega
theorem ks_len {t : LT} (h : WF t) : t.ks.length ≤ lv t := by
 by_cases e : t.ks = []
 ·rw [e]; simp
 ·rw [lv_ks e]; exact sum_lv_len h.kids
theorem lv_kid {t k : LT} (h : k ∈ t.ks) : lv k ≤ lv t := by
 rw [lv_ks (List.ne_nil_of_mem h)]
 have : ∀ l : List LT, k ∈ l → lv k ≤ (l.map lv).sum := fun l => by
  induction l with
  | nil => intro h; cases h
  | cons x xs ih =>
   intro h
   rw [List.map_cons, List.sum_cons]
   rcases List.mem_cons.1 h with rfl | h
   ·omega
   ·have := ih h; omega
 exact this _ h
theorem flatT_lv : ∀ {l : List LT}, (∀ k ∈ l, WF k) → ((flatT l).map lv).sum = (l.map lv).sum
 | [], _ => rfl
 | x :: xs, h => by
  have ih := flatT_lv fun y hy => h y (List.mem_cons_of_mem x hy)
  rw [show flatT (x :: xs) = (if x.kd = 2 then x.ks else [x]) ++ flatT xs from rfl, List.map_append, List.sum_append, ih, List.map_cons, List.sum_cons]
  congr 1
  split
  ·rename_i h2
   rw [lv_ks ((h x (by simp)).ne (by omega))]
  ·simp
theorem flatT_ne {l : List LT} (h : ∀ k ∈ l, WF k) (hn : l ≠ []) : flatT l ≠ [] := by
 cases l with
 | nil => exact absurd rfl hn
 | cons x xs =>
  rw [show flatT (x :: xs) = (if x.kd = 2 then x.ks else [x]) ++ flatT xs from rfl]
  intro e
  have e1 := (List.append_eq_nil_iff.1 e).1
  split at e1
  ·rename_i h2
   exact (h x (by simp)).ne (by omega) e1
  ·cases e1
theorem flatT_id : ∀ {l : List LT}, (∀ k ∈ l, k.kd ≠ 2) → flatT l = l
 | [], _ => rfl
 | x :: xs, h => by
  rw [show flatT (x :: xs) = (if x.kd = 2 then x.ks else [x]) ++ flatT xs from rfl, if_neg (h x (by simp)), flatT_id fun y hy => h y (by simp [hy])]
  rfl
theorem gath_norow {l : List LT} (hw : ∀ x ∈ l, WF x) (h : ∀ x ∈ l, x.kd ≠ 2) : ∀ x ∈ gath l, x.kd ≠ 2 :=
 gath_all (p := fun x => x.kd ≠ 2) (fun it h1 _ => ⟨by omega, fun m _ _ => by simp [repK, LT.kd]⟩) _ l (Nat.le_refl _) hw fun x hx _ => h x hx
theorem norow : ∀ t : LT, HS t → WF t → t.kd = 2 → ∀ k ∈ t.ks, k.kd ≠ 2
 | .mk kind i l m ks s, hh, hw, hk => by
  have ih : ∀ r ∈ ks, r.kd = 2 → ∀ q ∈ r.ks, q.kd ≠ 2 := fun r hr h2 => norow r (hh.kids r hr) (hw.kids r hr) h2
  have hst := hh.st
  obtain rfl : kind = 2 := hk
  rw [stepT_mk, if_neg (by decide), if_neg (by decide)] at hst
  split at hst
  ·cases hst
  ·rw [if_pos rfl] at hst
   split at hst
   ·rename_i hg
    have hw2 := flatT_wf (l := ks) hw.kids
    have hf : ∀ x ∈ flatT ks, x.kd ≠ 2 := fun x hx => by
     obtain ⟨k, hk2, hxk⟩ := List.mem_flatMap.1 hx
     split at hxk
     ·rename_i h2; exact ih k hk2 h2 x hxk
     ·rename_i h2; rw [List.mem_singleton.1 hxk]; exact h2
    intro k hk2
    have h3 := gath_norow hw2 hf
    rw [hg] at h3
    exact h3 k hk2
   ·cases hst
noncomputable def fixT : Nat → LT → LT
 | 0, t => t
 | n + 1, t => match stepT t with
  | none => t
  | some v => fixT n v
theorem fix_none {t : LT} (h : stepT t = none) : ∀ n, fixT n t = t
 | 0 => rfl
 | n + 1 => by rw [fixT, h]
theorem fix_some {t v : LT} (h : stepT t = some v) (n : Nat) : fixT (n + 1) t = fixT n v := by rw [fixT, h]
def GoodN (N : Nat) : Nat → LT → Prop
 | 0, t => (WF t ∧ lv t ≤ N) ∧ stepT t = none
 | n + 1, t => (WF t ∧ lv t ≤ N) ∧ ∀ v, stepT t = some v → GoodN N n v
theorem good_none {N : Nat} {t : LT} (hw : WF t) (hl : lv t ≤ N) (h : stepT t = none) : ∀ n, GoodN N n t
 | 0 => ⟨⟨hw, hl⟩, h⟩
 | n + 1 => ⟨⟨hw, hl⟩, fun v hv => by rw [h] at hv; cases hv⟩
def Res (t : LT) : Prop := HS (fixT 2 t) ∧ WF (fixT 2 t) ∧ lv (fixT 2 t) ≤ lv t ∧ ∀ N, lv t ≤ N → GoodN N 2 t
theorem lres0 {t : LT} (hw : WF t) (hk : ∀ k ∈ t.ks, HS k) (h : stepT t = none) : Res t := by
 rw [Res, fix_none h]
 refine ⟨?_, hw, Nat.le_refl _, fun N hN => good_none hw hN h 2⟩
 cases t; rw [HS_eq]; exact ⟨h, hk⟩
theorem lres1 {t v : LT} (hw : WF t) (h : stepT t = some v) (hv : HS v) (hwv : WF v) (hl : lv v ≤ lv t) : Res t := by
 rw [Res, fix_some h, fix_none hv.st]
 exact ⟨hv, hwv, hl, fun N hN => ⟨⟨hw, hN⟩, fun u hu => by rw [h] at hu; cases hu; exact good_none hwv (by omega) hv.st 1⟩⟩
theorem lres2 {t v u : LT} (hw : WF t) (h : stepT t = some v) (hwv : WF v) (hl : lv v ≤ lv t) (h2 : stepT v = some u) (hu : HS u) (hwu : WF u) (hl2 : lv u ≤ lv v) : Res t := by
 rw [Res, fix_some h, fix_some h2]
 exact ⟨hu, hwu, Nat.le_trans hl2 hl, fun N hN => ⟨⟨hw, hN⟩, fun x hx => by
  rw [h] at hx; cases hx
  exact ⟨⟨hwv, by omega⟩, fun y hy => by rw [h2] at hy; cases hy; exact good_none hwu (by omega) hu.st 0⟩⟩⟩
theorem item_hs {it : LT} (hk : it.kd = 1) (hw : WF it) : HS it := by
 cases it with
 | mk k i l m ks s =>
  obtain rfl : k = 1 := hk
  rw [WF_eq] at hw
  rw [HS_eq, stepT_mk, if_pos rfl, (hw.2.1 rfl).1]
  exact ⟨rfl, fun k hk => by cases hk⟩
theorem rep_ok {it : LT} (hk : it.kd = 1) (hw : WF it) (m : Int) (h1 : 2 ≤ m) (h2 : m ≤ 100) : HS (repK m [it]) ∧ WF (repK m [it]) := by
 constructor
 ·rw [repK, HS_eq, stepT_mk, if_neg (by decide), if_pos rfl, if_neg (by omega), if_neg (by
   rintro ⟨h, _⟩
   simp only [List.getD_cons_zero] at h
   omega)]
  exact ⟨rfl, fun k hk2 => by rw [List.mem_singleton.1 hk2]; exact item_hs hk hw⟩
 ·rw [repK, WF_eq]
  refine ⟨by omega, by omega, fun _ => ⟨rfl, rfl, by simp⟩, fun _ => ⟨rfl, by omega, h2⟩, fun h => absurd rfl h, by omega, fun _ => rfl, by simp, ⟨by unfold NB; omega, by decide⟩, fun k hk2 => by rw [List.mem_singleton.1 hk2]; exact hw⟩
theorem getD0_mem {l : List LT} (h : l ≠ []) : l.getD 0 default ∈ l := by
 cases l with
 | nil => exact absurd rfl h
 | cons x xs => exact List.mem_cons_self ..
theorem fix_ok : ∀ t : LT, WF t → (∀ k ∈ t.ks, HS k) → Res t
 | .mk kind item long many kids shares, hw0, hk => by
  have hk' : ∀ k ∈ kids, HS k := hk
  have hwk : ∀ k ∈ kids, WF k := hw0.kids
  obtain ⟨w1, w2, w3, w4, w5, w6, w7, w8, w9, w10⟩ := (WF_eq ..).mp hw0
  by_cases h1 : kind = 1
  ·exact lres0 hw0 hk (by rw [stepT_mk, if_pos h1])
  have hne : kids ≠ [] := (w3 h1).2.2
  have hm := getD0_mem hne
  have hlk : ∀ k ∈ kids, lv k ≤ lv (.mk kind item long many kids shares) := fun k hk => lv_kid (t := .mk kind item long many kids shares) hk
  by_cases h5 : kind = 5
  ·obtain ⟨l1, m1, m2⟩ := w4 h5
   by_cases hm1 : many = 1
   ·exact lres1 hw0 (by rw [stepT_mk, if_neg h1, if_pos h5, if_pos hm1]) (hk' _ hm) (hwk _ hm) (hlk _ hm)
   ·by_cases hc : (kids.getD 0 default).kd = 5 ∧ many * (kids.getD 0 default).mn ≤ 100
    ·have hst : stepT (.mk kind item long many kids shares) = some (repK (many * (kids.getD 0 default).mn) (kids.getD 0 default).ks) := by rw [stepT_mk, if_neg h1, if_pos h5, if_neg hm1, if_pos hc]
     have hs0 := hk' _ hm
     have hw1 := hwk _ hm
     have hl1 := hlk _ hm
     generalize kids.getD 0 default = k at *
     cases k with
     | mk k2 i2 l2 m3 ks2 s2 =>
      obtain ⟨c1, c2⟩ := hc
      obtain rfl : k2 = 5 := c1
      simp only [LT.mn, LT.ks] at hst c2
      obtain ⟨v1, v2, v3, v4, v5, v6, v7, v8, v9, v10⟩ := (WF_eq ..).mp hw1
      obtain ⟨q1, q2, q3⟩ := v4 rfl
      have hst2 := hs0.st
      rw [stepT_mk, if_neg (by decide), if_pos rfl] at hst2
      split at hst2
      ·cases hst2
      rename_i hm3
      split at hst2
      ·cases hst2
      rename_i hc3
      have hp1 : 2 * 2 ≤ many * m3 := Int.mul_le_mul (by omega) (by omega) (by omega) (by omega)
      have hmem2 := getD0_mem (l := ks2) (by intro e; rw [e] at q1; cases q1)
      have hw3 : WF (repK (many * m3) ks2) := by
       rw [repK, WF_eq]
       exact ⟨by omega, by omega, fun _ => ⟨rfl, rfl, by intro e; rw [e] at q1; cases q1⟩, fun _ => ⟨q1, by omega, c2⟩, fun h => absurd rfl h, by omega, fun _ => rfl, by simp, ⟨by unfold NB; omega, by decide⟩, v10⟩
      refine lres1 hw0 hst ?_ hw3 ?_
      ·rw [repK, HS_eq, stepT_mk, if_neg (by decide), if_pos rfl, if_neg (by omega), if_neg]
       ·exact ⟨rfl, hs0.kids⟩
       ·rintro ⟨h, h'⟩
        refine hc3 ⟨h, ?_⟩
        have hk6 := v10 _ hmem2
        generalize ks2.getD 0 default = z at *
        cases z with
        | mk k7 i7 l7 m7 ks7 s7 =>
         obtain rfl : k7 = 5 := h
         have hz := ((WF_eq ..).mp hk6).2.2.2.1 rfl
         simp only [LT.mn] at h' ⊢
         have h9 : 0 ≤ m3 * m7 := Int.mul_nonneg (by omega) (by omega)
         have h10 : 1 * (m3 * m7) ≤ many * (m3 * m7) := Int.mul_le_mul_of_nonneg_right (by omega) h9
         rw [Int.mul_assoc] at h'
         omega
      ·refine Nat.le_trans (Nat.le_of_eq ?_) hl1
       rw [repK, lv_eq, lv_eq]
    ·exact lres0 hw0 hk (by rw [stepT_mk, if_neg h1, if_pos h5, if_neg hm1, if_neg hc])
  by_cases hone : kids.length = 1
  ·exact lres1 hw0 (by rw [stepT_mk, if_neg h1, if_neg h5, if_pos hone]) (hk' _ hm) (hwk _ hm) (hlk _ hm)
  by_cases h2 : kind = 2
  ·by_cases hg : gath (flatT kids) = kids
   ·exact lres0 hw0 hk (by rw [stepT_mk, if_neg h1, if_neg h5, if_neg hone, if_pos h2, if_pos hg])
   ·have hst : stepT (.mk kind item long many kids shares) = some (rowT (gath (flatT kids))) := by rw [stepT_mk, if_neg h1, if_neg h5, if_neg hone, if_pos h2, if_neg hg]
    have hfw := flatT_wf hwk
    have hfn : ∀ x ∈ flatT kids, x.kd ≠ 2 := fun x hx => by
     obtain ⟨k, hk2, hxk⟩ := List.mem_flatMap.1 hx
     split at hxk
     ·rename_i h2; exact norow k (hk' k hk2) (hwk k hk2) h2 x hxk
     ·rename_i h2; rw [List.mem_singleton.1 hxk]; exact h2
    have hfh := flatT_hs hk'
    have hgn := gath_norow hfw hfn
    have hgg := gath_gath _ (flatT kids) (Nat.le_refl _) hfw
    have hgne := gath_ne hfw (flatT_ne hwk hne)
    have hgl := gath_lv _ (flatT kids) (Nat.le_refl _) hfw
    rw [flatT_lv hwk] at hgl
    have hall := gath_all (p := fun x => HS x ∧ WF x) (fun it a b => ⟨⟨item_hs a b, b⟩, fun m x y => rep_ok a b m x y⟩) _ (flatT kids) (Nat.le_refl _) hfw fun x hx _ => ⟨hfh x hx, hfw x hx⟩
    generalize gath (flatT kids) = g at *
    have hfg := flatT_id hgn
    have hwv : WF (rowT g) := by
     rw [rowT, WF_eq]
     exact ⟨by omega, by omega, fun _ => ⟨rfl, rfl, hgne⟩, by omega, fun _ => rfl, by omega, fun _ => rfl, by simp, ⟨by unfold NB; omega, by decide⟩, fun k hk => (hall k hk).2⟩
    have hlv : lv (rowT g) ≤ lv (.mk kind item long many kids shares) := by
     rw [lv_ks (t := rowT g) hgne, lv_ks (t := .mk kind item long many kids shares) hne]
     exact hgl
    have hgm := getD0_mem hgne
    by_cases hg1 : g.length = 1
    ·exact lres2 hw0 hst hwv hlv (u := g.getD 0 default) (by rw [rowT, stepT_mk, if_neg (by decide), if_neg (by decide), if_pos hg1]) (hall _ hgm).1 (hall _ hgm).2 (lv_kid (t := rowT g) hgm)
    ·refine lres1 hw0 hst ?_ hwv hlv
     rw [rowT, HS_eq, stepT_mk, if_neg (by decide), if_neg (by decide), if_neg hg1, if_pos rfl, hfg, hgg, if_pos rfl]
     exact ⟨rfl, fun k hk => (hall k hk).1⟩
  by_cases h4 : kind = 4
  ·by_cases hg : 1 < gcdI shares
   ·have hst : stepT (.mk kind item long many kids shares) = some (.mk 4 item long many kids (divI (gcdI shares) shares)) := by rw [stepT_mk, if_neg h1, if_neg h5, if_neg hone, if_neg h2, if_pos h4, if_pos hg]
    have hsn : shares ≠ [] := fun e => hne (List.eq_nil_of_length_eq_zero (by rw [← w6 h4, e]; rfl))
    refine lres1 hw0 hst ?_ ?_ ?_
    ·rw [HS_eq, stepT_mk, if_neg (by decide), if_neg (by decide), if_neg hone, if_neg (by decide), if_pos rfl, if_neg (by rw [gcdI_div (fun x hx => (w8 x hx).1) hsn]; omega)]
     exact ⟨rfl, hk'⟩
    ·rw [WF_eq]
     exact ⟨by omega, by omega, fun _ => w3 h1, by omega, fun _ => w5 h5, fun _ => by rw [divI, List.length_map]; exact w6 h4, by omega, divI_bd w8, w9, w10⟩
    ·rw [lv_eq, lv_eq]; exact Nat.le_refl _
   ·exact lres0 hw0 hk (by rw [stepT_mk, if_neg h1, if_neg h5, if_neg hone, if_neg h2, if_pos h4, if_neg hg])
  by_cases hs : plainT (kids.getD 0 default) = true ∧ ∀ k ∈ kids, k = kids.getD 0 default
  ·exact lres1 hw0 (by rw [stepT_mk, if_neg h1, if_neg h5, if_neg hone, if_neg h2, if_neg h4, if_pos hs]) (hk' _ hm) (hwk _ hm) (hlk _ hm)
  ·exact lres0 hw0 hk (by rw [stepT_mk, if_neg h1, if_neg h5, if_neg hone, if_neg h2, if_neg h4, if_neg hs])
noncomputable def leastF : LT → LT
 | .mk kind item long many kids shares => fixT 2 (.mk kind item long many (kids.map leastF) shares)
theorem leastF_eq (kind : Int) (item : ByteArray) (long many : Int) (kids : List LT) (shares : List Int) : leastF (.mk kind item long many kids shares) = fixT 2 (.mk kind item long many (kids.map leastF) shares) := by rw [leastF]
theorem least_ok : ∀ t : LT, WF t → HS (leastF t) ∧ WF (leastF t) ∧ lv (leastF t) ≤ lv t
 | .mk kind item long many kids shares, hw => by
  have ih : ∀ k ∈ kids, HS (leastF k) ∧ WF (leastF k) ∧ lv (leastF k) ≤ lv k := fun k hk => least_ok k (hw.kids k hk)
  have hw2 : WF (.mk kind item long many (kids.map leastF) shares) := by
   obtain ⟨w1, w2, w3, w4, w5, w6, w7, w8, w9, w10⟩ := (WF_eq ..).mp hw
   rw [WF_eq]
   refine ⟨w1, fun h => by rw [(w2 h).1]; exact ⟨rfl, (w2 h).2⟩, fun h => ⟨(w3 h).1, (w3 h).2.1, fun e => (w3 h).2.2 (List.map_eq_nil_iff.1 e)⟩, fun h => by rw [List.length_map]; exact w4 h, w5, fun h => by rw [List.length_map]; exact w6 h, w7, w8, w9, fun k hk => ?_⟩
   obtain ⟨k2, h2, rfl⟩ := List.mem_map.1 hk
   exact (ih k2 h2).2.1
  have hr := fix_ok _ hw2 fun k hk => by
   obtain ⟨k2, h2, rfl⟩ := List.mem_map.1 hk
   exact (ih k2 h2).1
  rw [leastF_eq]
  refine ⟨hr.1, hr.2.1, Nat.le_trans hr.2.2.1 ?_⟩
  rw [lv_eq, lv_eq]
  have h3 : ∀ l : List LT, (∀ k ∈ l, lv (leastF k) ≤ lv k) → ((l.map leastF).map lv).sum ≤ (l.map lv).sum := fun l => by
   induction l with
   | nil => intro _; exact Nat.le_refl _
   | cons x xs ih => intro h; simp only [List.map_cons, List.sum_cons]; have := ih fun k hk => h k (by simp [hk]); have := h x (by simp); omega
  cases kids with
  | nil => exact Nat.le_refl _
  | cons x xs => exact h3 _ fun k hk => (ih k hk).2.2
theorem least_good {kind : Int} {item : ByteArray} {long many : Int} {kids : List LT} {shares : List Int} {N : Nat} (hw : WF (.mk kind item long many kids shares)) (hN : lv (.mk kind item long many kids shares) ≤ N) : GoodN N 2 (.mk kind item long many (kids.map leastF) shares) := by
 have ih : ∀ k ∈ kids, HS (leastF k) ∧ WF (leastF k) ∧ lv (leastF k) ≤ lv k := fun k hk => least_ok k (hw.kids k hk)
 have hw2 : WF (.mk kind item long many (kids.map leastF) shares) := by
  obtain ⟨w1, w2, w3, w4, w5, w6, w7, w8, w9, w10⟩ := (WF_eq ..).mp hw
  rw [WF_eq]
  refine ⟨w1, fun h => by rw [(w2 h).1]; exact ⟨rfl, (w2 h).2⟩, fun h => ⟨(w3 h).1, (w3 h).2.1, fun e => (w3 h).2.2 (List.map_eq_nil_iff.1 e)⟩, fun h => by rw [List.length_map]; exact w4 h, w5, fun h => by rw [List.length_map]; exact w6 h, w7, w8, w9, fun k hk => ?_⟩
  obtain ⟨k2, h2, rfl⟩ := List.mem_map.1 hk
  exact (ih k2 h2).2.1
 refine (fix_ok _ hw2 fun k hk => by
  obtain ⟨k2, h2, rfl⟩ := List.mem_map.1 hk
  exact (ih k2 h2).1).2.2.2 N (Nat.le_trans ?_ hN)
 rw [lv_eq, lv_eq]
 have h3 : ∀ l : List LT, (∀ k ∈ l, lv (leastF k) ≤ lv k) → ((l.map leastF).map lv).sum ≤ (l.map lv).sum := fun l => by
  induction l with
  | nil => intro _; exact Nat.le_refl _
  | cons x xs ih => intro h; simp only [List.map_cons, List.sum_cons]; have := ih fun k hk => h k (by simp [hk]); have := h x (by simp); omega
 cases kids with
 | nil => exact Nat.le_refl _
 | cons x xs => exact h3 _ fun k hk => (ih k hk).2.2
end Go.Proofs.YtidkkmoiolffnaaGreatDoor
