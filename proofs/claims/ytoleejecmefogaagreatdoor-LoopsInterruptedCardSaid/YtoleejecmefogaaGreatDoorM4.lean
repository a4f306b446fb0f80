/- loop.Lost. -/
import Derived.Test.YtoleejecmefogaaGreatDoorM3
import Derived.Test.YtoleejecmefogaaGreatDoorShelf
import Derived.Deep.DeepCutAuto
import Derived.Deep.LoopGhost
import Derived.Test.YtoleejecmefogaaGreatDoorCards
import Derived.Test.YtoleejecmefogaaGreatDoorTie
import Derived.ProofKit
import Derived.OpenShut
import Derived.LaidMore
import Derived.Lay
import Derived.Stop.Joined
namespace Go.Proofs.YtoleejecmefogaaGreatDoor
open Go
set_option linter.unusedVariables false
set_option linter.unusedSimpArgs false
open Nat renaming reduceAdd → nA, reduceSub → nB, reduceMul → nC, reduceLT → nD, reduceLeDiff → nE, reduceEqDiff → nF, reduceMod → nG, reduceDiv → nH, reducePow → nI
abbrev zM40 : Option Tmp → Nat := mdL [(22, 1), (23, 1)]
abbrev zM41 : Option Tmp → Nat := mdL []
abbrev zM42 : Option Tmp → Nat := mdL [(2, 1), (3, 1)]
abbrev zM43 : Option Tmp → Nat := mdL [(4, 1), (6, 1), (22, 2)]
attribute [go_sem] zM40 zM41 zM42 zM43
abbrev zP1HE : List Nat := [0, 1, 2, 3, 5, 6, 7, 8]
abbrev zP1HP : List (Nat × List Nat × List Nat) := [(4, [8], []), (9, [], [10, 11])]
attribute [go_sem] zP1HE zP1HP
set_option maxRecDepth 100000
set_option maxHeartbeats 8000000
theorem g_playedNil (d : Nat) (t : LT) (w0 w1 m : Int) (h : Hp) (hb : KC d t) (hd : manyF t ≤ 1000000000000000 ∧ d ≤ 1000) :
  ACalls Tryz.prog 95 [.agg (encL t), .agg [.v (.int .i64 w0), .v (.int .i64 w1)], .v (.slice none 0 0), .v (.int .i64 m)] h
   (fun r h'' => ∃ h', PlyR d t [] w0 w1 m r h' ∧ (∀ i, h.H i ≠ none → h''.H i = h.H i) ∧ (∀ i, h'.H i ≠ none → h''.H i = h'.H i) ∧ h''.T = h'.T) :=
 ((g_played d t [] w0 w1 m ⟨fun _ => none, fun _ => none⟩ hb hd (by simp) (by simp)).weakArgs (args' := [.agg (encL t), .agg [.v (.int .i64 w0), .v (.int .i64 w1)], .v (.slice none 0 0), .v (.int .i64 m)]) rfl (fun j a b => by
  match j, a with
  | 0, _ => exact Weak.refl _
  | 1, _ => exact Weak.refl _
  | 2, _ => exact Weak.nil 3 0 0 ⟨rfl, rfl⟩
  | 3, _ => exact Weak.refl _)).frame h
theorem g_sumsF (A : List Pl) (ka : Option Nat) (h : Hp) (hp : Pos (ofPl A)) (hl : A.length ≤ 3000) :
  ACalls Tryz.prog 99 [.row 4 (A.map encP) ka] h (fun r h'' => ∃ m ks f, r = .map m ∧ TalI h'' m (ofPl A) ((ofPl A).map (·.1)) ks f ∧ Ext h h'') := by
 refine ((g_sums A ka ⟨fun _ => none, fun _ => none⟩ hp hl).frame h).mono ?_
 rintro r h'' ⟨h', ⟨m, ks, f, rfl, hT⟩, e1, e2, _⟩
 exact ⟨m, ks, f, rfl, hT.ext e2, e1⟩
def LostR (d : Nat) (t : LT) (bs : List Wn) (w0 w1 m : Int) (r : AV) : Prop :=
 (plyE d t bs w0 w1 m ≠ 0 → r = .tup [.row 5 [] none, .v (.int .i64 (plyE d t bs w0 w1 m))]) ∧
 (plyE d t bs w0 w1 m = 0 → ∀ U O, runE (rdS d t) w0 w1 m (cutF w0 w1 bs) (0, longA (rdS d t) 0) w0 = U → runE (rdS d t) w0 w1 m [] (0, longA (rdS d t) 0) w0 = O →
  r = if U.length ≤ 3000 ∧ O.length ≤ 3000 then .tup [.row 5 (((onceS ((rdS d t).map (·.1))).filterMap (lostK (ownP U) (allP O))).map encLo) none, .v (.int .i64 0)] else .tup [.row 5 [] none, .v (.int .i64 2)])
theorem plyE_nil {d : Nat} {t : LT} {bs : List Wn} {w0 w1 m : Int} (h : plyE d t bs w0 w1 m = 0) : plyE d t [] w0 w1 m = 0 := by
 have h2 : brkE bs = 0 := by
  unfold plyE at h
  by_cases h1 : faultF t = 0
  ·by_cases h2 : brkE bs = 0
   ·exact h2
   ·simp [orI, h1, h2] at h
  ·simp [orI, h1] at h
 have h3 : brkE [] = 0 := by simp [brkE, brkL]
 unfold plyE at h ⊢
 rwa [h2] at h
 done
theorem g_Lost (d : Nat) (t : LT) (bs : List Wn) (w0 w1 m : Int) (h : Hp) (hb : KC d t) (hd : manyF t ≤ 1000000000000000 ∧ d ≤ 1000) (hbs : ∀ x ∈ bs, WOk x) (hbl : bs.length ≤ 1000) :
  ACalls Tryz.prog 47 [.agg (encL t), .agg [.v (.int .i64 w0), .v (.int .i64 w1)], .row 3 (bs.map encW) none, .v (.int .i64 m)] h (fun r _ => LostR d t bs w0 w1 m r) := by
 have hlen := encL_len t
 have htk : List.take 6 (encL t) = encL t := List.take_of_length_le (Nat.le_of_eq hlen)
 have hdk : List.drop 6 (encL t) = [] := List.drop_of_length_le (Nat.le_of_eq hlen)
 have hpn := fun h => g_playedNil d t w0 w1 m h hb hd
 refine gE Tryz.func47 rfl (by kernel_rfl) 119 rfl fun c => ?_
 (repeat (first | refine gO rfl ?_ | ((refine gM zM40 fun K1 hK1 => ?_; simp only [go_sem, ↓reduceIte, reduceCtorEq, nA, nB, nC, nD, nE, nF, hlen, htk, hdk] <;> and_intros <;> first | (apply hK1; clear hK1 K1) | skip))))
 refine (g_played d t bs w0 w1 m _ hb hd hbs hbl).mono ?_
 rintro r h2 ⟨p1, p2⟩
 refine hK1 _ ?_; clear hK1 K1
 have hok := fun e => plyE_ok (d := d) (t := t) (bs := bs) (w0 := w0) (w1 := w1) (m := m) hb e
 unfold LostR
 by_cases he : plyE d t bs w0 w1 m = 0
 ·obtain ⟨hg, ⟨hbk, hbl5⟩, hw, hm⟩ := hok he
  have hen := plyE_nil he
  obtain ⟨U, hU⟩ : ∃ U, runE (rdS d t) w0 w1 m (cutF w0 w1 bs) (0, longA (rdS d t) 0) w0 = U := ⟨_, rfl⟩
  obtain ⟨O, hO⟩ : ∃ O, runE (rdS d t) w0 w1 m [] (0, longA (rdS d t) 0) w0 = O := ⟨_, rfl⟩
  have hR := run_facts hg hw.2.1 hw.1 hbk hU
  have hRO := run_facts (bs := []) hg hw.2.1 hw.1 trivial hO
  obtain ⟨hA1, hA2, hA3⟩ := run_all hO
  obtain ⟨q1, q2⟩ := p2 he U hU
  rw [hU, hO, he]
  clear p1 p2 hok
  by_cases hl : 3000 < U.length
  ·rw [q1 hl]
   clear q1 q2 hpn
   (repeat (first | refine gO rfl ?_ | ((refine gM zM40 fun K1 hK1 => ?_; simp only [go_sem, ↓reduceIte, reduceCtorEq, nA, nB, nC, nD, nE, nF] <;> and_intros <;> (apply hK1; clear hK1 K1)))))
   refine awp_cond (t := _) rfl (fun _ => ?_) (fun h9 => by cases h9)
   (repeat (first | refine gO rfl ?_ | ((refine gM zM40 fun K1 hK1 => ?_; simp only [go_sem, ↓reduceIte, reduceCtorEq, nA, nB, nC, nD, nE, nF] <;> and_intros <;> (apply hK1; clear hK1 K1)))))
   simp only [Tryz.results47, go_sem, ↓reduceIte, reduceCtorEq, nA, nB, nC, nD, nE, nF]
   exact ⟨_, _, Weak.tup1 (Weak.nil 5 0 0 ⟨rfl, rfl⟩) (Weak.refl _), Hp.le.refl _, fun h9 => absurd trivial h9, fun _ _ e e2 => by subst e e2; rw [if_neg (by omega)]⟩
  ·obtain ⟨i, ka, kb, s, half, n, rfl, hp⟩ := q2 (by omega)
   clear q1 q2
   (repeat (first | refine gO rfl ?_ | ((refine gM zM40 fun K1 hK1 => ?_; simp only [go_sem, ↓reduceIte, reduceCtorEq, nA, nB, nC, nD, nE, nF] <;> and_intros <;> (apply hK1; clear hK1 K1)))))
   refine awp_cond (t := _) rfl (fun h9 => by cases h9) (fun _ => ?_)
   (repeat (first | refine gO rfl ?_ | ((refine gM zM40 fun K1 hK1 => ?_; simp only [go_sem, ↓reduceIte, reduceCtorEq, nA, nB, nC, nD, nE, nF, hlen, htk, hdk] <;> and_intros))))
   refine (hpn _).mono ?_
   rintro r h3 ⟨h3', ⟨_, p2⟩, x1, x2, _⟩
   refine hK1 _ ?_; clear hK1 K1 hpn
   obtain ⟨q1, q2⟩ := p2 hen O hO
   clear p2
   by_cases hl2 : 3000 < O.length
   ·rw [q1 hl2]
    clear q1 q2
    (repeat (first | refine gO rfl ?_ | ((refine gM zM40 fun K1 hK1 => ?_; simp only [go_sem, ↓reduceIte, reduceCtorEq, nA, nB, nC, nD, nE, nF] <;> and_intros <;> (apply hK1; clear hK1 K1)))))
    refine awp_cond (t := _) rfl (fun _ => ?_) (fun h9 => by cases h9)
    (repeat (first | refine gO rfl ?_ | ((refine gM zM40 fun K1 hK1 => ?_; simp only [go_sem, ↓reduceIte, reduceCtorEq, nA, nB, nC, nD, nE, nF] <;> and_intros <;> (apply hK1; clear hK1 K1)))))
    simp only [Tryz.results47, go_sem, ↓reduceIte, reduceCtorEq, nA, nB, nC, nD, nE, nF]
    exact ⟨_, _, Weak.tup1 (Weak.nil 5 0 0 ⟨rfl, rfl⟩) (Weak.refl _), Hp.le.refl _, fun h9 => absurd trivial h9, fun _ _ e e2 => by subst e e2; rw [if_neg (by omega)]⟩
   ·obtain ⟨i2, ka2, kb2, s2, half2, n2, rfl, hp2⟩ := q2 (by omega)
    clear q1 q2
    have hp3 := (x1 i (by rw [hp]; simp)).trans hp
    have hp4 := (x2 i2 (by rw [hp2]; simp)).trans hp2
    have hol := ownF_len U
    have hol2 := ownF_len O
    have hs1 := fun h => g_sumsF (ownF U) (some ka) h hR.own (by omega)
    have hs2 := fun h => g_sumsF (ownF O) (some ka2) h hRO.own (by omega)
    clear hp hp2 x1 x2
    unfold plC at hp3 hp4
    (repeat (first | refine gO rfl ?_ | ((refine gM zM40 fun K1 hK1 => ?_; simp only [go_sem, ↓reduceIte, reduceCtorEq, nA, nB, nC, nD, nE, nF] <;> and_intros <;> (apply hK1; clear hK1 K1)))))
    refine awp_cond (t := _) rfl (fun h9 => by cases h9) (fun _ => ?_)
    (repeat (first | refine gO rfl ?_ | ((first | refine gM zM40 ?_ | ((with_reducible refine xS ?_); refine uD 7 zM40 zP1HE zP1HP 123 rfl (by kernel_rfl) ?_)) <;> ((try with_reducible intro K1 hK1); simp only [go_sem, ↓reduceIte, reduceCtorEq, nA, nB, nC, nD, nE, nF, hp3, hp4] <;> and_intros <;> first | (apply hK1; clear hK1 K1) | skip))))
    refine (hs1 _).mono ?_
    rintro _ h4 ⟨m1, ks1, f1, rfl, hT1, x3⟩
    refine hK1 _ ?_; clear hK1 K1
    have hp5 := x3.at hp4
    have hp6 := x3.at hp3
    (repeat ((((with_reducible refine wM ?_ ?_)) <;> ((try with_reducible intro K1 hK1); simp only [go_sem, ↓reduceIte, reduceCtorEq, nA, nB, nC, nD, nE, nF, hp5, hp6] <;> and_intros <;> first | (apply hK1; clear hK1 K1) | (intros; (decide)) | skip))))
    ·rfl
    ·rfl
    (repeat (((refine gM zM40 fun K1 hK1 => ?_; simp only [go_sem, ↓reduceIte, reduceCtorEq, nA, nB, nC, nD, nE, nF, hp5, hp6] <;> and_intros))))
    refine (hs2 _).mono ?_
    rintro _ h5 ⟨m2, ks2, f2, rfl, hT2, x4⟩
    refine hK1 _ ?_; clear hK1 K1
    have hT1 := hT1.ext x4
    clear x3 x4 hp3 hp4 hp5 hp6 hs1 hs2
    (repeat (first | refine gO rfl ?_ | ((first | refine gM zM40 ?_ | (with_reducible refine wM ?_ ?_)) <;> ((try with_reducible intro K1 hK1); simp only [go_sem, ↓reduceIte, reduceCtorEq, nA, nB, nC, nD, nE, nF] <;> and_intros <;> first | (apply hK1; clear hK1 K1) | skip))))
    intro mi hmi
    refine hK1 _ ?_; clear hK1 K1
    have r0 : [[AV.map m1], [AV.map m2]].getD 0 [] = [AV.map m1] := rfl
    have r1 : [[AV.map m1], [AV.map m2]].getD 1 [] = [AV.map m2] := rfl
    have rl2 : [[AV.map m1], [AV.map m2]].length = 2 := rfl
    have hN1 : ∀ k, k ∈ (ptrsL f1 ks1).map (·.1) ↔ k ∈ (ownP U).map (·.1) := fun k => by rw [ptrs_fst]; exact hT1.mem k
    have hN2 : ∀ k, k ∈ (ptrsL f2 ks2).map (·.1) ↔ k ∈ (ownP O).map (·.1) := fun k => by rw [ptrs_fst]; exact hT2.mem k
    have hM1 := hT1.map
    have hM2 := hT2.map
    generalize hes1 : ptrsL f1 ks1 = es1 at hN1 hM1
    generalize hes2 : ptrsL f2 ks2 = es2 at hN2 hM2
    generalize hN1' : (ownP U).map (·.1) = N1 at hN1
    generalize hN2' : (ownP O).map (·.1) = N2 at hN2
    (repeat (first | refine gO rfl ?_ | ((refine gM zM40 fun K1 hK1 => ?_; simp only [go_sem, ↓reduceIte, reduceCtorEq, nA, nB, nC, nD, nE, nF] <;> and_intros <;> first | (apply hK1; clear hK1 K1) | (intros; (decide))))))
    generalize [[AV.map m1], [AV.map m2]] = R at r0 r1 rl2 ⊢
    have hx0 : Ext h5 ⟨upd h5.H mi (some (.map [])), h5.T⟩ := fun x hx => upd_other _ _ (fun e => hx (by rw [e]; exact hmi))
    refine awp_loopC (rl false [13, 3, 44, 3, 60]) 0 (fun g s => ∃ (j : Nat) (ei : List (ByteArray × AV)) (h6 : Hp), g + j = 2 ∧ Ext h5 h6 ∧ h6.H mi = some (.map ei) ∧ (∀ k, k ∈ ei.map (·.1) ↔ (0 < j ∧ k ∈ N1) ∨ (1 < j ∧ k ∈ N2)) ∧ (ei.map (·.1)).Nodup ∧
     s = ⟨((jnk 13 ((.map m1) :: (.map m2) :: (.map mi) :: (jnk 44 ((.row 1 R none) :: (.v (.int .i64 2)) :: (.v (.int .i64 j)) :: (jnk 60 [])))))), [], h6⟩) 2 ⟨0, [], _, rfl, hx0, upd_same _ _ _, fun k => by simp, by simp, rfl⟩ ?_
    rintro g _ ⟨j, ei, h6, hj, hx, hmi6, hei, hnd, rfl⟩
    (repeat (first | refine gO rfl ?_ | ((refine gM zM40 fun K1 hK1 => ?_; simp only [go_sem, ↓reduceIte, reduceCtorEq, nA, nB, nC, nD, nE, nF] <;> and_intros <;> (apply hK1; clear hK1 K1)))))
    refine awp_cond (t := _) rfl (fun h1 => ?_) (fun h1 => ?_)
    ·simp only [decide_eq_true_eq] at h1
     have hmE : ∃ m' es ns, R.getD j [] = [AV.map m'] ∧ h5.H m' = some (.map es) ∧ (∀ k, k ∈ es.map (·.1) ↔ k ∈ ns) ∧ (j = 0 ∧ ns = N1 ∨ j = 1 ∧ ns = N2) := by
      have hjc : j = 0 ∨ j = 1 := by omega
      rcases hjc with rfl | rfl
      ·exact ⟨m1, es1, N1, r0, hM1, hN1, .inl ⟨rfl, rfl⟩⟩
      ·exact ⟨m2, es2, N2, r1, hM2, hN2, .inr ⟨rfl, rfl⟩⟩
     obtain ⟨m', es, ns, gx, hMm, hNm, hns⟩ := hmE
     have hMm6 := hx.at hMm
     have hjl : j < R.length := by omega
     have hmm : m' ≠ mi := fun e => by rw [e, hmi] at hMm; cases hMm
     (repeat (first | refine gO rfl ?_ | ((refine gM zM40 fun K1 hK1 => ?_; simp only [go_sem, ↓reduceIte, reduceCtorEq, nA, nB, nC, nD, nE, nF, Int.toNat_natCast, gx, rl2, hMm6] <;> and_intros <;> first | (apply hK1; clear hK1 K1) | (intros; (omega)) | skip))))
     rintro it born clock hit ⟨b1, b2, b3, b4⟩
     refine hK1 _ ?_; clear hK1 K1
     have him : it ≠ m' := fun e => by rw [e, hMm6] at hit; cases hit
     have himi : it ≠ mi := fun e => by rw [e, hmi6] at hit; cases hit
     (repeat ((refine gO rfl ?_)))
     refine awp_loopC (rl false [13, 3, 44, 3, 4, 1, 55]) 0 (fun g2 s => ∃ (seen : Array Nat) (ei2 : List (ByteArray × AV)) (h7 : Hp), g2 = unseenN born seen ∧ (∀ x, x ≠ m' → h5.H x ≠ none → h7.H x = h5.H x) ∧ h7.H m' = some (.mapS es born clock) ∧ h7.H it = some (.iter m' clock seen clock) ∧ h7.H mi = some (.map ei2) ∧
       (∀ k, k ∈ ei2.map (·.1) ↔ k ∈ ei.map (·.1) ∨ seenK es born seen k) ∧ (ei2.map (·.1)).Nodup ∧
      s = ⟨((jnk 13 ((.map m1) :: (.map m2) :: (.map mi) :: (jnk 44 ((.row 1 R none) :: (.v (.int .i64 2)) :: (.v (.int .i64 j)) :: (jnk 4 ((.ptr it 0) :: (jnk 55 [])))))))), [], h7⟩) (unseenN born #[])
      ⟨#[], ei, _, rfl, fun x hxm hx5 => ?_, (upd_other _ _ (Ne.symm him)).trans (upd_same _ _ _), upd_same _ _ _, ((upd_other _ _ (Ne.symm himi)).trans (upd_other _ _ (Ne.symm hmm))).trans hmi6, fun k => ⟨.inl, fun h9 => h9.resolve_right (seenK_none _ _ _)⟩, hnd, rfl⟩ ?_
     ·have hxi : x ≠ it := fun e => by
       have := hx x hx5
       rw [e, hit] at this
       rw [e] at hx5
       exact hx5 this.symm
      exact ((upd_other _ _ hxi).trans (upd_other _ _ hxm)).trans (hx x hx5)
     rintro g2 _ ⟨seen, ei2, h7, rfl, hx7, hm7, hi7, hmi7, hei2, hnd2, rfl⟩
     (repeat (((refine gM zM40 fun K1 hK1 => ?_; simp only [go_sem, ↓reduceIte, reduceCtorEq, nA, nB, nC, nD, nE, nF, hi7, hm7] <;> and_intros <;> first | (intros; (omega)) | skip))))
     ·exact b4
     ·intro hall
      refine hK1 _ ?_; clear hK1 K1
      refine awp_unS m' hm7 ?_
      refine awp_seq ?_
      refine awp_cond (t := _) rfl (fun h9 => by cases h9) (fun _ => ?_)
      (repeat (first | refine gO rfl ?_ | ((refine gM zM40 fun K1 hK1 => ?_; simp only [go_sem, ↓reduceIte, reduceCtorEq, nA, nB, nC, nD, nE, nF] <;> and_intros <;> first | (apply hK1; clear hK1 K1) | (intros; (omega))))))
      refine ⟨g - 1, by omega, j + 1, ei2, _, by omega, fun x hx5 => ?_, (upd_other _ _ (Ne.symm hmm)).trans hmi7, fun k => ?_, hnd2, rfl⟩
      ·by_cases e : x = m'
       ·rw [e]
        exact (upd_same _ _ _).trans hMm.symm
       ·exact (upd_other _ _ e).trans (hx7 x e hx5)
      ·rw [hei2, hei, seenK_all b1 hall, hNm]
       rcases hns with ⟨rfl, rfl⟩ | ⟨rfl, rfl⟩ <;> simp
     ·rintro jj ⟨hjj, hsn⟩
      refine hK1 _ ?_; clear hK1 K1
      have hit5 : h5.H it = none := by
       cases e : h5.H it with
       | none => rfl
       | some o => have := hx.at e; rw [hit] at this; cases this
      have hbj : born.getD jj 0 ∈ born := by
       rw [List.getD_eq_getElem?_getD, List.getElem?_eq_getElem (by omega)]
       exact List.getElem_mem _
      have hm8 : ∀ X, upd h7.H it X m' = some (AO.mapS es born clock) := fun X => (upd_other _ _ (Ne.symm him)).trans hm7
      have hi8 : ∀ X, upd h7.H it X it = X := fun X => upd_same _ _ _
      have hmi8 : ∀ X, upd h7.H it X mi = some (AO.map ei2) := fun X => (upd_other _ _ (Ne.symm himi)).trans hmi7
      have hbk9 : (seen.push (born.getD jj 0)).back? = some (born.getD jj 0) := by simp
      (repeat ((refine gO rfl ?_)))
      refine awp_cond (t := _) rfl (fun _ => ?_) (fun h9 => by cases h9)
      (repeat (first | refine gO rfl ?_ | ((refine gM zM40 fun K1 hK1 => ?_; simp only [go_sem, ↓reduceIte, reduceCtorEq, nA, nB, nC, nD, nE, nF, hm8, hi8] <;> and_intros))))
      refine ⟨jj, ⟨hjj, hbk9⟩, hK1 _ ?_⟩; clear hK1 K1
      (repeat (first | refine gO rfl ?_ | ((refine gM zM40 fun K1 hK1 => ?_; simp only [go_sem, ↓reduceIte, reduceCtorEq, nA, nB, nC, nD, nE, nF, hmi8] <;> and_intros <;> (apply hK1; clear hK1 K1)))))
      refine ⟨_, unseen_push hbj hsn, seen.push (born.getD jj 0), mset (es.getD jj default).1 (.v (.bool true)) ei2, _, rfl, fun x hxm hx5 => ?_, (upd_other _ _ hmm).trans (hm8 _), (upd_other _ _ himi).trans (hi8 _), upd_same _ _ _, fun k => ?_, mset_nodup _ _ _ hnd2, rfl⟩
      ·have h1i : x ≠ it := fun e => hx5 (by rw [e]; exact hit5)
       have h1m : x ≠ mi := fun e => hx5 (by rw [e]; exact hmi)
       exact ((upd_other _ _ h1m).trans (upd_other _ _ h1i)).trans (hx7 x hxm hx5)
      ·rw [mset_mem, hei2, seenK_push hjj b1 b2]
       constructor
       ·rintro (h9 | h9 | h9)
        ·exact .inr (.inl h9)
        ·exact .inl h9
        ·exact .inr (.inr h9)
       ·rintro (h9 | h9 | h9)
        ·exact .inr (.inl h9)
        ·exact .inl h9
        ·exact .inr (.inr h9)
    ·simp only [decide_eq_false_iff_not] at h1
     have hj2 : j = 2 := by omega
     subst hj2
     have hT1 := hT1.ext hx
     have hT2 := hT2.ext hx
     have hmem : ∀ k, k ∈ ei.map (·.1) ↔ k ∈ N1 ++ N2 := fun k => by rw [hei, List.mem_append]; simp
     have hl1 : N1.length ≤ 3000 := by rw [← hN1', List.length_map]; have := ownP_len U; omega
     have hl3 : N2.length ≤ 3000 := by rw [← hN2', List.length_map]; have := ownP_len O; omega
     have hsz : ∀ k ∈ ei.map (·.1), k.size ≤ 1000000 := fun k hk => by
      have hin : k ∈ (rdS d t).map (·.1) := by
       rcases List.mem_append.1 ((hmem k).1 hk) with h9 | h9
       ·rw [← hN1'] at h9
        obtain ⟨x, hx9, rfl⟩ := List.mem_map.1 h9
        exact hR.item x hx9
       ·rw [← hN2'] at h9
        obtain ⟨x, hx9, rfl⟩ := List.mem_map.1 h9
        exact hRO.item x hx9
      obtain ⟨x, hx9, rfl⟩ := List.mem_map.1 hin
      have := hg.item x hx9
      omega
     have hel : ei.length ≤ 100000 := by
      have h9 := nodup_len (ei.map (·.1)) (N1 ++ N2) hnd (fun k hk => (hmem k).1 hk)
      rw [List.length_map, List.length_append] at h9
      omega
     clear hei hnd hj h1 hx0 r0 r1 rl2 hM1 hM2 hN1 hN2
     (repeat (first | refine gQ rfl ?_ | ((refine gM zM40 fun K1 hK1 => ?_; simp only [go_sem, ↓reduceIte, reduceCtorEq, nA, nB, nC, nD, nE, nF] <;> and_intros <;> (apply hK1; clear hK1 K1)))))
     refine awp_seq ?_
     refine awp_own 19 5 rfl ⟨rfl, rfl⟩ (fun kk hkk => ?_)
     (repeat (((refine gM zM40 fun K1 hK1 => ?_; simp only [go_sem, ↓reduceIte, reduceCtorEq, nA, nB, nC, nD, nE, nF] <;> and_intros))))
     refine (g_keysB mi _).mono ?_
     rintro _ h7 ⟨ib, hib, rfl, rfl⟩
     refine hK1 _ ?_; clear hK1 K1
     replace hib : h6.H ib = none := hib
     have hibm : ib ≠ mi := fun e => by rw [e, hmi6] at hib; cases hib
     (repeat (((refine gM zM40 fun K1 hK1 => ?_; simp only [go_sem, ↓reduceIte, reduceCtorEq, nA, nB, nC, nD, nE, nF] <;> and_intros))))
     refine (g_sortedB ib mi ei (N1 ++ N2) _ (upd_same _ _ _) ((upd_other _ _ (Ne.symm hibm)).trans hmi6) hmem hsz hel).mono ?_; rintro _ hz ⟨rfl, hh⟩; apply hK1; clear hK1 K1; rw [hh]; clear hh hz
     have hx8 : ∀ T, Ext h6 ⟨upd h6.H ib (some (.cells [.map mi])), T⟩ := fun T x hx => upd_other _ _ (fun e => hx (by rw [e]; exact hib))
     have hT1 : ∀ T, TalI ⟨upd h6.H ib (some (.cells [.map mi])), T⟩ m1 (ownP U) ((ownP U).map (·.1)) ks1 f1 := fun T => hT1.ext (hx8 T)
     have hT2 : ∀ T, TalI ⟨upd h6.H ib (some (.cells [.map mi])), T⟩ m2 (allP O) ((allP O).map (·.1)) ks2 f2 := fun T => by rw [← hA1]; exact hT2.ext (hx8 T)
     have hsame : (onceS (N1 ++ N2)).filterMap (lostK (ownP U) (allP O)) = (onceS ((rdS d t).map (·.1))).filterMap (lostK (ownP U) (allP O)) := lost_same (fun k => by rw [List.mem_append, hN1', ← hA1, hN2']) (fun k hk => by
      rcases List.mem_append.1 hk with h9 | h9
      ·rw [← hN1'] at h9
       obtain ⟨x, hx9, rfl⟩ := List.mem_map.1 h9
       exact hR.item x hx9
      ·rw [← hN2'] at h9
       obtain ⟨x, hx9, rfl⟩ := List.mem_map.1 h9
       exact hRO.item x hx9)
     have hNl : (onceS (N1 ++ N2)).length ≤ 6000 := by
      have h9 := onceS_len (N1 ++ N2)
      rw [List.length_append] at h9
      omega
     have hpU := hR.own
     have hpO : Pos (allP O) := by rw [← hA1]; exact hRO.own
     have hUl : (ownP U).length ≤ 3000 := by have := ownP_len U; omega
     have hOl : (allP O).length ≤ 3000 := by rw [allP_len]; omega
     clear hx8 hmem hsz hel hN1' hN2' hl1 hl3 hkk hibm hib hmi6 hx
     generalize upd h6.H ib (some (AO.cells [.map mi])) = H8 at *
     generalize onceS (N1 ++ N2) = N at *
     (repeat (first | refine gO rfl ?_ | ((refine gM zM40 fun K1 hK1 => ?_; simp only [go_sem, ↓reduceIte, reduceCtorEq, nA, nB, nC, nD, nE, nF, List.length_map] <;> and_intros <;> (apply hK1; clear hK1 K1)))))
     refine awp_loopC (rl false [13, 2, 4, 1, 57, 3, 43]) 0 (fun g s => ∃ (j : Nat) (T9 : Nat → Option TO), g + j = N.length ∧ T9 kk = some (.tail ((N.take j).filterMap (lostK (ownP U) (allP O))).length) ∧
      s = ⟨((jnk 13 ((.map m1) :: (.map m2) :: (jnk 4 ((.row 5 (((N.take j).filterMap (lostK (ownP U) (allP O))).map encLo) (some kk)) :: (jnk 57 ((.row 1 (N.map encS) none) :: (.v (.int .i64 N.length)) :: (.v (.int .i64 j)) :: (jnk 43 [])))))))), [], ⟨H8, T9⟩⟩) N.length ⟨0, _, by omega, upd_same _ _ _, rfl⟩ ?_
     rintro g _ ⟨j, T9, hj, hT9, rfl⟩
     have hlo : (((N.take j).filterMap (lostK (ownP U) (allP O))).map encLo).length = ((N.take j).filterMap (lostK (ownP U) (allP O))).length := List.length_map _
     have hlb : ((N.take j).filterMap (lostK (ownP U) (allP O))).length ≤ 6000 := by
      have h1 := List.length_filterMap_le (lostK (ownP U) (allP O)) (N.take j)
      have h2 := List.length_take_le j N
      omega
     (repeat (first | refine gO rfl ?_ | ((refine gM zM40 fun K1 hK1 => ?_; simp only [go_sem, ↓reduceIte, reduceCtorEq, nA, nB, nC, nD, nE, nF] <;> and_intros <;> (apply hK1; clear hK1 K1)))))
     refine awp_cond (t := _) rfl (fun h1 => ?_) (fun h1 => ?_)
     ·simp only [decide_eq_true_eq] at h1
      have hjl : j < N.length := by omega
      have gx : (N.map encS).getD j [] = encS (N.getD j default) := getD_enc encS N j default hjl
      have tx : (N.take (j + 1)).filterMap (lostK (ownP U) (allP O)) = (N.take j).filterMap (lostK (ownP U) (allP O)) ++ (lostK (ownP U) (allP O) (N.getD j default)).toList := by
       rw [take_snoc N j default hjl, List.filterMap_append, filterMap_one]
      generalize N.getD j default = q at gx tx
      generalize (N.take j).filterMap (lostK (ownP U) (allP O)) = L at *
      have hq1 : ((cntF (allP O) q : Nat) : Int) ≤ 3000 := by have := cntF_le (allP O) q; omega
      have hq2 : ((cntF (ownP U) q : Nat) : Int) ≤ 3000 := by have := cntF_le (ownP U) q; omega
      have hq3 := longF_bd hpO q
      have hq4 := longF_bd hpU q
      unfold lostK at tx
      have hin2 : q ∈ ks2 → H8 (f2 q) = some (.cells [.v (.int .i64 (cntF (allP O) q : Nat)), .v (.int .i64 (longF (allP O) q))]) := fun hq => (hT2 T9).cell q hq
      have hin1 : q ∈ ks1 → H8 (f1 q) = some (.cells [.v (.int .i64 (cntF (ownP U) q : Nat)), .v (.int .i64 (longF (ownP U) q))]) := fun hq => (hT1 T9).cell q hq
      have hno2 : q ∉ ks2 → ((cntF (allP O) q : Nat) : Int) = 0 ∧ longF (allP O) q = 0 := fun hq => by
       obtain ⟨z1, z2⟩ := longF_zero (fun e => hq (((hT2 T9).mem q).2 e))
       rw [z1, z2]; exact ⟨rfl, rfl⟩
      have hno1 : q ∉ ks1 → ((cntF (ownP U) q : Nat) : Int) = 0 ∧ longF (ownP U) q = 0 := fun hq => by
       obtain ⟨z1, z2⟩ := longF_zero (fun e => hq (((hT1 T9).mem q).2 e))
       rw [z1, z2]; exact ⟨rfl, rfl⟩
      have hM1 : H8 m1 = some (.map (ptrsL f1 ks1)) := (hT1 T9).map
      have hM2 : H8 m2 = some (.map (ptrsL f2 ks2)) := (hT2 T9).map
      have hg1 := mget_ptrs f1 ks1 q
      have hg2 := mget_ptrs f2 ks2 q
      clear hT1 hT2 hpU hpO
      have hq5 : (0 : Int) ≤ (cntF (allP O) q : Nat) := by omega
      have hq6 : (0 : Int) ≤ (cntF (ownP U) q : Nat) := by omega
      generalize ((cntF (allP O) q : Nat) : Int) = cO at *
      generalize ((cntF (ownP U) q : Nat) : Int) = cW at *
      generalize longF (allP O) q = lO at *
      generalize longF (ownP U) q = lW at *
      (repeat ((refine gQ rfl ?_)))
      refine awp_seq ?_
      refine awp_block ?_
      (repeat (first | refine gQ rfl ?_ | ((refine gM zM40 fun K1 hK1 => ?_; simp only [go_sem, ↓reduceIte, reduceCtorEq, nA, nB, nC, nD, nE, nF, Int.toNat_natCast, gx, encS, List.length_map, hjl] <;> and_intros <;> first | (apply hK1; clear hK1 K1) | (intros; (omega))))))
      refine awp_seq ?_
      refine awp_join (rl false [13, 2, 4, 1, 1, 3, 53, 3, 43]) 2 (fun s => s = ⟨((jnk 13 ((.map m1) :: (.map m2) :: (jnk 4 ((.row 5 (L.map encLo) (some kk)) :: AV.junk :: ((.v (.string q)) :: (.loc 0 0) :: (.loc 1 0) :: (jnk 53 ((.row 1 (N.map encS) none) :: (.v (.int .i64 N.length)) :: (.v (.int .i64 j)) :: (jnk 43 []))))))))), [[.v (.int .i64 cO), .v (.int .i64 lO)], [.v (.int .i64 0), .v (.int .i64 0)]], ⟨H8, T9⟩⟩) ?_ ?_
      ·by_cases hq : q ∈ ks2
       ·have hC := hin2 hq
        have hG := hg2.1 hq
        clear hin1 hin2 hno1 hno2 hg1 hg2
        (repeat (first | refine gO rfl ?_ | ((refine gM zM40 fun K1 hK1 => ?_; simp only [go_sem, ↓reduceIte, reduceCtorEq, nA, nB, nC, nD, nE, nF, hM2, hG] <;> and_intros <;> (apply hK1; clear hK1 K1)))))
        refine awp_cond (t := _) rfl (fun _ => ?_) (fun h9 => by cases h9)
        (repeat (first | refine gO rfl ?_ | ((refine gM zM40 fun K1 hK1 => ?_; simp only [go_sem, ↓reduceIte, reduceCtorEq, nA, nB, nC, nD, nE, nF, hC] <;> and_intros <;> (apply hK1; clear hK1 K1)))))
        rfl
       ·have hG := hg2.2 hq
        obtain ⟨rfl, rfl⟩ := hno2 hq
        clear hin1 hin2 hno1 hno2 hg1 hg2
        (repeat (first | refine gO rfl ?_ | ((refine gM zM40 fun K1 hK1 => ?_; simp only [go_sem, ↓reduceIte, reduceCtorEq, nA, nB, nC, nD, nE, nF, hM2, hG] <;> and_intros <;> (apply hK1; clear hK1 K1)))))
        refine awp_cond (t := _) rfl (fun h9 => by cases h9) (fun _ => ?_)
        (repeat ((refine gO rfl ?_)))
        rfl
      rintro _ rfl
      refine awp_seq ?_
      refine awp_join (rl false [13, 2, 4, 1, 1, 3, 53, 3, 43]) 2 (fun s => s = ⟨((jnk 13 ((.map m1) :: (.map m2) :: (jnk 4 ((.row 5 (L.map encLo) (some kk)) :: AV.junk :: ((.v (.string q)) :: (.loc 0 0) :: (.loc 1 0) :: (jnk 53 ((.row 1 (N.map encS) none) :: (.v (.int .i64 N.length)) :: (.v (.int .i64 j)) :: (jnk 43 []))))))))), [[.v (.int .i64 cO), .v (.int .i64 lO)], [.v (.int .i64 cW), .v (.int .i64 lW)]], ⟨H8, T9⟩⟩) ?_ ?_
      ·by_cases hq : q ∈ ks1
       ·have hC := hin1 hq
        have hG := hg1.1 hq
        clear hin1 hin2 hno1 hno2 hg1 hg2
        (repeat (first | refine gO rfl ?_ | ((refine gM zM40 fun K1 hK1 => ?_; simp only [go_sem, ↓reduceIte, reduceCtorEq, nA, nB, nC, nD, nE, nF, hM1, hG] <;> and_intros <;> (apply hK1; clear hK1 K1)))))
        refine awp_cond (t := _) rfl (fun _ => ?_) (fun h9 => by cases h9)
        (repeat (first | refine gO rfl ?_ | ((refine gM zM40 fun K1 hK1 => ?_; simp only [go_sem, ↓reduceIte, reduceCtorEq, nA, nB, nC, nD, nE, nF, hC] <;> and_intros <;> (apply hK1; clear hK1 K1)))))
        rfl
       ·have hG := hg1.2 hq
        obtain ⟨rfl, rfl⟩ := hno1 hq
        clear hin1 hin2 hno1 hno2 hg1 hg2
        (repeat (first | refine gO rfl ?_ | ((refine gM zM40 fun K1 hK1 => ?_; simp only [go_sem, ↓reduceIte, reduceCtorEq, nA, nB, nC, nD, nE, nF, hM1, hG] <;> and_intros <;> (apply hK1; clear hK1 K1)))))
        refine awp_cond (t := _) rfl (fun h9 => by cases h9) (fun _ => ?_)
        (repeat ((refine gO rfl ?_)))
        rfl
      rintro _ rfl
      clear hin1 hin2 hno1 hno2 hg1 hg2
      (repeat (first | refine gO rfl ?_ | ((refine gM zM40 fun K1 hK1 => ?_; simp only [go_sem, ↓reduceIte, reduceCtorEq, nA, nB, nC, nD, nE, nF] <;> and_intros <;> (apply hK1; clear hK1 K1)))))
      by_cases hd : cO - cW ≠ 0 ∨ lO - lW ≠ 0
      ·rw [if_pos hd] at tx
       replace tx : List.filterMap (lostK (ownP U) (allP O)) (N.take (j + 1)) = L ++ [(q, cO - cW, lO - lW)] := tx
       have hbb : (!(cO == cW && lO == lW)) = true := by
        rcases hd with hd | hd
        ·have : (cO == cW) = false := by simp; omega
         rw [this]; rfl
        ·have : (lO == lW) = false := by simp; omega
         rw [this, Bool.and_false]; rfl
       refine awp_cond (t := _) rfl (fun _ => ?_) (fun h9 => by rw [hbb] at h9; cases h9)
       (repeat (first | refine gO rfl ?_ | ((refine gM zM40 fun K1 hK1 => ?_; simp only [go_sem, ↓reduceIte, reduceCtorEq, nA, nB, nC, nD, nE, nF, hT9, hlo, upd_upd] <;> and_intros <;> first | (apply hK1; clear hK1 K1) | (intros; first | omega | decide)))))
       exact ⟨g - 1, by omega, j + 1, upd T9 kk (some (.tail (L.length + 1))), by omega, by rw [tx, List.length_append]; exact upd_same _ _ _, by rw [tx, List.map_append]; rfl⟩
      ·rw [if_neg hd] at tx
       have hbb : (!(cO == cW && lO == lW)) = false := by
        have h5 : cO = cW := by omega
        have h6 : lO = lW := by omega
        subst h5 h6
        simp
       replace tx : List.filterMap (lostK (ownP U) (allP O)) (N.take (j + 1)) = L := tx.trans (List.append_nil L)
       refine awp_cond (t := _) rfl (fun h9 => by rw [hbb] at h9; cases h9) (fun _ => ?_)
       (repeat (first | refine gO rfl ?_ | ((refine gM zM40 fun K1 hK1 => ?_; simp only [go_sem, ↓reduceIte, reduceCtorEq, nA, nB, nC, nD, nE, nF] <;> and_intros <;> first | (apply hK1; clear hK1 K1) | (intros; (omega))))))
       exact ⟨g - 1, by omega, j + 1, T9, by omega, by rw [tx]; exact hT9, by rw [tx]; rfl⟩
     ·simp only [decide_eq_false_iff_not] at h1
      have hjl : j = N.length := by omega
      subst hjl
      rw [List.take_length, hsame]
      (repeat (first | refine gO rfl ?_ | ((refine gM zM40 fun K1 hK1 => ?_; simp only [go_sem, ↓reduceIte, reduceCtorEq, nA, nB, nC, nD, nE, nF] <;> and_intros <;> (apply hK1; clear hK1 K1)))))
      simp only [Tryz.results47, go_sem, ↓reduceIte, reduceCtorEq, nA, nB, nC, nD, nE, nF]
      exact ⟨_, _, Weak.tup1 (Weak.row _ _ _) (Weak.refl _), Hp.le.refl _, fun h9 => absurd trivial h9, fun _ _ e e2 => by subst e e2; rw [if_pos (by omega)]⟩
 ·have hb9 : (plyE d t bs w0 w1 m != 0) = true := by simpa using he
  rw [p1 he]
  generalize plyE d t bs w0 w1 m = e at *
  clear p1 p2 hok hpn
  (repeat (first | refine gO rfl ?_ | ((refine gM zM40 fun K1 hK1 => ?_; simp only [go_sem, ↓reduceIte, reduceCtorEq, nA, nB, nC, nD, nE, nF] <;> and_intros <;> (apply hK1; clear hK1 K1)))))
  refine awp_cond (t := _) rfl (fun _ => ?_) (fun h9 => by rw [hb9] at h9; cases h9)
  (repeat (first | refine gO rfl ?_ | ((refine gM zM40 fun K1 hK1 => ?_; simp only [go_sem, ↓reduceIte, reduceCtorEq, nA, nB, nC, nD, nE, nF] <;> and_intros <;> (apply hK1; clear hK1 K1)))))
  simp only [Tryz.results47, go_sem, ↓reduceIte, reduceCtorEq, nA, nB, nC, nD, nE, nF]
  exact ⟨_, _, Weak.tup1 (Weak.nil 5 0 0 ⟨rfl, rfl⟩) (Weak.refl _), Hp.le.refl _, fun _ => rfl, fun h9 => absurd h9 he⟩
abbrev zP1IE : List Nat := [0, 1, 2, 3, 4, 5, 6, 7, 8]
abbrev zP1IP : List (Nat × List Nat × List Nat) := []
abbrev zP1JE : List Nat := [0, 1, 2, 3, 4, 5, 6, 7, 8]
abbrev zP1JP : List (Nat × List Nat × List Nat) := []
attribute [go_sem] zP1IE zP1IP zP1JE zP1JP
theorem ba_self (x : ByteArray) : (x == x) = true := by rw [ba_beq]; simp
theorem bn_self (x : ByteArray) : (x != x) = false := by rw [bne, ba_self]; rfl
theorem i_self (x : Int) : (x == x) = true := by simp
theorem in_self (x : Int) : (x != x) = false := by simp
theorem n_self (x : Nat) : ((x : Int) != (x : Int)) = false := by simp
open Go.RowKit
def EqPRel (n : Nat) (w : World) (g : Nat) (i : Value) (wr : World) : Prop := ∃ k : Nat, k + g = n ∧ i = .int .i64 k ∧ ∃ q, wr = w.drewN q
def PnCells (w : World) (g o n : Nat) (s : Nat → ByteArray) (p q r u : Nat → Int) : Prop :=
  ∀ k, k < n → w.cell? ⟨g, o + k * 5, none⟩ = some (.string (s k)) ∧ w.cell? ⟨g, o + k * 5 + 1, none⟩ = some (.int .i64 (p k)) ∧ w.cell? ⟨g, o + k * 5 + 2, none⟩ = some (.int .i64 (q k)) ∧ w.cell? ⟨g, o + k * 5 + 3, none⟩ = some (.int .i64 (r k)) ∧ w.cell? ⟨g, o + k * 5 + 4, none⟩ = some (.int .i64 (u k))
set_option maxRecDepth 100000 in
set_option maxHeartbeats 1000000 in
theorem equalP_same (g o g' o' n c c' : Nat) (s : Nat → ByteArray) (p q r u : Nat → Int) (w : World) (hn : n ≤ 1000000000) (h1 : PnCells w g o n s p q r u) (h2 : PnCells w g' o' n s p q r u) :
    Calls Tryz.prog 23 #[.slice (some ⟨g, o, none⟩) n c, .slice (some ⟨g', o', none⟩) n c'] w fun e w' => e = .returned (.bool true) ∧ ∃ q, w' = w.drewN q := by
  have H1 := Lib.hid h1
  have H2 := Lib.hid h2
  clear h1 h2
  go_enter Tryz.func23, Tryz.ntmps23
  go_wp2_with fail
  go_loopg [13, 5] n (fun gg i _ wr => EqPRel n w gg i wr)
  case atStart => exact ⟨0, by omega, rfl, 0, rfl⟩
  case round =>
    obtain ⟨k, hk, rfl, z, rfl⟩ := hrel
    by_cases hg : gk = 0
    · obtain rfl : k = n := by omega
      clear hk hg
      go_wp2_with fail
      go_ret
      exact ⟨rfl, _, rfl⟩
    · have hlt : k < n := by omega
      obtain ⟨c0, c1, c2, c3, c4⟩ := H1.out k hlt
      obtain ⟨d0, d1, d2, d3, d4⟩ := H2.out k hlt
      generalize s k = s1 at *
      generalize p k = v1 at *
      generalize q k = v2 at *
      generalize r k = v3 at *
      generalize u k = v4 at *
      have HK := Lib.hid hk
      have hgk : gk ≠ 0 := hg
      clear hk hg
      have hlt' : (k : Int) < (n : Int) := by omega
      go_wp2_with fail
      go_quiet (fail)
      go_wp2_with fail
      go_roundg (gk - 1)
      case measure => omega
      case rel => exact ⟨k + 1, by have := HK.out; omega, by go_num, _, rfl⟩
theorem row_cells {G : Gh} {z : Nat} {xs : List (List AV)} {k : Option Nat} {v : Value} (h : Rep G (.row z xs k) v) (hn : 0 < xs.length) : ∃ g o c, v = .slice (some ⟨g, o, none⟩) xs.length c ∧ ∀ i (hi : i < xs.length) j, j < z → ∀ a, xs[i][j]? = some (.v a) → G.val g (o + (i * z + j)) = some a := by
 rcases Rep.row_inv h with ⟨a, _, rfl⟩ | ⟨g, o, c, us, rfl, hc, hz, hr, hu⟩
 ·simp at hn
 ·refine ⟨g, o, c, rfl, fun i hi j hj a ha => hu _ _ ?_⟩
  have e1 := flatten_at hz hi hj
  rw [ha] at e1
  have hlt := (List.getElem?_eq_some_iff.1 e1).1
  have hlu : i * z + j < us.length := by rw [hr.1]; exact hlt
  have h2 := (hr.2 _ hlt hlu).1
  rw [(List.getElem?_eq_some_iff.1 e1).2] at h2
  rw [List.getElem?_eq_getElem hlu]
  generalize us[i * z + j] = y at h2
  cases h2; rfl
abbrev zP1KE : List Nat := [0, 1, 2, 3, 4, 5, 6, 7, 8]
abbrev zP1KP : List (Nat × List Nat × List Nat) := []
abbrev zP1LE : List Nat := [0, 1, 2, 3, 4, 5, 6, 7, 8]
abbrev zP1LP : List (Nat × List Nat × List Nat) := []
attribute [go_sem] zP1KE zP1KP zP1LE zP1LP
theorem g_eqPlay (xs : List Pl) (h : Hp) (hl : xs.length ≤ 1000000000) : ACalls Tryz.prog 51 [.row 4 (xs.map encP) none, .row 4 (xs.map encP) none] h (fun r h' => r = .v (.bool true) ∧ h' = h) := by
 have hlm : (xs.map encP).length = xs.length := by simp
 refine gE Tryz.func51 rfl (by kernel_rfl) 24 rfl fun c => ?_
 (repeat (first | refine gO rfl ?_ | ((refine gR fun K1 hK1 => ?_; simp only [go_sem, ↓reduceIte, reduceCtorEq, nA, nB, nC, nD, nE, nF, hlm, n_self] <;> and_intros <;> (apply hK1; clear hK1 K1)))))
 refine awp_cond (t := _) rfl (fun h9 => by cases h9) (fun _ => ?_)
 (repeat (first | refine gO rfl ?_ | ((refine gR fun K1 hK1 => ?_; simp only [go_sem, ↓reduceIte, reduceCtorEq, nA, nB, nC, nD, nE, nF, hlm] <;> and_intros <;> (apply hK1; clear hK1 K1)))))
 refine awp_loopC (rl false [0, 2, 9, 3, 12]) 0 (fun g s => ∃ j : Nat, g + j = xs.length ∧
  s = ⟨((.row 4 (xs.map encP) none) :: (.row 4 (xs.map encP) none) :: (jnk 9 ((.row 4 (xs.map encP) none) :: (.v (.int .i64 xs.length)) :: (.v (.int .i64 j)) :: (jnk 12 [])))), [], h⟩) xs.length ⟨0, by omega, rfl⟩ ?_
 rintro g _ ⟨j, hj, rfl⟩
 (repeat (first | refine gO rfl ?_ | ((refine gR fun K1 hK1 => ?_; simp only [go_sem, ↓reduceIte, reduceCtorEq, nA, nB, nC, nD, nE, nF] <;> and_intros <;> (apply hK1; clear hK1 K1)))))
 refine awp_cond (t := _) rfl (fun h1 => ?_) (fun h1 => ?_)
 ·simp only [decide_eq_true_eq] at h1
  have hjl : j < xs.length := by omega
  have gx : (xs.map encP).getD j [] = encP (xs.getD j default) := getD_enc encP xs j default hjl
  generalize xs.getD j default = x at gx
  (repeat (first | refine gO rfl ?_ | ((first | refine gR ?_ | ((with_reducible refine xS ?_); refine uD 6 zM41 zP1KE zP1KP 26 rfl (by kernel_rfl) ?_)) <;> ((try with_reducible intro K1 hK1); simp only [go_sem, ↓reduceIte, reduceCtorEq, nA, nB, nC, nD, nE, nF, Int.toNat_natCast, gx, encP, hlm, hjl, ba_self, i_self, bn_self, in_self] <;> and_intros <;> first | (apply hK1; clear hK1 K1) | (intros; (omega))))))
  refine awp_cond (t := _) rfl (fun h9 => by cases h9) (fun _ => ?_)
  (repeat (first | refine gO rfl ?_ | ((refine gR fun K1 hK1 => ?_; simp only [go_sem, ↓reduceIte, reduceCtorEq, nA, nB, nC, nD, nE, nF] <;> and_intros <;> first | (apply hK1; clear hK1 K1) | (intros; (omega))))))
  exact ⟨g - 1, by omega, j + 1, by omega, rfl⟩
 ·(repeat (first | refine gO rfl ?_ | ((refine gR fun K1 hK1 => ?_; simp only [go_sem, ↓reduceIte, reduceCtorEq, nA, nB, nC, nD, nE, nF] <;> and_intros <;> (apply hK1; clear hK1 K1)))))
  simp only [Tryz.results51, go_sem, ↓reduceIte, reduceCtorEq, nA, nB, nC, nD, nE, nF]
  exact ⟨_, _, Weak.refl _, Hp.le.refl _, rfl, rfl⟩
theorem g_equalLo (N : List (ByteArray × Int × Int)) (h : Hp) (h0 : 0 < N.length) (hl : N.length ≤ 100000) : ACalls Tryz.prog 23 [.row 5 (N.map encLo) none, .row 5 (N.map encLo) none] h (fun r h' => r = .v (.bool true) ∧ h' = h) := by
 refine acalls_mk (by kernel_rfl) fun G w vs hs hv ha => ?_
 have r0 := ha 0 (by simp)
 have r1 := ha 1 (by simp)
 rw [vs_two hv]
 generalize vs.getD 0 undef = v0 at *
 generalize vs.getD 1 undef = v1 at *
 simp only [List.getElem_cons_zero, List.getElem_cons_succ] at r0 r1
 obtain ⟨g, o, c, rfl, hc⟩ := row_cells r0 (by simpa using h0)
 obtain ⟨g', o', c', rfl, hc'⟩ := row_cells r1 (by simpa using h0)
 rw [List.length_map]
 have key : ∀ {g o : Nat}, (∀ i (hi : i < (N.map encLo).length) j, j < 5 → ∀ a, (N.map encLo)[i][j]? = some (.v a) → G.val g (o + (i * 5 + j)) = some a) →
   PnCells w g o N.length (fun k => (N.getD k default).1) (fun k => (N.getD k default).2.1) (fun _ => 1) (fun k => (N.getD k default).2.2) (fun _ => 1) := fun {g o} hc k hk => by
  have hk' : k < (N.map encLo).length := by simpa using hk
  have e : (N.map encLo)[k] = encLo (N.getD k default) := by
   rw [List.getElem_map, List.getD_eq_getElem?_getD, List.getElem?_eq_getElem hk]; rfl
  have hcc := hc k hk'
  rw [e] at hcc
  exact ⟨hs.cell _ _ _ (hcc 0 (by omega) _ rfl), hs.cell _ _ _ (hcc 1 (by omega) _ rfl), hs.cell _ _ _ (hcc 2 (by omega) _ rfl), hs.cell _ _ _ (hcc 3 (by omega) _ rfl), hs.cell _ _ _ (hcc 4 (by omega) _ rfl)⟩
 refine (equalP_same g o g' o' N.length c c' _ _ _ _ _ w (by omega) (key hc) (key hc')).mono ?_
 rintro _ _ ⟨rfl, q, rfl⟩
 exact ⟨_, rfl, _, h, G, ⟨rfl, rfl⟩, GLe.refl _, Fr.below (Fr.refl _ _ _) (fun _ _ => rfl) rfl rfl rfl (Nat.le_refl _), hs.below (fun _ _ => rfl), .v _ rfl⟩
theorem g_equalNo (h : Hp) : ACalls Tryz.prog 23 [.row 5 [] none, .row 5 [] none] h (fun r h' => r = .v (.bool true) ∧ h' = h) := by
 refine gE Tryz.func23 rfl (by kernel_rfl) 24 rfl fun c => ?_
 (repeat (first | refine gO rfl ?_ | ((refine gR fun K1 hK1 => ?_; simp only [go_sem, ↓reduceIte, reduceCtorEq, nA, nB, nC, nD, nE, nF, n_self] <;> and_intros <;> (apply hK1; clear hK1 K1)))))
 refine awp_cond (t := _) rfl (fun h9 => by cases h9) (fun _ => ?_)
 (repeat (first | refine gO rfl ?_ | ((refine gR fun K1 hK1 => ?_; simp only [go_sem, ↓reduceIte, reduceCtorEq, nA, nB, nC, nD, nE, nF] <;> and_intros <;> (apply hK1; clear hK1 K1)))))
 refine awp_loopC (rl false [0, 2, 9, 3, 12]) 0 (fun g s => s = ⟨((.row 5 [] none) :: (.row 5 [] none) :: (jnk 9 ((.row 5 [] none) :: (.v (.int .i64 0)) :: (.v (.int .i64 0)) :: (jnk 12 [])))), [], h⟩) 0 rfl ?_
 rintro g _ rfl
 (repeat (first | refine gO rfl ?_ | ((refine gR fun K1 hK1 => ?_; simp only [go_sem, ↓reduceIte, reduceCtorEq, nA, nB, nC, nD, nE, nF] <;> and_intros <;> (apply hK1; clear hK1 K1)))))
 refine awp_cond (t := _) rfl (fun h9 => by simp at h9) (fun _ => ?_)
 (repeat (first | refine gO rfl ?_ | ((refine gR fun K1 hK1 => ?_; simp only [go_sem, ↓reduceIte, reduceCtorEq, nA, nB, nC, nD, nE, nF] <;> and_intros <;> (apply hK1; clear hK1 K1)))))
 simp only [Tryz.results23, go_sem, ↓reduceIte, reduceCtorEq, nA, nB, nC, nD, nE, nF]
 exact ⟨_, _, Weak.refl _, Hp.le.refl _, rfl, rfl⟩
theorem g_equalL (N : List (ByteArray × Int × Int)) (h : Hp) (hl : N.length ≤ 100000) : ACalls Tryz.prog 23 [.row 5 (N.map encLo) none, .row 5 (N.map encLo) none] h (fun r h' => r = .v (.bool true) ∧ h' = h) := by
 cases N with
 | nil => exact g_equalNo h
 | cons x N => exact g_equalLo (x :: N) h (by simp) hl
abbrev zP1ME : List Nat := [0, 1, 2, 3, 4, 5, 6, 7, 8, 10, 11, 12, 13, 14, 15, 16, 18, 19, 20, 21, 22, 23, 24]
abbrev zP1MP : List (Nat × List Nat × List Nat) := [(9, [15, 23], []), (17, [23], []), (25, [], [26, 27]), (28, [], [29, 30, 31]), (32, [], [33, 34, 35]), (36, [], [])]
abbrev zP1NE : List Nat := [0, 1, 2, 3]
abbrev zP1NP : List (Nat × List Nat × List Nat) := [(4, [1], [5, 6]), (7, [], [])]
attribute [go_sem] zP1ME zP1MP zP1NE zP1NP
theorem g_breaks (i : Nat) (l : List Int) (a : Int) (h : Hp) (hl : SOk l) (ha : 0 ≤ a ∧ a ≤ 100000000) :
  ACalls Tryz.prog 41 [.ptr i 0] (h.st i l a) (fun r h' => ∃ (ws : List Wn) (a' : Int), ws.length ≤ 4 ∧ (∀ x ∈ ws, WOk x) ∧ (a ≤ a' ∧ a' ≤ a + 100) ∧ r = .row 3 (ws.map encW) none ∧ h' = h.st i l a') := by
 refine gE Tryz.func41 rfl (by kernel_rfl) 83 rfl fun c => ?_
 (repeat (first | refine gQ rfl ?_ | ((refine gR fun K1 hK1 => ?_; simp only [go_sem, ↓reduceIte, reduceCtorEq, nA, nB, nC, nD, nE, nF] <;> and_intros <;> first | (apply hK1; clear hK1 K1) | (intros; (decide)) | skip))))
 refine (g_pick i l a [0, 0, 500, 1000, 3000] none h hl (by omega) (by simp)).mono ?_; rintro _ _ ⟨at0, hat0, rfl, rfl⟩; apply hK1; clear hK1 K1
 simp only [List.mem_cons, List.not_mem_nil, or_false] at hat0
 (repeat (first | refine gQ rfl ?_ | ((refine gR fun K1 hK1 => ?_; simp only [go_sem, ↓reduceIte, reduceCtorEq, nA, nB, nC, nD, nE, nF] <;> and_intros <;> (apply hK1; clear hK1 K1)))))
 refine awp_seq ?_
 refine awp_ownA 3 3 rfl ⟨rfl, rfl⟩ (fun k hk => ?_)
 replace hk : h.T k = none := hk
 (repeat (((refine gR fun K1 hK1 => ?_; simp only [go_sem, ↓reduceIte, reduceCtorEq, nA, nB, nC, nD, nE, nF] <;> and_intros <;> first | (intros; (decide)) | skip))))
 refine (g_pick i l (a + 1) [0, 1, 2, 3, 4] none ⟨h.H, upd h.T k (some (.cont 3 []))⟩ hl (by omega) (by simp)).mono ?_; rintro _ _ ⟨n, hn, rfl, rfl⟩; apply hK1; clear hK1 K1
 simp only [List.mem_cons, List.not_mem_nil, or_false] at hn
 obtain ⟨N, rfl⟩ : ∃ m : Nat, n = m := ⟨n.toNat, by omega⟩
 have hN : N ≤ 4 := by omega
 clear hn
 (repeat (first | refine gO rfl ?_ | ((refine gR fun K1 hK1 => ?_; simp only [go_sem, ↓reduceIte, reduceCtorEq, nA, nB, nC, nD, nE, nF] <;> and_intros <;> (apply hK1; clear hK1 K1)))))
 refine awp_loopC (rl false [0, 1, 2, 2, 7, 2, 70]) 0 (fun g s => ∃ (j : Nat) (ws : List Wn) (a' at1 : Int), g + j = N ∧ ws.length = j ∧ (∀ x ∈ ws, WOk x) ∧ (a ≤ a' ∧ a' ≤ a + 2 + 3 * j) ∧ (0 ≤ at1 ∧ at1 ≤ 3000 + 20000 * j) ∧
  s = ⟨((.ptr i 0) :: AV.junk :: AV.junk :: ((.arr 3 k j) :: (.v (.int .i64 at1)) :: (jnk 7 ((.v (.int .i64 N)) :: (.v (.int .i64 j)) :: (jnk 70 []))))), [], (Hp.mk h.H (upd h.T k (some (.cont 3 (ws.map encW))))).st i l a'⟩) N ⟨0, [], a + 2, at0, by omega, rfl, by simp, by omega, by omega, by rw [show a + 1 + 1 = a + 2 by omega]; rfl⟩ ?_
 rintro g _ ⟨j, ws, a1, at1, hj, hwl, hwo, ha1, hat1, rfl⟩
 have hTq : ∀ a2, ((Hp.mk h.H (upd h.T k (some (.cont 3 (ws.map encW))))).st i l a2).T k = some (TO.cont 3 (ws.map encW)) := fun a2 => upd_same _ _ _
 have hlw : (ws.map encW).length = j := by simpa using hwl
 have htt : ∀ a2 X, (Hp.mk ((Hp.mk h.H (upd h.T k (some (.cont 3 (ws.map encW))))).st i l a2).H (upd ((Hp.mk h.H (upd h.T k (some (.cont 3 (ws.map encW))))).st i l a2).T k X)) = (Hp.mk h.H (upd h.T k X)).st i l a2 := fun a2 X => by simp only [Hp.st, upd_upd]
 (repeat (first | refine gO rfl ?_ | ((refine gR fun K1 hK1 => ?_; simp only [go_sem, ↓reduceIte, reduceCtorEq, nA, nB, nC, nD, nE, nF] <;> and_intros <;> (apply hK1; clear hK1 K1)))))
 refine awp_cond (t := _) rfl (fun h1 => ?_) (fun h1 => ?_)
 ·simp only [decide_eq_true_eq] at h1
  have hjl : j < N := by omega
  (repeat (first | refine gO rfl ?_ | ((refine gR fun K1 hK1 => ?_; simp only [go_sem, ↓reduceIte, reduceCtorEq, nA, nB, nC, nD, nE, nF, hTq, hlw] <;> and_intros <;> first | (intros; (decide)) | skip))))
  refine (g_pick i l a1 [1, 500, 1000, 2500, 7000] none _ hl (by omega) (by simp)).mono ?_; rintro _ _ ⟨x, hx, rfl, rfl⟩; apply hK1; clear hK1 K1
  simp only [List.mem_cons, List.not_mem_nil, or_false] at hx
  (repeat (first | refine gO rfl ?_ | ((refine gR fun K1 hK1 => ?_; simp only [go_sem, ↓reduceIte, reduceCtorEq, nA, nB, nC, nD, nE, nF, hTq, hlw] <;> and_intros <;> first | (apply hK1; clear hK1 K1) | (intros; first | omega | decide) | skip))))
  refine (g_some i l (a1 + 1) [⟨#[120, 97]⟩, ⟨#[120, 98]⟩, ⟨#[105, 97]⟩] none _ hl (by omega) (by simp)).mono ?_; rintro _ _ ⟨q, hq, rfl, rfl⟩; apply hK1; clear hK1 K1
  have hqs : q.size ≤ 2 := by
   simp only [List.mem_cons, List.not_mem_nil, or_false] at hq
   rcases hq with rfl | rfl | rfl <;> decide
  (repeat (first | refine gO rfl ?_ | ((refine gR fun K1 hK1 => ?_; simp only [go_sem, ↓reduceIte, reduceCtorEq, nA, nB, nC, nD, nE, nF, hTq, hlw, htt] <;> and_intros <;> first | (apply hK1; clear hK1 K1) | (intros; first | omega | decide) | skip))))
  refine (g_pick i l (a1 + 1 + 1) [0, 0, 500, 1000, 1500, 4000] none _ hl (by omega) (by simp)).mono ?_; rintro _ _ ⟨y, hy, rfl, rfl⟩; apply hK1; clear hK1 K1
  simp only [List.mem_cons, List.not_mem_nil, or_false] at hy
  (repeat (first | refine gO rfl ?_ | ((refine gR fun K1 hK1 => ?_; simp only [go_sem, ↓reduceIte, reduceCtorEq, nA, nB, nC, nD, nE, nF, hTq, hlw, htt] <;> and_intros <;> first | (apply hK1; clear hK1 K1) | (intros; (omega))))))
  refine ⟨g - 1, by omega, j + 1, ws ++ [(q, at1, at1 + x)], a1 + 1 + 1 + 1, at1 + x + y, by omega, by simp [hwl], fun z hz => ?_, by omega, by omega, ?_⟩
  ·rcases List.mem_append.1 hz with h9 | h9
   ·exact hwo z h9
   ·rw [List.mem_singleton.1 h9]
    exact ⟨hqs, ⟨by show _ ≤ at1; omega, by show at1 ≤ _; omega⟩, ⟨by show _ ≤ at1 + x; omega, by show at1 + x ≤ _; omega⟩⟩
  ·rw [List.map_append]; rfl
 ·simp only [decide_eq_false_iff_not] at h1
  obtain rfl : j = N := by omega
  clear hj h1
  (repeat ((refine gQ rfl ?_)))
  refine awp_seqJ (rl false [3, 1, 80]) 0 (fun s => ∃ (ws2 : List Wn) (a2 : Int), ws2.length = j ∧ (∀ x ∈ ws2, WOk x) ∧ (a ≤ a2 ∧ a2 ≤ a + 50) ∧
   s = ⟨((jnk 3 ((.arr 3 k j) :: (jnk 80 [])))), [], (Hp.mk h.H (upd h.T k (some (.cont 3 (ws2.map encW))))).st i l a2⟩) ?_ ?_
  ·by_cases hn0 : j = 0
   ·have hd0 : decide ((0 : Int) < (j : Int)) = false := by simp only [decide_eq_false_iff_not]; omega
    (repeat (first | refine gO rfl ?_ | ((refine gR fun K1 hK1 => ?_; simp only [go_sem, ↓reduceIte, reduceCtorEq, nA, nB, nC, nD, nE, nF, hd0] <;> and_intros <;> (apply hK1; clear hK1 K1)))))
    refine awp_cond (t := _) rfl (fun h9 => by cases h9) (fun _ => ?_)
    (repeat ((refine gO rfl ?_)))
    exact ⟨ws, a1, hwl, hwo, by omega, rfl⟩
   ·have hd0 : decide ((0 : Int) < (j : Int)) = true := by simp only [decide_eq_true_eq]; omega
    (repeat (((refine gR fun K1 hK1 => ?_; simp only [go_sem, ↓reduceIte, reduceCtorEq, nA, nB, nC, nD, nE, nF, hd0] <;> and_intros <;> first | (intros; (simp_all <;> omega)) | skip))))
    refine (g_flip i l a1 15 _ hl (by omega) (by omega)).mono ?_
    rintro _ _ ⟨bb, rfl, rfl⟩
    refine ⟨rfl, hK1 _ ?_⟩; clear hK1 K1
    (repeat (first | refine gO rfl ?_ | ((refine gR fun K1 hK1 => ?_; simp only [go_sem, ↓reduceIte, reduceCtorEq, nA, nB, nC, nD, nE, nF, hd0] <;> and_intros <;> (apply hK1; clear hK1 K1)))))
    cases bb with
    | false =>
     refine awp_cond (t := _) rfl (fun h9 => by cases h9) (fun _ => ?_)
     (repeat ((refine gO rfl ?_)))
     exact ⟨ws, a1 + 1, hwl, hwo, by omega, rfl⟩
    | true =>
     refine awp_cond (t := _) rfl (fun _ => ?_) (fun h9 => by cases h9)
     (repeat (((refine gR fun K1 hK1 => ?_; simp only [go_sem, ↓reduceIte, reduceCtorEq, nA, nB, nC, nD, nE, nF] <;> and_intros))))
     refine (g_next i l (a1 + 1) j _ hl (by omega) (by omega)).mono ?_; rintro _ _ ⟨x, hx, rfl, rfl⟩; apply hK1; clear hK1 K1
     obtain ⟨q, rfl⟩ : ∃ q : Nat, x = q := ⟨x.toNat, by omega⟩
     have hqn : q < ws.length := by omega
     have hqm : q < (ws.map encW).length := by simpa using hqn
     have gq : (ws.map encW).getD q [] = [.v (.string (ws.getD q default).1), .v (.int .i64 (ws.getD q default).2.1), .v (.int .i64 (ws.getD q default).2.2)] := getD_enc encW ws q default hqn
     have hwq := hwo _ (show ws.getD q default ∈ ws by rw [List.getD_eq_getElem?_getD, List.getElem?_eq_getElem hqn]; exact List.getElem_mem hqn)
     have hgs : ∀ A, ((ws.map encW).set q A).getD q [] = A := fun A => by rw [List.getD_eq_getElem?_getD, List.getElem?_set_self hqm]; rfl
     have hss : ∀ A B, ((ws.map encW).set q A).set q B = (ws.map encW).set q B := fun A B => List.set_set _
     have hsl : ∀ A, ((ws.map encW).set q A).length = j := fun A => by rw [List.length_set, List.length_map, hwl]
     have hqq : q < j := by omega
     generalize ws.getD q default = z at gq hwq
     have hTs : ∀ A a2, ((Hp.mk h.H (upd h.T k (some (.cont 3 ((ws.map encW).set q A))))).st i l a2).T k = some (TO.cont 3 ((ws.map encW).set q A)) := fun A a2 => upd_same _ _ _
     have htt2 : ∀ A a2 X, (Hp.mk ((Hp.mk h.H (upd h.T k (some (.cont 3 ((ws.map encW).set q A))))).st i l a2).H (upd ((Hp.mk h.H (upd h.T k (some (.cont 3 ((ws.map encW).set q A))))).st i l a2).T k X)) = (Hp.mk h.H (upd h.T k X)).st i l a2 := fun A a2 X => by simp only [Hp.st, upd_upd]
     (repeat (first | refine gO rfl ?_ | ((first | refine gR ?_ | ((with_reducible refine xR ?_); refine uE 11 zM41 zP1ME zP1MP 84 rfl (by kernel_rfl) ?_)) <;> ((try with_reducible intro K1 hK1); simp only [go_sem, ↓reduceIte, reduceCtorEq, nA, nB, nC, nD, nE, nF, Int.toNat_natCast, hTq, hlw, gq, hqq] <;> and_intros <;> first | (apply hK1; clear hK1 K1) | (intros; first | omega | decide) | skip))))
     refine (g_some i l (a1 + 1 + 1) [z.1, ⟨#[]⟩] none _ hl (by omega) (by simp)).mono ?_; rintro _ _ ⟨y1, hy1, rfl, rfl⟩; apply hK1; clear hK1 K1
     (repeat (((first | refine gR ?_ | (with_reducible refine wM ?_ ?_)) <;> ((try with_reducible intro K1 hK1); simp only [go_sem, ↓reduceIte, reduceCtorEq, nA, nB, nC, nD, nE, nF, Int.toNat_natCast, hTq, hlw, gq, hqq] <;> and_intros <;> first | (apply hK1; clear hK1 K1) | (intros; first | decide | (simp_all <;> omega)) | skip))))
     refine (g_pick i l (a1 + 1 + 1 + 1) [z.2.1, -1, 0] none _ hl (by omega) (by simp)).mono ?_; rintro _ _ ⟨y2, hy2, rfl, rfl⟩; apply hK1; clear hK1 K1
     (repeat (((first | refine gR ?_ | (with_reducible refine wM ?_ ?_)) <;> ((try with_reducible intro K1 hK1); simp only [go_sem, ↓reduceIte, reduceCtorEq, nA, nB, nC, nD, nE, nF, Int.toNat_natCast, hTq, hlw, gq, hqq] <;> and_intros <;> first | (apply hK1; clear hK1 K1) | (intros; first | decide | (simp_all <;> omega)) | skip))))
     refine (g_pick i l (a1 + 1 + 1 + 1 + 1) [z.2.2, 1, 345686400001] none _ hl (by omega) (by simp)).mono ?_; rintro _ _ ⟨y3, hy3, rfl, rfl⟩; apply hK1; clear hK1 K1
     (repeat (first | refine gO rfl ?_ | ((first | refine gR ?_ | (with_reducible refine wM ?_ ?_)) <;> ((try with_reducible intro K1 hK1); simp only [go_sem, ↓reduceIte, reduceCtorEq, nA, nB, nC, nD, nE, nF, Int.toNat_natCast, hTq, hlw, gq, hqq, hgs, hss, hsl, hTs, htt, htt2] <;> and_intros <;> (apply hK1; clear hK1 K1)))))
     refine ⟨ws.set q (y1, y2, y3), a1 + 1 + 1 + 1 + 1 + 1, by rw [List.length_set, hwl], fun u hu => ?_, by omega, ?_⟩
     ·rcases List.mem_or_eq_of_mem_set hu with h9 | rfl
      ·exact hwo u h9
      ·obtain ⟨w1, w2, w3⟩ := hwq
       simp only [List.mem_cons, List.not_mem_nil, or_false] at hy1 hy2 hy3
       refine ⟨?_, by show _ ≤ y2 ∧ y2 ≤ _; omega, by show _ ≤ y3 ∧ y3 ≤ _; omega⟩
       rcases hy1 with rfl | rfl
       ·exact w1
       ·show (⟨#[]⟩ : ByteArray).size ≤ 2; decide
     ·rw [show (ws.set q (y1, y2, y3)).map encW = (ws.map encW).set q (encW (y1, y2, y3)) from List.map_set]; rfl
  ·rintro _ ⟨ws2, a2, hwl2, hwo2, ha2, rfl⟩
   refine awp_frz 3 k 3 (xs := ws2.map encW) (by simp [hwl2]; rfl) (upd_same _ _ _) (encW_z ws2) ?_
   (repeat (first | refine gO rfl ?_ | ((refine gR fun K1 hK1 => ?_; simp only [go_sem, ↓reduceIte, reduceCtorEq, nA, nB, nC, nD, nE, nF] <;> and_intros <;> (apply hK1; clear hK1 K1)))))
   simp only [Tryz.results41, go_sem, ↓reduceIte, reduceCtorEq, nA, nB, nC, nD, nE, nF]
   refine ⟨_, h.st i l a2, Weak.refl _, ⟨fun _ => .inr rfl, fun j => ?_⟩, ws2, a2, by omega, hwo2, by omega, rfl, rfl⟩
   by_cases e : j = k
   ·subst e; exact .inl hk
   ·exact .inr (by simp only [Hp.st]; rw [upd_other _ _ e, upd_other _ _ e])
theorem g_span (i : Nat) (l : List Int) (a : Int) (h : Hp) (hl : SOk l) (ha : 0 ≤ a ∧ a ≤ 100000000) :
  ACalls Tryz.prog 42 [.ptr i 0] (h.st i l a) (fun r h' => ∃ x y a' : Int, (-1 ≤ x ∧ x ≤ 1000) ∧ (0 ≤ y ∧ y ≤ 345686400001) ∧ (a ≤ a' ∧ a' ≤ a + 100) ∧ r = .agg [.v (.int .i64 x), .v (.int .i64 y)] ∧ h' = h.st i l a') := by
 refine gE Tryz.func42 rfl (by kernel_rfl) 24 rfl fun c => ?_
 (repeat (first | refine gO rfl ?_ | ((refine gM zM42 fun K1 hK1 => ?_; simp only [go_sem, ↓reduceIte, reduceCtorEq, nA, nB, nC, nD, nE, nF] <;> and_intros <;> first | (apply hK1; clear hK1 K1) | (intros; (decide)) | skip))))
 refine (g_pick i l a [0, 0, 500, 1000] none h hl (by omega) (by simp)).mono ?_; rintro _ _ ⟨x, hx, rfl, rfl⟩; apply hK1; clear hK1 K1
 simp only [List.mem_cons, List.not_mem_nil, or_false] at hx
 (repeat (first | refine gO rfl ?_ | ((first | refine gM zM42 ?_ | ((with_reducible refine xS ?_); refine uD 2 zM42 zP1NE zP1NP 25 rfl (by kernel_rfl) ?_)) <;> ((try with_reducible intro K1 hK1); simp only [go_sem, ↓reduceIte, reduceCtorEq, nA, nB, nC, nD, nE, nF] <;> and_intros <;> first | (apply hK1; clear hK1 K1) | (intros; (decide)) | skip))))
 refine (g_pick i l (a + 1) [0, 1, 1000, 7500, 20000, 40000] none _ hl (by omega) (by simp)).mono ?_; rintro _ _ ⟨y, hy, rfl, rfl⟩; apply hK1; clear hK1 K1
 simp only [List.mem_cons, List.not_mem_nil, or_false] at hy
 (repeat (first | refine gO rfl ?_ | ((first | refine gM zM42 ?_ | (with_reducible refine wM ?_ ?_)) <;> ((try with_reducible intro K1 hK1); simp only [go_sem, ↓reduceIte, reduceCtorEq, nA, nB, nC, nD, nE, nF] <;> and_intros <;> first | (apply hK1; clear hK1 K1) | (intros; first | omega | (simp_all <;> omega)) | skip))))
 refine (g_flip i l (a + 1 + 1) 20 h hl (by omega) (by omega)).mono ?_; rintro _ _ ⟨bb, rfl, rfl⟩; apply hK1; clear hK1 K1
 (repeat ((refine gO rfl ?_)))
 cases bb with
 | false =>
  refine awp_cond (t := _) rfl (fun h9 => by cases h9) (fun _ => ?_)
  (repeat (first | refine gO rfl ?_ | ((refine gM zM42 fun K1 hK1 => ?_; simp only [go_sem, ↓reduceIte, reduceCtorEq, nA, nB, nC, nD, nE, nF] <;> and_intros <;> (apply hK1; clear hK1 K1)))))
  simp only [Tryz.results42, go_sem, ↓reduceIte, reduceCtorEq, nA, nB, nC, nD, nE, nF]
  exact ⟨_, _, Weak.refl _, Hp.le.refl _, x, x + y, a + 1 + 1 + 1, by omega, by omega, by omega, rfl, rfl⟩
 | true =>
  refine awp_cond (t := _) rfl (fun _ => ?_) (fun h9 => by cases h9)
  (repeat (((refine gM zM42 fun K1 hK1 => ?_; simp only [go_sem, ↓reduceIte, reduceCtorEq, nA, nB, nC, nD, nE, nF] <;> and_intros <;> first | (intros; (decide)) | skip))))
  refine (g_pick i l (a + 1 + 1 + 1) [-1, 10] none h hl (by omega) (by simp)).mono ?_; rintro _ _ ⟨u, hu, rfl, rfl⟩; apply hK1; clear hK1 K1
  simp only [List.mem_cons, List.not_mem_nil, or_false] at hu
  (repeat (((refine gM zM42 fun K1 hK1 => ?_; simp only [go_sem, ↓reduceIte, reduceCtorEq, nA, nB, nC, nD, nE, nF] <;> and_intros <;> first | (intros; (decide)) | skip))))
  refine (g_pick i l (a + 1 + 1 + 1 + 1) [9, 345686400001] none h hl (by omega) (by simp)).mono ?_; rintro _ _ ⟨v, hv, rfl, rfl⟩; apply hK1; clear hK1 K1
  simp only [List.mem_cons, List.not_mem_nil, or_false] at hv
  (repeat (first | refine gO rfl ?_ | ((refine gM zM42 fun K1 hK1 => ?_; simp only [go_sem, ↓reduceIte, reduceCtorEq, nA, nB, nC, nD, nE, nF] <;> and_intros <;> (apply hK1; clear hK1 K1)))))
  simp only [Tryz.results42, go_sem, ↓reduceIte, reduceCtorEq, nA, nB, nC, nD, nE, nF]
  exact ⟨_, _, Weak.refl _, Hp.le.refl _, u, v, a + 1 + 1 + 1 + 1 + 1, by omega, by omega, by omega, rfl, rfl⟩
abbrev zP1OE : List Nat := [0, 2, 4, 5, 11, 13]
abbrev zP1OP : List (Nat × List Nat × List Nat) := [(1, [11], []), (3, [11], [6, 7, 8, 9]), (10, [11], []), (12, [], [14]), (15, [], [16])]
attribute [go_sem] zP1OE zP1OP
theorem run_val (U : List (Pl × Bool)) : ∃ (X : List Pl) (e : Int), X.length ≤ 3000 ∧ (if U.length ≤ 3000 then AV.tup [.row 4 ((U.map (·.1)).map encP) none, .v (.int .i64 0)] else .tup [.row 4 [] none, .v (.int .i64 2)]) = .tup [.row 4 (X.map encP) none, .v (.int .i64 e)] := by
 by_cases h : U.length ≤ 3000
 ·exact ⟨U.map (·.1), 0, by simpa using h, by rw [if_pos h]⟩
 ·exact ⟨[], 2, by simp, by rw [if_neg h]; rfl⟩
theorem lost_val (p : Prop) [Decidable p] (L : List (ByteArray × Int × Int)) (hl : L.length ≤ 100000) : ∃ (Y : List (ByteArray × Int × Int)) (e : Int), Y.length ≤ 100000 ∧ (if p then AV.tup [.row 5 (L.map encLo) none, .v (.int .i64 0)] else .tup [.row 5 [] none, .v (.int .i64 2)]) = .tup [.row 5 (Y.map encLo) none, .v (.int .i64 e)] := by
 by_cases h : p
 ·exact ⟨L, 0, hl, by rw [if_pos h]⟩
 ·exact ⟨[], 2, by simp, by rw [if_neg h]; rfl⟩
theorem rd_len {d : Nat} {t : LT} (hb : KC d t) : (rdS d t).length ≤ 5000 := by
 by_cases h : rdE d t = 0
 ·exact (rd_good hb h).len
 ·rw [rd_bad2 h]; simp
theorem RunAns.val {d : Nat} {t : LT} {bs : List Wn} {w0 w1 m : Int} {r : AV} (h : RunAns d t bs w0 w1 m r) : ∃ (X : List Pl) (e : Int), X.length ≤ 3000 ∧ r = .tup [.row 4 (X.map encP) none, .v (.int .i64 e)] ∧ (plyE d t bs w0 w1 m ≠ 0 → X = [] ∧ e = plyE d t bs w0 w1 m) ∧
  (plyE d t bs w0 w1 m = 0 → ∀ U, runE (rdS d t) w0 w1 m (cutF w0 w1 bs) (0, longA (rdS d t) 0) w0 = U → (if U.length ≤ 3000 then AV.tup [.row 4 ((U.map (·.1)).map encP) none, .v (.int .i64 0)] else .tup [.row 4 [] none, .v (.int .i64 2)]) = .tup [.row 4 (X.map encP) none, .v (.int .i64 e)]) := by
 by_cases he : plyE d t bs w0 w1 m = 0
 ·obtain ⟨X, e, h1, h2⟩ := run_val (runE (rdS d t) w0 w1 m (cutF w0 w1 bs) (0, longA (rdS d t) 0) w0)
  exact ⟨X, e, h1, by rw [h.2 he _ rfl, h2], fun h9 => absurd he h9, fun _ U hU => by rw [← hU, h2]⟩
 ·exact ⟨[], _, by simp, h.1 he, fun _ => ⟨rfl, rfl⟩, fun h9 => absurd h9 he⟩
theorem LostR.val {d : Nat} {t : LT} {bs : List Wn} {w0 w1 m : Int} {r : AV} (h : LostR d t bs w0 w1 m r) (hl : (rdS d t).length ≤ 5000) : ∃ (Y : List (ByteArray × Int × Int)) (e : Int), Y.length ≤ 100000 ∧ r = .tup [.row 5 (Y.map encLo) none, .v (.int .i64 e)] ∧ (plyE d t bs w0 w1 m ≠ 0 → Y = [] ∧ e = plyE d t bs w0 w1 m) ∧
  (plyE d t bs w0 w1 m = 0 → ∀ U O, runE (rdS d t) w0 w1 m (cutF w0 w1 bs) (0, longA (rdS d t) 0) w0 = U → runE (rdS d t) w0 w1 m [] (0, longA (rdS d t) 0) w0 = O →
   (if U.length ≤ 3000 ∧ O.length ≤ 3000 then AV.tup [.row 5 (((onceS ((rdS d t).map (·.1))).filterMap (lostK (ownP U) (allP O))).map encLo) none, .v (.int .i64 0)] else .tup [.row 5 [] none, .v (.int .i64 2)]) = .tup [.row 5 (Y.map encLo) none, .v (.int .i64 e)]) := by
 by_cases he : plyE d t bs w0 w1 m = 0
 ·obtain ⟨U, hU⟩ : ∃ U, runE (rdS d t) w0 w1 m (cutF w0 w1 bs) (0, longA (rdS d t) 0) w0 = U := ⟨_, rfl⟩
  obtain ⟨O, hO⟩ : ∃ O, runE (rdS d t) w0 w1 m [] (0, longA (rdS d t) 0) w0 = O := ⟨_, rfl⟩
  obtain ⟨Y, e, h1, h2⟩ := lost_val (U.length ≤ 3000 ∧ O.length ≤ 3000) ((onceS ((rdS d t).map (·.1))).filterMap (lostK (ownP U) (allP O))) (by
   have h3 := List.length_filterMap_le (lostK (ownP U) (allP O)) (onceS ((rdS d t).map (·.1)))
   have h4 := onceS_len ((rdS d t).map (·.1))
   rw [List.length_map] at h4
   omega)
  exact ⟨Y, e, h1, by rw [h.2 he U O hU hO, h2], fun h9 => absurd he h9, fun _ U' O' hU' hO' => by rw [← hU', ← hO', hU, hO, h2]⟩
 ·exact ⟨[], _, by simp, h.1 he, fun _ => ⟨rfl, rfl⟩, fun h9 => absurd h9 he⟩
theorem g_lawInt (l : List Int) (h : Hp) (hl : SOk l) : ACalls Tryz.prog 6 [.row 1 (l.map encI) none] h (fun r _ => r = .v (.bool true)) := by
 refine gE Tryz.func6 rfl (by kernel_rfl) 133 rfl fun c => ?_
 (repeat (first | refine gQ rfl ?_ | ((refine gM zM43 fun K1 hK1 => ?_; simp only [go_sem, ↓reduceIte, reduceCtorEq, nA, nB, nC, nD, nE, nF] <;> and_intros <;> first | (apply hK1; clear hK1 K1) | skip))))
 intro i hi
 refine hK1 _ ?_; clear hK1 K1
 have e0 : ({ H := upd h.H i (some (.cells [.row 1 (l.map encI) none, .v (.int .i64 0)])), T := h.T } : Hp) = h.st i l 0 := rfl
 rw [e0]
 have hc3 : costR 3 = 1190 := by simp [costR]
 (repeat (first | refine gQ rfl ?_ | ((refine gM zM43 fun K1 hK1 => ?_; simp only [go_sem, ↓reduceIte, reduceCtorEq, nA, nB, nC, nD, nE, nF] <;> and_intros))))
 refine (g_Loop 3 3 (by omega) i l 0 h hl (by omega)).mono ?_; rintro _ _ ⟨t, a1, ht, ha1, rfl, rfl⟩; apply hK1; clear hK1 K1
 have hlen := encL_len t
 have htk : List.take 6 (encL t) = encL t := List.take_of_length_le (Nat.le_of_eq hlen)
 have hdr : List.drop 6 (encL t) = [] := List.drop_of_length_le (Nat.le_of_eq hlen)
 (repeat (((refine gM zM43 fun K1 hK1 => ?_; simp only [go_sem, ↓reduceIte, reduceCtorEq, nA, nB, nC, nD, nE, nF, hlen, htk, hdr] <;> and_intros))))
 refine (g_breaks i l a1 h hl (by omega)).mono ?_; rintro _ _ ⟨bs, a2, hbl, hbs, ha2, rfl, rfl⟩; apply hK1; clear hK1 K1
 (repeat (((refine gM zM43 fun K1 hK1 => ?_; simp only [go_sem, ↓reduceIte, reduceCtorEq, nA, nB, nC, nD, nE, nF, hlen, htk, hdr] <;> and_intros))))
 refine (g_span i l a2 h hl (by omega)).mono ?_; rintro _ _ ⟨w0, w1, a3, _, _, ha3, rfl, rfl⟩; apply hK1; clear hK1 K1
 (repeat (((refine gM zM43 fun K1 hK1 => ?_; simp only [go_sem, ↓reduceIte, reduceCtorEq, nA, nB, nC, nD, nE, nF, hlen, htk, hdr] <;> and_intros))))
 refine (g_odd i l a3 1 4 h hl (by omega) (by omega) (by omega) (by omega)).mono ?_; rintro _ _ ⟨m, a4, _, ha4, rfl, rfl⟩; apply hK1; clear hK1 K1
 have hkt : KC 23 t := ht.kc
 have hmt := size_small23 ht
 clear ha1 ha2 ha3 ha4 hc3 e0
 have hfa := fun h => g_fault6 23 t h hkt hmt
 have hRd := fun h => g_rounded 23 t h hkt hmt
 have hRu := fun h => g_Run 23 t bs w0 w1 m h hkt hmt hbs (by omega)
 have hLo := fun h => g_Lost 23 t bs w0 w1 m h hkt hmt hbs (by omega)
 have hb1 := fun h => g_brkP bs h hbs (by omega)
 have hb2 := fun h => g_brkR bs h hbs (by omega)
 have hwi := fun h => g_window w0 w1 h
 have hwh := fun h => a_when (decide (m < 1) || decide (4 < m)) 4 h
 have hw3 : (if (decide (m < 1) || decide (4 < m)) = true then (4 : Int) else 0) = if m < 1 ∨ 4 < m then 4 else 0 := by simp
 simp only [hw3] at hwh
 clear hw3
 have hor := fun h => g_orG [faultF t, brkE bs, if m < 1 ∨ 4 < m then 4 else 0, winE w0 w1, rdE 23 t] h (by simp)
 have hpe : orI [faultF t, brkE bs, if m < 1 ∨ 4 < m then 4 else 0, winE w0 w1, rdE 23 t] = plyE 23 t bs w0 w1 m := rfl
 rw [hpe] at hor
 have hok := fun e => plyE_ok (d := 23) (t := t) (bs := bs) (w0 := w0) (w1 := w1) (m := m) hkt e
 have hbn : ∀ x : Int, (x != x) = false := fun x => by simp
 have hbi : ∀ x : Int, (x == x) = true := fun x => by simp
 generalize h.st i l a4 = h1
 (repeat (first | refine gO rfl ?_ | ((refine gM zM43 fun K1 hK1 => ?_; simp only [go_sem, ↓reduceIte, reduceCtorEq, nA, nB, nC, nD, nE, nF, hlen, htk, hdr] <;> and_intros <;> first | (apply hK1; clear hK1 K1) | skip))))
 refine (hb1 _).mono ?_; rintro _ hz ⟨rfl, hh⟩; apply hK1; clear hK1 K1; rw [hh]; clear hh hz
 (repeat (((refine gM zM43 fun K1 hK1 => ?_; simp only [go_sem, ↓reduceIte, reduceCtorEq, nA, nB, nC, nD, nE, nF, hlen, htk, hdr] <;> and_intros))))
 refine (hb2 _).mono ?_; rintro _ hz ⟨rfl, hh⟩; apply hK1; clear hK1 K1; rw [hh]; clear hh hz
 (repeat (first | refine gO rfl ?_ | ((refine gM zM43 fun K1 hK1 => ?_; simp only [go_sem, ↓reduceIte, reduceCtorEq, nA, nB, nC, nD, nE, nF, hlen, htk, hdr] <;> and_intros <;> (apply hK1; clear hK1 K1)))))
 refine awp_cond (t := _) rfl (fun h9 => by rw [hbn] at h9; cases h9) (fun _ => ?_)
 (repeat (first | refine gO rfl ?_ | ((refine gM zM43 fun K1 hK1 => ?_; simp only [go_sem, ↓reduceIte, reduceCtorEq, nA, nB, nC, nD, nE, nF, hlen, htk, hdr] <;> and_intros))))
 refine (hRu _).mono ?_
 rintro r h2 hr
 obtain ⟨X, e1, hX, rfl, hr1, hr2⟩ := hr.val
 refine hK1 _ ?_; clear hK1 K1 hRu hr
 (repeat (first | refine gO rfl ?_ | ((refine gM zM43 fun K1 hK1 => ?_; simp only [go_sem, ↓reduceIte, reduceCtorEq, nA, nB, nC, nD, nE, nF, hlen, htk, hdr] <;> and_intros <;> first | (apply hK1; clear hK1 K1) | skip))))
 refine (hLo _).mono ?_
 rintro r h3 hr
 obtain ⟨Y, e2, hY, rfl, hs1, hs2⟩ := hr.val (rd_len hkt)
 refine hK1 _ ?_; clear hK1 K1 hLo hr
 (repeat (first | refine gO rfl ?_ | ((refine gM zM43 fun K1 hK1 => ?_; simp only [go_sem, ↓reduceIte, reduceCtorEq, nA, nB, nC, nD, nE, nF, hlen, htk, hdr] <;> and_intros <;> first | (apply hK1; clear hK1 K1) | skip))))
 refine (hRd _).mono ?_
 rintro _ h4 rfl
 refine hK1 _ ?_; clear hK1 K1 hRd
 (repeat (first | refine gO rfl ?_ | ((first | refine gM zM43 ?_ | ((with_reducible refine xS ?_); refine uD 8 zM43 zP1OE zP1OP 134 rfl (by kernel_rfl) ?_)) <;> ((try with_reducible intro K1 hK1); simp only [go_sem, ↓reduceIte, reduceCtorEq, nA, nB, nC, nD, nE, nF, hlen, htk, hdr] <;> and_intros <;> first | (apply hK1; clear hK1 K1) | skip))))
 refine (hfa _).mono ?_; rintro _ hz ⟨rfl, hh⟩; apply hK1; clear hK1 K1; rw [hh]; clear hh hz
 (repeat ((((with_reducible refine wM ?_ ?_)) <;> ((try with_reducible intro K1 hK1); simp only [go_sem, ↓reduceIte, reduceCtorEq, nA, nB, nC, nD, nE, nF, hlen, htk, hdr] <;> and_intros <;> first | (apply hK1; clear hK1 K1) | skip))))
 all_goals try with_reducible rfl
 (repeat (((refine gM zM43 fun K1 hK1 => ?_; simp only [go_sem, ↓reduceIte, reduceCtorEq, nA, nB, nC, nD, nE, nF, hlen, htk, hdr] <;> and_intros))))
 refine (hb2 _).mono ?_; rintro _ hz ⟨rfl, hh⟩; apply hK1; clear hK1 K1; rw [hh]; clear hh hz
 (repeat ((((with_reducible refine wM ?_ ?_)) <;> ((try with_reducible intro K1 hK1); simp only [go_sem, ↓reduceIte, reduceCtorEq, nA, nB, nC, nD, nE, nF, hlen, htk, hdr] <;> and_intros <;> first | (apply hK1; clear hK1 K1) | skip))))
 all_goals try with_reducible rfl
 (repeat (((refine gM zM43 fun K1 hK1 => ?_; simp only [go_sem, ↓reduceIte, reduceCtorEq, nA, nB, nC, nD, nE, nF, hlen, htk, hdr] <;> and_intros))))
 refine (hwh _).mono ?_; rintro _ hz ⟨rfl, hh⟩; apply hK1; clear hK1 K1; rw [hh]; clear hh hz
 (repeat ((((with_reducible refine wM ?_ ?_)) <;> ((try with_reducible intro K1 hK1); simp only [go_sem, ↓reduceIte, reduceCtorEq, nA, nB, nC, nD, nE, nF, hlen, htk, hdr] <;> and_intros <;> first | (apply hK1; clear hK1 K1) | skip))))
 all_goals try with_reducible rfl
 (repeat (((refine gM zM43 fun K1 hK1 => ?_; simp only [go_sem, ↓reduceIte, reduceCtorEq, nA, nB, nC, nD, nE, nF, hlen, htk, hdr] <;> and_intros))))
 refine (hwi _).mono ?_; rintro _ hz ⟨rfl, hh⟩; apply hK1; clear hK1 K1; rw [hh]; clear hh hz
 (repeat (((first | refine gM zM43 ?_ | (with_reducible refine wM ?_ ?_)) <;> ((try with_reducible intro K1 hK1); simp only [go_sem, ↓reduceIte, reduceCtorEq, nA, nB, nC, nD, nE, nF, hlen, htk, hdr] <;> and_intros <;> first | (apply hK1; clear hK1 K1) | (intros; (decide)) | skip))))
 all_goals try with_reducible rfl
 skip
 refine (hor _).mono ?_; rintro _ hz ⟨rfl, hh⟩; apply hK1; clear hK1 K1; rw [hh]; clear hh hz
 (repeat (first | refine gO rfl ?_ | ((first | refine gM zM43 ?_ | (with_reducible refine wM ?_ ?_)) <;> ((try with_reducible intro K1 hK1); simp only [go_sem, ↓reduceIte, reduceCtorEq, nA, nB, nC, nD, nE, nF, hlen, htk, hdr] <;> and_intros <;> (apply hK1; clear hK1 K1)))))
 by_cases he : plyE 23 t bs w0 w1 m = 0
 ·obtain ⟨hg, ⟨hbk, hbl5⟩, hw, hm⟩ := hok he
  obtain ⟨U, hU⟩ : ∃ U, runE (rdS 23 t) w0 w1 m (cutF w0 w1 bs) (0, longA (rdS 23 t) 0) w0 = U := ⟨_, rfl⟩
  obtain ⟨O, hO⟩ : ∃ O, runE (rdS 23 t) w0 w1 m [] (0, longA (rdS 23 t) 0) w0 = O := ⟨_, rfl⟩
  have hR := run_facts hg hw.2.1 hw.1 hbk hU
  have hRO := run_facts (bs := []) hg hw.2.1 hw.1 trivial hO
  obtain ⟨hA1, _, _⟩ := run_all hO
  have hro := fun h => g_runOf (rdS 23 t) w0 w1 m bs h hg hw hbl5 hbk hm hU
  have hlf := fun h => g_lostOf (rdS 23 t) w0 w1 m bs h hg hw hbl5 hbk hm hU hO hR.own (by rw [← hA1]; exact hRO.own)
  simp only [hr2 he U hU] at hro
  simp only [hs2 he U O hU hO] at hlf
  have hqx := fun h => g_eqPlay X h (by omega)
  have hqy := fun h => g_equalL Y h hY
  rw [he]
  clear hr1 hr2 hs1 hs2 hok hor hwi hwh hfa hb1 hb2 hR hRO hA1 hU hO he hpe
  refine awp_cond (t := _) rfl (fun h9 => by cases h9) (fun _ => ?_)
  (repeat (first | refine gO rfl ?_ | ((refine gM zM43 fun K1 hK1 => ?_; simp only [go_sem, ↓reduceIte, reduceCtorEq, nA, nB, nC, nD, nE, nF, hlen, htk, hdr] <;> and_intros))))
  refine (hro _).mono ?_
  rintro _ h5 rfl
  refine hK1 _ ?_; clear hK1 K1
  (repeat (first | refine gO rfl ?_ | ((refine gM zM43 fun K1 hK1 => ?_; simp only [go_sem, ↓reduceIte, reduceCtorEq, nA, nB, nC, nD, nE, nF, hlen, htk, hdr] <;> and_intros <;> first | (apply hK1; clear hK1 K1) | skip))))
  refine (hlf _).mono ?_
  rintro _ h6 rfl
  refine hK1 _ ?_; clear hK1 K1
  clear hro hlf hg hbk hw hm
  (repeat (first | refine gO rfl ?_ | ((refine gM zM43 fun K1 hK1 => ?_; simp only [go_sem, ↓reduceIte, reduceCtorEq, nA, nB, nC, nD, nE, nF, hbi] <;> and_intros <;> first | (apply hK1; clear hK1 K1) | (intros; (simp_all <;> omega)) | skip))))
  refine (hqx _).mono ?_; rintro _ hz ⟨rfl, hh⟩; refine ⟨rfl, hK1 _ ?_⟩; clear hK1 K1; rw [hh]; clear hh hz
  (repeat (((refine gM zM43 fun K1 hK1 => ?_; simp only [go_sem, ↓reduceIte, reduceCtorEq, nA, nB, nC, nD, nE, nF, hbi] <;> and_intros <;> first | (intros; (simp_all <;> omega)) | skip))))
  refine (hqy _).mono ?_; rintro _ hz ⟨rfl, hh⟩; refine ⟨rfl, hK1 _ ?_⟩; clear hK1 K1; rw [hh]; clear hh hz
  (repeat (((refine gM zM43 fun K1 hK1 => ?_; simp only [go_sem, ↓reduceIte, reduceCtorEq, nA, nB, nC, nD, nE, nF, hbi] <;> and_intros <;> first | (intros; (simp_all <;> omega)) | skip))))
  refine (g_loopedG _).mono ?_
  rintro _ h9 rfl
  refine ⟨rfl, hK1 _ ?_⟩; clear hK1 K1
  (repeat (first | refine gO rfl ?_ | ((refine gM zM43 fun K1 hK1 => ?_; simp only [go_sem, ↓reduceIte, reduceCtorEq, nA, nB, nC, nD, nE, nF, hbi] <;> and_intros <;> (apply hK1; clear hK1 K1)))))
  simp only [Tryz.results6, go_sem, ↓reduceIte, reduceCtorEq, nA, nB, nC, nD, nE, nF]
  exact ⟨_, _, Weak.refl _, Hp.le.refl _, rfl⟩
 ·have hb9 : (plyE 23 t bs w0 w1 m != 0) = true := by simpa using he
  obtain ⟨rfl, rfl⟩ := hr1 he
  obtain ⟨rfl, rfl⟩ := hs1 he
  clear hr1 hr2 hs1 hs2 hok hor hwi hwh hfa hb1 hb2 hpe
  generalize plyE 23 t bs w0 w1 m = e at *
  refine awp_cond (t := _) rfl (fun _ => ?_) (fun h9 => by rw [hb9] at h9; cases h9)
  have h00 : (((0 : Nat) : Int) == 0) = true := rfl
  (repeat (((refine gM zM43 fun K1 hK1 => ?_; simp only [go_sem, ↓reduceIte, reduceCtorEq, nA, nB, nC, nD, nE, nF, hbi, h00, List.map_nil] <;> and_intros <;> first | (intros; (simp_all <;> omega)) | skip))))
  refine (g_loopedG _).mono ?_
  rintro _ h9 rfl
  refine ⟨rfl, hK1 _ ?_⟩; clear hK1 K1
  (repeat (first | refine gO rfl ?_ | ((refine gM zM43 fun K1 hK1 => ?_; simp only [go_sem, ↓reduceIte, reduceCtorEq, nA, nB, nC, nD, nE, nF, hbi] <;> and_intros <;> (apply hK1; clear hK1 K1)))))
  simp only [Tryz.results6, go_sem, ↓reduceIte, reduceCtorEq, nA, nB, nC, nD, nE, nF]
  exact ⟨_, _, Weak.refl _, Hp.le.refl _, rfl⟩
end Go.Proofs.YtoleejecmefogaaGreatDoor
namespace Go.Proofs.YtoleejecmefogaaGreatDoor.loopsInterruptedDone
open Go.ChangeShapes Go.WideShapes Go.ChangeAt Go.RowKit
set_option linter.unusedVariables false
set_option linter.unusedSimpArgs false
theorem own : ownKnob Tryz.prog.godebug = none := by kernel_rfl
theorem laidOut : laidOutB Tryz.prog = true := by kernel_rfl
set_option maxRecDepth 100000 in
theorem lifted (os : Os) (started : os.Started) (H : Type) (enc : TypeId × Value → H) :
    ReturnsInHanded {} Tryz.checked os 6 .any (fun w args => (Rows.loopsInterruptedSpec.pre enc Tryz.prog Tryz.f6 [] false w args ∧ laidMetH Tryz.prog Rows.loopsInterruptedRow.laid w) ∧ sizedMet enc Tryz.prog Tryz.f6 (OpenSpec.ofChange Rows.loopsInterruptedSpec) false w args)
      (Rows.loopsInterruptedSpec.post enc Tryz.prog Tryz.f6 false true false false) := by
  refine returnsInHanded_of_change_and (C := Tryz.checked) (X := fun w _ => laidMetH Tryz.prog Rows.loopsInterruptedRow.laid w) (fun _ _ _ hh h => h.of_heap hh) own started (by kernel_rfl) Tryz.func6
    (ChangeSpec.witness_shaped (enc := enc) (C := Tryz.checked) (os := os) (X := fun w _ => laidMetH Tryz.prog Rows.loopsInterruptedRow.laid w) false (World.laidAll Tryz.prog os Rows.loopsInterruptedRow.laid) #[.slice none 0 0] 8 (World.laidAll_os _ _ _)
      (World.shaped_of_ZipB (by kernel_rfl) (by kernel_rfl)) (by kernel_rfl) (by kernel_rfl) (by kernel_rfl)
      (by rw [MakeChecks.laidMetH_plain _ _ _ (by kernel_rfl)]; exact laidMet_laidAll _ (by kernel_rfl) (by kernel_rfl))) ?_
  intro W base args ds gs before hval0 hW _ _ hL _
  have hval : ∀ (j : Nat) t v, Tryz.f6.params[j]? = some t → args[j]? = some v → Value.okWide Tryz.prog W .any base t v := hval0
  have hW' := hW
  obtain ⟨p, q, hA0, hV, rfl, hfz, hnd⟩ := hW
  have hA : DataW.TrodAll enc Tryz.prog W 0 (fun _ => true) true Tryz.f6.params.toList args.toList ds p := hA0
  rw [Tryz.params6] at hA hval
  obtain ⟨v0, vs0, d0, ds0, p0, q0, hargs, rfl, rfl, h0, r0⟩ := trodAll_cons hA
  obtain ⟨rfl, rfl, rfl⟩ := trodAll_nil r0
  obtain rfl : args = #[v0] := by cases args; simp_all
  obtain ⟨rfl, rfl⟩ := trodVars_none hV
  obtain ⟨a0, len0, cap0, rfl⟩ := okWide_slice Tryz.underlying22 (hval 0 22 v0 rfl rfl)
  have k0 := h0
  have lt0 : ∀ x ∈ p0, x.block < W.heap.size := by obtain ⟨m, hm⟩ := k0; exact DataW.trod_lt m _ _ _ hm
  obtain ⟨z0, w0⟩ : ∃ zs, ARow W a0 len0 cap0 zs := by
    obtain ⟨fuel, hf⟩ := h0
    rcases open_ints Tryz.underlying22 Tryz.underlying3 (by kernel_rfl) hf with ⟨hcs, _⟩ | ⟨x, l, c, zs, hcs, _, hl, hm, hz, hpe, hcell, hwz⟩
    · simp [Value.cells] at hcs
      obtain ⟨rfl, rfl, rfl⟩ := hcs
      exact ⟨[], .inl ⟨rfl, rfl, rfl, rfl⟩⟩
    · simp [Value.cells] at hcs
      obtain ⟨rfl, rfl, rfl⟩ := hcs
      have hp0 : p0 = MemPlace.row x zs.length := (Prod.mk.inj hpe).2
      refine ⟨zs, .inr ⟨_, rfl, hl, hm, by simpa using hz, fun i hi => ⟨hcell i hi, ?_⟩, hwz⟩⟩
      have h1 := hcell 0 (by omega)
      obtain ⟨b, o, sp⟩ := x
      rw [show (⟨b, o, sp⟩ : Addr).add 0 = ⟨b, o, sp⟩ from rfl] at h1
      cases sp with
      | none => rw [Addr.add_lit]; exact hfz b (o + i) (by rw [hp0]; simp only [MemPlace.row, List.append_nil]; exact List.mem_map.2 ⟨i, List.mem_range.2 hi, rfl⟩)
      | some s =>
        simp only [World.cell?] at h1
        split at h1 <;> simp at h1
  clear hA0 hval0
  refine (law_calls g_lawInt a0 len0 cap0 z0 W w0).mono fun e W' ⟨he, bel⟩ => ?_
  subst he
  exact ⟨_, rfl, _, _, _, [], _, [], hW', trodAll_mk1 (shut_bool Tryz.underlying4 _), (trodAll_cons_mk (Below.trod laidOut (by kernel_rfl) (of_decide_eq_true (by kernel_rfl)) k0 bel lt0) trodAll_mk0), rfl, bel.frame _, fun h => by cases h⟩
theorem said : Rows.LoopsInterruptedSaid :=
  OpenClaim.holds_of_wide 6 Tryz.f6 rfl rfl rfl rfl rfl rfl rfl ⟨rfl, rfl, rfl, rfl, rfl⟩ rfl rfl rfl rfl rfl (by kernel_rfl) Tryz.func6 (by kernel_rfl)
    (of_decide_eq_true (by kernel_rfl)) (by unfold Func.isWrapper; first | (rw [if_pos (by decide +kernel)]; kernel_rfl) | (rw [if_neg (by decide +kernel)]; exact ⟨rfl, rfl⟩))
    (fun os started H enc _ => lifted os started H enc)
theorem plain (f : FuncId) (fn : Func) (hf : Tryz.pinned.checked.prog.funcNamed "signboard/signlaw1.LoopsInterrupted" = some f) (hfn : Tryz.pinned.checked.prog.funcs[f]? = some fn) :
    true = Tryz.pinned.checked.prog.looks [] ∧ ∀ (j : Nat) t, fn.params[j]? = some t → Tryz.pinned.checked.prog.wantsStandIn t = false := by
  obtain rfl : f = 6 := Option.some.inj ((show Tryz.prog.funcNamed "signboard/signlaw1.LoopsInterrupted" = some 6 by kernel_rfl).symm.trans hf) |>.symm
  obtain rfl : fn = Tryz.f6 := (Option.some.inj (Tryz.func6.symm.trans hfn)).symm
  refine ⟨by kernel_rfl, fun j t ht => ?_⟩
  rw [Tryz.params6] at ht
  obtain rfl : t = 22 := by simpa using Array.mem_of_getElem? ht
  exact (show Tryz.prog.wantsStandIn 22 = false by kernel_rfl)
theorem card : Rows.LoopsInterruptedCardSaid :=
  Claim7.holds_tied_plain_at .later [] _ _ _ _ said (fun _ h => by cases h) (by kernel_rfl) (fun _ h => by cases h) loopsInterrupted_row_tie rfl ⟨rfl, rfl⟩ (by kernel_rfl) rfl plain (by kernel_rfl)
end Go.Proofs.YtoleejecmefogaaGreatDoor.loopsInterruptedDone
