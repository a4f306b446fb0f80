/- asset.Breaches of any players and plays, in trees. -/
import Derived.Test.YtmghfolmgmhabaaGreatDoorM3
import Derived.Lib.SlicesCompact
import Derived.Sort.KeysCollected
import Derived.Lib.OwnBridge
import Derived.Lib.Hide
import Derived.Test.YtmghfolmgmhabaaGreatDoorAvCut
import Derived.Test.YtmghfolmgmhabaaGreatDoorShelf
import Derived.Test.YtmghfolmgmhabaaGreatDoorAvOld
import Derived.Lib.AppendZeros
import Derived.Test.YtmghfolmgmhabaaGreatDoorAvOwn
import Derived.Shelf.RegionOpenPlain
import Derived.WalkKit
import Derived.Deep.LoopGhost
import Derived.Deep.RegionLaw
import Derived.Lib.Walk
import Derived.Sort.WalkB12
import Derived.Lib.SliceRun
import Derived.Lib.SlicesDelete
import Derived.Test.YtmghfolmgmhabaaGreatDoorAvClr
namespace Go.Proofs.YtmghfolmgmhabaaGreatDoor
open Go
set_option linter.unusedVariables false
set_option linter.unusedSimpArgs false
open Nat renaming reduceAdd → nA, reduceSub → nB, reduceMul → nC, reduceLT → nD, reduceLeDiff → nE, reduceEqDiff → nF, reduceMod → nG, reduceDiv → nH, reducePow → nI
abbrev zM40 : Option Tmp → Nat := mdL [(12, 1), (14, 1), (19, 1)]
abbrev zM41 : Option Tmp → Nat := mdL [(5, 1)]
abbrev zM42 : Option Tmp → Nat := mdL [(5, 1), (9, 1), (13, 1), (31, 1)]
abbrev zM43 : Option Tmp → Nat := mdL [(7, 1)]
abbrev zM44 : Option Tmp → Nat := mdL [(6, 1), (7, 1), (11, 1)]
attribute [go_sem] zM40 zM41 zM42 zM43 zM44
abbrev zPWE : List Nat := [0, 1, 2, 3, 4, 5, 6, 7, 8, 9, 10, 11, 12, 13, 14, 15, 16, 17]
abbrev zPWP : List (Nat × List Nat × List Nat) := [(18, [], [19])]
attribute [go_sem] zPWE zPWP
set_option maxRecDepth 100000
set_option maxHeartbeats 8000000
theorem mget_set (k key : ByteArray) (v : AV) : ∀ es : List (ByteArray × AV), mget key (mset k v es) = if k = key then some v else mget key es
 | [] => by simp [mset, mget]
 | (q, y) :: es => by
  by_cases h1 : q = k
  ·subst h1
   simp only [mset, if_true, mget]
   split <;> rfl
  ·simp only [mset, if_neg h1, mget]
   rw [mget_set k key v es]
   by_cases h2 : q = key
   ·subst h2
    rw [if_pos rfl, if_neg (fun e => h1 e.symm), if_pos rfl]
   ·rw [if_neg h2, if_neg h2]
theorem whoI_app (key : ByteArray) (p : Gu) : ∀ (l : List Gu) (j : Nat), whoI (l ++ [p]) key j = if whoI l key j < 0 then (if p.key = key then ((j + l.length : Nat) : Int) else -1) else whoI l key j
 | [], j => by simp [whoI]
 | q :: l, j => by
  rw [List.cons_append, whoI, whoI]
  by_cases h : q.key = key
  ·rw [if_pos h, if_pos h, if_neg (by omega)]
  ·rw [if_neg h, if_neg h, whoI_app key p l (j + 1)]
   rw [show j + 1 + l.length = j + (q :: l).length by simp; omega]
theorem whoI_no {key : ByteArray} : ∀ {l : List Gu} {j : Nat}, (∀ q ∈ l, q.key ≠ key) → whoI l key j = -1
 | [], _, _ => rfl
 | q :: l, j, h => by
  rw [whoI, if_neg (h q (by simp))]
  exact whoI_no fun p hp => h p (by simp [hp])
theorem notAft_lt {s q : ByteArray} (h : ¬ notAft s (some q) = true) : ltB q s = true := ltB_of (by rwa [Bool.not_eq_true] at h)
theorem plF_ok : ∀ {l : List Gu} {q : Option ByteArray}, plF l q = 0 → (∀ p ∈ l, guF p = 0) ∧ (l.Pairwise fun a b => ltB a.key b.key = true) ∧ ∀ k, q = some k → ∀ p ∈ l, ltB k p.key = true
 | [], _, _ => ⟨fun _ h => (by cases h), .nil, fun _ _ _ h => (by cases h)⟩
 | p :: l, q, h => by
  rw [plF] at h
  split at h
  ·rename_i h1
   split at h
   ·cases h
   ·rename_i h2
    obtain ⟨q1, q2, q3⟩ := plF_ok h
    have h3 := q3 p.key rfl
    refine ⟨fun x hx => ?_, List.pairwise_cons.2 ⟨h3, q2⟩, fun k hk x hx => ?_⟩
    ·rcases List.mem_cons.1 hx with rfl | hx
     ·exact h1
     ·exact q1 x hx
    ·subst hk
     rcases List.mem_cons.1 hx with rfl | hx
     ·exact notAft_lt h2
     ·exact ltB_trans (notAft_lt h2) (h3 x hx)
  ·rename_i h1; exact absurd h h1
def MFit (l : List Gu) (es : List (ByteArray × AV)) : Prop := ∀ key, mget key es = if whoI l key 0 < 0 then none else some (.v (.int .i64 (whoI l key 0)))
theorem MFit.step {ps : List Gu} {j : Nat} {es : List (ByteArray × AV)} (h : MFit (ps.take j) es) (hj : j < ps.length) (hp : ps.Pairwise fun a b => ltB a.key b.key = true) : MFit (ps.take (j + 1)) (mset ps[j].key (.v (.int .i64 j)) es) := fun key => by
 have hd : ∀ q ∈ ps.take j, q.key ≠ ps[j].key := fun q hq e => by
  obtain ⟨m, hm⟩ := List.mem_iff_getElem?.1 hq
  rw [List.getElem?_take] at hm
  split at hm
  ·rename_i hmj
   obtain ⟨hml, hme⟩ := List.getElem?_eq_some_iff.1 hm
   have := List.pairwise_iff_getElem.1 hp m j hml hj hmj
   rw [hme, e, ltB_irr] at this; cases this
  ·cases hm
 rw [mget_set, List.take_succ_eq_append_getElem hj, whoI_app, h key]
 by_cases e : ps[j].key = key
 ·subst e
  have e1 : (if (-1 : Int) < 0 then (if ps[j].key = ps[j].key then ((0 + (ps.take j).length : Nat) : Int) else -1) else -1) = (j : Int) := by
   rw [if_pos (by omega), if_pos rfl, List.length_take, Nat.min_eq_left (by omega), Nat.zero_add]
  rw [whoI_no hd, if_pos rfl, e1, if_neg (by omega)]
 ·rw [if_neg e, if_neg e]
  by_cases e2 : whoI (ps.take j) key 0 < 0
  ·rw [if_pos e2, if_pos e2, if_pos (by decide)]
  ·rw [if_neg e2, if_neg e2, if_neg e2]
def brF (rs : List Rt) (ps : List Gu) (pl : List Pq) : Int := if rightsF rs = 0 then (if plF ps none = 0 then plsF ps pl else plF ps none) else rightsF rs
theorem g_brG (rs : List Rt) (ps : List Gu) (pl : List Pq) (hl : rs.length ≤ 12) (hok : ∀ r ∈ rs, RtOk r) (hps : ps.length ≤ 400) (hpo : ∀ p ∈ ps, GuOk p) (hpl : pl.length ≤ 100) (hxo : ∀ x ∈ pl, PqOk x) (h : Hp) :
  ACalls Tryz.prog 33 [.row 5 (rs.map encRt) none, .row 4 (ps.map encGu) none, .row 4 (pl.map encPq) none] h
   (fun r h' => r = .tup [if brF rs ps pl = 0 then .row 1 ((outG (whOk rs ps) pl 0).map encI) none else .v (.slice none 0 0), .v (.int .i64 (brF rs ps pl))] ∧ h' = h) := by
 have hR := g_checkRights rs none (by omega) hok h
 have hPF := g_playersFA ps hps hpo h
 have hml : (pl.map encPq).length = pl.length := List.length_map _
 have hmp : (ps.map encGu).length = ps.length := List.length_map _
 refine gE Tryz.func33 rfl (by kernel_rfl) 108 rfl fun c => ?_
 (repeat (first | refine gO rfl ?_ | ((first | refine gM zM40 ?_ | (with_reducible refine wM ?_ ?_) | ((with_reducible refine xS ?_); refine uD 30 zM40 zPWE zPWP 111 rfl (by kernel_rfl) ?_)) <;> ((try with_reducible intro K1 hK1); simp only [go_sem, ↓reduceIte, reduceCtorEq, nA, nB, nC, nD, nE, nF] <;> and_intros <;> first | (apply hK1; clear hK1 K1) | (intros; first | omega | decide) | skip))))
 refine hR.mono ?_; rintro _ hz ⟨rfl, hh⟩; apply hK1; clear hK1 K1; rw [hh]; clear hh hz
 (repeat (first | refine gO rfl ?_ | ((first | refine gM zM40 ?_ | (with_reducible refine wM ?_ ?_) | ((with_reducible refine xS ?_); refine uD 30 zM40 zPWE zPWP 111 rfl (by kernel_rfl) ?_)) <;> ((try with_reducible intro K1 hK1); simp only [go_sem, ↓reduceIte, reduceCtorEq, nA, nB, nC, nD, nE, nF] <;> and_intros <;> first | (apply hK1; clear hK1 K1) | (intros; first | omega | decide) | skip))))
 by_cases hF : rightsF rs = 0
 case neg =>
  have hb : (rightsF rs != 0) = true := by simpa using hF
  have hbf : brF rs ps pl = rightsF rs := if_neg hF
  refine awp_cond (t := _) rfl (fun _ => ?_) (fun h6 => by cases h6.symm.trans hb)
  (repeat (first | refine gO rfl ?_ | ((first | refine gM zM40 ?_ | (with_reducible refine wM ?_ ?_) | ((with_reducible refine xS ?_); refine uD 30 zM40 zPWE zPWP 111 rfl (by kernel_rfl) ?_)) <;> ((try with_reducible intro K1 hK1); simp only [go_sem, ↓reduceIte, reduceCtorEq, nA, nB, nC, nD, nE, nF] <;> and_intros <;> first | (apply hK1; clear hK1 K1) | (intros; first | omega | decide) | skip))))
  simp only [Tryz.results33, go_sem, ↓reduceIte, reduceCtorEq, nA, nB, nC, nD, nE, nF]
  exact ⟨_, _, Weak.refl _, Hp.le.refl _, by rw [hbf, if_neg hF], rfl⟩
 have hb : (rightsF rs != 0) = false := by rw [hF]; rfl
 refine awp_cond (t := _) rfl (fun h6 => by cases h6.symm.trans hb) (fun _ => ?_)
 (repeat (first | refine gO rfl ?_ | ((first | refine gM zM40 ?_ | (with_reducible refine wM ?_ ?_) | ((with_reducible refine xS ?_); refine uD 30 zM40 zPWE zPWP 111 rfl (by kernel_rfl) ?_)) <;> ((try with_reducible intro K1 hK1); simp only [go_sem, ↓reduceIte, reduceCtorEq, nA, nB, nC, nD, nE, nF] <;> and_intros <;> first | (apply hK1; clear hK1 K1) | (intros; first | omega | decide) | skip))))
 refine hPF.mono ?_; rintro _ hz ⟨rfl, hh⟩; apply hK1; clear hK1 K1; rw [hh]; clear hh hz
 (repeat (first | refine gO rfl ?_ | ((first | refine gM zM40 ?_ | (with_reducible refine wM ?_ ?_) | ((with_reducible refine xS ?_); refine uD 30 zM40 zPWE zPWP 111 rfl (by kernel_rfl) ?_)) <;> ((try with_reducible intro K1 hK1); simp only [go_sem, ↓reduceIte, reduceCtorEq, nA, nB, nC, nD, nE, nF] <;> and_intros <;> first | (apply hK1; clear hK1 K1) | (intros; first | omega | decide) | skip))))
 by_cases hG : plF ps none = 0
 case neg =>
  have hb : (plF ps none != 0) = true := by simpa using hG
  have hbf : brF rs ps pl = plF ps none := by unfold brF; rw [if_pos hF, if_neg hG]
  refine awp_cond (t := _) rfl (fun _ => ?_) (fun h6 => by cases h6.symm.trans hb)
  (repeat (first | refine gO rfl ?_ | ((first | refine gM zM40 ?_ | (with_reducible refine wM ?_ ?_) | ((with_reducible refine xS ?_); refine uD 30 zM40 zPWE zPWP 111 rfl (by kernel_rfl) ?_)) <;> ((try with_reducible intro K1 hK1); simp only [go_sem, ↓reduceIte, reduceCtorEq, nA, nB, nC, nD, nE, nF] <;> and_intros <;> first | (apply hK1; clear hK1 K1) | (intros; first | omega | decide) | skip))))
  simp only [Tryz.results33, go_sem, ↓reduceIte, reduceCtorEq, nA, nB, nC, nD, nE, nF]
  exact ⟨_, _, Weak.refl _, Hp.le.refl _, by rw [hbf, if_neg hG], rfl⟩
 have hb : (plF ps none != 0) = false := by rw [hG]; rfl
 refine awp_cond (t := _) rfl (fun h6 => by cases h6.symm.trans hb) (fun _ => ?_)
 have hbf : brF rs ps pl = plsF ps pl := by unfold brF; rw [if_pos hF, if_pos hG]
 rw [hbf]
 clear hbf hR hPF hF
 obtain ⟨hg1, hg2, _⟩ := plF_ok hG
 (repeat (first | refine gO rfl ?_ | ((first | refine gM zM40 ?_ | (with_reducible refine wM ?_ ?_) | ((with_reducible refine xS ?_); refine uD 30 zM40 zPWE zPWP 111 rfl (by kernel_rfl) ?_)) <;> ((try with_reducible intro K1 hK1); simp only [go_sem, ↓reduceIte, reduceCtorEq, nA, nB, nC, nD, nE, nF, hml] <;> and_intros <;> first | (apply hK1; clear hK1 K1) | (intros; first | omega | decide) | skip))))
 refine awp_cond (t := _) rfl (fun h5 => absurd (of_decide_eq_true h5) (by omega)) (fun _ => ?_)
 (repeat (first | refine gO rfl ?_ | ((first | refine gM zM40 ?_ | (with_reducible refine wM ?_ ?_) | ((with_reducible refine xS ?_); refine uD 30 zM40 zPWE zPWP 111 rfl (by kernel_rfl) ?_)) <;> ((try with_reducible intro K1 hK1); simp only [go_sem, ↓reduceIte, reduceCtorEq, nA, nB, nC, nD, nE, nF] <;> and_intros <;> first | (apply hK1; clear hK1 K1) | (intros; first | omega | decide) | skip))))
 intro m hm
 refine hK1 _ ?_; clear hK1 K1
 (repeat (first | refine gO rfl ?_ | ((first | refine gM zM40 ?_ | (with_reducible refine wM ?_ ?_) | ((with_reducible refine xS ?_); refine uD 30 zM40 zPWE zPWP 111 rfl (by kernel_rfl) ?_)) <;> ((try with_reducible intro K1 hK1); simp only [go_sem, ↓reduceIte, reduceCtorEq, nA, nB, nC, nD, nE, nF, hmp] <;> and_intros <;> first | (apply hK1; clear hK1 K1) | (intros; first | omega | decide) | skip))))
 refine awp_loopC (rl false [0, 3, 7, 1, 23, 3, 74]) 0 (fun g s => ∃ (j : Nat) (es : List (ByteArray × AV)), g + j = ps.length ∧ MFit (ps.take j) es ∧
  s = ⟨((.row 5 (rs.map encRt) none) :: (.row 4 (ps.map encGu) none) :: (.row 4 (pl.map encPq) none) :: (jnk 7 ((.map m) :: (jnk 23 ((.row 4 (ps.map encGu) none) :: (.v (.int .i64 ps.length)) :: (.v (.int .i64 j)) :: (jnk 74 [])))))), [], ⟨upd h.H m (some (.map es)), h.T⟩⟩) ps.length ⟨0, [], by omega, fun key => rfl, rfl⟩ ?_
 rintro g _ ⟨j, es, hj, hfit, rfl⟩
 have hmq : upd h.H m (some (AO.map es)) m = some (AO.map es) := upd_same _ _ _
 (repeat (first | refine gO rfl ?_ | ((first | refine gM zM40 ?_ | (with_reducible refine wM ?_ ?_) | ((with_reducible refine xS ?_); refine uD 30 zM40 zPWE zPWP 111 rfl (by kernel_rfl) ?_)) <;> ((try with_reducible intro K1 hK1); simp only [go_sem, ↓reduceIte, reduceCtorEq, nA, nB, nC, nD, nE, nF] <;> and_intros <;> first | (apply hK1; clear hK1 K1) | (intros; first | omega | decide) | skip))))
 refine awp_cond (t := _) rfl (fun h5 => ?_) (fun h5 => ?_)
 ·simp only [decide_eq_true_eq] at h5
  have hjl : j < ps.length := by omega
  have gp : (ps.map encGu).getD j [] = encGu ps[j] := by rw [List.getD_eq_getElem?_getD, List.getElem?_map, List.getElem?_eq_getElem hjl]; rfl
  have hst := hfit.step hjl hg2
  generalize ps[j] = p at *
  rw [show encGu p = [.v (.string p.key), .v (.string p.scr), .v (.int .i64 p.zone), .row 1 (p.tags.map encS) none] from rfl] at gp
  (repeat (first | refine gO rfl ?_ | ((first | refine gM zM40 ?_ | (with_reducible refine wM ?_ ?_) | ((with_reducible refine xS ?_); refine uD 30 zM40 zPWE zPWP 111 rfl (by kernel_rfl) ?_)) <;> ((try with_reducible intro K1 hK1); simp only [go_sem, ↓reduceIte, reduceCtorEq, nA, nB, nC, nD, nE, nF, hmp, Int.toNat_natCast, gp, hmq, upd_upd] <;> and_intros <;> first | (apply hK1; clear hK1 K1) | (intros; first | omega | decide) | skip))))
  exact ⟨g - 1, by omega, j + 1, _, by omega, hst, rfl⟩
 ·simp only [decide_eq_false_iff_not] at h5
  have hjl : j = ps.length := by omega
  subst hjl
  rw [List.take_length] at hfit
  (repeat (first | refine gO rfl ?_ | ((first | refine gM zM40 ?_ | (with_reducible refine wM ?_ ?_) | ((with_reducible refine xS ?_); refine uD 30 zM40 zPWE zPWP 111 rfl (by kernel_rfl) ?_)) <;> ((try with_reducible intro K1 hK1); simp only [go_sem, ↓reduceIte, reduceCtorEq, nA, nB, nC, nD, nE, nF, hml] <;> and_intros <;> first | (apply hK1; clear hK1 K1) | (intros; first | omega | decide) | skip))))
  have hHm : ∀ i, h.H i = none ∨ h.H i = upd h.H m (some (AO.map es)) i := fun i => by
   by_cases e : i = m
   ·subst e; exact .inl hm
   ·exact .inr (by rw [upd_other _ _ e])
  obtain ⟨h1, hh1⟩ : ∃ h1 : Hp, h1 = ⟨upd h.H m (some (AO.map es)), h.T⟩ := ⟨_, rfl⟩
  have hmq1 : h1.H m = some (AO.map es) := by rw [hh1]; exact hmq
  have hH1 : ∀ i, h.H i = none ∨ h.H i = h1.H i := fun i => by rw [hh1]; exact hHm i
  have hT1 : h1.T = h.T := by rw [hh1]
  have hle1 : Hp.le h h1 := ⟨hH1, fun t => .inr (by rw [hT1])⟩
  rw [← hh1]
  clear hh1 hHm hmq hm h5 hj hG hg2
  refine awp_loopC (rl false [0, 3, 7, 1, 35, 3, 62]) 0 (fun g s => ∃ (j : Nat), g + j = pl.length ∧ plsF ps (pl.drop j) = plsF ps pl ∧
   s = ⟨((.row 5 (rs.map encRt) none) :: (.row 4 (ps.map encGu) none) :: (.row 4 (pl.map encPq) none) :: (jnk 7 ((.map m) :: (jnk 35 ((.row 4 (pl.map encPq) none) :: (.v (.int .i64 pl.length)) :: (.v (.int .i64 j)) :: (jnk 62 [])))))), [], h1⟩) pl.length ⟨0, by omega, rfl, rfl⟩ ?_
  rintro g _ ⟨j, hj, hinv, rfl⟩
  (repeat (first | refine gO rfl ?_ | ((first | refine gM zM40 ?_ | (with_reducible refine wM ?_ ?_) | ((with_reducible refine xS ?_); refine uD 30 zM40 zPWE zPWP 111 rfl (by kernel_rfl) ?_)) <;> ((try with_reducible intro K1 hK1); simp only [go_sem, ↓reduceIte, reduceCtorEq, nA, nB, nC, nD, nE, nF] <;> and_intros <;> first | (apply hK1; clear hK1 K1) | (intros; first | omega | decide) | skip))))
  refine awp_cond (t := _) rfl (fun h5 => ?_) (fun h5 => ?_)
  ·simp only [decide_eq_true_eq] at h5
   have hjl : j < pl.length := by omega
   have gx : (pl.map encPq).getD j [] = encPq pl[j] := by rw [List.getD_eq_getElem?_getD, List.getElem?_map, List.getElem?_eq_getElem hjl]; rfl
   have hxo1 := hxo _ (List.getElem_mem hjl)
   rw [List.drop_eq_getElem_cons hjl, plsF] at hinv
   generalize pl[j] = x at *
   obtain ⟨who, it, fr, lo⟩ := x
   rw [show encPq (who, it, fr, lo) = [.v (.string who), .v (.string it), .v (.int .i64 fr), .v (.int .i64 lo)] from rfl] at gx
   obtain ⟨hw1, hw2, hw3, hw4⟩ := hxo1
   simp only at hw1 hw2 hw3 hw4
   have hpf : pqF ps (who, it, fr, lo) = if whoI ps who 0 < 0 then 8 else if keyB it = false then 5 else if longB fr lo = true then 1 else 0 := rfl
   rw [hpf] at hinv
   clear hpf
   have hfw := hfit who
   have hIK := a_isKey it (by omega) h1
   have hIM := g_isMoment fr h1
   have hOU := a_outside lo 1 (345686400000 - fr) h1
   have hlb : longB fr lo = (momF fr != 0 || !(decide (1 ≤ lo) && decide (lo ≤ 345686400000 - fr))) := rfl
   rw [hlb] at hinv
   clear hlb
   generalize whoI ps who 0 = w at *
   by_cases hw : w < 0
   ·rw [if_pos hw] at hfw
    rw [if_pos hw, if_neg (by decide)] at hinv
    (repeat (first | refine gO rfl ?_ | ((first | refine gM zM40 ?_ | (with_reducible refine wM ?_ ?_) | ((with_reducible refine xS ?_); refine uD 30 zM40 zPWE zPWP 111 rfl (by kernel_rfl) ?_)) <;> ((try with_reducible intro K1 hK1); simp only [go_sem, ↓reduceIte, reduceCtorEq, nA, nB, nC, nD, nE, nF, hml, Int.toNat_natCast, gx, hmq1, hfw, Bool.not_false] <;> and_intros <;> first | (apply hK1; clear hK1 K1) | (intros; first | omega | decide) | skip))))
    refine awp_cond (t := _) rfl (fun _ => ?_) (fun h6 => by cases h6)
    (repeat (first | refine gO rfl ?_ | ((first | refine gM zM40 ?_ | (with_reducible refine wM ?_ ?_) | ((with_reducible refine xS ?_); refine uD 30 zM40 zPWE zPWP 111 rfl (by kernel_rfl) ?_)) <;> ((try with_reducible intro K1 hK1); simp only [go_sem, ↓reduceIte, reduceCtorEq, nA, nB, nC, nD, nE, nF] <;> and_intros <;> first | (apply hK1; clear hK1 K1) | (intros; first | omega | decide) | skip))))
    simp only [Tryz.results33, go_sem, ↓reduceIte, reduceCtorEq, nA, nB, nC, nD, nE, nF]
    exact ⟨_, h, Weak.refl _, hle1, by rw [← hinv]; rfl, rfl⟩
   ·rw [if_neg hw] at hfw
    rw [if_neg hw] at hinv
    (repeat (first | refine gO rfl ?_ | ((first | refine gM zM40 ?_ | (with_reducible refine wM ?_ ?_) | ((with_reducible refine xS ?_); refine uD 30 zM40 zPWE zPWP 111 rfl (by kernel_rfl) ?_)) <;> ((try with_reducible intro K1 hK1); simp only [go_sem, ↓reduceIte, reduceCtorEq, nA, nB, nC, nD, nE, nF, hml, Int.toNat_natCast, gx, hmq1, hfw, Bool.not_true] <;> and_intros <;> first | (apply hK1; clear hK1 K1) | (intros; first | omega | decide) | skip))))
    refine awp_cond (t := _) rfl (fun h6 => by cases h6) (fun _ => ?_)
    (repeat (first | refine gO rfl ?_ | ((first | refine gM zM40 ?_ | (with_reducible refine wM ?_ ?_) | ((with_reducible refine xS ?_); refine uD 30 zM40 zPWE zPWP 111 rfl (by kernel_rfl) ?_)) <;> ((try with_reducible intro K1 hK1); simp only [go_sem, ↓reduceIte, reduceCtorEq, nA, nB, nC, nD, nE, nF] <;> and_intros <;> first | (apply hK1; clear hK1 K1) | (intros; first | omega | decide) | skip))))
    refine hIK.mono ?_; rintro _ hz ⟨rfl, hh⟩; apply hK1; clear hK1 K1; rw [hh]; clear hh hz
    cases hk : keyB it with
    | false =>
     rw [hk, if_pos rfl, if_neg (by decide)] at hinv
     (repeat (first | refine gO rfl ?_ | ((first | refine gM zM40 ?_ | (with_reducible refine wM ?_ ?_) | ((with_reducible refine xS ?_); refine uD 30 zM40 zPWE zPWP 111 rfl (by kernel_rfl) ?_)) <;> ((try with_reducible intro K1 hK1); simp only [go_sem, ↓reduceIte, reduceCtorEq, nA, nB, nC, nD, nE, nF, hk, Bool.not_false] <;> and_intros <;> first | (apply hK1; clear hK1 K1) | (intros; first | omega | decide) | skip))))
     refine awp_cond (t := _) rfl (fun _ => ?_) (fun h6 => by cases h6)
     (repeat (first | refine gO rfl ?_ | ((first | refine gM zM40 ?_ | (with_reducible refine wM ?_ ?_) | ((with_reducible refine xS ?_); refine uD 30 zM40 zPWE zPWP 111 rfl (by kernel_rfl) ?_)) <;> ((try with_reducible intro K1 hK1); simp only [go_sem, ↓reduceIte, reduceCtorEq, nA, nB, nC, nD, nE, nF] <;> and_intros <;> first | (apply hK1; clear hK1 K1) | (intros; first | omega | decide) | skip))))
     simp only [Tryz.results33, go_sem, ↓reduceIte, reduceCtorEq, nA, nB, nC, nD, nE, nF]
     exact ⟨_, h, Weak.refl _, hle1, by rw [← hinv]; rfl, rfl⟩
    | true =>
     rw [hk, if_neg (show ¬ (true = false) by decide)] at hinv
     (repeat (first | refine gO rfl ?_ | ((first | refine gM zM40 ?_ | (with_reducible refine wM ?_ ?_) | ((with_reducible refine xS ?_); refine uD 30 zM40 zPWE zPWP 111 rfl (by kernel_rfl) ?_)) <;> ((try with_reducible intro K1 hK1); simp only [go_sem, ↓reduceIte, reduceCtorEq, nA, nB, nC, nD, nE, nF, hk, Bool.not_true] <;> and_intros <;> first | (apply hK1; clear hK1 K1) | (intros; first | omega | decide) | skip))))
     refine awp_cond (t := _) rfl (fun h6 => by cases h6) (fun _ => ?_)
     (repeat (first | refine gO rfl ?_ | ((first | refine gM zM40 ?_ | (with_reducible refine wM ?_ ?_) | ((with_reducible refine xS ?_); refine uD 30 zM40 zPWE zPWP 111 rfl (by kernel_rfl) ?_)) <;> ((try with_reducible intro K1 hK1); simp only [go_sem, ↓reduceIte, reduceCtorEq, nA, nB, nC, nD, nE, nF] <;> and_intros <;> first | (apply hK1; clear hK1 K1) | (intros; first | omega | decide) | skip))))
     refine hIM.mono ?_; rintro _ hz ⟨rfl, hh⟩; apply hK1; clear hK1 K1; rw [hh]; clear hh hz
     by_cases hz : momF fr = 0
     ·have hb : decide (momF fr = 0) = true := decide_eq_true hz
      have hb2 : (momF fr != 0) = false := by rw [hz]; rfl
      rw [hb2, Bool.false_or] at hinv
      (repeat (first | refine gO rfl ?_ | ((first | refine gM zM40 ?_ | (with_reducible refine wM ?_ ?_) | ((with_reducible refine xS ?_); refine uD 30 zM40 zPWE zPWP 111 rfl (by kernel_rfl) ?_)) <;> ((try with_reducible intro K1 hK1); simp only [go_sem, ↓reduceIte, reduceCtorEq, nA, nB, nC, nD, nE, nF, hb, Bool.not_true] <;> and_intros <;> first | (apply hK1; clear hK1 K1) | (intros; first | omega | decide) | skip))))
      rotate_left
      ·exact fun h => h.elim
      refine hOU.mono ?_
      rintro _ hz ⟨rfl, hh⟩; refine ⟨rfl, ?_⟩; apply hK1; clear hK1 K1; rw [hh]; clear hh hz
      have hou : (decide (lo < 1) || decide (345686400000 - fr < lo)) = !(decide (1 ≤ lo) && decide (lo ≤ 345686400000 - fr)) := by
       rw [Bool.not_and, ← decide_not, ← decide_not]
       congr 1
       ·exact decide_eq_decide.2 (by omega)
       ·exact decide_eq_decide.2 (by omega)
      rw [hou]
      cases hc : (decide (1 ≤ lo) && decide (lo ≤ 345686400000 - fr)) with
      | false =>
       rw [hc, Bool.not_false, if_pos rfl, if_neg (by decide)] at hinv
       (repeat (first | refine gO rfl ?_ | ((first | refine gM zM40 ?_ | (with_reducible refine wM ?_ ?_) | ((with_reducible refine xS ?_); refine uD 30 zM40 zPWE zPWP 111 rfl (by kernel_rfl) ?_)) <;> ((try with_reducible intro K1 hK1); simp only [go_sem, ↓reduceIte, reduceCtorEq, nA, nB, nC, nD, nE, nF, Bool.not_false] <;> and_intros <;> first | (apply hK1; clear hK1 K1) | (intros; first | omega | decide) | skip))))
       refine awp_cond (t := _) rfl (fun _ => ?_) (fun h6 => by cases h6)
       (repeat (first | refine gO rfl ?_ | ((first | refine gM zM40 ?_ | (with_reducible refine wM ?_ ?_) | ((with_reducible refine xS ?_); refine uD 30 zM40 zPWE zPWP 111 rfl (by kernel_rfl) ?_)) <;> ((try with_reducible intro K1 hK1); simp only [go_sem, ↓reduceIte, reduceCtorEq, nA, nB, nC, nD, nE, nF] <;> and_intros <;> first | (apply hK1; clear hK1 K1) | (intros; first | omega | decide) | skip))))
       simp only [Tryz.results33, go_sem, ↓reduceIte, reduceCtorEq, nA, nB, nC, nD, nE, nF]
       exact ⟨_, h, Weak.refl _, hle1, by rw [← hinv]; rfl, rfl⟩
      | true =>
       rw [hc, Bool.not_true, if_pos (show (if false = true then (1 : Int) else 0) = 0 by decide)] at hinv
       (repeat (first | refine gO rfl ?_ | ((first | refine gM zM40 ?_ | (with_reducible refine wM ?_ ?_) | ((with_reducible refine xS ?_); refine uD 30 zM40 zPWE zPWP 111 rfl (by kernel_rfl) ?_)) <;> ((try with_reducible intro K1 hK1); simp only [go_sem, ↓reduceIte, reduceCtorEq, nA, nB, nC, nD, nE, nF, Bool.not_true] <;> and_intros <;> first | (apply hK1; clear hK1 K1) | (intros; first | omega | decide) | skip))))
       refine awp_cond (t := _) rfl (fun h6 => by cases h6) (fun _ => ?_)
       (repeat (first | refine gO rfl ?_ | ((first | refine gM zM40 ?_ | (with_reducible refine wM ?_ ?_) | ((with_reducible refine xS ?_); refine uD 30 zM40 zPWE zPWP 111 rfl (by kernel_rfl) ?_)) <;> ((try with_reducible intro K1 hK1); simp only [go_sem, ↓reduceIte, reduceCtorEq, nA, nB, nC, nD, nE, nF] <;> and_intros <;> first | (apply hK1; clear hK1 K1) | (intros; first | omega | decide) | skip))))
       exact ⟨g - 1, by omega, j + 1, by omega, hinv, rfl⟩
     ·have hb : decide (momF fr = 0) = false := decide_eq_false hz
      have hb2 : (momF fr != 0) = true := by simpa using hz
      rw [hb2, Bool.true_or, if_pos rfl, if_neg (by decide)] at hinv
      (repeat (first | refine gO rfl ?_ | ((first | refine gM zM40 ?_ | (with_reducible refine wM ?_ ?_) | ((with_reducible refine xS ?_); refine uD 30 zM40 zPWE zPWP 111 rfl (by kernel_rfl) ?_)) <;> ((try with_reducible intro K1 hK1); simp only [go_sem, ↓reduceIte, reduceCtorEq, nA, nB, nC, nD, nE, nF, hb, Bool.not_false] <;> and_intros <;> first | (apply hK1; clear hK1 K1) | (intros; first | omega | decide) | skip))))
      refine awp_cond (t := _) rfl (fun _ => ?_) (fun h6 => by cases h6)
      (repeat (first | refine gO rfl ?_ | ((first | refine gM zM40 ?_ | (with_reducible refine wM ?_ ?_) | ((with_reducible refine xS ?_); refine uD 30 zM40 zPWE zPWP 111 rfl (by kernel_rfl) ?_)) <;> ((try with_reducible intro K1 hK1); simp only [go_sem, ↓reduceIte, reduceCtorEq, nA, nB, nC, nD, nE, nF] <;> and_intros <;> first | (apply hK1; clear hK1 K1) | (intros; first | omega | decide) | skip))))
      simp only [Tryz.results33, go_sem, ↓reduceIte, reduceCtorEq, nA, nB, nC, nD, nE, nF]
      exact ⟨_, h, Weak.refl _, hle1, by rw [← hinv]; rfl, rfl⟩
  simp only [decide_eq_false_iff_not] at h5
  have hjl : j = pl.length := by omega
  subst hjl
  rw [List.drop_length, plsF] at hinv
  have hpz : plsF ps pl = 0 := hinv.symm
  clear h5 hj hinv
  rw [hpz, if_pos rfl]
  (repeat (first | refine gQ rfl ?_ | ((first | refine gM zM40 ?_ | (with_reducible refine wM ?_ ?_) | ((with_reducible refine xS ?_); refine uD 30 zM40 zPWE zPWP 111 rfl (by kernel_rfl) ?_)) <;> ((try with_reducible intro K1 hK1); simp only [go_sem, ↓reduceIte, reduceCtorEq, nA, nB, nC, nD, nE, nF] <;> and_intros <;> first | (apply hK1; clear hK1 K1) | (intros; first | omega | decide | (simp_all <;> omega)) | skip))))
  refine awp_seq ?_
  refine awp_ownA 17 1 rfl ⟨rfl, rfl⟩ (fun k hk => ?_)
  replace hk : h1.T k = none := hk
  (repeat (first | refine gO rfl ?_ | ((first | refine gM zM40 ?_ | (with_reducible refine wM ?_ ?_) | ((with_reducible refine xS ?_); refine uD 30 zM40 zPWE zPWP 111 rfl (by kernel_rfl) ?_)) <;> ((try with_reducible intro K1 hK1); simp only [go_sem, ↓reduceIte, reduceCtorEq, nA, nB, nC, nD, nE, nF, hml] <;> and_intros <;> first | (apply hK1; clear hK1 K1) | (intros; first | omega | decide) | skip))))
  refine awp_loopC (rl false [0, 2, 8, 1, 6, 1, 60, 3, 30]) 0 (fun g s => ∃ (j n : Nat) (xs : List Int), g + j = pl.length ∧ xs.length = n ∧ n ≤ j ∧ xs ++ outG (whOk rs ps) (pl.drop j) j = outG (whOk rs ps) pl 0 ∧
   s = ⟨((.row 5 (rs.map encRt) none) :: (.row 4 (ps.map encGu) none) :: (jnk 8 ((.map m) :: (jnk 6 ((.arr 1 k n) :: (jnk 60 ((.row 4 (pl.map encPq) none) :: (.v (.int .i64 pl.length)) :: (.v (.int .i64 j)) :: (jnk 30 [])))))))), [], ⟨h1.H, upd h1.T k (some (.cont 1 (xs.map encI)))⟩⟩) pl.length ⟨0, 0, [], by omega, rfl, by omega, rfl, rfl⟩ ?_
  rintro g _ ⟨j, n, xs, hj, hn, hnj, hinv, rfl⟩
  have hTq : upd h1.T k (some (TO.cont 1 (xs.map encI))) k = some (TO.cont 1 (xs.map encI)) := upd_same _ _ _
  have hxl : (xs.map encI).length = n := by rw [List.length_map, hn]
  (repeat (first | refine gO rfl ?_ | ((first | refine gM zM40 ?_ | (with_reducible refine wM ?_ ?_) | ((with_reducible refine xS ?_); refine uD 30 zM40 zPWE zPWP 111 rfl (by kernel_rfl) ?_)) <;> ((try with_reducible intro K1 hK1); simp only [go_sem, ↓reduceIte, reduceCtorEq, nA, nB, nC, nD, nE, nF] <;> and_intros <;> first | (apply hK1; clear hK1 K1) | (intros; first | omega | decide) | skip))))
  refine awp_cond (t := _) rfl (fun h5 => ?_) (fun h5 => ?_)
  ·simp only [decide_eq_true_eq] at h5
   have hjl : j < pl.length := by omega
   have gx : (pl.map encPq).getD j [] = encPq pl[j] := by rw [List.getD_eq_getElem?_getD, List.getElem?_map, List.getElem?_eq_getElem hjl]; rfl
   have hxo1 := hxo _ (List.getElem_mem hjl)
   obtain ⟨q1, q2, q3, q4, q5⟩ := pqF_ok (plsF_ok hpz _ (List.getElem_mem hjl))
   rw [List.drop_eq_getElem_cons hjl, outG] at hinv
   generalize pl[j] = x at *
   obtain ⟨who, it, fr, lo⟩ := x
   rw [show encPq (who, it, fr, lo) = [.v (.string who), .v (.string it), .v (.int .i64 fr), .v (.int .i64 lo)] from rfl] at gx
   obtain ⟨hw1, hw2, hw3, hw4⟩ := hxo1
   simp only at hw1 hw2 hw3 hw4 q1 q2 q3 q4 q5
   have hfw := hfit who
   rcases whoI_at who ps 0 with e | ⟨w, p, e1, e2, e3, e4⟩
   ·omega
   rw [Nat.zero_add] at e1
   rw [e1, if_neg (by omega)] at hfw
   have hwh : whOk rs ps (who, it, fr, lo) = wholeV p.tags it fr (fr + lo) rs := by
    unfold whOk; simp only [e4]
   rw [hwh] at hinv
   clear hwh
   have hpp := hpo p (List.mem_of_getElem? e2)
   have hpg := hg1 p (List.mem_of_getElem? e2)
   have hmL : w < ps.length := (List.getElem?_eq_some_iff.1 e2).1
   have gp : (ps.map encGu).getD w [] = encGu p := by rw [List.getD_eq_getElem?_getD, List.getElem?_map, e2]; rfl
   have hWh := fun a b h => g_whole rs p it a b none hl hok hpp (guF_tags hpg) h
   rw [show encGu p = [.v (.string p.key), .v (.string p.scr), .v (.int .i64 p.zone), .row 1 (p.tags.map encS) none] from rfl] at gp hWh
   (repeat (first | refine gO rfl ?_ | ((first | refine gM zM40 ?_ | (with_reducible refine wM ?_ ?_) | ((with_reducible refine xS ?_); refine uD 30 zM40 zPWE zPWP 111 rfl (by kernel_rfl) ?_)) <;> ((try with_reducible intro K1 hK1); simp only [go_sem, ↓reduceIte, reduceCtorEq, nA, nB, nC, nD, nE, nF, hml, Int.toNat_natCast, gx, hmq1, hfw, gp, hmp] <;> and_intros <;> first | (apply hK1; clear hK1 K1) | (intros; first | omega | decide) | skip))))
   refine (hWh fr (fr + lo) _).mono ?_; rintro _ hz ⟨rfl, hh⟩; apply hK1; clear hK1 K1; rw [hh]; clear hh hz
   (repeat (first | refine gO rfl ?_ | ((first | refine gM zM40 ?_ | (with_reducible refine wM ?_ ?_) | ((with_reducible refine xS ?_); refine uD 30 zM40 zPWE zPWP 111 rfl (by kernel_rfl) ?_)) <;> ((try with_reducible intro K1 hK1); simp only [go_sem, ↓reduceIte, reduceCtorEq, nA, nB, nC, nD, nE, nF] <;> and_intros <;> first | (apply hK1; clear hK1 K1) | (intros; first | omega | decide) | skip))))
   all_goals try with_reducible rfl
   (repeat (first | refine gO rfl ?_ | ((first | refine gM zM40 ?_ | (with_reducible refine wM ?_ ?_) | ((with_reducible refine xS ?_); refine uD 30 zM40 zPWE zPWP 111 rfl (by kernel_rfl) ?_)) <;> ((try with_reducible intro K1 hK1); simp only [go_sem, ↓reduceIte, reduceCtorEq, nA, nB, nC, nD, nE, nF] <;> and_intros <;> first | (apply hK1; clear hK1 K1) | (intros; first | omega | decide) | skip))))
   cases hb : wholeV p.tags it fr (fr + lo) rs with
   | true =>
    rw [hb, if_pos rfl] at hinv
    refine awp_cond (t := _) rfl (fun h6 => by cases h6) (fun _ => ?_)
    (repeat (first | refine gO rfl ?_ | ((first | refine gM zM40 ?_ | (with_reducible refine wM ?_ ?_) | ((with_reducible refine xS ?_); refine uD 30 zM40 zPWE zPWP 111 rfl (by kernel_rfl) ?_)) <;> ((try with_reducible intro K1 hK1); simp only [go_sem, ↓reduceIte, reduceCtorEq, nA, nB, nC, nD, nE, nF] <;> and_intros <;> first | (apply hK1; clear hK1 K1) | (intros; first | omega | decide) | skip))))
    exact ⟨g - 1, by omega, j + 1, n, xs, by omega, hn, by omega, hinv, rfl⟩
   | false =>
    rw [hb, if_neg (by decide)] at hinv
    refine awp_cond (t := _) rfl (fun _ => ?_) (fun h6 => by cases h6)
    (repeat (first | refine gO rfl ?_ | ((first | refine gM zM40 ?_ | (with_reducible refine wM ?_ ?_) | ((with_reducible refine xS ?_); refine uD 30 zM40 zPWE zPWP 111 rfl (by kernel_rfl) ?_)) <;> ((try with_reducible intro K1 hK1); simp only [go_sem, ↓reduceIte, reduceCtorEq, nA, nB, nC, nD, nE, nF, hTq, hxl] <;> and_intros <;> first | (apply hK1; clear hK1 K1) | (intros; first | omega | decide) | skip))))
    refine ⟨g - 1, by omega, j + 1, n + 1, xs ++ [(j : Int)], by omega, by simp [hn], by omega, by rw [← hinv]; simp, ?_⟩
    rw [List.map_append]
    (try simp only [upd_upd])
    rfl
  ·simp only [decide_eq_false_iff_not] at h5
   have hjl : j = pl.length := by omega
   subst hjl
   rw [List.drop_length, outG, List.append_nil] at hinv
   refine awp_frz 17 k 1 (xs := xs.map encI) (by rw [hxl]; rfl) hTq (fun y hy => by obtain ⟨x, _, rfl⟩ := List.mem_map.1 hy; rfl) ?_
   (repeat (first | refine gO rfl ?_ | ((first | refine gM zM40 ?_ | (with_reducible refine wM ?_ ?_) | ((with_reducible refine xS ?_); refine uD 30 zM40 zPWE zPWP 111 rfl (by kernel_rfl) ?_)) <;> ((try with_reducible intro K1 hK1); simp only [go_sem, ↓reduceIte, reduceCtorEq, nA, nB, nC, nD, nE, nF] <;> and_intros <;> first | (apply hK1; clear hK1 K1) | (intros; first | omega | decide) | skip))))
   simp only [Tryz.results33, go_sem, ↓reduceIte, reduceCtorEq, nA, nB, nC, nD, nE, nF]
   refine ⟨_, h, Weak.refl _, ⟨hH1, fun t => ?_⟩, by rw [hinv], rfl⟩
   refine .inr ?_
   show h.T t = _
   simp only [upd_upd]
   rw [upd_back hk, hT1]
open Go Go.Lib
def onceL (l : List (List UInt8)) : List (List UInt8) := compact (l.mergeSort fun x y => decide (x ≤ y))
def onceS (l : List ByteArray) : List ByteArray := (onceL (l.map (·.data.toList))).map fun l => ⟨l.toArray⟩
theorem leT : ∀ a b c : List UInt8, decide (a ≤ b) = true → decide (b ≤ c) = true → decide (a ≤ c) = true := fun a b c h1 h2 => by
 simp only [decide_eq_true_eq] at *; exact List.le_trans h1 h2
theorem leO : ∀ a b : List UInt8, (decide (a ≤ b) || decide (b ≤ a)) = true := fun a b => by
 simp only [Bool.or_eq_true, decide_eq_true_eq]; exact List.le_total a b
theorem comp_up (d : Array (List UInt8)) (hs : ∀ i j, i ≤ j → j < d.size → d[i]! ≤ d[j]!) : ∀ m, m ≤ d.size →
  (compactUpTo d m).Pairwise (fun x y => x ≤ y ∧ x ≠ y) ∧ ∀ x, x ∈ compactUpTo d m ↔ ∃ j, j < m ∧ d[j]! = x
 | 0, _ => ⟨by simp [compactUpTo], by simp [compactUpTo]⟩
 | m + 1, hm => by
  obtain ⟨h1, h2⟩ := comp_up d hs m (by omega)
  rw [compactUpTo_succ]
  cases hk : keeps d m with
  | true =>
   simp only [if_true]
   refine ⟨List.pairwise_append.2 ⟨h1, by simp, fun x hx y hy => ?_⟩, fun x => ?_⟩
   ·simp only [List.mem_singleton] at hy
    subst hy
    obtain ⟨j, hj, rfl⟩ := (h2 x).1 hx
    refine ⟨hs j m (by omega) (by omega), fun e => ?_⟩
    simp only [keeps, decide_eq_true_eq] at hk
    rcases hk with hk | hk
    ·omega
    ·have a1 := hs j (m - 1) (by omega) (by omega)
     have a2 := hs (m - 1) m (by omega) (by omega)
     rw [e] at a1
     exact hk (List.le_antisymm a1 a2)
   ·rw [List.mem_append, h2 x, List.mem_singleton]
    constructor
    ·rintro (⟨j, hj, e⟩ | rfl)
     ·exact ⟨j, by omega, e⟩
     ·exact ⟨m, by omega, rfl⟩
    ·rintro ⟨j, hj, e⟩
     by_cases hjm : j = m
     ·subst hjm; exact .inr e.symm
     ·exact .inl ⟨j, by omega, e⟩
  | false =>
   simp only [Bool.false_eq_true, if_false, List.append_nil]
   refine ⟨h1, fun x => ?_⟩
   rw [h2 x]
   simp only [keeps, decide_eq_false_iff_not, not_or, ne_eq, Decidable.not_not] at hk
   constructor
   ·rintro ⟨j, hj, e⟩; exact ⟨j, by omega, e⟩
   ·rintro ⟨j, hj, e⟩
    by_cases hjm : j = m
    ·subst hjm; exact ⟨j - 1, by omega, by rw [← e, hk.2]⟩
    ·exact ⟨j, by omega, e⟩
theorem onceL_ok (l : List (List UInt8)) : (onceL l).Pairwise (fun x y => x ≤ y ∧ x ≠ y) ∧ ∀ x, x ∈ onceL l ↔ x ∈ l := by
 have hp := List.pairwise_mergeSort leT leO l
 have hm := List.mergeSort_perm l fun x y => decide (x ≤ y)
 unfold onceL
 generalize (l.mergeSort fun x y => decide (x ≤ y)) = zs at hp hm ⊢
 have hs : ∀ i j, i ≤ j → j < zs.toArray.size → zs.toArray[i]! ≤ zs.toArray[j]! := fun i j hij hj => by
  have hj' : j < zs.length := by simpa using hj
  have e1 : zs.toArray[i]! = zs[i] := by simp [getElem!_pos, show i < zs.length by omega]
  have e2 : zs.toArray[j]! = zs[j] := by simp [getElem!_pos, hj']
  rw [e1, e2]
  by_cases e : i = j
  ·subst e; exact List.le_refl _
  ·have := List.pairwise_iff_getElem.1 hp i j (by omega) hj' (by omega)
   simpa using this
 obtain ⟨h1, h2⟩ := comp_up zs.toArray hs zs.length (by simp)
 refine ⟨h1, fun x => ?_⟩
 show x ∈ compactUpTo zs.toArray zs.length ↔ _
 rw [h2 x, ← hm.mem_iff]
 constructor
 ·rintro ⟨j, hj, rfl⟩
  have e2 : zs.toArray[j]! = zs[j] := by simp [getElem!_pos, hj]
  rw [e2]; exact List.getElem_mem hj
 ·intro hx
  obtain ⟨j, hj, e⟩ := List.getElem_of_mem hx
  exact ⟨j, hj, by rw [← e]; simp [getElem!_pos, hj]⟩
theorem onceS_mem (l : List ByteArray) (x : ByteArray) : x ∈ onceS l ↔ x ∈ l := by
 rw [onceS, List.mem_map]
 constructor
 ·rintro ⟨y, hy, rfl⟩
  obtain ⟨z, hz, rfl⟩ := List.mem_map.1 (((onceL_ok _).2 y).1 hy)
  exact hz
 ·intro hx
  exact ⟨x.data.toList, ((onceL_ok _).2 _).2 (List.mem_map.2 ⟨x, hx, rfl⟩), rfl⟩
theorem nodup_len {α : Type} [DecidableEq α] : ∀ (l m : List α), l.Nodup → (∀ x ∈ l, x ∈ m) → l.length ≤ m.length
 | [], _, _, _ => by simp
 | x :: l, m, hn, h => by
  have hx := h x (by simp)
  have := nodup_len l (m.erase x) (List.nodup_cons.1 hn).2 fun y hy => (List.mem_erase_of_ne (fun e => by subst e; exact (List.nodup_cons.1 hn).1 hy)).2 (h y (by simp [hy]))
  rw [List.length_erase_of_mem hx] at this
  have := List.length_pos_of_mem hx
  simp only [List.length_cons]; omega
theorem onceS_len (l : List ByteArray) : (onceS l).length ≤ l.length := by
 have h : (onceL (l.map (·.data.toList))).length ≤ (l.map (·.data.toList)).length := nodup_len _ _ ((onceL_ok _).1.imp fun h => h.2) fun x hx => ((onceL_ok _).2 x).1 hx
 simpa [onceS] using h
def byP (p : Nat → Rt → Bool) : List Rt → Nat → List Wnd → List Wnd
  | [], _, o => o
  | r :: l, k, o => byP p l (k + 1) (if p k r = true then o ++ [(r.2.2.1, r.2.2.2.1)] else o)
theorem byP_mem (p : Nat → Rt → Bool) (w : Wnd) : ∀ (l : List Rt) (k : Nat) (o : List Wnd), w ∈ byP p l k o ↔ w ∈ o ∨ ∃ j r, l[j]? = some r ∧ p (k + j) r = true ∧ w = (r.2.2.1, r.2.2.2.1)
  | [], k, o => by simp [byP]
  | r :: l, k, o => by
    rw [byP, byP_mem p w l]
    constructor
    · rintro (h | ⟨j, s, h1, h2, h3⟩)
      · by_cases hp : p k r = true
        · rw [if_pos hp] at h
          rcases List.mem_append.1 h with h | h
          · exact .inl h
          · exact .inr ⟨0, r, rfl, hp, List.mem_singleton.1 h⟩
        · rw [if_neg hp] at h; exact .inl h
      · exact .inr ⟨j + 1, s, h1, by rw [show k + (j + 1) = k + 1 + j by omega]; exact h2, h3⟩
    · rintro (h | ⟨j, s, h1, h2, h3⟩)
      · left; split
        · exact List.mem_append.2 (.inl h)
        · exact h
      · cases j with
        | zero =>
          simp only [List.getElem?_cons_zero, Option.some.injEq] at h1
          subst h1
          rw [Nat.add_zero] at h2
          left; rw [if_pos h2, h3]; simp
        | succ j =>
          simp only [List.getElem?_cons_succ] at h1
          exact .inr ⟨j, s, h1, by rw [show k + 1 + j = k + (j + 1) by omega]; exact h2, h3⟩
theorem inTags_iff (tags l : List ByteArray) : inTags tags l = true ↔ ∀ t ∈ l, t ∈ tags := by
  unfold inTags
  rw [List.all_eq_true]
  refine forall_congr' fun t => forall_congr' fun _ => ?_
  exact memB_iff
def pR (ri : Rt) (i : Nat) (k : Nat) (r : Rt) : Bool := !decide (k = i) && (decide (r.1 = ri.1) && inTags ri.2.1 r.2.1)
def uselR (rs : List Rt) (ri : Rt) (i : Nat) : Bool := covB ri.2.2.1 ri.2.2.2.1 (sortI cmpWnd (byP (pR ri i) rs 0 []))
def pB (tags : List ByteArray) (item : ByteArray) (i : Nat) (k : Nat) (r : Rt) : Bool := !decide (k = i) && (r.2.2.2.2 && (decide (r.1 = item) && inTags tags r.2.1))
def uselB1 (rs : List Rt) (ri : Rt) (i : Nat) (r : Rt) : Bool := (r.2.2.2.2 || !decide (r.1 = ri.1)) || (decide (min r.2.2.2.1 ri.2.2.2.1 ≤ max r.2.2.1 ri.2.2.1) ||
  covB (max r.2.2.1 ri.2.2.1) (min r.2.2.2.1 ri.2.2.2.1) (sortI cmpWnd (byP (pB (onceS (r.2.1 ++ ri.2.1)) r.1 i) rs 0 [])))
def uselB (rs : List Rt) (ri : Rt) (i : Nat) : Bool := rs.all (uselB1 rs ri i)
def usel (rs : List Rt) (ri : Rt) (i : Nat) : Bool := if ri.2.2.2.2 = true then uselB rs ri i else uselR rs ri i
def uselL (rs : List Rt) : List Rt → Nat → List Int
  | [], _ => []
  | r :: l, k => if usel rs r k = true then (k : Int) :: uselL rs l (k + 1) else uselL rs l (k + 1)
theorem cov_sorted (a b : Int) (W : List Wnd) (h : covB a b (sortI cmpWnd W) = true) (x : Int) (h1 : a ≤ x) (h2 : x < b) : ∃ w ∈ W, w.1 ≤ x ∧ x < w.2 := by
  obtain ⟨w, hw, h3⟩ := (covB_iff b _ a (sortI_up W)).1 h x h1 h2
  exact ⟨w, (sortI_perm cmpWnd W).mem_iff.1 hw, h3⟩
theorem hitR_iff (tags : List ByteArray) (item : ByteArray) (x : Int) (r : Rt) : hitR tags item x r = true ↔ r.1 = item ∧ (r.2.2.1 ≤ x ∧ x < r.2.2.2.1) ∧ ∀ t ∈ r.2.1, t ∈ tags := by
  unfold hitR hasR
  simp only [Bool.and_eq_true, decide_eq_true_eq, and_assoc, inTags_iff]
theorem mem_erase {α : Type} (l : List α) (i : Nat) (y : α) : y ∈ l.take i ++ l.drop (i + 1) ↔ ∃ k, k ≠ i ∧ l[k]? = some y := by
  rw [List.mem_append]
  constructor
  · rintro (h | h)
    · obtain ⟨k, hk⟩ := List.mem_iff_getElem?.1 h
      rw [List.getElem?_take] at hk
      split at hk
      · exact ⟨k, by omega, hk⟩
      · cases hk
    · obtain ⟨k, hk⟩ := List.mem_iff_getElem?.1 h
      rw [List.getElem?_drop] at hk
      exact ⟨i + 1 + k, by omega, hk⟩
  · rintro ⟨k, hne, hk⟩
    by_cases h : k < i
    · left
      refine List.mem_iff_getElem?.2 ⟨k, ?_⟩
      rw [List.getElem?_take, if_pos h]; exact hk
    · right
      refine List.mem_iff_getElem?.2 ⟨k - (i + 1), ?_⟩
      rw [List.getElem?_drop, show i + 1 + (k - (i + 1)) = k by omega]; exact hk
theorem can_go (rs : List Rt) (i : Nat) (ri : Rt) (hi : rs[i]? = some ri) (hu : usel rs ri i = true) (tags : List ByteArray) (item : ByteArray) (x : Int) : mayL tags item x (rs.take i ++ rs.drop (i + 1)) false = mayL tags item x rs false := by
  have hm : ∀ y, y ∈ rs.take i ++ rs.drop (i + 1) → y ∈ rs := fun y hy => by
    obtain ⟨k, _, hk⟩ := (mem_erase rs i y).1 hy
    exact List.mem_of_getElem? hk
  have hm2 : ∀ y, y ∈ rs → y = ri ∨ y ∈ rs.take i ++ rs.drop (i + 1) := fun y hy => by
    obtain ⟨k, hk⟩ := List.mem_iff_getElem?.1 hy
    by_cases e : k = i
    · subst e
      rw [hi] at hk
      exact .inl (Option.some.inj hk).symm
    · exact .inr ((mem_erase rs i y).2 ⟨k, e, hk⟩)
  have hri : ri ∈ rs := List.mem_of_getElem? hi
  rw [Bool.eq_iff_iff, mayL_iff, mayL_iff]
  simp only [Bool.false_eq_true, false_or]
  by_cases hh : hitR tags item x ri = true
  case neg =>
    constructor
    · rintro ⟨h1, r, hr, h2⟩
      refine ⟨fun s hs h3 => ?_, r, hm r hr, h2⟩
      rcases hm2 s hs with rfl | hs
      · exact absurd h3 hh
      · exact h1 s hs h3
    · rintro ⟨h1, r, hr, h2⟩
      refine ⟨fun s hs h3 => h1 s (hm s hs) h3, ?_⟩
      rcases hm2 r hr with rfl | hr
      · exact absurd h2 hh
      · exact ⟨r, hr, h2⟩
  case pos =>
    have hhi := (hitR_iff tags item x ri).1 hh
    unfold usel at hu
    cases hb : ri.2.2.2.2 with
    | true =>
      rw [hb, if_pos rfl] at hu
      unfold uselB at hu
      rw [List.all_eq_true] at hu
      constructor
      · rintro ⟨h1, r, hr, h2⟩
        exfalso
        have hnb := h1 r hr h2
        have hhr := (hitR_iff tags item x r).1 h2
        have hu2 := hu r (hm r hr)
        unfold uselB1 at hu2
        rw [hnb, decide_eq_true (hhr.1.trans hhi.1.symm), decide_eq_false (show ¬ min r.2.2.2.1 ri.2.2.2.1 ≤ max r.2.2.1 ri.2.2.1 by omega)] at hu2
        simp only [Bool.not_true, Bool.or_self, Bool.false_or] at hu2
        obtain ⟨w, hw, h3, h4⟩ := cov_sorted _ _ _ hu2 x (by omega) (by omega)
        rcases (byP_mem _ w rs 0 []).1 hw with h5 | ⟨j, s, h5, h6, h7⟩
        · cases h5
        · unfold pB at h6
          simp only [Bool.and_eq_true, Bool.not_eq_true', decide_eq_false_iff_not, decide_eq_true_eq, Nat.zero_add, inTags_iff] at h6
          obtain ⟨q1, q2, q3, q4⟩ := h6
          subst h7
          have hs : s ∈ rs.take i ++ rs.drop (i + 1) := (mem_erase rs i s).2 ⟨j, q1, h5⟩
          have hhs : hitR tags item x s = true := (hitR_iff tags item x s).2 ⟨q3.trans hhr.1, ⟨h3, h4⟩, fun t ht => by
            have h8 := (onceS_mem _ _).1 (q4 t ht)
            rcases List.mem_append.1 h8 with h8 | h8
            · exact hhr.2.2 t h8
            · exact hhi.2.2 t h8⟩
          have := h1 s hs hhs
          rw [q2] at this; cases this
      · rintro ⟨h1, _⟩
        have := h1 ri hri hh
        rw [hb] at this; cases this
    | false =>
      rw [hb, if_neg (by decide)] at hu
      unfold uselR at hu
      obtain ⟨w, hw, h3, h4⟩ := cov_sorted _ _ _ hu x hhi.2.1.1 hhi.2.1.2
      rcases (byP_mem _ w rs 0 []).1 hw with h5 | ⟨j, s, h5, h6, h7⟩
      · cases h5
      · unfold pR at h6
        simp only [Bool.and_eq_true, Bool.not_eq_true', decide_eq_false_iff_not, decide_eq_true_eq, Nat.zero_add, inTags_iff] at h6
        obtain ⟨q1, q3, q4⟩ := h6
        subst h7
        have hs : s ∈ rs.take i ++ rs.drop (i + 1) := (mem_erase rs i s).2 ⟨j, q1, h5⟩
        have hhs : hitR tags item x s = true := (hitR_iff tags item x s).2 ⟨q3.trans hhi.1, ⟨h3, h4⟩, fun t ht => hhi.2.2 t (q4 t ht)⟩
        constructor
        · rintro ⟨h1, _⟩
          refine ⟨fun y hy h8 => ?_, s, hm s hs, hhs⟩
          rcases hm2 y hy with rfl | hy
          · exact hb
          · exact h1 y hy h8
        · rintro ⟨h1, _⟩
          exact ⟨fun y hy h8 => h1 y (hm y hy) h8, s, hs, hhs⟩
def restR (rs : List Rt) (i : Nat) : List Rt := rs.take i ++ rs.drop (i + 1)
def refTags (ri : Rt) : List Rt → List (List ByteArray) → List (List ByteArray)
  | [], o => o
  | r :: l, o => refTags ri l (if r.1 = ri.1 then o ++ [onceS (ri.2.1 ++ r.2.1)] else o)
def refAts (rs : List Rt) (ri : Rt) : List Int := onceI (edgesL rs) ++ [ri.2.2.1]
def difs (rs rest : List Rt) (ri : Rt) (tags : List ByteArray) (x : Int) : Bool := mayL tags ri.1 x rs false != mayL tags ri.1 x rest false
def needF (rs : List Rt) (ri : Rt) (i : Nat) : Bool := (refTags ri (restR rs i) [ri.2.1]).any fun tags => (refAts rs ri).any fun x => difs rs (restR rs i) ri tags x
def uselRefL (rs : List Rt) : List Rt → Nat → List Int
  | [], _ => []
  | r :: l, k => if needF rs r k = false then (k : Int) :: uselRefL rs l (k + 1) else uselRefL rs l (k + 1)
theorem refTags_mem (ri : Rt) (tg : List ByteArray) : ∀ (l : List Rt) (o : List (List ByteArray)), tg ∈ o ∨ (∃ r ∈ l, r.1 = ri.1 ∧ tg = onceS (ri.2.1 ++ r.2.1)) → tg ∈ refTags ri l o
  | [], o, h => by
    rcases h with h | ⟨r, h, _⟩
    · exact h
    · cases h
  | r :: l, o, h => by
    rw [refTags]
    refine refTags_mem ri tg l _ ?_
    rcases h with h | ⟨s, hs, h1, h2⟩
    · left; split
      · exact List.mem_append.2 (.inl h)
      · exact h
    · rcases List.mem_cons.1 hs with rfl | hs
      · left; rw [if_pos h1, h2]; simp
      · exact .inr ⟨s, hs, h1, h2⟩
theorem least_un (W : List Wnd) (a : Int) : ∀ (n : Nat), (∃ k : Nat, k ≤ n ∧ ∀ w ∈ W, ¬ (w.1 ≤ a + k ∧ a + k < w.2)) → ∃ k : Nat, k ≤ n ∧ (∀ w ∈ W, ¬ (w.1 ≤ a + k ∧ a + k < w.2)) ∧ (k = 0 ∨ ∃ w ∈ W, a + k = w.2)
  | 0, ⟨k, h1, h2⟩ => ⟨k, h1, h2, .inl (by omega)⟩
  | n + 1, ⟨k, h1, h2⟩ => by
    by_cases hk : k = 0
    · exact ⟨k, h1, h2, .inl hk⟩
    by_cases hp : ∀ w ∈ W, ¬ (w.1 ≤ a + (k - 1 : Nat) ∧ a + (k - 1 : Nat) < w.2)
    · obtain ⟨m, q1, q2, q3⟩ := least_un W a n ⟨k - 1, by omega, hp⟩
      exact ⟨m, by omega, q2, q3⟩
    · refine ⟨k, h1, h2, .inr ?_⟩
      simp only [Classical.not_forall, Classical.not_not] at hp
      obtain ⟨w, hw, h3, h4⟩ := hp
      have h5 := h2 w hw
      exact ⟨w, hw, by omega⟩
theorem un_cov (a b : Int) (W : List Wnd) (h : covB a b (sortI cmpWnd W) = false) : ∃ x, a ≤ x ∧ x < b ∧ (∀ w ∈ W, ¬ (w.1 ≤ x ∧ x < w.2)) ∧ (x = a ∨ ∃ w ∈ W, x = w.2) := by
  have h1 : ¬ ∀ x, a ≤ x → x < b → ∃ w ∈ W, w.1 ≤ x ∧ x < w.2 := fun h2 => by
    have h3 : covB a b (sortI cmpWnd W) = true := (covB_iff b _ a (sortI_up W)).2 fun x q1 q2 => by
      obtain ⟨w, hw, h4⟩ := h2 x q1 q2
      exact ⟨w, (sortI_perm cmpWnd W).mem_iff.2 hw, h4⟩
    rw [h] at h3; cases h3
  simp only [Classical.not_forall] at h1
  obtain ⟨x, q1, q2, q3⟩ := h1
  obtain ⟨k, m1, m2, m3⟩ := least_un W a (x - a).toNat ⟨(x - a).toNat, Nat.le_refl _, fun w hw h4 => q3 ⟨w, hw, by omega⟩⟩
  refine ⟨a + k, by omega, by omega, m2, ?_⟩
  rcases m3 with rfl | ⟨w, hw, e⟩
  · exact .inl (by simp)
  · exact .inr ⟨w, hw, e⟩
theorem edge_mem {rs : List Rt} {r : Rt} (h : r ∈ rs) : r.2.2.1 ∈ edgesL rs ∧ r.2.2.2.1 ∈ edgesL rs := by
  unfold edgesL
  constructor <;> exact List.mem_flatMap.2 ⟨r, h, by simp⟩
theorem needs (rs : List Rt) (i : Nat) (ri : Rt) (tags : List ByteArray) (x : Int) (h1 : tags = ri.2.1 ∨ ∃ r ∈ restR rs i, r.1 = ri.1 ∧ tags = onceS (ri.2.1 ++ r.2.1)) (h2 : x = ri.2.2.1 ∨ x ∈ edgesL rs) (h3 : difs rs (restR rs i) ri tags x = true) : needF rs ri i = true := by
  unfold needF
  rw [List.any_eq_true]
  refine ⟨tags, refTags_mem ri tags _ _ ?_, List.any_eq_true.2 ⟨x, ?_, h3⟩⟩
  · rcases h1 with rfl | h1
    · exact .inl (by simp)
    · exact .inr h1
  · unfold refAts
    rw [List.mem_append]
    rcases h2 with rfl | h2
    · exact .inr (by simp)
    · exact .inl (((onceI_ok _).2 x).2 h2)
theorem byP_src {p : Nat → Rt → Bool} {rs : List Rt} {w : Wnd} (h : w ∈ byP p rs 0 []) : ∃ r ∈ rs, w.2 = r.2.2.2.1 := by
  rcases (byP_mem p w rs 0 []).1 h with h | ⟨j, r, h1, _, rfl⟩
  · cases h
  · exact ⟨r, List.mem_of_getElem? h1, rfl⟩
theorem use_ref (rs : List Rt) (i : Nat) (ri : Rt) (hi : rs[i]? = some ri) (hw : ∀ r ∈ rs, r.2.2.1 < r.2.2.2.1) : usel rs ri i = !needF rs ri i := by
  have hri : ri ∈ rs := List.mem_of_getElem? hi
  cases hu : usel rs ri i with
  | true =>
    cases hn : needF rs ri i with
    | false => rfl
    | true =>
      exfalso
      unfold needF at hn
      rw [List.any_eq_true] at hn
      obtain ⟨tags, _, hn⟩ := hn
      rw [List.any_eq_true] at hn
      obtain ⟨x, _, hn⟩ := hn
      unfold difs at hn
      have := can_go rs i ri hi hu tags ri.1 x
      unfold restR at hn
      rw [this] at hn
      simp at hn
  | false =>
    suffices h : needF rs ri i = true by rw [h]; rfl
    have hne : ∀ s, s ∈ restR rs i → ∃ k, k ≠ i ∧ rs[k]? = some s := fun s hs => (mem_erase rs i s).1 hs
    cases hb : ri.2.2.2.2 with
    | false =>
      unfold usel at hu
      rw [hb, if_neg (by decide)] at hu
      unfold uselR at hu
      obtain ⟨x, h1, h2, h3, h4⟩ := un_cov _ _ _ hu
      have hin : ∀ k s, k ≠ i → rs[k]? = some s → hitR ri.2.1 ri.1 x s = true → False := fun k s hk hs hh => by
        obtain ⟨q1, q2, q3⟩ := (hitR_iff _ _ _ _).1 hh
        refine h3 (s.2.2.1, s.2.2.2.1) ((byP_mem _ _ rs 0 []).2 (.inr ⟨k, s, hs, ?_, rfl⟩)) q2
        unfold pR
        simp only [Bool.and_eq_true, Bool.not_eq_true', decide_eq_false_iff_not, decide_eq_true_eq, Nat.zero_add, inTags_iff]
        exact ⟨hk, q1, q3⟩
      have hself : hitR ri.2.1 ri.1 x ri = true := (hitR_iff _ _ _ _).2 ⟨rfl, ⟨h1, h2⟩, fun t ht => ht⟩
      refine needs rs i ri ri.2.1 x (.inl rfl) ?_ ?_
      · rcases h4 with rfl | ⟨w, hw2, rfl⟩
        · exact .inl rfl
        · obtain ⟨r, hr, e⟩ := byP_src hw2
          rw [e]; exact .inr (edge_mem hr).2
      · have e1 : mayL ri.2.1 ri.1 x rs false = true := by
          rw [mayL_iff]
          refine ⟨fun s hs hh => ?_, .inr ⟨ri, hri, hself⟩⟩
          obtain ⟨k, hk⟩ := List.mem_iff_getElem?.1 hs
          by_cases e : k = i
          · subst e
            rw [hi] at hk
            rw [← Option.some.inj hk]; exact hb
          · exact (hin k s e hk hh).elim
        have e2 : mayL ri.2.1 ri.1 x (restR rs i) false = false := by
          rw [← Bool.not_eq_true, mayL_iff]
          rintro ⟨_, h5⟩
          rcases h5 with h5 | ⟨s, hs, hh⟩
          · cases h5
          · obtain ⟨k, q1, q2⟩ := hne s hs
            exact hin k s q1 q2 hh
        unfold difs
        rw [e1, e2]; rfl
    | true =>
      unfold usel at hu
      rw [hb, if_pos rfl] at hu
      unfold uselB at hu
      rw [← Bool.not_eq_true, List.all_eq_true] at hu
      simp only [Classical.not_forall, Bool.not_eq_true] at hu
      obtain ⟨r, hr, hu⟩ := hu
      unfold uselB1 at hu
      simp only [Bool.or_eq_false_iff, Bool.not_eq_false', decide_eq_true_eq, decide_eq_false_iff_not] at hu
      obtain ⟨⟨hrb, hit⟩, hlt, hcv⟩ := hu
      obtain ⟨x, h1, h2, h3, h4⟩ := un_cov _ _ _ hcv
      have hmm : ∀ t, t ∈ onceS (ri.2.1 ++ r.2.1) ↔ t ∈ onceS (r.2.1 ++ ri.2.1) := fun t => by
        rw [onceS_mem, onceS_mem, List.mem_append, List.mem_append]; exact Or.comm
      have hrest : r ∈ restR rs i := by
        obtain ⟨k, hk⟩ := List.mem_iff_getElem?.1 hr
        refine (mem_erase rs i r).2 ⟨k, fun e => ?_, hk⟩
        subst e
        rw [hi] at hk
        rw [← Option.some.inj hk, hb] at hrb; cases hrb
      refine needs rs i ri (onceS (ri.2.1 ++ r.2.1)) x (.inr ⟨r, hrest, hit, rfl⟩) ?_ ?_
      · rcases h4 with h4 | ⟨w, hw2, rfl⟩
        · by_cases e : r.2.2.1 ≤ ri.2.2.1
          · exact .inl (by omega)
          · exact .inr (by rw [show x = r.2.2.1 by omega]; exact (edge_mem hr).1)
        · obtain ⟨s, hs, e⟩ := byP_src hw2
          rw [e]; exact .inr (edge_mem hs).2
      · have e1 : mayL (onceS (ri.2.1 ++ r.2.1)) ri.1 x rs false = false := by
          rw [← Bool.not_eq_true, mayL_iff]
          rintro ⟨h5, _⟩
          have := h5 ri hri ((hitR_iff _ _ _ _).2 ⟨rfl, ⟨by omega, by omega⟩, fun t ht => (onceS_mem _ _).2 (List.mem_append.2 (.inl ht))⟩)
          rw [hb] at this; cases this
        have e2 : mayL (onceS (ri.2.1 ++ r.2.1)) ri.1 x (restR rs i) false = true := by
          rw [mayL_iff]
          refine ⟨fun s hs hh => ?_, .inr ⟨r, hrest, (hitR_iff _ _ _ _).2 ⟨hit, ⟨by omega, by omega⟩, fun t ht => (onceS_mem _ _).2 (List.mem_append.2 (.inr ht))⟩⟩⟩
          obtain ⟨k, q1, q2⟩ := hne s hs
          obtain ⟨m1, m2, m3⟩ := (hitR_iff _ _ _ _).1 hh
          cases hsb : s.2.2.2.2 with
          | false => rfl
          | true =>
            exfalso
            refine h3 (s.2.2.1, s.2.2.2.1) ((byP_mem _ _ rs 0 []).2 (.inr ⟨k, s, q2, ?_, rfl⟩)) m2
            unfold pB
            simp only [Bool.and_eq_true, Bool.not_eq_true', decide_eq_false_iff_not, decide_eq_true_eq, Nat.zero_add, inTags_iff]
            exact ⟨q1, hsb, m1.trans hit.symm, fun t ht => (hmm t).1 (m3 t ht)⟩
        unfold difs
        rw [e1, e2]; rfl
theorem usel_ref (rs : List Rt) (hw : ∀ r ∈ rs, r.2.2.1 < r.2.2.2.1) : ∀ (l : List Rt) (k : Nat), rs.drop k = l → uselRefL rs l k = uselL rs l k
  | [], _, _ => rfl
  | r :: l, k, h => by
    have hk : rs[k]? = some r := by
      have : (rs.drop k)[0]? = some r := by rw [h]; rfl
      rwa [List.getElem?_drop, Nat.add_zero] at this
    have ih := usel_ref rs hw l (k + 1) (by rw [← List.drop_drop, h]; rfl)
    rw [uselRefL, uselL, use_ref rs k r hk hw, ih]
    cases needF rs r k <;> rfl
open Go.RowKit Go.Lib Go.Sort
theorem g_compA (k : Nat) (l : List Int) (h : Hp) (hT : h.T k = some (.cont 1 (l.map encI))) (h0 : 0 < l.length) (hb : l.length ≤ 100000) :
  ACalls Tryz.prog 79 [.arr 1 k l.length] h (fun r h' => ∃ k2, h.T k2 = none ∧ r = .arr 1 k2 (Lib.compact l).length ∧ h' = { h with T := upd (upd h.T k none) k2 (some (.cont 1 ((Lib.compact l).map encI))) }) := by
 refine acalls_mk (by kernel_rfl) fun G w vs hs hv ha => ?_
 have r0 := ha 0 (by simp)
 rw [vs_one hv]
 generalize vs.getD 0 undef = v at r0
 simp only [List.getElem_cons_zero] at r0
 rw [iV_map] at hT
 have hml : (l.map fun x => (ivV x).map AV.v).length = l.length := by simp
 cases r0 with
 | arr _ _ _ q m c ho =>
 obtain ⟨hknx, ⟨q', c', e2, _, _⟩, hm⟩ := ho
 rcases hs.tok k _ hT with ⟨_, e1⟩ | ⟨tt, cur, E, htl, htm, htp, hth, hts, htc, htcm, htf, htz, hzx, htr⟩
 ·rw [e1] at hml; simp at hml; omega
 rw [htl] at hm
 obtain ⟨hxe, _⟩ := hm.2 (by rw [htm, hml])
 simp only [Value.slice.injEq] at hxe e2
 obtain ⟨rfl, rfl, rfl⟩ := hxe
 have hfl : (l.map fun x => (ivV x).map AV.v).flatten.length = l.length * 1 := by rw [flatten_len hzx, hml]
 rw [hfl] at htr
 have hcs := repL_vals ivV l htr
 rw [htz] at hts
 have hle : l.length ≤ tt.c := by rw [← hml, ← htm]; exact htc
 have hown : w.ownsRow 0 E 1 (.slice (some ⟨tt.g, 0, none⟩) l.length tt.c) l.length (l.map (Value.int .i64)) := by
  refine ⟨by simp, .inr ⟨tt.g, tt.c, cur, rfl, Nat.zero_le _, hth, hle, htcm, hts, ?_⟩⟩
  rw [← iV_flat]
  exact hcs
 have hblk : tt.g < w.heap.size := (Array.getElem?_eq_some_iff.1 hth).1
 obtain ⟨g4, c4, hv4, _, _, hnc4, _, _, hH⟩ := holds_of_ownsRow hown (by simp)
 simp only [Value.slice.injEq, Option.some.injEq, Addr.mk.injEq, and_true, true_and] at hv4
 obtain ⟨rfl, rfl⟩ := hv4
 have sm : Sim G [] ⟨[], [], h⟩ ⟨#[], []⟩ w := ⟨hs, Nat.le_refl _, fun t ht => by simp at ht, rfl, ⟨rfl, fun j b cs e => by simp at e, fun b hb => by simp at hb, List.nodup_nil⟩⟩
 refine (Tryz.slices_Compact_int tt.g 0 tt.c l w hH (by omega) hle).mono ?_
 rintro e w' ⟨rfl, n, rfl⟩
 have hcl := Lib.compact_length_le l
 obtain ⟨cs, hcs2⟩ : ∃ cs, cs = Lib.compact l := ⟨_, rfl⟩
 rw [← hcs2] at hcl ⊢
 obtain ⟨ts, hts2⟩ : ∃ ts, ts = cs ++ List.replicate (l.length - cs.length) (0 : Int) := ⟨_, rfl⟩
 rw [← hts2]
 have htl2 : ts.length = l.length := by rw [hts2]; simp; omega
 have own2 := own_bel (ownsRow_putRow (q := n) (k := l.length) hown htl2 (Nat.le_refl _)) (bel_grow (putRow (Value.int .i64) (Sort.ahead w n) tt.g 0 ts.toArray) #[])
 rw [List.take_of_length_le (by omega)] at own2
 have hg0 : grow (putRow (Value.int .i64) (Sort.ahead w n) tt.g 0 ts.toArray) #[] = putRow (Value.int .i64) (Sort.ahead w n) tt.g 0 ts.toArray := by
  unfold grow; rw [Array.append_empty]
 rw [← hg0]
 rcases own2.2 with ⟨h9, _⟩ | ⟨g9, c9, cur9, hv9, _, hh9, _, _, hsz9, hx9⟩
 ·cases h9
 simp only [Value.slice.injEq, Option.some.injEq, Addr.mk.injEq] at hv9
 obtain ⟨⟨rfl, _, _⟩, _, rfl⟩ := hv9
 have hzd : ∀ x ∈ cs.map fun x => (ivV x).map AV.v, x.length = 1 := fun x hx => by obtain ⟨y, _, rfl⟩ := List.mem_map.1 hx; rfl
 have hfd : (cs.map fun x => (ivV x).map AV.v).flatten.length = cs.length := by rw [flatten_len hzd, List.length_map, Nat.mul_one]
 have hx2 : cur9.toList.take cs.length = cs.map (Value.int .i64) := by
  have e1 : (cur9.toList.take (l.length * 1)).take cs.length = cur9.toList.take cs.length := by rw [List.take_take, Nat.mul_one, Nat.min_eq_left hcl]
  rw [← e1, hx9, hts2, List.map_append, List.take_left' (by simp)]
 have hrt := hs.retok (w' := grow (putRow (Value.int .i64) (Sort.ahead w n) tt.g 0 ts.toArray) #[]) hT htl (ys := cs.map fun x => (ivV x).map AV.v) (arr := cur9) (E := E) (fun b hb' hne => put_block _ w tt.g n _ #[] b hb' hne) hh9 (by rw [htz]; exact hsz9) (fun y hy => by rw [htz]; exact hzd y hy)
  (by rw [hfd, hx2, ← iV_flat]; exact repL_vals_mk G ivV iV_one _) (by rw [List.length_map]; omega) (by omega) htcm rfl rfl rfl (put_size _ w tt.g n _ #[])
 rw [htz, List.length_map, ← iV_map] at hrt
 obtain ⟨s2, f2, r2⟩ := hrt
 exact ⟨_, rfl, _, _, _, ⟨_, hs.free_nx, rfl, rfl⟩, Gh.reTk_le _ _, f2, s2, r2⟩
theorem g_edgesA (rs : List Rt) (kk : Option Nat) (hl : rs.length ≤ 500) (h0 : 0 < rs.length) (h : Hp) :
  ACalls Tryz.prog 77 [.row 5 (rs.map encRt) kk] h (fun r h' => ∃ q, h.T q = none ∧ r = .arr 1 q (onceI (edgesL rs)).length ∧ h' = ⟨h.H, upd h.T q (some (.cont 1 ((onceI (edgesL rs)).map encI)))⟩) := by
 have hml : (rs.map encRt).length = rs.length := List.length_map _
 refine gE Tryz.func77 rfl (by kernel_rfl) 25 rfl fun c => ?_
 (repeat (first | refine gQ rfl ?_ | (refine gM zM41 fun K1 hK1 => ?_; simp only [go_sem, ↓reduceIte, reduceCtorEq, nA, nB, nC, nD, nE, nF] <;> and_intros <;> first | (apply hK1; clear hK1 K1) | (intros; first | omega | decide | (simp_all <;> omega)) | skip)))
 refine awp_seq ?_
 refine awp_ownA 3 1 rfl ⟨rfl, rfl⟩ (fun k hk => ?_)
 replace hk : h.T k = none := hk
 (repeat (first | refine gO rfl ?_ | (refine gM zM41 fun K1 hK1 => ?_; simp only [go_sem, ↓reduceIte, reduceCtorEq, nA, nB, nC, nD, nE, nF, hml] <;> and_intros <;> first | (apply hK1; clear hK1 K1) | (intros; first | omega | decide) | skip)))
 refine awp_loopC (rl false [3, 1, 2, 3, 17]) 0 (fun g s => ∃ (j : Nat), g + j = rs.length ∧
  s = ⟨((jnk 3 ((.arr 1 k (2 * j)) :: AV.junk :: AV.junk :: ((.row 5 (rs.map encRt) kk) :: (.v (.int .i64 rs.length)) :: (.v (.int .i64 j)) :: (jnk 17 []))))), [], ⟨h.H, upd h.T k (some (.cont 1 ((edgesL (rs.take j)).map encI)))⟩⟩) rs.length ⟨0, by omega, rfl⟩ ?_
 rintro g _ ⟨j, hj, rfl⟩
 have hTq : upd h.T k (some (TO.cont 1 ((edgesL (rs.take j)).map encI))) k = some (TO.cont 1 ((edgesL (rs.take j)).map encI)) := upd_same _ _ _
 have hlj : (edgesL (rs.take j)).length = 2 * j := by rw [edgesL_len, List.length_take]; omega
 have hle : ((edgesL (rs.take j)).map encI).length = 2 * j := by rw [List.length_map, hlj]
 (repeat (first | refine gO rfl ?_ | (refine gM zM41 fun K1 hK1 => ?_; simp only [go_sem, ↓reduceIte, reduceCtorEq, nA, nB, nC, nD, nE, nF] <;> and_intros <;> first | (apply hK1; clear hK1 K1) | (intros; first | omega | decide) | skip)))
 refine awp_cond (t := _) rfl (fun h5 => ?_) (fun h5 => ?_)
 ·simp only [decide_eq_true_eq] at h5
  have hjl : j < rs.length := by omega
  have gx : (rs.map encRt).getD j [] = encRt rs[j] := by rw [List.getD_eq_getElem?_getD, List.getElem?_map, List.getElem?_eq_getElem hjl]; rfl
  have het := edgesL_take rs j hjl
  generalize rs[j] = r at *
  obtain ⟨it, tg, fr, t2, bb⟩ := r
  rw [show encRt (it, tg, fr, t2, bb) = [.v (.string it), .row 1 (tg.map encS) none, .v (.int .i64 fr), .v (.int .i64 t2), .v (.bool bb)] from rfl] at gx
  (repeat (first | refine gO rfl ?_ | (refine gM zM41 fun K1 hK1 => ?_; simp only [go_sem, ↓reduceIte, reduceCtorEq, nA, nB, nC, nD, nE, nF, hml, Int.toNat_natCast, gx, hTq, hle] <;> and_intros <;> first | (apply hK1; clear hK1 K1) | (intros; first | omega | decide) | skip)))
  refine ⟨g - 1, by omega, j + 1, by omega, ?_⟩
  rw [het, List.map_append]
  simp only [upd_upd]
  rfl
 ·simp only [decide_eq_false_iff_not] at h5
  have hjl : j = rs.length := by omega
  subst hjl
  rw [List.take_length] at hTq hlj hle ⊢
  obtain ⟨E, hE⟩ : ∃ E, edgesL rs = E := ⟨_, rfl⟩
  rw [hE] at hTq hlj hle ⊢
  rw [← hlj]
  have hEl : E.length ≤ 1000 := by omega
  (repeat (first | refine gO rfl ?_ | (refine gM zM41 fun K1 hK1 => ?_; simp only [go_sem, ↓reduceIte, reduceCtorEq, nA, nB, nC, nD, nE, nF] <;> and_intros <;> first | (apply hK1; clear hK1 K1) | (intros; first | omega | decide) | skip)))
  refine (g_sortI k E ⟨h.H, upd h.T k (some (.cont 1 (E.map encI)))⟩ hTq (by omega) (by omega)).mono ?_; rintro _ hz ⟨rfl, hh⟩; apply hK1; clear hK1 K1; rw [hh]; clear hh hz
  (repeat (first | refine gO rfl ?_ | (refine gM zM41 fun K1 hK1 => ?_; simp only [go_sem, ↓reduceIte, reduceCtorEq, nA, nB, nC, nD, nE, nF] <;> and_intros <;> first | (apply hK1; clear hK1 K1) | (intros; first | omega | decide) | skip)))
  obtain ⟨S, hS⟩ : ∃ S, E.mergeSort (fun x y => decide (x ≤ y)) = S := ⟨_, rfl⟩
  have hSl : S.length = E.length := by rw [← hS, List.length_mergeSort]
  have hSP : onceI E = Lib.compact S := by rw [← hS]; rfl
  rw [hS, ← hSl]
  refine (g_compA k S ⟨h.H, upd h.T k (some (.cont 1 (S.map encI)))⟩ (upd_same _ _ _) (by omega) (by omega)).mono ?_
  rintro _ _ ⟨k2, hk2, rfl, rfl⟩
  refine hK1 _ ?_; clear hK1 K1
  have hne : k2 ≠ k := fun e => by
   rw [e] at hk2
   have : upd h.T k (some (TO.cont 1 (S.map encI))) k = none := hk2
   rw [upd_same] at this; cases this
  have hk3 : h.T k2 = none := by
   have : upd h.T k (some (TO.cont 1 (S.map encI))) k2 = none := hk2
   rwa [upd_other _ _ hne] at this
  have hTe : upd (upd (upd h.T k (some (TO.cont 1 (S.map encI)))) k none) k2 (some (TO.cont 1 ((Lib.compact S).map encI))) = upd h.T k2 (some (TO.cont 1 ((Lib.compact S).map encI))) := by rw [upd_upd, upd_back hk]
  show vRem _ _ _ _ _ ⟨_, _, ⟨h.H, upd (upd (upd h.T k (some (TO.cont 1 (S.map encI)))) k none) k2 (some (TO.cont 1 ((Lib.compact S).map encI)))⟩⟩ _
  rw [hTe]
  (repeat (first | refine gO rfl ?_ | (refine gM zM41 fun K1 hK1 => ?_; simp only [go_sem, ↓reduceIte, reduceCtorEq, nA, nB, nC, nD, nE, nF] <;> and_intros <;> first | (apply hK1; clear hK1 K1) | (intros; first | omega | decide) | skip)))
  simp only [Tryz.results77, go_sem, ↓reduceIte, reduceCtorEq, nA, nB, nC, nD, nE, nF]
  exact ⟨_, _, Weak.refl _, Hp.le.refl _, k2, hk3, by rw [hSP], by rw [hSP]⟩
open Go Go.RowKit Go.Lib Go.Sort
theorem onceS_cells (hv : List ByteArray) : (onceL (hv.map (·.data.toList))).map encStr = (onceS hv).map Value.string := by
 rw [onceS, List.map_map]
 rfl
theorem belowGrow (w : World) (os : Array Obj) : Below w.heap.size w (grow w os) :=
 ⟨rfl, rfl, rfl, by simp [grow], fun k hk => by show (w.heap ++ os)[k]? = _; rw [Array.getElem?_append_left hk]⟩
theorem ownsRow_bel {w w' : World} {b size n : Nat} {e : TypeId} {v : Value} {xs : List Value} (h : w.ownsRow b e size v n xs) (hb : Below w.heap.size w w') : w'.ownsRow b e size v n xs := by
 obtain ⟨h1, h2⟩ := h
 refine ⟨h1, ?_⟩
 rcases h2 with h2 | ⟨g, c, cur, e1, e2, e3, e4⟩
 ·exact .inl h2
 ·exact .inr ⟨g, c, cur, e1, e2, (hb.block g (Array.getElem?_eq_some_iff.1 e3).1).trans e3, e4⟩
set_option maxRecDepth 100000 in
set_option maxHeartbeats 2000000 in
theorem rising_walk (g o c : Nat) (hv : List ByteArray) (w : World) (hc : ∀ j, j < hv.length → w.cell? ⟨g, o + j, none⟩ = some (.string (hv.getD j ByteArray.empty))) (h0 : 0 < hv.length) (hl : hv.length ≤ 100000) :
  Calls Tryz.prog 169 #[.slice (some ⟨g, o, none⟩) hv.length c] w fun e w' => ∃ v', e = .returned v' ∧ w'.ownsRow w.heap.size 9 1 v' (onceS hv).length ((onceS hv).map Value.string) ∧ Below w.heap.size w w' := by
 have HCL : Hid (Calls Tryz.prog 63 #[.slice (some ⟨g, o, none⟩) hv.length c] w fun e w' => ∃ v', e = .returned v' ∧ w'.ownsRow w.heap.size 9 1 v' hv.length (hv.map Value.string) ∧ v' ≠ .slice none 0 0 ∧ Below w.heap.size w w') := by
  have := Tryz.slices_Clone_string g o hv.length c hv w (Nat.le_refl _) (by omega) hc
  rw [List.take_length] at this
  exact this
 clear hc
 go_enter Tryz.func169, Tryz.ntmps169
 go_wp2_with fail
 refine HCL.out.mono ?_
 rintro e w1 ⟨v1, rfl, own1, hne, hb1⟩
 have own1' : w1.ownsRow w.heap.size 9 1 v1 hv.length ((hv.map (·.data.toList)).map encStr) := by rw [map_encStr]; exact own1
 obtain ⟨g1, c1, rfl, hg1, hg1l, hnc, hcm, _, hH⟩ := holds_of_ownsRow own1' hne
 have HH := Lib.hid hH
 have HO := Lib.hid own1'
 clear own1 own1' hne HCL hH
 obtain ⟨ss, hss⟩ : ∃ ss : List (List UInt8), ss = hv.map (·.data.toList) := ⟨_, rfl⟩
 rw [← hss] at HH HO
 have hsl : ss.length = hv.length := by rw [hss]; simp
 have HSS := Lib.hid hss
 have HSL := Lib.hid hsl
 have HSC : Hid (Calls Tryz.prog 125 #[.slice (some ⟨g1, 0, none⟩) hv.length c1] w1 fun e w' => e = .returned (.tuple #[]) ∧ ∃ n os, w' = grow (putRow encStr (Sort.ahead w1 n) g1 0 (ss.mergeSort fun x y => decide (x ≤ y)).toArray) os) := by
  have := Tryz.slices_Sort_string g1 0 c1 ss w1 HH.out hg1l (by omega)
  rw [hsl] at this
  exact this
 clear hss hsl HH
 go_wp2_with fail
 refine HSC.out.mono ?_
 rintro e w2 ⟨rfl, n2, os2, hw2⟩
 obtain ⟨ts, hts⟩ : ∃ ts, ts = ss.mergeSort fun x y => decide (x ≤ y) := ⟨_, rfl⟩
 rw [← hts] at hw2
 have htl : ts.length = hv.length := by rw [hts, List.length_mergeSort]; exact HSL.out
 have own2 := ownsRow_bel (ownsRow_putRow (q := n2) (k := hv.length) HO.out htl (Nat.le_refl _)) (belowGrow (putRow encStr (Sort.ahead w1 n2) g1 0 ts.toArray) os2)
 rw [← hw2, List.take_of_length_le (by omega)] at own2
 have hb2 : Below w.heap.size w w2 := by rw [hw2]; exact (below_putRow hb1 hg1).trans ((belowGrow _ _).mono (by have := hb1.size; simpa [putRow, mapBlock, Sort.ahead] using this))
 obtain ⟨g3, c3, hv3, _, _, hnc3, _, _, hH2⟩ := holds_of_ownsRow own2 (by simp)
 simp only [Value.slice.injEq, Option.some.injEq, Addr.mk.injEq, and_true, true_and] at hv3
 obtain ⟨rfl, rfl⟩ := hv3
 have HO2 := Lib.hid own2
 have HTS := Lib.hid (show onceL (hv.map (·.data.toList)) = Lib.compact ts by rw [onceL, hts, HSS.out])
 have HCC : Hid (Calls Tryz.prog 126 #[.slice (some ⟨g1, 0, none⟩) hv.length c1] w2 fun e w' => e = .returned (.slice (some ⟨g1, 0, none⟩) (Lib.compact ts).length c1) ∧ ∃ q, w' = putRow encStr (Sort.ahead w2 q) g1 0 (Lib.compact ts ++ List.replicate (hv.length - (Lib.compact ts).length) []).toArray) := by
  have := Tryz.slices_Compact_string g1 0 c1 ts w2 hH2 (by omega) (by omega)
  rw [htl] at this
  exact this
 have HTL := Lib.hid htl
 clear hw2 own2 hts htl hH2 HSC
 go_wp2_with fail
 refine HCC.out.mono ?_
 rintro e w3 ⟨rfl, q3, hw3⟩
 have hcl : (Lib.compact ts).length ≤ hv.length := by have := Lib.compact_length_le ts; have := HTL.out; omega
 have own3 := ownsRow_putRow (q := q3) (k := (Lib.compact ts).length) (ys := Lib.compact ts ++ List.replicate (hv.length - (Lib.compact ts).length) []) HO2.out (by simp; omega) hcl
 rw [← hw3, List.take_append_of_le_length (Nat.le_refl _), List.take_length, ← HTS.out, onceS_cells] at own3
 have hrl : (onceL (hv.map (·.data.toList))).length = (onceS hv).length := by simp [onceS]
 rw [hrl] at own3
 have hb3 : Below w.heap.size w w3 := by rw [hw3]; exact below_putRow hb2 hg1
 have HO3 := Lib.hid own3
 have HRL := Lib.hid (show (Lib.compact ts).length = (onceS hv).length by rw [← HTS.out, hrl])
 clear own3 hw3 hrl HCC
 rw [HRL.out]
 go_wp2_with fail
 go_ret
 exact ⟨_, rfl, HO3.out, hb3⟩
theorem flat_encS (l : List ByteArray) : (l.map encS).flatten = l.map fun x => AV.v (.string x) := by
 induction l with
 | nil => rfl
 | cons x q ih => simp [encS, ih]
theorem repL_strs (G : Gh) (l : List ByteArray) : RepL G (l.map fun x => AV.v (.string x)) (l.map Value.string) := by
 refine ⟨by simp, fun j a b => ?_⟩
 simp only [List.getElem_map]
 exact ⟨.v _ rfl, rfl⟩
theorem repL_strs_inv {G : Gh} {l : List ByteArray} {us : List Value} (h : RepL G (l.map fun x => AV.v (.string x)) us) : us = l.map Value.string := by
 obtain ⟨h1, h2⟩ := h
 apply List.ext_getElem (by simpa using h1)
 intro j a b
 have h3 := (h2 j (by simpa using b) a).1
 simp only [List.getElem_map] at h3 ⊢
 generalize us[j] = y at h3
 cases h3; rfl
theorem g_risingU (ns : List ByteArray) (k : Option Nat) (h : Hp) (h0 : 0 < ns.length) (hl : ns.length ≤ 100000) : ACalls Tryz.prog 169 [.row 1 (ns.map encS) k] h (fun r h' => r = .row 1 ((onceS ns).map encS) none ∧ h' = h) := by
 refine acalls_mk (by kernel_rfl) fun G w vs hs hv ha => ?_
 have hr := ha 0 (by simp)
 have hvs : vs = #[vs.getD 0 undef] := by
  have hv1 : vs.size = 1 := hv
  apply Array.ext (by simpa using hv1)
  intro j hj hj'
  simp only [List.size_toArray, List.length_cons, List.length_nil] at hj'
  obtain rfl : j = 0 := by omega
  simp [Array.getD, hv1]
 rw [hvs]
 generalize vs.getD 0 undef = v at *
 simp only [List.getElem_cons_zero] at hr
 rcases Rep.row_inv hr with ⟨a, _, e⟩ | ⟨g, o, c, us, rfl, hc, hz, hru, hu⟩
 ·have := congrArg List.length e; simp only [List.length_map, List.length_nil] at this; omega
 ·rw [flat_encS] at hru
  have hus := repL_strs_inv hru
  rw [List.length_map] at hc ⊢
  refine (rising_walk g o c ns w (fun j hj => hs.cell _ _ _ (hu j _ ?_)) h0 hl).mono ?_
  ·rw [hus, List.getElem?_map, List.getElem?_eq_getElem hj, List.getD_eq_getElem?_getD, List.getElem?_eq_getElem hj]; rfl
  ·rintro _ w' ⟨v', rfl, own, bel⟩
   obtain ⟨G', g1, f1, s1, r1⟩ := row_of_own hs bel own (xs := (onceS ns).map encS) (by simp) (fun x hx => by obtain ⟨y, _, rfl⟩ := List.mem_map.1 hx; rfl) (by rw [flat_encS]; exact repL_strs G _)
   exact ⟨v', rfl, _, h, G', ⟨rfl, rfl⟩, g1, f1, s1, r1⟩
set_option maxRecDepth 100000 in
set_option maxHeartbeats 2000000 in
theorem rising_nil (c : Nat) (w : World) : Calls Tryz.prog 169 #[.slice none 0 c] w fun e w' => ∃ v', e = .returned v' ∧ w'.ownsRow w.heap.size 9 1 v' 0 [] ∧ Below w.heap.size w w' := by
 go_enter Tryz.func169, Tryz.ntmps169
 go_wp2_with fail
 refine (Tryz.slices_Clone_string_nil 0 c w).mono ?_
 rintro e w1 ⟨rfl, rfl⟩
 go_wp2_with fail
 refine (Tryz.slices_Sort_string_none none 0 _).mono ?_
 rintro e w2 ⟨rfl, rfl⟩
 go_wp2_with fail
 refine (Tryz.slices_Compact_string_empty none 0 _).mono ?_
 rintro e w3 ⟨rfl, rfl⟩
 go_wp2_with fail
 go_ret
 exact ⟨_, rfl, World.ownsRow_nil _ _ _ _, ⟨rfl, rfl, rfl, Nat.le_refl _, fun _ _ => rfl⟩⟩
set_option maxRecDepth 100000 in
set_option maxHeartbeats 2000000 in
theorem rising_zero (a : Addr) (c : Nat) (w : World) : Calls Tryz.prog 169 #[.slice (some a) 0 c] w fun e w' => ∃ v', e = .returned v' ∧ w'.ownsRow w.heap.size 9 1 v' 0 [] ∧ Below w.heap.size w w' := by
 go_enter Tryz.func169, Tryz.ntmps169
 go_wp2_with fail
 refine (Tryz.slices_Clone_string_zero a c w).mono ?_
 rintro e w1 ⟨v1, rfl, own1, hne, hb1⟩
 rcases own1.2 with ⟨rfl, _⟩ | ⟨g1, c1, cur, rfl, hrest⟩
 ·exact absurd rfl hne
 have HO := Lib.hid own1
 clear own1 hrest hne
 go_wp2_with fail
 refine (Tryz.slices_Sort_string_none _ c1 _).mono ?_
 rintro e w2 ⟨rfl, rfl⟩
 go_wp2_with fail
 refine (Tryz.slices_Compact_string_empty _ c1 _).mono ?_
 rintro e w3 ⟨rfl, rfl⟩
 go_wp2_with fail
 go_ret
 exact ⟨_, rfl, HO.out, hb1⟩
theorem g_rising0 (k : Option Nat) (h : Hp) : ACalls Tryz.prog 169 [.row 1 [] k] h (fun r h' => r = .row 1 [] none ∧ h' = h) := by
 refine acalls_mk (by kernel_rfl) fun G w vs hs hv ha => ?_
 have hr := ha 0 (by simp)
 rw [vs_one hv]
 generalize vs.getD 0 undef = v at *
 simp only [List.getElem_cons_zero] at hr
 have fin : ∀ e w', (∃ v', e = Ending.returned v' ∧ w'.ownsRow w.heap.size 9 1 v' 0 [] ∧ Below w.heap.size w w') → ∃ v, e = Ending.returned v ∧ ∃ r h' G', (r = AV.row 1 [] none ∧ h' = h) ∧ GLe G G' ∧ Fr G h w G' h' w' ∧ HSim G' h' w' ∧ Rep G' r v := by
  rintro _ w' ⟨v', rfl, own, bel⟩
  obtain ⟨G', g1, f1, s1, r1⟩ := row_of_own hs bel own (xs := []) rfl (fun x hx => by cases hx) (RepL.nil G)
  exact ⟨v', rfl, _, h, G', ⟨rfl, rfl⟩, g1, f1, s1, r1⟩
 rcases Rep.row_inv hr with ⟨a, rfl, _⟩ | ⟨g, o, c, us, rfl, _⟩
 ·cases a with
  | none => exact (rising_nil 0 w).mono fin
  | some a => exact (rising_zero a 0 w).mono fin
 ·exact (rising_zero _ c w).mono fin
theorem g_Rising (ns : List ByteArray) (k : Option Nat) (h : Hp) (hl : ns.length ≤ 100000) : ACalls Tryz.prog 169 [.row 1 (ns.map encS) k] h (fun r h' => r = .row 1 ((onceS ns).map encS) none ∧ h' = h) := by
 cases ns with
 | nil =>
  have e : onceS [] = [] := by simp [onceS, onceL, Lib.compact, Lib.compactUpTo]
  rw [e]
  exact g_rising0 k h
 | cons x l => exact g_risingU (x :: l) k h (by simp) hl
set_option maxRecDepth 100000 in
set_option maxHeartbeats 2000000 in
theorem onceR_walk (g o c : Nat) (hv : List ByteArray) (w : World) (hc : ∀ j, j < hv.length → w.cell? ⟨g, o + j, none⟩ = some (.string (hv.getD j ByteArray.empty))) (h0 : 0 < hv.length) (hl : hv.length ≤ 100000) :
  Calls Tryz.prog 84 #[.slice (some ⟨g, o, none⟩) hv.length c] w fun e w' => ∃ v', e = .returned v' ∧ w'.ownsRow w.heap.size 9 1 v' (onceS hv).length ((onceS hv).map Value.string) ∧ Below w.heap.size w w' := by
 have HCL : Hid (Calls Tryz.prog 63 #[.slice (some ⟨g, o, none⟩) hv.length c] w fun e w' => ∃ v', e = .returned v' ∧ w'.ownsRow w.heap.size 9 1 v' hv.length (hv.map Value.string) ∧ v' ≠ .slice none 0 0 ∧ Below w.heap.size w w') := by
  have := Tryz.slices_Clone_string g o hv.length c hv w (Nat.le_refl _) (by omega) hc
  rw [List.take_length] at this
  exact this
 clear hc
 go_enter Tryz.func84, Tryz.ntmps84
 go_wp2_with fail
 refine HCL.out.mono ?_
 rintro e w1 ⟨v1, rfl, own1, hne, hb1⟩
 have own1' : w1.ownsRow w.heap.size 9 1 v1 hv.length ((hv.map (·.data.toList)).map encStr) := by rw [map_encStr]; exact own1
 obtain ⟨g1, c1, rfl, hg1, hg1l, hnc, hcm, _, hH⟩ := holds_of_ownsRow own1' hne
 have HH := Lib.hid hH
 have HO := Lib.hid own1'
 clear own1 own1' hne HCL hH
 obtain ⟨ss, hss⟩ : ∃ ss : List (List UInt8), ss = hv.map (·.data.toList) := ⟨_, rfl⟩
 rw [← hss] at HH HO
 have hsl : ss.length = hv.length := by rw [hss]; simp
 have HSS := Lib.hid hss
 have HSL := Lib.hid hsl
 have HSC : Hid (Calls Tryz.prog 125 #[.slice (some ⟨g1, 0, none⟩) hv.length c1] w1 fun e w' => e = .returned (.tuple #[]) ∧ ∃ n os, w' = grow (putRow encStr (Sort.ahead w1 n) g1 0 (ss.mergeSort fun x y => decide (x ≤ y)).toArray) os) := by
  have := Tryz.slices_Sort_string g1 0 c1 ss w1 HH.out hg1l (by omega)
  rw [hsl] at this
  exact this
 clear hss hsl HH
 go_wp2_with fail
 refine HSC.out.mono ?_
 rintro e w2 ⟨rfl, n2, os2, hw2⟩
 obtain ⟨ts, hts⟩ : ∃ ts, ts = ss.mergeSort fun x y => decide (x ≤ y) := ⟨_, rfl⟩
 rw [← hts] at hw2
 have htl : ts.length = hv.length := by rw [hts, List.length_mergeSort]; exact HSL.out
 have own2 := ownsRow_bel (ownsRow_putRow (q := n2) (k := hv.length) HO.out htl (Nat.le_refl _)) (belowGrow (putRow encStr (Sort.ahead w1 n2) g1 0 ts.toArray) os2)
 rw [← hw2, List.take_of_length_le (by omega)] at own2
 have hb2 : Below w.heap.size w w2 := by rw [hw2]; exact (below_putRow hb1 hg1).trans ((belowGrow _ _).mono (by have := hb1.size; simpa [putRow, mapBlock, Sort.ahead] using this))
 obtain ⟨g3, c3, hv3, _, _, hnc3, _, _, hH2⟩ := holds_of_ownsRow own2 (by simp)
 simp only [Value.slice.injEq, Option.some.injEq, Addr.mk.injEq, and_true, true_and] at hv3
 obtain ⟨rfl, rfl⟩ := hv3
 have HO2 := Lib.hid own2
 have HTS := Lib.hid (show onceL (hv.map (·.data.toList)) = Lib.compact ts by rw [onceL, hts, HSS.out])
 have HCC : Hid (Calls Tryz.prog 126 #[.slice (some ⟨g1, 0, none⟩) hv.length c1] w2 fun e w' => e = .returned (.slice (some ⟨g1, 0, none⟩) (Lib.compact ts).length c1) ∧ ∃ q, w' = putRow encStr (Sort.ahead w2 q) g1 0 (Lib.compact ts ++ List.replicate (hv.length - (Lib.compact ts).length) []).toArray) := by
  have := Tryz.slices_Compact_string g1 0 c1 ts w2 hH2 (by omega) (by omega)
  rw [htl] at this
  exact this
 have HTL := Lib.hid htl
 clear hw2 own2 hts htl hH2 HSC
 go_wp2_with fail
 refine HCC.out.mono ?_
 rintro e w3 ⟨rfl, q3, hw3⟩
 have hcl : (Lib.compact ts).length ≤ hv.length := by have := Lib.compact_length_le ts; have := HTL.out; omega
 have own3 := ownsRow_putRow (q := q3) (k := (Lib.compact ts).length) (ys := Lib.compact ts ++ List.replicate (hv.length - (Lib.compact ts).length) []) HO2.out (by simp; omega) hcl
 rw [← hw3, List.take_append_of_le_length (Nat.le_refl _), List.take_length, ← HTS.out, onceS_cells] at own3
 have hrl : (onceL (hv.map (·.data.toList))).length = (onceS hv).length := by simp [onceS]
 rw [hrl] at own3
 have hb3 : Below w.heap.size w w3 := by rw [hw3]; exact below_putRow hb2 hg1
 have HO3 := Lib.hid own3
 have HRL := Lib.hid (show (Lib.compact ts).length = (onceS hv).length by rw [← HTS.out, hrl])
 clear own3 hw3 hrl HCC
 rw [HRL.out]
 go_wp2_with fail
 go_ret
 exact ⟨_, rfl, HO3.out, hb3⟩
theorem g_onceRU (ns : List ByteArray) (k : Option Nat) (h : Hp) (h0 : 0 < ns.length) (hl : ns.length ≤ 100000) : ACalls Tryz.prog 84 [.row 1 (ns.map encS) k] h (fun r h' => r = .row 1 ((onceS ns).map encS) none ∧ h' = h) := by
 refine acalls_mk (by kernel_rfl) fun G w vs hs hv ha => ?_
 have hr := ha 0 (by simp)
 have hvs : vs = #[vs.getD 0 undef] := by
  have hv1 : vs.size = 1 := hv
  apply Array.ext (by simpa using hv1)
  intro j hj hj'
  simp only [List.size_toArray, List.length_cons, List.length_nil] at hj'
  obtain rfl : j = 0 := by omega
  simp [Array.getD, hv1]
 rw [hvs]
 generalize vs.getD 0 undef = v at *
 simp only [List.getElem_cons_zero] at hr
 rcases Rep.row_inv hr with ⟨a, _, e⟩ | ⟨g, o, c, us, rfl, hc, hz, hru, hu⟩
 ·have := congrArg List.length e; simp only [List.length_map, List.length_nil] at this; omega
 ·rw [flat_encS] at hru
  have hus := repL_strs_inv hru
  rw [List.length_map] at hc ⊢
  refine (onceR_walk g o c ns w (fun j hj => hs.cell _ _ _ (hu j _ ?_)) h0 hl).mono ?_
  ·rw [hus, List.getElem?_map, List.getElem?_eq_getElem hj, List.getD_eq_getElem?_getD, List.getElem?_eq_getElem hj]; rfl
  ·rintro _ w' ⟨v', rfl, own, bel⟩
   obtain ⟨G', g1, f1, s1, r1⟩ := row_of_own hs bel own (xs := (onceS ns).map encS) (by simp) (fun x hx => by obtain ⟨y, _, rfl⟩ := List.mem_map.1 hx; rfl) (by rw [flat_encS]; exact repL_strs G _)
   exact ⟨v', rfl, _, h, G', ⟨rfl, rfl⟩, g1, f1, s1, r1⟩
set_option maxRecDepth 100000 in
set_option maxHeartbeats 2000000 in
theorem onceR_nil (c : Nat) (w : World) : Calls Tryz.prog 84 #[.slice none 0 c] w fun e w' => ∃ v', e = .returned v' ∧ w'.ownsRow w.heap.size 9 1 v' 0 [] ∧ Below w.heap.size w w' := by
 go_enter Tryz.func84, Tryz.ntmps84
 go_wp2_with fail
 refine (Tryz.slices_Clone_string_nil 0 c w).mono ?_
 rintro e w1 ⟨rfl, rfl⟩
 go_wp2_with fail
 refine (Tryz.slices_Sort_string_none none 0 _).mono ?_
 rintro e w2 ⟨rfl, rfl⟩
 go_wp2_with fail
 refine (Tryz.slices_Compact_string_empty none 0 _).mono ?_
 rintro e w3 ⟨rfl, rfl⟩
 go_wp2_with fail
 go_ret
 exact ⟨_, rfl, World.ownsRow_nil _ _ _ _, ⟨rfl, rfl, rfl, Nat.le_refl _, fun _ _ => rfl⟩⟩
set_option maxRecDepth 100000 in
set_option maxHeartbeats 2000000 in
theorem onceR_zero (a : Addr) (c : Nat) (w : World) : Calls Tryz.prog 84 #[.slice (some a) 0 c] w fun e w' => ∃ v', e = .returned v' ∧ w'.ownsRow w.heap.size 9 1 v' 0 [] ∧ Below w.heap.size w w' := by
 go_enter Tryz.func84, Tryz.ntmps84
 go_wp2_with fail
 refine (Tryz.slices_Clone_string_zero a c w).mono ?_
 rintro e w1 ⟨v1, rfl, own1, hne, hb1⟩
 rcases own1.2 with ⟨rfl, _⟩ | ⟨g1, c1, cur, rfl, hrest⟩
 ·exact absurd rfl hne
 have HO := Lib.hid own1
 clear own1 hrest hne
 go_wp2_with fail
 refine (Tryz.slices_Sort_string_none _ c1 _).mono ?_
 rintro e w2 ⟨rfl, rfl⟩
 go_wp2_with fail
 refine (Tryz.slices_Compact_string_empty _ c1 _).mono ?_
 rintro e w3 ⟨rfl, rfl⟩
 go_wp2_with fail
 go_ret
 exact ⟨_, rfl, HO.out, hb1⟩
theorem g_onceR0 (k : Option Nat) (h : Hp) : ACalls Tryz.prog 84 [.row 1 [] k] h (fun r h' => r = .row 1 [] none ∧ h' = h) := by
 refine acalls_mk (by kernel_rfl) fun G w vs hs hv ha => ?_
 have hr := ha 0 (by simp)
 rw [vs_one hv]
 generalize vs.getD 0 undef = v at *
 simp only [List.getElem_cons_zero] at hr
 have fin : ∀ e w', (∃ v', e = Ending.returned v' ∧ w'.ownsRow w.heap.size 9 1 v' 0 [] ∧ Below w.heap.size w w') → ∃ v, e = Ending.returned v ∧ ∃ r h' G', (r = AV.row 1 [] none ∧ h' = h) ∧ GLe G G' ∧ Fr G h w G' h' w' ∧ HSim G' h' w' ∧ Rep G' r v := by
  rintro _ w' ⟨v', rfl, own, bel⟩
  obtain ⟨G', g1, f1, s1, r1⟩ := row_of_own hs bel own (xs := []) rfl (fun x hx => by cases hx) (RepL.nil G)
  exact ⟨v', rfl, _, h, G', ⟨rfl, rfl⟩, g1, f1, s1, r1⟩
 rcases Rep.row_inv hr with ⟨a, rfl, _⟩ | ⟨g, o, c, us, rfl, _⟩
 ·cases a with
  | none => exact (onceR_nil 0 w).mono fin
  | some a => exact (onceR_zero a 0 w).mono fin
 ·exact (onceR_zero _ c w).mono fin
theorem g_onceR (ns : List ByteArray) (k : Option Nat) (h : Hp) (hl : ns.length ≤ 100000) : ACalls Tryz.prog 84 [.row 1 (ns.map encS) k] h (fun r h' => r = .row 1 ((onceS ns).map encS) none ∧ h' = h) := by
 cases ns with
 | nil =>
  have e : onceS [] = [] := by simp [onceS, onceL, Lib.compact, Lib.compactUpTo]
  rw [e]
  exact g_onceR0 k h
 | cons x l => exact g_onceRU (x :: l) k h (by simp) hl
theorem arr_of_own0 {G : Gh} {h : Hp} {w w' : World} (hs : HSim G h w) (hb : RowKit.Below w.heap.size w w') {g c z : Nat} {E : TypeId} {cur : Array Value} (hg : w.heap.size ≤ g) (hh : w'.heap[g]? = some (.cells cur E (0, 0))) (hsz : cur.size = c * z) (hc : 0 < c) (hcm : c ≤ maxLen) :
  ∃ G' k, h.T k = none ∧ GLe G G' ∧ Fr G h w G' { h with T := upd h.T k (some (.cont z [])) } w' ∧ HSim G' { h with T := upd h.T k (some (.cont z [])) } w' ∧ Rep G' (.arr z k 0) (.slice (some ⟨g, 0, none⟩) 0 c) := by
 have hs' := hs.below hb.block
 have hk : h.T G.nx = none := by
  cases e : h.T G.nx with
  | none => rfl
  | some m => exact absurd (hs.ftl G.nx (Nat.le_refl _)) (hs.tok _ m e).tl
 have htk : (upd G.tl G.nx (some (some ⟨g, 0, z, c⟩))) G.nx = some (some ⟨g, 0, z, c⟩) := upd_same _ _ _
 have hto : ∀ l, l ≠ G.nx → (upd G.tl G.nx (some (some ⟨g, 0, z, c⟩))) l = G.tl l := fun l hl => upd_other _ _ hl
 have hle : GLe G { G with tl := upd G.tl G.nx (some (some ⟨g, 0, z, c⟩)), nx := G.nx + 1 } := ⟨fun _ _ _ e => e, fun _ _ e => e, Nat.le_succ _, fun j hj => by
  show TlLe _ (upd G.tl G.nx (some (some ⟨g, 0, z, c⟩)) j)
  rw [upd_other _ _ (by omega)]; exact .same _⟩
 have hbt : ∀ l t, h.T l ≠ none → G.tl l = some (some t) → t.g < w.heap.size := fun l t hl e => by
  obtain ⟨o, ho⟩ := Option.ne_none_iff_exists'.1 hl
  obtain ⟨vs, E, e2⟩ := (hs.tok l o ho).blk e
  exact (Array.getElem?_eq_some_iff.1 e2).1
 have hbo : ∀ i b, h.H i ≠ none → G.at_ i = some b → b < w.heap.size := fun i b hi e => by
  obtain ⟨o, ho⟩ := Option.ne_none_iff_exists'.1 hi
  obtain ⟨b', o', e1, e2, _⟩ := hs.obj i o ho
  rw [e] at e1
  cases e1
  exact (Array.getElem?_eq_some_iff.1 e2).1
 have hTn : ∀ l, l ≠ G.nx → upd h.T G.nx (some (TO.cont z [])) l ≠ none → h.T l ≠ none := fun l hl a => by rwa [upd_other _ _ hl] at a
 have hown : ∀ b, Own { G with tl := upd G.tl G.nx (some (some ⟨g, 0, z, c⟩)), nx := G.nx + 1 } { h with T := upd h.T G.nx (some (.cont z [])) } b → Own G h b ∨ b = g := by
  rintro b (⟨i, hi, e⟩ | ⟨l, t, hl, e, hgt⟩)
  ·exact .inl (.inl ⟨i, hi, e⟩)
  ·by_cases hlk : l = G.nx
   ·subst hlk
    replace e : upd G.tl G.nx (some (some ⟨g, 0, z, c⟩)) G.nx = some (some t) := e
    rw [htk] at e
    cases e
    exact .inr hgt.symm
   ·replace e : upd G.tl G.nx (some (some ⟨g, 0, z, c⟩)) l = some (some t) := e
    rw [hto l hlk] at e
    exact .inl (.inr ⟨l, t, hTn l hlk hl, e, hgt⟩)
 refine ⟨{ G with tl := upd G.tl G.nx (some (some ⟨g, 0, z, c⟩)), nx := G.nx + 1 }, G.nx, hk, hle, ⟨hb.os, hb.tape, hb.output, hb.size, fun b hb' hn => ⟨hb.block b hb', fun o => ?_, fun o => rfl⟩⟩, ?_, ?_⟩
 ·rcases hown b o with h1 | h1
  ·exact hn h1
  ·omega
 ·refine ⟨hs'.val, fun i ob e => ?_, hs'.inj, fun l m e => ?_, fun l j t t' hl hj e e' hg' => ?_, fun l i t hl hi e => ?_, fun i hi => hs.fat i (by have : G.nx + 1 ≤ i := hi; omega), fun l hl => ?_⟩
  ·obtain ⟨b, o, x, y, r, q⟩ := hs'.obj i ob e
   exact ⟨b, o, x, y, r.mono hle, q⟩
  ·by_cases hlk : l = G.nx
   ·subst hlk
    replace e : upd h.T G.nx (some (TO.cont z [])) G.nx = some m := e
    rw [upd_same] at e
    cases e
    exact .inr ⟨⟨g, 0, z, c⟩, cur, E, htk, rfl, hc, hh, hsz, Nat.zero_le _, hcm, fun o => hs.val_new hg o, rfl, (fun x hx => absurd hx List.not_mem_nil), ⟨by simp, fun j a b => absurd a (by simp)⟩⟩
   ·replace e : upd h.T G.nx (some (TO.cont z [])) l = some m := e
    rw [upd_other _ _ hlk] at e
    exact (hs'.tok l m e).move hle (hto l hlk) fun t _ => ⟨rfl, fun _ => rfl⟩
  ·replace e : upd G.tl G.nx (some (some ⟨g, 0, z, c⟩)) l = some (some t) := e
   replace e' : upd G.tl G.nx (some (some ⟨g, 0, z, c⟩)) j = some (some t') := e'
   by_cases hlk : l = G.nx
   ·by_cases hjk : j = G.nx
    ·rw [hlk, hjk]
    ·subst hlk
     rw [htk] at e
     cases e
     rw [hto j hjk] at e'
     have := hbt j t' (hTn j hjk hj) e'
     simp only at hg'
     omega
   ·rw [hto l hlk] at e
    have h1 := hbt l t (hTn l hlk hl) e
    by_cases hjk : j = G.nx
    ·subst hjk
     rw [htk] at e'
     cases e'
     simp only at hg'
     omega
    ·rw [hto j hjk] at e'
     exact hs'.tinj l j t t' (hTn l hlk hl) (hTn j hjk hj) e e' hg'
  ·replace e : upd G.tl G.nx (some (some ⟨g, 0, z, c⟩)) l = some (some t) := e
   intro e2
   by_cases hlk : l = G.nx
   ·subst hlk
    rw [htk] at e
    cases e
    have := hbo i _ hi e2
    simp only at this
    omega
   ·rw [hto l hlk] at e
    exact hs'.tobj l i t (hTn l hlk hl) hi e e2
  ·show upd G.tl G.nx (some (some ⟨g, 0, z, c⟩)) l = none
   have hl' : G.nx + 1 ≤ l := hl
   rw [upd_other _ _ (by omega)]
   exact hs.ftl l (by omega)
 ·refine .arr z G.nx 0 _ 0 c ⟨Nat.lt_succ_self _, ⟨_, _, rfl, Nat.zero_le _, .inr ⟨g, rfl⟩⟩, ?_⟩
  show match upd G.tl G.nx (some (some ⟨g, 0, z, c⟩)) G.nx with | none => True | some none => 0 = 0 ∧ ∃ a, Value.slice (some ⟨g, 0, none⟩) 0 c = .slice a 0 0 | some (some t) => 0 ≤ t.m ∧ (0 = t.m → Value.slice (some ⟨g, 0, none⟩) 0 c = .slice (some ⟨t.g, 0, none⟩) 0 t.c ∧ z = t.z)
  rw [htk]
  exact ⟨Nat.le_refl _, fun _ => ⟨rfl, rfl⟩⟩
open Go.RowKit
open Go.RowKit Go.Lib
theorem infoStr : (Tryz.prog.info? 9).map (fun i => (i.zero, i.size, i.bytes)) = some (some (.string ⟨#[]⟩), 1, 16) := by kernel_rfl
theorem grow_anyS (n : Nat) (h0 : 0 < n) (hn : n ≤ 100000) (w : World) : Calls Tryz.prog 127 #[.slice none 0 0, .int .i64 n] w fun e w' =>
  ∃ g c cur, e = .returned (.slice (some ⟨g, 0, none⟩) 0 c) ∧ w.heap.size ≤ g ∧ w'.heap[g]? = some (.cells cur 9 (0, 0)) ∧ cur.size = c * 1 ∧ 0 < c ∧ c ≤ maxLen ∧ Below w.heap.size w w' := by
 obtain ⟨i0, hi, hz0, hz1, hz2⟩ := info_parts infoStr
 have happ := fun (W : World) => Lib.run_append_nil_zeros (P := Tryz.prog) W 29 3 29 9 i0 _ .i64 .i64 Tryz.underlying29 Tryz.underlying3 hi hz0 n h0 (by rw [hz1]; omega) (by omega) (by rw [hz2]; omega)
 have hc1 := grownCap_ge w n 0 9
 have hc2 := grownCap_le_maxLen w n 0 9 (by unfold maxLen; omega)
 have hsz : (Builtin.zeroCells (Value.string ⟨#[]⟩).cells n ++ Builtin.zeroCells (Value.string ⟨#[]⟩).cells (grownCap w n 0 9 - n)).size = grownCap w n 0 9 * 1 := by
  rw [Array.size_append, size_zeroCells, size_zeroCells, show (Value.string ⟨#[]⟩).cells.size = 1 from rfl]
  omega
 go_enter Tryz.func127, Tryz.ntmps127
 go_wp2_with (at_builtin; refine Lib.wpList_append_run _ rfl _ _ _ _ rfl _ _ rfl rfl _ _ (happ _) ?_)
 go_ret
 exact ⟨_, _, _, rfl, Nat.le_refl _, heap_alloc_new _ _, hsz, by omega, hc2, (Below.refl _ _).drew.alloc (Nat.le_refl _) _⟩
theorem grow_noneS (w : World) : Calls Tryz.prog 127 #[.slice none 0 0, .int .i64 0] w fun e w' => e = .returned (.slice none 0 0) ∧ w = w' := by
 go_enter Tryz.func127, Tryz.ntmps127
 go_wp2_with fail
 go_ret
 exact ⟨rfl, rfl⟩
theorem vs_twoS {vs : Array Value} (h : vs.size = 2) : vs = #[vs.getD 0 undef, vs.getD 1 undef] := by
 apply Array.ext (by simpa using h)
 intro j hj hj'
 simp only [List.size_toArray, List.length_cons, List.length_nil] at hj'
 have hc : j = 0 ∨ j = 1 := by omega
 rcases hc with rfl | rfl <;> simp [Array.getD, h]
theorem g_growS (n : Nat) (h : Hp) (h0 : 0 < n) (hn : n ≤ 100000) : ACalls Tryz.prog 127 [.v (.slice none 0 0), .v (.int .i64 n)] h (fun r h' => ∃ q, h.T q = none ∧ r = .arr 1 q 0 ∧ h' = { h with T := upd h.T q (some (.cont 1 [])) }) := by
 refine acalls_mk (by kernel_rfl) fun G w vs hs hv ha => ?_
 have r0 := ha 0 (by simp)
 have r1 := ha 1 (by simp)
 rw [vs_twoS hv]
 generalize vs.getD 0 undef = v at r0
 generalize vs.getD 1 undef = u at r1
 simp only [List.getElem_cons_zero] at r0
 simp only [List.getElem_cons_succ, List.getElem_cons_zero] at r1
 cases r0
 cases r1
 refine (grow_anyS n h0 hn w).mono ?_
 rintro e w' ⟨g, c, cur, rfl, a1, a2, a3, a4, a5, a6⟩
 obtain ⟨G', k, hk, g1, f1, s1, rr⟩ := arr_of_own0 hs a6 a1 a2 a3 a4 a5
 exact ⟨_, rfl, _, _, G', ⟨k, hk, rfl, rfl⟩, g1, f1, s1, rr⟩
theorem g_growS0 (h : Hp) : ACalls Tryz.prog 127 [.v (.slice none 0 0), .v (.int .i64 0)] h (fun r h' => r = .v (.slice none 0 0) ∧ h' = h) := by
 refine acalls_mk (by kernel_rfl) fun G w vs hs hv ha => ?_
 have r0 := ha 0 (by simp)
 have r1 := ha 1 (by simp)
 rw [vs_twoS hv]
 generalize vs.getD 0 undef = v at r0
 generalize vs.getD 1 undef = u at r1
 simp only [List.getElem_cons_zero] at r0
 simp only [List.getElem_cons_succ, List.getElem_cons_zero] at r1
 cases r0
 cases r1
 refine (grow_noneS w).mono ?_
 rintro e w' ⟨rfl, rfl⟩
 exact ⟨_, rfl, .v (.slice none 0 0), h, G, ⟨rfl, rfl⟩, GLe.refl _, Fr.refl _ _ _, hs, .v _ rfl⟩
theorem g_concatS (A B : List ByteArray) (ka kb : Option Nat) (h : Hp) (h0 : 0 < A.length + B.length) (hl : A.length + B.length ≤ 4000) :
  ACalls Tryz.prog 85 [.row 1 [[.row 1 (A.map encS) ka], [.row 1 (B.map encS) kb]] none] h
   (fun r h' => r = .row 1 ((A ++ B).map encS) none ∧ h' = h) := by
 have r0 : [[AV.row 1 (A.map encS) ka], [AV.row 1 (B.map encS) kb]].getD 0 [] = [AV.row 1 (A.map encS) ka] := rfl
 have r1 : [[AV.row 1 (A.map encS) ka], [AV.row 1 (B.map encS) kb]].getD 1 [] = [AV.row 1 (B.map encS) kb] := rfl
 have rl2 : [[AV.row 1 (A.map encS) ka], [AV.row 1 (B.map encS) kb]].length = 2 := rfl
 generalize [[AV.row 1 (A.map encS) ka], [AV.row 1 (B.map encS) kb]] = R at r0 r1 rl2 ⊢
 refine gE Tryz.func85 rfl (by kernel_rfl) 35 rfl fun c => ?_
 (repeat (first | refine gO rfl ?_ | (refine gR fun K1 hK1 => ?_; simp only [go_sem, ↓reduceIte, reduceCtorEq, nA, nB, nC, nD, nE, nF, rl2] <;> and_intros <;> first | (apply hK1; clear hK1 K1) | (intros; first | omega | decide | (simp_all <;> omega)) | skip)))
 refine awp_loopC (rl false [0, 1, 2, 1, 5, 3, 24]) 0 (fun g s => ∃ (j : Nat) (sz : Int), g + j = 2 ∧ (j = 0 ∧ sz = 0 ∨ j = 1 ∧ sz = A.length ∨ j = 2 ∧ sz = A.length + B.length) ∧
  s = ⟨((.row 1 R none) :: AV.junk :: AV.junk :: ((.v (.int .i64 sz)) :: (jnk 5 ((.row 1 R none) :: (.v (.int .i64 2)) :: (.v (.int .i64 j)) :: (jnk 24 []))))), [], h⟩) 2
  ⟨0, 0, rfl, .inl ⟨rfl, rfl⟩, rfl⟩ ?_
 rintro g _ ⟨j, sz, hj, hc, rfl⟩
 (repeat (first | refine gO rfl ?_ | (refine gR fun K1 hK1 => ?_; simp only [go_sem, ↓reduceIte, reduceCtorEq, nA, nB, nC, nD, nE, nF] <;> and_intros <;> first | (apply hK1; clear hK1 K1) | (intros; first | omega | decide | (simp_all <;> omega)) | skip)))
 refine awp_cond (t := _) rfl (fun h1 => ?_) (fun h1 => ?_)
 ·simp only [decide_eq_true_eq] at h1
  have hx : ∃ X kx, R.getD j [] = [AV.row 1 (X.map encS) kx] ∧ (j = 0 ∧ X = A ∨ j = 1 ∧ X = B) := by
   have hjc : j = 0 ∨ j = 1 := by omega
   rcases hjc with rfl | rfl
   ·exact ⟨A, ka, r0, .inl ⟨rfl, rfl⟩⟩
   ·exact ⟨B, kb, r1, .inr ⟨rfl, rfl⟩⟩
  obtain ⟨X, kx, gx, hX⟩ := hx
  have hs2 : sz + X.length = A.length ∧ j = 0 ∨ sz + X.length = A.length + B.length ∧ j = 1 := by
   rcases hX with ⟨rfl, rfl⟩ | ⟨rfl, rfl⟩ <;> rcases hc with ⟨h5, rfl⟩ | ⟨h5, rfl⟩ | ⟨h5, rfl⟩ <;> omega
  have hjl : j < R.length := by omega
  clear r0 r1 hX hc
  (repeat (first | refine gO rfl ?_ | (refine gR fun K1 hK1 => ?_; simp only [go_sem, ↓reduceIte, reduceCtorEq, nA, nB, nC, nD, nE, nF, Int.toNat_natCast, gx, rl2, List.length_map] <;> and_intros <;> first | (apply hK1; clear hK1 K1) | (intros; first | omega | decide | (simp_all <;> omega)) | skip)))
  refine awp_cond (t := _) rfl (fun h9 => ?_) (fun _ => ?_)
  ·simp only [decide_eq_true_eq] at h9
   omega
  (repeat (first | refine gO rfl ?_ | (refine gR fun K1 hK1 => ?_; simp only [go_sem, ↓reduceIte, reduceCtorEq, nA, nB, nC, nD, nE, nF] <;> and_intros <;> first | (apply hK1; clear hK1 K1) | (intros; first | omega | decide | (simp_all <;> omega)) | skip)))
  refine ⟨g - 1, by omega, j + 1, sz + X.length, by omega, ?_, rfl⟩
  omega
 ·simp only [decide_eq_false_iff_not] at h1
  have hj2 : j = 2 := by omega
  have hsz : sz = ((A.length + B.length : Nat) : Int) := by omega
  subst hj2 hsz
  clear hc h1 hj
  (repeat (first | refine gO rfl ?_ | (refine gR fun K1 hK1 => ?_; simp only [go_sem, ↓reduceIte, reduceCtorEq, nA, nB, nC, nD, nE, nF] <;> and_intros <;> first | (apply hK1; clear hK1 K1) | (intros; first | omega | decide | (simp_all <;> omega)) | skip)))
  refine (g_growS (A.length + B.length) h h0 (by omega)).mono ?_
  rintro _ h2 ⟨q, hq, rfl, rfl⟩
  refine hK1 _ ?_; clear hK1 K1
  (repeat (first | refine gO rfl ?_ | (refine gR fun K1 hK1 => ?_; simp only [go_sem, ↓reduceIte, reduceCtorEq, nA, nB, nC, nD, nE, nF, rl2] <;> and_intros <;> first | (apply hK1; clear hK1 K1) | (intros; first | omega | decide | (simp_all <;> omega)) | skip)))
  refine awp_loopC (rl false [6, 1, 18, 3, 8]) 0 (fun g s => ∃ (j : Nat) (X : List ByteArray), g + j = 2 ∧ (j = 0 ∧ X = [] ∨ j = 1 ∧ X = A ∨ j = 2 ∧ X = A ++ B) ∧
   s = ⟨((jnk 6 ((.arr 1 q X.length) :: (jnk 18 ((.row 1 R none) :: (.v (.int .i64 2)) :: (.v (.int .i64 j)) :: (jnk 8 [])))))), [], ⟨h.H, upd h.T q (some (.cont 1 (X.map encS)))⟩⟩) 2
   ⟨0, [], rfl, .inl ⟨rfl, rfl⟩, rfl⟩ ?_
  rintro g _ ⟨j, X, hj, hc, rfl⟩
  have hTq : ∀ Y, upd h.T q (some (TO.cont 1 Y)) q = some (.cont 1 Y) := fun Y => upd_same _ _ _
  (repeat (first | refine gO rfl ?_ | (refine gR fun K1 hK1 => ?_; simp only [go_sem, ↓reduceIte, reduceCtorEq, nA, nB, nC, nD, nE, nF] <;> and_intros <;> first | (apply hK1; clear hK1 K1) | (intros; first | omega | decide | (simp_all <;> omega)) | skip)))
  refine awp_cond (t := _) rfl (fun h1 => ?_) (fun h1 => ?_)
  ·simp only [decide_eq_true_eq] at h1
   have hx : ∃ Y kx, R.getD j [] = [AV.row 1 (Y.map encS) kx] ∧ (j = 0 ∧ Y = A ∨ j = 1 ∧ Y = B) := by
    have hjc : j = 0 ∨ j = 1 := by omega
    rcases hjc with rfl | rfl
    ·exact ⟨A, ka, r0, .inl ⟨rfl, rfl⟩⟩
    ·exact ⟨B, kb, r1, .inr ⟨rfl, rfl⟩⟩
   obtain ⟨Y, kx, gx, hY⟩ := hx
   have hXY : (j + 1 = 0 ∧ X ++ Y = [] ∨ j + 1 = 1 ∧ X ++ Y = A ∨ j + 1 = 2 ∧ X ++ Y = A ++ B) ∧ X.length + Y.length ≤ 4000 := by
    rcases hY with ⟨rfl, rfl⟩ | ⟨rfl, rfl⟩ <;> rcases hc with ⟨h5, rfl⟩ | ⟨h5, rfl⟩ | ⟨h5, rfl⟩
    ·exact ⟨.inr (.inl ⟨rfl, rfl⟩), by simp; omega⟩
    ·omega
    ·omega
    ·omega
    ·exact ⟨.inr (.inr ⟨rfl, rfl⟩), hl⟩
    ·omega
   have hjl : j < R.length := by omega
   have hmx : (X.map encS).length = X.length := List.length_map _
   have hmy : (Y.map encS).length = Y.length := List.length_map _
   clear r0 r1 hY hc
   (repeat (first | refine gO rfl ?_ | (refine gR fun K1 hK1 => ?_; simp only [go_sem, ↓reduceIte, reduceCtorEq, nA, nB, nC, nD, nE, nF, Int.toNat_natCast, gx, rl2, hTq, hmx, hmy, upd_upd] <;> and_intros <;> first | (apply hK1; clear hK1 K1) | (intros; first | omega | decide | (simp_all <;> omega)) | skip)))
   refine ⟨g - 1, by omega, j + 1, X ++ Y, by omega, hXY.1, ?_⟩
   rw [List.length_append, List.map_append]
   rfl
  ·simp only [decide_eq_false_iff_not] at h1
   have hj2 : j = 2 := by omega
   have hX : X = A ++ B := by
    rcases hc with ⟨h5, rfl⟩ | ⟨h5, rfl⟩ | ⟨h5, rfl⟩
    ·omega
    ·omega
    ·rfl
   subst hj2 hX
   clear hc h1 hj
   refine awp_frz 6 q 1 (xs := (A ++ B).map encS) (by rw [List.length_map]; rfl) (upd_same _ _ _) (fun y hy => by obtain ⟨z, _, rfl⟩ := List.mem_map.1 hy; rfl) ?_
   (repeat (first | refine gO rfl ?_ | (refine gR fun K1 hK1 => ?_; simp only [go_sem, ↓reduceIte, reduceCtorEq, nA, nB, nC, nD, nE, nF] <;> and_intros <;> first | (apply hK1; clear hK1 K1) | (intros; first | omega | decide | (simp_all <;> omega)) | skip)))
   simp only [Tryz.results85, go_sem, ↓reduceIte, reduceCtorEq, nA, nB, nC, nD, nE, nF]
   refine ⟨_, h, Weak.refl _, ⟨fun _ => .inr rfl, fun t => ?_⟩, rfl, rfl⟩
   by_cases e : t = q
   ·subst e; exact .inl hq
   ·exact .inr (by show h.T t = upd h.T q none t; rw [upd_other _ _ e])
theorem g_concatS0 (ka kb : Option Nat) (h : Hp) :
  ACalls Tryz.prog 85 [.row 1 [[.row 1 [] ka], [.row 1 [] kb]] none] h (fun r h' => r = .row 1 [] none ∧ h' = h) := by
 have r0 : [[AV.row 1 [] ka], [AV.row 1 [] kb]].getD 0 [] = [AV.row 1 [] ka] := rfl
 have r1 : [[AV.row 1 [] ka], [AV.row 1 [] kb]].getD 1 [] = [AV.row 1 [] kb] := rfl
 have rl2 : [[AV.row 1 [] ka], [AV.row 1 [] kb]].length = 2 := rfl
 generalize [[AV.row 1 [] ka], [AV.row 1 [] kb]] = R at r0 r1 rl2 ⊢
 have hR : ∀ j, j < 2 → ∃ kx, R.getD j [] = [AV.row 1 [] kx] := fun j hj => by
  have hjc : j = 0 ∨ j = 1 := by omega
  rcases hjc with rfl | rfl
  ·exact ⟨ka, r0⟩
  ·exact ⟨kb, r1⟩
 clear r0 r1
 refine gE Tryz.func85 rfl (by kernel_rfl) 35 rfl fun c => ?_
 (repeat (first | refine gO rfl ?_ | (refine gR fun K1 hK1 => ?_; simp only [go_sem, ↓reduceIte, reduceCtorEq, nA, nB, nC, nD, nE, nF, rl2] <;> and_intros <;> first | (apply hK1; clear hK1 K1) | (intros; first | omega | decide | (simp_all <;> omega)) | skip)))
 refine awp_loopC (rl false [0, 1, 2, 1, 5, 3, 24]) 0 (fun g s => ∃ (j : Nat), g + j = 2 ∧
  s = ⟨((.row 1 R none) :: AV.junk :: AV.junk :: ((.v (.int .i64 0)) :: (jnk 5 ((.row 1 R none) :: (.v (.int .i64 2)) :: (.v (.int .i64 j)) :: (jnk 24 []))))), [], h⟩) 2
  ⟨0, rfl, rfl⟩ ?_
 rintro g _ ⟨j, hj, rfl⟩
 (repeat (first | refine gO rfl ?_ | (refine gR fun K1 hK1 => ?_; simp only [go_sem, ↓reduceIte, reduceCtorEq, nA, nB, nC, nD, nE, nF] <;> and_intros <;> first | (apply hK1; clear hK1 K1) | (intros; first | omega | decide | (simp_all <;> omega)) | skip)))
 refine awp_cond (t := _) rfl (fun h1 => ?_) (fun h1 => ?_)
 ·simp only [decide_eq_true_eq] at h1
  obtain ⟨kx, gx⟩ := hR j (by omega)
  have hjl : j < R.length := by omega
  clear hR
  (repeat (first | refine gO rfl ?_ | (refine gR fun K1 hK1 => ?_; simp only [go_sem, ↓reduceIte, reduceCtorEq, nA, nB, nC, nD, nE, nF, Int.toNat_natCast, gx, rl2, List.length_map] <;> and_intros <;> first | (apply hK1; clear hK1 K1) | (intros; first | omega | decide | (simp_all <;> omega)) | skip)))
  refine awp_cond (t := _) rfl (fun h9 => by simp at h9) (fun _ => ?_)
  (repeat (first | refine gO rfl ?_ | (refine gR fun K1 hK1 => ?_; simp only [go_sem, ↓reduceIte, reduceCtorEq, nA, nB, nC, nD, nE, nF] <;> and_intros <;> first | (apply hK1; clear hK1 K1) | (intros; first | omega | decide | (simp_all <;> omega)) | skip)))
  exact ⟨g - 1, by omega, j + 1, by omega, rfl⟩
 ·clear h1 hj
  (repeat (first | refine gO rfl ?_ | (refine gR fun K1 hK1 => ?_; simp only [go_sem, ↓reduceIte, reduceCtorEq, nA, nB, nC, nD, nE, nF] <;> and_intros <;> first | (apply hK1; clear hK1 K1) | (intros; first | omega | decide | (simp_all <;> omega)) | skip)))
  refine (g_growS0 h).mono ?_; rintro _ hz ⟨rfl, hh⟩; apply hK1; clear hK1 K1; rw [hh]; clear hh hz
  (repeat (first | refine gQ rfl ?_ | (refine gR fun K1 hK1 => ?_; simp only [go_sem, ↓reduceIte, reduceCtorEq, nA, nB, nC, nD, nE, nF, rl2] <;> and_intros <;> first | (apply hK1; clear hK1 K1) | (intros; first | omega | decide | (simp_all <;> omega)) | skip)))
  refine awp_seq ?_
  (repeat (first | refine gO rfl ?_ | (refine gR fun K1 hK1 => ?_; simp only [go_sem, ↓reduceIte, reduceCtorEq, nA, nB, nC, nD, nE, nF, rl2] <;> and_intros <;> first | (apply hK1; clear hK1 K1) | (intros; first | omega | decide | (simp_all <;> omega)) | skip)))
  refine awp_loopC (rl false [6, 1, 18, 3, 8]) 0 (fun g s => ∃ (j : Nat) (x : AV) (h2 : Hp), g + j = 2 ∧ (x = .v (.slice none 0 0) ∧ h2 = h ∨ ∃ k, h.T k = none ∧ x = .row 1 [] (some k) ∧ h2 = ⟨h.H, upd h.T k (some (.tail 0))⟩) ∧
   s = ⟨((jnk 6 ((x) :: (jnk 18 ((.row 1 R none) :: (.v (.int .i64 2)) :: (.v (.int .i64 j)) :: (jnk 8 [])))))), [], h2⟩) 2
   ⟨0, _, _, rfl, .inl ⟨rfl, rfl⟩, rfl⟩ ?_
  rintro g _ ⟨j, x, h2, hj, hx, rfl⟩
  (repeat (first | refine gO rfl ?_ | (refine gR fun K1 hK1 => ?_; simp only [go_sem, ↓reduceIte, reduceCtorEq, nA, nB, nC, nD, nE, nF] <;> and_intros <;> first | (apply hK1; clear hK1 K1) | (intros; first | omega | decide | (simp_all <;> omega)) | skip)))
  refine awp_cond (t := _) rfl (fun h1 => ?_) (fun h1 => ?_)
  ·simp only [decide_eq_true_eq] at h1
   obtain ⟨kx, gx⟩ := hR j (by omega)
   have hjl : j < R.length := by omega
   clear hR
   rcases hx with ⟨rfl, rfl⟩ | ⟨k, hk0, rfl, rfl⟩
   ·(repeat (first | refine gO rfl ?_ | (refine gR fun K1 hK1 => ?_; simp only [go_sem, ↓reduceIte, reduceCtorEq, nA, nB, nC, nD, nE, nF, Int.toNat_natCast, gx, rl2] <;> and_intros <;> first | (apply hK1; clear hK1 K1) | (intros; first | omega | decide | (simp_all <;> omega)) | skip)))
    intro k hk
    refine hK1 _ ?_; clear hK1 K1
    (repeat (first | refine gO rfl ?_ | (refine gR fun K1 hK1 => ?_; simp only [go_sem, ↓reduceIte, reduceCtorEq, nA, nB, nC, nD, nE, nF, Int.toNat_natCast, gx, rl2] <;> and_intros <;> first | (apply hK1; clear hK1 K1) | (intros; first | omega | decide | (simp_all <;> omega)) | skip)))
    exact ⟨g - 1, by omega, j + 1, _, _, by omega, .inr ⟨k, (by assumption), rfl, rfl⟩, rfl⟩
   ·(repeat (first | refine gO rfl ?_ | (refine gR fun K1 hK1 => ?_; simp only [go_sem, ↓reduceIte, reduceCtorEq, nA, nB, nC, nD, nE, nF, Int.toNat_natCast, gx, rl2, upd_same, upd_upd] <;> and_intros <;> first | (apply hK1; clear hK1 K1) | (intros; first | omega | decide | (simp_all <;> omega)) | skip)))
    exact ⟨g - 1, by omega, j + 1, _, _, by omega, .inr ⟨k, (by assumption), rfl, rfl⟩, rfl⟩
  ·rcases hx with ⟨rfl, rfl⟩ | ⟨k, hk0, rfl, rfl⟩
   ·(repeat (first | refine gO rfl ?_ | (refine gR fun K1 hK1 => ?_; simp only [go_sem, ↓reduceIte, reduceCtorEq, nA, nB, nC, nD, nE, nF] <;> and_intros <;> first | (apply hK1; clear hK1 K1) | (intros; first | omega | decide | (simp_all <;> omega)) | skip)))
    simp only [Tryz.results85, go_sem, ↓reduceIte, reduceCtorEq, nA, nB, nC, nD, nE, nF]
    exact ⟨_, _, Weak.nil _ _ _ ⟨rfl, rfl⟩, Hp.le.refl _, rfl, rfl⟩
   ·(repeat (first | refine gO rfl ?_ | (refine gR fun K1 hK1 => ?_; simp only [go_sem, ↓reduceIte, reduceCtorEq, nA, nB, nC, nD, nE, nF] <;> and_intros <;> first | (apply hK1; clear hK1 K1) | (intros; first | omega | decide | (simp_all <;> omega)) | skip)))
    simp only [Tryz.results85, go_sem, ↓reduceIte, reduceCtorEq, nA, nB, nC, nD, nE, nF]
    refine ⟨_, h, Weak.row _ _ _, ⟨fun _ => .inr rfl, fun t => ?_⟩, rfl, rfl⟩
    by_cases e : t = k
    ·subst e; exact .inl hk0
    ·exact .inr (by show h.T t = upd h.T k _ t; rw [upd_other _ _ e])
theorem g_concatR (A B : List ByteArray) (ka kb : Option Nat) (h : Hp) (hl : A.length + B.length ≤ 4000) :
  ACalls Tryz.prog 85 [.row 1 [[.row 1 (A.map encS) ka], [.row 1 (B.map encS) kb]] none] h (fun r h' => r = .row 1 ((A ++ B).map encS) none ∧ h' = h) := by
 by_cases h0 : 0 < A.length + B.length
 ·exact g_concatS A B ka kb h h0 hl
 ·have hA : A = [] := List.eq_nil_of_length_eq_zero (by omega)
  have hB : B = [] := List.eq_nil_of_length_eq_zero (by omega)
  subst hA hB
  exact g_concatS0 ka kb h
theorem g_union (A B : List ByteArray) (ka kb : Option Nat) (h : Hp) (hl : A.length + B.length ≤ 4000) :
  ACalls Tryz.prog 123 [.row 1 (A.map encS) ka, .row 1 (B.map encS) kb] h (fun r h' => r = .row 1 ((onceS (A ++ B)).map encS) none ∧ h' = h) := by
 have hcc := g_concatR A B ka kb h hl
 refine gE Tryz.func123 rfl (by kernel_rfl) 8 rfl fun c => ?_
 (repeat (first | refine gO rfl ?_ | (refine gR fun K1 hK1 => ?_; simp only [go_sem, ↓reduceIte, reduceCtorEq, nA, nB, nC, nD, nE, nF] <;> and_intros <;> first | (apply hK1; clear hK1 K1) | (intros; first | omega | decide) | skip)))
 refine hcc.mono ?_
 rintro _ hz ⟨rfl, hh⟩; apply hK1; clear hK1 K1; rw [hh]; clear hh hz
 (repeat (first | refine gO rfl ?_ | (refine gR fun K1 hK1 => ?_; simp only [go_sem, ↓reduceIte, reduceCtorEq, nA, nB, nC, nD, nE, nF] <;> and_intros <;> first | (apply hK1; clear hK1 K1) | (intros; first | omega | decide) | skip)))
 refine (g_Rising (A ++ B) none _ (by rw [List.length_append]; omega)).mono ?_
 rintro _ hz ⟨rfl, hh⟩; apply hK1; clear hK1 K1; rw [hh]; clear hh hz
 (repeat (first | refine gO rfl ?_ | (refine gR fun K1 hK1 => ?_; simp only [go_sem, ↓reduceIte, reduceCtorEq, nA, nB, nC, nD, nE, nF] <;> and_intros <;> first | (apply hK1; clear hK1 K1) | (intros; first | omega | decide) | skip)))
 simp only [Tryz.results123, go_sem, ↓reduceIte, reduceCtorEq, nA, nB, nC, nD, nE, nF]
 exact ⟨_, _, Weak.refl _, Hp.le.refl _, rfl, rfl⟩
open Go Go.RowKit Go.Sort Go.Lib Go.Proofs
theorem infoRt : (Tryz.prog.info? 106).map (fun i => i.size) = some 5 := by kernel_rfl
def zRt : List Value := [.string ⟨#[]⟩, .slice none 0 0, .int .i64 0, .int .i64 0, .bool false]
theorem zeroRt (w : World) : (zeroValue 106).run Tryz.prog w = .ok (.agg #[.string ⟨#[]⟩, .slice none 0 0, .int .i64 0, .int .i64 0, .bool false]) w := Tryz.zeroValue106 w
theorem run_clear_one {P : Program} (w : World) (t e ty : TypeId) (z : Value) (zs : List Value) (ht : P.underlying t = some (.slice e)) (hv : ∀ w, (zeroValue e).run P w = .ok z w) (hz : (Builtin.zeroCells z.cells 1).toList = zs) (h1 : ∀ v ∈ zs, v.oneCell' = true) (b o c : Nat)
  (hc : ∀ j, j < zs.length → (w.cell? ⟨b, o + j, none⟩).isSome = true) (hf : ∀ j, j < zs.length → w.frozen? ⟨b, o + j, none⟩ = false) :
  (Builtin.clear_ #[t] ty #[.slice (some ⟨b, o, none⟩) 1 c]).run P w = .ok (.tuple #[]) (w.setCells b o zs) := by
 have hst := run_storeCells_cells (P := P) b o zs 0 w (by simpa using hc) (by simpa using hf) h1
 simp only [Nat.add_zero] at hst
 simp [Builtin.clear_, run_underlying ht, hv, hz, hst]
theorem del_arr {α : Type} (d : Array α) (i j : Nat) (zs : List α) (hij : i ≤ j) (hj : j ≤ d.size) (hz : zs.length = j - i) :
  lay (lay d i (d.toList.drop j)) (i + (d.size - j)) zs = (d.toList.take i ++ d.toList.drop j ++ zs).toArray := by
 apply Array.ext_getElem?
 intro t
 have l1 : (d.toList.take i).length = i := by simp; omega
 have l2 : (d.toList.drop j).length = d.size - j := by simp
 rw [lay_get? _ _ _ _ (by rw [lay_size]; omega), lay_get? _ _ _ _ (by rw [l2]; omega), show (d.toList.take i ++ d.toList.drop j ++ zs).toArray[t]? = (d.toList.take i ++ d.toList.drop j ++ zs)[t]? from by simp]
 simp only [l2]
 by_cases c1 : t < i
 ·rw [if_neg (by omega), if_neg (by omega), List.append_assoc, List.getElem?_append_left (by omega), List.getElem?_take, if_pos c1, Array.getElem?_toList]
 ·by_cases c2 : t < i + (d.size - j)
  ·rw [if_neg (by omega), if_pos (by omega), List.getElem?_append_left (by simp; omega), List.getElem?_append_right (by omega), l1]
  ·rw [List.getElem?_append_right (by simp; omega)]
   simp only [List.length_append, l1, l2]
   by_cases c3 : t < d.size
   ·rw [if_pos (by omega)]
   ·rw [if_neg (by omega), if_neg (by omega), Array.getElem?_eq_none (by omega), List.getElem?_eq_none (by omega)]
set_option maxHeartbeats 4000000 in
set_option maxRecDepth 1000000 in
theorem del_walk (g c n i : Nat) (vs : List Value) (w : World) (hH : Holds (id : Value → Value) w g 0 vs.toArray) (hv : vs.length = n * 5) (h1 : ∀ u ∈ vs, u.oneCell' = true) (hnc : n ≤ c) (hcm : c ≤ 9223372036854775807) (hi : i < n) (hn : n ≤ 100000) :
  Calls Tryz.prog 59 #[.slice (some ⟨g, 0, none⟩) n c, .int .i64 i, .int .i64 (i + 1 : Nat)] w fun e w' => e = .returned (.slice (some ⟨g, 0, none⟩) (n - 1) c) ∧ ∃ q, w' = putRow id (Sort.ahead w q) g 0 (vs.take (i * 5) ++ vs.drop ((i + 1) * 5) ++ zRt).toArray := by
 obtain ⟨i0, hi0, hz1⟩ : ∃ i0, Tryz.prog.info? 106 = some i0 ∧ i0.size = 5 := by
  have h := infoRt
  cases h2 : Tryz.prog.info? 106 with
  | none => rw [h2] at h; cases h
  | some i0 => rw [h2] at h; exact ⟨i0, rfl, by simpa using h⟩
 have mixed : Tryz.prog.follows Departure.mixedOrders = true := by kernel_rfl
 have t0 := Tryz.underlying26
 obtain ⟨news, hnews⟩ : ∃ news, news = vs.drop ((i + 1) * 5) := ⟨_, rfl⟩
 have hds : vs.toArray.size = n * 5 := by simpa using hv
 have hlen : news.length = (n - (i + 1)) * 5 := by rw [hnews, List.length_drop, hv]; omega
 have hget : ∀ t, t < (n - (i + 1)) * 5 → news[t]? = some (vs.toArray[(i + 1) * 5 + t]!) := by
  intro t ht
  have h9 : (i + 1) * 5 + t < vs.length := by omega
  rw [hnews, List.getElem?_drop, List.getElem?_eq_getElem h9]
  simp [h9]
 obtain ⟨A, hA, hsrc⟩ : ∃ A : Addr, (if c = i + 1 then some (⟨g, 0, none⟩ : Addr) else some ⟨g, (i + 1) * 5, none⟩) = some A ∧ Hid (∀ t u, news[t]? = some u → w.drew.cell? (A.add t) = some u) := by
  by_cases h : c = i + 1
  ·refine ⟨⟨g, 0, none⟩, by simp [h], fun t u hu => ?_⟩
   have h0 : news.length = 0 := by rw [hlen]; omega
   rw [List.length_eq_zero_iff.1 h0] at hu
   simp at hu
  ·refine ⟨⟨g, (i + 1) * 5, none⟩, by simp [h], fun t u hu => ?_⟩
   have ht : t < (n - (i + 1)) * 5 := by
    have := (List.getElem?_eq_some_iff.1 hu).1
    rwa [hlen] at this
   rw [hget t ht] at hu
   rw [Addr.add_lit]
   have h3 := (hH ((i + 1) * 5 + t) (by omega)).1
   rw [Nat.zero_add] at h3
   exact h3.trans hu
 have s1 : Hid (news.length = (n - (i + 1)) * 5) := hlen
 have s2 : Hid (∀ u ∈ news, u.oneCell' = true) := by
  intro u hu
  rw [hnews] at hu
  exact h1 u (List.mem_of_mem_drop hu)
 have s3 : Hid (∀ t, t < news.length → (w.drew.cell? ⟨g, 0 + i * 5 + t, none⟩).isSome = true ∧ w.drew.frozen? ⟨g, 0 + i * 5 + t, none⟩ = false) := by
  intro t ht
  rw [hlen] at ht
  rw [Nat.add_assoc]
  exact ⟨by show (w.cell? _).isSome = true; rw [(hH (i * 5 + t) (by omega)).1]; rfl, (hH (i * 5 + t) (by omega)).2⟩
 obtain ⟨W1, hW1⟩ : ∃ W1, W1 = w.drew.setCells g (0 + i * 5) news := ⟨_, rfl⟩
 have hW1' : W1 = putRow id (Sort.ahead w 1) g 0 (lay vs.toArray (i * 5) news) := by
  have h4 := putRow_setCells (id : Value → Value) (Sort.ahead w 1) g 0 news vs.toArray (i * 5) (by rw [hlen, hds]; omega)
  rw [List.map_id, putRow_self id (Sort.ahead w 1) g 0 vs.toArray (holds_ahead id w 1 g 0 _ hH)] at h4
  rw [hW1, ← h4]; rfl
 have hH1 : Holds id W1 g 0 (lay vs.toArray (i * 5) news) := by rw [hW1']; exact holds_putRow id _ g 0 vs.toArray _ (holds_ahead id w 1 g 0 _ hH) (lay_size _ _ _)
 have hls : (lay vs.toArray (i * 5) news).size = n * 5 := by rw [lay_size, hds]
 have hcl : ∀ ty, (Builtin.clear_ #[26] ty #[.slice (some ⟨g, (i + (n - (i + 1))) * 5, none⟩) (n - (i + (n - (i + 1)))) (c - (i + (n - (i + 1))))]).run Tryz.prog W1 = .ok (.tuple #[]) (W1.setCells g ((n - 1) * 5) zRt) := fun ty => by
  have e1 : i + (n - (i + 1)) = n - 1 := by omega
  have e2 : n - (i + (n - (i + 1))) = 1 := by omega
  rw [e2, e1]
  refine run_clear_one W1 _ _ ty _ zRt t0 zeroRt (by rw [toList_zeroCells _ _ (by decide)]; rfl) (by intro v hv2; simp [zRt] at hv2; rcases hv2 with rfl | rfl | rfl | rfl | rfl <;> rfl) g ((n - 1) * 5) _ (fun t ht => ?_) (fun t ht => ?_)
  ·have ht5 : t < 5 := ht
   have h5 := (hH1 ((n - 1) * 5 + t) (by rw [hls]; omega)).1
   rw [Nat.zero_add] at h5
   rw [h5]; rfl
  ·have ht5 : t < 5 := ht
   have h5 := (hH1 ((n - 1) * 5 + t) (by rw [hls]; omega)).2
   rw [Nat.zero_add] at h5
   exact h5
 have X : Aside (W1 = putRow id (Sort.ahead w 1) g 0 (lay vs.toArray (i * 5) news)) := hW1'
 have hW : Hid (W1 = w.drew.setCells g (0 + i * 5) news) := hW1
 have hic : i ≤ c := by omega
 have hjc : i + 1 ≤ c := by omega
 have hne : ¬ (i = i + 1) := by omega
 have hneI : ((i : Int) == ((i + 1 : Nat) : Int)) = false := by simp; omega
 have hj1 : (0 : Int) ≤ (i : Int) + 1 := by omega
 have hj2 : (i : Int) + 1 ≤ (n : Int) := by omega
 have HN := Lib.hid hnews
 have HV := Lib.hid hv
 have HD := Lib.hid hds
 clear hW1 hW1' hH1 hH hget hnews hlen h1 hv hds hls
 go_enter Tryz.func59, Tryz.ntmps59
 go_wp2_with fail
 go_region_law_o (refine step_append_room rfl (.tmp 22) (.tmp 25) 26 rfl 106 i0 5 t0 hi0 hz1 g 0 i c (by simp [Act.eval, Act.put]) A (n - (i + 1)) (c - (i + 1)) news (by simp [Act.eval, Act.put]) s1.out hsrc.out s2.out (by omega) s3.out ?_; rw [← hW.out])
 go_wp2
 go_ret
 refine ⟨by rw [show n - 1 = i + (n - (i + 1)) by omega]; rfl, 1, ?_⟩
 have hds : vs.toArray.size = n * 5 := HD.out
 have h7 := putRow_setCells (id : Value → Value) (Sort.ahead w 1) g 0 zRt (lay vs.toArray (i * 5) news) ((n - 1) * 5) (by rw [lay_size, hds]; show (n - 1) * 5 + 5 ≤ n * 5; omega)
 rw [List.map_id, Nat.zero_add] at h7
 have hX : W1 = putRow id (Sort.ahead w 1) g 0 (lay vs.toArray (i * 5) news) := X
 rw [hX, h7, HN.out]
 have h8 := del_arr vs.toArray (i * 5) ((i + 1) * 5) zRt (by omega) (by rw [hds]; omega) (by show 5 = _; omega)
 rw [hds, show i * 5 + (n * 5 - (i + 1) * 5) = (n - 1) * 5 by omega] at h8
 rw [h8]
theorem holds_id {w : World} {g : Nat} {cur : Array Value} {e : TypeId} {ss : List Value} (hb : w.heap[g]? = some (.cells cur e (0, 0))) (ht : cur.toList.take ss.length = ss) : Holds (id : Value → Value) w g 0 ss.toArray := by
 intro j hj
 have hj' : j < ss.length := by simpa using hj
 refine ⟨?_, by simp [World.frozen?, hb]⟩
 have h1 : (cur.toList.take ss.length)[j]? = ss[j]? := by rw [ht]
 rw [List.getElem?_take_of_lt hj'] at h1
 simp only [World.cell?, hb, Nat.zero_add]
 simp only [Option.isSome_none, Bool.false_eq_true, if_false]
 rw [← Array.getElem?_toList, h1]
 simp [hj']
theorem heap_id {w : World} {g n : Nat} {os : Array Obj} {cur : Array Value} {e : TypeId} {fr : Nat × Nat} (d : Array Value) (hb : w.heap[g]? = some (.cells cur e fr)) :
  (grow (putRow id (Sort.ahead w n) g 0 d) os).heap[g]? = some (.cells (putCells id 0 d cur) e fr) := by
 have hg : g < w.heap.size := (Array.getElem?_eq_some_iff.1 hb).1
 show ((w.heap.modify g (onCells _)) ++ os)[g]? = _
 rw [Array.getElem?_append_left (by simpa using hg)]
 simp [Array.getElem?_modify, hb, onCells]
theorem take_id (cur : Array Value) (ts : List Value) (h : ts.length ≤ cur.size) : (putCells id 0 ts.toArray cur).toList.take ts.length = ts := by
 apply List.ext_getElem?
 intro j
 by_cases hj : j < ts.length
 ·rw [List.getElem?_take_of_lt hj, Array.getElem?_toList]
  simp [putCells, hj, show j < cur.size by omega]
 ·rw [List.getElem?_take_eq_none (by omega), List.getElem?_eq_none (by omega)]
theorem vs_three {vs : Array Value} (h : vs.size = 3) : vs = #[vs.getD 0 undef, vs.getD 1 undef, vs.getD 2 undef] := by
 apply Array.ext (by simpa using h)
 intro j hj hj'
 simp only [List.size_toArray, List.length_cons, List.length_nil] at hj'
 have hc : j = 0 ∨ j = 1 ∨ j = 2 := by omega
 rcases hc with rfl | rfl | rfl <;> simp [Array.getD, h]
theorem flat_take {α : Type} {z : Nat} : ∀ (xs : List (List α)) (i : Nat), (∀ x ∈ xs, x.length = z) → i ≤ xs.length → (xs.take i).flatten = xs.flatten.take (i * z)
 | [], i, _, h => by
  have : i = 0 := by simpa using h
  subst this; simp
 | x :: xs, 0, _, _ => by simp
 | x :: xs, i + 1, h, hi => by
  have hx := h x (by simp)
  have e1 : (i + 1) * z = x.length + i * z := by rw [hx, Nat.add_mul]; omega
  rw [List.take_succ_cons, List.flatten_cons, List.flatten_cons, flat_take xs i (fun y hy => h y (by simp [hy])) (by simpa using hi), e1]
  simp [List.take_append]
  rw [List.take_of_length_le (by omega)]
theorem flat_drop {α : Type} {z : Nat} : ∀ (xs : List (List α)) (i : Nat), (∀ x ∈ xs, x.length = z) → i ≤ xs.length → (xs.drop i).flatten = xs.flatten.drop (i * z)
 | [], i, _, h => by
  have : i = 0 := by simpa using h
  subst this; simp
 | x :: xs, 0, _, _ => by simp
 | x :: xs, i + 1, h, hi => by
  have hx := h x (by simp)
  have e1 : (i + 1) * z = x.length + i * z := by rw [hx, Nat.add_mul]; omega
  rw [List.drop_succ_cons, List.flatten_cons, flat_drop xs i (fun y hy => h y (by simp [hy])) (by simpa using hi), e1]
  simp [List.drop_append]
def zRtA : List AV := zRt.map AV.v
theorem g_delR (rows : List (List AV)) (k i : Nat) (h : Hp) (hT : h.T k = some (.cont 5 rows)) (hi : i < rows.length) (hb : rows.length ≤ 1000) :
  ACalls Tryz.prog 59 [.arr 5 k rows.length, .v (.int .i64 i), .v (.int .i64 ((i : Int) + 1))] h (fun r h' => r = .row 5 (rows.take i ++ rows.drop (i + 1)) none ∧ h' = { h with T := upd h.T k none }) := by
 refine acalls_mk (by kernel_rfl) fun G w vs hs hv ha => ?_
 have r0 := ha 0 (by simp)
 have r1 := ha 1 (by simp)
 have r2 := ha 2 (by simp)
 rw [vs_three hv]
 generalize vs.getD 0 undef = v at r0
 generalize vs.getD 1 undef = v1 at r1
 generalize vs.getD 2 undef = v2 at r2
 simp only [List.getElem_cons_zero] at r0
 simp only [List.getElem_cons_succ, List.getElem_cons_zero] at r1 r2
 cases r1
 cases r2
 cases r0 with
 | arr _ _ _ q m c ho =>
 obtain ⟨hknx, ⟨q', c', e2, _, _⟩, hm⟩ := ho
 rcases hs.tok k _ hT with ⟨_, e1⟩ | ⟨tt, cur, E, htl, htm, htp, hth, hts, htc, htcm, htf, htz, hzx, htr⟩
 ·rw [e1] at hi; simp at hi
 rw [htl] at hm
 obtain ⟨hxe, _⟩ := hm.2 htm.symm
 simp only [Value.slice.injEq] at hxe e2
 obtain ⟨rfl, rfl, rfl⟩ := hxe
 rw [htz] at hts
 have hle : rows.length ≤ tt.c := by rw [← htm]; exact htc
 have hfl := flatten_len hzx
 rw [hfl] at htr
 obtain ⟨cs, hcs⟩ : ∃ cs, cs = cur.toList.take (rows.length * 5) := ⟨_, rfl⟩
 rw [← hcs] at htr
 have hsz : rows.length * 5 ≤ cur.size := by rw [hts]; exact Nat.mul_le_mul_right _ hle
 have hcl : cs.length = rows.length * 5 := by
  have e1 := List.length_take (i := rows.length * 5) (l := cur.toList)
  have e2 : cur.toList.length = cur.size := by simp
  rw [hcs, e1, e2]; omega
 have hc1 : ∀ u ∈ cs, u.oneCell' = true := fun u hu => by
  obtain ⟨j, hj, rfl⟩ := List.mem_iff_getElem.1 hu
  exact (htr.2 j (by rw [hfl, ← hcl]; exact hj) hj).2
 have hH : Holds (id : Value → Value) w tt.g 0 cs.toArray := holds_id hth (by rw [hcl]; exact hcs.symm)
 have hmx : tt.c ≤ 9223372036854775807 := htcm
 have sm : Sim G [] ⟨[], [], h⟩ ⟨#[], []⟩ w := ⟨hs, Nat.le_refl _, fun t ht => by simp at ht, rfl, ⟨rfl, fun j b cs e => by simp at e, fun b hb => by simp at hb, List.nodup_nil⟩⟩
 have hwk := del_walk tt.g tt.c rows.length i cs w hH hcl hc1 hle hmx hi (by omega)
 rw [show ((i + 1 : Nat) : Int) = (i : Int) + 1 by omega] at hwk
 refine hwk.mono ?_
 rintro e w' ⟨rfl, n, rfl⟩
 obtain ⟨ys, hys⟩ : ∃ ys, ys = cs.take (i * 5) ++ cs.drop ((i + 1) * 5) ++ zRt := ⟨_, rfl⟩
 have hzl : zRt.length = 5 := rfl
 have hyl : ys.length = rows.length * 5 := by rw [hys, List.length_append, List.length_append, List.length_take, List.length_drop, hcl, hzl]; omega
 rw [← hys]
 have hg0 : grow (putRow id (Sort.ahead w n) tt.g 0 ys.toArray) #[] = putRow id (Sort.ahead w n) tt.g 0 ys.toArray := by
  unfold grow; rw [Array.append_empty]
 rw [← hg0]
 obtain ⟨xs, hxs⟩ : ∃ xs, xs = (rows.take i ++ rows.drop (i + 1)) ++ [zRtA] := ⟨_, rfl⟩
 have hxl : xs.length = rows.length := by rw [hxs]; simp; omega
 have hzd : ∀ x ∈ xs, x.length = 5 := fun x hx => by
  rw [hxs] at hx
  rcases List.mem_append.1 hx with hx | hx
  ·rcases List.mem_append.1 hx with hx | hx
   ·exact hzx x (List.mem_of_mem_take hx)
   ·exact hzx x (List.mem_of_mem_drop hx)
  ·rw [List.mem_singleton.1 hx]; rfl
 have hfd : xs.flatten.length = rows.length * 5 := by rw [flatten_len hzd, hxl]
 have hxf : xs.flatten = rows.flatten.take (i * 5) ++ rows.flatten.drop ((i + 1) * 5) ++ zRtA := by
  rw [hxs, List.flatten_append, List.flatten_append, flat_take rows i hzx (by omega), flat_drop rows (i + 1) hzx (by omega)]; simp
 have hrz : RepL G zRtA zRt := RepL.map_v G (by rfl)
 have hrep : RepL G xs.flatten ys := by
  rw [hxf, hys]
  exact ((htr.take _).append (htr.drop _)).append hrz
 have hh9 := heap_id (n := n) (os := #[]) ys.toArray hth
 obtain ⟨G', hG', s2, g2, f2⟩ := sm.setCont (k := k) (z := 5) (xs := xs) (B := tt.g) (c := tt.c) (arr := putCells id 0 ys.toArray cur) (E := E) hT (fun b hb' hne => put_block _ w tt.g n _ #[] b hb' hne) hh9 (by simp [putCells, hts])
  htf hzd (by rw [hfd, ← hyl, take_id cur ys (by rw [hyl]; exact hsz)]; exact hrep) (by rw [hxl]; exact hle) htcm (by rw [hxl]; omega) (.inr ⟨hxl.symm, rfl, tt, htl, rfl, rfl⟩) (.inr ⟨tt, htl, rfl⟩) rfl rfl rfl (put_size _ w tt.g n _ #[])
 obtain ⟨G2, hle2, hfr2, hs2, hfz⟩ := s2.hs.freeze (h2 := { h with T := upd h.T k none }) (fun j => j = k) rfl (fun j hj => by subst hj; exact upd_same _ _ _) (fun j hj => by show upd _ _ _ j = upd _ _ _ j; rw [upd_other _ _ hj, upd_other _ _ hj])
 have harr : Rep G' (.arr 5 k rows.length) (.slice (some ⟨tt.g, 0, none⟩) rows.length tt.c) := by
  refine .arr _ _ _ _ _ _ ⟨by rw [hG']; exact hknx, ⟨some ⟨tt.g, 0, none⟩, tt.c, rfl, hle, .inr ⟨tt.g, rfl⟩⟩, ?_⟩
  rw [hG']
  simp only [upd_same]
  exact ⟨by simp [hxl], fun _ => by simp⟩
 have hrow := hfz k 5 xs _ rfl (upd_same _ _ _) (by rw [hxl]; exact harr) _ rfl hzd fun us hus => hus.mono hle2
 rw [hxs] at hrow
 have hrow2 := Rep.cutRow hrow (by rw [← hxs, hxl])
 have hln : (rows.take i ++ rows.drop (i + 1)).length = rows.length - 1 := by simp; omega
 rw [hln] at hrow2
 exact ⟨_, rfl, _, _, G2, ⟨rfl, rfl⟩, g2.trans hle2, f2.trans hfr2, hs2, hrow2⟩
theorem g_clR (x : List AV) (xs : List (List AV)) (k : Option Nat) (h : Hp) (hb : xs.length ≤ 1000) : ACalls Tryz.prog 60 [.row 5 (x :: xs) k] h (fun r h' => ∃ q, h.T q = none ∧ r = .arr 5 q (xs.length + 1) ∧ h' = { h with T := upd h.T q (some (.cont 5 (x :: xs))) }) := by
 refine gE Tryz.func60 rfl (by kernel_rfl) 7 rfl fun c => ?_
 (repeat (first | refine gO rfl ?_ | (refine gM zM41 fun K1 hK1 => ?_; simp only [go_sem, ↓reduceIte, reduceCtorEq, nA, nB, nC, nD, nE, nF] <;> and_intros <;> first | (apply hK1; clear hK1 K1) | (intros; first | omega | decide | (simp_all <;> omega)) | skip)))
 refine awp_cond (t := _) rfl (fun h1 => by cases h1) (fun _ => ?_)
 (repeat (first | refine gO rfl ?_ | (refine gM zM41 fun K1 hK1 => ?_; simp only [go_sem, ↓reduceIte, reduceCtorEq, nA, nB, nC, nD, nE, nF] <;> and_intros <;> first | (apply hK1; clear hK1 K1) | (intros; first | omega | decide | (simp_all <;> omega)) | skip)))
 intro q hq
 and_intros <;> first | (refine hK1 _ ?_; clear hK1 K1) | exact .inl trivial | exact .inr rfl | exact .inr True.intro | exact True.intro | omega
 (repeat (first | refine gO rfl ?_ | (refine gM zM41 fun K1 hK1 => ?_; simp only [go_sem, ↓reduceIte, reduceCtorEq, nA, nB, nC, nD, nE, nF] <;> and_intros <;> first | (apply hK1; clear hK1 K1) | (intros; first | omega | decide | (simp_all <;> omega)) | skip)))
 simp only [Tryz.results60, go_sem, ↓reduceIte, reduceCtorEq, nA, nB, nC, nD, nE, nF]
 exact ⟨_, _, Weak.refl _, Hp.le.refl _, q, hq, rfl, rfl⟩
theorem g_clRt (rows : List (List AV)) (k : Option Nat) (h : Hp) (h0 : 0 < rows.length) (hb : rows.length ≤ 1000) : ACalls Tryz.prog 60 [.row 5 rows k] h (fun r h' => ∃ q, h.T q = none ∧ r = .arr 5 q rows.length ∧ h' = ⟨h.H, upd h.T q (some (.cont 5 rows))⟩) := by
 cases rows with
 | nil => exact absurd h0 (by decide)
 | cons x xs => exact g_clR x xs k h (by simp only [List.length_cons] at hb; omega)
abbrev zPXE : List Nat := [0, 2, 3, 4, 5, 8]
abbrev zPXP : List (Nat × List Nat × List Nat) := [(1, [4], []), (6, [], [7])]
abbrev zPYE : List Nat := [0, 1, 2, 3, 4, 5, 6, 8, 9, 10, 11, 12]
abbrev zPYP : List (Nat × List Nat × List Nat) := [(7, [9, 11], []), (13, [], [14, 15]), (16, [], [])]
attribute [go_sem] zPXE zPXP zPYE zPYP
def encTg (t : List ByteArray) : List AV := [.row 1 (t.map encS) none]
theorem restR_enc (rs : List Rt) (i : Nat) : (rs.map encRt).take i ++ (rs.map encRt).drop (i + 1) = (restR rs i).map encRt := by
 unfold restR
 rw [List.map_append, List.map_take, List.map_drop]
theorem restR_sub (rs : List Rt) (i : Nat) : ∀ r ∈ restR rs i, r ∈ rs := fun r hr => by
 rcases List.mem_append.1 hr with h | h
 ·exact List.mem_of_mem_take h
 ·exact List.mem_of_mem_drop h
theorem restR_len (rs : List Rt) (i : Nat) : (restR rs i).length ≤ rs.length := by
 unfold restR
 rw [List.length_append, List.length_take, List.length_drop]; omega
theorem refTags_bd (ri : Rt) (n : Nat) (h1 : ri.2.1.length ≤ n) : ∀ (l : List Rt) (o : List (List ByteArray)), (∀ r ∈ l, r.2.1.length ≤ n) → (∀ t ∈ o, t.length ≤ 2 * n) → ∀ t ∈ refTags ri l o, t.length ≤ 2 * n
 | [], o, _, h3 => h3
 | r :: l, o, h2, h3 => by
  rw [refTags]
  refine refTags_bd ri n h1 l _ (fun s hs => h2 s (by simp [hs])) fun t ht => ?_
  split at ht
  ·rcases List.mem_append.1 ht with ht | ht
   ·exact h3 t ht
   ·rw [List.mem_singleton.1 ht]
    have e1 := onceS_len (ri.2.1 ++ r.2.1)
    rw [List.length_append] at e1
    have e2 := h2 r (by simp)
    omega
  ·exact h3 t ht
theorem edgesN (rs : List Rt) : (onceI (edgesL rs)).length ≤ 2 * rs.length := by
 have h1 := onceI_len (edgesL rs)
 rw [edgesL_len] at h1; exact h1
theorem frz_back {T : Nat → Option TO} {k : Nat} (x : Option TO) (hk : T k = none) : upd (upd T k x) k none = T := by rw [upd_upd, upd_back hk]
theorem g_uselRef (rs : List Rt) (hl : rs.length ≤ 12) (hok : ∀ r ∈ rs, RtOk r) (h : Hp) :
  ACalls Tryz.prog 32 [.row 5 (rs.map encRt) none] h (fun r h' => r = .row 1 ((uselRefL rs rs 0).map encI) none ∧ h' = h) := by
 have hml : (rs.map encRt).length = rs.length := List.length_map _
 refine gE Tryz.func32 rfl (by kernel_rfl) 99 rfl fun c => ?_
 (repeat (first | refine gQ rfl ?_ | ((first | refine gM zM42 ?_ | (with_reducible refine wM ?_ ?_) | ((with_reducible refine xS ?_); refine uD 18 zM42 zPXE zPXP 100 rfl (by kernel_rfl) ?_) | ((with_reducible refine xR ?_); refine uE 21 zM42 zPYE zPYP 100 rfl (by kernel_rfl) ?_)) <;> ((try with_reducible intro K1 hK1); simp only [go_sem, ↓reduceIte, reduceCtorEq, nA, nB, nC, nD, nE, nF] <;> and_intros <;> first | (apply hK1; clear hK1 K1) | (intros; first | omega | decide | (simp_all <;> omega)) | skip))))
 refine awp_seq ?_
 refine awp_ownA 3 1 rfl ⟨rfl, rfl⟩ (fun k hk => ?_)
 replace hk : h.T k = none := hk
 (repeat (first | refine gO rfl ?_ | ((first | refine gM zM42 ?_ | (with_reducible refine wM ?_ ?_) | ((with_reducible refine xS ?_); refine uD 18 zM42 zPXE zPXP 100 rfl (by kernel_rfl) ?_) | ((with_reducible refine xR ?_); refine uE 21 zM42 zPYE zPYP 100 rfl (by kernel_rfl) ?_)) <;> ((try with_reducible intro K1 hK1); simp only [go_sem, ↓reduceIte, reduceCtorEq, nA, nB, nC, nD, nE, nF, hml] <;> and_intros <;> first | (apply hK1; clear hK1 K1) | (intros; first | omega | decide) | skip))))
 refine awp_loopC (rl false [0, 1, 2, 1, 12, 3, 81]) 0 (fun g s => ∃ (j n : Nat) (ys : List Int), g + j = rs.length ∧ ys.length = n ∧ n ≤ j ∧ ys ++ uselRefL rs (rs.drop j) j = uselRefL rs rs 0 ∧
  s = ⟨((.row 5 (rs.map encRt) none) :: AV.junk :: AV.junk :: ((.arr 1 k n) :: (jnk 12 ((.row 5 (rs.map encRt) none) :: (.v (.int .i64 rs.length)) :: (.v (.int .i64 j)) :: (jnk 81 []))))), [], ⟨h.H, upd h.T k (some (.cont 1 (ys.map encI)))⟩⟩) rs.length ⟨0, 0, [], by omega, rfl, by omega, rfl, rfl⟩ ?_
 rintro g _ ⟨j, n, ys, hj, hn, hnj, hinv, rfl⟩
 have hTq : upd h.T k (some (TO.cont 1 (ys.map encI))) k = some (TO.cont 1 (ys.map encI)) := upd_same _ _ _
 have hyl : (ys.map encI).length = n := by rw [List.length_map, hn]
 (repeat (first | refine gO rfl ?_ | ((first | refine gM zM42 ?_ | (with_reducible refine wM ?_ ?_) | ((with_reducible refine xS ?_); refine uD 18 zM42 zPXE zPXP 100 rfl (by kernel_rfl) ?_) | ((with_reducible refine xR ?_); refine uE 21 zM42 zPYE zPYP 100 rfl (by kernel_rfl) ?_)) <;> ((try with_reducible intro K1 hK1); simp only [go_sem, ↓reduceIte, reduceCtorEq, nA, nB, nC, nD, nE, nF] <;> and_intros <;> first | (apply hK1; clear hK1 K1) | (intros; first | omega | decide) | skip))))
 refine awp_cond (t := _) rfl (fun h5 => ?_) (fun h5 => ?_)
 ·simp only [decide_eq_true_eq] at h5
  have hjl : j < rs.length := by omega
  have hje : rs[j]? = some rs[j] := List.getElem?_eq_getElem hjl
  have gx : (rs.map encRt).getD j [] = encRt rs[j] := by rw [List.getD_eq_getElem?_getD, List.getElem?_map, hje]; rfl
  have hro := hok _ (List.getElem_mem hjl)
  rw [List.drop_eq_getElem_cons hjl, uselRefL] at hinv
  generalize rs[j] = r at *
  clear hje
  obtain ⟨it, tg, fr, t2, bb⟩ := r
  rw [show encRt (it, tg, fr, t2, bb) = [.v (.string it), .row 1 (tg.map encS) none, .v (.int .i64 fr), .v (.int .i64 t2), .v (.bool bb)] from rfl] at gx
  obtain ⟨hs1, ⟨hs2, hs3⟩, hs4, hs5⟩ := hro
  simp only at hs1 hs2 hs3 hs4 hs5
  obtain ⟨h1, hh1⟩ : ∃ h1 : Hp, h1 = ⟨h.H, upd h.T k (some (.cont 1 (ys.map encI)))⟩ := ⟨_, rfl⟩
  have hT1 : h1.T k = some (.cont 1 (ys.map encI)) := by rw [hh1]; exact hTq
  rw [← hh1]
  (repeat (first | refine gO rfl ?_ | ((first | refine gM zM42 ?_ | (with_reducible refine wM ?_ ?_) | ((with_reducible refine xS ?_); refine uD 18 zM42 zPXE zPXP 100 rfl (by kernel_rfl) ?_) | ((with_reducible refine xR ?_); refine uE 21 zM42 zPYE zPYP 100 rfl (by kernel_rfl) ?_)) <;> ((try with_reducible intro K1 hK1); simp only [go_sem, ↓reduceIte, reduceCtorEq, nA, nB, nC, nD, nE, nF, hml, Int.toNat_natCast, gx] <;> and_intros <;> first | (apply hK1; clear hK1 K1) | (intros; first | omega | decide) | skip))))
  refine (g_clRt (rs.map encRt) none h1 (by omega) (by omega)).mono ?_
  rintro _ _ ⟨q, hq, rfl, rfl⟩
  refine hK1 _ ?_; clear hK1 K1
  rw [hml]
  (repeat (first | refine gO rfl ?_ | ((first | refine gM zM42 ?_ | (with_reducible refine wM ?_ ?_) | ((with_reducible refine xS ?_); refine uD 18 zM42 zPXE zPXP 100 rfl (by kernel_rfl) ?_) | ((with_reducible refine xR ?_); refine uE 21 zM42 zPYE zPYP 100 rfl (by kernel_rfl) ?_)) <;> ((try with_reducible intro K1 hK1); simp only [go_sem, ↓reduceIte, reduceCtorEq, nA, nB, nC, nD, nE, nF] <;> and_intros <;> first | (apply hK1; clear hK1 K1) | (intros; first | omega | decide) | skip))))
  have hDel := g_delR (rs.map encRt) q j ⟨h1.H, upd h1.T q (some (.cont 5 (rs.map encRt)))⟩ (upd_same _ _ _) (by omega) (by omega)
  rw [hml, restR_enc] at hDel
  simp only at hDel
  rw [frz_back _ hq] at hDel
  refine hDel.mono ?_; rintro _ hz ⟨rfl, hh⟩; apply hK1; clear hK1 K1; rw [hh]; clear hh hz
  have hrl := restR_len rs j
  have hrok : ∀ r ∈ restR rs j, RtOk r := fun r hr => hok r (restR_sub rs j r hr)
  have hneed : needF rs (it, tg, fr, t2, bb) j = (refTags (it, tg, fr, t2, bb) (restR rs j) [tg]).any fun tags => (refAts rs (it, tg, fr, t2, bb)).any fun x => difs rs (restR rs j) (it, tg, fr, t2, bb) tags x := rfl
  rw [hneed] at hinv
  clear hneed hDel hq
  generalize restR rs j = re at *
  have hre : (re.map encRt).length = re.length := List.length_map _
  (repeat (first | refine gO rfl ?_ | ((first | refine gM zM42 ?_ | (with_reducible refine wM ?_ ?_) | ((with_reducible refine xS ?_); refine uD 18 zM42 zPXE zPXP 100 rfl (by kernel_rfl) ?_) | ((with_reducible refine xR ?_); refine uE 21 zM42 zPYE zPYP 100 rfl (by kernel_rfl) ?_)) <;> ((try with_reducible intro K1 hK1); simp only [go_sem, ↓reduceIte, reduceCtorEq, nA, nB, nC, nD, nE, nF] <;> and_intros <;> first | (apply hK1; clear hK1 K1) | (intros; first | omega | decide) | skip))))
  intro q2 hq2
  refine hK1 _ ?_; clear hK1 K1
  replace hq2 : h1.T q2 = none := hq2
  (repeat (first | refine gO rfl ?_ | ((first | refine gM zM42 ?_ | (with_reducible refine wM ?_ ?_) | ((with_reducible refine xS ?_); refine uD 18 zM42 zPXE zPXP 100 rfl (by kernel_rfl) ?_) | ((with_reducible refine xR ?_); refine uE 21 zM42 zPYE zPYP 100 rfl (by kernel_rfl) ?_)) <;> ((try with_reducible intro K1 hK1); simp only [go_sem, ↓reduceIte, reduceCtorEq, nA, nB, nC, nD, nE, nF, hre] <;> and_intros <;> first | (apply hK1; clear hK1 K1) | (intros; first | omega | decide) | skip))))
  refine awp_loopC (rl false [0, 1, 2, 5, 8, 3, 13, 3, 65]) 1 (fun g2 s => ∃ (m : Nat) (os : List (List ByteArray)), g2 + m = re.length ∧ os.length ≤ m + 1 ∧ refTags (it, tg, fr, t2, bb) (re.drop m) os = refTags (it, tg, fr, t2, bb) re [tg] ∧
   s = ⟨((.row 5 (rs.map encRt) none) :: AV.junk :: AV.junk :: ((.arr 1 k n) :: (.v (.int .i64 j)) :: (.loc 0 0) :: (.row 5 (re.map encRt) none) :: (.arr 1 q2 os.length) :: (jnk 8 ((.row 5 (rs.map encRt) none) :: (.v (.int .i64 rs.length)) :: (.v (.int .i64 j)) :: (jnk 13 ((.row 5 (re.map encRt) none) :: (.v (.int .i64 re.length)) :: (.v (.int .i64 m)) :: (jnk 65 []))))))), [[.v (.string it), .row 1 (tg.map encS) none, .v (.int .i64 fr), .v (.int .i64 t2), .v (.bool bb)]], ⟨h1.H, upd h1.T q2 (some (.cont 1 (os.map encTg)))⟩⟩) re.length ⟨0, [tg], by omega, by simp, rfl, rfl⟩ ?_
  rintro g2 _ ⟨m, os, hm, hol, hinv2, rfl⟩
  have hTo : upd h1.T q2 (some (TO.cont 1 (os.map encTg))) q2 = some (TO.cont 1 (os.map encTg)) := upd_same _ _ _
  have hom : (os.map encTg).length = os.length := List.length_map _
  (repeat (first | refine gO rfl ?_ | ((first | refine gM zM42 ?_ | (with_reducible refine wM ?_ ?_) | ((with_reducible refine xS ?_); refine uD 18 zM42 zPXE zPXP 100 rfl (by kernel_rfl) ?_) | ((with_reducible refine xR ?_); refine uE 21 zM42 zPYE zPYP 100 rfl (by kernel_rfl) ?_)) <;> ((try with_reducible intro K1 hK1); simp only [go_sem, ↓reduceIte, reduceCtorEq, nA, nB, nC, nD, nE, nF] <;> and_intros <;> first | (apply hK1; clear hK1 K1) | (intros; first | omega | decide) | skip))))
  refine awp_cond (t := _) rfl (fun h7 => ?_) (fun h7 => ?_)
  ·simp only [decide_eq_true_eq] at h7
   have hmL : m < re.length := by omega
   have gq : (re.map encRt).getD m [] = encRt re[m] := by rw [List.getD_eq_getElem?_getD, List.getElem?_map, List.getElem?_eq_getElem hmL]; rfl
   have hrq := hrok _ (List.getElem_mem hmL)
   rw [List.drop_eq_getElem_cons hmL, refTags] at hinv2
   generalize re[m] = o at *
   obtain ⟨ito, tgo, fro, t2o, bbo⟩ := o
   rw [show encRt (ito, tgo, fro, t2o, bbo) = [.v (.string ito), .row 1 (tgo.map encS) none, .v (.int .i64 fro), .v (.int .i64 t2o), .v (.bool bbo)] from rfl] at gq
   obtain ⟨hq1, ⟨hq2', hq3⟩, hq4, hq5⟩ := hrq
   simp only at hq1 hq2' hq3 hq4 hq5 hinv2
   obtain ⟨x1, e1⟩ : ∃ c, (ito == it) = c := ⟨_, rfl⟩
   cases x1 with
   | false =>
    rw [if_neg (by rw [ba_beq] at e1; exact of_decide_eq_false e1)] at hinv2
    (repeat (first | refine gO rfl ?_ | ((first | refine gM zM42 ?_ | (with_reducible refine wM ?_ ?_) | ((with_reducible refine xS ?_); refine uD 18 zM42 zPXE zPXP 100 rfl (by kernel_rfl) ?_) | ((with_reducible refine xR ?_); refine uE 21 zM42 zPYE zPYP 100 rfl (by kernel_rfl) ?_)) <;> ((try with_reducible intro K1 hK1); simp only [go_sem, ↓reduceIte, reduceCtorEq, nA, nB, nC, nD, nE, nF, hre, Int.toNat_natCast, gq, e1] <;> and_intros <;> first | (apply hK1; clear hK1 K1) | (intros; first | omega | decide) | skip))))
    refine awp_cond (t := _) rfl (fun h6 => by cases h6) (fun _ => ?_)
    (repeat (first | refine gO rfl ?_ | ((first | refine gM zM42 ?_ | (with_reducible refine wM ?_ ?_) | ((with_reducible refine xS ?_); refine uD 18 zM42 zPXE zPXP 100 rfl (by kernel_rfl) ?_) | ((with_reducible refine xR ?_); refine uE 21 zM42 zPYE zPYP 100 rfl (by kernel_rfl) ?_)) <;> ((try with_reducible intro K1 hK1); simp only [go_sem, ↓reduceIte, reduceCtorEq, nA, nB, nC, nD, nE, nF] <;> and_intros <;> first | (apply hK1; clear hK1 K1) | (intros; first | omega | decide) | skip))))
    exact ⟨g2 - 1, by omega, m + 1, os, by omega, by omega, hinv2, rfl⟩
   | true =>
    rw [if_pos (by rw [ba_beq] at e1; exact of_decide_eq_true e1)] at hinv2
    have hcc : ∀ h : Hp, ACalls Tryz.prog 85 [.row 1 [[.row 1 (tg.map encS) none], [.row 1 (tgo.map encS) none]] none] h
      (fun r h' => r = .row 1 ((tg ++ tgo).map encS) none ∧ h' = h) := fun h => g_concatR tg tgo none none h (by omega)
    have hon := fun h => g_onceR (tg ++ tgo) none h (by rw [List.length_append]; omega)
    (repeat (first | refine gO rfl ?_ | ((first | refine gM zM42 ?_ | (with_reducible refine wM ?_ ?_) | ((with_reducible refine xS ?_); refine uD 18 zM42 zPXE zPXP 100 rfl (by kernel_rfl) ?_) | ((with_reducible refine xR ?_); refine uE 21 zM42 zPYE zPYP 100 rfl (by kernel_rfl) ?_)) <;> ((try with_reducible intro K1 hK1); simp only [go_sem, ↓reduceIte, reduceCtorEq, nA, nB, nC, nD, nE, nF, hre, Int.toNat_natCast, gq, e1] <;> and_intros <;> first | (apply hK1; clear hK1 K1) | (intros; first | omega | decide) | skip))))
    refine awp_cond (t := _) rfl (fun _ => ?_) (fun h6 => by cases h6)
    (repeat (first | refine gO rfl ?_ | ((first | refine gM zM42 ?_ | (with_reducible refine wM ?_ ?_) | ((with_reducible refine xS ?_); refine uD 18 zM42 zPXE zPXP 100 rfl (by kernel_rfl) ?_) | ((with_reducible refine xR ?_); refine uE 21 zM42 zPYE zPYP 100 rfl (by kernel_rfl) ?_)) <;> ((try with_reducible intro K1 hK1); simp only [go_sem, ↓reduceIte, reduceCtorEq, nA, nB, nC, nD, nE, nF] <;> and_intros <;> first | (apply hK1; clear hK1 K1) | (intros; first | omega | decide) | skip))))
    refine (hcc _).mono ?_; rintro _ hz ⟨rfl, hh⟩; apply hK1; clear hK1 K1; rw [hh]; clear hh hz
    (repeat (first | refine gO rfl ?_ | ((first | refine gM zM42 ?_ | (with_reducible refine wM ?_ ?_) | ((with_reducible refine xS ?_); refine uD 18 zM42 zPXE zPXP 100 rfl (by kernel_rfl) ?_) | ((with_reducible refine xR ?_); refine uE 21 zM42 zPYE zPYP 100 rfl (by kernel_rfl) ?_)) <;> ((try with_reducible intro K1 hK1); simp only [go_sem, ↓reduceIte, reduceCtorEq, nA, nB, nC, nD, nE, nF] <;> and_intros <;> first | (apply hK1; clear hK1 K1) | (intros; first | omega | decide) | skip))))
    refine (hon _).mono ?_; rintro _ hz ⟨rfl, hh⟩; apply hK1; clear hK1 K1; rw [hh]; clear hh hz
    (repeat (first | refine gO rfl ?_ | ((first | refine gM zM42 ?_ | (with_reducible refine wM ?_ ?_) | ((with_reducible refine xS ?_); refine uD 18 zM42 zPXE zPXP 100 rfl (by kernel_rfl) ?_) | ((with_reducible refine xR ?_); refine uE 21 zM42 zPYE zPYP 100 rfl (by kernel_rfl) ?_)) <;> ((try with_reducible intro K1 hK1); simp only [go_sem, ↓reduceIte, reduceCtorEq, nA, nB, nC, nD, nE, nF, hTo, hom] <;> and_intros <;> first | (apply hK1; clear hK1 K1) | (intros; first | omega | decide) | skip))))
    have e3 : (os ++ [onceS (tg ++ tgo)]).map encTg = os.map encTg ++ [[.row 1 ((onceS (tg ++ tgo)).map encS) none]] := by rw [List.map_append]; rfl
    have e4 : (os ++ [onceS (tg ++ tgo)]).length = os.length + 1 := by simp
    refine ⟨g2 - 1, by omega, m + 1, os ++ [onceS (tg ++ tgo)], by omega, by omega, hinv2, ?_⟩
    rw [e3, e4]
    (try simp only [upd_upd])
    rfl
  ·simp only [decide_eq_false_iff_not] at h7
   have hmL : m = re.length := by omega
   subst hmL
   rw [List.drop_length, refTags] at hinv2
   have hob := refTags_bd (it, tg, fr, t2, bb) 3 hs2 re [tg] (fun r hr => (hrok r hr).tg.len) (fun t ht => by rw [List.mem_singleton.1 ht]; omega)
   rw [← hinv2] at hinv hob
   clear hinv2 h7
   refine awp_frz 7 q2 1 (xs := os.map encTg) (by rw [List.length_map]; rfl) (upd_same _ _ _) (fun y hy => by obtain ⟨z, _, rfl⟩ := List.mem_map.1 hy; rfl) ?_
   simp only [frz_back _ hq2]
   have hE0 := edgesN rs
   (repeat (first | refine gO rfl ?_ | ((first | refine gM zM42 ?_ | (with_reducible refine wM ?_ ?_) | ((with_reducible refine xS ?_); refine uD 18 zM42 zPXE zPXP 100 rfl (by kernel_rfl) ?_) | ((with_reducible refine xR ?_); refine uE 21 zM42 zPYE zPYP 100 rfl (by kernel_rfl) ?_)) <;> ((try with_reducible intro K1 hK1); simp only [go_sem, ↓reduceIte, reduceCtorEq, nA, nB, nC, nD, nE, nF, hom] <;> and_intros <;> first | (apply hK1; clear hK1 K1) | (intros; first | omega | decide) | skip))))
   refine awp_loopC (rl false [0, 1, 2, 4, 3, 1, 5, 3, 35, 3, 43]) 1 (fun g3 s => ∃ (m : Nat) (b : Bool), g3 + m = os.length ∧ (b || (os.drop m).any fun tags => (refAts rs (it, tg, fr, t2, bb)).any fun x => difs rs re (it, tg, fr, t2, bb) tags x) = (os.any fun tags => (refAts rs (it, tg, fr, t2, bb)).any fun x => difs rs re (it, tg, fr, t2, bb) tags x) ∧
    s = ⟨((.row 5 (rs.map encRt) none) :: AV.junk :: AV.junk :: ((.arr 1 k n) :: (.v (.int .i64 j)) :: (.loc 0 0) :: (.row 5 (re.map encRt) none) :: (jnk 3 ((.v (.bool b)) :: (jnk 5 ((.row 5 (rs.map encRt) none) :: (.v (.int .i64 rs.length)) :: (.v (.int .i64 j)) :: (jnk 35 ((.row 1 (os.map encTg) none) :: (.v (.int .i64 os.length)) :: (.v (.int .i64 m)) :: (jnk 43 []))))))))), [[.v (.string it), .row 1 (tg.map encS) none, .v (.int .i64 fr), .v (.int .i64 t2), .v (.bool bb)]], h1⟩) os.length ⟨0, false, by omega, rfl, rfl⟩ ?_
   rintro g3 _ ⟨m, b, hm3, hinv3, rfl⟩
   (repeat (first | refine gO rfl ?_ | ((first | refine gM zM42 ?_ | (with_reducible refine wM ?_ ?_) | ((with_reducible refine xS ?_); refine uD 18 zM42 zPXE zPXP 100 rfl (by kernel_rfl) ?_) | ((with_reducible refine xR ?_); refine uE 21 zM42 zPYE zPYP 100 rfl (by kernel_rfl) ?_)) <;> ((try with_reducible intro K1 hK1); simp only [go_sem, ↓reduceIte, reduceCtorEq, nA, nB, nC, nD, nE, nF] <;> and_intros <;> first | (apply hK1; clear hK1 K1) | (intros; first | omega | decide) | skip))))
   refine awp_cond (t := _) rfl (fun h7 => ?_) (fun h7 => ?_)
   ·simp only [decide_eq_true_eq] at h7
    have hmL : m < os.length := by omega
    have gt : (os.map encTg).getD m [] = encTg os[m] := by rw [List.getD_eq_getElem?_getD, List.getElem?_map, List.getElem?_eq_getElem hmL]; rfl
    have htl := hob _ (List.getElem_mem hmL)
    rw [List.drop_eq_getElem_cons hmL, List.any_cons] at hinv3
    generalize os[m] = tags at *
    rw [show encTg tags = [.row 1 (tags.map encS) none] from rfl] at gt
    (repeat (first | refine gO rfl ?_ | ((first | refine gM zM42 ?_ | (with_reducible refine wM ?_ ?_) | ((with_reducible refine xS ?_); refine uD 18 zM42 zPXE zPXP 100 rfl (by kernel_rfl) ?_) | ((with_reducible refine xR ?_); refine uE 21 zM42 zPYE zPYP 100 rfl (by kernel_rfl) ?_)) <;> ((try with_reducible intro K1 hK1); simp only [go_sem, ↓reduceIte, reduceCtorEq, nA, nB, nC, nD, nE, nF, hom, Int.toNat_natCast, gt] <;> and_intros <;> first | (apply hK1; clear hK1 K1) | (intros; first | omega | decide) | skip))))
    refine (g_edgesA rs none (by omega) (by omega) h1).mono ?_
    rintro _ _ ⟨q3, hq3, rfl, rfl⟩
    refine hK1 _ ?_; clear hK1 K1
    have hats : refAts rs (it, tg, fr, t2, bb) = onceI (edgesL rs) ++ [fr] := rfl
    have hTe : upd h1.T q3 (some (TO.cont 1 ((onceI (edgesL rs)).map encI))) q3 = some (TO.cont 1 ((onceI (edgesL rs)).map encI)) := upd_same _ _ _
    rw [hats] at hinv3 ⊢
    clear hats
    generalize onceI (edgesL rs) = E at *
    have hEm : (E.map encI).length = E.length := List.length_map _
    have hEa : E.map encI ++ [[.v (.int .i64 fr)]] = (E ++ [fr]).map encI := by rw [List.map_append]; rfl
    have hEn : (E ++ [fr]).length = E.length + 1 := by simp
    (repeat (first | refine gO rfl ?_ | ((first | refine gM zM42 ?_ | (with_reducible refine wM ?_ ?_) | ((with_reducible refine xS ?_); refine uD 18 zM42 zPXE zPXP 100 rfl (by kernel_rfl) ?_) | ((with_reducible refine xR ?_); refine uE 21 zM42 zPYE zPYP 100 rfl (by kernel_rfl) ?_)) <;> ((try with_reducible intro K1 hK1); simp only [go_sem, ↓reduceIte, reduceCtorEq, nA, nB, nC, nD, nE, nF, hTe, hEm] <;> and_intros <;> first | (apply hK1; clear hK1 K1) | (intros; first | omega | decide) | skip))))
    all_goals try with_reducible rfl
    (repeat (first | refine gO rfl ?_ | ((first | refine gM zM42 ?_ | (with_reducible refine wM ?_ ?_) | ((with_reducible refine xS ?_); refine uD 18 zM42 zPXE zPXP 100 rfl (by kernel_rfl) ?_) | ((with_reducible refine xR ?_); refine uE 21 zM42 zPYE zPYP 100 rfl (by kernel_rfl) ?_)) <;> ((try with_reducible intro K1 hK1); simp only [go_sem, ↓reduceIte, reduceCtorEq, nA, nB, nC, nD, nE, nF, hTe, hEm] <;> and_intros <;> first | (apply hK1; clear hK1 K1) | (intros; first | omega | decide) | skip))))
    refine awp_loopC (rl false [0, 1, 2, 4, 3, 1, 2, 1, 2, 3, 35, 3, 11, 3, 29]) 2 (fun g4 s => ∃ (u : Nat) (b4 : Bool), g4 + u = (E ++ [fr]).length ∧ (b4 || ((E ++ [fr]).drop u).any fun x => difs rs re (it, tg, fr, t2, bb) tags x) = (b || (E ++ [fr]).any fun x => difs rs re (it, tg, fr, t2, bb) tags x) ∧
     s = ⟨((.row 5 (rs.map encRt) none) :: AV.junk :: AV.junk :: ((.arr 1 k n) :: (.v (.int .i64 j)) :: (.loc 0 0) :: (.row 5 (re.map encRt) none) :: (jnk 3 ((.v (.bool b4)) :: AV.junk :: AV.junk :: ((.loc 1 0) :: AV.junk :: AV.junk :: ((.row 5 (rs.map encRt) none) :: (.v (.int .i64 rs.length)) :: (.v (.int .i64 j)) :: (jnk 35 ((.row 1 (os.map encTg) none) :: (.v (.int .i64 os.length)) :: (.v (.int .i64 m)) :: (jnk 11 ((.arr 1 q3 (E.length + 1)) :: (.v (.int .i64 ((E.length + 1 : Nat) : Int))) :: (.v (.int .i64 u)) :: (jnk 29 []))))))))))), [[.v (.string it), .row 1 (tg.map encS) none, .v (.int .i64 fr), .v (.int .i64 t2), .v (.bool bb)], [.v (.string ⟨#[]⟩), .v (.string ⟨#[]⟩), .v (.int .i64 0), .row 1 (tags.map encS) none]], ⟨h1.H, upd h1.T q3 (some (.cont 1 ((E ++ [fr]).map encI)))⟩⟩) (E ++ [fr]).length ⟨0, b, by omega, rfl, by rw [← hEa]; rfl⟩ ?_
    rintro g4 _ ⟨u, b4, hu4, hinv4, rfl⟩
    (repeat (first | refine gO rfl ?_ | ((first | refine gM zM42 ?_ | (with_reducible refine wM ?_ ?_) | ((with_reducible refine xS ?_); refine uD 18 zM42 zPXE zPXP 100 rfl (by kernel_rfl) ?_) | ((with_reducible refine xR ?_); refine uE 21 zM42 zPYE zPYP 100 rfl (by kernel_rfl) ?_)) <;> ((try with_reducible intro K1 hK1); simp only [go_sem, ↓reduceIte, reduceCtorEq, nA, nB, nC, nD, nE, nF] <;> and_intros <;> first | (apply hK1; clear hK1 K1) | (intros; first | omega | decide) | skip))))
    refine awp_cond (t := _) rfl (fun h8 => ?_) (fun h8 => ?_)
    ·simp only [decide_eq_true_eq] at h8
     have huL : u < (E ++ [fr]).length := by omega
     have ge : ((E ++ [fr]).map encI).getD u [] = encI (E ++ [fr])[u] := by rw [List.getD_eq_getElem?_getD, List.getElem?_map, List.getElem?_eq_getElem huL]; rfl
     have hTg : upd h1.T q3 (some (TO.cont 1 ((E ++ [fr]).map encI))) q3 = some (TO.cont 1 ((E ++ [fr]).map encI)) := upd_same _ _ _
     rw [List.drop_eq_getElem_cons huL, List.any_cons] at hinv4
     generalize (E ++ [fr])[u] = x at *
     rw [show encI x = [.v (.int .i64 x)] from rfl] at ge
     have hM1 := fun h => g_mayRT rs ⟨⟨#[]⟩, ⟨#[]⟩, 0, tags⟩ it x none (by omega) hok (by simp only; omega) h
     have hM2 := fun h => g_mayRT re ⟨⟨#[]⟩, ⟨#[]⟩, 0, tags⟩ it x none (by omega) hrok (by simp only; omega) h
     rw [show encGu ⟨⟨#[]⟩, ⟨#[]⟩, 0, tags⟩ = [.v (.string ⟨#[]⟩), .v (.string ⟨#[]⟩), .v (.int .i64 0), .row 1 (tags.map encS) none] from rfl] at hM1 hM2
     simp only at hM1 hM2
     have hdf : difs rs re (it, tg, fr, t2, bb) tags x = (mayL tags it x rs false != mayL tags it x re false) := rfl
     rw [hdf] at hinv4
     generalize mayL tags it x rs false = y1 at *
     generalize mayL tags it x re false = y2 at *
     have hmx : ((E ++ [fr]).map encI).length = E.length + 1 := by rw [List.length_map, hEn]
     cases b4 with
     | true =>
      (repeat (first | refine gO rfl ?_ | ((first | refine gM zM42 ?_ | (with_reducible refine wM ?_ ?_) | ((with_reducible refine xS ?_); refine uD 18 zM42 zPXE zPXP 100 rfl (by kernel_rfl) ?_) | ((with_reducible refine xR ?_); refine uE 21 zM42 zPYE zPYP 100 rfl (by kernel_rfl) ?_)) <;> ((try with_reducible intro K1 hK1); simp only [go_sem, ↓reduceIte, reduceCtorEq, nA, nB, nC, nD, nE, nF, Int.toNat_natCast, ge, hTg, hmx] <;> and_intros <;> first | (apply hK1; clear hK1 K1) | (intros; first | omega | decide) | skip))))
      all_goals try with_reducible rfl
      (repeat (first | refine gO rfl ?_ | ((first | refine gM zM42 ?_ | (with_reducible refine wM ?_ ?_) | ((with_reducible refine xS ?_); refine uD 18 zM42 zPXE zPXP 100 rfl (by kernel_rfl) ?_) | ((with_reducible refine xR ?_); refine uE 21 zM42 zPYE zPYP 100 rfl (by kernel_rfl) ?_)) <;> ((try with_reducible intro K1 hK1); simp only [go_sem, ↓reduceIte, reduceCtorEq, nA, nB, nC, nD, nE, nF] <;> and_intros <;> first | (apply hK1; clear hK1 K1) | (intros; first | omega | decide) | skip))))
      exact ⟨g4 - 1, by omega, u + 1, true, by omega, by simpa using hinv4, rfl⟩
     | false =>
      (repeat (first | refine gO rfl ?_ | ((first | refine gM zM42 ?_ | (with_reducible refine wM ?_ ?_) | ((with_reducible refine xS ?_); refine uD 18 zM42 zPXE zPXP 100 rfl (by kernel_rfl) ?_) | ((with_reducible refine xR ?_); refine uE 21 zM42 zPYE zPYP 100 rfl (by kernel_rfl) ?_)) <;> ((try with_reducible intro K1 hK1); simp only [go_sem, ↓reduceIte, reduceCtorEq, nA, nB, nC, nD, nE, nF, Int.toNat_natCast, ge, hTg, hmx] <;> and_intros <;> first | (apply hK1; clear hK1 K1) | (intros; first | omega | decide) | skip))))
      rotate_left
      ·exact fun h => h.elim
      refine (hM1 _).mono ?_
      rintro _ hz ⟨rfl, hh⟩; refine ⟨rfl, ?_⟩; apply hK1; clear hK1 K1; rw [hh]; clear hh hz
      (repeat (first | refine gO rfl ?_ | ((first | refine gM zM42 ?_ | (with_reducible refine wM ?_ ?_) | ((with_reducible refine xS ?_); refine uD 18 zM42 zPXE zPXP 100 rfl (by kernel_rfl) ?_) | ((with_reducible refine xR ?_); refine uE 21 zM42 zPYE zPYP 100 rfl (by kernel_rfl) ?_)) <;> ((try with_reducible intro K1 hK1); simp only [go_sem, ↓reduceIte, reduceCtorEq, nA, nB, nC, nD, nE, nF] <;> and_intros <;> first | (apply hK1; clear hK1 K1) | (intros; first | omega | decide) | skip))))
      all_goals try with_reducible rfl
      (repeat (first | refine gO rfl ?_ | ((first | refine gM zM42 ?_ | (with_reducible refine wM ?_ ?_) | ((with_reducible refine xS ?_); refine uD 18 zM42 zPXE zPXP 100 rfl (by kernel_rfl) ?_) | ((with_reducible refine xR ?_); refine uE 21 zM42 zPYE zPYP 100 rfl (by kernel_rfl) ?_)) <;> ((try with_reducible intro K1 hK1); simp only [go_sem, ↓reduceIte, reduceCtorEq, nA, nB, nC, nD, nE, nF] <;> and_intros <;> first | (apply hK1; clear hK1 K1) | (intros; first | omega | decide) | skip))))
      rotate_left
      ·exact fun h => h.elim
      refine (hM2 _).mono ?_
      rintro _ hz ⟨rfl, hh⟩; refine ⟨rfl, ?_⟩; apply hK1; clear hK1 K1; rw [hh]; clear hh hz
      (repeat (first | refine gO rfl ?_ | ((first | refine gM zM42 ?_ | (with_reducible refine wM ?_ ?_) | ((with_reducible refine xS ?_); refine uD 18 zM42 zPXE zPXP 100 rfl (by kernel_rfl) ?_) | ((with_reducible refine xR ?_); refine uE 21 zM42 zPYE zPYP 100 rfl (by kernel_rfl) ?_)) <;> ((try with_reducible intro K1 hK1); simp only [go_sem, ↓reduceIte, reduceCtorEq, nA, nB, nC, nD, nE, nF] <;> and_intros <;> first | (apply hK1; clear hK1 K1) | (intros; first | omega | decide) | skip))))
      exact ⟨g4 - 1, by omega, u + 1, (y1 != y2), by omega, by rw [← hinv4, Bool.false_or], rfl⟩
    ·simp only [decide_eq_false_iff_not] at h8
     have huL : u = (E ++ [fr]).length := by omega
     subst huL
     rw [List.drop_length, List.any_nil, Bool.or_false] at hinv4
     refine awp_frz 68 q3 1 (xs := (E ++ [fr]).map encI) (by rw [List.length_map, hEn]; rfl) (upd_same _ _ _) (fun y hy => by obtain ⟨z, _, rfl⟩ := List.mem_map.1 hy; rfl) ?_
     simp only [frz_back _ hq3]
     (repeat (first | refine gO rfl ?_ | ((first | refine gM zM42 ?_ | (with_reducible refine wM ?_ ?_) | ((with_reducible refine xS ?_); refine uD 18 zM42 zPXE zPXP 100 rfl (by kernel_rfl) ?_) | ((with_reducible refine xR ?_); refine uE 21 zM42 zPYE zPYP 100 rfl (by kernel_rfl) ?_)) <;> ((try with_reducible intro K1 hK1); simp only [go_sem, ↓reduceIte, reduceCtorEq, nA, nB, nC, nD, nE, nF] <;> and_intros <;> first | (apply hK1; clear hK1 K1) | (intros; first | omega | decide) | skip))))
     exact ⟨g3 - 1, by omega, m + 1, b4, by omega, by rw [hinv4, Bool.or_assoc]; exact hinv3, rfl⟩
   ·simp only [decide_eq_false_iff_not] at h7
    have hmL : m = os.length := by omega
    subst hmL
    rw [List.drop_length, List.any_nil, Bool.or_false] at hinv3
    rw [← hinv3] at hinv
    (repeat (first | refine gO rfl ?_ | ((first | refine gM zM42 ?_ | (with_reducible refine wM ?_ ?_) | ((with_reducible refine xS ?_); refine uD 18 zM42 zPXE zPXP 100 rfl (by kernel_rfl) ?_) | ((with_reducible refine xR ?_); refine uE 21 zM42 zPYE zPYP 100 rfl (by kernel_rfl) ?_)) <;> ((try with_reducible intro K1 hK1); simp only [go_sem, ↓reduceIte, reduceCtorEq, nA, nB, nC, nD, nE, nF] <;> and_intros <;> first | (apply hK1; clear hK1 K1) | (intros; first | omega | decide) | skip))))
    cases b with
    | true =>
     rw [if_neg (by decide)] at hinv
     refine awp_cond (t := _) rfl (fun h6 => by cases h6) (fun _ => ?_)
     (repeat (first | refine gO rfl ?_ | ((first | refine gM zM42 ?_ | (with_reducible refine wM ?_ ?_) | ((with_reducible refine xS ?_); refine uD 18 zM42 zPXE zPXP 100 rfl (by kernel_rfl) ?_) | ((with_reducible refine xR ?_); refine uE 21 zM42 zPYE zPYP 100 rfl (by kernel_rfl) ?_)) <;> ((try with_reducible intro K1 hK1); simp only [go_sem, ↓reduceIte, reduceCtorEq, nA, nB, nC, nD, nE, nF] <;> and_intros <;> first | (apply hK1; clear hK1 K1) | (intros; first | omega | decide) | skip))))
     exact ⟨g - 1, by omega, j + 1, n, ys, by omega, hn, by omega, hinv, by rw [hh1]; rfl⟩
    | false =>
     rw [if_pos rfl] at hinv
     refine awp_cond (t := _) rfl (fun _ => ?_) (fun h6 => by cases h6)
     (repeat (first | refine gO rfl ?_ | ((first | refine gM zM42 ?_ | (with_reducible refine wM ?_ ?_) | ((with_reducible refine xS ?_); refine uD 18 zM42 zPXE zPXP 100 rfl (by kernel_rfl) ?_) | ((with_reducible refine xR ?_); refine uE 21 zM42 zPYE zPYP 100 rfl (by kernel_rfl) ?_)) <;> ((try with_reducible intro K1 hK1); simp only [go_sem, ↓reduceIte, reduceCtorEq, nA, nB, nC, nD, nE, nF, hT1, hyl] <;> and_intros <;> first | (apply hK1; clear hK1 K1) | (intros; first | omega | decide) | skip))))
     refine ⟨g - 1, by omega, j + 1, n + 1, ys ++ [(j : Int)], by omega, by simp [hn], by omega, by rw [← hinv, List.append_assoc]; rfl, ?_⟩
     have e3 : (ys ++ [(j : Int)]).map encI = ys.map encI ++ [[.v (.int .i64 j)]] := by rw [List.map_append]; rfl
     rw [e3, hh1]
     (try simp only [upd_upd])
     rfl
 ·simp only [decide_eq_false_iff_not] at h5
  have hjl : j = rs.length := by omega
  subst hjl
  rw [List.drop_length, uselRefL, List.append_nil] at hinv
  subst hn
  refine awp_frz 3 k 1 (xs := ys.map encI) (by rw [List.length_map]; rfl) (upd_same _ _ _) (fun y hy => by obtain ⟨z, _, rfl⟩ := List.mem_map.1 hy; rfl) ?_
  (repeat (first | refine gO rfl ?_ | ((first | refine gM zM42 ?_ | (with_reducible refine wM ?_ ?_) | ((with_reducible refine xS ?_); refine uD 18 zM42 zPXE zPXP 100 rfl (by kernel_rfl) ?_) | ((with_reducible refine xR ?_); refine uE 21 zM42 zPYE zPYP 100 rfl (by kernel_rfl) ?_)) <;> ((try with_reducible intro K1 hK1); simp only [go_sem, ↓reduceIte, reduceCtorEq, nA, nB, nC, nD, nE, nF] <;> and_intros <;> first | (apply hK1; clear hK1 K1) | (intros; first | omega | decide) | skip))))
  simp only [Tryz.results32, go_sem, ↓reduceIte, reduceCtorEq, nA, nB, nC, nD, nE, nF]
  refine ⟨_, h, Weak.refl _, ⟨fun _ => .inr rfl, fun t => ?_⟩, by rw [← hinv], rfl⟩
  by_cases e : t = k
  ·subst e; exact .inl hk
  ·exact .inr (by show h.T t = upd h.T k none t; rw [upd_other _ _ e])
abbrev zPZE : List Nat := [0, 1, 2, 3, 4, 5, 6, 7, 8, 9, 10, 11, 12, 13, 14, 15, 16, 17, 18, 19, 20]
abbrev zPZP : List (Nat × List Nat × List Nat) := [(21, [], [22])]
attribute [go_sem] zPZE zPZP
theorem byP_step (p : Nat → Rt → Bool) (rs : List Rt) (o : List Wnd) (j : Nat) (hj : j < rs.length) : byP p (rs.drop j) j o = byP p (rs.drop (j + 1)) (j + 1) (if p j rs[j] = true then o ++ [(rs[j].2.2.1, rs[j].2.2.2.1)] else o) := by
 rw [List.drop_eq_getElem_cons hj, byP]
theorem g_uselR (rs : List Rt) (i : Nat) (ri : Rt) (kk : Option Nat) (hi : rs[i]? = some ri) (hl : rs.length ≤ 12) (hok : ∀ r ∈ rs, RtOk r) (hs : ri.2.1.Pairwise fun a b => ltB a b = true) (h : Hp) :
  ACalls Tryz.prog 83 [.row 5 (rs.map encRt) kk, .v (.int .i64 i)] h (fun r h' => r = .v (.bool (uselR rs ri i)) ∧ h' = h) := by
 have hml : (rs.map encRt).length = rs.length := List.length_map _
 have hil : i < rs.length := (List.getElem?_eq_some_iff.1 hi).1
 have hri := hok ri (List.mem_of_getElem? hi)
 have gi : (rs.map encRt).getD i [] = encRt ri := by rw [List.getD_eq_getElem?_getD, List.getElem?_map, hi]; rfl
 clear hi
 obtain ⟨iti, tgi, fri, t2i, bbi⟩ := ri
 rw [show encRt (iti, tgi, fri, t2i, bbi) = [.v (.string iti), .row 1 (tgi.map encS) none, .v (.int .i64 fri), .v (.int .i64 t2i), .v (.bool bbi)] from rfl] at gi
 obtain ⟨_, ⟨hti, _⟩, _, _⟩ := hri
 simp only at hs hti
 refine gE Tryz.func83 rfl (by kernel_rfl) 49 rfl fun c => ?_
 (repeat (first | refine gQ rfl ?_ | ((first | refine gM zM43 ?_ | (with_reducible refine wM ?_ ?_) | ((with_reducible refine xS ?_); refine uD 5 zM43 zPZE zPZP 51 rfl (by kernel_rfl) ?_)) <;> ((try with_reducible intro K1 hK1); simp only [go_sem, ↓reduceIte, reduceCtorEq, nA, nB, nC, nD, nE, nF] <;> and_intros <;> first | (apply hK1; clear hK1 K1) | (intros; first | omega | decide | (simp_all <;> omega)) | skip))))
 refine awp_seq ?_
 refine awp_ownA 5 2 rfl ⟨rfl, rfl⟩ (fun k hk => ?_)
 replace hk : h.T k = none := hk
 (repeat (first | refine gO rfl ?_ | ((first | refine gM zM43 ?_ | (with_reducible refine wM ?_ ?_) | ((with_reducible refine xS ?_); refine uD 5 zM43 zPZE zPZP 51 rfl (by kernel_rfl) ?_)) <;> ((try with_reducible intro K1 hK1); simp only [go_sem, ↓reduceIte, reduceCtorEq, nA, nB, nC, nD, nE, nF, hml] <;> and_intros <;> first | (apply hK1; clear hK1 K1) | (intros; first | omega | decide) | skip))))
 refine awp_loopC (rl false [0, 2, 3, 1, 2, 3, 40]) 0 (fun g s => ∃ (j n : Nat) (ys : List Wnd), g + j = rs.length ∧ ys.length = n ∧ n ≤ j ∧ (∀ w ∈ ys, -1000000000000 ≤ w.1 ∧ w.1 ≤ 1000000000000) ∧ byP (pR (iti, tgi, fri, t2i, bbi) i) (rs.drop j) j ys = byP (pR (iti, tgi, fri, t2i, bbi) i) rs 0 [] ∧
  s = ⟨((.row 5 (rs.map encRt) kk) :: (.v (.int .i64 i)) :: (jnk 3 ((.arr 2 k n) :: AV.junk :: AV.junk :: ((.row 5 (rs.map encRt) kk) :: (.v (.int .i64 rs.length)) :: (.v (.int .i64 j)) :: (jnk 40 []))))), [], ⟨h.H, upd h.T k (some (.cont 2 (ys.map encW2)))⟩⟩) rs.length ⟨0, 0, [], by omega, rfl, by omega, by simp, rfl, rfl⟩ ?_
 rintro g _ ⟨j, n, ys, hj, hn, hnj, hys, hinv, rfl⟩
 have hTq : upd h.T k (some (TO.cont 2 (ys.map encW2))) k = some (TO.cont 2 (ys.map encW2)) := upd_same _ _ _
 have hyl : (ys.map encW2).length = n := by rw [List.length_map, hn]
 (repeat (first | refine gO rfl ?_ | ((first | refine gM zM43 ?_ | (with_reducible refine wM ?_ ?_) | ((with_reducible refine xS ?_); refine uD 5 zM43 zPZE zPZP 51 rfl (by kernel_rfl) ?_)) <;> ((try with_reducible intro K1 hK1); simp only [go_sem, ↓reduceIte, reduceCtorEq, nA, nB, nC, nD, nE, nF] <;> and_intros <;> first | (apply hK1; clear hK1 K1) | (intros; first | omega | decide) | skip))))
 refine awp_cond (t := _) rfl (fun h5 => ?_) (fun h5 => ?_)
 ·simp only [decide_eq_true_eq] at h5
  have hjl : j < rs.length := by omega
  have gx : (rs.map encRt).getD j [] = encRt rs[j] := by rw [List.getD_eq_getElem?_getD, List.getElem?_map, List.getElem?_eq_getElem hjl]; rfl
  have hro := hok _ (List.getElem_mem hjl)
  rw [byP_step _ rs ys j hjl] at hinv
  generalize rs[j] = r at *
  obtain ⟨it, tg, fr, t2, bb⟩ := r
  rw [show encRt (it, tg, fr, t2, bb) = [.v (.string it), .row 1 (tg.map encS) none, .v (.int .i64 fr), .v (.int .i64 t2), .v (.bool bb)] from rfl] at gx
  obtain ⟨hs1, ⟨hs2, hs3⟩, hs4, hs5⟩ := hro
  simp only at hs1 hs2 hs3 hs4 hs5
  have hW := g_within tg tgi none none ⟨h.H, upd h.T k (some (.cont 2 (ys.map encW2)))⟩ (by omega) (by omega) hs
  obtain ⟨x1, e1⟩ : ∃ c, ((j : Int) != (i : Int)) = c := ⟨_, rfl⟩
  obtain ⟨x2, e2⟩ : ∃ c, (it == iti) = c := ⟨_, rfl⟩
  have hap : pR (iti, tgi, fri, t2i, bbi) i j (it, tg, fr, t2, bb) = (x1 && (x2 && inTags tgi tg)) := by
   have q1 : (!decide (j = i)) = x1 := by rw [← e1, Bool.eq_iff_iff, Bool.not_eq_true', decide_eq_false_iff_not, bne_iff_ne]; omega
   have q2 : decide (it = iti) = x2 := by rw [← ba_beq, ← e2]
   unfold pR
   simp only [q1, q2]
  rw [hap] at hinv
  clear hap
  cases x1 with
  | false =>
   (repeat (first | refine gO rfl ?_ | ((first | refine gM zM43 ?_ | (with_reducible refine wM ?_ ?_) | ((with_reducible refine xS ?_); refine uD 5 zM43 zPZE zPZP 51 rfl (by kernel_rfl) ?_)) <;> ((try with_reducible intro K1 hK1); simp only [go_sem, ↓reduceIte, reduceCtorEq, nA, nB, nC, nD, nE, nF, hml, Int.toNat_natCast, gx, gi, e1, e2, Bool.not_true, Bool.not_false] <;> and_intros <;> first | (apply hK1; clear hK1 K1) | (intros; first | omega | decide) | skip))))
   refine awp_cond (t := _) rfl (fun h6 => by cases h6) (fun _ => ?_)
   (repeat (first | refine gO rfl ?_ | ((first | refine gM zM43 ?_ | (with_reducible refine wM ?_ ?_) | ((with_reducible refine xS ?_); refine uD 5 zM43 zPZE zPZP 51 rfl (by kernel_rfl) ?_)) <;> ((try with_reducible intro K1 hK1); simp only [go_sem, ↓reduceIte, reduceCtorEq, nA, nB, nC, nD, nE, nF] <;> and_intros <;> first | (apply hK1; clear hK1 K1) | (intros; first | omega | decide) | skip))))
   exact ⟨g - 1, by omega, j + 1, n, ys, by omega, hn, by omega, hys, hinv, rfl⟩
  | true =>
   cases x2 with
   | false =>
    (repeat (first | refine gO rfl ?_ | ((first | refine gM zM43 ?_ | (with_reducible refine wM ?_ ?_) | ((with_reducible refine xS ?_); refine uD 5 zM43 zPZE zPZP 51 rfl (by kernel_rfl) ?_)) <;> ((try with_reducible intro K1 hK1); simp only [go_sem, ↓reduceIte, reduceCtorEq, nA, nB, nC, nD, nE, nF, hml, Int.toNat_natCast, gx, gi, e1, e2, Bool.not_true, Bool.not_false] <;> and_intros <;> first | (apply hK1; clear hK1 K1) | (intros; first | omega | decide) | skip))))
    refine awp_cond (t := _) rfl (fun h6 => by cases h6) (fun _ => ?_)
    (repeat (first | refine gO rfl ?_ | ((first | refine gM zM43 ?_ | (with_reducible refine wM ?_ ?_) | ((with_reducible refine xS ?_); refine uD 5 zM43 zPZE zPZP 51 rfl (by kernel_rfl) ?_)) <;> ((try with_reducible intro K1 hK1); simp only [go_sem, ↓reduceIte, reduceCtorEq, nA, nB, nC, nD, nE, nF] <;> and_intros <;> first | (apply hK1; clear hK1 K1) | (intros; first | omega | decide) | skip))))
    exact ⟨g - 1, by omega, j + 1, n, ys, by omega, hn, by omega, hys, hinv, rfl⟩
   | true =>
    (repeat (first | refine gO rfl ?_ | ((first | refine gM zM43 ?_ | (with_reducible refine wM ?_ ?_) | ((with_reducible refine xS ?_); refine uD 5 zM43 zPZE zPZP 51 rfl (by kernel_rfl) ?_)) <;> ((try with_reducible intro K1 hK1); simp only [go_sem, ↓reduceIte, reduceCtorEq, nA, nB, nC, nD, nE, nF, hml, Int.toNat_natCast, gx, gi, e1, e2, Bool.not_true, Bool.not_false] <;> and_intros <;> first | (apply hK1; clear hK1 K1) | (intros; first | omega | decide) | skip))))
    rotate_left
    ·exact fun h => h.elim
    refine hW.mono ?_
    rintro _ hz ⟨rfl, hh⟩; refine ⟨rfl, ?_⟩; apply hK1; clear hK1 K1; rw [hh]; clear hh hz
    simp only [Bool.not_false, Bool.true_and] at hinv
    cases hb : inTags tgi tg with
    | false =>
     rw [hb] at hinv
     (repeat (first | refine gO rfl ?_ | ((first | refine gM zM43 ?_ | (with_reducible refine wM ?_ ?_) | ((with_reducible refine xS ?_); refine uD 5 zM43 zPZE zPZP 51 rfl (by kernel_rfl) ?_)) <;> ((try with_reducible intro K1 hK1); simp only [go_sem, ↓reduceIte, reduceCtorEq, nA, nB, nC, nD, nE, nF] <;> and_intros <;> first | (apply hK1; clear hK1 K1) | (intros; first | omega | decide) | skip))))
     refine awp_cond (t := _) rfl (fun h6 => by cases h6) (fun _ => ?_)
     (repeat (first | refine gO rfl ?_ | ((first | refine gM zM43 ?_ | (with_reducible refine wM ?_ ?_) | ((with_reducible refine xS ?_); refine uD 5 zM43 zPZE zPZP 51 rfl (by kernel_rfl) ?_)) <;> ((try with_reducible intro K1 hK1); simp only [go_sem, ↓reduceIte, reduceCtorEq, nA, nB, nC, nD, nE, nF] <;> and_intros <;> first | (apply hK1; clear hK1 K1) | (intros; first | omega | decide) | skip))))
     exact ⟨g - 1, by omega, j + 1, n, ys, by omega, hn, by omega, hys, hinv, rfl⟩
    | true =>
     rw [hb, if_pos rfl] at hinv
     (repeat (first | refine gO rfl ?_ | ((first | refine gM zM43 ?_ | (with_reducible refine wM ?_ ?_) | ((with_reducible refine xS ?_); refine uD 5 zM43 zPZE zPZP 51 rfl (by kernel_rfl) ?_)) <;> ((try with_reducible intro K1 hK1); simp only [go_sem, ↓reduceIte, reduceCtorEq, nA, nB, nC, nD, nE, nF] <;> and_intros <;> first | (apply hK1; clear hK1 K1) | (intros; first | omega | decide) | skip))))
     refine awp_cond (t := _) rfl (fun _ => ?_) (fun h6 => by cases h6)
     (repeat (first | refine gO rfl ?_ | ((first | refine gM zM43 ?_ | (with_reducible refine wM ?_ ?_) | ((with_reducible refine xS ?_); refine uD 5 zM43 zPZE zPZP 51 rfl (by kernel_rfl) ?_)) <;> ((try with_reducible intro K1 hK1); simp only [go_sem, ↓reduceIte, reduceCtorEq, nA, nB, nC, nD, nE, nF, hTq, hyl] <;> and_intros <;> first | (apply hK1; clear hK1 K1) | (intros; first | omega | decide) | skip))))
     refine ⟨g - 1, by omega, j + 1, n + 1, ys ++ [(fr, t2)], by omega, by simp [hn], by omega, fun w hw => ?_, hinv, ?_⟩
     ·rcases List.mem_append.1 hw with hw | hw
      ·exact hys w hw
      ·rw [List.mem_singleton.1 hw]; simp only; omega
     ·rw [List.map_append]
      (try simp only [upd_upd])
      rfl
 ·simp only [decide_eq_false_iff_not] at h5
  have hjl : j = rs.length := by omega
  subst hjl
  rw [List.drop_length, byP] at hinv
  subst hn
  (repeat (first | refine gO rfl ?_ | ((first | refine gM zM43 ?_ | (with_reducible refine wM ?_ ?_) | ((with_reducible refine xS ?_); refine uD 5 zM43 zPZE zPZP 51 rfl (by kernel_rfl) ?_)) <;> ((try with_reducible intro K1 hK1); simp only [go_sem, ↓reduceIte, reduceCtorEq, nA, nB, nC, nD, nE, nF, hml, Int.toNat_natCast, gi] <;> and_intros <;> first | (apply hK1; clear hK1 K1) | (intros; first | omega | decide) | skip))))
  refine (g_covered fri t2i k ys ⟨h.H, upd h.T k (some (.cont 2 (ys.map encW2)))⟩ hTq (by omega) hys).mono ?_; rintro _ hz ⟨rfl, hh⟩; apply hK1; clear hK1 K1; rw [hh]; clear hh hz
  (repeat (first | refine gO rfl ?_ | ((first | refine gM zM43 ?_ | (with_reducible refine wM ?_ ?_) | ((with_reducible refine xS ?_); refine uD 5 zM43 zPZE zPZP 51 rfl (by kernel_rfl) ?_)) <;> ((try with_reducible intro K1 hK1); simp only [go_sem, ↓reduceIte, reduceCtorEq, nA, nB, nC, nD, nE, nF] <;> and_intros <;> first | (apply hK1; clear hK1 K1) | (intros; first | omega | decide) | skip))))
  simp only [Tryz.results83, go_sem, ↓reduceIte, reduceCtorEq, nA, nB, nC, nD, nE, nF]
  refine ⟨_, h, Weak.refl _, ⟨fun _ => .inr rfl, fun t => ?_⟩, by unfold uselR; rw [← hinv], rfl⟩
  by_cases e : t = k
  ·subst e; exact .inl hk
  ·refine .inr ?_
   show h.T t = _
   simp only [upd_upd]
   rw [upd_other _ _ e]
theorem bl_lt : ∀ a b : List UInt8, Op.bytesLess a b = true → a < b
  | [], [], h => by simp [Op.bytesLess] at h
  | [], y :: b, _ => List.nil_lt_cons _ _
  | x :: a, [], h => by simp [Op.bytesLess] at h
  | x :: a, y :: b, h => by
    simp only [Op.bytesLess, Bool.or_eq_true, decide_eq_true_eq, Bool.and_eq_true, beq_iff_eq] at h
    rw [List.cons_lt_cons_iff]
    rcases h with h | ⟨rfl, h⟩
    · exact .inl h
    · exact .inr ⟨rfl, bl_lt a b h⟩
theorem bl_of_le {a b : List UInt8} (h : a ≤ b) (hn : a ≠ b) : Op.bytesLess a b = true := by
  cases e : Op.bytesLess a b with
  | true => rfl
  | false =>
    exfalso
    cases e2 : Op.bytesLess b a with
    | true => exact List.not_lt.2 h (bl_lt b a e2)
    | false => exact hn (bl_tot a b e e2)
theorem onceS_rise (l : List ByteArray) : (onceS l).Pairwise fun a b => ltB a b = true := by
  refine List.Pairwise.map _ (fun a b h => ?_) (onceL_ok (l.map (·.data.toList))).1
  unfold ltB
  rw [ByteArray.toList_eq, ByteArray.toList_eq]
  exact bl_of_le h.1 h.2
abbrev zP10E : List Nat := [0, 1, 2, 3, 4, 5, 6, 7, 8, 9, 10, 11]
abbrev zP10P : List (Nat × List Nat × List Nat) := []
abbrev zP11E : List Nat := [0, 1, 2, 3, 4, 5, 6, 7, 8, 9, 10, 11, 12, 13, 14, 15, 16, 17, 18, 19, 20]
abbrev zP11P : List (Nat × List Nat × List Nat) := [(22, [], [])]
abbrev zP12E : List Nat := [0, 1, 2, 3, 4, 5, 6]
abbrev zP12P : List (Nat × List Nat × List Nat) := [(7, [], [8])]
attribute [go_sem] zP10E zP10P zP11E zP11P zP12E zP12P
theorem g_uselB (rs : List Rt) (i : Nat) (ri : Rt) (kk : Option Nat) (hi : rs[i]? = some ri) (hl : rs.length ≤ 12) (hok : ∀ r ∈ rs, RtOk r) (h : Hp) :
  ACalls Tryz.prog 82 [.row 5 (rs.map encRt) kk, .v (.int .i64 i)] h (fun r h' => r = .v (.bool (uselB rs ri i)) ∧ h' = h) := by
 have hml : (rs.map encRt).length = rs.length := List.length_map _
 have hil : i < rs.length := (List.getElem?_eq_some_iff.1 hi).1
 have hri := hok ri (List.mem_of_getElem? hi)
 have gi : (rs.map encRt).getD i [] = encRt ri := by rw [List.getD_eq_getElem?_getD, List.getElem?_map, hi]; rfl
 clear hi
 obtain ⟨iti, tgi, fri, t2i, bbi⟩ := ri
 rw [show encRt (iti, tgi, fri, t2i, bbi) = [.v (.string iti), .row 1 (tgi.map encS) none, .v (.int .i64 fri), .v (.int .i64 t2i), .v (.bool bbi)] from rfl] at gi
 obtain ⟨_, ⟨hti, _⟩, hfi, hei⟩ := hri
 simp only at hti hfi hei
 unfold uselB
 refine gE Tryz.func82 rfl (by kernel_rfl) 100 rfl fun c => ?_
 (repeat (first | refine gO rfl ?_ | ((first | refine gM zM44 ?_ | (with_reducible refine wM ?_ ?_) | ((with_reducible refine xS ?_); refine uD 4 zM44 zP10E zP10P 102 rfl (by kernel_rfl) ?_) | ((with_reducible refine xS ?_); refine uF 5 zM44 21 zP11E zP11P 102 rfl (by kernel_rfl) ?_) | ((with_reducible refine xS ?_); refine uD 7 zM44 zP12E zP12P 102 rfl (by kernel_rfl) ?_)) <;> ((try with_reducible intro K1 hK1); simp only [go_sem, ↓reduceIte, reduceCtorEq, nA, nB, nC, nD, nE, nF, hml] <;> and_intros <;> first | (apply hK1; clear hK1 K1) | (intros; first | omega | decide) | skip))))
 refine awp_loopC (rl false [0, 2, 10, 3, 87]) 0 (fun g s => ∃ (j : Nat), g + j = rs.length ∧ (rs.drop j).all (uselB1 rs (iti, tgi, fri, t2i, bbi) i) = rs.all (uselB1 rs (iti, tgi, fri, t2i, bbi) i) ∧
  s = ⟨((.row 5 (rs.map encRt) kk) :: (.v (.int .i64 i)) :: (jnk 10 ((.row 5 (rs.map encRt) kk) :: (.v (.int .i64 rs.length)) :: (.v (.int .i64 j)) :: (jnk 87 [])))), [], h⟩) rs.length ⟨0, by omega, rfl, rfl⟩ ?_
 rintro g _ ⟨j, hj, hinv, rfl⟩
 (repeat (first | refine gO rfl ?_ | ((first | refine gM zM44 ?_ | (with_reducible refine wM ?_ ?_) | ((with_reducible refine xS ?_); refine uD 4 zM44 zP10E zP10P 102 rfl (by kernel_rfl) ?_) | ((with_reducible refine xS ?_); refine uF 5 zM44 21 zP11E zP11P 102 rfl (by kernel_rfl) ?_) | ((with_reducible refine xS ?_); refine uD 7 zM44 zP12E zP12P 102 rfl (by kernel_rfl) ?_)) <;> ((try with_reducible intro K1 hK1); simp only [go_sem, ↓reduceIte, reduceCtorEq, nA, nB, nC, nD, nE, nF] <;> and_intros <;> first | (apply hK1; clear hK1 K1) | (intros; first | omega | decide) | skip))))
 refine awp_cond (t := _) rfl (fun h5 => ?_) (fun h5 => ?_)
 ·simp only [decide_eq_true_eq] at h5
  have hjl : j < rs.length := by omega
  have gx : (rs.map encRt).getD j [] = encRt rs[j] := by rw [List.getD_eq_getElem?_getD, List.getElem?_map, List.getElem?_eq_getElem hjl]; rfl
  have hro := hok _ (List.getElem_mem hjl)
  rw [List.drop_eq_getElem_cons hjl, List.all_cons] at hinv
  generalize rs[j] = r at *
  obtain ⟨it, tg, fr, t2, bb⟩ := r
  rw [show encRt (it, tg, fr, t2, bb) = [.v (.string it), .row 1 (tg.map encS) none, .v (.int .i64 fr), .v (.int .i64 t2), .v (.bool bb)] from rfl] at gx
  obtain ⟨hs1, ⟨hs2, hs3⟩, hs4, hs5⟩ := hro
  simp only at hs1 hs2 hs3 hs4 hs5
  have hU := g_union tg tgi none none h (by omega)
  obtain ⟨tags, htg⟩ : ∃ tags, onceS (tg ++ tgi) = tags := ⟨_, rfl⟩
  have hso : tags.Pairwise fun a b => ltB a b = true := by rw [← htg]; exact onceS_rise _
  have htl : tags.length ≤ 6 := by have := onceS_len (tg ++ tgi); rw [htg, List.length_append] at this; omega
  rw [htg] at hU
  obtain ⟨x2, e2⟩ : ∃ c, (it == iti) = c := ⟨_, rfl⟩
  obtain ⟨x3, e3⟩ : ∃ c, decide (min t2 t2i ≤ max fr fri) = c := ⟨_, rfl⟩
  have hap : uselB1 rs (iti, tgi, fri, t2i, bbi) i (it, tg, fr, t2, bb) = ((bb || !x2) || (x3 || covB (max fr fri) (min t2 t2i) (sortI cmpWnd (byP (pB tags it i) rs 0 [])))) := by
   have q2 : decide (it = iti) = x2 := by rw [← ba_beq, ← e2]
   unfold uselB1
   simp only [q2, e3, htg]
  rw [hap] at hinv
  clear hap htg
  cases bb with
  | true =>
   (repeat (first | refine gO rfl ?_ | ((first | refine gM zM44 ?_ | (with_reducible refine wM ?_ ?_) | ((with_reducible refine xS ?_); refine uD 4 zM44 zP10E zP10P 102 rfl (by kernel_rfl) ?_) | ((with_reducible refine xS ?_); refine uF 5 zM44 21 zP11E zP11P 102 rfl (by kernel_rfl) ?_) | ((with_reducible refine xS ?_); refine uD 7 zM44 zP12E zP12P 102 rfl (by kernel_rfl) ?_)) <;> ((try with_reducible intro K1 hK1); simp only [go_sem, ↓reduceIte, reduceCtorEq, nA, nB, nC, nD, nE, nF, hml, Int.toNat_natCast, gx, gi, e2, Bool.not_true, Bool.not_false] <;> and_intros <;> first | (apply hK1; clear hK1 K1) | (intros; first | omega | decide) | skip))))
   refine awp_cond (t := _) rfl (fun _ => ?_) (fun h6 => by cases h6)
   (repeat (first | refine gO rfl ?_ | ((first | refine gM zM44 ?_ | (with_reducible refine wM ?_ ?_) | ((with_reducible refine xS ?_); refine uD 4 zM44 zP10E zP10P 102 rfl (by kernel_rfl) ?_) | ((with_reducible refine xS ?_); refine uF 5 zM44 21 zP11E zP11P 102 rfl (by kernel_rfl) ?_) | ((with_reducible refine xS ?_); refine uD 7 zM44 zP12E zP12P 102 rfl (by kernel_rfl) ?_)) <;> ((try with_reducible intro K1 hK1); simp only [go_sem, ↓reduceIte, reduceCtorEq, nA, nB, nC, nD, nE, nF] <;> and_intros <;> first | (apply hK1; clear hK1 K1) | (intros; first | omega | decide) | skip))))
   exact ⟨g - 1, by omega, j + 1, by omega, hinv, rfl⟩
  | false =>
   cases x2 with
   | false =>
    (repeat (first | refine gO rfl ?_ | ((first | refine gM zM44 ?_ | (with_reducible refine wM ?_ ?_) | ((with_reducible refine xS ?_); refine uD 4 zM44 zP10E zP10P 102 rfl (by kernel_rfl) ?_) | ((with_reducible refine xS ?_); refine uF 5 zM44 21 zP11E zP11P 102 rfl (by kernel_rfl) ?_) | ((with_reducible refine xS ?_); refine uD 7 zM44 zP12E zP12P 102 rfl (by kernel_rfl) ?_)) <;> ((try with_reducible intro K1 hK1); simp only [go_sem, ↓reduceIte, reduceCtorEq, nA, nB, nC, nD, nE, nF, hml, Int.toNat_natCast, gx, gi, e2, Bool.not_true, Bool.not_false] <;> and_intros <;> first | (apply hK1; clear hK1 K1) | (intros; first | omega | decide) | skip))))
    refine awp_cond (t := _) rfl (fun _ => ?_) (fun h6 => by cases h6)
    (repeat (first | refine gO rfl ?_ | ((first | refine gM zM44 ?_ | (with_reducible refine wM ?_ ?_) | ((with_reducible refine xS ?_); refine uD 4 zM44 zP10E zP10P 102 rfl (by kernel_rfl) ?_) | ((with_reducible refine xS ?_); refine uF 5 zM44 21 zP11E zP11P 102 rfl (by kernel_rfl) ?_) | ((with_reducible refine xS ?_); refine uD 7 zM44 zP12E zP12P 102 rfl (by kernel_rfl) ?_)) <;> ((try with_reducible intro K1 hK1); simp only [go_sem, ↓reduceIte, reduceCtorEq, nA, nB, nC, nD, nE, nF] <;> and_intros <;> first | (apply hK1; clear hK1 K1) | (intros; first | omega | decide) | skip))))
    exact ⟨g - 1, by omega, j + 1, by omega, hinv, rfl⟩
   | true =>
    (repeat (first | refine gO rfl ?_ | ((first | refine gM zM44 ?_ | (with_reducible refine wM ?_ ?_) | ((with_reducible refine xS ?_); refine uD 4 zM44 zP10E zP10P 102 rfl (by kernel_rfl) ?_) | ((with_reducible refine xS ?_); refine uF 5 zM44 21 zP11E zP11P 102 rfl (by kernel_rfl) ?_) | ((with_reducible refine xS ?_); refine uD 7 zM44 zP12E zP12P 102 rfl (by kernel_rfl) ?_)) <;> ((try with_reducible intro K1 hK1); simp only [go_sem, ↓reduceIte, reduceCtorEq, nA, nB, nC, nD, nE, nF, hml, Int.toNat_natCast, gx, gi, e2, Bool.not_true, Bool.not_false] <;> and_intros <;> first | (apply hK1; clear hK1 K1) | (intros; first | omega | decide) | skip))))
    refine awp_cond (t := _) rfl (fun h6 => by cases h6) (fun _ => ?_)
    (repeat (first | refine gO rfl ?_ | ((first | refine gM zM44 ?_ | (with_reducible refine wM ?_ ?_) | ((with_reducible refine xS ?_); refine uD 4 zM44 zP10E zP10P 102 rfl (by kernel_rfl) ?_) | ((with_reducible refine xS ?_); refine uF 5 zM44 21 zP11E zP11P 102 rfl (by kernel_rfl) ?_) | ((with_reducible refine xS ?_); refine uD 7 zM44 zP12E zP12P 102 rfl (by kernel_rfl) ?_)) <;> ((try with_reducible intro K1 hK1); simp only [go_sem, ↓reduceIte, reduceCtorEq, nA, nB, nC, nD, nE, nF, hml, Int.toNat_natCast, gx, gi, e2, e3, Bool.not_true, Bool.not_false] <;> and_intros <;> first | (apply hK1; clear hK1 K1) | (intros; first | omega | decide) | skip))))
    cases x3 with
    | true =>
     refine awp_cond (t := _) rfl (fun _ => ?_) (fun h6 => by cases h6)
     (repeat (first | refine gO rfl ?_ | ((first | refine gM zM44 ?_ | (with_reducible refine wM ?_ ?_) | ((with_reducible refine xS ?_); refine uD 4 zM44 zP10E zP10P 102 rfl (by kernel_rfl) ?_) | ((with_reducible refine xS ?_); refine uF 5 zM44 21 zP11E zP11P 102 rfl (by kernel_rfl) ?_) | ((with_reducible refine xS ?_); refine uD 7 zM44 zP12E zP12P 102 rfl (by kernel_rfl) ?_)) <;> ((try with_reducible intro K1 hK1); simp only [go_sem, ↓reduceIte, reduceCtorEq, nA, nB, nC, nD, nE, nF] <;> and_intros <;> first | (apply hK1; clear hK1 K1) | (intros; first | omega | decide) | skip))))
     exact ⟨g - 1, by omega, j + 1, by omega, hinv, rfl⟩
    | false =>
     simp only [Bool.not_true, Bool.or_self, Bool.false_or] at hinv
     refine awp_cond (t := _) rfl (fun h6 => by cases h6) (fun _ => ?_)
     (repeat (first | refine gQ rfl ?_ | ((first | refine gM zM44 ?_ | (with_reducible refine wM ?_ ?_) | ((with_reducible refine xS ?_); refine uD 4 zM44 zP10E zP10P 102 rfl (by kernel_rfl) ?_) | ((with_reducible refine xS ?_); refine uF 5 zM44 21 zP11E zP11P 102 rfl (by kernel_rfl) ?_) | ((with_reducible refine xS ?_); refine uD 7 zM44 zP12E zP12P 102 rfl (by kernel_rfl) ?_)) <;> ((try with_reducible intro K1 hK1); simp only [go_sem, ↓reduceIte, reduceCtorEq, nA, nB, nC, nD, nE, nF, hml, Int.toNat_natCast, gi] <;> and_intros <;> first | (apply hK1; clear hK1 K1) | (intros; first | omega | decide | (simp_all <;> omega)) | skip))))
     refine hU.mono ?_; rintro _ hz ⟨rfl, hh⟩; apply hK1; clear hK1 K1; rw [hh]; clear hh hz
     (repeat (first | refine gQ rfl ?_ | ((first | refine gM zM44 ?_ | (with_reducible refine wM ?_ ?_) | ((with_reducible refine xS ?_); refine uD 4 zM44 zP10E zP10P 102 rfl (by kernel_rfl) ?_) | ((with_reducible refine xS ?_); refine uF 5 zM44 21 zP11E zP11P 102 rfl (by kernel_rfl) ?_) | ((with_reducible refine xS ?_); refine uD 7 zM44 zP12E zP12P 102 rfl (by kernel_rfl) ?_)) <;> ((try with_reducible intro K1 hK1); simp only [go_sem, ↓reduceIte, reduceCtorEq, nA, nB, nC, nD, nE, nF] <;> and_intros <;> first | (apply hK1; clear hK1 K1) | (intros; first | omega | decide | (simp_all <;> omega)) | skip))))
     refine awp_seq ?_
     refine awp_ownA 9 2 rfl ⟨rfl, rfl⟩ (fun k hk => ?_)
     replace hk : h.T k = none := hk
     (repeat (first | refine gO rfl ?_ | ((first | refine gM zM44 ?_ | (with_reducible refine wM ?_ ?_) | ((with_reducible refine xS ?_); refine uD 4 zM44 zP10E zP10P 102 rfl (by kernel_rfl) ?_) | ((with_reducible refine xS ?_); refine uF 5 zM44 21 zP11E zP11P 102 rfl (by kernel_rfl) ?_) | ((with_reducible refine xS ?_); refine uD 7 zM44 zP12E zP12P 102 rfl (by kernel_rfl) ?_)) <;> ((try with_reducible intro K1 hK1); simp only [go_sem, ↓reduceIte, reduceCtorEq, nA, nB, nC, nD, nE, nF, hml] <;> and_intros <;> first | (apply hK1; clear hK1 K1) | (intros; first | omega | decide) | skip))))
     clear hU gx e2 e3
     generalize max fr fri = A at *
     generalize min t2 t2i = B at *
     refine awp_loopC (rl false [0, 2, 4, 4, 2, 3, 49, 3, 35]) 2 (fun g2 s => ∃ (m n : Nat) (ys : List Wnd), g2 + m = rs.length ∧ ys.length = n ∧ n ≤ m ∧ (∀ w ∈ ys, -1000000000000 ≤ w.1 ∧ w.1 ≤ 1000000000000) ∧ byP (pB tags it i) (rs.drop m) m ys = byP (pB tags it i) rs 0 [] ∧
      s = ⟨((.row 5 (rs.map encRt) kk) :: (.v (.int .i64 i)) :: (jnk 4 ((.loc 0 0) :: (.loc 1 0) :: (.row 1 (tags.map encS) none) :: (.arr 2 k n) :: AV.junk :: AV.junk :: ((.row 5 (rs.map encRt) kk) :: (.v (.int .i64 rs.length)) :: (.v (.int .i64 j)) :: (jnk 49 ((.row 5 (rs.map encRt) kk) :: (.v (.int .i64 rs.length)) :: (.v (.int .i64 m)) :: (jnk 35 []))))))), [[.v (.string it), .row 1 (tg.map encS) none, .v (.int .i64 fr), .v (.int .i64 t2), .v (.bool false)], [.v (.int .i64 A), .v (.int .i64 B)]], ⟨h.H, upd h.T k (some (.cont 2 (ys.map encW2)))⟩⟩) rs.length ⟨0, 0, [], by omega, rfl, by omega, by simp, rfl, rfl⟩ ?_
     rintro g2 _ ⟨m, n, ys, hm, hn, hnm, hys, hinv2, rfl⟩
     have hTq : upd h.T k (some (TO.cont 2 (ys.map encW2))) k = some (TO.cont 2 (ys.map encW2)) := upd_same _ _ _
     have hyl : (ys.map encW2).length = n := by rw [List.length_map, hn]
     (repeat (first | refine gO rfl ?_ | ((first | refine gM zM44 ?_ | (with_reducible refine wM ?_ ?_) | ((with_reducible refine xS ?_); refine uD 4 zM44 zP10E zP10P 102 rfl (by kernel_rfl) ?_) | ((with_reducible refine xS ?_); refine uF 5 zM44 21 zP11E zP11P 102 rfl (by kernel_rfl) ?_) | ((with_reducible refine xS ?_); refine uD 7 zM44 zP12E zP12P 102 rfl (by kernel_rfl) ?_)) <;> ((try with_reducible intro K1 hK1); simp only [go_sem, ↓reduceIte, reduceCtorEq, nA, nB, nC, nD, nE, nF] <;> and_intros <;> first | (apply hK1; clear hK1 K1) | (intros; first | omega | decide) | skip))))
     refine awp_cond (t := _) rfl (fun h7 => ?_) (fun h7 => ?_)
     ·simp only [decide_eq_true_eq] at h7
      have hmL : m < rs.length := by omega
      have gq : (rs.map encRt).getD m [] = encRt rs[m] := by rw [List.getD_eq_getElem?_getD, List.getElem?_map, List.getElem?_eq_getElem hmL]; rfl
      have hrq := hok _ (List.getElem_mem hmL)
      rw [byP_step _ rs ys m hmL] at hinv2
      generalize rs[m] = q at *
      obtain ⟨itq, tgq, frq, t2q, bbq⟩ := q
      rw [show encRt (itq, tgq, frq, t2q, bbq) = [.v (.string itq), .row 1 (tgq.map encS) none, .v (.int .i64 frq), .v (.int .i64 t2q), .v (.bool bbq)] from rfl] at gq
      obtain ⟨hq1, ⟨hq2, hq3⟩, hq4, hq5⟩ := hrq
      simp only at hq1 hq2 hq3 hq4 hq5
      have hW := g_within tgq tags none none ⟨h.H, upd h.T k (some (.cont 2 (ys.map encW2)))⟩ (by omega) (by omega) hso
      obtain ⟨x4, e4⟩ : ∃ c, ((m : Int) != (i : Int)) = c := ⟨_, rfl⟩
      obtain ⟨x5, e5⟩ : ∃ c, (itq == it) = c := ⟨_, rfl⟩
      have hap2 : pB tags it i m (itq, tgq, frq, t2q, bbq) = (x4 && (bbq && (x5 && inTags tags tgq))) := by
       have q1 : (!decide (m = i)) = x4 := by rw [← e4, Bool.eq_iff_iff, Bool.not_eq_true', decide_eq_false_iff_not, bne_iff_ne]; omega
       have q2 : decide (itq = it) = x5 := by rw [← ba_beq, ← e5]
       unfold pB
       simp only [q1, q2]
      rw [hap2] at hinv2
      clear hap2
      cases x4 with
      | false =>
       (repeat (first | refine gO rfl ?_ | ((first | refine gM zM44 ?_ | (with_reducible refine wM ?_ ?_) | ((with_reducible refine xS ?_); refine uD 4 zM44 zP10E zP10P 102 rfl (by kernel_rfl) ?_) | ((with_reducible refine xS ?_); refine uF 5 zM44 21 zP11E zP11P 102 rfl (by kernel_rfl) ?_) | ((with_reducible refine xS ?_); refine uD 7 zM44 zP12E zP12P 102 rfl (by kernel_rfl) ?_)) <;> ((try with_reducible intro K1 hK1); simp only [go_sem, ↓reduceIte, reduceCtorEq, nA, nB, nC, nD, nE, nF, hml, Int.toNat_natCast, gq, e4, e5] <;> and_intros <;> first | (apply hK1; clear hK1 K1) | (intros; first | omega | decide) | skip))))
       refine awp_cond (t := _) rfl (fun h6 => by cases h6) (fun _ => ?_)
       (repeat (first | refine gO rfl ?_ | ((first | refine gM zM44 ?_ | (with_reducible refine wM ?_ ?_) | ((with_reducible refine xS ?_); refine uD 4 zM44 zP10E zP10P 102 rfl (by kernel_rfl) ?_) | ((with_reducible refine xS ?_); refine uF 5 zM44 21 zP11E zP11P 102 rfl (by kernel_rfl) ?_) | ((with_reducible refine xS ?_); refine uD 7 zM44 zP12E zP12P 102 rfl (by kernel_rfl) ?_)) <;> ((try with_reducible intro K1 hK1); simp only [go_sem, ↓reduceIte, reduceCtorEq, nA, nB, nC, nD, nE, nF] <;> and_intros <;> first | (apply hK1; clear hK1 K1) | (intros; first | omega | decide) | skip))))
       exact ⟨g2 - 1, by omega, m + 1, n, ys, by omega, hn, by omega, hys, hinv2, rfl⟩
      | true =>
       cases bbq with
       | false =>
        (repeat (first | refine gO rfl ?_ | ((first | refine gM zM44 ?_ | (with_reducible refine wM ?_ ?_) | ((with_reducible refine xS ?_); refine uD 4 zM44 zP10E zP10P 102 rfl (by kernel_rfl) ?_) | ((with_reducible refine xS ?_); refine uF 5 zM44 21 zP11E zP11P 102 rfl (by kernel_rfl) ?_) | ((with_reducible refine xS ?_); refine uD 7 zM44 zP12E zP12P 102 rfl (by kernel_rfl) ?_)) <;> ((try with_reducible intro K1 hK1); simp only [go_sem, ↓reduceIte, reduceCtorEq, nA, nB, nC, nD, nE, nF, hml, Int.toNat_natCast, gq, e4, e5] <;> and_intros <;> first | (apply hK1; clear hK1 K1) | (intros; first | omega | decide) | skip))))
        refine awp_cond (t := _) rfl (fun h6 => by cases h6) (fun _ => ?_)
        (repeat (first | refine gO rfl ?_ | ((first | refine gM zM44 ?_ | (with_reducible refine wM ?_ ?_) | ((with_reducible refine xS ?_); refine uD 4 zM44 zP10E zP10P 102 rfl (by kernel_rfl) ?_) | ((with_reducible refine xS ?_); refine uF 5 zM44 21 zP11E zP11P 102 rfl (by kernel_rfl) ?_) | ((with_reducible refine xS ?_); refine uD 7 zM44 zP12E zP12P 102 rfl (by kernel_rfl) ?_)) <;> ((try with_reducible intro K1 hK1); simp only [go_sem, ↓reduceIte, reduceCtorEq, nA, nB, nC, nD, nE, nF] <;> and_intros <;> first | (apply hK1; clear hK1 K1) | (intros; first | omega | decide) | skip))))
        exact ⟨g2 - 1, by omega, m + 1, n, ys, by omega, hn, by omega, hys, hinv2, rfl⟩
       | true =>
        cases x5 with
        | false =>
         (repeat (first | refine gO rfl ?_ | ((first | refine gM zM44 ?_ | (with_reducible refine wM ?_ ?_) | ((with_reducible refine xS ?_); refine uD 4 zM44 zP10E zP10P 102 rfl (by kernel_rfl) ?_) | ((with_reducible refine xS ?_); refine uF 5 zM44 21 zP11E zP11P 102 rfl (by kernel_rfl) ?_) | ((with_reducible refine xS ?_); refine uD 7 zM44 zP12E zP12P 102 rfl (by kernel_rfl) ?_)) <;> ((try with_reducible intro K1 hK1); simp only [go_sem, ↓reduceIte, reduceCtorEq, nA, nB, nC, nD, nE, nF, hml, Int.toNat_natCast, gq, e4, e5] <;> and_intros <;> first | (apply hK1; clear hK1 K1) | (intros; first | omega | decide) | skip))))
         refine awp_cond (t := _) rfl (fun h6 => by cases h6) (fun _ => ?_)
         (repeat (first | refine gO rfl ?_ | ((first | refine gM zM44 ?_ | (with_reducible refine wM ?_ ?_) | ((with_reducible refine xS ?_); refine uD 4 zM44 zP10E zP10P 102 rfl (by kernel_rfl) ?_) | ((with_reducible refine xS ?_); refine uF 5 zM44 21 zP11E zP11P 102 rfl (by kernel_rfl) ?_) | ((with_reducible refine xS ?_); refine uD 7 zM44 zP12E zP12P 102 rfl (by kernel_rfl) ?_)) <;> ((try with_reducible intro K1 hK1); simp only [go_sem, ↓reduceIte, reduceCtorEq, nA, nB, nC, nD, nE, nF] <;> and_intros <;> first | (apply hK1; clear hK1 K1) | (intros; first | omega | decide) | skip))))
         exact ⟨g2 - 1, by omega, m + 1, n, ys, by omega, hn, by omega, hys, hinv2, rfl⟩
        | true =>
         (repeat (first | refine gO rfl ?_ | ((first | refine gM zM44 ?_ | (with_reducible refine wM ?_ ?_) | ((with_reducible refine xS ?_); refine uD 4 zM44 zP10E zP10P 102 rfl (by kernel_rfl) ?_) | ((with_reducible refine xS ?_); refine uF 5 zM44 21 zP11E zP11P 102 rfl (by kernel_rfl) ?_) | ((with_reducible refine xS ?_); refine uD 7 zM44 zP12E zP12P 102 rfl (by kernel_rfl) ?_)) <;> ((try with_reducible intro K1 hK1); simp only [go_sem, ↓reduceIte, reduceCtorEq, nA, nB, nC, nD, nE, nF, hml, Int.toNat_natCast, gq, e4, e5] <;> and_intros <;> first | (apply hK1; clear hK1 K1) | (intros; first | omega | decide) | skip))))
         rotate_left
         ·exact fun h => h.elim
         refine hW.mono ?_
         rintro _ hz ⟨rfl, hh⟩; refine ⟨rfl, ?_⟩; apply hK1; clear hK1 K1; rw [hh]; clear hh hz
         simp only [Bool.true_and] at hinv2
         cases hb : inTags tags tgq with
         | false =>
          rw [hb] at hinv2
          (repeat (first | refine gO rfl ?_ | ((first | refine gM zM44 ?_ | (with_reducible refine wM ?_ ?_) | ((with_reducible refine xS ?_); refine uD 4 zM44 zP10E zP10P 102 rfl (by kernel_rfl) ?_) | ((with_reducible refine xS ?_); refine uF 5 zM44 21 zP11E zP11P 102 rfl (by kernel_rfl) ?_) | ((with_reducible refine xS ?_); refine uD 7 zM44 zP12E zP12P 102 rfl (by kernel_rfl) ?_)) <;> ((try with_reducible intro K1 hK1); simp only [go_sem, ↓reduceIte, reduceCtorEq, nA, nB, nC, nD, nE, nF] <;> and_intros <;> first | (apply hK1; clear hK1 K1) | (intros; first | omega | decide) | skip))))
          refine awp_cond (t := _) rfl (fun h6 => by cases h6) (fun _ => ?_)
          (repeat (first | refine gO rfl ?_ | ((first | refine gM zM44 ?_ | (with_reducible refine wM ?_ ?_) | ((with_reducible refine xS ?_); refine uD 4 zM44 zP10E zP10P 102 rfl (by kernel_rfl) ?_) | ((with_reducible refine xS ?_); refine uF 5 zM44 21 zP11E zP11P 102 rfl (by kernel_rfl) ?_) | ((with_reducible refine xS ?_); refine uD 7 zM44 zP12E zP12P 102 rfl (by kernel_rfl) ?_)) <;> ((try with_reducible intro K1 hK1); simp only [go_sem, ↓reduceIte, reduceCtorEq, nA, nB, nC, nD, nE, nF] <;> and_intros <;> first | (apply hK1; clear hK1 K1) | (intros; first | omega | decide) | skip))))
          exact ⟨g2 - 1, by omega, m + 1, n, ys, by omega, hn, by omega, hys, hinv2, rfl⟩
         | true =>
          rw [hb, if_pos rfl] at hinv2
          (repeat (first | refine gO rfl ?_ | ((first | refine gM zM44 ?_ | (with_reducible refine wM ?_ ?_) | ((with_reducible refine xS ?_); refine uD 4 zM44 zP10E zP10P 102 rfl (by kernel_rfl) ?_) | ((with_reducible refine xS ?_); refine uF 5 zM44 21 zP11E zP11P 102 rfl (by kernel_rfl) ?_) | ((with_reducible refine xS ?_); refine uD 7 zM44 zP12E zP12P 102 rfl (by kernel_rfl) ?_)) <;> ((try with_reducible intro K1 hK1); simp only [go_sem, ↓reduceIte, reduceCtorEq, nA, nB, nC, nD, nE, nF] <;> and_intros <;> first | (apply hK1; clear hK1 K1) | (intros; first | omega | decide) | skip))))
          refine awp_cond (t := _) rfl (fun _ => ?_) (fun h6 => by cases h6)
          (repeat (first | refine gO rfl ?_ | ((first | refine gM zM44 ?_ | (with_reducible refine wM ?_ ?_) | ((with_reducible refine xS ?_); refine uD 4 zM44 zP10E zP10P 102 rfl (by kernel_rfl) ?_) | ((with_reducible refine xS ?_); refine uF 5 zM44 21 zP11E zP11P 102 rfl (by kernel_rfl) ?_) | ((with_reducible refine xS ?_); refine uD 7 zM44 zP12E zP12P 102 rfl (by kernel_rfl) ?_)) <;> ((try with_reducible intro K1 hK1); simp only [go_sem, ↓reduceIte, reduceCtorEq, nA, nB, nC, nD, nE, nF, hTq, hyl] <;> and_intros <;> first | (apply hK1; clear hK1 K1) | (intros; first | omega | decide) | skip))))
          refine ⟨g2 - 1, by omega, m + 1, n + 1, ys ++ [(frq, t2q)], by omega, by simp [hn], by omega, fun w hw => ?_, hinv2, ?_⟩
          ·rcases List.mem_append.1 hw with hw | hw
           ·exact hys w hw
           ·rw [List.mem_singleton.1 hw]; simp only; omega
          ·rw [List.map_append]
           (try simp only [upd_upd])
           rfl
     ·simp only [decide_eq_false_iff_not] at h7
      have hmL : m = rs.length := by omega
      subst hmL
      rw [List.drop_length, byP] at hinv2
      rw [← hinv2] at hinv
      clear hinv2
      subst hn
      (repeat (first | refine gO rfl ?_ | ((first | refine gM zM44 ?_ | (with_reducible refine wM ?_ ?_) | ((with_reducible refine xS ?_); refine uD 4 zM44 zP10E zP10P 102 rfl (by kernel_rfl) ?_) | ((with_reducible refine xS ?_); refine uF 5 zM44 21 zP11E zP11P 102 rfl (by kernel_rfl) ?_) | ((with_reducible refine xS ?_); refine uD 7 zM44 zP12E zP12P 102 rfl (by kernel_rfl) ?_)) <;> ((try with_reducible intro K1 hK1); simp only [go_sem, ↓reduceIte, reduceCtorEq, nA, nB, nC, nD, nE, nF] <;> and_intros <;> first | (apply hK1; clear hK1 K1) | (intros; first | omega | decide) | skip))))
      refine (g_covered A B k ys ⟨h.H, upd h.T k (some (.cont 2 (ys.map encW2)))⟩ hTq (by omega) hys).mono ?_; rintro _ hz ⟨rfl, hh⟩; apply hK1; clear hK1 K1; rw [hh]; clear hh hz
      (repeat (first | refine gO rfl ?_ | ((first | refine gM zM44 ?_ | (with_reducible refine wM ?_ ?_) | ((with_reducible refine xS ?_); refine uD 4 zM44 zP10E zP10P 102 rfl (by kernel_rfl) ?_) | ((with_reducible refine xS ?_); refine uF 5 zM44 21 zP11E zP11P 102 rfl (by kernel_rfl) ?_) | ((with_reducible refine xS ?_); refine uD 7 zM44 zP12E zP12P 102 rfl (by kernel_rfl) ?_)) <;> ((try with_reducible intro K1 hK1); simp only [go_sem, ↓reduceIte, reduceCtorEq, nA, nB, nC, nD, nE, nF] <;> and_intros <;> first | (apply hK1; clear hK1 K1) | (intros; first | omega | decide) | skip))))
      cases hcv : covB A B (sortI cmpWnd ys) with
      | false =>
       rw [hcv, Bool.false_and] at hinv
       refine awp_cond (t := _) rfl (fun _ => ?_) (fun h6 => by cases h6)
       (repeat (first | refine gO rfl ?_ | ((first | refine gM zM44 ?_ | (with_reducible refine wM ?_ ?_) | ((with_reducible refine xS ?_); refine uD 4 zM44 zP10E zP10P 102 rfl (by kernel_rfl) ?_) | ((with_reducible refine xS ?_); refine uF 5 zM44 21 zP11E zP11P 102 rfl (by kernel_rfl) ?_) | ((with_reducible refine xS ?_); refine uD 7 zM44 zP12E zP12P 102 rfl (by kernel_rfl) ?_)) <;> ((try with_reducible intro K1 hK1); simp only [go_sem, ↓reduceIte, reduceCtorEq, nA, nB, nC, nD, nE, nF] <;> and_intros <;> first | (apply hK1; clear hK1 K1) | (intros; first | omega | decide) | skip))))
       simp only [Tryz.results82, go_sem, ↓reduceIte, reduceCtorEq, nA, nB, nC, nD, nE, nF]
       refine ⟨_, h, Weak.refl _, ⟨fun _ => .inr rfl, fun t => ?_⟩, by rw [← hinv], rfl⟩
       by_cases e : t = k
       ·subst e; exact .inl hk
       ·exact .inr (by show h.T t = upd h.T k _ t; rw [upd_other _ _ e])
      | true =>
       rw [hcv, Bool.true_and] at hinv
       refine awp_cond (t := _) rfl (fun h6 => by cases h6) (fun _ => ?_)
       refine awp_frz 9 k 2 (xs := (sortI cmpWnd ys).map encW2) (by rw [List.length_map, sortI_len]; rfl) (upd_same _ _ _) (fun y hy => by obtain ⟨z, _, rfl⟩ := List.mem_map.1 hy; rfl) ?_
       (repeat (first | refine gO rfl ?_ | ((first | refine gM zM44 ?_ | (with_reducible refine wM ?_ ?_) | ((with_reducible refine xS ?_); refine uD 4 zM44 zP10E zP10P 102 rfl (by kernel_rfl) ?_) | ((with_reducible refine xS ?_); refine uF 5 zM44 21 zP11E zP11P 102 rfl (by kernel_rfl) ?_) | ((with_reducible refine xS ?_); refine uD 7 zM44 zP12E zP12P 102 rfl (by kernel_rfl) ?_)) <;> ((try with_reducible intro K1 hK1); simp only [go_sem, ↓reduceIte, reduceCtorEq, nA, nB, nC, nD, nE, nF] <;> and_intros <;> first | (apply hK1; clear hK1 K1) | (intros; first | omega | decide) | skip))))
       (try simp only [upd_upd])
       rw [upd_back hk]
       exact ⟨g - 1, by omega, j + 1, by omega, hinv, rfl⟩
 ·simp only [decide_eq_false_iff_not] at h5
  have hjl : j = rs.length := by omega
  subst hjl
  rw [List.drop_length] at hinv
  (repeat (first | refine gO rfl ?_ | ((first | refine gM zM44 ?_ | (with_reducible refine wM ?_ ?_) | ((with_reducible refine xS ?_); refine uD 4 zM44 zP10E zP10P 102 rfl (by kernel_rfl) ?_) | ((with_reducible refine xS ?_); refine uF 5 zM44 21 zP11E zP11P 102 rfl (by kernel_rfl) ?_) | ((with_reducible refine xS ?_); refine uD 7 zM44 zP12E zP12P 102 rfl (by kernel_rfl) ?_)) <;> ((try with_reducible intro K1 hK1); simp only [go_sem, ↓reduceIte, reduceCtorEq, nA, nB, nC, nD, nE, nF] <;> and_intros <;> first | (apply hK1; clear hK1 K1) | (intros; first | omega | decide) | skip))))
  simp only [Tryz.results82, go_sem, ↓reduceIte, reduceCtorEq, nA, nB, nC, nD, nE, nF]
  exact ⟨_, _, Weak.refl _, Hp.le.refl _, by rw [← hinv]; rfl, rfl⟩
theorem tags_rise {rs : List Rt} (h : rightsF rs = 0) : ∀ r ∈ rs, r.2.1.Pairwise fun a b => ltB a b = true := by
 induction rs with
 | nil => intro x hx; cases hx
 | cons r l ih =>
  rw [rightsF] at h
  split at h
  ·rename_i h1
   intro x hx
   rcases List.mem_cons.1 hx with rfl | hx
   ·unfold rightF at h1
    split at h1
    ·cases h1
    ·split at h1
     ·rename_i h2; exact (rise_sorted _ _ h2).1
     ·rename_i h2; exact absurd h1 h2
   ·exact ih h x hx
  ·rename_i h1; exact absurd h h1
theorem rights_wnd {rs : List Rt} (h : rightsF rs = 0) : ∀ r ∈ rs, r.2.2.1 < r.2.2.2.1 := by
 induction rs with
 | nil => intro x hx; cases hx
 | cons r l ih =>
  rw [rightsF] at h
  split at h
  ·rename_i h1
   intro x hx
   rcases List.mem_cons.1 hx with rfl | hx
   ·unfold rightF at h1
    split at h1
    ·cases h1
    ·split at h1
     ·unfold wndF at h1
      split at h1
      ·rename_i h2; exact h2.2.1
      ·cases h1
     ·rename_i h2; exact absurd h1 h2
   ·exact ih h x hx
  ·rename_i h1; exact absurd h h1
theorem uselL_len (rs : List Rt) : ∀ (l : List Rt) (k : Nat), (uselL rs l k).length ≤ l.length
 | [], _ => Nat.le_refl _
 | r :: l, k => by
  have := uselL_len rs l (k + 1)
  rw [uselL]
  split <;> simp only [List.length_cons] <;> omega
theorem g_Useless (rs : List Rt) (kk : Option Nat) (hl : rs.length ≤ 12) (hok : ∀ r ∈ rs, RtOk r) (hf : rightsF rs = 0) (h : Hp) :
  ACalls Tryz.prog 30 [.row 5 (rs.map encRt) kk] h (fun r h' => r = .tup [.row 1 ((uselL rs rs 0).map encI) none, .v (.int .i64 0)] ∧ h' = h) := by
 have hml : (rs.map encRt).length = rs.length := List.length_map _
 have hts := tags_rise hf
 have hC := g_checkRights rs kk (by omega) hok h
 rw [hf] at hC
 refine gE Tryz.func30 rfl (by kernel_rfl) 42 rfl fun c => ?_
 (repeat (first | refine gO rfl ?_ | (refine gM zM43 fun K1 hK1 => ?_; simp only [go_sem, ↓reduceIte, reduceCtorEq, nA, nB, nC, nD, nE, nF, hml] <;> and_intros <;> first | (apply hK1; clear hK1 K1) | (intros; first | omega | decide) | skip)))
 refine hC.mono ?_; rintro _ hz ⟨rfl, hh⟩; apply hK1; clear hK1 K1; rw [hh]; clear hh hz
 (repeat (first | refine gO rfl ?_ | (refine gM zM43 fun K1 hK1 => ?_; simp only [go_sem, ↓reduceIte, reduceCtorEq, nA, nB, nC, nD, nE, nF] <;> and_intros <;> first | (apply hK1; clear hK1 K1) | (intros; first | omega | decide) | skip)))
 refine awp_cond (t := _) rfl (fun h6 => by cases h6) (fun _ => ?_)
 (repeat (first | refine gQ rfl ?_ | (refine gM zM43 fun K1 hK1 => ?_; simp only [go_sem, ↓reduceIte, reduceCtorEq, nA, nB, nC, nD, nE, nF] <;> and_intros <;> first | (apply hK1; clear hK1 K1) | (intros; first | omega | decide | (simp_all <;> omega)) | skip)))
 refine awp_seq ?_
 refine awp_ownA 5 1 rfl ⟨rfl, rfl⟩ (fun k hk => ?_)
 replace hk : h.T k = none := hk
 (repeat (first | refine gO rfl ?_ | (refine gM zM43 fun K1 hK1 => ?_; simp only [go_sem, ↓reduceIte, reduceCtorEq, nA, nB, nC, nD, nE, nF, hml] <;> and_intros <;> first | (apply hK1; clear hK1 K1) | (intros; first | omega | decide) | skip)))
 refine awp_loopC (rl false [0, 1, 4, 1, 7, 3, 27]) 0 (fun g s => ∃ (j n : Nat) (ys : List Int), g + j = rs.length ∧ ys.length = n ∧ n ≤ j ∧ ys ++ uselL rs (rs.drop j) j = uselL rs rs 0 ∧
  s = ⟨((.row 5 (rs.map encRt) kk) :: (jnk 4 ((.arr 1 k n) :: (jnk 7 ((.row 5 (rs.map encRt) kk) :: (.v (.int .i64 rs.length)) :: (.v (.int .i64 j)) :: (jnk 27 [])))))), [], ⟨h.H, upd h.T k (some (.cont 1 (ys.map encI)))⟩⟩) rs.length ⟨0, 0, [], by omega, rfl, by omega, rfl, rfl⟩ ?_
 rintro g _ ⟨j, n, ys, hj, hn, hnj, hinv, rfl⟩
 have hTq : upd h.T k (some (TO.cont 1 (ys.map encI))) k = some (TO.cont 1 (ys.map encI)) := upd_same _ _ _
 have hyl : (ys.map encI).length = n := by rw [List.length_map, hn]
 (repeat (first | refine gO rfl ?_ | (refine gM zM43 fun K1 hK1 => ?_; simp only [go_sem, ↓reduceIte, reduceCtorEq, nA, nB, nC, nD, nE, nF] <;> and_intros <;> first | (apply hK1; clear hK1 K1) | (intros; first | omega | decide) | skip)))
 refine awp_cond (t := _) rfl (fun h5 => ?_) (fun h5 => ?_)
 ·simp only [decide_eq_true_eq] at h5
  have hjl : j < rs.length := by omega
  have hje : rs[j]? = some rs[j] := List.getElem?_eq_getElem hjl
  have gx : (rs.map encRt).getD j [] = encRt rs[j] := by rw [List.getD_eq_getElem?_getD, List.getElem?_map, hje]; rfl
  have hro := hok _ (List.getElem_mem hjl)
  have hto := hts _ (List.getElem_mem hjl)
  rw [List.drop_eq_getElem_cons hjl, uselL] at hinv
  generalize rs[j] = r at *
  have hB := g_uselB rs j r kk hje hl hok ⟨h.H, upd h.T k (some (.cont 1 (ys.map encI)))⟩
  have hR := g_uselR rs j r kk hje hl hok hto ⟨h.H, upd h.T k (some (.cont 1 (ys.map encI)))⟩
  obtain ⟨it, tg, fr, t2, bb⟩ := r
  rw [show encRt (it, tg, fr, t2, bb) = [.v (.string it), .row 1 (tg.map encS) none, .v (.int .i64 fr), .v (.int .i64 t2), .v (.bool bb)] from rfl] at gx
  unfold usel at hinv
  cases bb with
  | true =>
   rw [if_pos rfl] at hinv
   (repeat (first | refine gO rfl ?_ | (refine gM zM43 fun K1 hK1 => ?_; simp only [go_sem, ↓reduceIte, reduceCtorEq, nA, nB, nC, nD, nE, nF, hml, Int.toNat_natCast, gx, Bool.not_true, Bool.not_false] <;> and_intros <;> first | (apply hK1; clear hK1 K1) | (intros; first | omega | decide) | skip)))
   rotate_left
   ·exact fun h => h.elim
   refine hB.mono ?_
   rintro _ hz ⟨rfl, hh⟩; refine ⟨rfl, ?_⟩; apply hK1; clear hK1 K1; rw [hh]; clear hh hz
   cases hb : uselB rs (it, tg, fr, t2, true) j with
   | true =>
    rw [hb, if_pos rfl] at hinv
    (repeat (first | refine gO rfl ?_ | (refine gM zM43 fun K1 hK1 => ?_; simp only [go_sem, ↓reduceIte, reduceCtorEq, nA, nB, nC, nD, nE, nF, Bool.not_true, Bool.not_false] <;> and_intros <;> first | (apply hK1; clear hK1 K1) | (intros; first | omega | decide) | skip)))
    refine awp_cond (t := _) rfl (fun _ => ?_) (fun h6 => by cases h6)
    (repeat (first | refine gO rfl ?_ | (refine gM zM43 fun K1 hK1 => ?_; simp only [go_sem, ↓reduceIte, reduceCtorEq, nA, nB, nC, nD, nE, nF, hTq, hyl] <;> and_intros <;> first | (apply hK1; clear hK1 K1) | (intros; first | omega | decide) | skip)))
    refine ⟨g - 1, by omega, j + 1, n + 1, ys ++ [(j : Int)], by omega, by simp [hn], by omega, by rw [← hinv, List.append_assoc]; rfl, ?_⟩
    rw [List.map_append]
    (try simp only [upd_upd])
    rfl
   | false =>
    rw [hb, if_neg (by decide)] at hinv
    (repeat (first | refine gO rfl ?_ | (refine gM zM43 fun K1 hK1 => ?_; simp only [go_sem, ↓reduceIte, reduceCtorEq, nA, nB, nC, nD, nE, nF, Bool.not_true, Bool.not_false] <;> and_intros <;> first | (apply hK1; clear hK1 K1) | (intros; first | omega | decide) | skip)))
    refine awp_cond (t := _) rfl (fun h6 => by cases h6) (fun _ => ?_)
    (repeat (first | refine gO rfl ?_ | (refine gM zM43 fun K1 hK1 => ?_; simp only [go_sem, ↓reduceIte, reduceCtorEq, nA, nB, nC, nD, nE, nF] <;> and_intros <;> first | (apply hK1; clear hK1 K1) | (intros; first | omega | decide) | skip)))
    exact ⟨g - 1, by omega, j + 1, n, ys, by omega, hn, by omega, hinv, rfl⟩
  | false =>
   rw [if_neg (show ¬ (false = true) by decide)] at hinv
   (repeat (first | refine gO rfl ?_ | (refine gM zM43 fun K1 hK1 => ?_; simp only [go_sem, ↓reduceIte, reduceCtorEq, nA, nB, nC, nD, nE, nF, hml, Int.toNat_natCast, gx, Bool.not_true, Bool.not_false] <;> and_intros <;> first | (apply hK1; clear hK1 K1) | (intros; first | omega | decide) | skip)))
   rotate_left
   ·exact fun h => h.elim
   refine hR.mono ?_
   rintro _ hz ⟨rfl, hh⟩; refine ⟨rfl, ?_⟩; apply hK1; clear hK1 K1; rw [hh]; clear hh hz
   cases hb : uselR rs (it, tg, fr, t2, false) j with
   | true =>
    rw [hb, if_pos rfl] at hinv
    (repeat (first | refine gO rfl ?_ | (refine gM zM43 fun K1 hK1 => ?_; simp only [go_sem, ↓reduceIte, reduceCtorEq, nA, nB, nC, nD, nE, nF, Bool.not_true, Bool.not_false] <;> and_intros <;> first | (apply hK1; clear hK1 K1) | (intros; first | omega | decide) | skip)))
    refine awp_cond (t := _) rfl (fun _ => ?_) (fun h6 => by cases h6)
    (repeat (first | refine gO rfl ?_ | (refine gM zM43 fun K1 hK1 => ?_; simp only [go_sem, ↓reduceIte, reduceCtorEq, nA, nB, nC, nD, nE, nF, hTq, hyl] <;> and_intros <;> first | (apply hK1; clear hK1 K1) | (intros; first | omega | decide) | skip)))
    refine ⟨g - 1, by omega, j + 1, n + 1, ys ++ [(j : Int)], by omega, by simp [hn], by omega, by rw [← hinv, List.append_assoc]; rfl, ?_⟩
    rw [List.map_append]
    (try simp only [upd_upd])
    rfl
   | false =>
    rw [hb, if_neg (by decide)] at hinv
    (repeat (first | refine gO rfl ?_ | (refine gM zM43 fun K1 hK1 => ?_; simp only [go_sem, ↓reduceIte, reduceCtorEq, nA, nB, nC, nD, nE, nF, Bool.not_true, Bool.not_false] <;> and_intros <;> first | (apply hK1; clear hK1 K1) | (intros; first | omega | decide) | skip)))
    refine awp_cond (t := _) rfl (fun h6 => by cases h6) (fun _ => ?_)
    (repeat (first | refine gO rfl ?_ | (refine gM zM43 fun K1 hK1 => ?_; simp only [go_sem, ↓reduceIte, reduceCtorEq, nA, nB, nC, nD, nE, nF] <;> and_intros <;> first | (apply hK1; clear hK1 K1) | (intros; first | omega | decide) | skip)))
    exact ⟨g - 1, by omega, j + 1, n, ys, by omega, hn, by omega, hinv, rfl⟩
 ·simp only [decide_eq_false_iff_not] at h5
  have hjl : j = rs.length := by omega
  subst hjl
  rw [List.drop_length, uselL, List.append_nil] at hinv
  subst hn
  refine awp_frz 5 k 1 (xs := ys.map encI) (by rw [List.length_map]; rfl) (upd_same _ _ _) (fun y hy => by obtain ⟨z, _, rfl⟩ := List.mem_map.1 hy; rfl) ?_
  (repeat (first | refine gO rfl ?_ | (refine gM zM43 fun K1 hK1 => ?_; simp only [go_sem, ↓reduceIte, reduceCtorEq, nA, nB, nC, nD, nE, nF] <;> and_intros <;> first | (apply hK1; clear hK1 K1) | (intros; first | omega | decide) | skip)))
  simp only [Tryz.results30, go_sem, ↓reduceIte, reduceCtorEq, nA, nB, nC, nD, nE, nF]
  refine ⟨_, h, Weak.refl _, ⟨fun _ => .inr rfl, fun t => ?_⟩, by rw [← hinv], rfl⟩
  by_cases e : t = k
  ·subst e; exact .inl hk
  ·exact .inr (by show h.T t = upd h.T k none t; rw [upd_other _ _ e])
end Go.Proofs.YtmghfolmgmhabaaGreatDoor
