/- Tags among others: asset.within (by a binary search) and the reference's, in trees. -/
import Derived.Test.YtmghfolmgmhabaaGreatDoorM1
import Derived.Lib.SlicesCompact
import Derived.Test.YtmghfolmgmhabaaGreatDoorShelf
import Derived.Lib.OwnBridge
import Derived.Test.YtmghfolmgmhabaaGreatDoorAvApp2
import Derived.Test.YtmghfolmgmhabaaGreatDoorAvFz
import Derived.Test.YtmghfolmgmhabaaGreatDoorAvOld
import Derived.Test.YtmghfolmgmhabaaGreatDoorAvMap
namespace Go.Proofs.YtmghfolmgmhabaaGreatDoor
open Go
set_option linter.unusedVariables false
set_option linter.unusedSimpArgs false
open Nat renaming reduceAdd → nA, reduceSub → nB, reduceMul → nC, reduceLT → nD, reduceLeDiff → nE, reduceEqDiff → nF, reduceMod → nG, reduceDiv → nH, reducePow → nI
set_option maxRecDepth 100000
set_option maxHeartbeats 8000000
abbrev zM20 : Option Tmp → Nat := mdL [(11, 1)]
abbrev zM21 : Option Tmp → Nat := mdL [(5, 1)]
abbrev zM22 : Option Tmp → Nat := mdL []
abbrev zM23 : Option Tmp → Nat := mdL [(11, 1), (21, 1)]
abbrev zM24 : Option Tmp → Nat := mdL [(19, 1)]
abbrev zM25 : Option Tmp → Nat := mdL [(4, 1), (5, 1)]
abbrev zM26 : Option Tmp → Nat := mdL [(16, 3)]
abbrev zM27 : Option Tmp → Nat := mdL [(4, 3), (5, 1)]
attribute [go_sem] zM20 zM21 zM22 zM23 zM24 zM25 zM26 zM27
theorem g_nanS (s : ByteArray) (h : Hp) : ACalls Tryz.prog 185 [.v (.string s)] h (fun r h' => r = .v (.bool false) ∧ h' = h) := by
 refine gE Tryz.func185 rfl (by kernel_rfl) 5 rfl fun c => ?_
 (repeat (first | refine gO rfl ?_ | (refine gR fun K1 hK1 => ?_; simp only [go_sem, ↓reduceIte, reduceCtorEq, nA, nB, nC, nD, nE, nF] <;> and_intros <;> first | (apply hK1; clear hK1 K1) | (intros; first | omega | decide) | skip)))
 simp only [Tryz.results185, go_sem, ↓reduceIte, reduceCtorEq, nA, nB, nC, nD, nE, nF]
 have e : (s == s) = true := by rw [ba_beq]; simp
 have e2 : AV.v (.bool (!(s == s))) = AV.v (.bool false) := by rw [e]; rfl
 exact ⟨_, _, Weak.refl _, Hp.le.refl _, e2, rfl⟩
theorem g_nanC (s : ByteArray) (h : Hp) : ACalls Tryz.prog 222 [.v (.string s)] h (fun r h' => r = .v (.bool false) ∧ h' = h) := by
 refine gE Tryz.func222 rfl (by kernel_rfl) 5 rfl fun c => ?_
 (repeat (first | refine gO rfl ?_ | (refine gR fun K1 hK1 => ?_; simp only [go_sem, ↓reduceIte, reduceCtorEq, nA, nB, nC, nD, nE, nF] <;> and_intros <;> first | (apply hK1; clear hK1 K1) | (intros; first | omega | decide) | skip)))
 simp only [Tryz.results222, go_sem, ↓reduceIte, reduceCtorEq, nA, nB, nC, nD, nE, nF]
 have e : (s == s) = true := by rw [ba_beq]; simp
 have e2 : AV.v (.bool (!(s == s))) = AV.v (.bool false) := by rw [e]; rfl
 exact ⟨_, _, Weak.refl _, Hp.le.refl _, e2, rfl⟩
theorem g_lessS (a b : ByteArray) (h : Hp) : ACalls Tryz.prog 184 [.v (.string a), .v (.string b)] h (fun r h' => r = .v (.bool (ltB a b)) ∧ h' = h) := by
 refine gE Tryz.func184 rfl (by kernel_rfl) 15 rfl fun c => ?_
 (repeat (first | refine gO rfl ?_ | (refine gR fun K1 hK1 => ?_; simp only [go_sem, ↓reduceIte, reduceCtorEq, nA, nB, nC, nD, nE, nF] <;> and_intros <;> first | (apply hK1; clear hK1 K1) | (intros; first | omega | decide) | skip)))
 refine (g_nanC a h).mono ?_; rintro _ hz ⟨rfl, hh⟩; apply hK1; clear hK1 K1; rw [hh]; clear hh hz
 (repeat (first | refine gO rfl ?_ | (refine gR fun K1 hK1 => ?_; simp only [go_sem, ↓reduceIte, reduceCtorEq, nA, nB, nC, nD, nE, nF] <;> and_intros <;> first | (apply hK1; clear hK1 K1) | (intros; first | omega | decide) | skip)))
 simp only [Tryz.results184, go_sem, ↓reduceIte, reduceCtorEq, nA, nB, nC, nD, nE, nF]
 exact ⟨_, _, Weak.refl _, Hp.le.refl _, rfl, rfl⟩
def sAt (l : List ByteArray) (i : Nat) : ByteArray := l.getD i ⟨#[]⟩
theorem sAt_lt {l : List ByteArray} (hs : l.Pairwise fun a b => ltB a b = true) {i j : Nat} (hij : i < j) (hj : j < l.length) : ltB (sAt l i) (sAt l j) = true := by
 have h := List.pairwise_iff_getElem.1 hs i j (by omega) hj hij
 unfold sAt
 rw [List.getD_eq_getElem?_getD, List.getD_eq_getElem?_getD, List.getElem?_eq_getElem hj, List.getElem?_eq_getElem (show i < l.length by omega)]
 exact h
theorem sAt_mem {l : List ByteArray} {i : Nat} (h : i < l.length) : sAt l i ∈ l := by
 unfold sAt
 rw [List.getD_eq_getElem?_getD, List.getElem?_eq_getElem h]; exact List.getElem_mem h
theorem mem_sAt {l : List ByteArray} {x : ByteArray} (h : x ∈ l) : ∃ i, i < l.length ∧ sAt l i = x := by
 obtain ⟨i, hi, e⟩ := List.mem_iff_getElem.1 h
 refine ⟨i, hi, ?_⟩
 unfold sAt
 rw [List.getD_eq_getElem?_getD, List.getElem?_eq_getElem hi]; exact e
def memB (tags : List ByteArray) (t : ByteArray) : Bool := tags.any fun s => decide (s = t)
theorem memB_iff {l : List ByteArray} {x : ByteArray} : memB l x = true ↔ x ∈ l := by
 unfold memB
 simp
theorem g_bs (l : List ByteArray) (x : ByteArray) (kk : Option Nat) (h : Hp) (hl : l.length ≤ 1000) (hs : l.Pairwise fun a b => ltB a b = true) :
  ACalls Tryz.prog 150 [.row 1 (l.map encS) kk, .v (.string x)] h
   (fun r h' => (∃ i : Int, r = .tup [.v (.int .i64 i), .v (.bool (memB l x))]) ∧ h' = h) := by
 have hml : (l.map encS).length = l.length := List.length_map _
 have hw1 : ∀ a b : Nat, a + b ≤ 10000 → IntKind.u64.wrap ((a : Int) + (b : Int)) = (a : Int) + (b : Int) := fun a b h => by
  show ((a : Int) + (b : Int)) % (2 ^ 64) = _
  omega
 have hw2 : ∀ x : Int, x / 2 ^ min (Int.toNat 1) 64 = x / 2 := fun x => rfl
 refine gE Tryz.func150 rfl (by kernel_rfl) 52 rfl fun c => ?_
 (repeat (first | refine gO rfl ?_ | (refine gR fun K1 hK1 => ?_; simp only [go_sem, ↓reduceIte, reduceCtorEq, nA, nB, nC, nD, nE, nF, hml] <;> and_intros <;> first | (apply hK1; clear hK1 K1) | (intros; first | omega | decide | (simp_all <;> omega)) | skip)))
 refine awp_loopC (rl false [0, 2, 4, 3, 45]) 0 (fun g s => ∃ i j : Nat, g + i = j ∧ j ≤ l.length ∧ (∀ k, k < i → ltB (sAt l k) x = true) ∧ (∀ k, j ≤ k → k < l.length → ltB (sAt l k) x = false) ∧
  s = ⟨((.row 1 (l.map encS) kk) :: (.v (.string x)) :: (jnk 4 ((.v (.int .i64 l.length)) :: (.v (.int .i64 i)) :: (.v (.int .i64 j)) :: (jnk 45 [])))), [], h⟩) l.length ⟨0, l.length, by omega, Nat.le_refl _, fun k hk => by omega, fun k h1 h2 => by omega, rfl⟩ ?_
 rintro g _ ⟨i, j, hg, hj, hi1, hj1, rfl⟩
 (repeat (first | refine gO rfl ?_ | (refine gR fun K1 hK1 => ?_; simp only [go_sem, ↓reduceIte, reduceCtorEq, nA, nB, nC, nD, nE, nF] <;> and_intros <;> first | (apply hK1; clear hK1 K1) | (intros; first | omega | decide) | skip)))
 refine awp_cond (t := _) rfl (fun h1 => ?_) (fun h1 => ?_)
 ·simp only [decide_eq_true_eq] at h1
  have hij : i < j := by omega
  obtain ⟨m, hm⟩ : ∃ m : Nat, m = (i + j) / 2 := ⟨_, rfl⟩
  have hm3 : ((i : Int) + (j : Int)) / 2 = (m : Int) := by omega
  have hmj : m < j := by omega
  have him : i ≤ m := by omega
  have hw := hw1 i j (by omega)
  have gx : (l.map encS).getD m [] = [.v (.string (sAt l m))] := row_strD l m (by omega)
  have hc := g_lessS (sAt l m) x
  clear hm
  (repeat (first | refine gO rfl ?_ | (refine gR fun K1 hK1 => ?_; simp only [go_sem, ↓reduceIte, reduceCtorEq, nA, nB, nC, nD, nE, nF, hw, hw2, hm3, hml, Int.toNat_natCast, gx] <;> and_intros <;> first | (apply hK1; clear hK1 K1) | (intros; first | omega | decide) | skip)))
  refine hc h |>.mono ?_
  rintro _ hz ⟨rfl, hh⟩; apply hK1; clear hK1 K1; rw [hh]; clear hh hz
  (repeat (first | refine gO rfl ?_ | (refine gR fun K1 hK1 => ?_; simp only [go_sem, ↓reduceIte, reduceCtorEq, nA, nB, nC, nD, nE, nF] <;> and_intros <;> first | (apply hK1; clear hK1 K1) | (intros; first | omega | decide) | skip)))
  refine awp_cond (t := _) rfl (fun h2 => ?_) (fun h2 => ?_)
  ·(repeat (first | refine gO rfl ?_ | (refine gR fun K1 hK1 => ?_; simp only [go_sem, ↓reduceIte, reduceCtorEq, nA, nB, nC, nD, nE, nF] <;> and_intros <;> first | (apply hK1; clear hK1 K1) | (intros; first | omega | decide) | skip)))
   refine ⟨g - (m + 1 - i), by omega, m + 1, j, by omega, hj, fun k hk => ?_, hj1, rfl⟩
   by_cases hkm : k = m
   ·rw [hkm]; exact h2
   ·exact ltB_trans (sAt_lt hs (show k < m by omega) (by omega)) h2
  ·(repeat (first | refine gO rfl ?_ | (refine gR fun K1 hK1 => ?_; simp only [go_sem, ↓reduceIte, reduceCtorEq, nA, nB, nC, nD, nE, nF] <;> and_intros <;> first | (apply hK1; clear hK1 K1) | (intros; first | omega | decide) | skip)))
   refine ⟨g - (j - m), by omega, i, m, by omega, by omega, hi1, fun k hk1 hk2 => ?_, rfl⟩
   by_cases hkm : k = m
   ·rw [hkm]; exact h2
   ·cases h4 : ltB (sAt l k) x with
    | false => rfl
    | true => rw [ltB_trans (sAt_lt hs (show m < k by omega) hk2) h4] at h2; cases h2
 ·simp only [decide_eq_false_iff_not] at h1
  have hij : i = j := by omega
  subst hij
  by_cases h2 : i < l.length
  ·have h2d : ((i : Int) < (l.length : Int)) := by omega
   have gx : (l.map encS).getD i [] = [.v (.string (sAt l i))] := row_strD l i h2
   by_cases h3 : sAt l i = x
   ·have h3b : (sAt l i == x) = true := by rw [ba_beq, h3]; simp
    (repeat (first | refine gO rfl ?_ | (refine gR fun K1 hK1 => ?_; simp only [go_sem, ↓reduceIte, reduceCtorEq, nA, nB, nC, nD, nE, nF, hml, Int.toNat_natCast, gx, h2d, decide_true, h3b] <;> and_intros <;> first | (apply hK1; clear hK1 K1) | (intros; first | omega | decide) | skip)))
    simp only [Tryz.results150, go_sem, ↓reduceIte, reduceCtorEq, nA, nB, nC, nD, nE, nF]
    have hmb : memB l x = true := memB_iff.2 (by rw [← h3]; exact sAt_mem h2)
    exact ⟨_, _, Weak.refl _, Hp.le.refl _, ⟨i, by rw [hmb]⟩, rfl⟩
   ·have h3b : (sAt l i == x) = false := by rw [ba_beq]; exact decide_eq_false h3
    have hmb : memB l x = false := by
     cases hm : memB l x with
     | false => rfl
     | true =>
      exfalso
      obtain ⟨k, hk, e⟩ := mem_sAt (memB_iff.1 hm)
      rcases Nat.lt_trichotomy k i with h5 | h5 | h5
      ·have := hi1 k h5; rw [e, ltB_irr] at this; cases this
      ·subst h5; exact h3 e
      ·have h6 := sAt_lt hs h5 hk
       rw [e, hj1 i (Nat.le_refl _) h2] at h6; cases h6
    (repeat (first | refine gO rfl ?_ | (refine gR fun K1 hK1 => ?_; simp only [go_sem, ↓reduceIte, reduceCtorEq, nA, nB, nC, nD, nE, nF, hml, Int.toNat_natCast, gx, h2d, decide_true, h3b] <;> and_intros <;> first | (apply hK1; clear hK1 K1) | (intros; first | omega | decide) | skip)))
    rotate_left
    ·exact fun h => h.elim
    refine (g_nanS (sAt l i) h).mono ?_
    rintro _ hz ⟨rfl, hh⟩; refine ⟨rfl, ?_⟩; apply hK1; clear hK1 K1; rw [hh]; clear hh hz
    (repeat (first | refine gO rfl ?_ | (refine gR fun K1 hK1 => ?_; simp only [go_sem, ↓reduceIte, reduceCtorEq, nA, nB, nC, nD, nE, nF] <;> and_intros <;> first | (apply hK1; clear hK1 K1) | (intros; first | omega | decide) | skip)))
    simp only [Tryz.results150, go_sem, ↓reduceIte, reduceCtorEq, nA, nB, nC, nD, nE, nF]
    exact ⟨_, _, Weak.refl _, Hp.le.refl _, ⟨i, by rw [hmb]⟩, rfl⟩
  ·have h2d : ((i : Int) < (l.length : Int)) = False := eq_false (by omega)
   have hmb : memB l x = false := by
    cases hm : memB l x with
    | false => rfl
    | true =>
     exfalso
     obtain ⟨k, hk, e⟩ := mem_sAt (memB_iff.1 hm)
     have := hi1 k (by omega); rw [e, ltB_irr] at this; cases this
   have gx : (l.map encS).getD i [] = [] := by rw [List.getD_eq_getElem?_getD, List.getElem?_eq_none (by omega)]; rfl
   (repeat (first | refine gO rfl ?_ | (refine gR fun K1 hK1 => ?_; simp only [go_sem, ↓reduceIte, reduceCtorEq, nA, nB, nC, nD, nE, nF, h2d, decide_false, Int.toNat_natCast, gx, List.getD_nil] <;> and_intros <;> first | (apply hK1; clear hK1 K1) | (intros; first | omega | decide) | skip)))
   refine ⟨.v (.bool false), rfl, rfl, ?_⟩
   ((simp only [go_sem, ↓reduceIte, reduceCtorEq, nA, nB, nC, nD, nE, nF, h2d]; (try and_intros); all_goals first | (refine hK1 _ ?_; clear hK1 K1) | (intros; first | omega | decide | (simp_all <;> omega)) | skip))
   (repeat (first | refine gO rfl ?_ | (refine gR fun K1 hK1 => ?_; simp only [go_sem, ↓reduceIte, reduceCtorEq, nA, nB, nC, nD, nE, nF] <;> and_intros <;> first | (apply hK1; clear hK1 K1) | (intros; first | omega | decide) | skip)))
   simp only [Tryz.results150, go_sem, ↓reduceIte, reduceCtorEq, nA, nB, nC, nD, nE, nF]
   exact ⟨_, _, Weak.refl _, Hp.le.refl _, ⟨i, by rw [hmb]⟩, rfl⟩
theorem inTags_step (tags l : List ByteArray) (j : Nat) (hj : j < l.length) : inTags tags (l.drop j) = (memB tags l[j] && inTags tags (l.drop (j + 1))) := by
 rw [List.drop_eq_getElem_cons hj]; rfl
theorem g_within (l tags : List ByteArray) (kk kt : Option Nat) (h : Hp) (hl : l.length ≤ 1000) (ht : tags.length ≤ 1000) (hs : tags.Pairwise fun a b => ltB a b = true) :
  ACalls Tryz.prog 113 [.row 1 (l.map encS) kk, .row 1 (tags.map encS) kt] h (fun r h' => r = .v (.bool (inTags tags l)) ∧ h' = h) := by
 have hml : (l.map encS).length = l.length := List.length_map _
 refine gE Tryz.func113 rfl (by kernel_rfl) 22 rfl fun c => ?_
 (repeat (first | refine gO rfl ?_ | (refine gR fun K1 hK1 => ?_; simp only [go_sem, ↓reduceIte, reduceCtorEq, nA, nB, nC, nD, nE, nF, hml] <;> and_intros <;> first | (apply hK1; clear hK1 K1) | (intros; first | omega | decide) | skip)))
 refine awp_loopC (rl false [1, 1, 7, 3, 12]) 0 (fun g s => ∃ (j : Nat), g + j = l.length ∧ inTags tags (l.drop j) = inTags tags l ∧
  s = ⟨(AV.junk :: ((.row 1 (tags.map encS) kt) :: (jnk 7 ((.row 1 (l.map encS) kk) :: (.v (.int .i64 l.length)) :: (.v (.int .i64 j)) :: (jnk 12 []))))), [], h⟩) l.length ⟨0, by omega, rfl, rfl⟩ ?_
 rintro g _ ⟨j, hj, hinv, rfl⟩
 (repeat (first | refine gO rfl ?_ | (refine gR fun K1 hK1 => ?_; simp only [go_sem, ↓reduceIte, reduceCtorEq, nA, nB, nC, nD, nE, nF] <;> and_intros <;> first | (apply hK1; clear hK1 K1) | (intros; first | omega | decide) | skip)))
 refine awp_cond (t := _) rfl (fun h5 => ?_) (fun h5 => ?_)
 ·simp only [decide_eq_true_eq] at h5
  have hjl : j < l.length := by omega
  have gx := row_str l j hjl
  rw [inTags_step tags l j hjl] at hinv
  have hb := g_bs tags l[j] kt h ht hs
  generalize l[j] = x at *
  (repeat (first | refine gO rfl ?_ | (refine gR fun K1 hK1 => ?_; simp only [go_sem, ↓reduceIte, reduceCtorEq, nA, nB, nC, nD, nE, nF, hml, Int.toNat_natCast, gx] <;> and_intros <;> first | (apply hK1; clear hK1 K1) | (intros; first | omega | decide) | skip)))
  refine hb.mono ?_
  rintro _ _ ⟨⟨i, rfl⟩, rfl⟩; apply hK1; clear hK1 K1
  (repeat (first | refine gO rfl ?_ | (refine gR fun K1 hK1 => ?_; simp only [go_sem, ↓reduceIte, reduceCtorEq, nA, nB, nC, nD, nE, nF] <;> and_intros <;> first | (apply hK1; clear hK1 K1) | (intros; first | omega | decide) | skip)))
  cases hm : memB tags x with
  | false =>
   refine awp_cond (t := _) rfl (fun _ => ?_) (fun h6 => by simp [hm] at h6)
   (repeat (first | refine gO rfl ?_ | (refine gR fun K1 hK1 => ?_; simp only [go_sem, ↓reduceIte, reduceCtorEq, nA, nB, nC, nD, nE, nF] <;> and_intros <;> first | (apply hK1; clear hK1 K1) | (intros; first | omega | decide) | skip)))
   simp only [Tryz.results113, go_sem, ↓reduceIte, reduceCtorEq, nA, nB, nC, nD, nE, nF]
   rw [hm, Bool.false_and] at hinv
   exact ⟨_, _, Weak.refl _, Hp.le.refl _, by rw [← hinv], rfl⟩
  | true =>
   refine awp_cond (t := _) rfl (fun h6 => by simp [hm] at h6) (fun _ => ?_)
   (repeat (first | refine gO rfl ?_ | (refine gR fun K1 hK1 => ?_; simp only [go_sem, ↓reduceIte, reduceCtorEq, nA, nB, nC, nD, nE, nF] <;> and_intros <;> first | (apply hK1; clear hK1 K1) | (intros; first | omega | decide) | skip)))
   rw [hm, Bool.true_and] at hinv
   exact ⟨g - 1, by omega, j + 1, by omega, hinv, rfl⟩
 ·simp only [decide_eq_false_iff_not] at h5
  have hjl : j = l.length := by omega
  subst hjl
  rw [List.drop_length] at hinv
  (repeat (first | refine gO rfl ?_ | (refine gR fun K1 hK1 => ?_; simp only [go_sem, ↓reduceIte, reduceCtorEq, nA, nB, nC, nD, nE, nF] <;> and_intros <;> first | (apply hK1; clear hK1 K1) | (intros; first | omega | decide) | skip)))
  simp only [Tryz.results113, go_sem, ↓reduceIte, reduceCtorEq, nA, nB, nC, nD, nE, nF]
  exact ⟨_, _, Weak.refl _, Hp.le.refl _, by rw [← hinv]; rfl, rfl⟩
theorem g_idxStr (fid : Nat) (caps : List AV) (W : List ByteArray) (p : ByteArray → Bool) (kk : Option Nat) (hl : W.length ≤ 100000) (h : Hp) (step : ∀ l ∈ W, ACalls Tryz.prog fid (.v (.string l) :: caps) h (fun r h'' => r = .v (.bool (p l)) ∧ h'' = h)) :
  ACalls Tryz.prog 151 [.row 1 (W.map encS) kk, .fn fid caps] h (fun r h' => ∃ i : Int, r = .v (.int .i64 i) ∧ decide (0 ≤ i) = W.any p ∧ h' = h) := by
 have hll : (W.map encS).length = W.length := List.length_map _
 refine gE Tryz.func151 rfl (by kernel_rfl) 17 rfl fun c => ?_
 (repeat (first | refine gO rfl ?_ | (refine gR fun K1 hK1 => ?_; simp only [go_sem, ↓reduceIte, reduceCtorEq, nA, nB, nC, nD, nE, nF, hll] <;> and_intros <;> first | (apply hK1; clear hK1 K1) | (intros; first | omega | decide | (simp_all <;> omega)) | skip)))
 refine awp_loopC (rl false [0, 2, 5, 2, 10]) 0 (fun g s => ∃ (j : Nat), g + j = W.length ∧ (W.take j).any p = false ∧ s = ⟨((.row 1 (W.map encS) kk) :: (.fn fid caps) :: (jnk 5 ((.v (.int .i64 W.length)) :: (.v (.int .i64 j)) :: (jnk 10 [])))), [], h⟩) W.length ⟨0, by omega, rfl, rfl⟩ ?_
 rintro g _ ⟨j, hj, hno, rfl⟩
 (repeat (first | refine gO rfl ?_ | (refine gR fun K1 hK1 => ?_; simp only [go_sem, ↓reduceIte, reduceCtorEq, nA, nB, nC, nD, nE, nF] <;> and_intros <;> first | (apply hK1; clear hK1 K1) | (intros; first | omega | decide | (simp_all <;> omega)) | skip)))
 refine awp_cond (t := _) rfl (fun h5 => ?_) (fun h5 => ?_)
 ·simp only [decide_eq_true_eq] at h5
  have hjk : j < W.length := by omega
  have hg := row_str W j hjk
  have st := step W[j] (List.getElem_mem _)
  have hta : (W.take (j + 1)).any p = ((W.take j).any p || p W[j]) := by rw [List.take_succ_eq_append_getElem hjk, List.any_append]; simp
  (repeat (first | refine gO rfl ?_ | (refine gR fun K1 hK1 => ?_; simp only [go_sem, ↓reduceIte, reduceCtorEq, nA, nB, nC, nD, nE, nF, Int.toNat_natCast, hg, hll] <;> and_intros <;> first | (apply hK1; clear hK1 K1) | (intros; first | omega | decide | (simp_all <;> omega)) | skip)))
  refine st.mono ?_; rintro _ hz ⟨rfl, hh⟩; apply hK1; clear hK1 K1; rw [hh]; clear hh hz
  (repeat (first | refine gO rfl ?_ | (refine gR fun K1 hK1 => ?_; simp only [go_sem, ↓reduceIte, reduceCtorEq, nA, nB, nC, nD, nE, nF] <;> and_intros <;> first | (apply hK1; clear hK1 K1) | (intros; first | omega | decide) | skip)))
  refine awp_cond (t := _) rfl (fun h6 => ?_) (fun h6 => ?_)
  ·(repeat (first | refine gO rfl ?_ | (refine gR fun K1 hK1 => ?_; simp only [go_sem, ↓reduceIte, reduceCtorEq, nA, nB, nC, nD, nE, nF] <;> and_intros <;> first | (apply hK1; clear hK1 K1) | (intros; first | omega | decide) | skip)))
   simp only [Tryz.results151, go_sem, ↓reduceIte, reduceCtorEq, nA, nB, nC, nD, nE, nF]
   refine ⟨_, _, Weak.refl _, Hp.le.refl _, (j : Int), rfl, ?_, rfl⟩
   rw [h6, Bool.or_true] at hta
   have e : W.any p = ((W.take (j + 1)).any p || (W.drop (j + 1)).any p) := by rw [← List.any_append, List.take_append_drop]
   rw [e, hta, Bool.true_or]
   exact decide_eq_true (by omega)
  ·(repeat (first | refine gO rfl ?_ | (refine gR fun K1 hK1 => ?_; simp only [go_sem, ↓reduceIte, reduceCtorEq, nA, nB, nC, nD, nE, nF] <;> and_intros <;> first | (apply hK1; clear hK1 K1) | (intros; first | omega | decide | (simp_all <;> omega)) | skip)))
   exact ⟨g - 1, by omega, j + 1, by omega, by rw [hta, hno, h6]; rfl, rfl⟩
 ·simp only [decide_eq_false_iff_not] at h5
  have hjk : j = W.length := by omega
  subst hjk
  rw [List.take_length] at hno
  (repeat (first | refine gO rfl ?_ | (refine gR fun K1 hK1 => ?_; simp only [go_sem, ↓reduceIte, reduceCtorEq, nA, nB, nC, nD, nE, nF] <;> and_intros <;> first | (apply hK1; clear hK1 K1) | (intros; first | omega | decide | (simp_all <;> omega)) | skip)))
  simp only [Tryz.results151, go_sem, ↓reduceIte, reduceCtorEq, nA, nB, nC, nD, nE, nF]
  exact ⟨_, _, Weak.refl _, Hp.le.refl _, -1, rfl, by rw [hno]; rfl, rfl⟩
theorem g_anyStr (fid : Nat) (caps : List AV) (W : List ByteArray) (p : ByteArray → Bool) (kk : Option Nat) (hl : W.length ≤ 100000) (h : Hp) (step : ∀ l ∈ W, ACalls Tryz.prog fid (.v (.string l) :: caps) h (fun r h'' => r = .v (.bool (p l)) ∧ h'' = h)) :
  ACalls Tryz.prog 114 [.row 1 (W.map encS) kk, .fn fid caps] h (fun r h' => r = .v (.bool (W.any p)) ∧ h' = h) := by
 refine gE Tryz.func114 rfl (by kernel_rfl) 7 rfl fun c => ?_
 (repeat (first | refine gO rfl ?_ | (refine gR fun K1 hK1 => ?_; simp only [go_sem, ↓reduceIte, reduceCtorEq, nA, nB, nC, nD, nE, nF] <;> and_intros <;> first | (apply hK1; clear hK1 K1) | (intros; first | omega | decide | (simp_all <;> omega)) | skip)))
 refine (g_idxStr fid caps W p kk hl h step).mono ?_
 rintro _ h2 ⟨i, rfl, hi, hg2⟩; apply hK1; clear hK1 K1
 (repeat (first | refine gO rfl ?_ | (refine gR fun K1 hK1 => ?_; simp only [go_sem, ↓reduceIte, reduceCtorEq, nA, nB, nC, nD, nE, nF, hi] <;> and_intros <;> first | (apply hK1; clear hK1 K1) | (intros; first | omega | decide) | skip)))
 simp only [Tryz.results114, go_sem, ↓reduceIte, reduceCtorEq, nA, nB, nC, nD, nE, nF]
 exact ⟨_, _, Weak.refl _, Hp.le.refl _, by simp [hi], hg2⟩
theorem g_with1 (tags : List ByteArray) (x : ByteArray) (kt : Option Nat) (ht : tags.length ≤ 1000) (h : Hp) :
  ACalls Tryz.prog 115 [.v (.string x), .ref [.row 1 (tags.map encS) kt] 0] h (fun r h' => r = .v (.bool (!memB tags x)) ∧ h' = h) := by
 refine gE Tryz.func115 rfl (by kernel_rfl) 6 rfl fun c => ?_
 (repeat (first | refine gO rfl ?_ | (refine gR fun K1 hK1 => ?_; simp only [go_sem, ↓reduceIte, reduceCtorEq, nA, nB, nC, nD, nE, nF] <;> and_intros <;> first | (apply hK1; clear hK1 K1) | (intros; first | omega | decide) | skip)))
 refine (g_hasS tags x kt h (by omega)).mono ?_; rintro _ hz ⟨rfl, hh⟩; apply hK1; clear hK1 K1; rw [hh]; clear hh hz
 (repeat (first | refine gO rfl ?_ | (refine gR fun K1 hK1 => ?_; simp only [go_sem, ↓reduceIte, reduceCtorEq, nA, nB, nC, nD, nE, nF] <;> and_intros <;> first | (apply hK1; clear hK1 K1) | (intros; first | omega | decide) | skip)))
 simp only [Tryz.results115, go_sem, ↓reduceIte, reduceCtorEq, nA, nB, nC, nD, nE, nF]
 have e : (tags.any fun y => x == y) = memB tags x := by
  unfold memB
  refine congrArg (fun f => tags.any f) (funext fun y => ?_)
  rw [ba_beq]; exact decide_eq_decide.2 ⟨Eq.symm, Eq.symm⟩
 exact ⟨_, _, Weak.refl _, Hp.le.refl _, by rw [e], rfl⟩
theorem g_withinR (l tags : List ByteArray) (kk kt : Option Nat) (h : Hp) (hl : l.length ≤ 1000) (ht : tags.length ≤ 1000) :
  ACalls Tryz.prog 76 [.row 1 (l.map encS) kk, .row 1 (tags.map encS) kt] h (fun r h' => r = .v (.bool (inTags tags l)) ∧ h' = h) := by
 refine gE Tryz.func76 rfl (by kernel_rfl) 7 rfl fun c => ?_
 (repeat (first | refine gO rfl ?_ | (refine gR fun K1 hK1 => ?_; simp only [go_sem, ↓reduceIte, reduceCtorEq, nA, nB, nC, nD, nE, nF] <;> and_intros <;> first | (apply hK1; clear hK1 K1) | (intros; first | omega | decide) | skip)))
 refine (g_anyStr _ [.ref [.row 1 (tags.map encS) kt] 0] l (fun x => !memB tags x) kk (by omega) h (fun x _ => g_with1 tags x kt ht h)).mono ?_; rintro _ hz ⟨rfl, hh⟩; apply hK1; clear hK1 K1; rw [hh]; clear hh hz
 (repeat (first | refine gO rfl ?_ | (refine gR fun K1 hK1 => ?_; simp only [go_sem, ↓reduceIte, reduceCtorEq, nA, nB, nC, nD, nE, nF] <;> and_intros <;> first | (apply hK1; clear hK1 K1) | (intros; first | omega | decide) | skip)))
 simp only [Tryz.results76, go_sem, ↓reduceIte, reduceCtorEq, nA, nB, nC, nD, nE, nF]
 have e : (!(l.any fun x => !memB tags x)) = inTags tags l := by
  unfold inTags
  rw [List.any_eq_not_all_not]
  simp only [Bool.not_not]
  rfl
 exact ⟨_, _, Weak.refl _, Hp.le.refl _, by rw [e], rfl⟩
theorem g_hasW (a b x : Int) (h : Hp) : ACalls Tryz.prog 75 [.agg [.v (.int .i64 a), .v (.int .i64 b)], .v (.int .i64 x)] h (fun r h' => r = .v (.bool (decide (a ≤ x) && decide (x < b))) ∧ h' = h) := by
 obtain ⟨x1, e1⟩ : ∃ c, decide (a ≤ x) = c := ⟨_, rfl⟩
 obtain ⟨x2, e2⟩ : ∃ c, decide (x < b) = c := ⟨_, rfl⟩
 rw [e1, e2]
 refine gE Tryz.func75 rfl (by kernel_rfl) 13 rfl fun c => ?_
 cases x1 <;> cases x2
 all_goals
  (repeat (first | refine gO rfl ?_ | (refine gR fun K1 hK1 => ?_; simp only [go_sem, ↓reduceIte, reduceCtorEq, nA, nB, nC, nD, nE, nF, e1, e2] <;> and_intros <;> first | (apply hK1; clear hK1 K1) | (intros; first | omega | decide) | skip)))
  simp only [Tryz.results75, go_sem, ↓reduceIte, reduceCtorEq, nA, nB, nC, nD, nE, nF]
  exact ⟨_, _, Weak.refl _, Hp.le.refl _, rfl, rfl⟩
theorem mayL_step (tags : List ByteArray) (item : ByteArray) (x : Int) (rs : List Rt) (o : Bool) (j : Nat) (hj : j < rs.length) : mayL tags item x (rs.drop j) o = if hitR tags item x rs[j] = true then (if rs[j].2.2.2.2 = true then false else mayL tags item x (rs.drop (j + 1)) true) else mayL tags item x (rs.drop (j + 1)) o := by
 rw [List.drop_eq_getElem_cons hj, mayL]
theorem g_may (rs : List Rt) (p : Gu) (item : ByteArray) (x : Int) (kk : Option Nat) (hl : rs.length ≤ 500) (hok : ∀ r ∈ rs, RtOk r) (hp : GuOk p) (hs : p.tags.Pairwise fun a b => ltB a b = true) (h : Hp) :
  ACalls Tryz.prog 71 [.row 5 (rs.map encRt) kk, .agg (encGu p), .v (.string item), .v (.int .i64 x)] h (fun r h' => r = .v (.bool (mayL p.tags item x rs false)) ∧ h' = h) := by
 obtain ⟨key, scr, zone, tags⟩ := p
 obtain ⟨_, _, _, ⟨h4, _⟩⟩ := hp
 simp only at h4 hs
 unfold encGu encGr
 simp only
 have hml : (rs.map encRt).length = rs.length := List.length_map _
 refine gE Tryz.func71 rfl (by kernel_rfl) 43 rfl fun c => ?_
 (repeat (first | refine gO rfl ?_ | (refine gM zM20 fun K1 hK1 => ?_; simp only [go_sem, ↓reduceIte, reduceCtorEq, nA, nB, nC, nD, nE, nF, hml] <;> and_intros <;> first | (apply hK1; clear hK1 K1) | (intros; first | omega | decide) | skip)))
 refine awp_loopC (rl false [2, 2, 1, 1, 3, 1, 2, 3, 32]) 0 (fun g s => ∃ (j : Nat) (o : Bool), g + j = rs.length ∧ mayL tags item x (rs.drop j) o = mayL tags item x rs false ∧
  s = ⟨(AV.junk :: AV.junk :: ((.v (.string item)) :: (.v (.int .i64 x)) :: AV.junk :: ((.ref [.v (.string key), .v (.string scr), .v (.int .i64 zone), .row 1 (tags.map encS) none] 0) :: (jnk 3 ((.v (.bool o)) :: AV.junk :: AV.junk :: ((.row 5 (rs.map encRt) kk) :: (.v (.int .i64 rs.length)) :: (.v (.int .i64 j)) :: (jnk 32 []))))))), [], h⟩) rs.length ⟨0, false, by omega, rfl, rfl⟩ ?_
 rintro g _ ⟨j, o, hj, hinv, rfl⟩
 (repeat (first | refine gO rfl ?_ | (refine gM zM20 fun K1 hK1 => ?_; simp only [go_sem, ↓reduceIte, reduceCtorEq, nA, nB, nC, nD, nE, nF] <;> and_intros <;> first | (apply hK1; clear hK1 K1) | (intros; first | omega | decide) | skip)))
 refine awp_cond (t := _) rfl (fun h5 => ?_) (fun h5 => ?_)
 ·simp only [decide_eq_true_eq] at h5
  have hjl : j < rs.length := by omega
  have gx : (rs.map encRt).getD j [] = encRt rs[j] := by rw [List.getD_eq_getElem?_getD, List.getElem?_map, List.getElem?_eq_getElem hjl]; rfl
  have hro := hok _ (List.getElem_mem hjl)
  rw [mayL_step tags item x rs o j hjl] at hinv
  generalize rs[j] = r at *
  obtain ⟨it, tg, fr, t2, bb⟩ := r
  rw [show encRt (it, tg, fr, t2, bb) = [.v (.string it), .row 1 (tg.map encS) none, .v (.int .i64 fr), .v (.int .i64 t2), .v (.bool bb)] from rfl] at gx
  obtain ⟨hs1, ⟨hs2, hs3⟩, hs4, hs5⟩ := hro
  simp only at hs1 hs2 hs3 hs4 hs5
  obtain ⟨x1, e1⟩ : ∃ c, (it == item) = c := ⟨_, rfl⟩
  obtain ⟨x2, e2⟩ : ∃ c, decide (fr ≤ x) = c := ⟨_, rfl⟩
  obtain ⟨x3, e3⟩ : ∃ c, decide (x < t2) = c := ⟨_, rfl⟩
  have hit : hitR tags item x (it, tg, fr, t2, bb) = (x1 && (x2 && x3) && inTags tags tg) := by
   unfold hitR hasR
   rw [← ba_beq]
   simp only [e1, e2, e3]
  rw [hit] at hinv
  have hW := g_within tg tags none none h (by omega) (by omega) hs
  cases x1 with
  | false =>
   (repeat (first | refine gO rfl ?_ | (refine gM zM20 fun K1 hK1 => ?_; simp only [go_sem, ↓reduceIte, reduceCtorEq, nA, nB, nC, nD, nE, nF, hml, Int.toNat_natCast, gx, e1, e2, e3] <;> and_intros <;> first | (apply hK1; clear hK1 K1) | (intros; first | omega | decide) | skip)))
   refine awp_cond (t := _) rfl (fun h6 => by cases h6) (fun _ => ?_)
   (repeat (first | refine gO rfl ?_ | (refine gM zM20 fun K1 hK1 => ?_; simp only [go_sem, ↓reduceIte, reduceCtorEq, nA, nB, nC, nD, nE, nF] <;> and_intros <;> first | (apply hK1; clear hK1 K1) | (intros; first | omega | decide) | skip)))
   exact ⟨g - 1, by omega, j + 1, o, by omega, hinv, rfl⟩
  | true =>
   cases x2 with
   | false =>
    (repeat (first | refine gO rfl ?_ | (refine gM zM20 fun K1 hK1 => ?_; simp only [go_sem, ↓reduceIte, reduceCtorEq, nA, nB, nC, nD, nE, nF, hml, Int.toNat_natCast, gx, e1, e2, e3] <;> and_intros <;> first | (apply hK1; clear hK1 K1) | (intros; first | omega | decide) | skip)))
    refine awp_cond (t := _) rfl (fun h6 => by cases h6) (fun _ => ?_)
    (repeat (first | refine gO rfl ?_ | (refine gM zM20 fun K1 hK1 => ?_; simp only [go_sem, ↓reduceIte, reduceCtorEq, nA, nB, nC, nD, nE, nF] <;> and_intros <;> first | (apply hK1; clear hK1 K1) | (intros; first | omega | decide) | skip)))
    exact ⟨g - 1, by omega, j + 1, o, by omega, hinv, rfl⟩
   | true =>
    cases x3 with
    | false =>
     (repeat (first | refine gO rfl ?_ | (refine gM zM20 fun K1 hK1 => ?_; simp only [go_sem, ↓reduceIte, reduceCtorEq, nA, nB, nC, nD, nE, nF, hml, Int.toNat_natCast, gx, e1, e2, e3] <;> and_intros <;> first | (apply hK1; clear hK1 K1) | (intros; first | omega | decide) | skip)))
     refine awp_cond (t := _) rfl (fun h6 => by cases h6) (fun _ => ?_)
     (repeat (first | refine gO rfl ?_ | (refine gM zM20 fun K1 hK1 => ?_; simp only [go_sem, ↓reduceIte, reduceCtorEq, nA, nB, nC, nD, nE, nF] <;> and_intros <;> first | (apply hK1; clear hK1 K1) | (intros; first | omega | decide) | skip)))
     exact ⟨g - 1, by omega, j + 1, o, by omega, hinv, rfl⟩
    | true =>
     (repeat (first | refine gO rfl ?_ | (refine gM zM20 fun K1 hK1 => ?_; simp only [go_sem, ↓reduceIte, reduceCtorEq, nA, nB, nC, nD, nE, nF, hml, Int.toNat_natCast, gx, e1, e2, e3] <;> and_intros <;> first | (apply hK1; clear hK1 K1) | (intros; first | omega | decide) | skip)))
     rotate_left
     ·exact fun h => h.elim
     refine hW.mono ?_
     rintro _ hz ⟨rfl, hh⟩; refine ⟨rfl, ?_⟩; apply hK1; clear hK1 K1; rw [hh]; clear hh hz
     (repeat (first | refine gO rfl ?_ | (refine gM zM20 fun K1 hK1 => ?_; simp only [go_sem, ↓reduceIte, reduceCtorEq, nA, nB, nC, nD, nE, nF, hml] <;> and_intros <;> first | (apply hK1; clear hK1 K1) | (intros; first | omega | decide) | skip)))
     simp only [Bool.true_and] at hinv
     cases hb : inTags tags tg with
     | false =>
      rw [hb] at hinv
      refine awp_cond (t := _) rfl (fun h6 => by cases h6) (fun _ => ?_)
      (repeat (first | refine gO rfl ?_ | (refine gM zM20 fun K1 hK1 => ?_; simp only [go_sem, ↓reduceIte, reduceCtorEq, nA, nB, nC, nD, nE, nF] <;> and_intros <;> first | (apply hK1; clear hK1 K1) | (intros; first | omega | decide) | skip)))
      exact ⟨g - 1, by omega, j + 1, o, by omega, hinv, rfl⟩
     | true =>
      rw [hb, if_pos rfl] at hinv
      refine awp_cond (t := _) rfl (fun _ => ?_) (fun h6 => by cases h6)
      (repeat (first | refine gO rfl ?_ | (refine gM zM20 fun K1 hK1 => ?_; simp only [go_sem, ↓reduceIte, reduceCtorEq, nA, nB, nC, nD, nE, nF] <;> and_intros <;> first | (apply hK1; clear hK1 K1) | (intros; first | omega | decide) | skip)))
      cases bb with
      | true =>
       refine awp_cond (t := _) rfl (fun _ => ?_) (fun h6 => by cases h6)
       (repeat (first | refine gO rfl ?_ | (refine gM zM20 fun K1 hK1 => ?_; simp only [go_sem, ↓reduceIte, reduceCtorEq, nA, nB, nC, nD, nE, nF] <;> and_intros <;> first | (apply hK1; clear hK1 K1) | (intros; first | omega | decide) | skip)))
       simp only [Tryz.results71, go_sem, ↓reduceIte, reduceCtorEq, nA, nB, nC, nD, nE, nF]
       exact ⟨_, _, Weak.refl _, Hp.le.refl _, by rw [← hinv]; rfl, rfl⟩
      | false =>
       refine awp_cond (t := _) rfl (fun h6 => by cases h6) (fun _ => ?_)
       (repeat (first | refine gO rfl ?_ | (refine gM zM20 fun K1 hK1 => ?_; simp only [go_sem, ↓reduceIte, reduceCtorEq, nA, nB, nC, nD, nE, nF] <;> and_intros <;> first | (apply hK1; clear hK1 K1) | (intros; first | omega | decide) | skip)))
       exact ⟨g - 1, by omega, j + 1, true, by omega, hinv, rfl⟩
 ·skip
  simp only [decide_eq_false_iff_not] at h5
  have hjl : j = rs.length := by omega
  subst hjl
  rw [List.drop_length, mayL] at hinv
  (repeat (first | refine gO rfl ?_ | (refine gM zM20 fun K1 hK1 => ?_; simp only [go_sem, ↓reduceIte, reduceCtorEq, nA, nB, nC, nD, nE, nF] <;> and_intros <;> first | (apply hK1; clear hK1 K1) | (intros; first | omega | decide) | skip)))
  simp only [Tryz.results71, go_sem, ↓reduceIte, reduceCtorEq, nA, nB, nC, nD, nE, nF]
  exact ⟨_, _, Weak.refl _, Hp.le.refl _, by rw [← hinv], rfl⟩
theorem g_mayR (rs : List Rt) (p : Gu) (item : ByteArray) (x : Int) (kk : Option Nat) (hl : rs.length ≤ 500) (hok : ∀ r ∈ rs, RtOk r) (hp : GuOk p) (h : Hp) :
  ACalls Tryz.prog 22 [.row 5 (rs.map encRt) kk, .agg (encGu p), .v (.string item), .v (.int .i64 x)] h (fun r h' => r = .v (.bool (mayL p.tags item x rs false)) ∧ h' = h) := by
 obtain ⟨key, scr, zone, tags⟩ := p
 obtain ⟨_, _, _, ⟨h4, _⟩⟩ := hp
 simp only at h4
 unfold encGu encGr
 simp only
 have hml : (rs.map encRt).length = rs.length := List.length_map _
 refine gE Tryz.func22 rfl (by kernel_rfl) 35 rfl fun c => ?_
 (repeat (first | refine gO rfl ?_ | (refine gM zM20 fun K1 hK1 => ?_; simp only [go_sem, ↓reduceIte, reduceCtorEq, nA, nB, nC, nD, nE, nF, hml] <;> and_intros <;> first | (apply hK1; clear hK1 K1) | (intros; first | omega | decide) | skip)))
 refine awp_loopC (rl false [2, 2, 1, 1, 3, 1, 2, 3, 24]) 0 (fun g s => ∃ (j : Nat) (o : Bool), g + j = rs.length ∧ mayL tags item x (rs.drop j) o = mayL tags item x rs false ∧
  s = ⟨(AV.junk :: AV.junk :: ((.v (.string item)) :: (.v (.int .i64 x)) :: AV.junk :: ((.ref [.v (.string key), .v (.string scr), .v (.int .i64 zone), .row 1 (tags.map encS) none] 0) :: (jnk 3 ((.v (.bool o)) :: AV.junk :: AV.junk :: ((.row 5 (rs.map encRt) kk) :: (.v (.int .i64 rs.length)) :: (.v (.int .i64 j)) :: (jnk 24 []))))))), [], h⟩) rs.length ⟨0, false, by omega, rfl, rfl⟩ ?_
 rintro g _ ⟨j, o, hj, hinv, rfl⟩
 (repeat (first | refine gO rfl ?_ | (refine gM zM20 fun K1 hK1 => ?_; simp only [go_sem, ↓reduceIte, reduceCtorEq, nA, nB, nC, nD, nE, nF] <;> and_intros <;> first | (apply hK1; clear hK1 K1) | (intros; first | omega | decide) | skip)))
 refine awp_cond (t := _) rfl (fun h5 => ?_) (fun h5 => ?_)
 ·simp only [decide_eq_true_eq] at h5
  have hjl : j < rs.length := by omega
  have gx : (rs.map encRt).getD j [] = encRt rs[j] := by rw [List.getD_eq_getElem?_getD, List.getElem?_map, List.getElem?_eq_getElem hjl]; rfl
  have hro := hok _ (List.getElem_mem hjl)
  rw [mayL_step tags item x rs o j hjl] at hinv
  generalize rs[j] = r at *
  obtain ⟨it, tg, fr, t2, bb⟩ := r
  rw [show encRt (it, tg, fr, t2, bb) = [.v (.string it), .row 1 (tg.map encS) none, .v (.int .i64 fr), .v (.int .i64 t2), .v (.bool bb)] from rfl] at gx
  obtain ⟨hs1, ⟨hs2, hs3⟩, hs4, hs5⟩ := hro
  simp only at hs1 hs2 hs3 hs4 hs5
  obtain ⟨x1, e1⟩ : ∃ c, (it == item) = c := ⟨_, rfl⟩
  obtain ⟨x2, e2⟩ : ∃ c, decide (fr ≤ x) = c := ⟨_, rfl⟩
  obtain ⟨x3, e3⟩ : ∃ c, decide (x < t2) = c := ⟨_, rfl⟩
  have hit : hitR tags item x (it, tg, fr, t2, bb) = (x1 && (x2 && x3) && inTags tags tg) := by
   unfold hitR hasR
   rw [← ba_beq]
   simp only [e1, e2, e3]
  rw [hit] at hinv
  have hW := g_withinR tg tags none none h (by omega) (by omega)
  have hH := g_hasW fr t2 x h
  rw [e2, e3] at hH
  cases x1 with
  | false =>
   (repeat (first | refine gO rfl ?_ | (refine gM zM20 fun K1 hK1 => ?_; simp only [go_sem, ↓reduceIte, reduceCtorEq, nA, nB, nC, nD, nE, nF, hml, Int.toNat_natCast, gx, e1] <;> and_intros <;> first | (apply hK1; clear hK1 K1) | (intros; first | omega | decide) | skip)))
   refine awp_cond (t := _) rfl (fun h6 => by cases h6) (fun _ => ?_)
   (repeat (first | refine gO rfl ?_ | (refine gM zM20 fun K1 hK1 => ?_; simp only [go_sem, ↓reduceIte, reduceCtorEq, nA, nB, nC, nD, nE, nF] <;> and_intros <;> first | (apply hK1; clear hK1 K1) | (intros; first | omega | decide) | skip)))
   exact ⟨g - 1, by omega, j + 1, o, by omega, hinv, rfl⟩
  | true =>
   (repeat (first | refine gO rfl ?_ | (refine gM zM20 fun K1 hK1 => ?_; simp only [go_sem, ↓reduceIte, reduceCtorEq, nA, nB, nC, nD, nE, nF, hml, Int.toNat_natCast, gx, e1] <;> and_intros <;> first | (apply hK1; clear hK1 K1) | (intros; first | omega | decide) | skip)))
   rotate_left
   ·exact fun h => h.elim
   refine hH.mono ?_
   rintro _ hz ⟨rfl, hh⟩; refine ⟨rfl, ?_⟩; apply hK1; clear hK1 K1; rw [hh]; clear hh hz
   cases hc : (x2 && x3) with
   | false =>
    rw [hc] at hinv
    (repeat (first | refine gO rfl ?_ | (refine gM zM20 fun K1 hK1 => ?_; simp only [go_sem, ↓reduceIte, reduceCtorEq, nA, nB, nC, nD, nE, nF, hml] <;> and_intros <;> first | (apply hK1; clear hK1 K1) | (intros; first | omega | decide) | skip)))
    refine awp_cond (t := _) rfl (fun h6 => by cases h6) (fun _ => ?_)
    (repeat (first | refine gO rfl ?_ | (refine gM zM20 fun K1 hK1 => ?_; simp only [go_sem, ↓reduceIte, reduceCtorEq, nA, nB, nC, nD, nE, nF] <;> and_intros <;> first | (apply hK1; clear hK1 K1) | (intros; first | omega | decide) | skip)))
    exact ⟨g - 1, by omega, j + 1, o, by omega, hinv, rfl⟩
   | true =>
    rw [hc] at hinv
    (repeat (first | refine gO rfl ?_ | (refine gM zM20 fun K1 hK1 => ?_; simp only [go_sem, ↓reduceIte, reduceCtorEq, nA, nB, nC, nD, nE, nF, hml] <;> and_intros <;> first | (apply hK1; clear hK1 K1) | (intros; first | omega | decide) | skip)))
    rotate_left
    ·exact fun h => h.elim
    refine hW.mono ?_
    rintro _ hz ⟨rfl, hh⟩; refine ⟨rfl, ?_⟩; apply hK1; clear hK1 K1; rw [hh]; clear hh hz
    (repeat (first | refine gO rfl ?_ | (refine gM zM20 fun K1 hK1 => ?_; simp only [go_sem, ↓reduceIte, reduceCtorEq, nA, nB, nC, nD, nE, nF, hml] <;> and_intros <;> first | (apply hK1; clear hK1 K1) | (intros; first | omega | decide) | skip)))
    simp only [Bool.true_and] at hinv
    cases hb : inTags tags tg with
    | false =>
     rw [hb] at hinv
     refine awp_cond (t := _) rfl (fun h6 => by cases h6) (fun _ => ?_)
     (repeat (first | refine gO rfl ?_ | (refine gM zM20 fun K1 hK1 => ?_; simp only [go_sem, ↓reduceIte, reduceCtorEq, nA, nB, nC, nD, nE, nF] <;> and_intros <;> first | (apply hK1; clear hK1 K1) | (intros; first | omega | decide) | skip)))
     exact ⟨g - 1, by omega, j + 1, o, by omega, hinv, rfl⟩
    | true =>
     rw [hb, if_pos rfl] at hinv
     refine awp_cond (t := _) rfl (fun _ => ?_) (fun h6 => by cases h6)
     (repeat (first | refine gO rfl ?_ | (refine gM zM20 fun K1 hK1 => ?_; simp only [go_sem, ↓reduceIte, reduceCtorEq, nA, nB, nC, nD, nE, nF] <;> and_intros <;> first | (apply hK1; clear hK1 K1) | (intros; first | omega | decide) | skip)))
     cases bb with
     | true =>
      refine awp_cond (t := _) rfl (fun _ => ?_) (fun h6 => by cases h6)
      (repeat (first | refine gO rfl ?_ | (refine gM zM20 fun K1 hK1 => ?_; simp only [go_sem, ↓reduceIte, reduceCtorEq, nA, nB, nC, nD, nE, nF] <;> and_intros <;> first | (apply hK1; clear hK1 K1) | (intros; first | omega | decide) | skip)))
      simp only [Tryz.results22, go_sem, ↓reduceIte, reduceCtorEq, nA, nB, nC, nD, nE, nF]
      exact ⟨_, _, Weak.refl _, Hp.le.refl _, by rw [← hinv]; rfl, rfl⟩
     | false =>
      refine awp_cond (t := _) rfl (fun h6 => by cases h6) (fun _ => ?_)
      (repeat (first | refine gO rfl ?_ | (refine gM zM20 fun K1 hK1 => ?_; simp only [go_sem, ↓reduceIte, reduceCtorEq, nA, nB, nC, nD, nE, nF] <;> and_intros <;> first | (apply hK1; clear hK1 K1) | (intros; first | omega | decide) | skip)))
      exact ⟨g - 1, by omega, j + 1, true, by omega, hinv, rfl⟩
 ·skip
  simp only [decide_eq_false_iff_not] at h5
  have hjl : j = rs.length := by omega
  subst hjl
  rw [List.drop_length, mayL] at hinv
  (repeat (first | refine gO rfl ?_ | (refine gM zM20 fun K1 hK1 => ?_; simp only [go_sem, ↓reduceIte, reduceCtorEq, nA, nB, nC, nD, nE, nF] <;> and_intros <;> first | (apply hK1; clear hK1 K1) | (intros; first | omega | decide) | skip)))
  simp only [Tryz.results22, go_sem, ↓reduceIte, reduceCtorEq, nA, nB, nC, nD, nE, nF]
  exact ⟨_, _, Weak.refl _, Hp.le.refl _, by rw [← hinv], rfl⟩
theorem guF_tags {p : Gu} (h : guF p = 0) : p.tags.Pairwise fun a b => ltB a b = true := by
 unfold guF at h
 split at h
 ·cases h
 ·split at h
  ·exact (rise_sorted _ _ h).1
  ·cases h
theorem quF_gu {rs : List Rt} {p : Gu} {item : ByteArray} (h : quF rs p item = 0) : rightsF rs = 0 ∧ guF p = 0 ∧ keyF item = 0 := by
 unfold quF at h
 split at h
 ·rename_i h1
  split at h
  ·rename_i h2; exact ⟨h1, h2, h⟩
  ·rename_i h2; exact absurd h h2
 ·rename_i h1; exact absurd h h1
theorem g_May (rs : List Rt) (p : Gu) (item : ByteArray) (x : Int) (kk : Option Nat) (hl : rs.length ≤ 500) (hok : ∀ r ∈ rs, RtOk r) (hp : GuOk p) (hi : item.size ≤ 4) (h : Hp) :
  ACalls Tryz.prog 15 [.row 5 (rs.map encRt) kk, .agg (encGu p), .v (.string item), .v (.int .i64 x)] h
   (fun r h' => r = (if quF rs p item = 0 then (if momF x = 0 then .tup [.v (.bool (mayL p.tags item x rs false)), .v (.int .i64 0)] else .tup [.v (.bool false), .v (.int .i64 (momF x))]) else .tup [.v (.bool false), .v (.int .i64 (quF rs p item))]) ∧ h' = h) := by
 have hQ := g_question rs p item kk hl hok hp hi h
 have hM := g_momentFault x h
 have hG := fun hs => g_may rs p item x kk hl hok hp hs h
 have hw3 : encGu p = [.v (.string p.key), .v (.string p.scr), .v (.int .i64 p.zone), encGr p.tags] := rfl
 rw [hw3] at hQ hG ⊢
 unfold encGr at hQ hG ⊢
 refine gE Tryz.func15 rfl (by kernel_rfl) 25 rfl fun c => ?_
 (repeat (first | refine gO rfl ?_ | (refine gR fun K1 hK1 => ?_; simp only [go_sem, ↓reduceIte, reduceCtorEq, nA, nB, nC, nD, nE, nF] <;> and_intros <;> first | (apply hK1; clear hK1 K1) | (intros; first | omega | decide) | skip)))
 refine hQ.mono ?_; rintro _ hz ⟨rfl, hh⟩; apply hK1; clear hK1 K1; rw [hh]; clear hh hz
 (repeat (first | refine gO rfl ?_ | (refine gR fun K1 hK1 => ?_; simp only [go_sem, ↓reduceIte, reduceCtorEq, nA, nB, nC, nD, nE, nF] <;> and_intros <;> first | (apply hK1; clear hK1 K1) | (intros; first | omega | decide) | skip)))
 by_cases h1 : quF rs p item = 0
 ·refine awp_cond (t := _) rfl (fun h6 => by rw [h1] at h6; cases h6) (fun _ => ?_)
  (repeat (first | refine gO rfl ?_ | (refine gR fun K1 hK1 => ?_; simp only [go_sem, ↓reduceIte, reduceCtorEq, nA, nB, nC, nD, nE, nF] <;> and_intros <;> first | (apply hK1; clear hK1 K1) | (intros; first | omega | decide) | skip)))
  refine hM.mono ?_; rintro _ hz ⟨rfl, hh⟩; apply hK1; clear hK1 K1; rw [hh]; clear hh hz
  (repeat (first | refine gO rfl ?_ | (refine gR fun K1 hK1 => ?_; simp only [go_sem, ↓reduceIte, reduceCtorEq, nA, nB, nC, nD, nE, nF] <;> and_intros <;> first | (apply hK1; clear hK1 K1) | (intros; first | omega | decide) | skip)))
  by_cases h2 : momF x = 0
  ·refine awp_cond (t := _) rfl (fun h6 => by rw [h2] at h6; cases h6) (fun _ => ?_)
   (repeat (first | refine gO rfl ?_ | (refine gR fun K1 hK1 => ?_; simp only [go_sem, ↓reduceIte, reduceCtorEq, nA, nB, nC, nD, nE, nF] <;> and_intros <;> first | (apply hK1; clear hK1 K1) | (intros; first | omega | decide) | skip)))
   refine (hG (guF_tags (quF_gu h1).2.1)).mono ?_; rintro _ hz ⟨rfl, hh⟩; apply hK1; clear hK1 K1; rw [hh]; clear hh hz
   (repeat (first | refine gO rfl ?_ | (refine gR fun K1 hK1 => ?_; simp only [go_sem, ↓reduceIte, reduceCtorEq, nA, nB, nC, nD, nE, nF] <;> and_intros <;> first | (apply hK1; clear hK1 K1) | (intros; first | omega | decide) | skip)))
   simp only [Tryz.results15, go_sem, ↓reduceIte, reduceCtorEq, nA, nB, nC, nD, nE, nF]
   exact ⟨_, _, Weak.refl _, Hp.le.refl _, by rw [if_pos h1, if_pos h2], rfl⟩
  ·refine awp_cond (t := _) rfl (fun _ => ?_) (fun h6 => absurd h6 (by simpa using h2))
   (repeat (first | refine gO rfl ?_ | (refine gR fun K1 hK1 => ?_; simp only [go_sem, ↓reduceIte, reduceCtorEq, nA, nB, nC, nD, nE, nF] <;> and_intros <;> first | (apply hK1; clear hK1 K1) | (intros; first | omega | decide) | skip)))
   simp only [Tryz.results15, go_sem, ↓reduceIte, reduceCtorEq, nA, nB, nC, nD, nE, nF]
   exact ⟨_, _, Weak.refl _, Hp.le.refl _, by rw [if_pos h1, if_neg h2], rfl⟩
 ·refine awp_cond (t := _) rfl (fun _ => ?_) (fun h6 => absurd h6 (by simpa using h1))
  (repeat (first | refine gO rfl ?_ | (refine gR fun K1 hK1 => ?_; simp only [go_sem, ↓reduceIte, reduceCtorEq, nA, nB, nC, nD, nE, nF] <;> and_intros <;> first | (apply hK1; clear hK1 K1) | (intros; first | omega | decide) | skip)))
  simp only [Tryz.results15, go_sem, ↓reduceIte, reduceCtorEq, nA, nB, nC, nD, nE, nF]
  exact ⟨_, _, Weak.refl _, Hp.le.refl _, by rw [if_neg h1], rfl⟩
open Go Go.Lib
def onceI (l : List Int) : List Int := compact (l.mergeSort fun x y => decide (x ≤ y))
theorem comp_upI (d : Array Int) (hs : ∀ i j, i ≤ j → j < d.size → d[i]! ≤ d[j]!) : ∀ m, m ≤ d.size →
    (compactUpTo d m).Pairwise (fun x y => x ≤ y ∧ x ≠ y) ∧ ∀ x, x ∈ compactUpTo d m ↔ ∃ j, j < m ∧ d[j]! = x
  | 0, _ => ⟨by simp [compactUpTo], by simp [compactUpTo]⟩
  | m + 1, hm => by
    obtain ⟨h1, h2⟩ := comp_upI d hs m (by omega)
    rw [compactUpTo_succ]
    cases hk : keeps d m with
    | true =>
      simp only [if_true]
      refine ⟨List.pairwise_append.2 ⟨h1, by simp, fun x hx y hy => ?_⟩, fun x => ?_⟩
      · simp only [List.mem_singleton] at hy
        subst hy
        obtain ⟨j, hj, rfl⟩ := (h2 x).1 hx
        refine ⟨hs j m (by omega) (by omega), fun e => ?_⟩
        simp only [keeps, decide_eq_true_eq] at hk
        rcases hk with hk | hk
        · omega
        · have a1 := hs j (m - 1) (by omega) (by omega)
          have a2 := hs (m - 1) m (by omega) (by omega)
          rw [e] at a1
          exact hk (Int.le_antisymm a1 a2)
      · rw [List.mem_append, h2 x, List.mem_singleton]
        constructor
        · rintro (⟨j, hj, e⟩ | rfl)
          · exact ⟨j, by omega, e⟩
          · exact ⟨m, by omega, rfl⟩
        · rintro ⟨j, hj, e⟩
          by_cases hjm : j = m
          · subst hjm; exact .inr e.symm
          · exact .inl ⟨j, by omega, e⟩
    | false =>
      simp only [Bool.false_eq_true, if_false, List.append_nil]
      refine ⟨h1, fun x => ?_⟩
      rw [h2 x]
      simp only [keeps, decide_eq_false_iff_not, not_or, ne_eq, Decidable.not_not] at hk
      constructor
      · rintro ⟨j, hj, e⟩; exact ⟨j, by omega, e⟩
      · rintro ⟨j, hj, e⟩
        by_cases hjm : j = m
        · subst hjm; exact ⟨j - 1, by omega, by rw [← e, hk.2]⟩
        · exact ⟨j, by omega, e⟩
theorem onceI_ok (l : List Int) : SU (onceI l) l := by
  have hp := List.pairwise_mergeSort (le := fun x y : Int => decide (x ≤ y)) (fun a b c h1 h2 => by simp only [decide_eq_true_eq] at *; omega) (fun a b => by simp only [Bool.or_eq_true, decide_eq_true_eq]; omega) l
  have hm := List.mergeSort_perm l fun x y => decide (x ≤ y)
  unfold onceI
  generalize (l.mergeSort fun x y => decide (x ≤ y)) = zs at hp hm ⊢
  have hs : ∀ i j, i ≤ j → j < zs.toArray.size → zs.toArray[i]! ≤ zs.toArray[j]! := fun i j hij hj => by
    have hj' : j < zs.length := by simpa using hj
    have e1 : zs.toArray[i]! = zs[i] := by simp [getElem!_pos, show i < zs.length by omega]
    have e2 : zs.toArray[j]! = zs[j] := by simp [getElem!_pos, hj']
    rw [e1, e2]
    by_cases e : i = j
    · subst e; exact Int.le_refl _
    · have := List.pairwise_iff_getElem.1 hp i j (by omega) hj' (by omega)
      simpa using this
  obtain ⟨h1, h2⟩ := comp_upI zs.toArray hs zs.length (by simp)
  refine ⟨h1.imp (fun h => by omega), fun x => ?_⟩
  show x ∈ compactUpTo zs.toArray zs.length ↔ _
  rw [h2 x, ← hm.mem_iff]
  constructor
  · rintro ⟨j, hj, rfl⟩
    have e2 : zs.toArray[j]! = zs[j] := by simp [getElem!_pos, hj]
    rw [e2]; exact List.getElem_mem hj
  · intro hx
    obtain ⟨j, hj, e⟩ := List.getElem_of_mem hx
    exact ⟨j, hj, by rw [← e]; simp [getElem!_pos, hj]⟩
theorem onceI_len (l : List Int) : (onceI l).length ≤ l.length := by
  unfold onceI
  have h : ∀ zs : List Int, (compact zs).length ≤ zs.length := fun zs => by
    unfold compact compactUpTo
    rw [List.length_map]
    exact Nat.le_trans (List.length_filter_le _ _) (by simp)
  exact Nat.le_trans (h _) (by simp)
def edgA (item : ByteArray) (fr t2 : Int) (r : Rt) : List Int := [r.2.2.1, r.2.2.2.1].filter fun n => decide (r.1 = item) && (decide (fr < n) && decide (n < t2))
def cuts0 (item : ByteArray) (fr t2 : Int) (l : List Rt) : List Int := [fr, t2] ++ l.flatMap (edgA item fr t2)
theorem cuts0_mem (item : ByteArray) (fr t2 : Int) (l : List Rt) (x : Int) : x ∈ cuts0 item fr t2 l ↔ x ∈ cutsP item fr t2 l := by
  unfold cuts0 cutsP edgA
  simp only [List.mem_append, List.mem_flatMap, List.mem_filter, Bool.and_eq_true, decide_eq_true_eq]
  refine or_congr Iff.rfl ⟨?_, ?_⟩
  · rintro ⟨r, h1, h2, h3, h4⟩; exact ⟨⟨r, ⟨h1, h3⟩, h2⟩, h4⟩
  · rintro ⟨⟨r, ⟨h1, h3⟩, h2⟩, h4⟩; exact ⟨r, h1, h2, h3, h4⟩
theorem cuts0_len (item : ByteArray) (fr t2 : Int) (l : List Rt) : (cuts0 item fr t2 l).length ≤ 2 + 2 * l.length := by
  unfold cuts0
  rw [List.length_append]
  have h : ∀ l : List Rt, (l.flatMap (edgA item fr t2)).length ≤ 2 * l.length := fun l => by
    induction l with
    | nil => simp
    | cons r l ih =>
      rw [List.flatMap_cons, List.length_append, List.length_cons]
      have : (edgA item fr t2 r).length ≤ 2 := List.length_filter_le _ _
      omega
  have := h l
  simp only [List.length_cons, List.length_nil]
  omega
theorem edgesL_len (l : List Rt) : (edgesL l).length = 2 * l.length := by
  unfold edgesL
  induction l with
  | nil => rfl
  | cons r l ih => rw [List.flatMap_cons, List.length_append, ih, List.length_cons]; simp only [List.length_cons, List.length_nil]; omega
def timesP (tags : List ByteArray) (item : ByteArray) (fr t2 : Int) (l : List Rt) : List Wnd := runsW (fun x => mayL tags item x l false) (onceI (cuts0 item fr t2 l)) []
def timesR (tags : List ByteArray) (item : ByteArray) (fr t2 : Int) (l : List Rt) : List Wnd := runsW (fun x => mayL tags item x l false) (onceI (cutsR fr t2 (onceI (edgesL l)))) []
theorem timesRP (tags : List ByteArray) (item : ByteArray) (fr t2 : Int) (l : List Rt) (h : fr ≤ t2) : timesR tags item fr t2 l = timesP tags item fr t2 l := by
  have h1 := onceI_ok (cuts0 item fr t2 l)
  exact times_same tags item fr t2 l h ⟨h1.1, fun x => (h1.2 x).trans (cuts0_mem item fr t2 l x)⟩ (onceI_ok (edgesL l)).2 (onceI_ok _)
theorem nextRP (at0 : Int) (l : List Rt) (hb : ∀ x ∈ edgesL l, x ≤ 345686400000) : nextR at0 345686400000 (onceI (edgesL l)) = nextP at0 (edgesL l) 345686400000 := by
  have h1 := onceI_ok (edgesL l)
  exact next_same at0 345686400000 h1.1 h1.2 hb
open Go Go.RowKit Go.Sort Go.Lib Go.Proofs
set_option maxHeartbeats 4000000
theorem repL_vals {α : Type} {G : Gh} (f : α → List Value) {us : List Value} (l : List α) (h : RepL G (l.map fun x => (f x).map AV.v).flatten us) : us = l.flatMap f := by
 have e : (l.map fun x => (f x).map AV.v).flatten = (l.flatMap f).map AV.v := by
  clear h
  induction l with
  | nil => rfl
  | cons x q ih => simp [ih]
 rw [e] at h
 obtain ⟨h1, h2⟩ := h
 apply List.ext_getElem (by simpa using h1)
 intro j a b
 have h3 := (h2 j (by simpa using b) a).1
 simp only [List.getElem_map] at h3 ⊢
 generalize us[j] = y at h3
 cases h3; rfl
theorem repL_vals_mk {α : Type} (G : Gh) (f : α → List Value) (h1 : ∀ x, ∀ v ∈ f x, v.oneCell' = true) (l : List α) : RepL G (l.map fun x => (f x).map AV.v).flatten (l.flatMap f) := by
 have e : (l.map fun x => (f x).map AV.v).flatten = (l.flatMap f).map AV.v := by
  induction l with
  | nil => rfl
  | cons x q ih => simp [ih]
 rw [e]
 refine ⟨by simp, fun j a b => ?_⟩
 have hv : ((l.flatMap f)[j]'(by simpa using a)).oneCell' = true := by
  obtain ⟨x, _, hx⟩ := List.mem_flatMap.1 (List.getElem_mem (show j < (l.flatMap f).length by simpa using a))
  exact h1 x _ hx
 simp only [List.getElem_map]
 exact ⟨.v _ hv, hv⟩
theorem vs_one {vs : Array Value} (h : vs.size = 1) : vs = #[vs.getD 0 undef] := by
 apply Array.ext (by simpa using h)
 intro j hj hj'
 simp only [List.size_toArray, List.length_cons, List.length_nil] at hj'
 have hc : j = 0 := by omega
 subst hc; simp [Array.getD, h]
def ivV (x : Int) : List Value := [.int .i64 x]
theorem iV_map (l : List Int) : l.map encI = l.map fun x => (ivV x).map AV.v := rfl
theorem iV_flat (l : List Int) : l.flatMap ivV = l.map (Value.int .i64) := by
 induction l with
 | nil => rfl
 | cons x q ih => rw [List.flatMap_cons, ih]; rfl
theorem iV_one (x : Int) : ∀ v ∈ ivV x, v.oneCell' = true := by
 intro v hv
 simp [ivV] at hv
 subst hv; rfl
theorem put_block {α : Type} [Inhabited α] (enc : α → Value) (w : World) (g q : Nat) (d : Array α) (os : Array Obj) (b : Nat) (hb : b < w.heap.size) (hne : b ≠ g) : (grow (putRow enc (Sort.ahead w q) g 0 d) os).heap[b]? = w.heap[b]? := by
 show ((w.heap.modify g (onCells _)) ++ os)[b]? = _
 rw [Array.getElem?_append_left (by simpa using hb), Array.getElem?_modify, if_neg (Ne.symm hne)]
theorem put_size {α : Type} [Inhabited α] (enc : α → Value) (w : World) (g q : Nat) (d : Array α) (os : Array Obj) : w.heap.size ≤ (grow (putRow enc (Sort.ahead w q) g 0 d) os).heap.size := by
 simp [grow, putRow, mapBlock, Sort.ahead]
theorem bel_grow (w : World) (os : Array Obj) : Below w.heap.size w (grow w os) :=
 ⟨rfl, rfl, rfl, by simp [grow], fun k hk => by show (w.heap ++ os)[k]? = _; rw [Array.getElem?_append_left hk]⟩
theorem own_bel {w w' : World} {b size n : Nat} {e : TypeId} {v : Value} {xs : List Value} (h : w.ownsRow b e size v n xs) (hb : Below w.heap.size w w') : w'.ownsRow b e size v n xs := by
 obtain ⟨h1, h2⟩ := h
 refine ⟨h1, ?_⟩
 rcases h2 with h2 | ⟨g, c, cur, e1, e2, e3, e4⟩
 ·exact .inl h2
 ·exact .inr ⟨g, c, cur, e1, e2, (hb.block g (Array.getElem?_eq_some_iff.1 e3).1).trans e3, e4⟩
theorem g_sortI (k : Nat) (l : List Int) (h : Hp) (hT : h.T k = some (.cont 1 (l.map encI))) (h0 : 0 < l.length) (hb : l.length ≤ 100000) :
  ACalls Tryz.prog 78 [.arr 1 k l.length] h (fun r h' => r = .tup [] ∧ h' = { h with T := upd h.T k (some (.cont 1 ((l.mergeSort fun x y => decide (x ≤ y)).map encI))) }) := by
 refine acalls_mk (by kernel_rfl) fun G w vs hs hv ha => ?_
 have r0 := ha 0 (by simp)
 rw [vs_one hv]
 generalize vs.getD 0 undef = v at r0
 simp only [List.getElem_cons_zero] at r0
 rw [iV_map] at hT
 have hml : (l.map fun x => (ivV x).map AV.v).length = l.length := by simp
 cases r0 with
 | arr _ _ _ q m c ho =>
 obtain ⟨hknx, ⟨q', c', e2, _, _⟩, hm⟩ := ho
 rcases hs.tok k _ hT with ⟨_, e1⟩ | ⟨tt, cur, E, htl, htm, htp, hth, hts, htc, htcm, htf, htz, hzx, htr⟩
 ·rw [e1] at hml; simp at hml; omega
 rw [htl] at hm
 obtain ⟨hxe, _⟩ := hm.2 (by rw [htm, hml])
 simp only [Value.slice.injEq] at hxe e2
 obtain ⟨rfl, rfl, rfl⟩ := hxe
 have hfl : (l.map fun x => (ivV x).map AV.v).flatten.length = l.length * 1 := by rw [flatten_len hzx, hml]
 rw [hfl] at htr
 have hcs := repL_vals ivV l htr
 rw [htz] at hts
 have hle : l.length ≤ tt.c := by rw [← hml, ← htm]; exact htc
 have hown : w.ownsRow 0 E 1 (.slice (some ⟨tt.g, 0, none⟩) l.length tt.c) l.length (l.map (Value.int .i64)) := by
  refine ⟨by simp, .inr ⟨tt.g, tt.c, cur, rfl, Nat.zero_le _, hth, hle, htcm, hts, ?_⟩⟩
  rw [← iV_flat]
  exact hcs
 have hblk : tt.g < w.heap.size := (Array.getElem?_eq_some_iff.1 hth).1
 obtain ⟨g4, c4, hv4, _, _, hnc4, _, _, hH⟩ := holds_of_ownsRow hown (by simp)
 simp only [Value.slice.injEq, Option.some.injEq, Addr.mk.injEq, and_true, true_and] at hv4
 obtain ⟨rfl, rfl⟩ := hv4
 have sm : Sim G [] ⟨[], [], h⟩ ⟨#[], []⟩ w := ⟨hs, Nat.le_refl _, fun t ht => by simp at ht, rfl, ⟨rfl, fun j b cs e => by simp at e, fun b hb => by simp at hb, List.nodup_nil⟩⟩
 refine (Tryz.slices_Sort_int tt.g 0 tt.c l w hH hblk (by omega)).mono ?_
 rintro e w' ⟨rfl, n, os, rfl⟩
 obtain ⟨ts, hts2⟩ : ∃ ts, ts = l.mergeSort fun x y => decide (x ≤ y) := ⟨_, rfl⟩
 rw [← hts2]
 have htl2 : ts.length = l.length := by rw [hts2, List.length_mergeSort]
 have own2 := own_bel (ownsRow_putRow (q := n) (k := l.length) hown htl2 (Nat.le_refl _)) (bel_grow (putRow (Value.int .i64) (Sort.ahead w n) tt.g 0 ts.toArray) os)
 rw [List.take_of_length_le (by omega)] at own2
 rcases own2.2 with ⟨h9, _⟩ | ⟨g9, c9, cur9, hv9, _, hh9, _, _, hsz9, hx9⟩
 ·cases h9
 simp only [Value.slice.injEq, Option.some.injEq, Addr.mk.injEq] at hv9
 obtain ⟨⟨rfl, _, _⟩, _, rfl⟩ := hv9
 have hzd : ∀ x ∈ ts.map fun x => (ivV x).map AV.v, x.length = 1 := fun x hx => by obtain ⟨y, _, rfl⟩ := List.mem_map.1 hx; rfl
 have hfd : (ts.map fun x => (ivV x).map AV.v).flatten.length = l.length := by rw [flatten_len hzd, List.length_map, htl2, Nat.mul_one]
 obtain ⟨G', rfl, s2, g2, f2⟩ := sm.setCont (k := k) (z := 1) (xs := ts.map fun x => (ivV x).map AV.v) (B := tt.g) (c := tt.c) (arr := cur9) (E := E) hT (fun b hb' hne => put_block _ w tt.g n _ os b hb' hne) hh9 hsz9
  htf hzd (by rw [hfd, show List.take l.length cur9.toList = List.take (l.length * 1) cur9.toList by rw [Nat.mul_one], hx9, ← iV_flat]; exact repL_vals_mk G ivV iV_one _) (by rw [List.length_map, htl2]; exact hle) htcm (by rw [List.length_map, htl2]; exact h0) (.inr ⟨by rw [hml, List.length_map, htl2], rfl, tt, htl, rfl, rfl⟩) (.inr ⟨tt, htl, rfl⟩) rfl rfl rfl (put_size _ w tt.g n _ os)
 rw [← iV_map] at s2 f2 g2
 exact ⟨_, rfl, .tup [], _, _, ⟨rfl, rfl⟩, g2, f2, s2.hs, .tup [] #[] (fun _ => undef) rfl (fun j hj => by simp at hj) (fun j hj => by simp at hj)⟩
theorem Rep.cutRow {G : Gh} {xs ys : List (List AV)} {z : Nat} {a : Option Addr} {n c : Nat} (h : Rep G (.row z (xs ++ ys) none) (.slice a n c)) (hn : n = (xs ++ ys).length) : Rep G (.row z xs none) (.slice a xs.length c) := by
 rcases Rep.row_inv h with ⟨a', e1, e⟩ | ⟨g, o, c', us, e1, hc, hz, hru, hu⟩
 ·have e3 : xs = [] := (List.append_eq_nil_iff.1 e).1
  subst e3
  simp only [Value.slice.injEq] at e1
  obtain ⟨rfl, _, rfl⟩ := e1
  exact Rep.nilA _ _
 ·simp only [Value.slice.injEq] at e1
  obtain ⟨rfl, _, rfl⟩ := e1
  have h1 := hru.take xs.flatten.length
  rw [List.flatten_append, List.take_left] at h1
  refine Rep.row_mk (us := us.take xs.flatten.length) (by simp at hc; omega) (fun y hy => hz y (by simp [hy])) h1 fun j y hy => ?_
  rw [List.getElem?_take] at hy
  split at hy
  ·exact hu j y hy
  ·cases hy
theorem g_compI (k : Nat) (l : List Int) (h : Hp) (hT : h.T k = some (.cont 1 (l.map encI))) (h0 : 0 < l.length) (hb : l.length ≤ 100000) :
  ACalls Tryz.prog 79 [.arr 1 k l.length] h (fun r h' => r = .row 1 ((Lib.compact l).map encI) none ∧ h' = { h with T := upd h.T k none }) := by
 refine acalls_mk (by kernel_rfl) fun G w vs hs hv ha => ?_
 have r0 := ha 0 (by simp)
 rw [vs_one hv]
 generalize vs.getD 0 undef = v at r0
 simp only [List.getElem_cons_zero] at r0
 rw [iV_map] at hT
 have hml : (l.map fun x => (ivV x).map AV.v).length = l.length := by simp
 cases r0 with
 | arr _ _ _ q m c ho =>
 obtain ⟨hknx, ⟨q', c', e2, _, _⟩, hm⟩ := ho
 rcases hs.tok k _ hT with ⟨_, e1⟩ | ⟨tt, cur, E, htl, htm, htp, hth, hts, htc, htcm, htf, htz, hzx, htr⟩
 ·rw [e1] at hml; simp at hml; omega
 rw [htl] at hm
 obtain ⟨hxe, _⟩ := hm.2 (by rw [htm, hml])
 simp only [Value.slice.injEq] at hxe e2
 obtain ⟨rfl, rfl, rfl⟩ := hxe
 have hfl : (l.map fun x => (ivV x).map AV.v).flatten.length = l.length * 1 := by rw [flatten_len hzx, hml]
 rw [hfl] at htr
 have hcs := repL_vals ivV l htr
 rw [htz] at hts
 have hle : l.length ≤ tt.c := by rw [← hml, ← htm]; exact htc
 have hown : w.ownsRow 0 E 1 (.slice (some ⟨tt.g, 0, none⟩) l.length tt.c) l.length (l.map (Value.int .i64)) := by
  refine ⟨by simp, .inr ⟨tt.g, tt.c, cur, rfl, Nat.zero_le _, hth, hle, htcm, hts, ?_⟩⟩
  rw [← iV_flat]
  exact hcs
 have hblk : tt.g < w.heap.size := (Array.getElem?_eq_some_iff.1 hth).1
 obtain ⟨g4, c4, hv4, _, _, hnc4, _, _, hH⟩ := holds_of_ownsRow hown (by simp)
 simp only [Value.slice.injEq, Option.some.injEq, Addr.mk.injEq, and_true, true_and] at hv4
 obtain ⟨rfl, rfl⟩ := hv4
 have sm : Sim G [] ⟨[], [], h⟩ ⟨#[], []⟩ w := ⟨hs, Nat.le_refl _, fun t ht => by simp at ht, rfl, ⟨rfl, fun j b cs e => by simp at e, fun b hb => by simp at hb, List.nodup_nil⟩⟩
 refine (Tryz.slices_Compact_int tt.g 0 tt.c l w hH (by omega) hle).mono ?_
 rintro e w' ⟨rfl, n, rfl⟩
 have hcl := Lib.compact_length_le l
 obtain ⟨cs, hcs2⟩ : ∃ cs, cs = Lib.compact l := ⟨_, rfl⟩
 rw [← hcs2] at hcl ⊢
 obtain ⟨ts, hts2⟩ : ∃ ts, ts = cs ++ List.replicate (l.length - cs.length) (0 : Int) := ⟨_, rfl⟩
 rw [← hts2]
 have htl2 : ts.length = l.length := by rw [hts2]; simp; omega
 have own2 := own_bel (ownsRow_putRow (q := n) (k := l.length) hown htl2 (Nat.le_refl _)) (bel_grow (putRow (Value.int .i64) (Sort.ahead w n) tt.g 0 ts.toArray) #[])
 rw [List.take_of_length_le (by omega)] at own2
 have hg0 : grow (putRow (Value.int .i64) (Sort.ahead w n) tt.g 0 ts.toArray) #[] = putRow (Value.int .i64) (Sort.ahead w n) tt.g 0 ts.toArray := by
  unfold grow; rw [Array.append_empty]
 rw [← hg0]
 rcases own2.2 with ⟨h9, _⟩ | ⟨g9, c9, cur9, hv9, _, hh9, _, _, hsz9, hx9⟩
 ·cases h9
 simp only [Value.slice.injEq, Option.some.injEq, Addr.mk.injEq] at hv9
 obtain ⟨⟨rfl, _, _⟩, _, rfl⟩ := hv9
 have hzd : ∀ x ∈ ts.map fun x => (ivV x).map AV.v, x.length = 1 := fun x hx => by obtain ⟨y, _, rfl⟩ := List.mem_map.1 hx; rfl
 have hfd : (ts.map fun x => (ivV x).map AV.v).flatten.length = l.length := by rw [flatten_len hzd, List.length_map, htl2, Nat.mul_one]
 obtain ⟨G', hG', s2, g2, f2⟩ := sm.setCont (k := k) (z := 1) (xs := ts.map fun x => (ivV x).map AV.v) (B := tt.g) (c := tt.c) (arr := cur9) (E := E) hT (fun b hb' hne => put_block _ w tt.g n _ #[] b hb' hne) hh9 hsz9
  htf hzd (by rw [hfd, show List.take l.length cur9.toList = List.take (l.length * 1) cur9.toList by rw [Nat.mul_one], hx9, ← iV_flat]; exact repL_vals_mk G ivV iV_one _) (by rw [List.length_map, htl2]; exact hle) htcm (by rw [List.length_map, htl2]; exact h0) (.inr ⟨by rw [hml, List.length_map, htl2], rfl, tt, htl, rfl, rfl⟩) (.inr ⟨tt, htl, rfl⟩) rfl rfl rfl (put_size _ w tt.g n _ #[])
 obtain ⟨G2, hle2, hfr2, hs2, hfz⟩ := s2.hs.freeze (h2 := { h with T := upd h.T k none }) (fun j => j = k) rfl (fun j hj => by subst hj; exact upd_same _ _ _) (fun j hj => by show upd _ _ _ j = upd _ _ _ j; rw [upd_other _ _ hj, upd_other _ _ hj])
 have harr : Rep G' (.arr 1 k l.length) (.slice (some ⟨tt.g, 0, none⟩) l.length tt.c) := by
  refine .arr _ _ _ _ _ _ ⟨by rw [hG']; exact hknx, ⟨some ⟨tt.g, 0, none⟩, tt.c, rfl, hle, .inr ⟨tt.g, rfl⟩⟩, ?_⟩
  rw [hG']
  simp only [upd_same]
  exact ⟨by simp [htl2], fun _ => by simp⟩
 have hrow := hfz k 1 (ts.map fun x => (ivV x).map AV.v) _ rfl (upd_same _ _ _) (by rw [List.length_map, htl2]; exact harr) _ rfl hzd fun us hus => hus.mono hle2
 rw [hts2, List.map_append] at hrow
 have hrow2 := Rep.cutRow hrow (by rw [← List.map_append, ← hts2, List.length_map, htl2])
 rw [List.length_map] at hrow2
 exact ⟨_, rfl, _, _, G2, ⟨rfl, rfl⟩, g2.trans hle2, f2.trans hfr2, hs2, hrow2⟩
theorem g_sortI0 (k : Nat) (h : Hp) (hT : h.T k = some (.cont 1 [])) : ACalls Tryz.prog 78 [.arr 1 k 0] h (fun r h' => r = .tup [] ∧ h' = h) := by
 refine acalls_mk (by kernel_rfl) fun G w vs hs hv ha => ?_
 have r0 := ha 0 (by simp)
 rw [vs_one hv]
 generalize vs.getD 0 undef = v at r0
 simp only [List.getElem_cons_zero] at r0
 cases r0 with
 | arr _ _ _ q m c ho =>
 obtain ⟨_, ⟨q', c', e2, _, _⟩, _⟩ := ho
 simp only [Value.slice.injEq] at e2
 obtain ⟨rfl, rfl, rfl⟩ := e2
 refine (Tryz.slices_Sort_int_none q c w).mono ?_
 rintro e w' ⟨rfl, rfl⟩
 exact ⟨_, rfl, .tup [], h, G, ⟨rfl, rfl⟩, GLe.refl _, Fr.refl _ _ _, hs, .tup [] #[] (fun _ => undef) rfl (fun j hj => by simp at hj) (fun j hj => by simp at hj)⟩
theorem g_compI0 (k : Nat) (h : Hp) (hT : h.T k = some (.cont 1 [])) : ACalls Tryz.prog 79 [.arr 1 k 0] h (fun r h' => r = .row 1 [] none ∧ h' = h) := by
 refine acalls_mk (by kernel_rfl) fun G w vs hs hv ha => ?_
 have r0 := ha 0 (by simp)
 rw [vs_one hv]
 generalize vs.getD 0 undef = v at r0
 simp only [List.getElem_cons_zero] at r0
 cases r0 with
 | arr _ _ _ q m c ho =>
 obtain ⟨_, ⟨q', c', e2, _, _⟩, hm⟩ := ho
 simp only [Value.slice.injEq] at e2
 obtain ⟨rfl, rfl, rfl⟩ := e2
 rcases hs.tok k _ hT with ⟨e0, e1⟩ | ⟨tt, cur, E, htl, htm, htp, _⟩
 ·rw [e0] at hm
  obtain ⟨_, a, e3⟩ := hm
  simp only [Value.slice.injEq] at e3
  obtain ⟨_, _, rfl⟩ := e3
  refine (Tryz.slices_Compact_int_empty q 0 w).mono ?_
  rintro e w' ⟨rfl, rfl⟩
  exact ⟨_, rfl, _, h, G, ⟨rfl, rfl⟩, GLe.refl _, Fr.refl _ _ _, hs, Rep.nilA _ _⟩
 ·have hm0 : tt.m = 0 := by simpa using htm
  rw [htl] at hm
  obtain ⟨e3, _⟩ := hm.2 hm0.symm
  simp only [Value.slice.injEq] at e3
  obtain ⟨rfl, _, rfl⟩ := e3
  refine (Tryz.slices_Compact_int_empty _ tt.c w).mono ?_
  rintro e w' ⟨rfl, rfl⟩
  exact ⟨_, rfl, _, h, G, ⟨rfl, rfl⟩, GLe.refl _, Fr.refl _ _ _, hs, Rep.row_mk (xs := []) (us := []) (Nat.zero_le _) (fun y hy => by cases hy) (RepL.nil _) (fun j y hy => by simp at hy)⟩
abbrev zP3E : List Nat := [0, 1, 2, 3, 4, 5, 6, 7, 8]
abbrev zP3P : List (Nat × List Nat × List Nat) := []
attribute [go_sem] zP3E zP3P
set_option maxHeartbeats 8000000
theorem edgesL_take (rs : List Rt) (j : Nat) (hj : j < rs.length) : edgesL (rs.take (j + 1)) = edgesL (rs.take j) ++ [rs[j].2.2.1, rs[j].2.2.2.1] := by
 unfold edgesL
 rw [List.take_succ_eq_append_getElem hj, List.flatMap_append]; rfl
theorem g_edges (rs : List Rt) (kk : Option Nat) (hl : rs.length ≤ 500) (h : Hp) :
  ACalls Tryz.prog 77 [.row 5 (rs.map encRt) kk] h (fun r h' => r = .row 1 ((onceI (edgesL rs)).map encI) none ∧ h' = h) := by
 have hml : (rs.map encRt).length = rs.length := List.length_map _
 refine gE Tryz.func77 rfl (by kernel_rfl) 25 rfl fun c => ?_
 (repeat (first | refine gQ rfl ?_ | (refine gM zM21 fun K1 hK1 => ?_; simp only [go_sem, ↓reduceIte, reduceCtorEq, nA, nB, nC, nD, nE, nF] <;> and_intros <;> first | (apply hK1; clear hK1 K1) | (intros; first | omega | decide | (simp_all <;> omega)) | skip)))
 refine awp_seq ?_
 refine awp_ownA 3 1 rfl ⟨rfl, rfl⟩ (fun k hk => ?_)
 replace hk : h.T k = none := hk
 (repeat (first | refine gO rfl ?_ | (refine gM zM21 fun K1 hK1 => ?_; simp only [go_sem, ↓reduceIte, reduceCtorEq, nA, nB, nC, nD, nE, nF, hml] <;> and_intros <;> first | (apply hK1; clear hK1 K1) | (intros; first | omega | decide) | skip)))
 refine awp_loopC (rl false [3, 1, 2, 3, 17]) 0 (fun g s => ∃ (j : Nat), g + j = rs.length ∧
  s = ⟨((jnk 3 ((.arr 1 k (2 * j)) :: AV.junk :: AV.junk :: ((.row 5 (rs.map encRt) kk) :: (.v (.int .i64 rs.length)) :: (.v (.int .i64 j)) :: (jnk 17 []))))), [], ⟨h.H, upd h.T k (some (.cont 1 ((edgesL (rs.take j)).map encI)))⟩⟩) rs.length ⟨0, by omega, rfl⟩ ?_
 rintro g _ ⟨j, hj, rfl⟩
 have hTq : upd h.T k (some (TO.cont 1 ((edgesL (rs.take j)).map encI))) k = some (TO.cont 1 ((edgesL (rs.take j)).map encI)) := upd_same _ _ _
 have hlj : (edgesL (rs.take j)).length = 2 * j := by rw [edgesL_len, List.length_take]; omega
 have hle : ((edgesL (rs.take j)).map encI).length = 2 * j := by rw [List.length_map, hlj]
 (repeat (first | refine gO rfl ?_ | (refine gM zM21 fun K1 hK1 => ?_; simp only [go_sem, ↓reduceIte, reduceCtorEq, nA, nB, nC, nD, nE, nF] <;> and_intros <;> first | (apply hK1; clear hK1 K1) | (intros; first | omega | decide) | skip)))
 refine awp_cond (t := _) rfl (fun h5 => ?_) (fun h5 => ?_)
 ·simp only [decide_eq_true_eq] at h5
  have hjl : j < rs.length := by omega
  have gx : (rs.map encRt).getD j [] = encRt rs[j] := by rw [List.getD_eq_getElem?_getD, List.getElem?_map, List.getElem?_eq_getElem hjl]; rfl
  have het := edgesL_take rs j hjl
  generalize rs[j] = r at *
  obtain ⟨it, tg, fr, t2, bb⟩ := r
  rw [show encRt (it, tg, fr, t2, bb) = [.v (.string it), .row 1 (tg.map encS) none, .v (.int .i64 fr), .v (.int .i64 t2), .v (.bool bb)] from rfl] at gx
  (repeat (first | refine gO rfl ?_ | (refine gM zM21 fun K1 hK1 => ?_; simp only [go_sem, ↓reduceIte, reduceCtorEq, nA, nB, nC, nD, nE, nF, hml, Int.toNat_natCast, gx, hTq, hle] <;> and_intros <;> first | (apply hK1; clear hK1 K1) | (intros; first | omega | decide) | skip)))
  refine ⟨g - 1, by omega, j + 1, by omega, ?_⟩
  rw [het, List.map_append]
  simp only [upd_upd]
  rfl
 ·simp only [decide_eq_false_iff_not] at h5
  have hjl : j = rs.length := by omega
  subst hjl
  rw [List.take_length] at hTq hlj hle ⊢
  obtain ⟨E, hE⟩ : ∃ E, edgesL rs = E := ⟨_, rfl⟩
  rw [hE] at hTq hlj hle ⊢
  rw [← hlj]
  have hEl : E.length ≤ 1000 := by omega
  have hTf : ∀ t, h.T t = none ∨ upd (upd h.T k (some (TO.cont 1 (E.map encI)))) k none t = h.T t := fun t => by
   by_cases e : t = k
   ·subst e; exact .inl hk
   ·exact .inr (by rw [upd_other _ _ e, upd_other _ _ e])
  by_cases h0 : 0 < E.length
  ·(repeat (first | refine gO rfl ?_ | (refine gM zM21 fun K1 hK1 => ?_; simp only [go_sem, ↓reduceIte, reduceCtorEq, nA, nB, nC, nD, nE, nF] <;> and_intros <;> first | (apply hK1; clear hK1 K1) | (intros; first | omega | decide) | skip)))
   refine (g_sortI k E ⟨h.H, upd h.T k (some (.cont 1 (E.map encI)))⟩ hTq h0 (by omega)).mono ?_; rintro _ hz ⟨rfl, hh⟩; apply hK1; clear hK1 K1; rw [hh]; clear hh hz
   (repeat (first | refine gO rfl ?_ | (refine gM zM21 fun K1 hK1 => ?_; simp only [go_sem, ↓reduceIte, reduceCtorEq, nA, nB, nC, nD, nE, nF] <;> and_intros <;> first | (apply hK1; clear hK1 K1) | (intros; first | omega | decide) | skip)))
   obtain ⟨S, hS⟩ : ∃ S, E.mergeSort (fun x y => decide (x ≤ y)) = S := ⟨_, rfl⟩
   have hSl : S.length = E.length := by rw [← hS, List.length_mergeSort]
   rw [hS, ← hSl]
   have hc := g_compI k S ⟨h.H, upd h.T k (some (.cont 1 (S.map encI)))⟩ (upd_same _ _ _) (by omega) (by omega)
   refine hc.mono ?_; rintro _ hz ⟨rfl, hh⟩; apply hK1; clear hK1 K1; rw [hh]; clear hh hz
   (repeat (first | refine gO rfl ?_ | (refine gM zM21 fun K1 hK1 => ?_; simp only [go_sem, ↓reduceIte, reduceCtorEq, nA, nB, nC, nD, nE, nF] <;> and_intros <;> first | (apply hK1; clear hK1 K1) | (intros; first | omega | decide) | skip)))
   simp only [Tryz.results77, go_sem, ↓reduceIte, reduceCtorEq, nA, nB, nC, nD, nE, nF]
   refine ⟨_, h, Weak.refl _, ⟨fun _ => .inr rfl, fun t => ?_⟩, by rw [← hS]; rfl, rfl⟩
   by_cases e : t = k
   ·subst e; exact .inl hk
   ·refine .inr ?_
    show h.T t = _
    simp only [upd_upd]
    rw [upd_other _ _ e]
  ·have hE0 : E = [] := List.eq_nil_of_length_eq_zero (by omega)
   subst hE0
   (repeat (first | refine gO rfl ?_ | (refine gM zM21 fun K1 hK1 => ?_; simp only [go_sem, ↓reduceIte, reduceCtorEq, nA, nB, nC, nD, nE, nF] <;> and_intros <;> first | (apply hK1; clear hK1 K1) | (intros; first | omega | decide) | skip)))
   refine (g_sortI0 k ⟨h.H, upd h.T k (some (.cont 1 []))⟩ (upd_same _ _ _)).mono ?_; rintro _ hz ⟨rfl, hh⟩; apply hK1; clear hK1 K1; rw [hh]; clear hh hz
   (repeat (first | refine gO rfl ?_ | (refine gM zM21 fun K1 hK1 => ?_; simp only [go_sem, ↓reduceIte, reduceCtorEq, nA, nB, nC, nD, nE, nF] <;> and_intros <;> first | (apply hK1; clear hK1 K1) | (intros; first | omega | decide) | skip)))
   refine (g_compI0 k ⟨h.H, upd h.T k (some (.cont 1 []))⟩ (upd_same _ _ _)).mono ?_; rintro _ hz ⟨rfl, hh⟩; apply hK1; clear hK1 K1; rw [hh]; clear hh hz
   (repeat (first | refine gO rfl ?_ | (refine gM zM21 fun K1 hK1 => ?_; simp only [go_sem, ↓reduceIte, reduceCtorEq, nA, nB, nC, nD, nE, nF] <;> and_intros <;> first | (apply hK1; clear hK1 K1) | (intros; first | omega | decide) | skip)))
   simp only [Tryz.results77, go_sem, ↓reduceIte, reduceCtorEq, nA, nB, nC, nD, nE, nF]
   refine ⟨_, h, Weak.refl _, ⟨fun _ => .inr rfl, fun t => ?_⟩, by simp [onceI, Lib.compact, Lib.compactUpTo], rfl⟩
   by_cases e : t = k
   ·subst e; exact .inl hk
   ·exact .inr (by show h.T t = upd h.T k _ t; rw [upd_other _ _ e])
def encW2 (w : Wnd) : List AV := [.v (.int .i64 w.1), .v (.int .i64 w.2)]
theorem nN_self (n : Nat) : ((n : Int) != (n : Int)) = false := by simp
theorem in_selfW (x : Int) : (x != x) = false := by simp
theorem i_selfW (x : Int) : (x == x) = true := by simp
theorem g_eqWnd (xs : List Wnd) (h : Hp) (hl : xs.length ≤ 1000000000) : ACalls Tryz.prog 23 [.row 2 (xs.map encW2) none, .row 2 (xs.map encW2) none] h (fun r h' => r = .v (.bool true) ∧ h' = h) := by
 have hlm : (xs.map encW2).length = xs.length := by simp
 refine gE Tryz.func23 rfl (by kernel_rfl) 24 rfl fun c => ?_
 (repeat (first | refine gO rfl ?_ | ((first | refine gR ?_ | (with_reducible refine wM ?_ ?_) | ((with_reducible refine xS ?_); refine uD 6 zM22 zP3E zP3P 26 rfl (by kernel_rfl) ?_)) <;> ((try with_reducible intro K1 hK1); simp only [go_sem, ↓reduceIte, reduceCtorEq, nA, nB, nC, nD, nE, nF, hlm, nN_self] <;> and_intros <;> first | (apply hK1; clear hK1 K1) | (intros; first | omega | decide | (simp_all <;> omega)) | skip))))
 refine awp_cond (t := _) rfl (fun h9 => by cases h9) (fun _ => ?_)
 (repeat (first | refine gO rfl ?_ | ((first | refine gR ?_ | (with_reducible refine wM ?_ ?_) | ((with_reducible refine xS ?_); refine uD 6 zM22 zP3E zP3P 26 rfl (by kernel_rfl) ?_)) <;> ((try with_reducible intro K1 hK1); simp only [go_sem, ↓reduceIte, reduceCtorEq, nA, nB, nC, nD, nE, nF, hlm] <;> and_intros <;> first | (apply hK1; clear hK1 K1) | (intros; first | omega | decide | (simp_all <;> omega)) | skip))))
 refine awp_loopC (rl false [0, 2, 9, 3, 12]) 0 (fun g s => ∃ j : Nat, g + j = xs.length ∧
  s = ⟨((.row 2 (xs.map encW2) none) :: (.row 2 (xs.map encW2) none) :: (jnk 9 ((.row 2 (xs.map encW2) none) :: (.v (.int .i64 xs.length)) :: (.v (.int .i64 j)) :: (jnk 12 [])))), [], h⟩) xs.length ⟨0, by omega, rfl⟩ ?_
 rintro g _ ⟨j, hj, rfl⟩
 (repeat (first | refine gO rfl ?_ | ((first | refine gR ?_ | (with_reducible refine wM ?_ ?_) | ((with_reducible refine xS ?_); refine uD 6 zM22 zP3E zP3P 26 rfl (by kernel_rfl) ?_)) <;> ((try with_reducible intro K1 hK1); simp only [go_sem, ↓reduceIte, reduceCtorEq, nA, nB, nC, nD, nE, nF] <;> and_intros <;> first | (apply hK1; clear hK1 K1) | (intros; first | omega | decide | (simp_all <;> omega)) | skip))))
 refine awp_cond (t := _) rfl (fun h1 => ?_) (fun h1 => ?_)
 ·simp only [decide_eq_true_eq] at h1
  have hjl : j < xs.length := by omega
  have gx : (xs.map encW2).getD j [] = encW2 (xs.getD j default) := getD_enc encW2 xs j default hjl
  generalize xs.getD j default = x at gx
  (repeat (first | refine gO rfl ?_ | ((first | refine gR ?_ | (with_reducible refine wM ?_ ?_) | ((with_reducible refine xS ?_); refine uD 6 zM22 zP3E zP3P 26 rfl (by kernel_rfl) ?_)) <;> ((try with_reducible intro K1 hK1); simp only [go_sem, ↓reduceIte, reduceCtorEq, nA, nB, nC, nD, nE, nF, Int.toNat_natCast, gx, encW2, hlm, hjl, i_selfW, in_selfW] <;> and_intros <;> first | (apply hK1; clear hK1 K1) | (intros; first | omega | decide | (simp_all <;> omega)) | skip))))
  refine awp_cond (t := _) rfl (fun h9 => by cases h9) (fun _ => ?_)
  (repeat (first | refine gO rfl ?_ | ((first | refine gR ?_ | (with_reducible refine wM ?_ ?_) | ((with_reducible refine xS ?_); refine uD 6 zM22 zP3E zP3P 26 rfl (by kernel_rfl) ?_)) <;> ((try with_reducible intro K1 hK1); simp only [go_sem, ↓reduceIte, reduceCtorEq, nA, nB, nC, nD, nE, nF] <;> and_intros <;> first | (apply hK1; clear hK1 K1) | (intros; first | omega | decide | (simp_all <;> omega)) | skip))))
  exact ⟨g - 1, by omega, j + 1, by omega, rfl⟩
 ·(repeat (first | refine gO rfl ?_ | ((first | refine gR ?_ | (with_reducible refine wM ?_ ?_) | ((with_reducible refine xS ?_); refine uD 6 zM22 zP3E zP3P 26 rfl (by kernel_rfl) ?_)) <;> ((try with_reducible intro K1 hK1); simp only [go_sem, ↓reduceIte, reduceCtorEq, nA, nB, nC, nD, nE, nF] <;> and_intros <;> first | (apply hK1; clear hK1 K1) | (intros; first | omega | decide | (simp_all <;> omega)) | skip))))
  simp only [Tryz.results23, go_sem, ↓reduceIte, reduceCtorEq, nA, nB, nC, nD, nE, nF]
  exact ⟨_, _, Weak.refl _, Hp.le.refl _, rfl, rfl⟩
abbrev zP4E : List Nat := [0, 1, 2, 3, 4, 5, 6]
abbrev zP4P : List (Nat × List Nat × List Nat) := [(7, [], [8])]
abbrev zP5E : List Nat := [0, 1, 2, 3, 4, 5, 6, 7, 8, 9, 10, 11, 12, 13]
abbrev zP5P : List (Nat × List Nat × List Nat) := []
abbrev zP6E : List Nat := [0, 1, 2, 3, 4, 5, 6, 7, 8, 9, 10, 11]
abbrev zP6P : List (Nat × List Nat × List Nat) := [(12, [], []), (13, [], [])]
attribute [go_sem] zP4E zP4P zP5E zP5P zP6E zP6P
theorem cuts0_take (item : ByteArray) (fr t2 : Int) (rs : List Rt) (j : Nat) (hj : j < rs.length) : cuts0 item fr t2 (rs.take (j + 1)) = cuts0 item fr t2 (rs.take j) ++ edgA item fr t2 rs[j] := by
 unfold cuts0
 rw [List.take_succ_eq_append_getElem hj, List.flatMap_append, List.append_assoc]
 simp
theorem runs_at (f : Int → Bool) (P : List Int) (acc : List Wnd) (i : Nat) (hi : i + 1 < P.length) : runsW f (P.drop i) acc = runsW f (P.drop (i + 1)) (if f P[i] then pushW acc P[i] P[i + 1] else acc) := by
 rw [List.drop_eq_getElem_cons (show i < P.length by omega), List.drop_eq_getElem_cons hi, runsW]
theorem runs_end (f : Int → Bool) (P : List Int) (acc : List Wnd) (i : Nat) (hi : i + 1 = P.length) : runsW f (P.drop i) acc = acc := by
 rw [List.drop_eq_getElem_cons (show i < P.length by omega), List.drop_of_length_le (by omega)]; rfl
theorem upd_back {T : Nat → Option TO} {k : Nat} (hk : T k = none) : upd T k none = T := by
 funext t
 by_cases e : t = k
 ·subst e; rw [upd_same, hk]
 ·rw [upd_other _ _ e]
theorem g_times (rs : List Rt) (p : Gu) (item : ByteArray) (fr t2 : Int) (kk : Option Nat) (hl : rs.length ≤ 500) (hok : ∀ r ∈ rs, RtOk r) (hp : GuOk p) (hs : p.tags.Pairwise fun a b => ltB a b = true) (h : Hp) :
  ACalls Tryz.prog 73 [.row 5 (rs.map encRt) kk, .agg (encGu p), .v (.string item), .agg [.v (.int .i64 fr), .v (.int .i64 t2)]] h (fun r h' => r = .row 2 ((timesP p.tags item fr t2 rs).map encW2) none ∧ h' = h) := by
 have hMay := fun x h => g_may rs p item x kk hl hok hp hs h
 obtain ⟨key, scr, zone, tags⟩ := p
 unfold encGu encGr at hMay ⊢
 simp only at hMay ⊢
 have hml : (rs.map encRt).length = rs.length := List.length_map _
 refine gE Tryz.func73 rfl (by kernel_rfl) 116 rfl fun c => ?_
 (repeat (first | refine gO rfl ?_ | ((first | refine gM zM23 ?_ | (with_reducible refine wM ?_ ?_) | ((with_reducible refine xS ?_); refine uD 18 zM23 zP4E zP4P 120 rfl (by kernel_rfl) ?_) | ((with_reducible refine xS ?_); refine uD 20 zM23 zP5E zP5P 120 rfl (by kernel_rfl) ?_) | ((with_reducible refine xR ?_); refine uE 22 zM23 zP6E zP6P 120 rfl (by kernel_rfl) ?_)) <;> ((try with_reducible intro K1 hK1); simp only [go_sem, ↓reduceIte, reduceCtorEq, nA, nB, nC, nD, nE, nF, hml] <;> and_intros <;> first | (apply hK1; clear hK1 K1) | (intros; first | omega | decide) | skip))))
 intro k hk
 replace hk : h.T k = none := hk
 refine hK1 _ ?_; clear hK1 K1
 (repeat (first | refine gO rfl ?_ | ((first | refine gM zM23 ?_ | (with_reducible refine wM ?_ ?_) | ((with_reducible refine xS ?_); refine uD 18 zM23 zP4E zP4P 120 rfl (by kernel_rfl) ?_) | ((with_reducible refine xS ?_); refine uD 20 zM23 zP5E zP5P 120 rfl (by kernel_rfl) ?_) | ((with_reducible refine xR ?_); refine uE 22 zM23 zP6E zP6P 120 rfl (by kernel_rfl) ?_)) <;> ((try with_reducible intro K1 hK1); simp only [go_sem, ↓reduceIte, reduceCtorEq, nA, nB, nC, nD, nE, nF, hml] <;> and_intros <;> first | (apply hK1; clear hK1 K1) | (intros; first | omega | decide) | skip))))
 refine awp_loopC (rl false [0, 1, 1, 1, 2, 1, 1, 1, 1, 1, 12, 3, 95]) 0 (fun g s => ∃ (j n : Nat) (xs : List Int), g + j = rs.length ∧ xs.length = n ∧ xs = cuts0 item fr t2 (rs.take j) ∧
  s = ⟨((.row 5 (rs.map encRt) kk) :: AV.junk :: ((.v (.string item)) :: AV.junk :: AV.junk :: ((.ref [.v (.string key), .v (.string scr), .v (.int .i64 zone), .row 1 (tags.map encS) none] 0) :: AV.junk :: ((.ref [.v (.int .i64 fr), .v (.int .i64 t2)] 0) :: AV.junk :: ((.arr 1 k n) :: (jnk 12 ((.row 5 (rs.map encRt) kk) :: (.v (.int .i64 rs.length)) :: (.v (.int .i64 j)) :: (jnk 95 [])))))))), [], ⟨h.H, upd h.T k (some (.cont 1 (xs.map encI)))⟩⟩) rs.length ⟨0, 2, [fr, t2], by omega, rfl, rfl, rfl⟩ ?_
 rintro g _ ⟨j, n, xs, hj, hn, hxs, rfl⟩
 (repeat (first | refine gO rfl ?_ | ((first | refine gM zM23 ?_ | (with_reducible refine wM ?_ ?_) | ((with_reducible refine xS ?_); refine uD 18 zM23 zP4E zP4P 120 rfl (by kernel_rfl) ?_) | ((with_reducible refine xS ?_); refine uD 20 zM23 zP5E zP5P 120 rfl (by kernel_rfl) ?_) | ((with_reducible refine xR ?_); refine uE 22 zM23 zP6E zP6P 120 rfl (by kernel_rfl) ?_)) <;> ((try with_reducible intro K1 hK1); simp only [go_sem, ↓reduceIte, reduceCtorEq, nA, nB, nC, nD, nE, nF] <;> and_intros <;> first | (apply hK1; clear hK1 K1) | (intros; first | omega | decide) | skip))))
 refine awp_cond (t := _) rfl (fun h5 => ?_) (fun h5 => ?_)
 ·simp only [decide_eq_true_eq] at h5
  have hjl : j < rs.length := by omega
  have gx : (rs.map encRt).getD j [] = encRt rs[j] := by rw [List.getD_eq_getElem?_getD, List.getElem?_map, List.getElem?_eq_getElem hjl]; rfl
  have het := cuts0_take item fr t2 rs j hjl
  rw [← hxs] at het
  generalize rs[j] = r at *
  obtain ⟨it, tg, a, b, bb⟩ := r
  rw [show encRt (it, tg, a, b, bb) = [.v (.string it), .row 1 (tg.map encS) none, .v (.int .i64 a), .v (.int .i64 b), .v (.bool bb)] from rfl] at gx
  have hea : edgA item fr t2 (it, tg, a, b, bb) = [a, b].filter fun n => decide (it = item) && (decide (fr < n) && decide (n < t2)) := rfl
  rw [hea] at het
  (repeat (first | refine gO rfl ?_ | ((first | refine gM zM23 ?_ | (with_reducible refine wM ?_ ?_) | ((with_reducible refine xS ?_); refine uD 18 zM23 zP4E zP4P 120 rfl (by kernel_rfl) ?_) | ((with_reducible refine xS ?_); refine uD 20 zM23 zP5E zP5P 120 rfl (by kernel_rfl) ?_) | ((with_reducible refine xR ?_); refine uE 22 zM23 zP6E zP6P 120 rfl (by kernel_rfl) ?_)) <;> ((try with_reducible intro K1 hK1); simp only [go_sem, ↓reduceIte, reduceCtorEq, nA, nB, nC, nD, nE, nF, hml, Int.toNat_natCast, gx] <;> and_intros <;> first | (apply hK1; clear hK1 K1) | (intros; first | omega | decide) | skip))))
  have hCl : xs.length ≤ 1002 := by rw [hxs]; have := cuts0_len item fr t2 (rs.take j); rw [List.length_take] at this; omega
  obtain ⟨C, hC⟩ : ∃ C, xs = C := ⟨_, rfl⟩
  rw [hC] at het hn hCl ⊢
  clear hxs hea hC xs
  refine awp_loopC (rl false [0, 1, 1, 1, 2, 1, 1, 1, 1, 1, 1, 1, 10, 3, 9, 2, 84]) 1 (fun g2 s => ∃ (iz : Int) (n : Nat) (xs : List Int), xs.length = n ∧ (iz = 0 ∧ g2 = 2 ∧ xs = C ∨ iz = 1 ∧ g2 = 1 ∧ xs = C ++ ([a].filter fun n => decide (it = item) && (decide (fr < n) && decide (n < t2))) ∨ iz = 2 ∧ g2 = 0 ∧ xs = C ++ ([a, b].filter fun n => decide (it = item) && (decide (fr < n) && decide (n < t2)))) ∧
   s = ⟨((.row 5 (rs.map encRt) kk) :: AV.junk :: ((.v (.string item)) :: AV.junk :: AV.junk :: ((.ref [.v (.string key), .v (.string scr), .v (.int .i64 zone), .row 1 (tags.map encS) none] 0) :: AV.junk :: ((.ref [.v (.int .i64 fr), .v (.int .i64 t2)] 0) :: AV.junk :: ((.arr 1 k n) :: AV.junk :: ((.loc 0 0) :: (jnk 10 ((.row 5 (rs.map encRt) kk) :: (.v (.int .i64 rs.length)) :: (.v (.int .i64 j)) :: (jnk 9 ((.agg [.v (.int .i64 a), .v (.int .i64 b)]) :: (.v (.int .i64 iz)) :: (jnk 84 []))))))))))), [[.v (.string it), .row 1 (tg.map encS) none, .v (.int .i64 a), .v (.int .i64 b), .v (.bool bb)]], ⟨h.H, upd h.T k (some (.cont 1 (xs.map encI)))⟩⟩) 2 ⟨0, n, C, hn, .inl ⟨rfl, rfl, rfl⟩, rfl⟩ ?_
  clear hn n
  rintro g2 _ ⟨iz, n, xs, hn, hc, rfl⟩
  have hTq : upd h.T k (some (TO.cont 1 (xs.map encI))) k = some (TO.cont 1 (xs.map encI)) := upd_same _ _ _
  have hle : (xs.map encI).length = n := by rw [List.length_map, hn]
  obtain ⟨x1, e1⟩ : ∃ c, (it == item) = c := ⟨_, rfl⟩
  have hnb : n ≤ 1100 := by
   have f1 : ∀ l : List Int, (l.filter fun n => decide (it = item) && (decide (fr < n) && decide (n < t2))).length ≤ l.length := fun l => List.length_filter_le _ _
   have f2 := f1 [a]
   have f3 := f1 [a, b]
   simp only [List.length_cons, List.length_nil] at f2 f3
   rw [← hn]
   rcases hc with ⟨_, _, e⟩ | ⟨_, _, e⟩ | ⟨_, _, e⟩ <;> rw [e] <;> (try simp only [List.length_append]) <;> omega
  have g0 : ∀ d, [AV.v (.int .i64 a), AV.v (.int .i64 b)].getD (Int.toNat 0 * 1) d = .v (.int .i64 a) := fun _ => rfl
  have g1 : ∀ d, [AV.v (.int .i64 a), AV.v (.int .i64 b)].getD (Int.toNat 1 * 1) d = .v (.int .i64 b) := fun _ => rfl
  rcases hc with ⟨rfl, rfl, hx⟩ | ⟨rfl, rfl, hx⟩ | ⟨rfl, rfl, hx⟩
  ·(repeat (first | refine gO rfl ?_ | ((first | refine gM zM23 ?_ | (with_reducible refine wM ?_ ?_) | ((with_reducible refine xS ?_); refine uD 18 zM23 zP4E zP4P 120 rfl (by kernel_rfl) ?_) | ((with_reducible refine xS ?_); refine uD 20 zM23 zP5E zP5P 120 rfl (by kernel_rfl) ?_) | ((with_reducible refine xR ?_); refine uE 22 zM23 zP6E zP6P 120 rfl (by kernel_rfl) ?_)) <;> ((try with_reducible intro K1 hK1); simp only [go_sem, ↓reduceIte, reduceCtorEq, nA, nB, nC, nD, nE, nF] <;> and_intros <;> first | (apply hK1; clear hK1 K1) | (intros; first | omega | decide) | skip))))
   refine awp_cond (t := _) rfl (fun _ => ?_) (fun h6 => by cases h6)
   subst hx
   obtain ⟨x2, e2⟩ : ∃ c, decide (fr < a) = c := ⟨_, rfl⟩
   obtain ⟨x3, e3⟩ : ∃ c, decide (a < t2) = c := ⟨_, rfl⟩
   have hq : (decide (it = item) && (decide (fr < a) && decide (a < t2))) = (x1 && (x2 && x3)) := by rw [← ba_beq, e1, e2, e3]
   cases hxx : (x1 && (x2 && x3)) with
   | false =>
    have hc4 : x1 = false ∨ (x1 = true ∧ x2 = false) ∨ (x1 = true ∧ x2 = true ∧ x3 = false) := by
     cases x1 <;> cases x2 <;> cases x3 <;> simp at hxx <;> simp
    rcases hc4 with rfl | ⟨rfl, rfl⟩ | ⟨rfl, rfl, rfl⟩
    all_goals
     (repeat (first | refine gO rfl ?_ | ((first | refine gM zM23 ?_ | (with_reducible refine wM ?_ ?_) | ((with_reducible refine xS ?_); refine uD 18 zM23 zP4E zP4P 120 rfl (by kernel_rfl) ?_) | ((with_reducible refine xS ?_); refine uD 20 zM23 zP5E zP5P 120 rfl (by kernel_rfl) ?_) | ((with_reducible refine xR ?_); refine uE 22 zM23 zP6E zP6P 120 rfl (by kernel_rfl) ?_)) <;> ((try with_reducible intro K1 hK1); simp only [go_sem, ↓reduceIte, reduceCtorEq, nA, nB, nC, nD, nE, nF, g0, e1, e2, e3] <;> and_intros <;> first | (apply hK1; clear hK1 K1) | (intros; first | omega | decide) | skip))))
     refine awp_cond (t := _) rfl (fun h6 => by cases h6) (fun _ => ?_)
     (repeat (first | refine gO rfl ?_ | ((first | refine gM zM23 ?_ | (with_reducible refine wM ?_ ?_) | ((with_reducible refine xS ?_); refine uD 18 zM23 zP4E zP4P 120 rfl (by kernel_rfl) ?_) | ((with_reducible refine xS ?_); refine uD 20 zM23 zP5E zP5P 120 rfl (by kernel_rfl) ?_) | ((with_reducible refine xR ?_); refine uE 22 zM23 zP6E zP6P 120 rfl (by kernel_rfl) ?_)) <;> ((try with_reducible intro K1 hK1); simp only [go_sem, ↓reduceIte, reduceCtorEq, nA, nB, nC, nD, nE, nF] <;> and_intros <;> first | (apply hK1; clear hK1 K1) | (intros; first | omega | decide) | skip))))
     exact ⟨_, by decide, _, _, xs, hn, .inr (.inl ⟨rfl, rfl, by simp [hq]⟩), rfl⟩
   | true =>
    simp only [Bool.and_eq_true] at hxx
    obtain ⟨rfl, rfl, rfl⟩ := hxx
    (repeat (first | refine gO rfl ?_ | ((first | refine gM zM23 ?_ | (with_reducible refine wM ?_ ?_) | ((with_reducible refine xS ?_); refine uD 18 zM23 zP4E zP4P 120 rfl (by kernel_rfl) ?_) | ((with_reducible refine xS ?_); refine uD 20 zM23 zP5E zP5P 120 rfl (by kernel_rfl) ?_) | ((with_reducible refine xR ?_); refine uE 22 zM23 zP6E zP6P 120 rfl (by kernel_rfl) ?_)) <;> ((try with_reducible intro K1 hK1); simp only [go_sem, ↓reduceIte, reduceCtorEq, nA, nB, nC, nD, nE, nF, g0, e1, e2, e3] <;> and_intros <;> first | (apply hK1; clear hK1 K1) | (intros; first | omega | decide) | skip))))
    refine awp_cond (t := _) rfl (fun _ => ?_) (fun h6 => by cases h6)
    (repeat (first | refine gO rfl ?_ | ((first | refine gM zM23 ?_ | (with_reducible refine wM ?_ ?_) | ((with_reducible refine xS ?_); refine uD 18 zM23 zP4E zP4P 120 rfl (by kernel_rfl) ?_) | ((with_reducible refine xS ?_); refine uD 20 zM23 zP5E zP5P 120 rfl (by kernel_rfl) ?_) | ((with_reducible refine xR ?_); refine uE 22 zM23 zP6E zP6P 120 rfl (by kernel_rfl) ?_)) <;> ((try with_reducible intro K1 hK1); simp only [go_sem, ↓reduceIte, reduceCtorEq, nA, nB, nC, nD, nE, nF, hTq, hle] <;> and_intros <;> first | (apply hK1; clear hK1 K1) | (intros; first | omega | decide) | skip))))
    refine ⟨_, by decide, _, n + 1, xs ++ [a], by simp [hn], .inr (.inl ⟨rfl, rfl, by simp [hq]⟩), ?_⟩
    rw [List.map_append]
    (try simp only [upd_upd])
    rfl
  ·(repeat (first | refine gO rfl ?_ | ((first | refine gM zM23 ?_ | (with_reducible refine wM ?_ ?_) | ((with_reducible refine xS ?_); refine uD 18 zM23 zP4E zP4P 120 rfl (by kernel_rfl) ?_) | ((with_reducible refine xS ?_); refine uD 20 zM23 zP5E zP5P 120 rfl (by kernel_rfl) ?_) | ((with_reducible refine xR ?_); refine uE 22 zM23 zP6E zP6P 120 rfl (by kernel_rfl) ?_)) <;> ((try with_reducible intro K1 hK1); simp only [go_sem, ↓reduceIte, reduceCtorEq, nA, nB, nC, nD, nE, nF] <;> and_intros <;> first | (apply hK1; clear hK1 K1) | (intros; first | omega | decide) | skip))))
   refine awp_cond (t := _) rfl (fun _ => ?_) (fun h6 => by cases h6)
   obtain ⟨x2, e2⟩ : ∃ c, decide (fr < b) = c := ⟨_, rfl⟩
   obtain ⟨x3, e3⟩ : ∃ c, decide (b < t2) = c := ⟨_, rfl⟩
   have hq : (decide (it = item) && (decide (fr < b) && decide (b < t2))) = (x1 && (x2 && x3)) := by rw [← ba_beq, e1, e2, e3]
   cases hxx : (x1 && (x2 && x3)) with
   | false =>
    have hc4 : x1 = false ∨ (x1 = true ∧ x2 = false) ∨ (x1 = true ∧ x2 = true ∧ x3 = false) := by
     cases x1 <;> cases x2 <;> cases x3 <;> simp at hxx <;> simp
    rcases hc4 with rfl | ⟨rfl, rfl⟩ | ⟨rfl, rfl, rfl⟩
    all_goals
     (repeat (first | refine gO rfl ?_ | ((first | refine gM zM23 ?_ | (with_reducible refine wM ?_ ?_) | ((with_reducible refine xS ?_); refine uD 18 zM23 zP4E zP4P 120 rfl (by kernel_rfl) ?_) | ((with_reducible refine xS ?_); refine uD 20 zM23 zP5E zP5P 120 rfl (by kernel_rfl) ?_) | ((with_reducible refine xR ?_); refine uE 22 zM23 zP6E zP6P 120 rfl (by kernel_rfl) ?_)) <;> ((try with_reducible intro K1 hK1); simp only [go_sem, ↓reduceIte, reduceCtorEq, nA, nB, nC, nD, nE, nF, g1, e1, e2, e3] <;> and_intros <;> first | (apply hK1; clear hK1 K1) | (intros; first | omega | decide) | skip))))
     refine awp_cond (t := _) rfl (fun h6 => by cases h6) (fun _ => ?_)
     (repeat (first | refine gO rfl ?_ | ((first | refine gM zM23 ?_ | (with_reducible refine wM ?_ ?_) | ((with_reducible refine xS ?_); refine uD 18 zM23 zP4E zP4P 120 rfl (by kernel_rfl) ?_) | ((with_reducible refine xS ?_); refine uD 20 zM23 zP5E zP5P 120 rfl (by kernel_rfl) ?_) | ((with_reducible refine xR ?_); refine uE 22 zM23 zP6E zP6P 120 rfl (by kernel_rfl) ?_)) <;> ((try with_reducible intro K1 hK1); simp only [go_sem, ↓reduceIte, reduceCtorEq, nA, nB, nC, nD, nE, nF] <;> and_intros <;> first | (apply hK1; clear hK1 K1) | (intros; first | omega | decide) | skip))))
     exact ⟨_, by decide, _, _, xs, hn, .inr (.inr ⟨rfl, rfl, by rw [hx]; simp [List.filter_cons, hq]; try (split <;> rfl)⟩), rfl⟩
   | true =>
    simp only [Bool.and_eq_true] at hxx
    obtain ⟨rfl, rfl, rfl⟩ := hxx
    (repeat (first | refine gO rfl ?_ | ((first | refine gM zM23 ?_ | (with_reducible refine wM ?_ ?_) | ((with_reducible refine xS ?_); refine uD 18 zM23 zP4E zP4P 120 rfl (by kernel_rfl) ?_) | ((with_reducible refine xS ?_); refine uD 20 zM23 zP5E zP5P 120 rfl (by kernel_rfl) ?_) | ((with_reducible refine xR ?_); refine uE 22 zM23 zP6E zP6P 120 rfl (by kernel_rfl) ?_)) <;> ((try with_reducible intro K1 hK1); simp only [go_sem, ↓reduceIte, reduceCtorEq, nA, nB, nC, nD, nE, nF, g1, e1, e2, e3] <;> and_intros <;> first | (apply hK1; clear hK1 K1) | (intros; first | omega | decide) | skip))))
    refine awp_cond (t := _) rfl (fun _ => ?_) (fun h6 => by cases h6)
    (repeat (first | refine gO rfl ?_ | ((first | refine gM zM23 ?_ | (with_reducible refine wM ?_ ?_) | ((with_reducible refine xS ?_); refine uD 18 zM23 zP4E zP4P 120 rfl (by kernel_rfl) ?_) | ((with_reducible refine xS ?_); refine uD 20 zM23 zP5E zP5P 120 rfl (by kernel_rfl) ?_) | ((with_reducible refine xR ?_); refine uE 22 zM23 zP6E zP6P 120 rfl (by kernel_rfl) ?_)) <;> ((try with_reducible intro K1 hK1); simp only [go_sem, ↓reduceIte, reduceCtorEq, nA, nB, nC, nD, nE, nF, hTq, hle] <;> and_intros <;> first | (apply hK1; clear hK1 K1) | (intros; first | omega | decide) | skip))))
    refine ⟨_, by decide, _, n + 1, xs ++ [b], by simp [hn], .inr (.inr ⟨rfl, rfl, by rw [hx]; simp [List.filter_cons, hq]; try (split <;> rfl)⟩), ?_⟩
    rw [List.map_append]
    (try simp only [upd_upd])
    rfl
  ·(repeat (first | refine gO rfl ?_ | ((first | refine gM zM23 ?_ | (with_reducible refine wM ?_ ?_) | ((with_reducible refine xS ?_); refine uD 18 zM23 zP4E zP4P 120 rfl (by kernel_rfl) ?_) | ((with_reducible refine xS ?_); refine uD 20 zM23 zP5E zP5P 120 rfl (by kernel_rfl) ?_) | ((with_reducible refine xR ?_); refine uE 22 zM23 zP6E zP6P 120 rfl (by kernel_rfl) ?_)) <;> ((try with_reducible intro K1 hK1); simp only [go_sem, ↓reduceIte, reduceCtorEq, nA, nB, nC, nD, nE, nF] <;> and_intros <;> first | (apply hK1; clear hK1 K1) | (intros; first | omega | decide) | skip))))
   refine awp_cond (t := _) rfl (fun h6 => by cases h6) (fun _ => ?_)
   (repeat (first | refine gO rfl ?_ | ((first | refine gM zM23 ?_ | (with_reducible refine wM ?_ ?_) | ((with_reducible refine xS ?_); refine uD 18 zM23 zP4E zP4P 120 rfl (by kernel_rfl) ?_) | ((with_reducible refine xS ?_); refine uD 20 zM23 zP5E zP5P 120 rfl (by kernel_rfl) ?_) | ((with_reducible refine xR ?_); refine uE 22 zM23 zP6E zP6P 120 rfl (by kernel_rfl) ?_)) <;> ((try with_reducible intro K1 hK1); simp only [go_sem, ↓reduceIte, reduceCtorEq, nA, nB, nC, nD, nE, nF] <;> and_intros <;> first | (apply hK1; clear hK1 K1) | (intros; first | omega | decide) | skip))))
   refine ⟨g - 1, by omega, j + 1, n, xs, by omega, hn, by rw [het, hx], rfl⟩
 ·simp only [decide_eq_false_iff_not] at h5
  have hjl : j = rs.length := by omega
  subst hjl
  rw [List.take_length] at hxs
  have hEl := cuts0_len item fr t2 rs
  have hE2 : 2 ≤ (cuts0 item fr t2 rs).length := by unfold cuts0; simp
  have hok1 := onceI_ok (cuts0 item fr t2 rs)
  have hol := onceI_len (cuts0 item fr t2 rs)
  have hfm : fr ∈ cuts0 item fr t2 rs := by unfold cuts0; simp
  have htm : timesP tags item fr t2 rs = runsW (fun x => mayL tags item x rs false) (onceI (cuts0 item fr t2 rs)) [] := rfl
  rw [htm]
  rw [← hxs] at hEl hE2 hok1 hol hfm ⊢
  subst hn
  clear hxs htm
  (repeat (first | refine gO rfl ?_ | ((first | refine gM zM23 ?_ | (with_reducible refine wM ?_ ?_) | ((with_reducible refine xS ?_); refine uD 18 zM23 zP4E zP4P 120 rfl (by kernel_rfl) ?_) | ((with_reducible refine xS ?_); refine uD 20 zM23 zP5E zP5P 120 rfl (by kernel_rfl) ?_) | ((with_reducible refine xR ?_); refine uE 22 zM23 zP6E zP6P 120 rfl (by kernel_rfl) ?_)) <;> ((try with_reducible intro K1 hK1); simp only [go_sem, ↓reduceIte, reduceCtorEq, nA, nB, nC, nD, nE, nF] <;> and_intros <;> first | (apply hK1; clear hK1 K1) | (intros; first | omega | decide) | skip))))
  refine (g_sortI k xs ⟨h.H, upd h.T k (some (.cont 1 (xs.map encI)))⟩ (upd_same _ _ _) (by omega) (by omega)).mono ?_; rintro _ hz ⟨rfl, hh⟩; apply hK1; clear hK1 K1; rw [hh]; clear hh hz
  (repeat (first | refine gO rfl ?_ | ((first | refine gM zM23 ?_ | (with_reducible refine wM ?_ ?_) | ((with_reducible refine xS ?_); refine uD 18 zM23 zP4E zP4P 120 rfl (by kernel_rfl) ?_) | ((with_reducible refine xS ?_); refine uD 20 zM23 zP5E zP5P 120 rfl (by kernel_rfl) ?_) | ((with_reducible refine xR ?_); refine uE 22 zM23 zP6E zP6P 120 rfl (by kernel_rfl) ?_)) <;> ((try with_reducible intro K1 hK1); simp only [go_sem, ↓reduceIte, reduceCtorEq, nA, nB, nC, nD, nE, nF] <;> and_intros <;> first | (apply hK1; clear hK1 K1) | (intros; first | omega | decide) | skip))))
  obtain ⟨S, hS⟩ : ∃ S, xs.mergeSort (fun x y => decide (x ≤ y)) = S := ⟨_, rfl⟩
  have hSl : S.length = xs.length := by rw [← hS, List.length_mergeSort]
  have hSP : onceI xs = Lib.compact S := by rw [← hS]; rfl
  rw [hS, ← hSl]
  refine (g_compI k S ⟨h.H, upd h.T k (some (.cont 1 (S.map encI)))⟩ (upd_same _ _ _) (by omega) (by omega)).mono ?_; rintro _ hz ⟨rfl, hh⟩; apply hK1; clear hK1 K1; rw [hh]; clear hh hz
  rw [← hSP]
  simp only [upd_upd]
  rw [upd_back hk]
  obtain ⟨P, hP⟩ : ∃ P, onceI xs = P := ⟨_, rfl⟩
  rw [hP] at hok1 hol ⊢
  have hP1 : 1 ≤ P.length := List.length_pos_of_mem ((hok1.2 fr).2 hfm)
  have hPl : P.length ≤ 1100 := by omega
  clear hSP hS hP hfm hok1 hol hE2 hEl
  have hmp : (P.map encI).length = P.length := List.length_map _
  (repeat (first | refine gQ rfl ?_ | ((first | refine gM zM23 ?_ | (with_reducible refine wM ?_ ?_) | ((with_reducible refine xS ?_); refine uD 18 zM23 zP4E zP4P 120 rfl (by kernel_rfl) ?_) | ((with_reducible refine xS ?_); refine uD 20 zM23 zP5E zP5P 120 rfl (by kernel_rfl) ?_) | ((with_reducible refine xR ?_); refine uE 22 zM23 zP6E zP6P 120 rfl (by kernel_rfl) ?_)) <;> ((try with_reducible intro K1 hK1); simp only [go_sem, ↓reduceIte, reduceCtorEq, nA, nB, nC, nD, nE, nF] <;> and_intros <;> first | (apply hK1; clear hK1 K1) | (intros; first | omega | decide | (simp_all <;> omega)) | skip))))
  refine awp_seq ?_
  refine awp_ownA 14 2 rfl ⟨rfl, rfl⟩ (fun k2 hk2 => ?_)
  replace hk2 : h.T k2 = none := hk2
  (repeat (first | refine gO rfl ?_ | ((first | refine gM zM23 ?_ | (with_reducible refine wM ?_ ?_) | ((with_reducible refine xS ?_); refine uD 18 zM23 zP4E zP4P 120 rfl (by kernel_rfl) ?_) | ((with_reducible refine xS ?_); refine uD 20 zM23 zP5E zP5P 120 rfl (by kernel_rfl) ?_) | ((with_reducible refine xR ?_); refine uE 22 zM23 zP6E zP6P 120 rfl (by kernel_rfl) ?_)) <;> ((try with_reducible intro K1 hK1); simp only [go_sem, ↓reduceIte, reduceCtorEq, nA, nB, nC, nD, nE, nF, hmp] <;> and_intros <;> first | (apply hK1; clear hK1 K1) | (intros; first | omega | decide) | skip))))
  refine awp_loopC (rl false [0, 1, 1, 1, 2, 1, 3, 1, 4, 2, 104]) 0 (fun g s => ∃ (i n : Nat) (acc : List Wnd), g + (i + 1) = P.length ∧ acc.length = n ∧ n ≤ i ∧ runsW (fun x => mayL tags item x rs false) (P.drop i) acc = runsW (fun x => mayL tags item x rs false) P [] ∧
   s = ⟨((.row 5 (rs.map encRt) kk) :: AV.junk :: ((.v (.string item)) :: AV.junk :: AV.junk :: ((.ref [.v (.string key), .v (.string scr), .v (.int .i64 zone), .row 1 (tags.map encS) none] 0) :: (jnk 3 ((.row 1 (P.map encI) none) :: (jnk 4 ((.arr 2 k2 n) :: (.v (.int .i64 i)) :: (jnk 104 [])))))))), [], ⟨h.H, upd h.T k2 (some (.cont 2 (acc.map encW2)))⟩⟩) (P.length - 1) ⟨0, 0, [], by omega, rfl, Nat.le_refl _, rfl, rfl⟩ ?_
  rintro g _ ⟨i, n, acc, hg, hn, hni, hinv, rfl⟩
  have hTq : upd h.T k2 (some (TO.cont 2 (acc.map encW2))) k2 = some (TO.cont 2 (acc.map encW2)) := upd_same _ _ _
  have hla : (acc.map encW2).length = n := by rw [List.length_map, hn]
  (repeat (first | refine gO rfl ?_ | ((first | refine gM zM23 ?_ | (with_reducible refine wM ?_ ?_) | ((with_reducible refine xS ?_); refine uD 18 zM23 zP4E zP4P 120 rfl (by kernel_rfl) ?_) | ((with_reducible refine xS ?_); refine uD 20 zM23 zP5E zP5P 120 rfl (by kernel_rfl) ?_) | ((with_reducible refine xR ?_); refine uE 22 zM23 zP6E zP6P 120 rfl (by kernel_rfl) ?_)) <;> ((try with_reducible intro K1 hK1); simp only [go_sem, ↓reduceIte, reduceCtorEq, nA, nB, nC, nD, nE, nF, hmp] <;> and_intros <;> first | (apply hK1; clear hK1 K1) | (intros; first | omega | decide) | skip))))
  refine awp_cond (t := _) rfl (fun h5 => ?_) (fun h5 => ?_)
  ·simp only [decide_eq_true_eq] at h5
   have hi : i + 1 < P.length := by omega
   have gP : (P.map encI).getD i [] = [.v (.int .i64 P[i])] := by rw [List.getD_eq_getElem?_getD, List.getElem?_map, List.getElem?_eq_getElem (show i < P.length by omega)]; rfl
   have gP1 : (P.map encI).getD (i + 1) [] = [.v (.int .i64 P[i + 1])] := by rw [List.getD_eq_getElem?_getD, List.getElem?_map, List.getElem?_eq_getElem hi]; rfl
   have ht1 : ((i : Int) + 1).toNat = i + 1 := by omega
   rw [runs_at _ P acc i hi] at hinv
   generalize P[i] = a at *
   generalize P[i + 1] = b at *
   (repeat (first | refine gO rfl ?_ | ((first | refine gM zM23 ?_ | (with_reducible refine wM ?_ ?_) | ((with_reducible refine xS ?_); refine uD 18 zM23 zP4E zP4P 120 rfl (by kernel_rfl) ?_) | ((with_reducible refine xS ?_); refine uD 20 zM23 zP5E zP5P 120 rfl (by kernel_rfl) ?_) | ((with_reducible refine xR ?_); refine uE 22 zM23 zP6E zP6P 120 rfl (by kernel_rfl) ?_)) <;> ((try with_reducible intro K1 hK1); simp only [go_sem, ↓reduceIte, reduceCtorEq, nA, nB, nC, nD, nE, nF, hmp, Int.toNat_natCast, gP] <;> and_intros <;> first | (apply hK1; clear hK1 K1) | (intros; first | omega | decide) | skip))))
   refine (hMay a _).mono ?_; rintro _ hz ⟨rfl, hh⟩; apply hK1; clear hK1 K1; rw [hh]; clear hh hz
   (repeat (first | refine gO rfl ?_ | ((first | refine gM zM23 ?_ | (with_reducible refine wM ?_ ?_) | ((with_reducible refine xS ?_); refine uD 18 zM23 zP4E zP4P 120 rfl (by kernel_rfl) ?_) | ((with_reducible refine xS ?_); refine uD 20 zM23 zP5E zP5P 120 rfl (by kernel_rfl) ?_) | ((with_reducible refine xR ?_); refine uE 22 zM23 zP6E zP6P 120 rfl (by kernel_rfl) ?_)) <;> ((try with_reducible intro K1 hK1); simp only [go_sem, ↓reduceIte, reduceCtorEq, nA, nB, nC, nD, nE, nF] <;> and_intros <;> first | (apply hK1; clear hK1 K1) | (intros; first | omega | decide) | skip))))
   all_goals try with_reducible rfl
   (repeat (first | refine gO rfl ?_ | ((first | refine gM zM23 ?_ | (with_reducible refine wM ?_ ?_) | ((with_reducible refine xS ?_); refine uD 18 zM23 zP4E zP4P 120 rfl (by kernel_rfl) ?_) | ((with_reducible refine xS ?_); refine uD 20 zM23 zP5E zP5P 120 rfl (by kernel_rfl) ?_) | ((with_reducible refine xR ?_); refine uE 22 zM23 zP6E zP6P 120 rfl (by kernel_rfl) ?_)) <;> ((try with_reducible intro K1 hK1); simp only [go_sem, ↓reduceIte, reduceCtorEq, nA, nB, nC, nD, nE, nF] <;> and_intros <;> first | (apply hK1; clear hK1 K1) | (intros; first | omega | decide) | skip))))
   cases hm : mayL tags item a rs false with
   | false =>
    rw [hm, if_neg (by decide)] at hinv
    refine awp_cond (t := _) rfl (fun _ => ?_) (fun h6 => by cases h6)
    (repeat (first | refine gO rfl ?_ | ((first | refine gM zM23 ?_ | (with_reducible refine wM ?_ ?_) | ((with_reducible refine xS ?_); refine uD 18 zM23 zP4E zP4P 120 rfl (by kernel_rfl) ?_) | ((with_reducible refine xS ?_); refine uD 20 zM23 zP5E zP5P 120 rfl (by kernel_rfl) ?_) | ((with_reducible refine xR ?_); refine uE 22 zM23 zP6E zP6P 120 rfl (by kernel_rfl) ?_)) <;> ((try with_reducible intro K1 hK1); simp only [go_sem, ↓reduceIte, reduceCtorEq, nA, nB, nC, nD, nE, nF] <;> and_intros <;> first | (apply hK1; clear hK1 K1) | (intros; first | omega | decide) | skip))))
    exact ⟨g - 1, by omega, i + 1, n, acc, by omega, hn, by omega, hinv, rfl⟩
   | true =>
    rw [hm, if_pos rfl] at hinv
    refine awp_cond (t := _) rfl (fun h6 => by cases h6) (fun _ => ?_)
    rcases List.eq_nil_or_concat acc with e0 | ⟨acc', w, e0⟩
    ·subst e0
     have hn0 : n = 0 := by rw [← hn]; rfl
     have hd0 : decide ((0 : Int) ≤ (n : Int) - 1) = false := by simp only [decide_eq_false_iff_not]; omega
     have hgn : ([] : List (List AV)).getD ((n : Int) - 1).toNat [] = [] := rfl
     rw [List.map_nil] at hTq hla
     (repeat (first | refine gO rfl ?_ | ((first | refine gM zM23 ?_ | (with_reducible refine wM ?_ ?_) | ((with_reducible refine xS ?_); refine uD 18 zM23 zP4E zP4P 120 rfl (by kernel_rfl) ?_) | ((with_reducible refine xS ?_); refine uD 20 zM23 zP5E zP5P 120 rfl (by kernel_rfl) ?_) | ((with_reducible refine xR ?_); refine uE 22 zM23 zP6E zP6P 120 rfl (by kernel_rfl) ?_)) <;> ((try with_reducible intro K1 hK1); simp only [go_sem, ↓reduceIte, reduceCtorEq, nA, nB, nC, nD, nE, nF, hTq, hla, hd0, hmp, Int.toNat_natCast, gP, hgn, List.getD_nil] <;> and_intros <;> first | (apply hK1; clear hK1 K1) | (intros; first | omega | decide) | skip))))
     refine ⟨.v (.bool false), rfl, ?_⟩
     apply hK1; clear hK1 K1
     (repeat (first | refine gO rfl ?_ | ((first | refine gM zM23 ?_ | (with_reducible refine wM ?_ ?_) | ((with_reducible refine xS ?_); refine uD 18 zM23 zP4E zP4P 120 rfl (by kernel_rfl) ?_) | ((with_reducible refine xS ?_); refine uD 20 zM23 zP5E zP5P 120 rfl (by kernel_rfl) ?_) | ((with_reducible refine xR ?_); refine uE 22 zM23 zP6E zP6P 120 rfl (by kernel_rfl) ?_)) <;> ((try with_reducible intro K1 hK1); simp only [go_sem, ↓reduceIte, reduceCtorEq, nA, nB, nC, nD, nE, nF] <;> and_intros <;> first | (apply hK1; clear hK1 K1) | (intros; first | omega | decide) | skip))))
     refine awp_cond (t := _) rfl (fun h6 => by cases h6) (fun _ => ?_)
     clear hd0 hgn hla hn
     subst hn0
     (repeat (first | refine gO rfl ?_ | ((first | refine gM zM23 ?_ | (with_reducible refine wM ?_ ?_) | ((with_reducible refine xS ?_); refine uD 18 zM23 zP4E zP4P 120 rfl (by kernel_rfl) ?_) | ((with_reducible refine xS ?_); refine uD 20 zM23 zP5E zP5P 120 rfl (by kernel_rfl) ?_) | ((with_reducible refine xR ?_); refine uE 22 zM23 zP6E zP6P 120 rfl (by kernel_rfl) ?_)) <;> ((try with_reducible intro K1 hK1); simp only [go_sem, ↓reduceIte, reduceCtorEq, nA, nB, nC, nD, nE, nF, hTq, hmp, Int.toNat_natCast, gP, gP1, ht1] <;> and_intros <;> first | (apply hK1; clear hK1 K1) | (intros; first | omega | decide) | skip))))
     exact ⟨g - 1, by omega, i + 1, 1, [(a, b)], by omega, rfl, by omega, hinv, rfl⟩
    ·rw [List.concat_eq_append] at e0
     subst e0
     obtain ⟨m, hm0⟩ : ∃ m, acc'.length = m := ⟨_, rfl⟩
     have hnm : n = m + 1 := by rw [← hn, ← hm0]; simp
     obtain ⟨w1, w2⟩ := w
     have hd0 : decide ((0 : Int) ≤ (n : Int) - 1) = true := by simp only [decide_eq_true_eq]; omega
     have ht2 : ((n : Int) - 1).toNat = m := by omega
     have gA : ((acc' ++ [(w1, w2)]).map encW2).getD m [] = [.v (.int .i64 w1), .v (.int .i64 w2)] := by
      rw [List.map_append, List.getD_eq_getElem?_getD, List.getElem?_append_right (by simp [hm0])]
      simp [hm0, encW2]
     have hst : ∀ X, ((acc' ++ [(w1, w2)]).map encW2).set m X = acc'.map encW2 ++ [X] := fun X => by
      rw [List.map_append, List.set_append_right _ _ (by simp [hm0])]
      simp [hm0]
     have hpw : pushW (acc' ++ [(w1, w2)]) a b = if w2 = a then acc' ++ [(w1, b)] else acc' ++ [(w1, w2)] ++ [(a, b)] := by
      unfold pushW
      rw [List.getLast?_append]
      simp
     rw [hpw] at hinv
     clear hpw
     by_cases hwa : w2 = a
     ·rw [if_pos hwa] at hinv
      have hqe : (w2 == a) = true := by simpa using hwa
      (repeat (first | refine gO rfl ?_ | ((first | refine gM zM23 ?_ | (with_reducible refine wM ?_ ?_) | ((with_reducible refine xS ?_); refine uD 18 zM23 zP4E zP4P 120 rfl (by kernel_rfl) ?_) | ((with_reducible refine xS ?_); refine uD 20 zM23 zP5E zP5P 120 rfl (by kernel_rfl) ?_) | ((with_reducible refine xR ?_); refine uE 22 zM23 zP6E zP6P 120 rfl (by kernel_rfl) ?_)) <;> ((try with_reducible intro K1 hK1); simp only [go_sem, ↓reduceIte, reduceCtorEq, nA, nB, nC, nD, nE, nF, hTq, hla, hd0, hmp, Int.toNat_natCast, gP, ht2, gA, hqe] <;> and_intros <;> first | (apply hK1; clear hK1 K1) | (intros; first | omega | decide) | skip))))
      refine awp_cond (t := _) rfl (fun _ => ?_) (fun h6 => by cases h6)
      (repeat (first | refine gO rfl ?_ | ((first | refine gM zM23 ?_ | (with_reducible refine wM ?_ ?_) | ((with_reducible refine xS ?_); refine uD 18 zM23 zP4E zP4P 120 rfl (by kernel_rfl) ?_) | ((with_reducible refine xS ?_); refine uD 20 zM23 zP5E zP5P 120 rfl (by kernel_rfl) ?_) | ((with_reducible refine xR ?_); refine uE 22 zM23 zP6E zP6P 120 rfl (by kernel_rfl) ?_)) <;> ((try with_reducible intro K1 hK1); simp only [go_sem, ↓reduceIte, reduceCtorEq, nA, nB, nC, nD, nE, nF, hTq, hla, hmp, Int.toNat_natCast, gP1, ht1, ht2, gA, hst] <;> and_intros <;> first | (apply hK1; clear hK1 K1) | (intros; first | omega | decide) | skip))))
      exact ⟨g - 1, by omega, i + 1, n, acc' ++ [(w1, b)], by omega, by simp [hm0, hnm], by omega, hinv, by rw [List.map_append]; rfl⟩
     ·rw [if_neg hwa] at hinv
      have hqe : (w2 == a) = false := by simpa using hwa
      (repeat (first | refine gO rfl ?_ | ((first | refine gM zM23 ?_ | (with_reducible refine wM ?_ ?_) | ((with_reducible refine xS ?_); refine uD 18 zM23 zP4E zP4P 120 rfl (by kernel_rfl) ?_) | ((with_reducible refine xS ?_); refine uD 20 zM23 zP5E zP5P 120 rfl (by kernel_rfl) ?_) | ((with_reducible refine xR ?_); refine uE 22 zM23 zP6E zP6P 120 rfl (by kernel_rfl) ?_)) <;> ((try with_reducible intro K1 hK1); simp only [go_sem, ↓reduceIte, reduceCtorEq, nA, nB, nC, nD, nE, nF, hTq, hla, hd0, hmp, Int.toNat_natCast, gP, ht2, gA, hqe] <;> and_intros <;> first | (apply hK1; clear hK1 K1) | (intros; first | omega | decide) | skip))))
      refine awp_cond (t := _) rfl (fun h6 => by cases h6) (fun _ => ?_)
      (repeat (first | refine gO rfl ?_ | ((first | refine gM zM23 ?_ | (with_reducible refine wM ?_ ?_) | ((with_reducible refine xS ?_); refine uD 18 zM23 zP4E zP4P 120 rfl (by kernel_rfl) ?_) | ((with_reducible refine xS ?_); refine uD 20 zM23 zP5E zP5P 120 rfl (by kernel_rfl) ?_) | ((with_reducible refine xR ?_); refine uE 22 zM23 zP6E zP6P 120 rfl (by kernel_rfl) ?_)) <;> ((try with_reducible intro K1 hK1); simp only [go_sem, ↓reduceIte, reduceCtorEq, nA, nB, nC, nD, nE, nF, hTq, hla, hmp, Int.toNat_natCast, gP, gP1, ht1] <;> and_intros <;> first | (apply hK1; clear hK1 K1) | (intros; first | omega | decide) | skip))))
      exact ⟨g - 1, by omega, i + 1, n + 1, acc' ++ [(w1, w2)] ++ [(a, b)], by omega, by simp [hm0, hnm], by omega, hinv, by
       rw [show (acc' ++ [(w1, w2)] ++ [(a, b)]).map encW2 = (acc' ++ [(w1, w2)]).map encW2 ++ [encW2 (a, b)] from by rw [List.map_append]; rfl]
       rfl⟩
  ·simp only [decide_eq_false_iff_not] at h5
   have hi : i + 1 = P.length := by omega
   rw [runs_end _ P acc i hi] at hinv
   rw [← hinv]
   refine awp_frz 14 k2 2 (xs := acc.map encW2) (by rw [hla]; rfl) hTq (fun y hy => by obtain ⟨x, _, rfl⟩ := List.mem_map.1 hy; rfl) ?_
   (repeat (first | refine gO rfl ?_ | ((first | refine gM zM23 ?_ | (with_reducible refine wM ?_ ?_) | ((with_reducible refine xS ?_); refine uD 18 zM23 zP4E zP4P 120 rfl (by kernel_rfl) ?_) | ((with_reducible refine xS ?_); refine uD 20 zM23 zP5E zP5P 120 rfl (by kernel_rfl) ?_) | ((with_reducible refine xR ?_); refine uE 22 zM23 zP6E zP6P 120 rfl (by kernel_rfl) ?_)) <;> ((try with_reducible intro K1 hK1); simp only [go_sem, ↓reduceIte, reduceCtorEq, nA, nB, nC, nD, nE, nF] <;> and_intros <;> first | (apply hK1; clear hK1 K1) | (intros; first | omega | decide) | skip))))
   simp only [Tryz.results73, go_sem, ↓reduceIte, reduceCtorEq, nA, nB, nC, nD, nE, nF]
   refine ⟨_, h, Weak.refl _, ⟨fun _ => .inr rfl, fun t => ?_⟩, rfl, rfl⟩
   refine .inr ?_
   show h.T t = _
   simp only [upd_upd]
   rw [upd_back hk2]
abbrev zP7E : List Nat := [0, 1, 2, 3, 4, 5, 6]
abbrev zP7P : List (Nat × List Nat × List Nat) := [(7, [], [8])]
abbrev zP8E : List Nat := [0, 1, 2, 3, 4, 5, 6, 7, 8, 9, 10, 11, 12, 13, 14]
abbrev zP8P : List (Nat × List Nat × List Nat) := []
abbrev zP9E : List Nat := [0, 1, 2, 3, 4, 5, 6, 7, 8, 9, 10, 11]
abbrev zP9P : List (Nat × List Nat × List Nat) := [(12, [], []), (13, [], [])]
attribute [go_sem] zP7E zP7P zP8E zP8P zP9E zP9P
theorem g_Times (rs : List Rt) (p : Gu) (item : ByteArray) (fr t2 : Int) (kk : Option Nat) (hl : rs.length ≤ 500) (hok : ∀ r ∈ rs, RtOk r) (hp : GuOk p) (hi : item.size ≤ 4) (h : Hp) :
  ACalls Tryz.prog 16 [.row 5 (rs.map encRt) kk, .agg (encGu p), .v (.string item), .agg [.v (.int .i64 fr), .v (.int .i64 t2)]] h
   (fun r h' => r = (if quF rs p item = 0 then (if winF fr t2 = 0 then .tup [.row 2 ((timesP p.tags item fr t2 rs).map encW2) none, .v (.int .i64 0)] else .tup [.v (.slice none 0 0), .v (.int .i64 (winF fr t2))]) else .tup [.v (.slice none 0 0), .v (.int .i64 (quF rs p item))]) ∧ h' = h) := by
 have hQ := g_question rs p item kk hl hok hp hi h
 have hG := fun hs => g_times rs p item fr t2 kk hl hok hp hs h
 have hO := a_outside fr 0 t2 h
 have hw3 : encGu p = [.v (.string p.key), .v (.string p.scr), .v (.int .i64 p.zone), encGr p.tags] := rfl
 rw [hw3] at hQ hG ⊢
 unfold encGr at hQ hG ⊢
 obtain ⟨x3, e3⟩ : ∃ x, decide (t2 ≤ 345686400000) = x := ⟨_, rfl⟩
 have n3 : decide (345686400000 < t2) = !x3 := by rw [← e3, ← decide_not]; exact decide_eq_decide.2 (by omega)
 have hm := winF_of (a := fr) (b := t2) rfl rfl e3
 clear e3
 obtain ⟨c0, hc0⟩ : ∃ c, (decide (fr < 0) || decide (t2 < fr)) = c := ⟨_, rfl⟩
 have hc1 : (decide (0 ≤ fr) && decide (fr ≤ t2)) = !c0 := by
  rw [← hc0, Bool.not_or, ← decide_not, ← decide_not]
  congr 1
  ·exact decide_eq_decide.2 (by omega)
  ·exact decide_eq_decide.2 (by omega)
 rw [← Bool.and_assoc, hc1] at hm
 rw [hc0] at hO
 clear hc0 hc1
 refine gE Tryz.func16 rfl (by kernel_rfl) 29 rfl fun c => ?_
 (repeat (first | refine gO rfl ?_ | (refine gR fun K1 hK1 => ?_; simp only [go_sem, ↓reduceIte, reduceCtorEq, nA, nB, nC, nD, nE, nF] <;> and_intros <;> first | (apply hK1; clear hK1 K1) | (intros; first | omega | decide) | skip)))
 refine hQ.mono ?_; rintro _ hz ⟨rfl, hh⟩; apply hK1; clear hK1 K1; rw [hh]; clear hh hz
 (repeat (first | refine gO rfl ?_ | (refine gR fun K1 hK1 => ?_; simp only [go_sem, ↓reduceIte, reduceCtorEq, nA, nB, nC, nD, nE, nF] <;> and_intros <;> first | (apply hK1; clear hK1 K1) | (intros; first | omega | decide) | skip)))
 by_cases h1 : quF rs p item = 0
 ·refine awp_cond (t := _) rfl (fun h6 => by rw [h1] at h6; cases h6) (fun _ => ?_)
  rw [if_pos h1]
  (repeat (first | refine gO rfl ?_ | (refine gR fun K1 hK1 => ?_; simp only [go_sem, ↓reduceIte, reduceCtorEq, nA, nB, nC, nD, nE, nF] <;> and_intros <;> first | (apply hK1; clear hK1 K1) | (intros; first | omega | decide) | skip)))
  refine hO.mono ?_; rintro _ hz ⟨rfl, hh⟩; apply hK1; clear hK1 K1; rw [hh]; clear hh hz
  cases c0 <;> cases x3
  all_goals
   (repeat (first | refine gO rfl ?_ | (refine gR fun K1 hK1 => ?_; simp only [go_sem, ↓reduceIte, reduceCtorEq, nA, nB, nC, nD, nE, nF, n3, Bool.not_true, Bool.not_false] <;> and_intros <;> first | (apply hK1; clear hK1 K1) | (intros; first | omega | decide) | skip)))
   refine awp_cond (t := _) rfl (fun h6 => ?_) (fun h6 => ?_)
   all_goals try (exfalso; cases h6; done)
   simp only [Bool.not_true, Bool.not_false, Bool.and_true, Bool.and_false, Bool.false_and, Bool.and_self, cond_true, cond_false] at hm
   rw [hm]
  ·(repeat (first | refine gO rfl ?_ | (refine gR fun K1 hK1 => ?_; simp only [go_sem, ↓reduceIte, reduceCtorEq, nA, nB, nC, nD, nE, nF] <;> and_intros <;> first | (apply hK1; clear hK1 K1) | (intros; first | omega | decide) | skip)))
   simp only [Tryz.results16, go_sem, ↓reduceIte, reduceCtorEq, nA, nB, nC, nD, nE, nF]
   exact ⟨_, _, Weak.refl _, Hp.le.refl _, rfl, rfl⟩
  ·(repeat (first | refine gO rfl ?_ | (refine gR fun K1 hK1 => ?_; simp only [go_sem, ↓reduceIte, reduceCtorEq, nA, nB, nC, nD, nE, nF] <;> and_intros <;> first | (apply hK1; clear hK1 K1) | (intros; first | omega | decide) | skip)))
   refine (hG (guF_tags (quF_gu h1).2.1)).mono ?_; rintro _ hz ⟨rfl, hh⟩; apply hK1; clear hK1 K1; rw [hh]; clear hh hz
   (repeat (first | refine gO rfl ?_ | (refine gR fun K1 hK1 => ?_; simp only [go_sem, ↓reduceIte, reduceCtorEq, nA, nB, nC, nD, nE, nF] <;> and_intros <;> first | (apply hK1; clear hK1 K1) | (intros; first | omega | decide) | skip)))
   simp only [Tryz.results16, go_sem, ↓reduceIte, reduceCtorEq, nA, nB, nC, nD, nE, nF]
   exact ⟨_, _, Weak.refl _, Hp.le.refl _, rfl, rfl⟩
  ·(repeat (first | refine gO rfl ?_ | (refine gR fun K1 hK1 => ?_; simp only [go_sem, ↓reduceIte, reduceCtorEq, nA, nB, nC, nD, nE, nF] <;> and_intros <;> first | (apply hK1; clear hK1 K1) | (intros; first | omega | decide) | skip)))
   simp only [Tryz.results16, go_sem, ↓reduceIte, reduceCtorEq, nA, nB, nC, nD, nE, nF]
   exact ⟨_, _, Weak.refl _, Hp.le.refl _, rfl, rfl⟩
  ·(repeat (first | refine gO rfl ?_ | (refine gR fun K1 hK1 => ?_; simp only [go_sem, ↓reduceIte, reduceCtorEq, nA, nB, nC, nD, nE, nF] <;> and_intros <;> first | (apply hK1; clear hK1 K1) | (intros; first | omega | decide) | skip)))
   simp only [Tryz.results16, go_sem, ↓reduceIte, reduceCtorEq, nA, nB, nC, nD, nE, nF]
   exact ⟨_, _, Weak.refl _, Hp.le.refl _, rfl, rfl⟩
 ·refine awp_cond (t := _) rfl (fun _ => ?_) (fun h6 => absurd h6 (by simpa using h1))
  (repeat (first | refine gO rfl ?_ | (refine gR fun K1 hK1 => ?_; simp only [go_sem, ↓reduceIte, reduceCtorEq, nA, nB, nC, nD, nE, nF] <;> and_intros <;> first | (apply hK1; clear hK1 K1) | (intros; first | omega | decide) | skip)))
  simp only [Tryz.results16, go_sem, ↓reduceIte, reduceCtorEq, nA, nB, nC, nD, nE, nF]
  exact ⟨_, _, Weak.refl _, Hp.le.refl _, by rw [if_neg h1], rfl⟩
theorem g_timesOf (rs : List Rt) (p : Gu) (item : ByteArray) (fr t2 : Int) (kk : Option Nat) (hl : rs.length ≤ 500) (hok : ∀ r ∈ rs, RtOk r) (hp : GuOk p) (h : Hp) :
  ACalls Tryz.prog 24 [.row 5 (rs.map encRt) kk, .agg (encGu p), .v (.string item), .agg [.v (.int .i64 fr), .v (.int .i64 t2)]] h (fun r h' => r = .row 2 ((timesR p.tags item fr t2 rs).map encW2) none ∧ h' = h) := by
 have hMay := fun x h => g_mayR rs p item x kk hl hok hp h
 have hEdg := fun h => g_edges rs kk hl h
 have hHas := fun x h => g_hasW fr t2 x h
 obtain ⟨key, scr, zone, tags⟩ := p
 unfold encGu encGr at hMay ⊢
 simp only at hMay ⊢
 have htm : timesR tags item fr t2 rs = runsW (fun x => mayL tags item x rs false) (onceI (cutsR fr t2 (onceI (edgesL rs)))) [] := rfl
 rw [htm]
 obtain ⟨E, hE⟩ : ∃ E, onceI (edgesL rs) = E := ⟨_, rfl⟩
 have hEl : E.length ≤ 1000 := by rw [← hE]; have := onceI_len (edgesL rs); rw [edgesL_len] at this; omega
 rw [hE] at hEdg ⊢
 clear htm hE
 have hml : (E.map encI).length = E.length := List.length_map _
 refine gE Tryz.func24 rfl (by kernel_rfl) 92 rfl fun c => ?_
 (repeat (first | refine gO rfl ?_ | ((first | refine gM zM24 ?_ | (with_reducible refine wM ?_ ?_) | ((with_reducible refine xS ?_); refine uD 14 zM24 zP7E zP7P 96 rfl (by kernel_rfl) ?_) | ((with_reducible refine xS ?_); refine uD 16 zM24 zP8E zP8P 96 rfl (by kernel_rfl) ?_) | ((with_reducible refine xR ?_); refine uE 18 zM24 zP9E zP9P 96 rfl (by kernel_rfl) ?_)) <;> ((try with_reducible intro K1 hK1); simp only [go_sem, ↓reduceIte, reduceCtorEq, nA, nB, nC, nD, nE, nF] <;> and_intros <;> first | (apply hK1; clear hK1 K1) | (intros; first | omega | decide) | skip))))
 intro k hk
 replace hk : h.T k = none := hk
 refine hK1 _ ?_; clear hK1 K1
 (repeat (first | refine gO rfl ?_ | ((first | refine gM zM24 ?_ | (with_reducible refine wM ?_ ?_) | ((with_reducible refine xS ?_); refine uD 14 zM24 zP7E zP7P 96 rfl (by kernel_rfl) ?_) | ((with_reducible refine xS ?_); refine uD 16 zM24 zP8E zP8P 96 rfl (by kernel_rfl) ?_) | ((with_reducible refine xR ?_); refine uE 18 zM24 zP9E zP9P 96 rfl (by kernel_rfl) ?_)) <;> ((try with_reducible intro K1 hK1); simp only [go_sem, ↓reduceIte, reduceCtorEq, nA, nB, nC, nD, nE, nF] <;> and_intros <;> first | (apply hK1; clear hK1 K1) | (intros; first | omega | decide) | skip))))
 refine (hEdg _).mono ?_; rintro _ hz ⟨rfl, hh⟩; apply hK1; clear hK1 K1; rw [hh]; clear hh hz
 (repeat (first | refine gO rfl ?_ | ((first | refine gM zM24 ?_ | (with_reducible refine wM ?_ ?_) | ((with_reducible refine xS ?_); refine uD 14 zM24 zP7E zP7P 96 rfl (by kernel_rfl) ?_) | ((with_reducible refine xS ?_); refine uD 16 zM24 zP8E zP8P 96 rfl (by kernel_rfl) ?_) | ((with_reducible refine xR ?_); refine uE 18 zM24 zP9E zP9P 96 rfl (by kernel_rfl) ?_)) <;> ((try with_reducible intro K1 hK1); simp only [go_sem, ↓reduceIte, reduceCtorEq, nA, nB, nC, nD, nE, nF, hml] <;> and_intros <;> first | (apply hK1; clear hK1 K1) | (intros; first | omega | decide) | skip))))
 have hcr : ∀ l, cutsR fr t2 l = [fr, t2] ++ l.filter fun n => decide (fr ≤ n) && decide (n < t2) := fun _ => rfl
 refine awp_loopC (rl false [0, 1, 1, 1, 2, 1, 1, 1, 1, 1, 11, 3, 72]) 0 (fun g s => ∃ (j n : Nat) (xs : List Int), g + j = E.length ∧ xs.length = n ∧ n ≤ 2 + j ∧ xs = cutsR fr t2 (E.take j) ∧
  s = ⟨((.row 5 (rs.map encRt) kk) :: AV.junk :: ((.v (.string item)) :: AV.junk :: AV.junk :: ((.ref [.v (.string key), .v (.string scr), .v (.int .i64 zone), .row 1 (tags.map encS) none] 0) :: AV.junk :: ((.ref [.v (.int .i64 fr), .v (.int .i64 t2)] 0) :: AV.junk :: ((.arr 1 k n) :: (jnk 11 ((.row 1 (E.map encI) none) :: (.v (.int .i64 E.length)) :: (.v (.int .i64 j)) :: (jnk 72 [])))))))), [], ⟨h.H, upd h.T k (some (.cont 1 (xs.map encI)))⟩⟩) E.length ⟨0, 2, [fr, t2], by omega, rfl, by omega, rfl, rfl⟩ ?_
 rintro g _ ⟨j, n, xs, hj, hn, hnj, hxs, rfl⟩
 have hTq : upd h.T k (some (TO.cont 1 (xs.map encI))) k = some (TO.cont 1 (xs.map encI)) := upd_same _ _ _
 have hle : (xs.map encI).length = n := by rw [List.length_map, hn]
 (repeat (first | refine gO rfl ?_ | ((first | refine gM zM24 ?_ | (with_reducible refine wM ?_ ?_) | ((with_reducible refine xS ?_); refine uD 14 zM24 zP7E zP7P 96 rfl (by kernel_rfl) ?_) | ((with_reducible refine xS ?_); refine uD 16 zM24 zP8E zP8P 96 rfl (by kernel_rfl) ?_) | ((with_reducible refine xR ?_); refine uE 18 zM24 zP9E zP9P 96 rfl (by kernel_rfl) ?_)) <;> ((try with_reducible intro K1 hK1); simp only [go_sem, ↓reduceIte, reduceCtorEq, nA, nB, nC, nD, nE, nF] <;> and_intros <;> first | (apply hK1; clear hK1 K1) | (intros; first | omega | decide) | skip))))
 refine awp_cond (t := _) rfl (fun h5 => ?_) (fun h5 => ?_)
 ·simp only [decide_eq_true_eq] at h5
  have hjl : j < E.length := by omega
  have gx : (E.map encI).getD j [] = [.v (.int .i64 E[j])] := by rw [List.getD_eq_getElem?_getD, List.getElem?_map, List.getElem?_eq_getElem hjl]; rfl
  have het : cutsR fr t2 (E.take (j + 1)) = xs ++ ([E[j]].filter fun n => decide (fr ≤ n) && decide (n < t2)) := by
   rw [hxs, hcr, hcr, List.take_succ_eq_append_getElem hjl, List.filter_append, List.append_assoc]
  generalize E[j] = a at *
  (repeat (first | refine gO rfl ?_ | ((first | refine gM zM24 ?_ | (with_reducible refine wM ?_ ?_) | ((with_reducible refine xS ?_); refine uD 14 zM24 zP7E zP7P 96 rfl (by kernel_rfl) ?_) | ((with_reducible refine xS ?_); refine uD 16 zM24 zP8E zP8P 96 rfl (by kernel_rfl) ?_) | ((with_reducible refine xR ?_); refine uE 18 zM24 zP9E zP9P 96 rfl (by kernel_rfl) ?_)) <;> ((try with_reducible intro K1 hK1); simp only [go_sem, ↓reduceIte, reduceCtorEq, nA, nB, nC, nD, nE, nF, hml, Int.toNat_natCast, gx] <;> and_intros <;> first | (apply hK1; clear hK1 K1) | (intros; first | omega | decide) | skip))))
  refine (hHas a _).mono ?_; rintro _ hz ⟨rfl, hh⟩; apply hK1; clear hK1 K1; rw [hh]; clear hh hz
  (repeat (first | refine gO rfl ?_ | ((first | refine gM zM24 ?_ | (with_reducible refine wM ?_ ?_) | ((with_reducible refine xS ?_); refine uD 14 zM24 zP7E zP7P 96 rfl (by kernel_rfl) ?_) | ((with_reducible refine xS ?_); refine uD 16 zM24 zP8E zP8P 96 rfl (by kernel_rfl) ?_) | ((with_reducible refine xR ?_); refine uE 18 zM24 zP9E zP9P 96 rfl (by kernel_rfl) ?_)) <;> ((try with_reducible intro K1 hK1); simp only [go_sem, ↓reduceIte, reduceCtorEq, nA, nB, nC, nD, nE, nF] <;> and_intros <;> first | (apply hK1; clear hK1 K1) | (intros; first | omega | decide) | skip))))
  cases hq : (decide (fr ≤ a) && decide (a < t2)) with
  | false =>
   refine awp_cond (t := _) rfl (fun h6 => by cases h6) (fun _ => ?_)
   (repeat (first | refine gO rfl ?_ | ((first | refine gM zM24 ?_ | (with_reducible refine wM ?_ ?_) | ((with_reducible refine xS ?_); refine uD 14 zM24 zP7E zP7P 96 rfl (by kernel_rfl) ?_) | ((with_reducible refine xS ?_); refine uD 16 zM24 zP8E zP8P 96 rfl (by kernel_rfl) ?_) | ((with_reducible refine xR ?_); refine uE 18 zM24 zP9E zP9P 96 rfl (by kernel_rfl) ?_)) <;> ((try with_reducible intro K1 hK1); simp only [go_sem, ↓reduceIte, reduceCtorEq, nA, nB, nC, nD, nE, nF] <;> and_intros <;> first | (apply hK1; clear hK1 K1) | (intros; first | omega | decide) | skip))))
   exact ⟨g - 1, by omega, j + 1, n, xs, by omega, hn, by omega, by rw [het]; simp [List.filter_cons, hq], rfl⟩
  | true =>
   refine awp_cond (t := _) rfl (fun _ => ?_) (fun h6 => by cases h6)
   (repeat (first | refine gO rfl ?_ | ((first | refine gM zM24 ?_ | (with_reducible refine wM ?_ ?_) | ((with_reducible refine xS ?_); refine uD 14 zM24 zP7E zP7P 96 rfl (by kernel_rfl) ?_) | ((with_reducible refine xS ?_); refine uD 16 zM24 zP8E zP8P 96 rfl (by kernel_rfl) ?_) | ((with_reducible refine xR ?_); refine uE 18 zM24 zP9E zP9P 96 rfl (by kernel_rfl) ?_)) <;> ((try with_reducible intro K1 hK1); simp only [go_sem, ↓reduceIte, reduceCtorEq, nA, nB, nC, nD, nE, nF, hTq, hle] <;> and_intros <;> first | (apply hK1; clear hK1 K1) | (intros; first | omega | decide) | skip))))
   refine ⟨g - 1, by omega, j + 1, n + 1, xs ++ [a], by omega, by simp [hn], by omega, by rw [het]; simp [List.filter_cons, hq], ?_⟩
   rw [List.map_append]
   (try simp only [upd_upd])
   rfl
 ·simp only [decide_eq_false_iff_not] at h5
  have hjl : j = E.length := by omega
  subst hjl
  rw [List.take_length] at hxs
  have hE2 : 2 ≤ xs.length := by rw [hxs, hcr]; simp
  have hok1 := onceI_ok (cutsR fr t2 E)
  have hol := onceI_len (cutsR fr t2 E)
  have hfm : fr ∈ cutsR fr t2 E := by rw [hcr]; simp
  rw [← hxs] at hok1 hol hfm ⊢
  subst hn
  clear hxs
  (repeat (first | refine gO rfl ?_ | ((first | refine gM zM24 ?_ | (with_reducible refine wM ?_ ?_) | ((with_reducible refine xS ?_); refine uD 14 zM24 zP7E zP7P 96 rfl (by kernel_rfl) ?_) | ((with_reducible refine xS ?_); refine uD 16 zM24 zP8E zP8P 96 rfl (by kernel_rfl) ?_) | ((with_reducible refine xR ?_); refine uE 18 zM24 zP9E zP9P 96 rfl (by kernel_rfl) ?_)) <;> ((try with_reducible intro K1 hK1); simp only [go_sem, ↓reduceIte, reduceCtorEq, nA, nB, nC, nD, nE, nF] <;> and_intros <;> first | (apply hK1; clear hK1 K1) | (intros; first | omega | decide) | skip))))
  refine (g_sortI k xs ⟨h.H, upd h.T k (some (.cont 1 (xs.map encI)))⟩ (upd_same _ _ _) (by omega) (by omega)).mono ?_; rintro _ hz ⟨rfl, hh⟩; apply hK1; clear hK1 K1; rw [hh]; clear hh hz
  (repeat (first | refine gO rfl ?_ | ((first | refine gM zM24 ?_ | (with_reducible refine wM ?_ ?_) | ((with_reducible refine xS ?_); refine uD 14 zM24 zP7E zP7P 96 rfl (by kernel_rfl) ?_) | ((with_reducible refine xS ?_); refine uD 16 zM24 zP8E zP8P 96 rfl (by kernel_rfl) ?_) | ((with_reducible refine xR ?_); refine uE 18 zM24 zP9E zP9P 96 rfl (by kernel_rfl) ?_)) <;> ((try with_reducible intro K1 hK1); simp only [go_sem, ↓reduceIte, reduceCtorEq, nA, nB, nC, nD, nE, nF] <;> and_intros <;> first | (apply hK1; clear hK1 K1) | (intros; first | omega | decide) | skip))))
  obtain ⟨S, hS⟩ : ∃ S, xs.mergeSort (fun x y => decide (x ≤ y)) = S := ⟨_, rfl⟩
  have hSl : S.length = xs.length := by rw [← hS, List.length_mergeSort]
  have hSP : onceI xs = Lib.compact S := by rw [← hS]; rfl
  rw [hS, ← hSl]
  refine (g_compI k S ⟨h.H, upd h.T k (some (.cont 1 (S.map encI)))⟩ (upd_same _ _ _) (by omega) (by omega)).mono ?_; rintro _ hz ⟨rfl, hh⟩; apply hK1; clear hK1 K1; rw [hh]; clear hh hz
  rw [← hSP]
  simp only [upd_upd]
  rw [upd_back hk]
  obtain ⟨P, hP⟩ : ∃ P, onceI xs = P := ⟨_, rfl⟩
  rw [hP] at hok1 hol ⊢
  have hP1 : 1 ≤ P.length := List.length_pos_of_mem ((hok1.2 fr).2 hfm)
  have hPl : P.length ≤ 1100 := by omega
  clear hSP hS hP hfm hok1 hol hE2
  have hmp : (P.map encI).length = P.length := List.length_map _
  (repeat (first | refine gQ rfl ?_ | ((first | refine gM zM24 ?_ | (with_reducible refine wM ?_ ?_) | ((with_reducible refine xS ?_); refine uD 14 zM24 zP7E zP7P 96 rfl (by kernel_rfl) ?_) | ((with_reducible refine xS ?_); refine uD 16 zM24 zP8E zP8P 96 rfl (by kernel_rfl) ?_) | ((with_reducible refine xR ?_); refine uE 18 zM24 zP9E zP9P 96 rfl (by kernel_rfl) ?_)) <;> ((try with_reducible intro K1 hK1); simp only [go_sem, ↓reduceIte, reduceCtorEq, nA, nB, nC, nD, nE, nF] <;> and_intros <;> first | (apply hK1; clear hK1 K1) | (intros; first | omega | decide | (simp_all <;> omega)) | skip))))
  refine awp_seq ?_
  refine awp_ownA 12 2 rfl ⟨rfl, rfl⟩ (fun k2 hk2 => ?_)
  replace hk2 : h.T k2 = none := hk2
  (repeat (first | refine gO rfl ?_ | ((first | refine gM zM24 ?_ | (with_reducible refine wM ?_ ?_) | ((with_reducible refine xS ?_); refine uD 14 zM24 zP7E zP7P 96 rfl (by kernel_rfl) ?_) | ((with_reducible refine xS ?_); refine uD 16 zM24 zP8E zP8P 96 rfl (by kernel_rfl) ?_) | ((with_reducible refine xR ?_); refine uE 18 zM24 zP9E zP9P 96 rfl (by kernel_rfl) ?_)) <;> ((try with_reducible intro K1 hK1); simp only [go_sem, ↓reduceIte, reduceCtorEq, nA, nB, nC, nD, nE, nF, hmp] <;> and_intros <;> first | (apply hK1; clear hK1 K1) | (intros; first | omega | decide) | skip))))
  refine awp_loopC (rl false [0, 1, 1, 1, 2, 1, 3, 1, 2, 1, 28, 2, 53]) 0 (fun g s => ∃ (i n : Nat) (acc : List Wnd), g + (i + 1) = P.length ∧ acc.length = n ∧ n ≤ i ∧ runsW (fun x => mayL tags item x rs false) (P.drop i) acc = runsW (fun x => mayL tags item x rs false) P [] ∧
   s = ⟨((.row 5 (rs.map encRt) kk) :: AV.junk :: ((.v (.string item)) :: AV.junk :: AV.junk :: ((.ref [.v (.string key), .v (.string scr), .v (.int .i64 zone), .row 1 (tags.map encS) none] 0) :: (jnk 3 ((.row 1 (P.map encI) none) :: AV.junk :: AV.junk :: ((.arr 2 k2 n) :: (jnk 28 ((.v (.int .i64 ((P.length : Int) - 1))) :: (.v (.int .i64 i)) :: (jnk 53 []))))))))), [], ⟨h.H, upd h.T k2 (some (.cont 2 (acc.map encW2)))⟩⟩) (P.length - 1) ⟨0, 0, [], by omega, rfl, Nat.le_refl _, rfl, rfl⟩ ?_
  clear hTq hle
  rintro g _ ⟨i, n, acc, hg, hn, hni, hinv, rfl⟩
  have hTq : upd h.T k2 (some (TO.cont 2 (acc.map encW2))) k2 = some (TO.cont 2 (acc.map encW2)) := upd_same _ _ _
  have hla : (acc.map encW2).length = n := by rw [List.length_map, hn]
  (repeat (first | refine gO rfl ?_ | ((first | refine gM zM24 ?_ | (with_reducible refine wM ?_ ?_) | ((with_reducible refine xS ?_); refine uD 14 zM24 zP7E zP7P 96 rfl (by kernel_rfl) ?_) | ((with_reducible refine xS ?_); refine uD 16 zM24 zP8E zP8P 96 rfl (by kernel_rfl) ?_) | ((with_reducible refine xR ?_); refine uE 18 zM24 zP9E zP9P 96 rfl (by kernel_rfl) ?_)) <;> ((try with_reducible intro K1 hK1); simp only [go_sem, ↓reduceIte, reduceCtorEq, nA, nB, nC, nD, nE, nF, hmp] <;> and_intros <;> first | (apply hK1; clear hK1 K1) | (intros; first | omega | decide) | skip))))
  refine awp_cond (t := _) rfl (fun h5 => ?_) (fun h5 => ?_)
  ·simp only [decide_eq_true_eq] at h5
   have hi : i + 1 < P.length := by omega
   have gP : (P.map encI).getD i [] = [.v (.int .i64 P[i])] := by rw [List.getD_eq_getElem?_getD, List.getElem?_map, List.getElem?_eq_getElem (show i < P.length by omega)]; rfl
   have gP1 : (P.map encI).getD (i + 1) [] = [.v (.int .i64 P[i + 1])] := by rw [List.getD_eq_getElem?_getD, List.getElem?_map, List.getElem?_eq_getElem hi]; rfl
   have ht1 : ((i : Int) + 1).toNat = i + 1 := by omega
   rw [runs_at _ P acc i hi] at hinv
   generalize P[i] = a at *
   generalize P[i + 1] = b at *
   (repeat (first | refine gO rfl ?_ | ((first | refine gM zM24 ?_ | (with_reducible refine wM ?_ ?_) | ((with_reducible refine xS ?_); refine uD 14 zM24 zP7E zP7P 96 rfl (by kernel_rfl) ?_) | ((with_reducible refine xS ?_); refine uD 16 zM24 zP8E zP8P 96 rfl (by kernel_rfl) ?_) | ((with_reducible refine xR ?_); refine uE 18 zM24 zP9E zP9P 96 rfl (by kernel_rfl) ?_)) <;> ((try with_reducible intro K1 hK1); simp only [go_sem, ↓reduceIte, reduceCtorEq, nA, nB, nC, nD, nE, nF, hmp, Int.toNat_natCast, gP] <;> and_intros <;> first | (apply hK1; clear hK1 K1) | (intros; first | omega | decide) | skip))))
   refine (hMay a _).mono ?_; rintro _ hz ⟨rfl, hh⟩; apply hK1; clear hK1 K1; rw [hh]; clear hh hz
   (repeat (first | refine gO rfl ?_ | ((first | refine gM zM24 ?_ | (with_reducible refine wM ?_ ?_) | ((with_reducible refine xS ?_); refine uD 14 zM24 zP7E zP7P 96 rfl (by kernel_rfl) ?_) | ((with_reducible refine xS ?_); refine uD 16 zM24 zP8E zP8P 96 rfl (by kernel_rfl) ?_) | ((with_reducible refine xR ?_); refine uE 18 zM24 zP9E zP9P 96 rfl (by kernel_rfl) ?_)) <;> ((try with_reducible intro K1 hK1); simp only [go_sem, ↓reduceIte, reduceCtorEq, nA, nB, nC, nD, nE, nF] <;> and_intros <;> first | (apply hK1; clear hK1 K1) | (intros; first | omega | decide) | skip))))
   all_goals try with_reducible rfl
   (repeat (first | refine gO rfl ?_ | ((first | refine gM zM24 ?_ | (with_reducible refine wM ?_ ?_) | ((with_reducible refine xS ?_); refine uD 14 zM24 zP7E zP7P 96 rfl (by kernel_rfl) ?_) | ((with_reducible refine xS ?_); refine uD 16 zM24 zP8E zP8P 96 rfl (by kernel_rfl) ?_) | ((with_reducible refine xR ?_); refine uE 18 zM24 zP9E zP9P 96 rfl (by kernel_rfl) ?_)) <;> ((try with_reducible intro K1 hK1); simp only [go_sem, ↓reduceIte, reduceCtorEq, nA, nB, nC, nD, nE, nF] <;> and_intros <;> first | (apply hK1; clear hK1 K1) | (intros; first | omega | decide) | skip))))
   cases hm : mayL tags item a rs false with
   | false =>
    rw [hm, if_neg (by decide)] at hinv
    refine awp_cond (t := _) rfl (fun _ => ?_) (fun h6 => by cases h6)
    (repeat (first | refine gO rfl ?_ | ((first | refine gM zM24 ?_ | (with_reducible refine wM ?_ ?_) | ((with_reducible refine xS ?_); refine uD 14 zM24 zP7E zP7P 96 rfl (by kernel_rfl) ?_) | ((with_reducible refine xS ?_); refine uD 16 zM24 zP8E zP8P 96 rfl (by kernel_rfl) ?_) | ((with_reducible refine xR ?_); refine uE 18 zM24 zP9E zP9P 96 rfl (by kernel_rfl) ?_)) <;> ((try with_reducible intro K1 hK1); simp only [go_sem, ↓reduceIte, reduceCtorEq, nA, nB, nC, nD, nE, nF] <;> and_intros <;> first | (apply hK1; clear hK1 K1) | (intros; first | omega | decide) | skip))))
    exact ⟨g - 1, by omega, i + 1, n, acc, by omega, hn, by omega, hinv, rfl⟩
   | true =>
    rw [hm, if_pos rfl] at hinv
    refine awp_cond (t := _) rfl (fun h6 => by cases h6) (fun _ => ?_)
    rcases List.eq_nil_or_concat acc with e0 | ⟨acc', w, e0⟩
    ·subst e0
     have hn0 : n = 0 := by rw [← hn]; rfl
     have hd0 : decide ((0 : Int) < (n : Int)) = false := by simp only [decide_eq_false_iff_not]; omega
     have hgn : ([] : List (List AV)).getD ((n : Int) - 1).toNat [] = [] := rfl
     rw [List.map_nil] at hTq hla
     (repeat (first | refine gO rfl ?_ | ((first | refine gM zM24 ?_ | (with_reducible refine wM ?_ ?_) | ((with_reducible refine xS ?_); refine uD 14 zM24 zP7E zP7P 96 rfl (by kernel_rfl) ?_) | ((with_reducible refine xS ?_); refine uD 16 zM24 zP8E zP8P 96 rfl (by kernel_rfl) ?_) | ((with_reducible refine xR ?_); refine uE 18 zM24 zP9E zP9P 96 rfl (by kernel_rfl) ?_)) <;> ((try with_reducible intro K1 hK1); simp only [go_sem, ↓reduceIte, reduceCtorEq, nA, nB, nC, nD, nE, nF, hTq, hla, hd0, hmp, Int.toNat_natCast, gP, hgn, List.getD_nil] <;> and_intros <;> first | (apply hK1; clear hK1 K1) | (intros; first | omega | decide) | skip))))
     refine ⟨.v (.bool false), rfl, ?_⟩
     apply hK1; clear hK1 K1
     (repeat (first | refine gO rfl ?_ | ((first | refine gM zM24 ?_ | (with_reducible refine wM ?_ ?_) | ((with_reducible refine xS ?_); refine uD 14 zM24 zP7E zP7P 96 rfl (by kernel_rfl) ?_) | ((with_reducible refine xS ?_); refine uD 16 zM24 zP8E zP8P 96 rfl (by kernel_rfl) ?_) | ((with_reducible refine xR ?_); refine uE 18 zM24 zP9E zP9P 96 rfl (by kernel_rfl) ?_)) <;> ((try with_reducible intro K1 hK1); simp only [go_sem, ↓reduceIte, reduceCtorEq, nA, nB, nC, nD, nE, nF] <;> and_intros <;> first | (apply hK1; clear hK1 K1) | (intros; first | omega | decide) | skip))))
     refine awp_cond (t := _) rfl (fun h6 => by cases h6) (fun _ => ?_)
     clear hd0 hgn hla hn
     subst hn0
     (repeat (first | refine gO rfl ?_ | ((first | refine gM zM24 ?_ | (with_reducible refine wM ?_ ?_) | ((with_reducible refine xS ?_); refine uD 14 zM24 zP7E zP7P 96 rfl (by kernel_rfl) ?_) | ((with_reducible refine xS ?_); refine uD 16 zM24 zP8E zP8P 96 rfl (by kernel_rfl) ?_) | ((with_reducible refine xR ?_); refine uE 18 zM24 zP9E zP9P 96 rfl (by kernel_rfl) ?_)) <;> ((try with_reducible intro K1 hK1); simp only [go_sem, ↓reduceIte, reduceCtorEq, nA, nB, nC, nD, nE, nF, hTq, hmp, Int.toNat_natCast, gP, gP1, ht1] <;> and_intros <;> first | (apply hK1; clear hK1 K1) | (intros; first | omega | decide) | skip))))
     exact ⟨g - 1, by omega, i + 1, 1, [(a, b)], by omega, rfl, by omega, hinv, rfl⟩
    ·rw [List.concat_eq_append] at e0
     subst e0
     obtain ⟨m, hm0⟩ : ∃ m, acc'.length = m := ⟨_, rfl⟩
     have hnm : n = m + 1 := by rw [← hn, ← hm0]; simp
     obtain ⟨w1, w2⟩ := w
     have hd0 : decide ((0 : Int) < (n : Int)) = true := by simp only [decide_eq_true_eq]; omega
     have ht2 : ((n : Int) - 1).toNat = m := by omega
     have gA : ((acc' ++ [(w1, w2)]).map encW2).getD m [] = [.v (.int .i64 w1), .v (.int .i64 w2)] := by
      rw [List.map_append, List.getD_eq_getElem?_getD, List.getElem?_append_right (by simp [hm0])]
      simp [hm0, encW2]
     have hst : ∀ X, ((acc' ++ [(w1, w2)]).map encW2).set m X = acc'.map encW2 ++ [X] := fun X => by
      rw [List.map_append, List.set_append_right _ _ (by simp [hm0])]
      simp [hm0]
     have hpw : pushW (acc' ++ [(w1, w2)]) a b = if w2 = a then acc' ++ [(w1, b)] else acc' ++ [(w1, w2)] ++ [(a, b)] := by
      unfold pushW
      rw [List.getLast?_append]
      simp
     rw [hpw] at hinv
     clear hpw
     by_cases hwa : w2 = a
     ·rw [if_pos hwa] at hinv
      have hqe : (w2 == a) = true := by simpa using hwa
      (repeat (first | refine gO rfl ?_ | ((first | refine gM zM24 ?_ | (with_reducible refine wM ?_ ?_) | ((with_reducible refine xS ?_); refine uD 14 zM24 zP7E zP7P 96 rfl (by kernel_rfl) ?_) | ((with_reducible refine xS ?_); refine uD 16 zM24 zP8E zP8P 96 rfl (by kernel_rfl) ?_) | ((with_reducible refine xR ?_); refine uE 18 zM24 zP9E zP9P 96 rfl (by kernel_rfl) ?_)) <;> ((try with_reducible intro K1 hK1); simp only [go_sem, ↓reduceIte, reduceCtorEq, nA, nB, nC, nD, nE, nF, hTq, hla, hd0, hmp, Int.toNat_natCast, gP, ht2, gA, hqe] <;> and_intros <;> first | (apply hK1; clear hK1 K1) | (intros; first | omega | decide) | skip))))
      refine awp_cond (t := _) rfl (fun _ => ?_) (fun h6 => by cases h6)
      (repeat (first | refine gO rfl ?_ | ((first | refine gM zM24 ?_ | (with_reducible refine wM ?_ ?_) | ((with_reducible refine xS ?_); refine uD 14 zM24 zP7E zP7P 96 rfl (by kernel_rfl) ?_) | ((with_reducible refine xS ?_); refine uD 16 zM24 zP8E zP8P 96 rfl (by kernel_rfl) ?_) | ((with_reducible refine xR ?_); refine uE 18 zM24 zP9E zP9P 96 rfl (by kernel_rfl) ?_)) <;> ((try with_reducible intro K1 hK1); simp only [go_sem, ↓reduceIte, reduceCtorEq, nA, nB, nC, nD, nE, nF, hTq, hla, hmp, Int.toNat_natCast, gP1, ht1, ht2, gA, hst] <;> and_intros <;> first | (apply hK1; clear hK1 K1) | (intros; first | omega | decide) | skip))))
      exact ⟨g - 1, by omega, i + 1, n, acc' ++ [(w1, b)], by omega, by simp [hm0, hnm], by omega, hinv, by rw [List.map_append]; rfl⟩
     ·rw [if_neg hwa] at hinv
      have hqe : (w2 == a) = false := by simpa using hwa
      (repeat (first | refine gO rfl ?_ | ((first | refine gM zM24 ?_ | (with_reducible refine wM ?_ ?_) | ((with_reducible refine xS ?_); refine uD 14 zM24 zP7E zP7P 96 rfl (by kernel_rfl) ?_) | ((with_reducible refine xS ?_); refine uD 16 zM24 zP8E zP8P 96 rfl (by kernel_rfl) ?_) | ((with_reducible refine xR ?_); refine uE 18 zM24 zP9E zP9P 96 rfl (by kernel_rfl) ?_)) <;> ((try with_reducible intro K1 hK1); simp only [go_sem, ↓reduceIte, reduceCtorEq, nA, nB, nC, nD, nE, nF, hTq, hla, hd0, hmp, Int.toNat_natCast, gP, ht2, gA, hqe] <;> and_intros <;> first | (apply hK1; clear hK1 K1) | (intros; first | omega | decide) | skip))))
      refine awp_cond (t := _) rfl (fun h6 => by cases h6) (fun _ => ?_)
      (repeat (first | refine gO rfl ?_ | ((first | refine gM zM24 ?_ | (with_reducible refine wM ?_ ?_) | ((with_reducible refine xS ?_); refine uD 14 zM24 zP7E zP7P 96 rfl (by kernel_rfl) ?_) | ((with_reducible refine xS ?_); refine uD 16 zM24 zP8E zP8P 96 rfl (by kernel_rfl) ?_) | ((with_reducible refine xR ?_); refine uE 18 zM24 zP9E zP9P 96 rfl (by kernel_rfl) ?_)) <;> ((try with_reducible intro K1 hK1); simp only [go_sem, ↓reduceIte, reduceCtorEq, nA, nB, nC, nD, nE, nF, hTq, hla, hmp, Int.toNat_natCast, gP, gP1, ht1] <;> and_intros <;> first | (apply hK1; clear hK1 K1) | (intros; first | omega | decide) | skip))))
      exact ⟨g - 1, by omega, i + 1, n + 1, acc' ++ [(w1, w2)] ++ [(a, b)], by omega, by simp [hm0, hnm], by omega, hinv, by
       rw [show (acc' ++ [(w1, w2)] ++ [(a, b)]).map encW2 = (acc' ++ [(w1, w2)]).map encW2 ++ [encW2 (a, b)] from by rw [List.map_append]; rfl]
       rfl⟩
  ·simp only [decide_eq_false_iff_not] at h5
   have hi : i + 1 = P.length := by omega
   rw [runs_end _ P acc i hi] at hinv
   rw [← hinv]
   refine awp_frz 12 k2 2 (xs := acc.map encW2) (by rw [hla]; rfl) hTq (fun y hy => by obtain ⟨x, _, rfl⟩ := List.mem_map.1 hy; rfl) ?_
   (repeat (first | refine gO rfl ?_ | ((first | refine gM zM24 ?_ | (with_reducible refine wM ?_ ?_) | ((with_reducible refine xS ?_); refine uD 14 zM24 zP7E zP7P 96 rfl (by kernel_rfl) ?_) | ((with_reducible refine xS ?_); refine uD 16 zM24 zP8E zP8P 96 rfl (by kernel_rfl) ?_) | ((with_reducible refine xR ?_); refine uE 18 zM24 zP9E zP9P 96 rfl (by kernel_rfl) ?_)) <;> ((try with_reducible intro K1 hK1); simp only [go_sem, ↓reduceIte, reduceCtorEq, nA, nB, nC, nD, nE, nF] <;> and_intros <;> first | (apply hK1; clear hK1 K1) | (intros; first | omega | decide) | skip))))
   simp only [Tryz.results24, go_sem, ↓reduceIte, reduceCtorEq, nA, nB, nC, nD, nE, nF]
   refine ⟨_, h, Weak.refl _, ⟨fun _ => .inr rfl, fun t => ?_⟩, rfl, rfl⟩
   refine .inr ?_
   show h.T t = _
   simp only [upd_upd]
   rw [upd_back hk2]
theorem g_nextR (rs : List Rt) (x : Int) (kk : Option Nat) (hl : rs.length ≤ 500) (h : Hp) :
  ACalls Tryz.prog 27 [.row 5 (rs.map encRt) kk, .v (.int .i64 x)] h (fun r h' => r = .v (.int .i64 (nextR x 345686400000 (onceI (edgesL rs)))) ∧ h' = h) := by
 have hEdg := g_edges rs kk hl h
 obtain ⟨E, hE⟩ : ∃ E, onceI (edgesL rs) = E := ⟨_, rfl⟩
 have hEl : E.length ≤ 1000 := by rw [← hE]; have := onceI_len (edgesL rs); rw [edgesL_len] at this; omega
 rw [hE] at hEdg ⊢
 clear hE
 have hml : (E.map encI).length = E.length := List.length_map _
 refine gE Tryz.func27 rfl (by kernel_rfl) 17 rfl fun c => ?_
 (repeat (first | refine gO rfl ?_ | (refine gR fun K1 hK1 => ?_; simp only [go_sem, ↓reduceIte, reduceCtorEq, nA, nB, nC, nD, nE, nF] <;> and_intros <;> first | (apply hK1; clear hK1 K1) | (intros; first | omega | decide) | skip)))
 refine hEdg.mono ?_; rintro _ hz ⟨rfl, hh⟩; apply hK1; clear hK1 K1; rw [hh]; clear hh hz
 (repeat (first | refine gO rfl ?_ | (refine gR fun K1 hK1 => ?_; simp only [go_sem, ↓reduceIte, reduceCtorEq, nA, nB, nC, nD, nE, nF, hml] <;> and_intros <;> first | (apply hK1; clear hK1 K1) | (intros; first | omega | decide) | skip)))
 refine awp_loopC (rl false [1, 1, 6, 3, 8]) 0 (fun g s => ∃ (j : Nat), g + j = E.length ∧ nextR x 345686400000 (E.drop j) = nextR x 345686400000 E ∧
  s = ⟨(AV.junk :: ((.v (.int .i64 x)) :: (jnk 6 ((.row 1 (E.map encI) none) :: (.v (.int .i64 E.length)) :: (.v (.int .i64 j)) :: (jnk 8 []))))), [], h⟩) E.length ⟨0, by omega, rfl, rfl⟩ ?_
 rintro g _ ⟨j, hj, hinv, rfl⟩
 (repeat (first | refine gO rfl ?_ | (refine gR fun K1 hK1 => ?_; simp only [go_sem, ↓reduceIte, reduceCtorEq, nA, nB, nC, nD, nE, nF] <;> and_intros <;> first | (apply hK1; clear hK1 K1) | (intros; first | omega | decide) | skip)))
 refine awp_cond (t := _) rfl (fun h5 => ?_) (fun h5 => ?_)
 ·simp only [decide_eq_true_eq] at h5
  have hjl : j < E.length := by omega
  have gx : (E.map encI).getD j [] = [.v (.int .i64 E[j])] := by rw [List.getD_eq_getElem?_getD, List.getElem?_map, List.getElem?_eq_getElem hjl]; rfl
  rw [List.drop_eq_getElem_cons hjl, nextR] at hinv
  generalize E[j] = a at *
  (repeat (first | refine gO rfl ?_ | (refine gR fun K1 hK1 => ?_; simp only [go_sem, ↓reduceIte, reduceCtorEq, nA, nB, nC, nD, nE, nF, hml, Int.toNat_natCast, gx] <;> and_intros <;> first | (apply hK1; clear hK1 K1) | (intros; first | omega | decide) | skip)))
  by_cases ha : x < a
  ·rw [if_pos ha] at hinv
   refine awp_cond (t := _) rfl (fun _ => ?_) (fun h6 => by simp [ha] at h6)
   (repeat (first | refine gO rfl ?_ | (refine gR fun K1 hK1 => ?_; simp only [go_sem, ↓reduceIte, reduceCtorEq, nA, nB, nC, nD, nE, nF] <;> and_intros <;> first | (apply hK1; clear hK1 K1) | (intros; first | omega | decide) | skip)))
   simp only [Tryz.results27, go_sem, ↓reduceIte, reduceCtorEq, nA, nB, nC, nD, nE, nF]
   exact ⟨_, _, Weak.refl _, Hp.le.refl _, by rw [← hinv], rfl⟩
  ·rw [if_neg ha] at hinv
   refine awp_cond (t := _) rfl (fun h6 => by simp [ha] at h6) (fun _ => ?_)
   (repeat (first | refine gO rfl ?_ | (refine gR fun K1 hK1 => ?_; simp only [go_sem, ↓reduceIte, reduceCtorEq, nA, nB, nC, nD, nE, nF] <;> and_intros <;> first | (apply hK1; clear hK1 K1) | (intros; first | omega | decide) | skip)))
   exact ⟨g - 1, by omega, j + 1, by omega, hinv, rfl⟩
 ·simp only [decide_eq_false_iff_not] at h5
  have hjl : j = E.length := by omega
  subst hjl
  rw [List.drop_length, nextR] at hinv
  (repeat (first | refine gO rfl ?_ | (refine gR fun K1 hK1 => ?_; simp only [go_sem, ↓reduceIte, reduceCtorEq, nA, nB, nC, nD, nE, nF] <;> and_intros <;> first | (apply hK1; clear hK1 K1) | (intros; first | omega | decide) | skip)))
  simp only [Tryz.results27, go_sem, ↓reduceIte, reduceCtorEq, nA, nB, nC, nD, nE, nF]
  exact ⟨_, _, Weak.refl _, Hp.le.refl _, by rw [← hinv], rfl⟩
theorem g_nextC (rs : List Rt) (x : Int) (kk : Option Nat) (hl : rs.length ≤ 500) (hok : ∀ r ∈ rs, RtOk r) (h : Hp) :
  ACalls Tryz.prog 25 [.row 5 (rs.map encRt) kk, .v (.int .i64 x)] h
   (fun r h' => r = (if rightsF rs = 0 then (if momF x = 0 then (if nextP x (edgesL rs) 345686400000 = 345686400000 then .tup [.v (.int .i64 0), .v (.bool false), .v (.int .i64 0)] else .tup [.v (.int .i64 (nextP x (edgesL rs) 345686400000)), .v (.bool true), .v (.int .i64 0)]) else .tup [.v (.int .i64 0), .v (.bool false), .v (.int .i64 (momF x))]) else .tup [.v (.int .i64 0), .v (.bool false), .v (.int .i64 (rightsF rs))]) ∧ h' = h) := by
 have hR := g_checkRights rs kk hl hok h
 have hM := g_momentFault x h
 have hml : (rs.map encRt).length = rs.length := List.length_map _
 refine gE Tryz.func25 rfl (by kernel_rfl) 49 rfl fun c => ?_
 (repeat (first | refine gO rfl ?_ | (refine gM zM20 fun K1 hK1 => ?_; simp only [go_sem, ↓reduceIte, reduceCtorEq, nA, nB, nC, nD, nE, nF] <;> and_intros <;> first | (apply hK1; clear hK1 K1) | (intros; first | omega | decide) | skip)))
 refine hR.mono ?_; rintro _ hz ⟨rfl, hh⟩; apply hK1; clear hK1 K1; rw [hh]; clear hh hz
 (repeat (first | refine gO rfl ?_ | (refine gM zM20 fun K1 hK1 => ?_; simp only [go_sem, ↓reduceIte, reduceCtorEq, nA, nB, nC, nD, nE, nF] <;> and_intros <;> first | (apply hK1; clear hK1 K1) | (intros; first | omega | decide) | skip)))
 by_cases h1 : rightsF rs = 0
 ·refine awp_cond (t := _) rfl (fun h6 => by rw [h1] at h6; cases h6) (fun _ => ?_)
  rw [if_pos h1]
  (repeat (first | refine gO rfl ?_ | (refine gM zM20 fun K1 hK1 => ?_; simp only [go_sem, ↓reduceIte, reduceCtorEq, nA, nB, nC, nD, nE, nF] <;> and_intros <;> first | (apply hK1; clear hK1 K1) | (intros; first | omega | decide) | skip)))
  refine hM.mono ?_; rintro _ hz ⟨rfl, hh⟩; apply hK1; clear hK1 K1; rw [hh]; clear hh hz
  (repeat (first | refine gO rfl ?_ | (refine gM zM20 fun K1 hK1 => ?_; simp only [go_sem, ↓reduceIte, reduceCtorEq, nA, nB, nC, nD, nE, nF] <;> and_intros <;> first | (apply hK1; clear hK1 K1) | (intros; first | omega | decide) | skip)))
  by_cases h2 : momF x = 0
  ·refine awp_cond (t := _) rfl (fun h6 => by rw [h2] at h6; cases h6) (fun _ => ?_)
   rw [if_pos h2]
   (repeat (first | refine gO rfl ?_ | (refine gM zM20 fun K1 hK1 => ?_; simp only [go_sem, ↓reduceIte, reduceCtorEq, nA, nB, nC, nD, nE, nF, hml] <;> and_intros <;> first | (apply hK1; clear hK1 K1) | (intros; first | omega | decide) | skip)))
   refine awp_loopC (rl false [1, 1, 7, 1, 14, 3, 24]) 0 (fun g s => ∃ (j : Nat) (m : Int), g + j = rs.length ∧ nextP x (edgesL (rs.drop j)) m = nextP x (edgesL rs) 345686400000 ∧
    s = ⟨(AV.junk :: ((.v (.int .i64 x)) :: (jnk 7 ((.v (.int .i64 m)) :: (jnk 14 ((.row 5 (rs.map encRt) kk) :: (.v (.int .i64 rs.length)) :: (.v (.int .i64 j)) :: (jnk 24 []))))))), [], h⟩) rs.length ⟨0, 345686400000, by omega, rfl, rfl⟩ ?_
   rintro g _ ⟨j, m, hj, hinv, rfl⟩
   (repeat (first | refine gO rfl ?_ | (refine gM zM20 fun K1 hK1 => ?_; simp only [go_sem, ↓reduceIte, reduceCtorEq, nA, nB, nC, nD, nE, nF] <;> and_intros <;> first | (apply hK1; clear hK1 K1) | (intros; first | omega | decide) | skip)))
   refine awp_cond (t := _) rfl (fun h5 => ?_) (fun h5 => ?_)
   ·simp only [decide_eq_true_eq] at h5
    have hjl : j < rs.length := by omega
    have gx : (rs.map encRt).getD j [] = encRt rs[j] := by rw [List.getD_eq_getElem?_getD, List.getElem?_map, List.getElem?_eq_getElem hjl]; rfl
    have hed : edgesL (rs.drop j) = rs[j].2.2.1 :: rs[j].2.2.2.1 :: edgesL (rs.drop (j + 1)) := by rw [List.drop_eq_getElem_cons hjl]; rfl
    rw [hed] at hinv
    clear hed
    generalize rs[j] = r at *
    obtain ⟨it, tg, a, b, bb⟩ := r
    rw [show encRt (it, tg, a, b, bb) = [.v (.string it), .row 1 (tg.map encS) none, .v (.int .i64 a), .v (.int .i64 b), .v (.bool bb)] from rfl] at gx
    simp only at hinv
    (repeat (first | refine gO rfl ?_ | (refine gM zM20 fun K1 hK1 => ?_; simp only [go_sem, ↓reduceIte, reduceCtorEq, nA, nB, nC, nD, nE, nF, hml, Int.toNat_natCast, gx] <;> and_intros <;> first | (apply hK1; clear hK1 K1) | (intros; first | omega | decide) | skip)))
    obtain ⟨R, hRe⟩ : ∃ R, edgesL (rs.drop (j + 1)) = R := ⟨_, rfl⟩
    rw [hRe] at hinv
    refine awp_loopC (rl false [1, 1, 7, 1, 14, 3, 9, 2, 13]) 0 (fun g2 s => ∃ (iz m : Int), (iz = 0 ∧ g2 = 2 ∧ nextP x (a :: b :: R) m = nextP x (edgesL rs) 345686400000 ∨ iz = 1 ∧ g2 = 1 ∧ nextP x (b :: R) m = nextP x (edgesL rs) 345686400000 ∨ iz = 2 ∧ g2 = 0 ∧ nextP x R m = nextP x (edgesL rs) 345686400000) ∧
     s = ⟨(AV.junk :: ((.v (.int .i64 x)) :: (jnk 7 ((.v (.int .i64 m)) :: (jnk 14 ((.row 5 (rs.map encRt) kk) :: (.v (.int .i64 rs.length)) :: (.v (.int .i64 j)) :: (jnk 9 ((.agg [.v (.int .i64 a), .v (.int .i64 b)]) :: (.v (.int .i64 iz)) :: (jnk 13 []))))))))), [], h⟩) 2 ⟨0, m, .inl ⟨rfl, rfl, hinv⟩, rfl⟩ ?_
    clear hinv m
    rintro g2 _ ⟨iz, m, hc, rfl⟩
    have g0 : ∀ d, [AV.v (.int .i64 a), AV.v (.int .i64 b)].getD (Int.toNat 0 * 1) d = .v (.int .i64 a) := fun _ => rfl
    have g1 : ∀ d, [AV.v (.int .i64 a), AV.v (.int .i64 b)].getD (Int.toNat 1 * 1) d = .v (.int .i64 b) := fun _ => rfl
    rcases hc with ⟨rfl, rfl, hinv⟩ | ⟨rfl, rfl, hinv⟩ | ⟨rfl, rfl, hinv⟩
    ·rw [nextP] at hinv
     (repeat (first | refine gO rfl ?_ | (refine gM zM20 fun K1 hK1 => ?_; simp only [go_sem, ↓reduceIte, reduceCtorEq, nA, nB, nC, nD, nE, nF] <;> and_intros <;> first | (apply hK1; clear hK1 K1) | (intros; first | omega | decide) | skip)))
     refine awp_cond (t := _) rfl (fun _ => ?_) (fun h6 => by cases h6)
     by_cases ha : x < a
     ·rw [if_pos ha] at hinv
      have hd : decide (x < a) = true := decide_eq_true ha
      (repeat (first | refine gO rfl ?_ | (refine gM zM20 fun K1 hK1 => ?_; simp only [go_sem, ↓reduceIte, reduceCtorEq, nA, nB, nC, nD, nE, nF, g0, hd] <;> and_intros <;> first | (apply hK1; clear hK1 K1) | (intros; first | omega | decide) | skip)))
      refine awp_cond (t := _) rfl (fun _ => ?_) (fun h6 => by cases h6)
      (repeat (first | refine gO rfl ?_ | (refine gM zM20 fun K1 hK1 => ?_; simp only [go_sem, ↓reduceIte, reduceCtorEq, nA, nB, nC, nD, nE, nF] <;> and_intros <;> first | (apply hK1; clear hK1 K1) | (intros; first | omega | decide) | skip)))
      exact ⟨1, by omega, 1, _, .inr (.inl ⟨rfl, rfl, hinv⟩), rfl⟩
     ·rw [if_neg ha] at hinv
      have hd : decide (x < a) = false := decide_eq_false ha
      (repeat (first | refine gO rfl ?_ | (refine gM zM20 fun K1 hK1 => ?_; simp only [go_sem, ↓reduceIte, reduceCtorEq, nA, nB, nC, nD, nE, nF, g0, hd] <;> and_intros <;> first | (apply hK1; clear hK1 K1) | (intros; first | omega | decide) | skip)))
      refine awp_cond (t := _) rfl (fun h6 => by cases h6) (fun _ => ?_)
      (repeat (first | refine gO rfl ?_ | (refine gM zM20 fun K1 hK1 => ?_; simp only [go_sem, ↓reduceIte, reduceCtorEq, nA, nB, nC, nD, nE, nF] <;> and_intros <;> first | (apply hK1; clear hK1 K1) | (intros; first | omega | decide) | skip)))
      exact ⟨1, by omega, 1, _, .inr (.inl ⟨rfl, rfl, hinv⟩), rfl⟩
    ·rw [nextP] at hinv
     (repeat (first | refine gO rfl ?_ | (refine gM zM20 fun K1 hK1 => ?_; simp only [go_sem, ↓reduceIte, reduceCtorEq, nA, nB, nC, nD, nE, nF] <;> and_intros <;> first | (apply hK1; clear hK1 K1) | (intros; first | omega | decide) | skip)))
     refine awp_cond (t := _) rfl (fun _ => ?_) (fun h6 => by cases h6)
     by_cases ha : x < b
     ·rw [if_pos ha] at hinv
      have hd : decide (x < b) = true := decide_eq_true ha
      (repeat (first | refine gO rfl ?_ | (refine gM zM20 fun K1 hK1 => ?_; simp only [go_sem, ↓reduceIte, reduceCtorEq, nA, nB, nC, nD, nE, nF, g1, hd] <;> and_intros <;> first | (apply hK1; clear hK1 K1) | (intros; first | omega | decide) | skip)))
      refine awp_cond (t := _) rfl (fun _ => ?_) (fun h6 => by cases h6)
      (repeat (first | refine gO rfl ?_ | (refine gM zM20 fun K1 hK1 => ?_; simp only [go_sem, ↓reduceIte, reduceCtorEq, nA, nB, nC, nD, nE, nF] <;> and_intros <;> first | (apply hK1; clear hK1 K1) | (intros; first | omega | decide) | skip)))
      exact ⟨0, by omega, 2, _, .inr (.inr ⟨rfl, rfl, hinv⟩), rfl⟩
     ·rw [if_neg ha] at hinv
      have hd : decide (x < b) = false := decide_eq_false ha
      (repeat (first | refine gO rfl ?_ | (refine gM zM20 fun K1 hK1 => ?_; simp only [go_sem, ↓reduceIte, reduceCtorEq, nA, nB, nC, nD, nE, nF, g1, hd] <;> and_intros <;> first | (apply hK1; clear hK1 K1) | (intros; first | omega | decide) | skip)))
      refine awp_cond (t := _) rfl (fun h6 => by cases h6) (fun _ => ?_)
      (repeat (first | refine gO rfl ?_ | (refine gM zM20 fun K1 hK1 => ?_; simp only [go_sem, ↓reduceIte, reduceCtorEq, nA, nB, nC, nD, nE, nF] <;> and_intros <;> first | (apply hK1; clear hK1 K1) | (intros; first | omega | decide) | skip)))
      exact ⟨0, by omega, 2, _, .inr (.inr ⟨rfl, rfl, hinv⟩), rfl⟩
    ·(repeat (first | refine gO rfl ?_ | (refine gM zM20 fun K1 hK1 => ?_; simp only [go_sem, ↓reduceIte, reduceCtorEq, nA, nB, nC, nD, nE, nF] <;> and_intros <;> first | (apply hK1; clear hK1 K1) | (intros; first | omega | decide) | skip)))
     refine awp_cond (t := _) rfl (fun h6 => by cases h6) (fun _ => ?_)
     (repeat (first | refine gO rfl ?_ | (refine gM zM20 fun K1 hK1 => ?_; simp only [go_sem, ↓reduceIte, reduceCtorEq, nA, nB, nC, nD, nE, nF] <;> and_intros <;> first | (apply hK1; clear hK1 K1) | (intros; first | omega | decide) | skip)))
     exact ⟨g - 1, by omega, j + 1, m, by omega, by rw [hRe, hinv], rfl⟩
   ·simp only [decide_eq_false_iff_not] at h5
    have hjl : j = rs.length := by omega
    subst hjl
    rw [List.drop_length] at hinv
    have hinv2 : m = nextP x (edgesL rs) 345686400000 := hinv
    rw [← hinv2]
    (repeat (first | refine gO rfl ?_ | (refine gM zM20 fun K1 hK1 => ?_; simp only [go_sem, ↓reduceIte, reduceCtorEq, nA, nB, nC, nD, nE, nF] <;> and_intros <;> first | (apply hK1; clear hK1 K1) | (intros; first | omega | decide) | skip)))
    by_cases h3 : m = 345686400000
    ·refine awp_cond (t := _) rfl (fun _ => ?_) (fun h6 => by simp [h3] at h6)
     (repeat (first | refine gO rfl ?_ | (refine gM zM20 fun K1 hK1 => ?_; simp only [go_sem, ↓reduceIte, reduceCtorEq, nA, nB, nC, nD, nE, nF] <;> and_intros <;> first | (apply hK1; clear hK1 K1) | (intros; first | omega | decide) | skip)))
     simp only [Tryz.results25, go_sem, ↓reduceIte, reduceCtorEq, nA, nB, nC, nD, nE, nF]
     exact ⟨_, _, Weak.refl _, Hp.le.refl _, by rw [if_pos h3], rfl⟩
    ·refine awp_cond (t := _) rfl (fun h6 => by simp [h3] at h6) (fun _ => ?_)
     (repeat (first | refine gO rfl ?_ | (refine gM zM20 fun K1 hK1 => ?_; simp only [go_sem, ↓reduceIte, reduceCtorEq, nA, nB, nC, nD, nE, nF] <;> and_intros <;> first | (apply hK1; clear hK1 K1) | (intros; first | omega | decide) | skip)))
     simp only [Tryz.results25, go_sem, ↓reduceIte, reduceCtorEq, nA, nB, nC, nD, nE, nF]
     exact ⟨_, _, Weak.refl _, Hp.le.refl _, by rw [if_neg h3], rfl⟩
  ·refine awp_cond (t := _) rfl (fun _ => ?_) (fun h6 => absurd h6 (by simpa using h2))
   (repeat (first | refine gO rfl ?_ | (refine gM zM20 fun K1 hK1 => ?_; simp only [go_sem, ↓reduceIte, reduceCtorEq, nA, nB, nC, nD, nE, nF] <;> and_intros <;> first | (apply hK1; clear hK1 K1) | (intros; first | omega | decide) | skip)))
   simp only [Tryz.results25, go_sem, ↓reduceIte, reduceCtorEq, nA, nB, nC, nD, nE, nF]
   exact ⟨_, _, Weak.refl _, Hp.le.refl _, by rw [if_neg h2], rfl⟩
 ·refine awp_cond (t := _) rfl (fun _ => ?_) (fun h6 => absurd h6 (by simpa using h1))
  (repeat (first | refine gO rfl ?_ | (refine gM zM20 fun K1 hK1 => ?_; simp only [go_sem, ↓reduceIte, reduceCtorEq, nA, nB, nC, nD, nE, nF] <;> and_intros <;> first | (apply hK1; clear hK1 K1) | (intros; first | omega | decide) | skip)))
  simp only [Tryz.results25, go_sem, ↓reduceIte, reduceCtorEq, nA, nB, nC, nD, nE, nF]
  exact ⟨_, _, Weak.refl _, Hp.le.refl _, by rw [if_neg h1], rfl⟩
def scrS : ByteArray := ⟨#[115, 97]⟩
theorem scr_key : keyB scrS = true := by decide
theorem scr_sz : scrS.size ≤ 4 := by decide
theorem g_guest (i : Nat) (l : List Int) (a : Int) (key : ByteArray) (h : Hp) (hl : SOk l) (ha : 0 ≤ a ∧ a ≤ 100000) (hkey : key.size ≤ 4) :
  ACalls Tryz.prog 10 [.ptr i 0, .v (.string key)] (h.st i l a) (fun r h' => ∃ (p : Gu) (a' : Int), GuOk p ∧ (a ≤ a' ∧ a' ≤ a + 20) ∧ r = .agg (encGu p) ∧ h' = h.st i l a') := by
 refine gE Tryz.func10 rfl (by kernel_rfl) 27 rfl fun c => ?_
 (repeat (first | refine gO rfl ?_ | (refine gM zM25 fun K1 hK1 => ?_; simp only [go_sem, ↓reduceIte, reduceCtorEq, nA, nB, nC, nD, nE, nF] <;> and_intros <;> first | (apply hK1; clear hK1 K1) | (intros; first | omega | decide) | skip)))
 refine (g_pick i l a [0, 0, 60, -90] none _ hl (by omega) (by simp)).mono ?_; rintro _ _ ⟨x, hx, rfl, rfl⟩; apply hK1; clear hK1 K1
 (repeat (first | refine gO rfl ?_ | (refine gM zM25 fun K1 hK1 => ?_; simp only [go_sem, ↓reduceIte, reduceCtorEq, nA, nB, nC, nD, nE, nF] <;> and_intros <;> first | (apply hK1; clear hK1 K1) | (intros; first | omega | decide) | skip)))
 refine (g_tags i l (a + 1) _ hl (by omega)).mono ?_; rintro _ _ ⟨tg, htg, rfl, rfl⟩; apply hK1; clear hK1 K1
 have htk := tg_ok htg
 clear htg hx
 cases tg with
 | nil =>
  unfold encG
  (repeat (first | refine gO rfl ?_ | (refine gM zM25 fun K1 hK1 => ?_; simp only [go_sem, ↓reduceIte, reduceCtorEq, nA, nB, nC, nD, nE, nF] <;> and_intros <;> first | (apply hK1; clear hK1 K1) | (intros; first | omega | decide) | skip)))
  refine (g_flip i l (a + 1 + 1) 20 _ hl (by omega) (by omega)).mono ?_; rintro _ _ ⟨bb, rfl, rfl⟩; apply hK1; clear hK1 K1
  (repeat (first | refine gO rfl ?_ | (refine gM zM25 fun K1 hK1 => ?_; simp only [go_sem, ↓reduceIte, reduceCtorEq, nA, nB, nC, nD, nE, nF] <;> and_intros <;> first | (apply hK1; clear hK1 K1) | (intros; first | omega | decide) | skip)))
  cases bb with
  | false =>
   refine awp_cond (t := _) rfl (fun h9 => by cases h9) (fun _ => ?_)
   (repeat (first | refine gO rfl ?_ | (refine gM zM25 fun K1 hK1 => ?_; simp only [go_sem, ↓reduceIte, reduceCtorEq, nA, nB, nC, nD, nE, nF] <;> and_intros <;> first | (apply hK1; clear hK1 K1) | (intros; first | omega | decide) | skip)))
   simp only [Tryz.results10, go_sem, ↓reduceIte, reduceCtorEq, nA, nB, nC, nD, nE, nF]
   refine ⟨_, _, Weak.agg (WL.cons (Weak.refl _) (WL.cons (Weak.refl _) (WL.cons (Weak.refl _) (WL.cons (weakG []) WL.nil)))), Hp.le.refl _, ⟨key, scrS, x, []⟩, a + 1 + 1 + 1, ⟨hkey, scr_key, scr_sz, htk.1⟩, by omega, rfl, rfl⟩
  | true =>
   refine awp_cond (t := _) rfl (fun _ => ?_) (fun h9 => by cases h9)
   (repeat (first | refine gO rfl ?_ | (refine gM zM25 fun K1 hK1 => ?_; simp only [go_sem, ↓reduceIte, reduceCtorEq, nA, nB, nC, nD, nE, nF] <;> and_intros <;> first | (apply hK1; clear hK1 K1) | (intros; first | omega | decide) | skip)))
   refine (g_some i l (a + 1 + 1 + 1) [key, ⟨#[]⟩] none _ hl (by omega) (by simp)).mono ?_; rintro _ _ ⟨y1, hy1, rfl, rfl⟩; apply hK1; clear hK1 K1
   (repeat (first | refine gO rfl ?_ | (refine gM zM25 fun K1 hK1 => ?_; simp only [go_sem, ↓reduceIte, reduceCtorEq, nA, nB, nC, nD, nE, nF] <;> and_intros <;> first | (apply hK1; clear hK1 K1) | (intros; first | omega | decide) | skip)))
   refine (g_odd i l (a + 1 + 1 + 1 + 1) (-1440) 1440 _ hl (by omega) (by omega) (by omega) (by omega)).mono ?_
   rintro _ _ ⟨z, a2, hz, ha2, rfl, rfl⟩
   refine hK1 _ ?_; clear hK1 K1
   (repeat (first | refine gO rfl ?_ | (refine gM zM25 fun K1 hK1 => ?_; simp only [go_sem, ↓reduceIte, reduceCtorEq, nA, nB, nC, nD, nE, nF] <;> and_intros <;> first | (apply hK1; clear hK1 K1) | (intros; first | omega | decide) | skip)))
   refine (g_some i l a2 [⟨#[97]⟩, ⟨#[99]⟩] none _ hl (by omega) (by simp)).mono ?_; rintro _ _ ⟨y2, hy2, rfl, rfl⟩; apply hK1; clear hK1 K1
   (repeat (first | refine gO rfl ?_ | (refine gM zM25 fun K1 hK1 => ?_; simp only [go_sem, ↓reduceIte, reduceCtorEq, nA, nB, nC, nD, nE, nF] <;> and_intros <;> first | (apply hK1; clear hK1 K1) | (intros; first | omega | decide) | skip)))
   simp only [Tryz.results10, go_sem, ↓reduceIte, reduceCtorEq, nA, nB, nC, nD, nE, nF]
   refine ⟨_, _, Weak.refl _, Hp.le.refl _, ⟨y1, scrS, z, [⟨#[98]⟩, y2]⟩, a2 + 1, ⟨?_, scr_key, scr_sz, ⟨by show 2 ≤ 3; omega, ?_⟩⟩, by omega, rfl, rfl⟩
   ·simp only [List.mem_cons, List.not_mem_nil, or_false] at hy1
    rcases hy1 with rfl | rfl
    ·exact hkey
    ·show (⟨#[]⟩ : ByteArray).size ≤ 4; decide
   ·intro s hs
    simp only [List.mem_cons, List.not_mem_nil, or_false] at hy2 hs
    rcases hs with rfl | rfl
    ·decide
    ·rcases hy2 with rfl | rfl <;> decide
 | cons t0 tg =>
  unfold encG
  (repeat (first | refine gO rfl ?_ | (refine gM zM25 fun K1 hK1 => ?_; simp only [go_sem, ↓reduceIte, reduceCtorEq, nA, nB, nC, nD, nE, nF] <;> and_intros <;> first | (apply hK1; clear hK1 K1) | (intros; first | omega | decide) | skip)))
  refine (g_flip i l (a + 1 + 1) 20 _ hl (by omega) (by omega)).mono ?_; rintro _ _ ⟨bb, rfl, rfl⟩; apply hK1; clear hK1 K1
  (repeat (first | refine gO rfl ?_ | (refine gM zM25 fun K1 hK1 => ?_; simp only [go_sem, ↓reduceIte, reduceCtorEq, nA, nB, nC, nD, nE, nF] <;> and_intros <;> first | (apply hK1; clear hK1 K1) | (intros; first | omega | decide) | skip)))
  cases bb with
  | false =>
   refine awp_cond (t := _) rfl (fun h9 => by cases h9) (fun _ => ?_)
   (repeat (first | refine gO rfl ?_ | (refine gM zM25 fun K1 hK1 => ?_; simp only [go_sem, ↓reduceIte, reduceCtorEq, nA, nB, nC, nD, nE, nF] <;> and_intros <;> first | (apply hK1; clear hK1 K1) | (intros; first | omega | decide) | skip)))
   simp only [Tryz.results10, go_sem, ↓reduceIte, reduceCtorEq, nA, nB, nC, nD, nE, nF]
   refine ⟨_, _, Weak.agg (WL.cons (Weak.refl _) (WL.cons (Weak.refl _) (WL.cons (Weak.refl _) (WL.cons (weakG (t0 :: tg)) WL.nil)))), Hp.le.refl _, ⟨key, scrS, x, (t0 :: tg)⟩, a + 1 + 1 + 1, ⟨hkey, scr_key, scr_sz, htk.1⟩, by omega, rfl, rfl⟩
  | true =>
   refine awp_cond (t := _) rfl (fun _ => ?_) (fun h9 => by cases h9)
   (repeat (first | refine gO rfl ?_ | (refine gM zM25 fun K1 hK1 => ?_; simp only [go_sem, ↓reduceIte, reduceCtorEq, nA, nB, nC, nD, nE, nF] <;> and_intros <;> first | (apply hK1; clear hK1 K1) | (intros; first | omega | decide) | skip)))
   refine (g_some i l (a + 1 + 1 + 1) [key, ⟨#[]⟩] none _ hl (by omega) (by simp)).mono ?_; rintro _ _ ⟨y1, hy1, rfl, rfl⟩; apply hK1; clear hK1 K1
   (repeat (first | refine gO rfl ?_ | (refine gM zM25 fun K1 hK1 => ?_; simp only [go_sem, ↓reduceIte, reduceCtorEq, nA, nB, nC, nD, nE, nF] <;> and_intros <;> first | (apply hK1; clear hK1 K1) | (intros; first | omega | decide) | skip)))
   refine (g_odd i l (a + 1 + 1 + 1 + 1) (-1440) 1440 _ hl (by omega) (by omega) (by omega) (by omega)).mono ?_
   rintro _ _ ⟨z, a2, hz, ha2, rfl, rfl⟩
   refine hK1 _ ?_; clear hK1 K1
   (repeat (first | refine gO rfl ?_ | (refine gM zM25 fun K1 hK1 => ?_; simp only [go_sem, ↓reduceIte, reduceCtorEq, nA, nB, nC, nD, nE, nF] <;> and_intros <;> first | (apply hK1; clear hK1 K1) | (intros; first | omega | decide) | skip)))
   refine (g_some i l a2 [⟨#[97]⟩, ⟨#[99]⟩] none _ hl (by omega) (by simp)).mono ?_; rintro _ _ ⟨y2, hy2, rfl, rfl⟩; apply hK1; clear hK1 K1
   (repeat (first | refine gO rfl ?_ | (refine gM zM25 fun K1 hK1 => ?_; simp only [go_sem, ↓reduceIte, reduceCtorEq, nA, nB, nC, nD, nE, nF] <;> and_intros <;> first | (apply hK1; clear hK1 K1) | (intros; first | omega | decide) | skip)))
   simp only [Tryz.results10, go_sem, ↓reduceIte, reduceCtorEq, nA, nB, nC, nD, nE, nF]
   refine ⟨_, _, Weak.refl _, Hp.le.refl _, ⟨y1, scrS, z, [⟨#[98]⟩, y2]⟩, a2 + 1, ⟨?_, scr_key, scr_sz, ⟨by show 2 ≤ 3; omega, ?_⟩⟩, by omega, rfl, rfl⟩
   ·simp only [List.mem_cons, List.not_mem_nil, or_false] at hy1
    rcases hy1 with rfl | rfl
    ·exact hkey
    ·show (⟨#[]⟩ : ByteArray).size ≤ 4; decide
   ·intro s hs
    simp only [List.mem_cons, List.not_mem_nil, or_false] at hy2 hs
    rcases hs with rfl | rfl
    ·decide
    ·rcases hy2 with rfl | rfl <;> decide
def orI : List Int → Int
 | [] => 0
 | x :: l => if x = 0 then orI l else x
theorem orI_at (l : List Int) (j : Nat) (h : j < l.length) (h0 : ∀ i, i < j → l.getD i 0 = 0) (hn : l.getD j 0 ≠ 0) : orI l = l.getD j 0 := by
 induction l generalizing j with
 | nil => simp at h
 | cons x l ih =>
  cases j with
  | zero => rw [orI, if_neg (by simpa using hn)]; rfl
  | succ j =>
   have hx := h0 0 (by omega)
   simp only [List.getD_cons_zero] at hx
   rw [orI, if_pos hx, List.getD_cons_succ]
   exact ih j (by simpa using h) (fun i hi => by simpa using h0 (i + 1) (by omega)) (by simpa using hn)
theorem orI_zero (l : List Int) (h : ∀ i, i < l.length → l.getD i 0 = 0) : orI l = 0 := by
 induction l with
 | nil => rfl
 | cons x l ih =>
  have hx := h 0 (by simp)
  simp only [List.getD_cons_zero] at hx
  rw [orI, if_pos hx]
  exact ih fun i hi => by simpa using h (i + 1) (by simpa using hi)
theorem g_orG (l : List Int) (h : Hp) (hl : l.length ≤ 1000) : ACalls Tryz.prog 17 [.row 1 (l.map encI) none] h (fun r h' => r = .v (.int .i64 (orI l)) ∧ h' = h) := by
 refine gE Tryz.func17 rfl (by kernel_rfl) 17 rfl fun c => ?_
 (repeat (first | refine gO rfl ?_ | (refine gR fun K1 hK1 => ?_; simp only [go_sem, ↓reduceIte, reduceCtorEq, nA, nB, nC, nD, nE, nF] <;> and_intros <;> first | (apply hK1; clear hK1 K1) | (intros; first | omega | decide | (simp_all <;> omega)) | skip)))
 refine awp_loopC (rl false [3, 1, 2, 3, 9]) 0 (fun g s => ∃ j : Nat, g + j = l.length ∧ (∀ i, i < j → l.getD i 0 = 0) ∧
  s = ⟨((jnk 3 ((.v (.int .i64 0)) :: AV.junk :: AV.junk :: ((.row 1 (l.map encI) none) :: (.v (.int .i64 l.length)) :: (.v (.int .i64 j)) :: (jnk 9 []))))), [], h⟩) l.length ⟨0, by omega, by omega, rfl⟩ ?_
 rintro g _ ⟨j, hj, h0, rfl⟩
 (repeat (first | refine gO rfl ?_ | (refine gR fun K1 hK1 => ?_; simp only [go_sem, ↓reduceIte, reduceCtorEq, nA, nB, nC, nD, nE, nF] <;> and_intros <;> first | (apply hK1; clear hK1 K1) | (intros; first | omega | decide | (simp_all <;> omega)) | skip)))
 refine awp_cond (t := _) rfl (fun h3 => ?_) (fun h3 => ?_)
 ·simp only [decide_eq_true_eq] at h3
  have hjl : j < l.length := by omega
  have hgx : (l.map encI).getD j [] = [.v (.int .i64 (l.getD j 0))] := getD_enc encI l j 0 hjl
  have hat := orI_at l j hjl h0
  obtain ⟨x, hx⟩ : ∃ x, x = l.getD j 0 := ⟨_, rfl⟩
  rw [← hx] at hgx hat
  (repeat (first | refine gO rfl ?_ | (refine gR fun K1 hK1 => ?_; simp only [go_sem, ↓reduceIte, reduceCtorEq, nA, nB, nC, nD, nE, nF, Int.toNat_natCast, hgx] <;> and_intros <;> first | (apply hK1; clear hK1 K1) | (intros; first | omega | decide | (simp_all <;> omega)) | skip)))
  refine awp_cond (t := _) rfl (fun h4 => ?_) (fun h4 => ?_)
  ·have h4' : x ≠ 0 := by simpa using h4
   (repeat (first | refine gO rfl ?_ | (refine gR fun K1 hK1 => ?_; simp only [go_sem, ↓reduceIte, reduceCtorEq, nA, nB, nC, nD, nE, nF] <;> and_intros <;> first | (apply hK1; clear hK1 K1) | (intros; first | omega | decide | (simp_all <;> omega)) | skip)))
   simp only [Tryz.results17, go_sem, ↓reduceIte, reduceCtorEq, nA, nB, nC, nD, nE, nF]
   exact ⟨_, _, Weak.refl _, Hp.le.refl _, by rw [hat h4'], rfl⟩
  ·have h4' : x = 0 := by simpa using h4
   (repeat (first | refine gO rfl ?_ | (refine gR fun K1 hK1 => ?_; simp only [go_sem, ↓reduceIte, reduceCtorEq, nA, nB, nC, nD, nE, nF] <;> and_intros <;> first | (apply hK1; clear hK1 K1) | (intros; first | omega | decide | (simp_all <;> omega)) | skip)))
   exact ⟨g - 1, by omega, j + 1, by omega, fun i hi => by
    by_cases e : i = j
    ·rw [e, ← hx]; exact h4'
    ·exact h0 i (by omega), rfl⟩
 ·simp only [decide_eq_false_iff_not] at h3
  have hjl : j = l.length := by omega
  subst hjl
  (repeat (first | refine gO rfl ?_ | (refine gR fun K1 hK1 => ?_; simp only [go_sem, ↓reduceIte, reduceCtorEq, nA, nB, nC, nD, nE, nF] <;> and_intros <;> first | (apply hK1; clear hK1 K1) | (intros; first | omega | decide | (simp_all <;> omega)) | skip)))
  simp only [Tryz.results17, go_sem, ↓reduceIte, reduceCtorEq, nA, nB, nC, nD, nE, nF]
  exact ⟨_, _, Weak.refl _, Hp.le.refl _, by rw [orI_zero l h0], rfl⟩
abbrev zPAE : List Nat := [0, 1, 2, 3, 4, 5, 6]
abbrev zPAP : List (Nat × List Nat × List Nat) := []
attribute [go_sem] zPAE zPAP
def CacheH (h : Hp) (K : Nat → Kp) (ps : List Nat) : Prop := ∀ p ∈ ps, h.H p = some (.cells (encKp (K p)))
def encCa (room rule now : Int) (k n : Nat) : List AV := [.v (.int .i64 room), .v (.int .i64 rule), .v (.int .i64 now), .arr 1 k n]
def nilP : AV := .v (Value.pointer none)
def findF (item : ByteArray) (K : Nat → Kp) (ps : List Nat) : AV := match ps.find? (fun p => (K p).1 == item) with
 | some p => .ptr p 0
 | none => nilP
theorem g_find1 {item : ByteArray} {x : Kp} {p : Nat} {h : Hp} (hp : h.H p = some (.cells (encKp x))) :
  ACalls Tryz.prog 164 ([.ptr p 0] ++ [.ref [.v (.string item)] 0]) h (fun r h' => r = .v (.bool (x.1 == item)) ∧ h' = h) := by
 obtain ⟨k, b, pi, ca, la, ma⟩ := x
 refine gE Tryz.func164 rfl (by kernel_rfl) 8 rfl fun c => ?_
 (repeat (first | refine gO rfl ?_ | ((first | refine gR ?_ | (with_reducible refine wM ?_ ?_) | ((with_reducible refine xS ?_); refine uD 1 zM22 zPAE zPAP 10 rfl (by kernel_rfl) ?_)) <;> ((try with_reducible intro K1 hK1); simp only [go_sem, ↓reduceIte, reduceCtorEq, nA, nB, nC, nD, nE, nF, hp, encKp] <;> and_intros <;> first | (apply hK1; clear hK1 K1) | (intros; first | omega | decide | (simp_all <;> omega)) | skip))))
 simp only [Tryz.results164, go_sem, ↓reduceIte, reduceCtorEq, nA, nB, nC, nD, nE, nF]
 exact ⟨_, _, Weak.refl _, Hp.le.refl _, rfl, rfl⟩
theorem g_find {item : ByteArray} (K : Nat → Kp) (ci k : Nat) (room rule now : Int) (ps : List Nat) (h : Hp) (hC : h.H ci = some (.cells (encCa room rule now k ps.length))) (hT : h.T k = some (.cont 1 (ps.map encR))) (hl : ps.length ≤ 100000) (hK : CacheH h K ps) :
  ACalls Tryz.prog 120 [.ptr ci 0, .v (.string item)] h (fun r h' => r = findF item K ps ∧ h' = h) := by
 have hix := g_idxK (fun p => (K p).1 == item) k ps h hT hl (fun p hp => g_find1 (item := item) (hK p hp))
 have hml : (ps.map encR).length = ps.length := List.length_map _
 refine gE Tryz.func120 rfl (by kernel_rfl) 19 rfl fun c => ?_
 (repeat (first | refine gO rfl ?_ | (refine gR fun K1 hK1 => ?_; simp only [go_sem, ↓reduceIte, reduceCtorEq, nA, nB, nC, nD, nE, nF, hC, encCa] <;> and_intros <;> first | (apply hK1; clear hK1 K1) | (intros; first | omega | decide | (simp_all <;> omega)) | skip)))
 refine hix.mono ?_; rintro _ hz ⟨rfl, hh⟩; apply hK1; clear hK1 K1; rw [hh]; clear hh hz
 clear hix
 rcases idxR_cases (fun p => (K p).1 == item) ps with ⟨hno, e⟩ | ⟨j0, hj0, e, hp0, hn0⟩
 ·rw [e]
  have ef : findF item K ps = nilP := by
   rw [findF, List.find?_eq_none.2 fun p hp => by simp only [hno p hp]; decide]
  (repeat (first | refine gO rfl ?_ | (refine gR fun K1 hK1 => ?_; simp only [go_sem, ↓reduceIte, reduceCtorEq, nA, nB, nC, nD, nE, nF] <;> and_intros <;> first | (apply hK1; clear hK1 K1) | (intros; first | omega | decide) | skip)))
  refine awp_cond (t := _) rfl (fun _ => ?_) (fun h9 => by simp at h9)
  (repeat (first | refine gO rfl ?_ | (refine gR fun K1 hK1 => ?_; simp only [go_sem, ↓reduceIte, reduceCtorEq, nA, nB, nC, nD, nE, nF] <;> and_intros <;> first | (apply hK1; clear hK1 K1) | (intros; first | omega | decide) | skip)))
  simp only [Tryz.results120, go_sem, ↓reduceIte, reduceCtorEq, nA, nB, nC, nD, nE, nF]
  exact ⟨_, _, Weak.refl _, Hp.le.refl _, by rw [ef]; rfl, rfl⟩
 ·rw [e]
  have ef : findF item K ps = .ptr (ps.getD j0 default) 0 := by
   have hfd : ps.find? (fun p => (K p).1 == item) = some (ps.getD j0 default) := List.find?_eq_some_iff_getElem.2 ⟨hp0, j0, hj0, by rw [List.getD_eq_getElem?_getD, List.getElem?_eq_getElem hj0]; rfl, fun i hi => by
    have := hn0 i hi
    rw [List.getD_eq_getElem?_getD, List.getElem?_eq_getElem (by omega)] at this
    simpa using this⟩
   rw [findF, hfd]
  have gx : (ps.map encR).getD j0 [] = encR (ps.getD j0 default) := getD_enc encR ps j0 default hj0
  (repeat (first | refine gO rfl ?_ | (refine gR fun K1 hK1 => ?_; simp only [go_sem, ↓reduceIte, reduceCtorEq, nA, nB, nC, nD, nE, nF] <;> and_intros <;> first | (apply hK1; clear hK1 K1) | (intros; first | omega | decide) | skip)))
  refine awp_cond (t := _) rfl (fun h9 => by simp at h9; omega) (fun _ => ?_)
  (repeat (first | refine gO rfl ?_ | (refine gR fun K1 hK1 => ?_; simp only [go_sem, ↓reduceIte, reduceCtorEq, nA, nB, nC, nD, nE, nF, hC, encCa, hT, hml, Int.toNat_natCast, gx, encR] <;> and_intros <;> first | (apply hK1; clear hK1 K1) | (intros; first | omega | decide) | skip)))
  simp only [Tryz.results120, go_sem, ↓reduceIte, reduceCtorEq, nA, nB, nC, nD, nE, nF]
  exact ⟨_, _, Weak.refl _, Hp.le.refl _, ef.symm, rfl⟩
def orderL (rule : Int) (L : List Kp) : List Kp := sortI (cmpK rule) (L.filter fun x => !x.2.2.1)
def overL (item : ByteArray) : List Kp → Int → Int
  | [], o => o
  | x :: l, o => overL item l (if x.1 = item then o else o + x.2.1)
def goL (item : ByteArray) : List Kp → Int → List Kp × Int
  | [], o => ([], o)
  | x :: l, o => if o ≤ 0 then ([], o) else if x.1 = item then goL item l o else (x :: (goL item l (o - x.2.1)).1, (goL item l (o - x.2.1)).2)
def goingL (item : ByteArray) (bytes room rule : Int) (L : List Kp) : List Kp × Int := goL item (orderL rule L) (overL item L (bytes - room))
theorem insR_map {α β : Type} (f : α → β) (c : β → β → Int) : ∀ (r : List α) (x : α), (insR (fun a b => c (f a) (f b)) r x).map f = insR c (r.map f) (f x)
  | [], _ => rfl
  | y :: r, x => by
    unfold insR
    simp only [List.map_cons]
    split
    · rw [List.map_cons, insR_map f c r x]
    · simp
theorem foldI_map {α β : Type} (f : α → β) (c : β → β → Int) : ∀ (xs r : List α), (xs.foldl (insR (fun a b => c (f a) (f b))) r).map f = (xs.map f).foldl (insR c) (r.map f)
  | [], _ => rfl
  | x :: xs, r => by rw [List.foldl_cons, foldI_map f c xs, insR_map, List.map_cons, List.foldl_cons]
theorem sortI_map {α β : Type} (f : α → β) (c : β → β → Int) (xs : List α) : (sortI (fun a b => c (f a) (f b)) xs).map f = sortI c (xs.map f) := by
  unfold sortI insS
  rw [List.map_reverse, foldI_map]; rfl
theorem orderF_map (rule : Int) (K : Nat → Kp) (ps : List Nat) : (orderF rule K ps).map K = orderL rule (ps.map K) := by
  unfold orderF orderL
  rw [sortI_map, List.filter_map]; rfl
theorem overF_map (item : ByteArray) (K : Nat → Kp) : ∀ (ps : List Nat) (o : Int), overF item K ps o = overL item (ps.map K) o
  | [], _ => rfl
  | p :: ps, o => by rw [overF, List.map_cons, overL, overF_map item K ps]
theorem goF_map (item : ByteArray) (K : Nat → Kp) : ∀ (ps : List Nat) (o : Int), ((goF item K ps o).1.map K, (goF item K ps o).2) = goL item (ps.map K) o
  | [], _ => rfl
  | p :: ps, o => by
    rw [List.map_cons, goF, goL]
    split
    · rfl
    · split
      · exact goF_map item K ps o
      · have := goF_map item K ps (o - (K p).2.1)
        rw [Prod.ext_iff] at this
        rw [← this.1, ← this.2]; rfl
theorem goingF_map (item : ByteArray) (bytes room rule : Int) (K : Nat → Kp) (ps : List Nat) : ((goingF item bytes room rule K ps).1.map K, (goingF item bytes room rule K ps).2) = goingL item bytes room rule (ps.map K) := by
  unfold goingF goingL
  rw [goF_map, orderF_map, overF_map]
def newK (item : ByteArray) (bytes now : Int) : Kp := (item, bytes, false, now + 1, now + 1, 1)
def askF (t : Int) (x : Kp) : Kp := (x.1, x.2.1, x.2.2.1, x.2.2.2.1, t, x.2.2.2.2.2 + 1)
def setB (b : Int) (x : Kp) : Kp := (x.1, b, x.2.2.1, x.2.2.2.1, x.2.2.2.2.1, x.2.2.2.2.2)
def hasL (item : ByteArray) (L : List Kp) : Bool := L.any fun x => x.1 == item
def atK (item : ByteArray) (f : Kp → Kp) (L : List Kp) : List Kp := L.map fun x => if x.1 = item then f x else x
def leftL (gone L : List Kp) : List Kp := L.filter fun x => !gone.any fun y => y.1 == x.1
def putL (room rule now : Int) (L : List Kp) (item : ByteArray) (bytes : Int) : Option (List Kp × List Kp) :=
  if (goingL item bytes room rule L).2 ≤ 0 then some (if hasL item L then atK item (fun x => askF (now + 1) (setB bytes x)) (leftL (goingL item bytes room rule L).1 L) else leftL (goingL item bytes room rule L).1 L ++ [newK item bytes now], (goingL item bytes room rule L).1) else none
def missL (room rule : Int) : List ByteArray → Int → List Kp → Int → Option Int
  | [], _, _, n => some n
  | s :: l, now, L, n => if hasL s L then missL room rule l (now + 1) (atK s (askF (now + 1)) L) n else
    match putL room rule now L s 1 with
    | some (L', _) => missL room rule l (now + 1) L' (n + 1)
    | none => none
theorem hasL_iff {item : ByteArray} {L : List Kp} : hasL item L = true ↔ ∃ x ∈ L, x.1 = item := by
  unfold hasL
  rw [List.any_eq_true]
  constructor
  · rintro ⟨x, hx, h⟩; exact ⟨x, hx, by rw [ba_beq] at h; simpa using h⟩
  · rintro ⟨x, hx, h⟩; exact ⟨x, hx, by rw [ba_beq]; simpa using h⟩
def KeysOne (L : List Kp) : Prop := L.Pairwise fun x y => x.1 ≠ y.1
theorem keysOne_map {K : Nat → Kp} {ps : List Nat} (h : KeysOne (ps.map K)) {p q : Nat} (hp : p ∈ ps) (hq : q ∈ ps) (e : (K p).1 = (K q).1) : p = q := by
  induction ps with
  | nil => cases hp
  | cons z l ih =>
    rw [List.map_cons] at h
    obtain ⟨h1, h2⟩ := List.pairwise_cons.1 h
    have h1' : ∀ y ∈ l, (K z).1 ≠ (K y).1 := fun y hy => h1 _ (List.mem_map_of_mem hy)
    rcases List.mem_cons.1 hp with ep | hp
    · rcases List.mem_cons.1 hq with eq | hq
      · rw [ep, eq]
      · exact absurd (ep ▸ e) (h1' q hq)
    · rcases List.mem_cons.1 hq with eq | hq
      · exact absurd (eq ▸ e.symm) (h1' p hp)
      · exact ih h2 hp hq
theorem stayF_map {K : Nat → Kp} {gone ps : List Nat} (h : KeysOne (ps.map K)) (hg : ∀ p ∈ gone, p ∈ ps) : (stayF gone ps).map K = leftL (gone.map K) (ps.map K) := by
  unfold stayF leftL
  rw [List.filter_map]
  congr 1
  refine List.filter_congr fun p hp => ?_
  simp only [Function.comp, List.any_map]
  congr 1
  rw [Bool.eq_iff_iff, List.contains_iff_mem, List.any_eq_true]
  constructor
  · intro hm; exact ⟨p, hm, by show ((K p).1 == (K p).1) = true; rw [ba_beq]; simp⟩
  · rintro ⟨q, hq, e⟩
    have e2 : (K q).1 = (K p).1 := by
      have e3 : ((K q).1 == (K p).1) = true := e
      rw [ba_beq] at e3; simpa using e3
    rwa [keysOne_map h (hg q hq) hp e2] at hq
theorem keysOne_filter {L : List Kp} (h : KeysOne L) (p : Kp → Bool) : KeysOne (L.filter p) := h.filter p
theorem atK_map {K : Nat → Kp} {ps : List Nat} {p : Nat} {item : ByteArray} (f : Kp → Kp) (h : KeysOne (ps.map K)) (hp : p ∈ ps) (hk : (K p).1 = item) : ps.map (fun q => if q = p then f (K p) else K q) = atK item f (ps.map K) := by
  unfold atK
  rw [List.map_map]
  refine List.map_congr_left fun q hq => ?_
  simp only [Function.comp]
  by_cases e : q = p
  · subst e; rw [if_pos rfl, if_pos hk]
  · rw [if_neg e, if_neg fun e2 => e (keysOne_map h hq hp (e2.trans hk.symm))]
theorem atK_keys (item : ByteArray) (f : Kp → Kp) (hf : ∀ x, (f x).1 = x.1) (L : List Kp) : (atK item f L).map (·.1) = L.map (·.1) := by
  unfold atK
  rw [List.map_map]
  refine List.map_congr_left fun x _ => ?_
  simp only [Function.comp]
  split <;> simp [hf]
theorem keysOne_iff (L : List Kp) : KeysOne L ↔ (L.map (·.1)).Pairwise (· ≠ ·) := by rw [List.pairwise_map]; rfl
theorem atK_one {item : ByteArray} {f : Kp → Kp} (hf : ∀ x, (f x).1 = x.1) {L : List Kp} (h : KeysOne L) : KeysOne (atK item f L) := by
  rw [keysOne_iff, atK_keys item f hf, ← keysOne_iff]; exact h
theorem leftL_sub {gone L : List Kp} {x : Kp} (h : x ∈ leftL gone L) : x ∈ L := (List.mem_filter.1 h).1
theorem putL_one {room rule now bytes : Int} {L L' g : List Kp} {item : ByteArray} (h : putL room rule now L item bytes = some (L', g)) (h1 : KeysOne L) : KeysOne L' := by
  unfold putL at h
  split at h
  · simp only [Option.some.injEq, Prod.mk.injEq] at h
    obtain ⟨rfl, _⟩ := h
    split
    · exact atK_one (f := fun x => askF (now + 1) (setB bytes x)) (fun _ => rfl) (keysOne_filter h1 _)
    · rename_i hh
      refine List.pairwise_append.2 ⟨keysOne_filter h1 _, by simp, fun x hx y hy => ?_⟩
      simp only [List.mem_singleton] at hy
      subst hy
      intro e
      exact hh (hasL_iff.2 ⟨x, leftL_sub hx, e⟩)
  · cases h
theorem g_ask {x : Kp} {ci p k n : Nat} {room rule now : Int} {h : Hp} (hC : h.H ci = some (.cells (encCa room rule now k n))) (hp : h.H p = some (.cells (encKp x))) (hcp : ci ≠ p)
  (h1 : 0 ≤ now ∧ now ≤ 1000000000) (h2 : 0 ≤ x.2.2.2.2.2 ∧ x.2.2.2.2.2 ≤ 1000000000) :
  ACalls Tryz.prog 121 [.ptr ci 0, .ptr p 0] h (fun r h' => r = .tup [] ∧ h' = ⟨upd (upd h.H ci (some (.cells (encCa room rule (now + 1) k n)))) p (some (.cells (encKp (askF (now + 1) x)))), h.T⟩) := by
 obtain ⟨ke, b, pi, ca, la, ma⟩ := x
 have hpc : p ≠ ci := fun e => hcp e.symm
 refine gE Tryz.func121 rfl (by kernel_rfl) 23 rfl fun c => ?_
 (repeat (first | refine gO rfl ?_ | (refine gR fun K1 hK1 => ?_; simp only [go_sem, ↓reduceIte, reduceCtorEq, nA, nB, nC, nD, nE, nF, hC, hp, encKp, encCa, upd_same, upd_other _ _ hpc, upd_other _ _ hcp] <;> and_intros <;> first | (apply hK1; clear hK1 K1) | (intros; first | omega | decide | (simp_all <;> omega)) | skip)))
 simp only [Tryz.results121, go_sem, ↓reduceIte, reduceCtorEq, nA, nB, nC, nD, nE, nF]
 exact ⟨_, _, Weak.refl _, Hp.le.refl _, rfl, rfl⟩
theorem idxR_contains (p : Nat) (ps : List Nat) : decide (0 ≤ idxR (fun q => p == q) ps) = ps.contains p := by
 rcases idxR_cases (fun q => p == q) ps with ⟨hno, e⟩ | ⟨j, hj, e, hp, _⟩
 ·rw [e]
  cases hc : ps.contains p with
  | false => rfl
  | true => have := hno p (List.contains_iff_mem.1 hc); simp at this
 ·rw [e]
  have hm : ps.contains p = true := by
   rw [List.contains_iff_mem]
   have e1 : p = ps.getD j default := eq_of_beq hp
   rw [e1, List.getD_eq_getElem?_getD, List.getElem?_eq_getElem hj]
   exact List.getElem_mem _
  rw [hm]; simp
theorem g_indexK {K : Nat → Kp} (p k : Nat) (ps : List Nat) (h : Hp) (hp : h.H p = some (.cells (encKp (K p)))) (hK : CacheH h K ps) (hl : ps.length ≤ 100000) :
  ACalls Tryz.prog 192 [.row 1 (ps.map encR) (some k), .ptr p 0] h (fun r h' => r = .v (.int .i64 (idxR (fun q => p == q) ps)) ∧ h' = h) := by
 have hml : (ps.map encR).length = ps.length := List.length_map _
 refine gE Tryz.func192 rfl (by kernel_rfl) 17 rfl fun c => ?_
 (repeat (first | refine gO rfl ?_ | (refine gM zM26 fun K1 hK1 => ?_; simp only [go_sem, ↓reduceIte, reduceCtorEq, nA, nB, nC, nD, nE, nF] <;> and_intros <;> first | (apply hK1; clear hK1 K1) | (intros; first | omega | decide | (simp_all <;> omega)) | skip)))
 refine awp_loopC (rl false [0, 2, 5, 2, 10]) 0 (fun g s => ∃ j : Nat, g + j = ps.length ∧ (∀ i, i < j → (p == ps.getD i default) = false) ∧
  s = ⟨((.row 1 (ps.map encR) (some k)) :: (.ptr p 0) :: (jnk 5 ((.v (.int .i64 ps.length)) :: (.v (.int .i64 j)) :: (jnk 10 [])))), [], h⟩) ps.length ⟨0, by omega, fun i hi => by omega, by rw [← hml]; rfl⟩ ?_
 rintro g _ ⟨j, hj, hn, rfl⟩
 (repeat (first | refine gO rfl ?_ | (refine gM zM26 fun K1 hK1 => ?_; simp only [go_sem, ↓reduceIte, reduceCtorEq, nA, nB, nC, nD, nE, nF] <;> and_intros <;> first | (apply hK1; clear hK1 K1) | (intros; first | omega | decide) | skip)))
 refine awp_cond (t := _) rfl (fun h1 => ?_) (fun h1 => ?_)
 ·simp only [decide_eq_true_eq] at h1
  have hjl : j < ps.length := by omega
  have gx : (ps.map encR).getD j [] = encR (ps.getD j default) := getD_enc encR ps j default hjl
  obtain ⟨q, hq⟩ : ∃ q, ps.getD j default = q := ⟨_, rfl⟩
  have hhq : h.H q = some (.cells (encKp (K q))) := hK q (by rw [← hq, List.getD_eq_getElem?_getD, List.getElem?_eq_getElem hjl]; exact List.getElem_mem _)
  rw [hq] at gx
  (repeat (first | refine gO rfl ?_ | (refine gM zM26 fun K1 hK1 => ?_; simp only [go_sem, ↓reduceIte, reduceCtorEq, nA, nB, nC, nD, nE, nF, hml, Int.toNat_natCast, gx, encR, hp, hhq] <;> and_intros <;> first | (apply hK1; clear hK1 K1) | (intros; first | omega | decide) | skip)))
  cases hb : (p == q) with
  | true =>
   refine awp_cond (t := _) rfl (fun _ => ?_) (fun h9 => by cases h9)
   (repeat (first | refine gO rfl ?_ | (refine gM zM26 fun K1 hK1 => ?_; simp only [go_sem, ↓reduceIte, reduceCtorEq, nA, nB, nC, nD, nE, nF] <;> and_intros <;> first | (apply hK1; clear hK1 K1) | (intros; first | omega | decide) | skip)))
   simp only [Tryz.results192, go_sem, ↓reduceIte, reduceCtorEq, nA, nB, nC, nD, nE, nF]
   exact ⟨_, _, Weak.refl _, Hp.le.refl _, by rw [idxR_at hjl (by rw [hq]; exact hb) hn], rfl⟩
  | false =>
   refine awp_cond (t := _) rfl (fun h9 => by cases h9) (fun _ => ?_)
   (repeat (first | refine gO rfl ?_ | (refine gM zM26 fun K1 hK1 => ?_; simp only [go_sem, ↓reduceIte, reduceCtorEq, nA, nB, nC, nD, nE, nF] <;> and_intros <;> first | (apply hK1; clear hK1 K1) | (intros; first | omega | decide) | skip)))
   refine ⟨g - 1, by omega, j + 1, by omega, fun i hi => ?_, rfl⟩
   rcases Nat.lt_succ_iff_lt_or_eq.1 hi with h9 | rfl
   ·exact hn i h9
   ·rw [hq]; exact hb
 ·simp only [decide_eq_false_iff_not] at h1
  (repeat (first | refine gO rfl ?_ | (refine gM zM26 fun K1 hK1 => ?_; simp only [go_sem, ↓reduceIte, reduceCtorEq, nA, nB, nC, nD, nE, nF] <;> and_intros <;> first | (apply hK1; clear hK1 K1) | (intros; first | omega | decide) | skip)))
  simp only [Tryz.results192, go_sem, ↓reduceIte, reduceCtorEq, nA, nB, nC, nD, nE, nF]
  exact ⟨_, _, Weak.refl _, Hp.le.refl _, by rw [idxR_no (fun i hi => hn i (by omega))], rfl⟩
theorem g_hasK {K : Nat → Kp} (p k : Nat) (ps : List Nat) (h : Hp) (hp : h.H p = some (.cells (encKp (K p)))) (hK : CacheH h K ps) (hl : ps.length ≤ 100000) :
  ACalls Tryz.prog 168 [.row 1 (ps.map encR) (some k), .ptr p 0] h (fun r h' => r = .v (.bool (ps.contains p)) ∧ h' = h) := by
 have hix := g_indexK p k ps h hp hK hl
 rw [← idxR_contains]
 generalize idxR (fun q => p == q) ps = ix at *
 generalize ps.map encR = rw0 at *
 refine gE Tryz.func168 rfl (by kernel_rfl) 7 rfl fun c => ?_
 (repeat (first | refine gO rfl ?_ | (refine gR fun K1 hK1 => ?_; simp only [go_sem, ↓reduceIte, reduceCtorEq, nA, nB, nC, nD, nE, nF] <;> and_intros <;> first | (apply hK1; clear hK1 K1) | (intros; first | omega | decide | (simp_all <;> omega)) | skip)))
 refine hix.mono ?_; rintro _ hz ⟨rfl, hh⟩; apply hK1; clear hK1 K1; rw [hh]; clear hh hz
 (repeat (first | refine gO rfl ?_ | (refine gR fun K1 hK1 => ?_; simp only [go_sem, ↓reduceIte, reduceCtorEq, nA, nB, nC, nD, nE, nF] <;> and_intros <;> first | (apply hK1; clear hK1 K1) | (intros; first | omega | decide) | skip)))
 simp only [Tryz.results168, go_sem, ↓reduceIte, reduceCtorEq, nA, nB, nC, nD, nE, nF]
 exact ⟨_, _, Weak.refl _, Hp.le.refl _, rfl, rfl⟩
theorem g_put1 {K : Nat → Kp} (p k g : Nat) (ps : List Nat) (h : Hp) (hg : h.H g = some (.cells [.row 1 (ps.map encR) (some k)])) (hp : h.H p = some (.cells (encKp (K p)))) (hK : CacheH h K ps) (hl : ps.length ≤ 100000) :
  ACalls Tryz.prog 167 ([.ptr p 0] ++ [.ptr g 0]) h (fun r h' => r = .v (.bool (ps.contains p)) ∧ h' = h) := by
 have hix := g_hasK p k ps h hp hK hl
 generalize ps.contains p = ix at *
 generalize ps.map encR = rw0 at *
 refine gE Tryz.func167 rfl (by kernel_rfl) 5 rfl fun c => ?_
 (repeat (first | refine gO rfl ?_ | (refine gR fun K1 hK1 => ?_; simp only [go_sem, ↓reduceIte, reduceCtorEq, nA, nB, nC, nD, nE, nF, hg] <;> and_intros <;> first | (apply hK1; clear hK1 K1) | (intros; first | omega | decide | (simp_all <;> omega)) | skip)))
 refine hix.mono ?_; rintro _ hz ⟨rfl, hh⟩; apply hK1; clear hK1 K1; rw [hh]; clear hh hz
 (repeat (first | refine gO rfl ?_ | (refine gR fun K1 hK1 => ?_; simp only [go_sem, ↓reduceIte, reduceCtorEq, nA, nB, nC, nD, nE, nF] <;> and_intros <;> first | (apply hK1; clear hK1 K1) | (intros; first | omega | decide) | skip)))
 simp only [Tryz.results167, go_sem, ↓reduceIte, reduceCtorEq, nA, nB, nC, nD, nE, nF]
 exact ⟨_, _, Weak.refl _, Hp.le.refl _, rfl, rfl⟩
theorem g_nan (x : Int) (h : Hp) : ACalls Tryz.prog 132 [.v (.int .i64 x)] h (fun r h' => r = .v (.bool false) ∧ h' = h) := by
 refine gE Tryz.func132 rfl (by kernel_rfl) 5 rfl fun c => ?_
 (repeat (first | refine gO rfl ?_ | (refine gR fun K1 hK1 => ?_; simp only [go_sem, ↓reduceIte, reduceCtorEq, nA, nB, nC, nD, nE, nF] <;> and_intros <;> first | (apply hK1; clear hK1 K1) | (intros; first | omega | decide | (simp_all <;> omega)) | skip)))
 simp only [Tryz.results132, go_sem, ↓reduceIte, reduceCtorEq, nA, nB, nC, nD, nE, nF]
 exact ⟨_, _, Weak.refl _, Hp.le.refl _, by simp, rfl⟩
theorem g_cmpI (x y : Int) (h : Hp) : ACalls Tryz.prog 100 [.v (.int .i64 x), .v (.int .i64 y)] h (fun r h' => r = .v (.int .i64 (cmpI x y)) ∧ h' = h) := by
 have n1 := g_nan x h
 have n2 := g_nan y h
 refine gE Tryz.func100 rfl (by kernel_rfl) 18 rfl fun c => ?_
 (repeat (first | refine gO rfl ?_ | (refine gR fun K1 hK1 => ?_; simp only [go_sem, ↓reduceIte, reduceCtorEq, nA, nB, nC, nD, nE, nF] <;> and_intros <;> first | (apply hK1; clear hK1 K1) | (intros; first | omega | decide | (simp_all <;> omega)) | skip)))
 refine n1.mono ?_; rintro _ hz ⟨rfl, hh⟩; apply hK1; clear hK1 K1; rw [hh]; clear hh hz
 (repeat (first | refine gO rfl ?_ | (refine gR fun K1 hK1 => ?_; simp only [go_sem, ↓reduceIte, reduceCtorEq, nA, nB, nC, nD, nE, nF] <;> and_intros <;> first | (apply hK1; clear hK1 K1) | (intros; first | omega | decide) | skip)))
 refine n2.mono ?_; rintro _ hz ⟨rfl, hh⟩; apply hK1; clear hK1 K1; rw [hh]; clear hh hz
 (repeat (first | refine gO rfl ?_ | (refine gR fun K1 hK1 => ?_; simp only [go_sem, ↓reduceIte, reduceCtorEq, nA, nB, nC, nD, nE, nF] <;> and_intros <;> first | (apply hK1; clear hK1 K1) | (intros; first | omega | decide) | skip)))
 refine awp_cond (t := _) rfl (fun h9 => by cases h9) (fun _ => ?_)
 (repeat (first | refine gO rfl ?_ | (refine gR fun K1 hK1 => ?_; simp only [go_sem, ↓reduceIte, reduceCtorEq, nA, nB, nC, nD, nE, nF] <;> and_intros <;> first | (apply hK1; clear hK1 K1) | (intros; first | omega | decide) | skip)))
 refine awp_cond (t := _) rfl (fun h9 => by cases h9) (fun _ => ?_)
 (repeat (first | refine gO rfl ?_ | (refine gR fun K1 hK1 => ?_; simp only [go_sem, ↓reduceIte, reduceCtorEq, nA, nB, nC, nD, nE, nF] <;> and_intros <;> first | (apply hK1; clear hK1 K1) | (intros; first | omega | decide) | skip)))
 refine awp_cond (t := _) rfl (fun h1 => ?_) (fun h1 => ?_)
 ·simp only [decide_eq_true_eq] at h1
  (repeat (first | refine gO rfl ?_ | (refine gR fun K1 hK1 => ?_; simp only [go_sem, ↓reduceIte, reduceCtorEq, nA, nB, nC, nD, nE, nF] <;> and_intros <;> first | (apply hK1; clear hK1 K1) | (intros; first | omega | decide) | skip)))
  simp only [Tryz.results100, go_sem, ↓reduceIte, reduceCtorEq, nA, nB, nC, nD, nE, nF]
  exact ⟨_, _, Weak.refl _, Hp.le.refl _, by rw [cmpI, if_pos h1], rfl⟩
 ·simp only [decide_eq_false_iff_not] at h1
  (repeat (first | refine gO rfl ?_ | (refine gR fun K1 hK1 => ?_; simp only [go_sem, ↓reduceIte, reduceCtorEq, nA, nB, nC, nD, nE, nF] <;> and_intros <;> first | (apply hK1; clear hK1 K1) | (intros; first | omega | decide) | skip)))
  refine awp_cond (t := _) rfl (fun h2 => ?_) (fun h2 => ?_)
  ·simp only [decide_eq_true_eq] at h2
   (repeat (first | refine gO rfl ?_ | (refine gR fun K1 hK1 => ?_; simp only [go_sem, ↓reduceIte, reduceCtorEq, nA, nB, nC, nD, nE, nF] <;> and_intros <;> first | (apply hK1; clear hK1 K1) | (intros; first | omega | decide) | skip)))
   simp only [Tryz.results100, go_sem, ↓reduceIte, reduceCtorEq, nA, nB, nC, nD, nE, nF]
   exact ⟨_, _, Weak.refl _, Hp.le.refl _, by rw [cmpI, if_neg h1, if_pos (by omega)], rfl⟩
  ·simp only [decide_eq_false_iff_not] at h2
   (repeat (first | refine gO rfl ?_ | (refine gR fun K1 hK1 => ?_; simp only [go_sem, ↓reduceIte, reduceCtorEq, nA, nB, nC, nD, nE, nF] <;> and_intros <;> first | (apply hK1; clear hK1 K1) | (intros; first | omega | decide) | skip)))
   simp only [Tryz.results100, go_sem, ↓reduceIte, reduceCtorEq, nA, nB, nC, nD, nE, nF]
   exact ⟨_, _, Weak.refl _, Hp.le.refl _, by rw [cmpI, if_neg h1, if_neg (by omega)], rfl⟩
theorem g_order1 {x : Kp} {p : Nat} {h : Hp} (hp : h.H p = some (.cells (encKp x))) :
  ACalls Tryz.prog 225 ([.ptr p 0] ++ []) h (fun r h' => r = .v (.bool x.2.2.1) ∧ h' = h) := by
 obtain ⟨k, b, pi, ca, la, ma⟩ := x
 refine gE Tryz.func225 rfl (by kernel_rfl) 6 rfl fun c => ?_
 (repeat (first | refine gO rfl ?_ | (refine gR fun K1 hK1 => ?_; simp only [go_sem, ↓reduceIte, reduceCtorEq, nA, nB, nC, nD, nE, nF, hp, encKp] <;> and_intros <;> first | (apply hK1; clear hK1 K1) | (intros; first | omega | decide | (simp_all <;> omega)) | skip)))
 simp only [Tryz.results225, go_sem, ↓reduceIte, reduceCtorEq, nA, nB, nC, nD, nE, nF]
 exact ⟨_, _, Weak.refl _, Hp.le.refl _, rfl, rfl⟩
theorem g_cloneK (k : Nat) (ps : List Nat) (h : Hp) (hT : h.T k = some (.cont 1 (ps.map encR))) (hl : ps.length ≤ 100000) :
  ACalls Tryz.prog 224 [.arr 1 k ps.length] h (fun r h' => ∃ q, r = .arr 1 q ps.length ∧ h.T q = none ∧ h' = ⟨h.H, upd h.T q (some (.cont 1 (ps.map encR)))⟩) := by
 have hml : (ps.map encR).length = ps.length := List.length_map _
 refine gE Tryz.func224 rfl (by kernel_rfl) 7 rfl fun c => ?_
 (repeat (first | refine gO rfl ?_ | (refine gM zM27 fun K1 hK1 => ?_; simp only [go_sem, ↓reduceIte, reduceCtorEq, nA, nB, nC, nD, nE, nF] <;> and_intros <;> first | (apply hK1; clear hK1 K1) | (intros; first | omega | decide | (simp_all <;> omega)) | skip)))
 ·intro h0
  refine hK1 _ ?_; clear hK1 K1
  (repeat (first | refine gO rfl ?_ | (refine gM zM27 fun K1 hK1 => ?_; simp only [go_sem, ↓reduceIte, reduceCtorEq, nA, nB, nC, nD, nE, nF] <;> and_intros <;> first | (apply hK1; clear hK1 K1) | (intros; first | omega | decide) | skip)))
  refine awp_cond (t := _) rfl (fun _ => ?_) (fun h9 => by cases h9)
  (repeat refine gO rfl ?_)
  refine awp_seq ?_
  refine awp_AL ?_
  refine AL.cons rfl (Quiet.aop (q_move (.inr rfl)) ?_)
  refine AL.nil ?_
  refine awp_ownA 2 1 rfl ⟨rfl, rfl⟩ (fun q hq => ?_)
  refine awp_cut (rl false [2, 1, 5]) 0 (?_ : Awp _ _ _ _ ⟨(AV.junk :: AV.junk :: ((.arr 1 q 0) :: (jnk 5 []))), [], ⟨h.H, upd h.T q (some (.cont 1 []))⟩⟩)
  obtain rfl := List.eq_nil_of_length_eq_zero h0
  (repeat (first | refine gO rfl ?_ | (refine gM zM27 fun K1 hK1 => ?_; simp only [go_sem, ↓reduceIte, reduceCtorEq, nA, nB, nC, nD, nE, nF] <;> and_intros <;> first | (apply hK1; clear hK1 K1) | (intros; first | omega | decide) | skip)))
  simp only [Tryz.results224, go_sem, ↓reduceIte, reduceCtorEq, nA, nB, nC, nD, nE, nF]
  exact ⟨_, _, Weak.refl _, Hp.le.refl _, q, rfl, hq, rfl⟩
 ·(repeat (first | refine gO rfl ?_ | (refine gM zM27 fun K1 hK1 => ?_; simp only [go_sem, ↓reduceIte, reduceCtorEq, nA, nB, nC, nD, nE, nF] <;> and_intros <;> first | (apply hK1; clear hK1 K1) | (intros; first | omega | decide) | skip)))
  refine awp_cond (t := _) rfl (fun h9 => by cases h9) (fun _ => ?_)
  (repeat (first | refine gO rfl ?_ | (refine gM zM27 fun K1 hK1 => ?_; simp only [go_sem, ↓reduceIte, reduceCtorEq, nA, nB, nC, nD, nE, nF, hT, hml] <;> and_intros <;> first | (apply hK1; clear hK1 K1) | (intros; first | omega | decide) | skip)))
  intro q hq
  have hqk : k ≠ q := by rintro rfl; rw [hT] at hq; cases hq
  simp only [upd_other _ _ hqk, hT, hml, and_self, if_true]
  refine ⟨⟨trivial, rfl, .inl trivial⟩, ⟨by simp; omega, by simp; omega⟩, hK1 _ ?_⟩; clear hK1 K1
  (repeat (first | refine gO rfl ?_ | (refine gM zM27 fun K1 hK1 => ?_; simp only [go_sem, ↓reduceIte, reduceCtorEq, nA, nB, nC, nD, nE, nF] <;> and_intros <;> first | (apply hK1; clear hK1 K1) | (intros; first | omega | decide) | skip)))
  simp only [Tryz.results224, go_sem, ↓reduceIte, reduceCtorEq, nA, nB, nC, nD, nE, nF]
  exact ⟨_, _, Weak.refl _, Hp.le.refl _, q, rfl, hq, rfl⟩
end Go.Proofs.YtmghfolmgmhabaaGreatDoor
