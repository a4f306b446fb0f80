/- loop.newPart. -/
import Derived.Test.YtidkkmoiolffnaaGreatDoorM2
import Derived.Test.YtidkkmoiolffnaaGreatDoorAvRun
import Derived.Lib.SlicesCompact
import Derived.Sort.KeysCollected
import Derived.Test.YtidkkmoiolffnaaGreatDoorShelf
import Derived.Lib.OwnBridge
import Derived.Lib.Hide
import Derived.Test.YtidkkmoiolffnaaGreatDoorAvOld
import Derived.Shelf.SlIter.Nil
import Derived.Shelf.SortM.Plain
import Derived.Shelf.SortM.SortNone
import Derived.Ground.GgzProg
import Derived.Ground.SlgmProg
import Derived.Test.YtidkkmoiolffnaaGreatDoorProg
namespace Go.Proofs.YtidkkmoiolffnaaGreatDoor
open Go
set_option linter.unusedVariables false
set_option linter.unusedSimpArgs false
open Nat renaming reduceAdd → nA, reduceSub → nB, reduceMul → nC, reduceLT → nD, reduceLeDiff → nE, reduceEqDiff → nF, reduceMod → nG, reduceDiv → nH, reducePow → nI
abbrev zM30 : Option Tmp → Nat := mdL [(5, 1), (14, 2)]
abbrev zM31 : Option Tmp → Nat := mdL []
abbrev zM32 : Option Tmp → Nat := mdL [(2, 1), (6, 1), (8, 1), (12, 2)]
abbrev zM33 : Option Tmp → Nat := mdL [(2, 1)]
abbrev zM34 : Option Tmp → Nat := mdL [(4, 1)]
abbrev zM35 : Option Tmp → Nat := mdL [(1, 2)]
abbrev zK30 : Nat := 35184372150525
abbrev zK31 : Nat := 154742654650856545879597411
attribute [go_sem] zM30 zM31 zM32 zM33 zM34 zM35 zK30 zK31
abbrev zP17E : List Nat := [0, 1, 2, 3]
abbrev zP17P : List (Nat × List Nat × List Nat) := [(4, [0], [5]), (6, [], [7])]
abbrev zP18E : List Nat := [0, 1, 2, 3, 4, 5]
abbrev zP18P : List (Nat × List Nat × List Nat) := [(6, [4], [7]), (8, [], [9, 10]), (11, [], [])]
attribute [go_sem] zP17E zP17P zP18E zP18P
set_option maxRecDepth 100000
set_option maxHeartbeats 8000000
def XP : RK := ⟨fun t => match t with | .mk _ _ _ _ _ shares => [.v (.int .i64 shares.sum)], fun kind cs => if kind = 4 then cs else List.replicate cs.length 0⟩
theorem upd_self {α : Type} {f : Nat → Option α} {i : Nat} {x : Option α} (h : f i = x) : upd f i x = f := by
 funext j
 by_cases hj : j = i
 ·subst hj; rw [upd_same, h]
 ·rw [upd_other _ _ hj]
theorem sum_nb : ∀ (l : List Int), (∀ x ∈ l, NB x) → -(l.length * 5000000000000000) ≤ l.sum ∧ l.sum ≤ l.length * 5000000000000000
 | [], _ => by simp
 | x :: l, h => by
  have h1 := h x (by simp)
  have h2 := sum_nb l fun y hy => h y (by simp [hy])
  unfold NB at h1
  simp only [List.sum_cons, List.length_cons]
  omega
def NewPI (d : Nat) (kind : Int) (item : ByteArray) (long many : Int) (kids : List LT) (shares : List Int) (h : Hp) (i c : Nat) (g : Nat) (s : St) : Prop :=
 ∃ (az : List AT) (K : AV) (h' : Hp), g + az.length = kids.length ∧ NewI XP d kids h i c az h' ∧ kidsK h az K h'.T ∧ h'.H i = some (.cells (cells9 kind item long many kids shares K 0 c ++ [.v (.int .i64 0)])) ∧ h'.T c = some (.cont 1 ((kids.map fun _ => (0 : Int)).map encI)) ∧
  s = ⟨(AV.junk :: ((.ref [.v (.int .i64 kind), .v (.string item), .v (.int .i64 long), .v (.int .i64 many), .row 6 (kids.map encL) none, .row 1 (shares.map encI) none] 0) :: AV.junk :: ((.ptr i 0) :: (jnk 12 ((.row 6 (kids.map encL) none) :: (.v (.int .i64 kids.length)) :: (.v (.int .i64 az.length)) :: (jnk 32 [])))))), [], h'⟩
theorem g_newPart : ∀ (d : Nat) (t : LT) (h : Hp), KC d t → ACalls Tryz.prog 75 [.agg (encL t)] h (NewR XP d t h)
 | 0, _, _, hb => hb.elim
 | d + 1, .mk kind item long many kids shares, h, hb => by
  obtain ⟨b1, b2, b3, b4, b5, b6, b7, b8⟩ := id hb
  simp only [encL_eq]
  refine gE Tryz.func75 rfl (by kernel_rfl) 50 rfl fun c => ?_
  (repeat (first | refine gO rfl ?_ | ((first | refine gM zM30 ?_ | (with_reducible refine wM ?_ ?_) | ((with_reducible refine xS ?_); refine uD 1 zM30 zP17E zP17P 51 rfl (by kernel_rfl) ?_) | ((with_reducible refine xR ?_); refine uE 5 zM30 zP18E zP18P 51 rfl (by kernel_rfl) ?_)) <;> ((try with_reducible intro K1 hK1); simp only [go_sem, ↓reduceIte, reduceCtorEq, nA, nB, nC, nD, nE, nF, Int.toNat_natCast] <;> and_intros <;> first | (apply hK1; clear hK1 K1) | (intros; first | omega | decide | (simp_all <;> omega)) | skip))))
  intro c0 hc0
  refine hK1 _ ?_; clear hK1 K1
  (repeat (first | refine gO rfl ?_ | ((first | refine gM zM30 ?_ | (with_reducible refine wM ?_ ?_) | ((with_reducible refine xS ?_); refine uD 1 zM30 zP17E zP17P 51 rfl (by kernel_rfl) ?_) | ((with_reducible refine xR ?_); refine uE 5 zM30 zP18E zP18P 51 rfl (by kernel_rfl) ?_)) <;> ((try with_reducible intro K1 hK1); simp only [go_sem, ↓reduceIte, reduceCtorEq, nA, nB, nC, nD, nE, nF, Int.toNat_natCast] <;> and_intros <;> first | (apply hK1; clear hK1 K1) | (intros; first | omega | decide | (simp_all <;> omega)) | skip))))
  intro i hi
  refine hK1 _ ?_; clear hK1 K1
  (repeat (first | refine gO rfl ?_ | ((first | refine gM zM30 ?_ | (with_reducible refine wM ?_ ?_) | ((with_reducible refine xS ?_); refine uD 1 zM30 zP17E zP17P 51 rfl (by kernel_rfl) ?_) | ((with_reducible refine xR ?_); refine uE 5 zM30 zP18E zP18P 51 rfl (by kernel_rfl) ?_)) <;> ((try with_reducible intro K1 hK1); simp only [go_sem, ↓reduceIte, reduceCtorEq, nA, nB, nC, nD, nE, nF, Int.toNat_natCast] <;> and_intros <;> first | (apply hK1; clear hK1 K1) | (intros; first | omega | decide | (simp_all <;> omega)) | skip))))
  have hrep : List.replicate kids.length [AV.v (.int .i64 0)] = (kids.map fun _ => (0 : Int)).map encI := by
   rw [List.map_map, ← List.map_const]; rfl
  refine awp_loopC (rl false [1, 1, 1, 1, 12, 3, 32]) 0 (fun g s => NewPI d kind item long many kids shares h i c0 g s) kids.length ⟨[], _, _, by simp, ⟨fun l hl => by simp at hl, fun j l hj => by simp at hj, fun x hx => upd_other _ _ (fun e => by subst e; exact hx hi), fun x hx => upd_other _ _ (fun e => by subst e; exact hx hc0)⟩, .inl ⟨rfl, rfl⟩, upd_same _ _ _, by rw [← hrep]; exact upd_same _ _ _, rfl⟩ ?_
  rintro g _ ⟨az, K, h', hg, hI, hK, hH, hT, rfl⟩
  have hH0 : h'.H i = some (.cells [.v (.int .i64 kind), .v (.string item), .v (.int .i64 long), .v (.int .i64 many), .row 6 (kids.map encL) none, .row 1 (shares.map encI) none, K, .v (.int .i64 0), .arr 1 c0 kids.length, .v (.int .i64 0)]) := hH
  (repeat (first | refine gO rfl ?_ | ((first | refine gM zM30 ?_ | (with_reducible refine wM ?_ ?_) | ((with_reducible refine xS ?_); refine uD 1 zM30 zP17E zP17P 51 rfl (by kernel_rfl) ?_) | ((with_reducible refine xR ?_); refine uE 5 zM30 zP18E zP18P 51 rfl (by kernel_rfl) ?_)) <;> ((try with_reducible intro K1 hK1); simp only [go_sem, ↓reduceIte, reduceCtorEq, nA, nB, nC, nD, nE, nF] <;> and_intros <;> first | (apply hK1; clear hK1 K1) | (intros; first | omega | decide | (simp_all <;> omega)) | skip))))
  refine awp_cond (t := _) rfl (fun h6 => ?_) (fun h6 => ?_)
  ·simp only [decide_eq_true_eq] at h6
   have hjk : az.length < kids.length := by omega
   have hge : (kids.map encL).getD az.length [] = encL (kids.getD az.length default) := getD_enc encL kids az.length default hjk
   have hmem := getD_mem' kids az.length default hjk
   have hbt := b8 _ hmem
   have hlen := encL_len (kids.getD az.length default)
   have htk : List.take 6 (encL (kids.getD az.length default)) = encL (kids.getD az.length default) := List.take_of_length_le (Nat.le_of_eq hlen)
   have hdr : List.drop 6 (encL (kids.getD az.length default)) = [] := List.drop_of_length_le (Nat.le_of_eq hlen)
   obtain ⟨jn, hjn⟩ : ∃ jn, az.length = jn := ⟨_, rfl⟩
   rw [hjn] at hjk hge hmem hbt hlen htk hdr h6 hg ⊢
   rcases hK with ⟨rfl, rfl⟩ | ⟨tk, hne, rfl, htkT, htk0⟩
   ·(repeat (first | refine gO rfl ?_ | ((first | refine gM zM30 ?_ | (with_reducible refine wM ?_ ?_) | ((with_reducible refine xS ?_); refine uD 1 zM30 zP17E zP17P 51 rfl (by kernel_rfl) ?_) | ((with_reducible refine xR ?_); refine uE 5 zM30 zP18E zP18P 51 rfl (by kernel_rfl) ?_)) <;> ((try with_reducible intro K1 hK1); simp only [go_sem, ↓reduceIte, reduceCtorEq, nA, nB, nC, nD, nE, nF, Int.toNat_natCast, hge, hlen, htk, hdr, hH0] <;> and_intros <;> first | (apply hK1; clear hK1 K1) | (intros; first | omega | decide | (simp_all <;> omega)) | skip))))
    refine (g_newPart d (kids.getD jn default) h' hbt).mono ?_
    rintro _ h2 ⟨a, rfl, hR, hS, hn1, hn2, hk1, hk2⟩
    have hH2 := (hk1 i (by rw [hH0]; simp)).trans hH0
    have hT2 := (hk2 c0 (by rw [hT]; simp)).trans hT
    refine hK1 _ ?_; clear hK1 K1
    (repeat (first | refine gO rfl ?_ | ((first | refine gM zM30 ?_ | (with_reducible refine wM ?_ ?_) | ((with_reducible refine xS ?_); refine uD 1 zM30 zP17E zP17P 51 rfl (by kernel_rfl) ?_) | ((with_reducible refine xR ?_); refine uE 5 zM30 zP18E zP18P 51 rfl (by kernel_rfl) ?_)) <;> ((try with_reducible intro K1 hK1); simp only [go_sem, ↓reduceIte, reduceCtorEq, nA, nB, nC, nD, nE, nF, Int.toNat_natCast, hge, hlen, htk, hdr, hH2] <;> and_intros <;> first | (apply hK1; clear hK1 K1) | (intros; first | omega | decide | (simp_all <;> omega)) | skip))))
    intro tk htkn
    refine hK1 _ ?_; clear hK1 K1
    replace htkn : h2.T tk = none := htkn
    (repeat (first | refine gO rfl ?_ | ((first | refine gM zM30 ?_ | (with_reducible refine wM ?_ ?_) | ((with_reducible refine xS ?_); refine uD 1 zM30 zP17E zP17P 51 rfl (by kernel_rfl) ?_) | ((with_reducible refine xR ?_); refine uE 5 zM30 zP18E zP18P 51 rfl (by kernel_rfl) ?_)) <;> ((try with_reducible intro K1 hK1); simp only [go_sem, ↓reduceIte, reduceCtorEq, nA, nB, nC, nD, nE, nF, Int.toNat_natCast, hge, hlen, htk, hdr, hH2] <;> and_intros <;> first | (apply hK1; clear hK1 K1) | (intros; first | omega | decide | (simp_all <;> omega)) | skip))))
    have htk1 : h'.T tk = none := Classical.byContradiction fun hn => by have := hk2 tk hn; rw [htkn] at this; exact hn this.symm
    have htk0 : h.T tk = none := Classical.byContradiction fun hn => by have := hI.2.2.2 tk hn; rw [htk1] at this; exact hn this.symm
    have hfr : ∀ (Y : AO) (n : Nat) (tk : Nat), (∀ xs, h2.T tk ≠ some (.cont 1 xs)) → RAt XP { H := upd h2.H i (some Y), T := upd h2.T tk (some (.tail n)) } d (kids.getD jn default) a (ps0 (kids.getD jn default)) := fun Y n tk htk => hR.frame (fun x hx => upd_other _ _ (fun e => by subst e; exact absurd (hn1 _ hx) (by rw [hH0]; simp))) (fun x hx => upd_other _ _ (fun e => by subst e; obtain ⟨xs, e2⟩ := hR.cont _ hx; exact htk xs e2))
    refine ⟨g - 1, by omega, ([] : List AT) ++ [a], .row 1 ((([] : List AT) ++ [a]).map fun a => [.ptr a.id 0]) (some tk), { H := upd h2.H i (some (.cells (cells9 kind item long many kids shares (.row 1 ((([] : List AT) ++ [a]).map fun a => [.ptr a.id 0]) (some tk)) 0 c0 ++ [.v (.int .i64 0)]))), T := upd h2.T tk (some (.tail 1)) }, by simp at hjn hg ⊢; omega, NewI.more (c := c0) (az := ([] : List AT)) hI hi (by rw [hH0]; simp) (by rw [hT]; simp) (by rw [hjn]; exact hfr _ 1 tk (fun xs e => by rw [htkn] at e; cases e)) hS hn1 hn2 (fun x hx hxi => (upd_other _ _ hxi).trans (hk1 x hx)) (fun x xs hx => (upd_other _ _ (fun e => by subst e; exact (by have := hk2 _ (show h'.T _ ≠ none by rw [hx]; simp); rw [hx, htkn] at this; cases this))).trans (hk2 x (by rw [hx]; simp))) (fun x hx => (upd_other _ _ (fun e => by subst e; exact hx htk0)).trans ((hk2 x (by rw [hI.2.2.2 x hx]; exact hx)).trans (hI.2.2.2 x hx))),
     .inr ⟨tk, by simp, rfl, by rw [show (([] : List AT) ++ [a]).length = 1 from rfl]; exact upd_same _ _ _, htk0⟩, upd_same _ _ _, (upd_other _ _ (fun e => by subst e; exact (by rw [hT2] at htkn; cases htkn))).trans hT2, by subst hjn; rfl⟩
   ·(repeat (first | refine gO rfl ?_ | ((first | refine gM zM30 ?_ | (with_reducible refine wM ?_ ?_) | ((with_reducible refine xS ?_); refine uD 1 zM30 zP17E zP17P 51 rfl (by kernel_rfl) ?_) | ((with_reducible refine xR ?_); refine uE 5 zM30 zP18E zP18P 51 rfl (by kernel_rfl) ?_)) <;> ((try with_reducible intro K1 hK1); simp only [go_sem, ↓reduceIte, reduceCtorEq, nA, nB, nC, nD, nE, nF, Int.toNat_natCast, hge, hlen, htk, hdr, hH0] <;> and_intros <;> first | (apply hK1; clear hK1 K1) | (intros; first | omega | decide | (simp_all <;> omega)) | skip))))
    refine (g_newPart d (kids.getD jn default) h' hbt).mono ?_
    rintro _ h2 ⟨a, rfl, hR, hS, hn1, hn2, hk1, hk2⟩
    have hH2 := (hk1 i (by rw [hH0]; simp)).trans hH0
    have hT2 := (hk2 c0 (by rw [hT]; simp)).trans hT
    refine hK1 _ ?_; clear hK1 K1
    have htk2 := (hk2 tk (by rw [htkT]; simp)).trans htkT
    (repeat (first | refine gO rfl ?_ | ((first | refine gM zM30 ?_ | (with_reducible refine wM ?_ ?_) | ((with_reducible refine xS ?_); refine uD 1 zM30 zP17E zP17P 51 rfl (by kernel_rfl) ?_) | ((with_reducible refine xR ?_); refine uE 5 zM30 zP18E zP18P 51 rfl (by kernel_rfl) ?_)) <;> ((try with_reducible intro K1 hK1); simp only [go_sem, ↓reduceIte, reduceCtorEq, nA, nB, nC, nD, nE, nF, Int.toNat_natCast, hge, hlen, htk, hdr, hH2, htk2] <;> and_intros <;> first | (apply hK1; clear hK1 K1) | (intros; first | omega | decide | (simp_all <;> omega)) | skip))))
    have hfr : ∀ (Y : AO) (n : Nat) (tk : Nat), (∀ xs, h2.T tk ≠ some (.cont 1 xs)) → RAt XP { H := upd h2.H i (some Y), T := upd h2.T tk (some (.tail n)) } d (kids.getD jn default) a (ps0 (kids.getD jn default)) := fun Y n tk htk => hR.frame (fun x hx => upd_other _ _ (fun e => by subst e; exact absurd (hn1 _ hx) (by rw [hH0]; simp))) (fun x hx => upd_other _ _ (fun e => by subst e; obtain ⟨xs, e2⟩ := hR.cont _ hx; exact htk xs e2))
    have hrow : az.map (fun a : AT => [AV.ptr a.id 0]) ++ [[AV.ptr a.id 0]] = (az ++ [a]).map (fun a : AT => [AV.ptr a.id 0]) := by simp
    rw [hrow]
    refine ⟨g - 1, by omega, az ++ [a], .row 1 ((az ++ [a]).map fun a => [.ptr a.id 0]) (some tk), { H := upd h2.H i (some (.cells (cells9 kind item long many kids shares (.row 1 ((az ++ [a]).map fun a => [.ptr a.id 0]) (some tk)) 0 c0 ++ [.v (.int .i64 0)]))), T := upd h2.T tk (some (.tail (az.length + 1))) }, by simp at hjn hg ⊢; omega, NewI.more (c := c0) (az := az) hI hi (by rw [hH0]; simp) (by rw [hT]; simp) (by rw [hjn]; exact hfr _ (jn + 1) tk (fun xs e => by rw [htk2] at e; cases e)) hS hn1 hn2 (fun x hx hxi => (upd_other _ _ hxi).trans (hk1 x hx)) (fun x xs hx => (upd_other _ _ (fun e => by subst e; exact (by rw [htkT] at hx; cases hx))).trans (hk2 x (by rw [hx]; simp))) (fun x hx => (upd_other _ _ (fun e => by subst e; exact hx htk0)).trans ((hk2 x (by rw [hI.2.2.2 x hx]; exact hx)).trans (hI.2.2.2 x hx))),
     .inr ⟨tk, by simp, rfl, by rw [show (az ++ [a]).length = az.length + 1 by simp]; exact upd_same _ _ _, htk0⟩, upd_same _ _ _, (upd_other _ _ (fun e => by subst e; exact (by rw [hT2] at htk2; cases htk2))).trans hT2, by rw [show ((az ++ [a]).length : Int) = (jn : Int) + 1 by simp; omega]; rfl⟩
  ·simp only [decide_eq_false_iff_not] at h6
   have hjk : az.length = kids.length := by omega
   have hK' : kidsC az K := by
    rcases hK with ⟨rfl, rfl⟩ | ⟨tk, _, rfl, _, _⟩
    ·exact .inl ⟨rfl, rfl⟩
    ·exact .inr ⟨some tk, rfl⟩
   clear hK hH0
   (repeat (first | refine gQ rfl ?_ | ((first | refine gM zM30 ?_ | (with_reducible refine wM ?_ ?_) | ((with_reducible refine xS ?_); refine uD 1 zM30 zP17E zP17P 51 rfl (by kernel_rfl) ?_) | ((with_reducible refine xR ?_); refine uE 5 zM30 zP18E zP18P 51 rfl (by kernel_rfl) ?_)) <;> ((try with_reducible intro K1 hK1); simp only [go_sem, ↓reduceIte, reduceCtorEq, nA, nB, nC, nD, nE, nF] <;> and_intros <;> first | (apply hK1; clear hK1 K1) | (intros; first | omega | decide | (simp_all <;> omega)) | skip))))
   refine awp_seq ?_
   (repeat (first | refine gO rfl ?_ | ((first | refine gM zM30 ?_ | (with_reducible refine wM ?_ ?_) | ((with_reducible refine xS ?_); refine uD 1 zM30 zP17E zP17P 51 rfl (by kernel_rfl) ?_) | ((with_reducible refine xR ?_); refine uE 5 zM30 zP18E zP18P 51 rfl (by kernel_rfl) ?_)) <;> ((try with_reducible intro K1 hK1); simp only [go_sem, ↓reduceIte, reduceCtorEq, nA, nB, nC, nD, nE, nF] <;> and_intros <;> first | (apply hK1; clear hK1 K1) | (intros; first | omega | decide | (simp_all <;> omega)) | skip))))
   refine awp_loopC (rl false [3, 1, 31, 3, 13]) 0 (fun g s => ∃ j : Nat, g + j = shares.length ∧ s = ⟨((jnk 3 ((.ptr i 0) :: (jnk 31 ((.row 1 (shares.map encI) none) :: (.v (.int .i64 shares.length)) :: (.v (.int .i64 j)) :: (jnk 13 [])))))), [],
    { H := upd h'.H i (some (.cells (cells9 kind item long many kids shares K 0 c0 ++ [.v (.int .i64 (shares.take j).sum)]))), T := h'.T }⟩) shares.length ⟨0, by omega, ?_⟩ ?_
   ·have e0 : ({ H := upd h'.H i (some (.cells (cells9 kind item long many kids shares K 0 c0 ++ [.v (.int .i64 (shares.take 0).sum)]))), T := h'.T } : Hp) = h' := by
     show (⟨upd h'.H i (some (.cells (cells9 kind item long many kids shares K 0 c0 ++ [.v (.int .i64 0)]))), h'.T⟩ : Hp) = h'
     rw [upd_self hH]
    rw [e0]; rfl
   rintro g _ ⟨j, hj, rfl⟩
   have hnb := sum_nb (shares.take j) fun x hx => b7 x (List.mem_of_mem_take hx)
   have hjl : (shares.take j).length ≤ 1000 := by simp; omega
   have hH1 : (upd h'.H i (some (AO.cells (cells9 kind item long many kids shares K 0 c0 ++ [.v (.int .i64 (shares.take j).sum)])))) i = some (.cells [.v (.int .i64 kind), .v (.string item), .v (.int .i64 long), .v (.int .i64 many), .row 6 (kids.map encL) none, .row 1 (shares.map encI) none, K, .v (.int .i64 0), .arr 1 c0 kids.length, .v (.int .i64 (shares.take j).sum)]) := upd_same _ _ _
   (repeat (first | refine gO rfl ?_ | ((first | refine gM zM30 ?_ | (with_reducible refine wM ?_ ?_) | ((with_reducible refine xS ?_); refine uD 1 zM30 zP17E zP17P 51 rfl (by kernel_rfl) ?_) | ((with_reducible refine xR ?_); refine uE 5 zM30 zP18E zP18P 51 rfl (by kernel_rfl) ?_)) <;> ((try with_reducible intro K1 hK1); simp only [go_sem, ↓reduceIte, reduceCtorEq, nA, nB, nC, nD, nE, nF] <;> and_intros <;> first | (apply hK1; clear hK1 K1) | (intros; first | omega | decide | (simp_all <;> omega)) | skip))))
   refine awp_cond (t := _) rfl (fun h7 => ?_) (fun h7 => ?_)
   ·simp only [decide_eq_true_eq] at h7
    have hjs : j < shares.length := by omega
    have hgs : (shares.map encI).getD j [] = encI (shares.getD j 0) := getD_enc encI shares j 0 hjs
    have hms := b7 _ (getD_mem' shares j 0 hjs)
    have e1 : (shares.take (j + 1)).sum = (shares.take j).sum + shares.getD j 0 := by
     rw [List.take_add_one, List.getD_eq_getElem?_getD, List.getElem?_eq_getElem hjs, List.sum_append]; simp only [Option.toList_some, List.sum_cons, List.sum_nil, Option.getD_some]; omega
    have hb2 : NB (shares.getD j 0) := hms
    unfold NB at hb2
    (repeat (first | refine gO rfl ?_ | ((first | refine gM zM30 ?_ | (with_reducible refine wM ?_ ?_) | ((with_reducible refine xS ?_); refine uD 1 zM30 zP17E zP17P 51 rfl (by kernel_rfl) ?_) | ((with_reducible refine xR ?_); refine uE 5 zM30 zP18E zP18P 51 rfl (by kernel_rfl) ?_)) <;> ((try with_reducible intro K1 hK1); simp only [go_sem, ↓reduceIte, reduceCtorEq, nA, nB, nC, nD, nE, nF, Int.toNat_natCast, hgs, encI, cells9] <;> and_intros <;> first | (apply hK1; clear hK1 K1) | (intros; first | omega | decide | (simp_all <;> omega)) | skip))))
    refine ⟨g - 1, by omega, j + 1, by omega, ?_⟩
    rw [e1]; rfl
   ·simp only [decide_eq_false_iff_not] at h7
    have hjs : j = shares.length := by omega
    subst hjs
    rw [List.take_length]
    (repeat (first | refine gO rfl ?_ | ((first | refine gM zM30 ?_ | (with_reducible refine wM ?_ ?_) | ((with_reducible refine xS ?_); refine uD 1 zM30 zP17E zP17P 51 rfl (by kernel_rfl) ?_) | ((with_reducible refine xR ?_); refine uE 5 zM30 zP18E zP18P 51 rfl (by kernel_rfl) ?_)) <;> ((try with_reducible intro K1 hK1); simp only [go_sem, ↓reduceIte, reduceCtorEq, nA, nB, nC, nD, nE, nF] <;> and_intros <;> first | (apply hK1; clear hK1 K1) | (intros; first | omega | decide | (simp_all <;> omega)) | skip))))
    simp only [Tryz.results75, go_sem, ↓reduceIte, reduceCtorEq, nA, nB, nC, nD, nE, nF]
    obtain ⟨g1, g2, g3, g4⟩ := hI
    refine ⟨_, _, Weak.refl _, Hp.le.refl _, .mk i c0 az, rfl, ?_, ?_, ?_, ?_, fun x hx => (upd_other _ _ (fun e => by subst e; exact hx hi)).trans (g3 x hx), g4⟩
    ·rw [ps0_eq]
     have hcf : XP.cf kind (kids.map fun _ => (0 : Int)) = kids.map fun _ => (0 : Int) := by
      simp only [XP]
      split
      ·rfl
      ·rw [List.length_map, ← List.map_const]; rfl
     refine ⟨⟨K, upd_same _ _ _, hK'⟩, by rw [hcf]; exact hT, by rw [hcf]; simp; omega, fun j hj => ?_⟩
     have e : (kids.map ps0).getD j default = ps0 (kids.getD j default) := by
      rw [List.getD_eq_getElem?_getD, List.getD_eq_getElem?_getD, List.getElem?_map, List.getElem?_eq_getElem hj]; rfl
     rw [e]
     exact (g1 j (by omega)).1.frame (fun x hx => upd_other _ _ (fun e => by subst e; exact (g1 j (by omega)).2.1.1 hx)) (fun _ _ => rfl)
    ·exact fun j hj => ⟨(g1 j hj).2.1, fun l hl hne => g2 j l hj hl hne⟩
    ·intro x hx
     rcases mem_idsT hx with rfl | ⟨j, hj, hx⟩
     ·exact hi
     ·exact (g1 j hj).2.2.1 x hx
    ·intro x hx
     rcases mem_toksT hx with rfl | ⟨j, hj, hx⟩
     ·exact hc0
     ·exact (g1 j hj).2.2.2 x hx
theorem mul_bd {a b A B : Int} (ha : 0 ≤ a ∧ a ≤ A) (hb : 0 ≤ b ∧ b ≤ B) : 0 ≤ a * b ∧ a * b ≤ A * B :=
 ⟨Int.mul_nonneg ha.1 hb.1, Int.mul_le_mul ha.2 hb.2 hb.1 (by omega)⟩
theorem sum_take_succ (l : List Int) (j : Nat) (h : j < l.length) : (l.take (j + 1)).sum = (l.take j).sum + l.getD j 0 := by
 rw [List.take_add_one, List.getD_eq_getElem?_getD, List.getElem?_eq_getElem h, List.sum_append]; simp only [Option.toList_some, List.sum_cons, List.sum_nil, Option.getD_some]; omega
theorem sum_01 : ∀ (l : List Int), (∀ x ∈ l, 1 ≤ x ∧ x ≤ 1000) → 0 ≤ l.sum ∧ l.sum ≤ l.length * 1000
 | [], _ => by simp
 | x :: l, h => by
  have h1 := h x (by simp)
  have h2 := sum_01 l fun y hy => h y (by simp [hy])
  simp only [List.sum_cons, List.length_cons]
  omega
abbrev zP19E : List Nat := [0, 1, 2, 3, 4, 5, 6, 7, 8, 9, 10, 11, 12, 13, 14, 15, 16, 17, 18, 19, 20]
abbrev zP19P : List (Nat × List Nat × List Nat) := []
abbrev zP1AE : List Nat := [0, 1, 2, 3, 4, 5, 6, 7, 8, 9, 10]
abbrev zP1AP : List (Nat × List Nat × List Nat) := []
attribute [go_sem] zP19E zP19P zP1AE zP1AP
theorem g_behind45 (kind : Int) (item : ByteArray) (long many : Int) (kr : AV) (shares : List Int) (K : AV) (p : Int) (i c0 : Nat) (cs : List Int) (h : Hp) (hH : h.H i = some (.cells [.v (.int .i64 kind), .v (.string item), .v (.int .i64 long), .v (.int .i64 many), kr, .row 1 (shares.map encI) none, K, .v (.int .i64 p), .arr 1 c0 shares.length, .v (.int .i64 shares.sum)]))
  (hT : h.T c0 = some (.cont 1 (cs.map encI))) (hl : cs.length = shares.length) (hl2 : shares.length ≤ 1000) (hs : ∀ x ∈ shares, 1 ≤ x ∧ x ≤ 1000) (hp : 0 ≤ p ∧ p ≤ 1000000) (hc : ∀ x ∈ cs, 0 ≤ x ∧ x ≤ 1000000) :
  ACalls Tryz.prog 141 [.ptr i 0] h (fun r h' => r = .v (.int .i64 (nextF shares p cs)) ∧ h' = h) := by
 refine gE Tryz.func141 rfl (by kernel_rfl) 49 rfl fun c => ?_
 (repeat (first | refine gQ rfl ?_ | ((first | ((with_reducible refine yS ?_); refine awp_keep zK30 100 (kS ?_)) | ((with_reducible refine yR ?_); refine awp_keep zK30 100 (kR ?_)) | refine gR ?_ | (with_reducible refine wM ?_ ?_) | ((with_reducible refine xS ?_); refine awp_keep zK30 100 (uD 5 zM31 zP19E zP19P 50 rfl (by kernel_rfl) ?_))) <;> ((try with_reducible intro K1 hK1); simp only [go_sem, ↓reduceIte, reduceCtorEq, nA, nB, nC, nD, nE, nF, hH, nG, nH, nI] <;> and_intros <;> first | (apply hK1; clear hK1 K1) | (intros; first | omega | decide | (simp_all <;> omega)) | skip))))
 refine awp_seq ?_
 (repeat (first | refine gO rfl ?_ | ((first | ((with_reducible refine yS ?_); refine awp_keep zK30 100 (kS ?_)) | ((with_reducible refine yR ?_); refine awp_keep zK30 100 (kR ?_)) | refine gR ?_ | (with_reducible refine wM ?_ ?_) | ((with_reducible refine xS ?_); refine awp_keep zK30 100 (uD 5 zM31 zP19E zP19P 50 rfl (by kernel_rfl) ?_))) <;> ((try with_reducible intro K1 hK1); simp only [go_sem, ↓reduceIte, reduceCtorEq, nA, nB, nC, nD, nE, nF, hH, nG, nH, nI] <;> and_intros <;> first | (apply hK1; clear hK1 K1) | (intros; first | omega | decide | (simp_all <;> omega)) | skip))))
 refine awp_loopC (rl false [0, 1, 2, 2, 7, 3, 35]) 0 (fun g s => ∃ (j : Nat) (m : Int), g + j = shares.length ∧ (j ≠ 0 → m = shareV shares p cs (bestTo (shareV shares p cs) j)) ∧ (-10000000000000 ≤ m ∧ m ≤ 10000000000000) ∧
  s = ⟨((.ptr i 0) :: AV.junk :: AV.junk :: ((.v (.int .i64 (bestTo (shareV shares p cs) j))) :: (.v (.int .i64 m)) :: (jnk 7 ((.row 1 (shares.map encI) none) :: (.v (.int .i64 shares.length)) :: (.v (.int .i64 j)) :: (jnk 35 []))))), [], h⟩) shares.length ⟨0, 0, by omega, fun h => absurd rfl h, by omega, rfl⟩ ?_
 rintro g _ ⟨j, m, hj, hm, hmb, rfl⟩
 (repeat (first | refine gO rfl ?_ | ((first | ((with_reducible refine yS ?_); refine awp_keep zK30 100 (kS ?_)) | ((with_reducible refine yR ?_); refine awp_keep zK30 100 (kR ?_)) | refine gR ?_ | (with_reducible refine wM ?_ ?_) | ((with_reducible refine xS ?_); refine awp_keep zK30 100 (uD 5 zM31 zP19E zP19P 50 rfl (by kernel_rfl) ?_))) <;> ((try with_reducible intro K1 hK1); simp only [go_sem, ↓reduceIte, reduceCtorEq, nA, nB, nC, nD, nE, nF, hH, nG, nH, nI] <;> and_intros <;> first | (apply hK1; clear hK1 K1) | (intros; first | omega | decide | (simp_all <;> omega)) | skip))))
 refine awp_cond (t := _) rfl (fun h1 => ?_) (fun h1 => ?_)
 ·simp only [decide_eq_true_eq] at h1
  have hjs : j < shares.length := by omega
  have e2 : bestTo (shareV shares p cs) (j + 1) = if shareV shares p cs j > shareV shares p cs (bestTo (shareV shares p cs) j) then j else bestTo (shareV shares p cs) j := rfl
  have e0 : j = 0 → bestTo (shareV shares p cs) (j + 1) = j := fun h => by subst h; simp [bestTo]
  have e2t : j ≠ 0 → m < shareV shares p cs j → bestTo (shareV shares p cs) (j + 1) = j := fun h0 h => by rw [e2, if_pos (by rw [hm h0] at h; exact h)]
  have e2f : j ≠ 0 → ¬ m < shareV shares p cs j → bestTo (shareV shares p cs) (j + 1) = bestTo (shareV shares p cs) j := fun h0 h => by rw [e2, if_neg (by rw [hm h0] at h; exact h)]
  clear e2
  have hg : (shares.map encI).getD j [] = encI (shares.getD j 0) := getD_enc encI shares j 0 hjs
  have hcj : (cs.map encI).getD j [] = encI (cs.getD j 0) := getD_enc encI cs j 0 (by omega)
  have b1 := hs _ (getD_mem' shares j 0 hjs)
  have b3 := hc _ (getD_mem' cs j 0 (by omega))
  have hss := sum_01 shares hs
  have m1 := mul_bd (a := shares.getD j 0) (b := p + 1) (A := 1000) (B := 1000001) (by omega) (by omega)
  have m3 := mul_bd (a := cs.getD j 0) (b := shares.sum) (A := 1000000) (B := 1000000) (by omega) (by omega)
  have hv : shareV shares p cs j = shares.getD j 0 * (p + 1) - cs.getD j 0 * shares.sum := rfl
  (repeat (first | refine gO rfl ?_ | ((first | ((with_reducible refine yS ?_); refine awp_keep zK30 100 (kS ?_)) | ((with_reducible refine yR ?_); refine awp_keep zK30 100 (kR ?_)) | refine gR ?_ | (with_reducible refine wM ?_ ?_) | ((with_reducible refine xS ?_); refine awp_keep zK30 100 (uD 5 zM31 zP19E zP19P 50 rfl (by kernel_rfl) ?_))) <;> ((try with_reducible intro K1 hK1); simp only [go_sem, ↓reduceIte, reduceCtorEq, nA, nB, nC, nD, nE, nF, hH, hT, hl, Int.toNat_natCast, hg, hcj, encI, nG, nH, nI] <;> and_intros <;> first | (apply hK1; clear hK1 K1) | (intros; first | omega | decide | (simp_all <;> omega)) | skip))))
  refine awp_cond (t := _) rfl (fun h2 => ?_) (fun h2 => ?_)
  ·(repeat (first | refine gO rfl ?_ | ((first | ((with_reducible refine yS ?_); refine awp_keep zK30 100 (kS ?_)) | ((with_reducible refine yR ?_); refine awp_keep zK30 100 (kR ?_)) | refine gR ?_ | (with_reducible refine wM ?_ ?_) | ((with_reducible refine xS ?_); refine awp_keep zK30 100 (uD 5 zM31 zP19E zP19P 50 rfl (by kernel_rfl) ?_))) <;> ((try with_reducible intro K1 hK1); simp only [go_sem, ↓reduceIte, reduceCtorEq, nA, nB, nC, nD, nE, nF, nG, nH, nI] <;> and_intros <;> first | (apply hK1; clear hK1 K1) | (intros; first | omega | decide | (simp_all <;> omega)) | skip))))
   have e3 : bestTo (shareV shares p cs) (j + 1) = j := by
    simp only [Bool.or_eq_true, beq_iff_eq, decide_eq_true_eq] at h2
    by_cases h0 : j = 0
    ·exact e0 h0
    ·exact e2t h0 (by rw [hv]; omega)
   exact ⟨g - 1, by omega, j + 1, shares.getD j 0 * (p + 1) - cs.getD j 0 * shares.sum, by omega, fun _ => by rw [e3, hv], by omega, by rw [e3]; rfl⟩
  ·(repeat (first | refine gO rfl ?_ | ((first | ((with_reducible refine yS ?_); refine awp_keep zK30 100 (kS ?_)) | ((with_reducible refine yR ?_); refine awp_keep zK30 100 (kR ?_)) | refine gR ?_ | (with_reducible refine wM ?_ ?_) | ((with_reducible refine xS ?_); refine awp_keep zK30 100 (uD 5 zM31 zP19E zP19P 50 rfl (by kernel_rfl) ?_))) <;> ((try with_reducible intro K1 hK1); simp only [go_sem, ↓reduceIte, reduceCtorEq, nA, nB, nC, nD, nE, nF, nG, nH, nI] <;> and_intros <;> first | (apply hK1; clear hK1 K1) | (intros; first | omega | decide | (simp_all <;> omega)) | skip))))
   simp only [Bool.or_eq_false_iff, beq_eq_false_iff_ne, decide_eq_false_iff_not] at h2
   have h0 : j ≠ 0 := by omega
   have e3 := e2f h0 (by rw [hv]; omega)
   exact ⟨g - 1, by omega, j + 1, m, by omega, fun _ => by rw [e3]; exact hm h0, by omega, by rw [e3]; rfl⟩
 ·simp only [decide_eq_false_iff_not] at h1
  have hjs : j = shares.length := by omega
  subst hjs
  (repeat (first | refine gO rfl ?_ | ((first | ((with_reducible refine yS ?_); refine awp_keep zK30 100 (kS ?_)) | ((with_reducible refine yR ?_); refine awp_keep zK30 100 (kR ?_)) | refine gR ?_ | (with_reducible refine wM ?_ ?_) | ((with_reducible refine xS ?_); refine awp_keep zK30 100 (uD 5 zM31 zP19E zP19P 50 rfl (by kernel_rfl) ?_))) <;> ((try with_reducible intro K1 hK1); simp only [go_sem, ↓reduceIte, reduceCtorEq, nA, nB, nC, nD, nE, nF, nG, nH, nI] <;> and_intros <;> first | (apply hK1; clear hK1 K1) | (intros; first | omega | decide | (simp_all <;> omega)) | skip))))
  simp only [Tryz.results141, go_sem, ↓reduceIte, reduceCtorEq, nA, nB, nC, nD, nE, nF]
  exact ⟨_, _, Weak.refl _, Hp.le.refl _, rfl, rfl⟩
theorem g_full28 (o k : Nat) (h : Hp) (xs : List (ByteArray × Int)) (hO : OutAt h o k [.v (.int .i64 5000)] xs) : ACalls Tryz.prog 77 [.ptr o 0] h (fun r h' => r = .v (.bool (decide (5000 < (xs.length : Int)))) ∧ h' = h) := by
 have hH : h.H o = some (.cells [.row 2 (xs.map encStep) (some k), .v (.int .i64 5000)]) := hO.1
 refine gE Tryz.func77 rfl (by kernel_rfl) 12 rfl fun c => ?_
 (repeat (first | refine gO rfl ?_ | ((first | refine gR ?_ | (with_reducible refine wM ?_ ?_) | ((with_reducible refine xS ?_); refine uD 1 zM31 zP1AE zP1AP 13 rfl (by kernel_rfl) ?_)) <;> ((try with_reducible intro K1 hK1); simp only [go_sem, ↓reduceIte, reduceCtorEq, nA, nB, nC, nD, nE, nF, hH] <;> and_intros <;> first | (apply hK1; clear hK1 K1) | (intros; first | omega | decide | (simp_all <;> omega)) | skip))))
 simp only [Tryz.results77, go_sem, ↓reduceIte, reduceCtorEq, nA, nB, nC, nD, nE, nF]
 exact ⟨_, _, Weak.refl _, Hp.le.refl _, rfl, rfl⟩
def FrP (a : AT) (o k : Nat) (h h' : Hp) : Prop := (∀ i, i ∉ idsT a → i ≠ o → h'.H i = h.H i) ∧ (∀ c, c ∉ toksT a → c ≠ k → h'.T c = h.T c)
theorem FrP.trans {a : AT} {o k : Nat} {h h1 h2 : Hp} (f : FrP a o k h h1) (g : FrP a o k h1 h2) : FrP a o k h h2 :=
 ⟨fun i x y => (g.1 i x y).trans (f.1 i x y), fun i x y => (g.2 i x y).trans (f.2 i x y)⟩
theorem FrP.kid {i c : Nat} {az : List AT} {j : Nat} {o k : Nat} {h h' : Hp} (hj : j < az.length) (f : FrP (az.getD j default) o k h h') : FrP (.mk i c az) o k h h' :=
 ⟨fun x hx ho => f.1 x (fun h => hx (idsT_kid hj h)) ho, fun x hx ho => f.2 x (fun h => hx (toksT_kid hj h)) ho⟩
theorem getD_setS {α : Type} (l : List α) (j : Nat) (x d : α) (h : j < l.length) : (l.set j x).getD j d = x := by rw [List.getD_eq_getElem?_getD, List.getElem?_set_self h]; rfl
theorem getD_setN {α : Type} (l : List α) (j i : Nat) (x d : α) (h : j ≠ i) : (l.set j x).getD i d = l.getD i d := by rw [List.getD_eq_getElem?_getD, List.getElem?_set_ne h, ← List.getD_eq_getElem?_getD]
theorem RAt.kid {X : RK} {h h' : Hp} {d : Nat} {kind : Int} {item : ByteArray} {long many : Int} {kids : List LT} {shares : List Int} {i c : Nat} {az : List AT} {p : Int} {cs : List Int} {ks : List PS}
  (hR : RAt X h (d + 1) (.mk kind item long many kids shares) (.mk i c az) (.mk p cs ks)) (hS : Sep (d + 1) (.mk i c az)) {o k : Nat} (ho : o ∉ idsT (.mk i c az)) (hk : k ∉ toksT (.mk i c az)) {j : Nat} (hj : j < kids.length) {s' : PS}
  (hj' : RAt X h' d (kids.getD j default) (az.getD j default) s') (hf : FrP (az.getD j default) o k h h') : RAt X h' (d + 1) (.mk kind item long many kids shares) (.mk i c az) (.mk p cs (ks.set j s')) := by
 obtain ⟨⟨K, h1, hK⟩, h2, ⟨l1, l2, l3, l4⟩, h4⟩ := hR
 have hjz : j < az.length := by omega
 have hSj := hS j hjz
 refine ⟨⟨K, (hf.1 i hSj.1.1 (fun e => ho (by rw [idsT_eq, e]; simp))).trans h1, hK⟩, (hf.2 c hSj.1.2.1 (fun e => hk (by rw [toksT_eq, e]; simp))).trans h2, ⟨l1, l2, l3, by simpa using l4⟩, fun l hl => ?_⟩
 by_cases hlj : j = l
 ·subst hlj
  rw [getD_setS _ _ _ _ (by omega)]
  exact hj'
 ·rw [getD_setN _ _ _ _ _ hlj]
  have hd := hSj.2 l (by omega) (fun e => hlj e.symm)
  exact (h4 l hl).frame (fun x hx => hf.1 x (fun hx2 => hd.1 x hx2 hx) (fun e => ho (by rw [← e]; exact idsT_kid (by omega) hx))) (fun x hx => hf.2 x (fun hx2 => hd.2 x hx2 hx) (fun e => hk (by rw [← e]; exact toksT_kid (by omega) hx)))
theorem RAt.tokNe {X : RK} {h : Hp} {d : Nat} {t : LT} {a : AT} {s : PS} (hR : RAt X h d t a s) {k n : Nat} (hk : h.T k = some (.tail n)) : k ∉ toksT a := fun hx => by
 obtain ⟨xs, e⟩ := hR.cont k hx
 rw [hk] at e; cases e
def FOk (d : Nat) (kids : List LT) (n : Int) (a : List Int × List PS) : Prop :=
 (a.1.length = kids.length ∧ a.2.length = kids.length) ∧ (∀ x ∈ a.1, 0 ≤ x ∧ x ≤ n) ∧ ∀ j, j < kids.length → PSB d (kids.getD j default) (a.2.getD j default) n
theorem mem_set_or {l : List Int} {j : Nat} {v x : Int} (h : x ∈ l.set j v) : x ∈ l ∨ x = v := List.mem_or_eq_of_mem_set h
theorem stepU_ok {d : Nat} {f : LT → PS → PS × List (ByteArray × Int)} {kids : List LT} {n : Int} {a : (List Int × List PS) × List (ByteArray × Int)} (hf : FOk d kids n a.1) {i : Nat} (hi : i < kids.length) {m : Nat}
  (hm : (f (kids.getD i default) (a.1.2.getD i default)).2.length = m) (hm1 : 1 ≤ m) (hp : PSB d (kids.getD i default) (f (kids.getD i default) (a.1.2.getD i default)).1 (n + m)) : FOk d kids (n + m) (stepU f kids a i).1 ∧ (stepU f kids a i).2.length = a.2.length + m := by
 obtain ⟨⟨l1, l2⟩, h1, h2⟩ := hf
 refine ⟨⟨⟨by simp [stepU, l1], by simp [stepU, l2]⟩, fun x hx => ?_, fun j hj => ?_⟩, by simp only [stepU, List.length_append, hm]⟩
 ·rcases mem_set_or hx with h | h
  ·have := h1 x h; omega
  ·have := h1 _ (getD_mem' a.1.1 i 0 (by omega)); omega
 ·simp only [stepU]
  by_cases hij : i = j
  ·subst hij; rw [getD_setS _ _ _ _ (by omega)]; exact hp
  ·rw [getD_setN _ _ _ _ _ hij]; exact (h2 j hj).mono (by omega)
theorem idxL_lt {kind p many : Int} {nk nx : Nat} (hk : 1 ≤ kind ∧ kind ≤ 5) (hn : kind ≠ 1 → 0 < nk) (hx : kind = 4 → nx < nk) (hp : 0 ≤ p) : ∀ i ∈ idxL kind p many nk nx, i < nk := by
 intro i hi
 unfold idxL at hi
 split at hi
 ·simp at hi
 ·rename_i h1
  have h0 := hn h1
  split at hi
  ·simpa using hi
  ·split at hi
   ·simp only [List.mem_singleton] at hi
    subst hi
    have := Int.tmod_lt_of_pos p (show (0 : Int) < nk by omega)
    have := Int.tmod_nonneg (nk : Int) hp
    omega
   ·split at hi
    ·simp only [List.mem_singleton] at hi; subst hi; exact hx (by assumption)
    ·have := (List.mem_replicate.1 hi).2; omega
theorem idxL_ne {kind p many : Int} {nk nx : Nat} (hk : 1 ≤ kind ∧ kind ≤ 5) (h1 : kind ≠ 1) (hn : 0 < nk) (hm : kind = 5 → 1 ≤ many) : idxL kind p many nk nx ≠ [] := by
 unfold idxL
 rw [if_neg h1]
 split
 ·intro h; have := congrArg List.length h; simp at this; omega
 ·split
  ·simp
  ·split
   ·simp
   ·intro h; have := congrArg List.length h; simp at this; have := hm (by omega); omega
def Fits : Nat → LT → PS → Prop
 | 0, _, _ => False
 | d + 1, .mk _ _ _ _ kids _, .mk _ cs ks => (cs.length = kids.length ∧ ks.length = kids.length) ∧ ∀ j, j < kids.length → Fits d (kids.getD j default) (ks.getD j default)
theorem RAt.fits {X : RK} {h : Hp} : ∀ {d : Nat} {t : LT} {a : AT} {s : PS}, RAt X h d t a s → Fits d t s
 | 0, _, _, _, h => h.elim
 | d + 1, .mk .., .mk .., .mk .., ⟨_, _, h3, h4⟩ => ⟨⟨h3.2.1, h3.2.2.2⟩, fun j hj => (h4 j hj).fits⟩
theorem passU_ok : ∀ (d : Nat) (t : LT) (s : PS) (n : Int), VL d t → Fits d t s → 0 ≤ n → PSB d t s n → 1 ≤ (passU d t s).2.length ∧ PSB d t (passU d t s).1 (n + (passU d t s).2.length) ∧ Fits d t (passU d t s).1
 | 0, _, _, _, h, _, _, _ => h.elim
 | d + 1, .mk kind item long many kids shares, .mk p cs ks, n, hv, hft, hn, hb => by
  obtain ⟨v1, v2, v3, v4, v5, v6, v7, v8⟩ := hv
  obtain ⟨⟨f1, f2⟩, f3⟩ := hft
  obtain ⟨c1, c2, c3⟩ := hb
  rw [passU_succ]
  have hnk : kind ≠ 1 → 0 < kids.length := fun h => List.length_pos_iff.2 (v3 h)
  have hidx := idxL_lt (many := many) (nx := nextF shares p cs) v1 hnk (fun h4 => by rw [← v5 h4]; exact bestTo_lt _ _ (by rw [v5 h4]; exact hnk (by omega))) c1.1
  have hne := fun h => idxL_ne (p := p) (nx := nextF shares p cs) v1 h (hnk h) (fun h5 => (v4 h5).2.1)
  have hnil : kind = 1 → idxL kind p many kids.length (nextF shares p cs) = [] := fun h => by unfold idxL; rw [if_pos h]
  generalize idxL kind p many kids.length (nextF shares p cs) = L at *
  -- the fold
  have key : ∀ (L : List Nat), (∀ i ∈ L, i < kids.length) → ∀ (a : (List Int × List PS) × List (ByteArray × Int)) (m : Int), 0 ≤ m → FOk d kids m a.1 → (∀ j, j < kids.length → Fits d (kids.getD j default) (a.1.2.getD j default)) →
    FOk d kids (m + ((L.foldl (stepU (passU d) kids) a).2.length - a.2.length)) (L.foldl (stepU (passU d) kids) a).1 ∧ (∀ j, j < kids.length → Fits d (kids.getD j default) ((L.foldl (stepU (passU d) kids) a).1.2.getD j default)) ∧
    a.2.length + L.length ≤ (L.foldl (stepU (passU d) kids) a).2.length := by
   intro L
   induction L with
   | nil => intro _ a m _ ha hfi; exact ⟨by simpa using ha, hfi, by simp⟩
   | cons i L ih =>
    intro hL a m hm ha hfi
    have hi := hL i (by simp)
    have hmem := getD_mem' kids i default hi
    obtain ⟨g1, g2, g3⟩ := passU_ok d (kids.getD i default) (a.1.2.getD i default) m (v8 _ hmem) (hfi i hi) hm (ha.2.2 i hi)
    obtain ⟨s1, s2⟩ := stepU_ok (f := passU d) ha hi rfl g1 g2
    have hfi2 : ∀ j, j < kids.length → Fits d (kids.getD j default) ((stepU (passU d) kids a i).1.2.getD j default) := fun j hj => by
     simp only [stepU]
     by_cases hij : i = j
     ·subst hij; rw [getD_setS _ _ _ _ (by rw [ha.1.2]; exact hi)]; exact g3
     ·rw [getD_setN _ _ _ _ _ hij]; exact hfi j hj
    obtain ⟨r1, r2, r3⟩ := ih (fun j hj => hL j (by simp [hj])) (stepU (passU d) kids a i) _ (by omega) s1 hfi2
    simp only [List.foldl_cons]
    refine ⟨?_, r2, by simp only [List.length_cons]; omega⟩
    have e : m + (((L.foldl (stepU (passU d) kids) (stepU (passU d) kids a i)).2.length : Int) - a.2.length) = m + ((passU d (kids.getD i default) (a.1.2.getD i default)).2.length) + (((L.foldl (stepU (passU d) kids) (stepU (passU d) kids a i)).2.length : Int) - (stepU (passU d) kids a i).2.length) := by rw [s2]; omega
    rw [e]; exact r1
  obtain ⟨r1, r2, r3⟩ := key L hidx ((cs, ks), if kind = 1 then [(item, long)] else []) n hn ⟨⟨f1, f2⟩, c2, c3⟩ f3
  have hlen : 1 ≤ (L.foldl (stepU (passU d) kids) ((cs, ks), if kind = 1 then [(item, long)] else [])).2.length ∧ n + (((L.foldl (stepU (passU d) kids) ((cs, ks), if kind = 1 then [(item, long)] else [])).2.length : Int) - (if kind = 1 then [(item, long)] else []).length) ≤ n + (L.foldl (stepU (passU d) kids) ((cs, ks), if kind = 1 then [(item, long)] else [])).2.length := by
   by_cases h1 : kind = 1
   ·rw [hnil h1]; simp [h1]; omega
   ·have := List.length_pos_iff.2 (hne h1)
    rw [if_neg h1] at r3 ⊢
    simp only [List.length_nil] at r3 ⊢
    omega
  refine ⟨hlen.1, ⟨by simp only []; omega, fun x hx => ⟨(r1.2.1 x hx).1, Int.le_trans (r1.2.1 x hx).2 hlen.2⟩, fun j hj => (r1.2.2 j hj).mono hlen.2⟩, ⟨r1.1, r2⟩⟩
theorem RAt.count {X : RK} {h : Hp} {d : Nat} {kind : Int} {item : ByteArray} {long many : Int} {kids : List LT} {shares : List Int} {i c : Nat} {az : List AT} {p : Int} {cs cs' : List Int} {ks : List PS}
  (hR : RAt X h (d + 1) (.mk kind item long many kids shares) (.mk i c az) (.mk p cs ks)) (hS : Sep (d + 1) (.mk i c az)) (hl : cs'.length = cs.length) (hl2 : (X.cf kind cs').length = kids.length) :
  RAt X { h with T := upd h.T c (some (.cont 1 ((X.cf kind cs').map encI))) } (d + 1) (.mk kind item long many kids shares) (.mk i c az) (.mk p cs' ks) := by
 obtain ⟨h1, h2, ⟨l1, l2, l3, l4⟩, h4⟩ := hR
 exact ⟨h1, upd_same _ _ _, ⟨hl2, by omega, l3, l4⟩, fun j hj => (h4 j hj).frame (fun _ _ => rfl) (fun x hx => upd_other _ _ (fun e => by subst e; exact (hS j (by omega)).1.2.1 hx))⟩
theorem RAt.hadOne {X : RK} {h : Hp} {d : Nat} {kind : Int} {item : ByteArray} {long many : Int} {kids : List LT} {shares : List Int} {i c : Nat} {az : List AT} {p p' : Int} {cs : List Int} {ks : List PS} {K : AV}
  (hR : RAt X h (d + 1) (.mk kind item long many kids shares) (.mk i c az) (.mk p cs ks)) (hS : Sep (d + 1) (.mk i c az)) (hK : kidsC az K) :
  RAt X { h with H := upd h.H i (some (.cells (cells9 kind item long many kids shares K p' c ++ X.ex (.mk kind item long many kids shares)))) } (d + 1) (.mk kind item long many kids shares) (.mk i c az) (.mk p' cs ks) := by
 obtain ⟨h1, h2, ⟨l1, l2, l3, l4⟩, h4⟩ := hR
 exact ⟨⟨K, upd_same _ _ _, hK⟩, h2, ⟨l1, l2, l3, l4⟩, fun j hj => (h4 j hj).frame (fun x hx => upd_other _ _ (fun e => by subst e; exact (hS j (by omega)).1.1 hx)) (fun _ _ => rfl)⟩
def LT.kd : LT → Int
 | .mk k _ _ _ _ _ => k
def LT.mn : LT → Int
 | .mk _ _ _ m _ _ => m
def LT.ks : LT → List LT
 | .mk _ _ _ _ l _ => l
def LT.hd (t : LT) : LT := t.ks.getD 0 default
def repK (n : Int) (l : List LT) : LT := .mk 5 ⟨#[]⟩ 0 n l []
def rowT (l : List LT) : LT := .mk 2 ⟨#[]⟩ 0 0 l []
def cnt (t : LT) : Option (LT × Int) := if t.kd = 1 then some (t, 1) else if t.kd = 5 ∧ t.hd.kd = 1 then some (t.hd, t.mn) else none
open Classical in
noncomputable def runN (it : LT) : List LT → Int × Nat
 | [] => (0, 0)
 | x :: xs => match cnt x with
  | some (y, n) => if y = it then (n + (runN it xs).1, (runN it xs).2 + 1) else (0, 0)
  | none => (0, 0)
def manyT (it : LT) (n : Nat) : List LT := List.replicate (n / 100) (repK 100 [it]) ++ if n % 100 = 0 then [] else if n % 100 = 1 then [it] else [repK (n % 100 : Nat) [it]]
noncomputable def gathF : Nat → List LT → List LT
 | 0, _ => []
 | _ + 1, [] => []
 | f + 1, x :: xs => match cnt x with
  | none => x :: gathF f xs
  | some (it, n) => manyT it (n + (runN it xs).1).toNat ++ gathF f (xs.drop (runN it xs).2)
noncomputable def gath (l : List LT) : List LT := gathF l.length l
def flatT (l : List LT) : List LT := l.flatMap fun k => if k.kd = 2 then k.ks else [k]
def gcdN : List Nat → Nat
 | [] => 0
 | x :: xs => Nat.gcd x (gcdN xs)
theorem foldl_gcd : ∀ (l : List Nat) (a : Nat), l.foldl Nat.gcd a = Nat.gcd a (gcdN l)
 | [], a => by simp [gcdN]
 | x :: xs, a => by rw [List.foldl_cons, foldl_gcd xs, gcdN, Nat.gcd_assoc]
theorem gcdN_dvd : ∀ (l : List Nat), ∀ x ∈ l, gcdN l ∣ x
 | y :: ys, x, hx => by
  rcases List.mem_cons.1 hx with rfl | h
  ·exact Nat.gcd_dvd_left _ _
  ·exact Nat.dvd_trans (Nat.gcd_dvd_right _ _) (gcdN_dvd ys x h)
def gcdI (l : List Int) : Nat := gcdN (l.map Int.toNat)
def divI (g : Nat) (l : List Int) : List Int := l.map fun x => x / (g : Int)
theorem gcdI_pos {l : List Int} (h : ∀ x ∈ l, 1 ≤ x) (hn : l ≠ []) : 0 < gcdI l := by
 cases l with
 | nil => exact absurd rfl hn
 | cons x xs =>
  rw [gcdI, List.map_cons, gcdN]
  exact Nat.gcd_pos_of_pos_left _ (by have := h x (by simp); omega)
theorem gcdI_dvd {l : List Int} (h : ∀ x ∈ l, 1 ≤ x) {x : Int} (hx : x ∈ l) : (gcdI l : Int) ∣ x := by
 have h1 := gcdN_dvd (l.map Int.toNat) x.toNat (List.mem_map.2 ⟨x, hx, rfl⟩)
 have h2 : ((x.toNat : Nat) : Int) = x := by have := h x hx; omega
 rw [← h2]
 exact Int.natCast_dvd_natCast.2 h1
def plainT : LT → Bool
 | .mk kind _ _ _ kids _ => kind != 3 && kind != 4 && (kids.map plainT).all id
def WF : LT → Prop
 | .mk kind item long many kids shares => (1 ≤ kind ∧ kind ≤ 5) ∧ (kind = 1 → kids = [] ∧ shares = [] ∧ many = 0) ∧ (kind ≠ 1 → item = ⟨#[]⟩ ∧ long = 0 ∧ kids ≠ []) ∧ (kind = 5 → kids.length = 1 ∧ 1 ≤ many ∧ many ≤ 100) ∧ (kind ≠ 5 → many = 0) ∧
   (kind = 4 → shares.length = kids.length) ∧ (kind ≠ 4 → shares = []) ∧ (∀ x ∈ shares, 1 ≤ x ∧ x ≤ 1000) ∧ (NB long ∧ item.size ≤ 2) ∧ ∀ k ∈ kids, WF k
theorem WF_eq (kind : Int) (item : ByteArray) (long many : Int) (kids : List LT) (shares : List Int) : WF (.mk kind item long many kids shares) = ((1 ≤ kind ∧ kind ≤ 5) ∧ (kind = 1 → kids = [] ∧ shares = [] ∧ many = 0) ∧ (kind ≠ 1 → item = ⟨#[]⟩ ∧ long = 0 ∧ kids ≠ []) ∧ (kind = 5 → kids.length = 1 ∧ 1 ≤ many ∧ many ≤ 100) ∧ (kind ≠ 5 → many = 0) ∧
   (kind = 4 → shares.length = kids.length) ∧ (kind ≠ 4 → shares = []) ∧ (∀ x ∈ shares, 1 ≤ x ∧ x ≤ 1000) ∧ (NB long ∧ item.size ≤ 2) ∧ ∀ k ∈ kids, WF k) := by rw [WF]
def lv : LT → Nat
 | .mk _ _ _ _ kids _ => if kids.isEmpty then 1 else (kids.map lv).sum
open Classical in
noncomputable def stepT : LT → Option LT
 | .mk kind item long many kids shares =>
  if kind = 1 then none
  else if kind = 5 then if many = 1 then some (kids.getD 0 default) else if (kids.getD 0 default).kd = 5 ∧ many * (kids.getD 0 default).mn ≤ 100 then some (repK (many * (kids.getD 0 default).mn) (kids.getD 0 default).ks) else none
  else if kids.length = 1 then some (kids.getD 0 default)
  else if kind = 2 then if gath (flatT kids) = kids then none else some (rowT (gath (flatT kids)))
  else if kind = 4 then if 1 < gcdI shares then some (.mk 4 item long many kids (divI (gcdI shares) shares)) else none
  else if plainT (kids.getD 0 default) = true ∧ ∀ k ∈ kids, k = kids.getD 0 default then some (kids.getD 0 default) else none
def HS : LT → Prop
 | .mk kind item long many kids shares => stepT (.mk kind item long many kids shares) = none ∧ ∀ k ∈ kids, HS k
theorem HS_eq (kind : Int) (item : ByteArray) (long many : Int) (kids : List LT) (shares : List Int) : HS (.mk kind item long many kids shares) = (stepT (.mk kind item long many kids shares) = none ∧ ∀ k ∈ kids, HS k) := by rw [HS]
theorem HS.st {t : LT} (h : HS t) : stepT t = none := by cases t; rw [HS_eq] at h; exact h.1
theorem HS.kids {t : LT} (h : HS t) : ∀ k ∈ t.ks, HS k := by cases t; rw [HS_eq] at h; exact h.2
theorem WF.kids {t : LT} (h : WF t) : ∀ k ∈ t.ks, WF k := by cases t; rw [WF_eq] at h; exact h.2.2.2.2.2.2.2.2.2
theorem WF.ne {t : LT} (h : WF t) (hk : t.kd ≠ 1) : t.ks ≠ [] := by
 cases t; rw [WF_eq] at h; exact (h.2.2.1 hk).2.2
theorem firstNZ_all : ∀ (l : List Int), firstNZ l = 0 → ∀ x ∈ l, x = 0
 | [], _, x, hx => by simp at hx
 | y :: l, h, x, hx => by
  simp only [firstNZ] at h
  split at h
  ·rename_i h0
   rcases List.mem_cons.1 hx with rfl | hx
   ·exact h0
   ·exact firstNZ_all l h x hx
  ·rename_i h0; exact absurd h h0
theorem vl_of : ∀ (d : Nat) (t : LT), KC d t → partF t = 0 → VL d t
 | 0, _, h, _ => h.elim
 | d + 1, .mk kind item long many kids shares, hb, hp => by
  obtain ⟨b1, b2, b3, b4, b5, b6, b7, b8⟩ := hb
  rw [partF_eq] at hp
  by_cases h1 : outB kind 1 5
  ·rw [if_pos h1] at hp; omega
  rw [if_neg h1] at hp
  by_cases h2 : formB kind item long many kids.length shares.length
  ·rw [if_pos h2] at hp; omega
  rw [if_neg h2] at hp
  by_cases h3 : (kind == 1 && !keyB item) = true
  ·rw [if_pos h3] at hp; omega
  rw [if_neg h3] at hp
  by_cases h4 : (kind == 1 && outB long 1 3600000) = true
  ·rw [if_pos h4] at hp; omega
  rw [if_neg h4] at hp
  by_cases h5 : (kind == 5 && outB many 1 100) = true
  ·rw [if_pos h5] at hp; omega
  rw [if_neg h5] at hp
  by_cases h6 : shares.any (fun n => outB n 1 1000)
  ·rw [if_pos h6] at hp; omega
  rw [if_neg h6] at hp
  have hk := firstNZ_all _ hp
  simp only [outB, Bool.or_eq_true, decide_eq_true_eq, not_or, Int.not_lt] at h1
  simp only [formB, Bool.or_eq_true, Bool.and_eq_true, beq_iff_eq, bne_iff_ne, ne_eq, not_or, not_and, Decidable.not_not] at h2
  simp only [outB, Bool.and_eq_true, beq_iff_eq, Bool.or_eq_true, decide_eq_true_eq, not_and, not_or, Int.not_lt] at h5
  obtain ⟨⟨⟨⟨⟨⟨g1, g2⟩, g3⟩, g4⟩, g5⟩, g6⟩, g7⟩ := h2
  refine ⟨by omega, fun h => List.eq_nil_of_length_eq_zero (by have := g1 h; omega), fun h hn => by subst hn; exact g3 h rfl, fun h => ⟨by have := g2 h; omega, (h5 h).1, (h5 h).2⟩, fun h => by have := g4 h; omega, fun n hn => ?_, ⟨b5, b6⟩, fun k hkm => vl_of d k (b8 k hkm) (hk _ (List.mem_map.2 ⟨k, hkm, rfl⟩))⟩
  have h7 : outB n 1 1000 = false := by
   cases e : outB n 1 1000 with
   | false => rfl
   | true => exact absurd (List.any_eq_true.2 ⟨n, hn, e⟩) h6
  simp only [outB, Bool.or_eq_false_iff, decide_eq_false_iff_not, Int.not_lt] at h7
  exact h7
theorem psb0 : ∀ (d : Nat) (t : LT), PSB d t (ps0 t) 0
 | 0, _ => trivial
 | d + 1, .mk kind item long many kids shares => by
  rw [ps0_eq]
  refine ⟨by omega, fun x hx => ?_, fun j hj => ?_⟩
  ·obtain ⟨_, _, rfl⟩ := List.mem_map.1 hx; omega
  ·have e : (kids.map ps0).getD j default = ps0 (kids.getD j default) := by
    rw [List.getD_eq_getElem?_getD, List.getD_eq_getElem?_getD, List.getElem?_map, List.getElem?_eq_getElem hj]; rfl
   rw [e]; exact psb0 d _
def passesU (d : Nat) (t : LT) : Nat → PS × List (ByteArray × Int)
 | 0 => (ps0 t, [])
 | n + 1 => ((passU d t (passesU d t n).1).1, (passesU d t n).2 ++ (passU d t (passesU d t n).1).2)
theorem passesU_mono (d : Nat) (t : LT) : ∀ {m n : Nat}, m ≤ n → (passesU d t m).2.length ≤ (passesU d t n).2.length
 | m, 0, h => by
  obtain rfl : m = 0 := by omega
  exact Nat.le_refl _
 | m, n + 1, h => by
  by_cases e : m = n + 1
  ·rw [e]; exact Nat.le_refl _
  ·have := passesU_mono d t (m := m) (n := n) (by omega)
   simp only [passesU, List.length_append]; omega
theorem fits0 : ∀ (d : Nat) (t : LT), VL d t → Fits d t (ps0 t)
 | 0, _, h => h.elim
 | d + 1, .mk kind item long many kids shares, h => by
  obtain ⟨_, _, _, _, _, _, _, v8⟩ := h
  rw [ps0_eq]
  refine ⟨⟨by simp, by simp⟩, fun j hj => ?_⟩
  have e : (kids.map ps0).getD j default = ps0 (kids.getD j default) := by
   rw [List.getD_eq_getElem?_getD, List.getD_eq_getElem?_getD, List.getElem?_map, List.getElem?_eq_getElem hj]; rfl
  rw [e]
  exact fits0 d _ (v8 _ (getD_mem' kids j default hj))
theorem passesU_ok (d : Nat) (t : LT) (hv : VL d t) : ∀ n, PSB d t (passesU d t n).1 (passesU d t n).2.length ∧ Fits d t (passesU d t n).1 ∧ n ≤ (passesU d t n).2.length
 | 0 => ⟨psb0 d t, fits0 d t hv, Nat.zero_le _⟩
 | n + 1 => by
  obtain ⟨h1, h2, h3⟩ := passesU_ok d t hv n
  obtain ⟨q1, q2, q3⟩ := passU_ok d t _ _ hv h2 (by omega) h1
  exact ⟨by simp only [passesU, List.length_append]; exact_mod_cast q2, q3, by simp only [passesU, List.length_append]; omega⟩
def everyF (kind : Int) (nk : Nat) (shares : List Int) : Int := if kind = 3 then nk else if kind = 4 then shares.sum / gcdI shares else 1
def homeF : Nat → LT → PS → Bool
 | 0, _, _ => true
 | d + 1, .mk kind _ _ _ kids shares, .mk p _ ks => (p.tmod (everyF kind kids.length shares) == 0) && (List.range kids.length).all fun j => homeF d (kids.getD j default) (ks.getD j default)
theorem gcdI_le_sum {l : List Int} (h : ∀ x ∈ l, 1 ≤ x ∧ x ≤ 1000) (hn : l ≠ []) : (gcdI l : Int) ≤ l.sum := by
 cases l with
 | nil => exact absurd rfl hn
 | cons x xs =>
  have h1 := Int.le_of_dvd (by have := (h x (by simp)).1; omega) (gcdI_dvd (fun y hy => (h y hy).1) (List.mem_cons_self (a := x) (l := xs)))
  have : ∀ l : List Int, (∀ x ∈ l, 1 ≤ x ∧ x ≤ 1000) → 0 ≤ l.sum := fun l => by
   induction l with
   | nil => simp
   | cons y l ih => intro h; have := h y (by simp); have := ih fun z hz => h z (by simp [hz]); simp only [List.sum_cons]; omega
  have := this xs fun z hz => h z (by simp [hz])
  simp only [List.sum_cons]; omega
theorem every_pos {d : Nat} {kind : Int} {item : ByteArray} {long many : Int} {kids : List LT} {shares : List Int} (hv : VL (d + 1) (.mk kind item long many kids shares)) : 1 ≤ everyF kind kids.length shares ∧ everyF kind kids.length shares ≤ 1000000 := by
 obtain ⟨v1, v2, v3, v4, v5, v6, v7, v8⟩ := hv
 unfold everyF
 split
 ·have := List.length_pos_iff.2 (v3 (by omega)); omega
 ·split
  ·rename_i h4
   have hn : shares ≠ [] := fun e => v3 (by omega) (List.eq_nil_of_length_eq_zero (by rw [← v5 h4, e]; rfl))
   have h1 := gcdI_le_sum v6 hn
   have h2 := gcdI_pos (fun x hx => (v6 x hx).1) hn
   have h3 : ∀ l : List Int, (∀ x ∈ l, 1 ≤ x ∧ x ≤ 1000) → l.sum ≤ l.length * 1000 := fun l => by
    induction l with
    | nil => simp
    | cons y l ih => intro h; have := h y (by simp); have := ih fun z hz => h z (by simp [hz]); simp only [List.sum_cons, List.length_cons]; omega
   have h4 := h3 shares v6
   have h5 : shares.sum / (gcdI shares : Int) ≤ shares.sum := Int.ediv_le_self _ (by omega)
   refine ⟨?_, by omega⟩
   have := Int.le_ediv_of_mul_le (a := 1) (b := shares.sum) (c := (gcdI shares : Int)) (by omega) (by omega)
   omega
  ·omega
def RoundIs (d : Nat) (t : LT) (N : Nat) : Prop := (1 ≤ N ∧ N ≤ 5000) ∧ (passesU d t N).2.length ≤ 5000 ∧ homeF d t (passesU d t N).1 = true ∧ ∀ n, 1 ≤ n → n < N → homeF d t (passesU d t n).1 = false
theorem RoundIs.eq {d : Nat} {t : LT} {N M : Nat} (h : RoundIs d t N) (k : RoundIs d t M) : N = M := by
 obtain ⟨a, _, b, c⟩ := h
 obtain ⟨a', _, b', c'⟩ := k
 rcases Nat.lt_trichotomy N M with h | h | h
 ·rw [c' N a.1 h] at b; cases b
 ·exact h
 ·rw [c M a'.1 h] at b'; cases b'
open Classical in
noncomputable def roundN (d : Nat) (t : LT) : Nat := if h : ∃ N, RoundIs d t N then h.choose else 0
theorem roundN_some {d : Nat} {t : LT} {N : Nat} (h : RoundIs d t N) : roundN d t = N := by
 have hx : ∃ N, RoundIs d t N := ⟨N, h⟩
 rw [roundN, dif_pos hx]
 exact (hx.choose_spec).eq h
theorem roundN_none {d : Nat} {t : LT} (h : ∀ N, ¬ RoundIs d t N) : roundN d t = 0 := by
 rw [roundN, dif_neg fun ⟨N, hN⟩ => h N hN]
theorem roundN_is {d : Nat} {t : LT} (h : roundN d t ≠ 0) : RoundIs d t (roundN d t) := by
 by_cases hx : ∃ N, RoundIs d t N
 ·rw [roundN, dif_pos hx]; exact hx.choose_spec
 ·rw [roundN, dif_neg hx] at h; exact absurd rfl h
theorem round_long {d : Nat} {t : LT} {j : Nat} (hl : 5000 < (passesU d t (j + 1)).2.length) (hn : ∀ n, 1 ≤ n → n ≤ j → homeF d t (passesU d t n).1 = false) : roundN d t = 0 := roundN_none fun N ⟨a, b, c, _⟩ => by
 by_cases h : N ≤ j
 ·rw [hn N a.1 h] at c; cases c
 ·have := passesU_mono d t (m := j + 1) (n := N) (by omega)
  omega
noncomputable def roundS (d : Nat) (t : LT) : List (ByteArray × Int) := if roundN d t = 0 then [] else (passesU d t (roundN d t)).2
noncomputable def roundE (d : Nat) (t : LT) : Int := if roundN d t = 0 then 2 else 0
theorem roundS_len (d : Nat) (t : LT) : (roundS d t).length ≤ 5000 := by
 unfold roundS
 split
 ·simp
 ·rename_i h; exact (roundN_is h).2.1
theorem roundS_pos {d : Nat} {t : LT} (hv : VL d t) (h : roundE d t = 0) : 1 ≤ (roundS d t).length := by
 unfold roundE at h
 split at h
 ·cases h
 ·rename_i h0
  rw [roundS, if_neg h0]
  have := (passesU_ok d t hv (roundN d t)).2.2
  have := (roundN_is h0).1.1
  omega
def IL : Nat → LT → Prop
 | 0, _ => True
 | d + 1, .mk kind _ long _ kids _ => (kind = 1 → 1 ≤ long ∧ long ≤ 3600000) ∧ ∀ k ∈ kids, IL d k
theorem IL.dflt : ∀ d, IL d default
 | 0 => trivial
 | d + 1 => show IL (d + 1) (.mk 0 default 0 0 [] []) from ⟨fun h => (by cases h), fun k hk => (by cases hk)⟩
theorem pass_long : ∀ (d : Nat) (t : LT) (s : PS), IL d t → ∀ x ∈ (passU d t s).2, 1 ≤ x.2 ∧ x.2 ≤ 3600000
 | 0, _, _, _ => by simp [passU]
 | d + 1, .mk kind item long many kids shares, .mk p cs ks, hi => by
  rw [passU_succ]
  have hk : ∀ i, IL d (kids.getD i default) := fun i => by
   by_cases h : i < kids.length
   ·exact hi.2 _ (getD_mem' kids i default h)
   ·rw [List.getD_eq_getElem?_getD, List.getElem?_eq_none (by omega)]; exact IL.dflt d
  have key : ∀ (L : List Nat) (a : (List Int × List PS) × List (ByteArray × Int)), (∀ x ∈ a.2, 1 ≤ x.2 ∧ x.2 ≤ 3600000) → ∀ x ∈ (L.foldl (stepU (passU d) kids) a).2, 1 ≤ x.2 ∧ x.2 ≤ 3600000 := fun L => by
   induction L with
   | nil => intro a h; exact h
   | cons i L ih =>
    intro a h
    refine ih _ (fun x hx => ?_)
    rcases List.mem_append.1 hx with h9 | h9
    ·exact h x h9
    ·exact pass_long d _ _ (hk i) x h9
  refine key _ _ ?_
  split
  ·rename_i h1
   intro x hx
   rw [List.mem_singleton.1 hx]
   exact hi.1 h1
  ·simp
theorem passes_long {d : Nat} {t : LT} (h : IL d t) : ∀ n, ∀ x ∈ (passesU d t n).2, 1 ≤ x.2 ∧ x.2 ≤ 3600000
 | 0 => by simp [passesU]
 | n + 1 => fun x hx => by
  rcases List.mem_append.1 hx with h9 | h9
  ·exact passes_long h n x h9
  ·exact pass_long d t _ h x h9
theorem roundS_long {d : Nat} {t : LT} (h : IL d t) : ∀ x ∈ roundS d t, 1 ≤ x.2 ∧ x.2 ≤ 3600000 := by
 unfold roundS
 split
 ·simp
 ·exact passes_long h _
theorem il_of : ∀ (d : Nat) (t : LT), partF t = 0 → IL d t
 | 0, _, _ => trivial
 | d + 1, .mk kind item long many kids shares, hp => by
  rw [partF_eq] at hp
  by_cases h1 : outB kind 1 5
  ·rw [if_pos h1] at hp; omega
  rw [if_neg h1] at hp
  by_cases h2 : formB kind item long many kids.length shares.length
  ·rw [if_pos h2] at hp; omega
  rw [if_neg h2] at hp
  by_cases h3 : (kind == 1 && !keyB item) = true
  ·rw [if_pos h3] at hp; omega
  rw [if_neg h3] at hp
  by_cases h4 : (kind == 1 && outB long 1 3600000) = true
  ·rw [if_pos h4] at hp; omega
  rw [if_neg h4] at hp
  by_cases h5 : (kind == 5 && outB many 1 100) = true
  ·rw [if_pos h5] at hp; omega
  rw [if_neg h5] at hp
  by_cases h6 : shares.any (fun n => outB n 1 1000)
  ·rw [if_pos h6] at hp; omega
  rw [if_neg h6] at hp
  have hnz : ∀ (l : List Int), firstNZ l = 0 → ∀ x ∈ l, x = 0 := fun l => by
   induction l with
   | nil => intro _ x hx; cases hx
   | cons y l ih =>
    intro h x hx
    simp only [firstNZ] at h
    split at h
    ·rename_i h0
     rcases List.mem_cons.1 hx with rfl | hx
     ·exact h0
     ·exact ih h x hx
    ·rename_i h0; exact absurd h h0
  have hk := hnz _ hp
  refine ⟨fun h => ?_, fun k hkm => il_of d k (hk _ (List.mem_map.2 ⟨k, hkm, rfl⟩))⟩
  subst h
  simpa [outB] using h4
def itemsR : List ByteArray := [⟨#[105, 97]⟩, ⟨#[105, 98]⟩, ⟨#[105, 99]⟩, ⟨#[110, 97]⟩]
def RT : Nat → LT → Prop
 | 0, _ => False
 | d + 1, .mk kind item long many kids shares =>
  (kind = 1 ∧ item ∈ itemsR ∧ (1 ≤ long ∧ long ≤ 5000) ∧ many = 0 ∧ kids = [] ∧ shares = []) ∨
  ((2 ≤ kind ∧ kind ≤ 5) ∧ item = default ∧ long = 0 ∧ (kind = 5 → (1 ≤ many ∧ many ≤ 3) ∧ kids.length = 1) ∧ (kind ≠ 5 → many = 0) ∧ (1 ≤ kids.length ∧ kids.length ≤ 3) ∧ (kind = 4 → shares.length = kids.length) ∧ (kind ≠ 4 → shares = []) ∧ (∀ n ∈ shares, 1 ≤ n ∧ n ≤ 4) ∧ ∀ k ∈ kids, RT d k)
theorem RT.mono : ∀ {d e : Nat} {t : LT}, RT d t → d ≤ e → RT e t
 | 0, _, _, h, _ => h.elim
 | d + 1, 0, _, _, h => by omega
 | d + 1, e + 1, .mk .., h, hd => by
  rcases h with h | ⟨h1, h2, h3, h4, h5, h6, h7, h8, h9, h10⟩
  ·exact .inl h
  ·exact .inr ⟨h1, h2, h3, h4, h5, h6, h7, h8, h9, fun k hk => (h10 k hk).mono (by omega)⟩
theorem items_size : ∀ x ∈ itemsR, x.size ≤ 2 ∧ keyB x = true := by decide
theorem firstNZ_none : ∀ (l : List Int), (∀ x ∈ l, x = 0) → firstNZ l = 0
 | [], _ => rfl
 | y :: l, h => by
  simp only [firstNZ]
  rw [if_pos (h y (by simp))]
  exact firstNZ_none l fun x hx => h x (by simp [hx])
theorem RT.part : ∀ {d : Nat} {t : LT}, RT d t → partF t = 0
 | 0, _, h => h.elim
 | d + 1, .mk kind item long many kids shares, h => by
  rw [partF_eq]
  rcases h with ⟨rfl, h2, h3, rfl, rfl, rfl⟩ | ⟨h1, h2, h3, h4, h5, h6, h7, h8, h9, h10⟩
  ·have hk := (items_size _ h2).2
   simp [outB, formB, hk, firstNZ]
   omega
  ·have c1 : outB kind 1 5 = false := by simp [outB]; omega
   have c2 : formB kind item long many kids.length shares.length = false := by
    have e1 : (kind == 1) = false := by simp; omega
    have e2 : (kind == 5 && (kids.length : Int) != 1) = false := by
     by_cases e : kind = 5
     ·have := h4 e; simp; omega
     ·simp [e]
    have e3 : (kind == 4 && (shares.length : Int) != (kids.length : Int)) = false := by
     by_cases e : kind = 4
     ·have := h7 e; simp; omega
     ·simp [e]
    have e4 : (kind != 4 && (shares.length : Int) != 0) = false := by
     by_cases e : kind = 4
     ·simp [e]
     ·have := h8 e; simp [this]
    have e5 : (kind != 5 && many != 0) = false := by
     by_cases e : kind = 5
     ·simp [e]
     ·have := h5 e; simp [this]
    have e6 : ((kids.length : Int) == 0) = false := by simp; intro e; rw [e] at h6; simp at h6
    have e7 : (item != (⟨#[]⟩ : ByteArray)) = false := by rw [h2]; decide
    have e8 : (long != 0) = false := by rw [h3]; rfl
    unfold formB
    rw [e1, e2, e3, e4, e5, e6, e7, e8]
    simp
   have c3 : (kind == 1) = false := by simp; omega
   have c4 : (kind == 5 && outB many 1 100) = false := by
    by_cases e : kind = 5
    ·have := h4 e; simp [outB]; omega
    ·simp [e]
   have c5 : shares.any (fun n => outB n 1 1000) = false := by
    rw [List.any_eq_false]
    intro x hx
    have := h9 x hx
    simp [outB]; omega
   rw [c1, c2, c3, c4, c5]
   simp only [Bool.false_and, Bool.false_eq_true, if_false]
   refine firstNZ_none _ fun x hx => ?_
   obtain ⟨k, hk, rfl⟩ := List.mem_map.1 hx
   exact (h10 k hk).part
def mostR : Nat → Int
 | 0 => 0
 | d + 1 => 3 * mostR d + 1
theorem mostR_nonneg : ∀ d, 0 ≤ mostR d
 | 0 => Int.le_refl _
 | d + 1 => by have := mostR_nonneg d; simp only [mostR]; omega
theorem RT.many : ∀ {d : Nat} {t : LT}, RT d t → 0 ≤ manyF t ∧ manyF t ≤ mostR d ∧ deepF t ≤ d
 | 0, _, h => h.elim
 | d + 1, .mk kind item long many kids shares, h => by
  rw [manyF_eq, deepF_eq]
  have hm := mostR_nonneg d
  have hk : kids.length ≤ 3 ∧ ∀ k ∈ kids, RT d k := by
   rcases h with ⟨h1, h2, h3, h4, rfl, rfl⟩ | ⟨h1, h2, h3, h4, h5, h6, h7, h8, h9, h10⟩
   ·simp
   ·exact ⟨h6.2, h10⟩
  have h1 := sum_bd manyF (mostR d) hm kids fun k hk' => ⟨(hk.2 k hk').many.1, (hk.2 k hk').many.2.1⟩
  have h2 := max_bd deepF d kids 0 (by omega) fun k hk' => (hk.2 k hk').many.2.2
  have h3 : (kids.length : Int) * mostR d ≤ 3 * mostR d := Int.mul_le_mul_of_nonneg_right (by omega) hm
  simp only [mostR]
  refine ⟨by omega, by omega, by omega⟩
theorem RT.fault {t : LT} (h : RT 4 t) : faultF t = 0 := by
 have h1 := h.many
 have e : mostR 4 = 40 := rfl
 unfold faultF
 rw [if_neg (by omega)]
 exact h.part
theorem bestTo_max (f : Nat → Int) : ∀ n j, j < n → f j ≤ f (bestTo f n)
 | 0, j, h => by omega
 | n + 1, j, h => by
  simp only [bestTo]
  by_cases e : j = n
  ·subst e
   split
   ·exact Int.le_refl _
   ·omega
  ·have := bestTo_max f n j (by omega)
   split
   ·omega
   ·exact this
theorem bestTo_cong {f g : Nat → Int} : ∀ n, (∀ j, j < n → f j = g j) → bestTo f n = bestTo g n
 | 0, _ => rfl
 | n + 1, h => by
  have ih := bestTo_cong (f := f) (g := g) n fun j hj => h j (by omega)
  simp only [bestTo, ih]
  cases n with
  | zero => simp [bestTo]
  | succ n =>
   have h1 := bestTo_lt g (n + 1) (by omega)
   rw [h (bestTo g (n + 1)) (by omega), h (n + 1) (by omega)]
def cntS (shares : List Int) : Nat → List Int
 | 0 => shares.map fun _ => 0
 | n + 1 => (cntS shares n).set (nextF shares n (cntS shares n)) ((cntS shares n).getD (nextF shares n (cntS shares n)) 0 + 1)
theorem cntS_len (shares : List Int) : ∀ n, (cntS shares n).length = shares.length
 | 0 => by simp [cntS]
 | n + 1 => by simp [cntS, cntS_len shares n]
theorem sum_set : ∀ (l : List Int) (x : Nat), x < l.length → (l.set x (l.getD x 0 + 1)).sum = l.sum + 1
 | [], x, h => by simp at h
 | y :: l, 0, _ => by simp; omega
 | y :: l, x + 1, h => by
  have := sum_set l x (by simpa using h)
  simp only [List.set_cons_succ, List.sum_cons, List.getD_cons_succ]; omega
theorem getD_setI (l : List Int) (x i : Nat) (v : Int) : (l.set x v).getD i 0 = if i = x ∧ x < l.length then v else l.getD i 0 := by
 rw [List.getD_eq_getElem?_getD, List.getD_eq_getElem?_getD, List.getElem?_set]
 by_cases e : x = i
 ·subst e
  by_cases h : x < l.length
  ·simp [h]
  ·simp [h]
 ·rw [if_neg e, if_neg (fun h => e h.1.symm)]
theorem sum_le (m S : Int) : ∀ (a b : List Int), a.length = b.length → (∀ i, i < a.length → b.getD i 0 * S ≤ a.getD i 0 * m) → b.sum * S ≤ a.sum * m
 | [], [], _, _ => by simp
 | x :: a, y :: b, hl, h => by
  have h0 := h 0 (by simp)
  have ih := sum_le m S a b (by simpa using hl) fun i hi => by simpa using h (i + 1) (by simpa using hi)
  simp only [List.getD_cons_zero] at h0
  simp only [List.sum_cons, Int.add_mul]; omega
theorem sum_ge (m S : Int) (a b : List Int) (hl : a.length = b.length) (h : ∀ i, i < a.length → a.getD i 0 * m ≤ b.getD i 0 * S) : a.sum * m ≤ b.sum * S :=
 sum_le S m b a hl.symm fun i hi => h i (by omega)
theorem sum_same (m S : Int) : ∀ (a b : List Int), a.length = b.length → (∀ i, i < a.length → b.getD i 0 * S ≤ a.getD i 0 * m) → b.sum * S = a.sum * m → ∀ i, i < a.length → b.getD i 0 * S = a.getD i 0 * m
 | [], _, _, _, _, i, hi => by simp at hi
 | x :: a, y :: b, hl, h, hs, i, hi => by
  have h0 := h 0 (by simp)
  have hr := fun i (hi : i < a.length) => by simpa using h (i + 1) (by simpa using hi)
  have ih := sum_le m S a b (by simpa using hl) hr
  simp only [List.getD_cons_zero] at h0
  simp only [List.sum_cons, Int.add_mul] at hs
  cases i with
  | zero => simp only [List.getD_cons_zero]; omega
  | succ i =>
   simp only [List.getD_cons_succ]
   exact sum_same m S a b (by simpa using hl) hr (by omega) i (by simpa using hi)
structure Fair (shares : List Int) (n : Nat) : Prop where
 tot : (cntS shares n).sum = n
 ahead : ∀ i, i < shares.length → (cntS shares n).getD i 0 * shares.sum - shares.getD i 0 * n < shares.sum
theorem sum_pos {l : List Int} (h : ∀ x ∈ l, 1 ≤ x) (hn : l ≠ []) : 1 ≤ l.sum := by
 cases l with
 | nil => exact absurd rfl hn
 | cons x l =>
  have h1 := h x (by simp)
  have : ∀ l : List Int, (∀ x ∈ l, 1 ≤ x) → 0 ≤ l.sum := fun l => by
   induction l with
   | nil => simp
   | cons x l ih =>
    intro h
    have := h x (by simp); have := ih fun y hy => h y (by simp [hy])
    simp only [List.sum_cons]; omega
  have := this l fun y hy => h y (by simp [hy])
  simp only [List.sum_cons]; omega
theorem zero_sum (l : List Int) : (l.map fun _ => (0 : Int)).sum = 0 := by
 induction l with
 | nil => rfl
 | cons x l ih => simp only [List.map_cons, List.sum_cons, ih]; rfl
theorem zero_getD (l : List Int) (i : Nat) : (l.map fun _ => (0 : Int)).getD i 0 = 0 := by
 rw [List.getD_eq_getElem?_getD, List.getElem?_map]
 cases l[i]? <;> rfl
theorem fair {shares : List Int} (h : ∀ x ∈ shares, 1 ≤ x) (hn : shares ≠ []) : ∀ n, Fair shares n
 | 0 => ⟨by simp only [cntS, zero_sum]; rfl, fun i hi => by
   have := sum_pos h hn
   simp only [cntS, zero_getD]; omega⟩
 | n + 1 => by
  obtain ⟨h1, h2⟩ := fair h hn n
  have hS := sum_pos h hn
  have hl := cntS_len shares n
  have h0 : 0 < shares.length := List.length_pos_iff.2 hn
  have hx : nextF shares n (cntS shares n) < shares.length := bestTo_lt _ _ h0
  have hm := fun j hj => bestTo_max (shareV shares n (cntS shares n)) shares.length j hj
  have hpos : 0 < shareV shares n (cntS shares n) (nextF shares n (cntS shares n)) := by
   rcases Int.lt_or_le 0 (shareV shares n (cntS shares n) (nextF shares n (cntS shares n))) with h3 | h3
   ·exact h3
   ·exfalso
    have := sum_ge ((n : Int) + 1) shares.sum shares (cntS shares n) hl.symm fun i hi => by
     have := hm i hi
     have h4 : shareV shares n (cntS shares n) i ≤ 0 := Int.le_trans this h3
     simp only [shareV] at h4; omega
    rw [h1, Int.mul_add] at this
    have e : shares.sum * (n : Int) = (n : Int) * shares.sum := Int.mul_comm _ _
    omega
  refine ⟨?_, fun i hi => ?_⟩
  ·simp only [cntS]
   rw [sum_set _ _ (by omega), h1]; omega
  ·simp only [cntS]
   rw [getD_setI]
   have h3 := h2 i hi
   have e1 : shares.getD i 0 * ((n + 1 : Nat) : Int) = shares.getD i 0 * n + shares.getD i 0 := by rw [Int.natCast_add, Int.mul_add]; simp
   have h4 := h _ (getD_mem' shares i 0 hi)
   rw [e1]
   split
   ·rename_i hc
    obtain ⟨hc, _⟩ := hc
    rw [← hc] at hpos ⊢
    simp only [shareV] at hpos
    rw [Int.mul_add, Int.mul_one] at hpos
    rw [Int.add_mul, Int.one_mul]
    omega
   ·omega
theorem fair_exact {shares : List Int} (h : ∀ x ∈ shares, 1 ≤ x) (hn : shares ≠ []) {n : Nat} (hd : ∀ i, i < shares.length → shares.sum ∣ shares.getD i 0 * n) : ∀ i, i < shares.length → (cntS shares n).getD i 0 * shares.sum = shares.getD i 0 * n := by
 obtain ⟨h1, h2⟩ := fair h hn n
 have hS := sum_pos h hn
 refine sum_same n shares.sum shares (cntS shares n) (cntS_len shares n).symm (fun i hi => ?_) ?_
 ·obtain ⟨q, hq⟩ := hd i hi
  have h3 := h2 i hi
  rw [hq] at h3 ⊢
  have e : (cntS shares n).getD i 0 * shares.sum - shares.sum * q = ((cntS shares n).getD i 0 - q) * shares.sum := by rw [Int.sub_mul, Int.mul_comm q]
  rw [e] at h3
  have : (cntS shares n).getD i 0 - q < 1 := by
   rcases Int.lt_or_le ((cntS shares n).getD i 0 - q) 1 with h5 | h5
   ·exact h5
   ·have := Int.mul_le_mul_of_nonneg_right h5 (show 0 ≤ shares.sum by omega)
    omega
  have h6 : (cntS shares n).getD i 0 ≤ q := by omega
  have := Int.mul_le_mul_of_nonneg_right h6 (show 0 ≤ shares.sum by omega)
  rw [Int.mul_comm shares.sum q]; exact this
 ·rw [h1, Int.mul_comm]
theorem every4 {shares : List Int} (h : ∀ x ∈ shares, 1 ≤ x) (hn : shares ≠ []) : ∃ (g E : Nat), 0 < g ∧ 0 < E ∧ shares.sum / (gcdI shares : Int) = E ∧ shares.sum = g * E ∧ ∀ i, i < shares.length → ∃ q : Int, shares.getD i 0 = g * q := by
 have hg := gcdI_pos h hn
 have hd : ∀ l : List Int, (∀ x ∈ l, (gcdI shares : Int) ∣ x) → (gcdI shares : Int) ∣ l.sum := fun l => by
  induction l with
  | nil => intro _; exact ⟨0, by simp⟩
  | cons x l ih =>
   intro hl
   rw [List.sum_cons]
   exact Int.dvd_add (hl x (by simp)) (ih fun y hy => hl y (by simp [hy]))
 obtain ⟨q, hq⟩ := hd shares fun x hx => gcdI_dvd h hx
 have hS := sum_pos h hn
 have hq0 : 0 < q := by
  rcases Int.lt_or_le 0 q with h1 | h1
  ·exact h1
  ·have := Int.mul_le_mul_of_nonneg_left h1 (show (0 : Int) ≤ gcdI shares by omega)
   omega
 refine ⟨gcdI shares, q.toNat, hg, by omega, ?_, by rw [hq]; congr 1; omega, fun i hi => ?_⟩
 ·rw [hq, Int.mul_ediv_cancel_left _ (by omega)]; omega
 ·obtain ⟨r, hr⟩ := gcdI_dvd h (getD_mem' shares i 0 hi)
  exact ⟨r, hr⟩
theorem cntS_round {shares : List Int} (h : ∀ x ∈ shares, 1 ≤ x) (hn : shares ≠ []) {g E : Nat} (hg : 0 < g) (hE : shares.sum = g * E) (hq : ∀ i, i < shares.length → ∃ q : Int, shares.getD i 0 = g * q) :
  ∀ n i, i < shares.length → (cntS shares (n + E)).getD i 0 * g = (cntS shares n).getD i 0 * g + shares.getD i 0
 | 0, i, hi => by
  have h1 := fair_exact h hn (n := E) (fun j hj => by
   obtain ⟨q, e⟩ := hq j hj
   exact ⟨q, by rw [e, hE, Int.mul_assoc, Int.mul_assoc, Int.mul_comm q]⟩) i hi
  have hS := sum_pos h hn
  have hE0 : (E : Int) ≠ 0 := by
   intro e; rw [e, Int.mul_zero] at hE; omega
  rw [hE, ← Int.mul_assoc] at h1
  have h2 := Int.eq_of_mul_eq_mul_right hE0 h1
  rw [Nat.zero_add, h2]
  simp only [cntS, zero_getD]
  omega
 | n + 1, i, hi => by
  have ih := cntS_round h hn hg hE hq n
  have hS := sum_pos h hn
  have e : nextF shares ((n + E : Nat) : Int) (cntS shares (n + E)) = nextF shares (n : Nat) (cntS shares n) := by
   refine bestTo_cong _ fun j hj => ?_
   have h1 := ih j hj
   obtain ⟨q, hq⟩ := hq j hj
   have hg0 : (g : Int) ≠ 0 := by omega
   have h2 : (cntS shares (n + E)).getD j 0 = (cntS shares n).getD j 0 + q := by
    apply Int.eq_of_mul_eq_mul_right hg0
    rw [h1, hq, Int.add_mul, Int.mul_comm (g : Int) q]
   simp only [shareV]
   rw [h2, hq, hE, Int.add_mul, Int.natCast_add]
   simp only [Int.mul_add, Int.mul_one]
   have e1 : (g : Int) * q * (E : Int) = q * ((g : Int) * E) := by rw [Int.mul_comm (g : Int) q, Int.mul_assoc]
   omega
  rw [show n + 1 + E = (n + E) + 1 by omega]
  have hl := cntS_len shares n
  have hl2 := cntS_len shares (n + E)
  have h0 : 0 < shares.length := by omega
  have hx : nextF shares n (cntS shares n) < shares.length := bestTo_lt _ _ h0
  simp only [cntS]
  rw [e, getD_setI, getD_setI]
  have h1 := ih i hi
  by_cases hc : i = nextF shares n (cntS shares n)
  ·rw [if_pos ⟨hc, by omega⟩, if_pos ⟨hc, by omega⟩, ← hc, Int.add_mul, Int.add_mul]; omega
  ·rw [if_neg (fun h => hc h.1), if_neg (fun h => hc h.1)]; exact h1
abbrev zP1BE : List Nat := [0, 1, 2, 3]
abbrev zP1BP : List (Nat × List Nat × List Nat) := [(4, [], []), (5, [], [])]
attribute [go_sem] zP1BE zP1BP
theorem g_gcdP (a b : Nat) (h : Hp) (ha : a ≤ 1000000000000) (hb : b ≤ 1000000000000) : ACalls Tryz.prog 146 [.v (.int .i64 a), .v (.int .i64 b)] h (fun r h' => r = .v (.int .i64 (Nat.gcd a b : Nat)) ∧ h' = h) := by
 refine gE Tryz.func146 rfl (by kernel_rfl) 13 rfl fun c => ?_
 (repeat (first | refine gO rfl ?_ | ((first | refine gR ?_ | (with_reducible refine wM ?_ ?_) | ((with_reducible refine xR ?_); refine uE 2 zM31 zP1BE zP1BP 15 rfl (by kernel_rfl) ?_)) <;> ((try with_reducible intro K1 hK1); simp only [go_sem, ↓reduceIte, reduceCtorEq, nA, nB, nC, nD, nE, nF] <;> and_intros <;> first | (apply hK1; clear hK1 K1) | (intros; first | omega | decide | (simp_all <;> omega)) | skip))))
 refine awp_loopC (rl false [0, 2, 13]) 0 (fun g s => ∃ x : Nat, Nat.gcd x g = Nat.gcd a b ∧ x ≤ 1000000000000 ∧ g ≤ 1000000000000 ∧ s = ⟨((.v (.int .i64 x)) :: (.v (.int .i64 g)) :: (jnk 13 [])), [], h⟩) b ⟨a, rfl, ha, hb, rfl⟩ ?_
 rintro g _ ⟨x, hx, hx1, hg1, rfl⟩
 (repeat (first | refine gO rfl ?_ | ((first | refine gR ?_ | (with_reducible refine wM ?_ ?_) | ((with_reducible refine xR ?_); refine uE 2 zM31 zP1BE zP1BP 15 rfl (by kernel_rfl) ?_)) <;> ((try with_reducible intro K1 hK1); simp only [go_sem, ↓reduceIte, reduceCtorEq, nA, nB, nC, nD, nE, nF] <;> and_intros <;> first | (apply hK1; clear hK1 K1) | (intros; first | omega | decide | (simp_all <;> omega)) | skip))))
 refine awp_cond (t := _) rfl (fun h1 => ?_) (fun h1 => ?_)
 ·have hg : g ≠ 0 := by simpa using h1
  have hm : (x : Int).tmod (g : Int) = ((x % g : Nat) : Int) := rfl
  have hlt := Nat.mod_lt x (show 0 < g by omega)
  (repeat (first | refine gO rfl ?_ | ((first | refine gR ?_ | (with_reducible refine wM ?_ ?_) | ((with_reducible refine xR ?_); refine uE 2 zM31 zP1BE zP1BP 15 rfl (by kernel_rfl) ?_)) <;> ((try with_reducible intro K1 hK1); simp only [go_sem, ↓reduceIte, reduceCtorEq, nA, nB, nC, nD, nE, nF, hm] <;> and_intros <;> first | (apply hK1; clear hK1 K1) | (intros; first | omega | decide | (simp_all <;> omega)) | skip))))
  exact ⟨x % g, hlt, g, by rw [← hx, Nat.gcd_comm x g, Nat.gcd_rec g x, Nat.gcd_comm], hg1, by omega, rfl⟩
 ·have hg : g = 0 := by simpa using h1
  subst hg
  rw [Nat.gcd_zero_right] at hx
  have hmx : max (x : Int) (-(x : Int)) = x := by omega
  (repeat (first | refine gO rfl ?_ | ((first | refine gR ?_ | (with_reducible refine wM ?_ ?_) | ((with_reducible refine xR ?_); refine uE 2 zM31 zP1BE zP1BP 15 rfl (by kernel_rfl) ?_)) <;> ((try with_reducible intro K1 hK1); simp only [go_sem, ↓reduceIte, reduceCtorEq, nA, nB, nC, nD, nE, nF, hmx] <;> and_intros <;> first | (apply hK1; clear hK1 K1) | (intros; first | omega | decide | (simp_all <;> omega)) | skip))))
  simp only [Tryz.results146, go_sem, ↓reduceIte, reduceCtorEq, nA, nB, nC, nD, nE, nF]
  exact ⟨_, _, Weak.refl _, Hp.le.refl _, by rw [← hx], rfl⟩
def gcdTo (l : List Int) (j : Nat) : Nat := ((l.take j).map Int.toNat).foldl Nat.gcd 0
theorem gcdTo_succ (l : List Int) (j : Nat) (h : j < l.length) : gcdTo l (j + 1) = Nat.gcd (gcdTo l j) (l.getD j 0).toNat := by
 rw [gcdTo, List.take_add_one, List.getElem?_eq_getElem h, List.map_append, List.foldl_append, List.getD_eq_getElem?_getD, List.getElem?_eq_getElem h]; rfl
theorem gcdTo_all (l : List Int) : gcdTo l l.length = gcdI l := by
 rw [gcdTo, List.take_length, foldl_gcd, Nat.gcd_zero_left]; rfl
theorem gcdTo_le (l : List Int) (h : ∀ x ∈ l, 1 ≤ x ∧ x ≤ 1000) : ∀ j, j ≤ l.length → gcdTo l j ≤ 1000
 | 0, _ => by simp [gcdTo]
 | j + 1, hj => by
  have hm : l.getD j 0 ∈ l := by rw [List.getD_eq_getElem?_getD, List.getElem?_eq_getElem (by omega)]; exact List.getElem_mem _
  have := h _ hm
  rw [gcdTo_succ l j (by omega)]
  exact Nat.le_trans (Nat.gcd_le_right _ (by omega)) (by omega)
theorem g_divisorP (l : List Int) (h : Hp) (hl : l.length ≤ 1000) (hs : ∀ x ∈ l, 1 ≤ x ∧ x ≤ 1000) : ACalls Tryz.prog 200 [.row 1 (l.map encI) none] h (fun r h' => r = .v (.int .i64 (gcdI l : Nat)) ∧ h' = h) := by
 refine gE Tryz.func200 rfl (by kernel_rfl) 16 rfl fun c => ?_
 (repeat (first | refine gO rfl ?_ | (refine gR fun K1 hK1 => ?_; simp only [go_sem, ↓reduceIte, reduceCtorEq, nA, nB, nC, nD, nE, nF] <;> and_intros <;> first | (apply hK1; clear hK1 K1) | (intros; first | omega | decide | (simp_all <;> omega)) | skip)))
 refine awp_loopC (rl false [3, 1, 2, 3, 8]) 0 (fun g s => ∃ j : Nat, g + j = l.length ∧ s = ⟨((jnk 3 ((.v (.int .i64 (gcdTo l j : Nat))) :: AV.junk :: AV.junk :: ((.row 1 (l.map encI) none) :: (.v (.int .i64 l.length)) :: (.v (.int .i64 j)) :: (jnk 8 []))))), [], h⟩) l.length ⟨0, by omega, rfl⟩ ?_
 rintro g _ ⟨j, hj, rfl⟩
 (repeat (first | refine gO rfl ?_ | (refine gR fun K1 hK1 => ?_; simp only [go_sem, ↓reduceIte, reduceCtorEq, nA, nB, nC, nD, nE, nF] <;> and_intros <;> first | (apply hK1; clear hK1 K1) | (intros; first | omega | decide | (simp_all <;> omega)) | skip)))
 refine awp_cond (t := _) rfl (fun h1 => ?_) (fun h1 => ?_)
 ·simp only [decide_eq_true_eq] at h1
  have hjl : j < l.length := by omega
  have gx : (l.map encI).getD j [] = encI (l.getD j 0) := getD_enc encI l j 0 hjl
  have hb := hs _ (getD_mem' l j 0 hjl)
  have e1 := gcdTo_succ l j hjl
  have hl1 := gcdTo_le l hs j (by omega)
  generalize l.getD j 0 = x at gx hb e1
  obtain ⟨y, rfl⟩ : ∃ y : Nat, x = y := ⟨x.toNat, by omega⟩
  rw [Int.toNat_natCast] at e1
  (repeat (first | refine gO rfl ?_ | (refine gR fun K1 hK1 => ?_; simp only [go_sem, ↓reduceIte, reduceCtorEq, nA, nB, nC, nD, nE, nF, Int.toNat_natCast, gx, encI] <;> and_intros <;> first | (apply hK1; clear hK1 K1) | (intros; first | omega | decide | (simp_all <;> omega)) | skip)))
  refine (g_gcdP (gcdTo l j) y h (by omega) (by omega)).mono ?_; rintro _ hz ⟨rfl, hh⟩; apply hK1; clear hK1 K1; rw [hh]; clear hh hz
  (repeat (first | refine gO rfl ?_ | (refine gR fun K1 hK1 => ?_; simp only [go_sem, ↓reduceIte, reduceCtorEq, nA, nB, nC, nD, nE, nF] <;> and_intros <;> first | (apply hK1; clear hK1 K1) | (intros; first | omega | decide | (simp_all <;> omega)) | skip)))
  exact ⟨g - 1, by omega, j + 1, by omega, by rw [e1]; rfl⟩
 ·simp only [decide_eq_false_iff_not] at h1
  have hjl : j = l.length := by omega
  subst hjl
  rw [gcdTo_all]
  (repeat (first | refine gO rfl ?_ | (refine gR fun K1 hK1 => ?_; simp only [go_sem, ↓reduceIte, reduceCtorEq, nA, nB, nC, nD, nE, nF] <;> and_intros <;> first | (apply hK1; clear hK1 K1) | (intros; first | omega | decide | (simp_all <;> omega)) | skip)))
  simp only [Tryz.results200, go_sem, ↓reduceIte, reduceCtorEq, nA, nB, nC, nD, nE, nF]
  exact ⟨_, _, Weak.refl _, Hp.le.refl _, rfl, rfl⟩
abbrev zP1CE : List Nat := [0, 1, 2, 3, 4, 5, 6, 7, 8]
abbrev zP1CP : List (Nat × List Nat × List Nat) := [(9, [3], [10, 11])]
attribute [go_sem] zP1CE zP1CP
theorem g_ixP (fid : Nat) (xs : List AT) (K : AV) (hK : kidsC xs K) (hl : xs.length ≤ 100000) (I P : Nat → Hp → Prop) (h : Hp) (h0 : I 0 h)
  (step : ∀ j h, j < xs.length → I j h → ACalls Tryz.prog fid [.ptr (xs.getD j default).id 0] h (fun r h' => ∃ b, r = .v (.bool b) ∧ (b = true → P j h') ∧ (b = false → I (j + 1) h'))) :
  ACalls Tryz.prog 256 [K, .fn fid []] h (fun r h' => (∃ j : Nat, j < xs.length ∧ r = .v (.int .i64 j) ∧ P j h') ∨ r = .v (.int .i64 (-1)) ∧ I xs.length h') := by
 rcases hK with ⟨rfl, rfl⟩ | ⟨tk, rfl⟩
 ·refine gE Tryz.func256 rfl (by kernel_rfl) 17 rfl fun c => ?_
  (repeat (first | refine gO rfl ?_ | (refine gR fun K1 hK1 => ?_; simp only [go_sem, ↓reduceIte, reduceCtorEq, nA, nB, nC, nD, nE, nF] <;> and_intros <;> first | (apply hK1; clear hK1 K1) | (intros; first | omega | decide | (simp_all <;> omega)) | skip)))
  refine awp_loopC (rl false [7, 2, 10]) 0 (fun g s => s = ⟨((jnk 7 ((.v (.int .i64 0)) :: (.v (.int .i64 0)) :: (jnk 10 [])))), [], h⟩) 0 rfl ?_
  rintro g _ rfl
  (repeat (first | refine gO rfl ?_ | (refine gR fun K1 hK1 => ?_; simp only [go_sem, ↓reduceIte, reduceCtorEq, nA, nB, nC, nD, nE, nF] <;> and_intros <;> first | (apply hK1; clear hK1 K1) | (intros; first | omega | decide | (simp_all <;> omega)) | skip)))
  refine awp_cond (t := _) rfl (fun h1 => by cases h1) (fun h1 => ?_)
  (repeat (first | refine gO rfl ?_ | (refine gR fun K1 hK1 => ?_; simp only [go_sem, ↓reduceIte, reduceCtorEq, nA, nB, nC, nD, nE, nF] <;> and_intros <;> first | (apply hK1; clear hK1 K1) | (intros; first | omega | decide | (simp_all <;> omega)) | skip)))
  simp only [Tryz.results256, go_sem, ↓reduceIte, reduceCtorEq, nA, nB, nC, nD, nE, nF]
  exact ⟨_, _, Weak.refl _, Hp.le.refl _, .inr ⟨rfl, h0⟩⟩
 ·refine gE Tryz.func256 rfl (by kernel_rfl) 17 rfl fun c => ?_
  (repeat (first | refine gO rfl ?_ | (refine gR fun K1 hK1 => ?_; simp only [go_sem, ↓reduceIte, reduceCtorEq, nA, nB, nC, nD, nE, nF] <;> and_intros <;> first | (apply hK1; clear hK1 K1) | (intros; first | omega | decide | (simp_all <;> omega)) | skip)))
  refine awp_loopC (rl false [0, 2, 5, 2, 10]) 0 (fun g s => ∃ (j : Nat) (h' : Hp), g + j = xs.length ∧ I j h' ∧ s = ⟨((.row 1 (xs.map fun a => [.ptr a.id 0]) tk) :: (.fn fid []) :: (jnk 5 ((.v (.int .i64 xs.length)) :: (.v (.int .i64 j)) :: (jnk 10 [])))), [], h'⟩) xs.length ⟨0, h, by omega, h0, rfl⟩ ?_
  rintro g _ ⟨j, h', hj, hI, rfl⟩
  (repeat (first | refine gO rfl ?_ | (refine gR fun K1 hK1 => ?_; simp only [go_sem, ↓reduceIte, reduceCtorEq, nA, nB, nC, nD, nE, nF] <;> and_intros <;> first | (apply hK1; clear hK1 K1) | (intros; first | omega | decide | (simp_all <;> omega)) | skip)))
  refine awp_cond (t := _) rfl (fun h1 => ?_) (fun h1 => ?_)
  ·simp only [decide_eq_true_eq] at h1
   have hjk : j < xs.length := by omega
   have hg : (xs.map fun a : AT => [AV.ptr a.id 0]).getD j [] = [.ptr (xs.getD j default).id 0] := getD_enc (fun a : AT => [AV.ptr a.id 0]) xs j default hjk
   have st := step j h' hjk hI
   (repeat (first | refine gO rfl ?_ | (refine gR fun K1 hK1 => ?_; simp only [go_sem, ↓reduceIte, reduceCtorEq, nA, nB, nC, nD, nE, nF, Int.toNat_natCast, hg] <;> and_intros <;> first | (apply hK1; clear hK1 K1) | (intros; first | omega | decide | (simp_all <;> omega)) | skip)))
   refine st.mono ?_; rintro _ _ ⟨b, rfl, hb1, hb2⟩; apply hK1; clear hK1 K1
   (repeat (first | refine gO rfl ?_ | (refine gR fun K1 hK1 => ?_; simp only [go_sem, ↓reduceIte, reduceCtorEq, nA, nB, nC, nD, nE, nF] <;> and_intros <;> first | (apply hK1; clear hK1 K1) | (intros; first | omega | decide | (simp_all <;> omega)) | skip)))
   refine awp_cond (t := _) rfl (fun h2 => ?_) (fun h2 => ?_)
   ·(repeat (first | refine gO rfl ?_ | (refine gR fun K1 hK1 => ?_; simp only [go_sem, ↓reduceIte, reduceCtorEq, nA, nB, nC, nD, nE, nF] <;> and_intros <;> first | (apply hK1; clear hK1 K1) | (intros; first | omega | decide | (simp_all <;> omega)) | skip)))
    simp only [Tryz.results256, go_sem, ↓reduceIte, reduceCtorEq, nA, nB, nC, nD, nE, nF]
    exact ⟨_, _, Weak.refl _, Hp.le.refl _, .inl ⟨j, hjk, rfl, hb1 h2⟩⟩
   ·(repeat (first | refine gO rfl ?_ | (refine gR fun K1 hK1 => ?_; simp only [go_sem, ↓reduceIte, reduceCtorEq, nA, nB, nC, nD, nE, nF] <;> and_intros <;> first | (apply hK1; clear hK1 K1) | (intros; first | omega | decide | (simp_all <;> omega)) | skip)))
    exact ⟨g - 1, by omega, j + 1, _, by omega, hb2 h2, rfl⟩
  ·simp only [decide_eq_false_iff_not] at h1
   have hjk : j = xs.length := by omega
   subst hjk
   (repeat (first | refine gO rfl ?_ | (refine gR fun K1 hK1 => ?_; simp only [go_sem, ↓reduceIte, reduceCtorEq, nA, nB, nC, nD, nE, nF] <;> and_intros <;> first | (apply hK1; clear hK1 K1) | (intros; first | omega | decide | (simp_all <;> omega)) | skip)))
   simp only [Tryz.results256, go_sem, ↓reduceIte, reduceCtorEq, nA, nB, nC, nD, nE, nF]
   exact ⟨_, _, Weak.refl _, Hp.le.refl _, .inr ⟨rfl, hI⟩⟩
theorem g_coP (fid : Nat) (xs : List AT) (K : AV) (hK : kidsC xs K) (hl : xs.length ≤ 100000) (q : Nat → Bool) (h : Hp)
  (step : ∀ j, j < xs.length → ACalls Tryz.prog fid [.ptr (xs.getD j default).id 0] h (fun r h' => r = .v (.bool (!q j)) ∧ h' = h)) :
  ACalls Tryz.prog 201 [K, .fn fid []] h (fun r h' => r = .v (.bool (!(List.range xs.length).all q)) ∧ h' = h) := by
 have hi := g_ixP fid xs K hK hl (fun j h' => h' = h ∧ ∀ l, l < j → q l = true) (fun j h' => h' = h ∧ q j = false) h ⟨rfl, fun l hl => by omega⟩ (fun j h' hj ⟨e, hI⟩ => by
  rw [e]
  refine (step j hj).mono ?_
  rintro _ h2 ⟨rfl, e2⟩
  refine ⟨_, rfl, fun hb => ⟨e2, by simpa using hb⟩, fun hb => ⟨e2, fun l hl => ?_⟩⟩
  by_cases hlj : l = j
  ·rw [hlj]; simpa using hb
  ·exact hI l (by omega))
 have o3 : OneV K := by rcases hK with ⟨_, rfl⟩ | ⟨tk, rfl⟩ <;> exact ⟨rfl, rfl, rfl, rfl, rfl⟩
 obtain ⟨w1, w2, w3, w4, w5⟩ := o3
 unfold uside at w1; unfold unw at w2; unfold AV.noLoc at w3; unfold isOpt at w4; simp only [AV.cellsB, Value.oneCell'] at w5
 refine gE Tryz.func201 rfl (by kernel_rfl) 7 rfl fun c => ?_
 (repeat (first | refine gO rfl ?_ | (refine gR fun K1 hK1 => ?_; simp only [go_sem, ↓reduceIte, reduceCtorEq, nA, nB, nC, nD, nE, nF, w1, w2, w3, w4, w5] <;> and_intros <;> first | (apply hK1; clear hK1 K1) | (intros; first | omega | decide | (simp_all <;> omega)) | skip)))
 refine hi.mono ?_
 rintro _ h' (⟨j, hj, rfl, rfl, hp⟩ | ⟨rfl, rfl, hi9⟩)
 ·refine hK1 _ ?_; clear hK1 K1
  have e9 : (List.range xs.length).all q = false := by
   rw [List.all_eq_false]
   exact ⟨j, by simpa using hj, by rw [hp]; simp⟩
  (repeat (first | refine gO rfl ?_ | (refine gR fun K1 hK1 => ?_; simp only [go_sem, ↓reduceIte, reduceCtorEq, nA, nB, nC, nD, nE, nF] <;> and_intros <;> first | (apply hK1; clear hK1 K1) | (intros; first | omega | decide | (simp_all <;> omega)) | skip)))
  simp only [Tryz.results201, go_sem, ↓reduceIte, reduceCtorEq, nA, nB, nC, nD, nE, nF]
  exact ⟨_, _, Weak.refl _, Hp.le.refl _, by rw [e9]; simp, rfl⟩
 ·refine hK1 _ ?_; clear hK1 K1
  have e9 : (List.range xs.length).all q = true := by
   rw [List.all_eq_true]
   exact fun l hl => hi9 l (by simpa using hl)
  (repeat (first | refine gO rfl ?_ | (refine gR fun K1 hK1 => ?_; simp only [go_sem, ↓reduceIte, reduceCtorEq, nA, nB, nC, nD, nE, nF] <;> and_intros <;> first | (apply hK1; clear hK1 K1) | (intros; first | omega | decide | (simp_all <;> omega)) | skip)))
  simp only [Tryz.results201, go_sem, ↓reduceIte, reduceCtorEq, nA, nB, nC, nD, nE, nF]
  exact ⟨_, _, Weak.refl _, Hp.le.refl _, by rw [e9]; simp, rfl⟩
theorem homeF_eq (d : Nat) (kind : Int) (item : ByteArray) (long many : Int) (kids : List LT) (shares : List Int) (p : Int) (cs : List Int) (ks : List PS) :
  homeF (d + 1) (.mk kind item long many kids shares) (.mk p cs ks) = ((p.tmod (everyF kind kids.length shares) == 0) && (List.range kids.length).all fun j => homeF d (kids.getD j default) (ks.getD j default)) := rfl
theorem sum_bdI {l : List Int} (h : ∀ x ∈ l, 1 ≤ x ∧ x ≤ 1000) (hl : l.length ≤ 1000) : 0 ≤ l.sum ∧ l.sum ≤ 1000000 := by
 have key : ∀ l : List Int, (∀ x ∈ l, 1 ≤ x ∧ x ≤ 1000) → 0 ≤ l.sum ∧ l.sum ≤ l.length * 1000 := fun l => by
  induction l with
  | nil => simp
  | cons y l ih => intro h; have := h y (by simp); have := ih fun z hz => h z (by simp [hz]); simp only [List.sum_cons, List.length_cons]; omega
 have := key l h
 omega
theorem g_beginsG : ∀ (d : Nat) (t : LT) (a : AT) (s : PS) (h : Hp), VL d t → RAt XP h d t a s → PSB d t s 100000 → ACalls Tryz.prog 142 [.ptr a.id 0] h (fun r h' => r = .v (.bool (homeF d t s)) ∧ h' = h)
 | 0, _, _, _, _, hv, _, _ => hv.elim
 | d + 1, .mk kind item long many kids shares, .mk i c0 az, .mk p cs ks, h0, hv, hR, hB => by
  obtain ⟨v1, v2, v3, v4, v5, v6, v7, v8⟩ := id hv
  obtain ⟨⟨K, hH, hK⟩, hT, ⟨l1, l2, l3, l4⟩, hkids⟩ := id hR
  obtain ⟨c1, c2, c3⟩ := id hB
  have hH0 : h0.H i = some (.cells [.v (.int .i64 kind), .v (.string item), .v (.int .i64 long), .v (.int .i64 many), .row 6 (kids.map encL) none, .row 1 (shares.map encI) none, K, .v (.int .i64 p), .arr 1 c0 kids.length, .v (.int .i64 shares.sum)]) := hH
  have o3 : OneV K := by rcases hK with ⟨_, rfl⟩ | ⟨tk, rfl⟩ <;> exact ⟨rfl, rfl, rfl, rfl, rfl⟩
  obtain ⟨w1, w2, w3, w4, w5⟩ := o3
  unfold uside at w1; unfold unw at w2; unfold AV.noLoc at w3; unfold isOpt at w4; simp only [AV.cellsB, Value.oneCell'] at w5
  have hclo : ∀ j, j < az.length → ACalls Tryz.prog 202 [.ptr (az.getD j default).id 0] h0 (fun r h' => r = .v (.bool (!homeF d (kids.getD j default) (ks.getD j default))) ∧ h' = h0) := fun j hj => by
   have g1 := g_beginsG d _ _ _ h0 (v8 _ (getD_mem' kids j default (by omega))) (hkids j (by omega)) (c3 j (by omega))
   refine gE Tryz.func202 rfl (by kernel_rfl) 5 rfl fun c => ?_
   (repeat (first | refine gO rfl ?_ | (refine gR fun K1 hK1 => ?_; simp only [go_sem, ↓reduceIte, reduceCtorEq, nA, nB, nC, nD, nE, nF] <;> and_intros <;> first | (apply hK1; clear hK1 K1) | (intros; first | omega | decide | (simp_all <;> omega)) | skip)))
   refine g1.mono ?_; rintro _ hz ⟨rfl, hh⟩; apply hK1; clear hK1 K1; rw [hh]; clear hh hz
   (repeat (first | refine gO rfl ?_ | (refine gR fun K1 hK1 => ?_; simp only [go_sem, ↓reduceIte, reduceCtorEq, nA, nB, nC, nD, nE, nF] <;> and_intros <;> first | (apply hK1; clear hK1 K1) | (intros; first | omega | decide | (simp_all <;> omega)) | skip)))
   simp only [Tryz.results202, go_sem, ↓reduceIte, reduceCtorEq, nA, nB, nC, nD, nE, nF]
   exact ⟨_, _, Weak.refl _, Hp.le.refl _, rfl, rfl⟩
  have hcon := g_coP 202 az K hK (by omega) (fun j => homeF d (kids.getD j default) (ks.getD j default)) h0 hclo
  rw [l3] at hcon
  have hdiv := g_divisorP shares h0 v7.2 v6
  have hev := every_pos hv
  show ACalls Tryz.prog 142 [.ptr i 0] h0 _
  rw [homeF_eq]
  have hef : everyF kind kids.length shares = if kind = 3 then (kids.length : Int) else if kind = 4 then shares.sum / gcdI shares else 1 := rfl
  generalize hQ : (List.range kids.length).all (fun j => homeF d (kids.getD j default) (ks.getD j default)) = qq at *
  refine gE Tryz.func142 rfl (by kernel_rfl) 43 rfl fun c => ?_
  (repeat (first | refine gQ rfl ?_ | ((first | refine gR ?_ | (with_reducible refine wM ?_ ?_) | ((with_reducible refine xR ?_); refine uE 6 zM31 zP1CE zP1CP 44 rfl (by kernel_rfl) ?_)) <;> ((try with_reducible intro K1 hK1); simp only [go_sem, ↓reduceIte, reduceCtorEq, nA, nB, nC, nD, nE, nF, hH0] <;> and_intros <;> first | (apply hK1; clear hK1 K1) | (intros; first | omega | decide | (simp_all <;> omega)) | skip))))
  refine awp_seq ?_
  refine awp_join (rl false [0, 1, 2, 1, 40]) 0 (fun s => s = ⟨((.ptr i 0) :: AV.junk :: AV.junk :: ((.v (.int .i64 (everyF kind kids.length shares))) :: (jnk 40 []))), [], h0⟩) ?_ ?_
  ·by_cases h3 : kind = 3
   ·have e3 : (kind == 3) = true := by simp; exact h3
    obtain ⟨tk, rfl⟩ : ∃ tk, K = .row 1 (az.map fun a => [.ptr a.id 0]) tk := by
     rcases hK with ⟨rfl, _⟩ | h9
     ·simp at l3; exact absurd (List.eq_nil_of_length_eq_zero l3.symm) (v3 (by omega))
     ·exact h9
    (repeat (first | refine gO rfl ?_ | ((first | refine gR ?_ | (with_reducible refine wM ?_ ?_) | ((with_reducible refine xR ?_); refine uE 6 zM31 zP1CE zP1CP 44 rfl (by kernel_rfl) ?_)) <;> ((try with_reducible intro K1 hK1); simp only [go_sem, ↓reduceIte, reduceCtorEq, nA, nB, nC, nD, nE, nF, hH0, e3] <;> and_intros <;> first | (apply hK1; clear hK1 K1) | (intros; first | omega | decide | (simp_all <;> omega)) | skip))))
    refine awp_cond (t := _) rfl (fun _ => ?_) (fun h => by cases h)
    (repeat (first | refine gO rfl ?_ | ((first | refine gR ?_ | (with_reducible refine wM ?_ ?_) | ((with_reducible refine xR ?_); refine uE 6 zM31 zP1CE zP1CP 44 rfl (by kernel_rfl) ?_)) <;> ((try with_reducible intro K1 hK1); simp only [go_sem, ↓reduceIte, reduceCtorEq, nA, nB, nC, nD, nE, nF, hH0, l3] <;> and_intros <;> first | (apply hK1; clear hK1 K1) | (intros; first | omega | decide | (simp_all <;> omega)) | skip))))
    rw [hef, if_pos h3]; rfl
   ·have e3 : (kind == 3) = false := by simp; exact h3
    by_cases h4 : kind = 4
    ·have e4 : (kind == 4) = true := by simp; exact h4
     have hne : shares ≠ [] := fun e => v3 (by omega) (List.eq_nil_of_length_eq_zero (by rw [← v5 h4, e]; rfl))
     have hgp := gcdI_pos (fun x hx => (v6 x hx).1) hne
     have hsb := sum_bdI v6 v7.2
     have hq2 : shares.sum.tdiv (gcdI shares : Int) = shares.sum / (gcdI shares : Int) := Int.tdiv_eq_ediv_of_nonneg hsb.1
     have hq3 : 0 ≤ shares.sum / (gcdI shares : Int) ∧ shares.sum / (gcdI shares : Int) ≤ shares.sum := ⟨Int.ediv_nonneg hsb.1 (by omega), Int.ediv_le_self _ hsb.1⟩
     (repeat (first | refine gO rfl ?_ | ((first | refine gR ?_ | (with_reducible refine wM ?_ ?_) | ((with_reducible refine xR ?_); refine uE 6 zM31 zP1CE zP1CP 44 rfl (by kernel_rfl) ?_)) <;> ((try with_reducible intro K1 hK1); simp only [go_sem, ↓reduceIte, reduceCtorEq, nA, nB, nC, nD, nE, nF, hH0, e3, e4] <;> and_intros <;> first | (apply hK1; clear hK1 K1) | (intros; first | omega | decide | (simp_all <;> omega)) | skip))))
     refine awp_cond (t := _) rfl (fun h => by cases h) (fun _ => ?_)
     (repeat (first | refine gO rfl ?_ | ((first | refine gR ?_ | (with_reducible refine wM ?_ ?_) | ((with_reducible refine xR ?_); refine uE 6 zM31 zP1CE zP1CP 44 rfl (by kernel_rfl) ?_)) <;> ((try with_reducible intro K1 hK1); simp only [go_sem, ↓reduceIte, reduceCtorEq, nA, nB, nC, nD, nE, nF, hH0, e3, e4] <;> and_intros <;> first | (apply hK1; clear hK1 K1) | (intros; first | omega | decide | (simp_all <;> omega)) | skip))))
     refine awp_cond (t := _) rfl (fun _ => ?_) (fun h => by cases h)
     (repeat (first | refine gO rfl ?_ | ((first | refine gR ?_ | (with_reducible refine wM ?_ ?_) | ((with_reducible refine xR ?_); refine uE 6 zM31 zP1CE zP1CP 44 rfl (by kernel_rfl) ?_)) <;> ((try with_reducible intro K1 hK1); simp only [go_sem, ↓reduceIte, reduceCtorEq, nA, nB, nC, nD, nE, nF, hH0, hq2] <;> and_intros <;> first | (apply hK1; clear hK1 K1) | (intros; first | omega | decide | (simp_all <;> omega)) | skip))))
     refine hdiv.mono ?_; rintro _ hz ⟨rfl, hh⟩; apply hK1; clear hK1 K1; rw [hh]; clear hh hz
     (repeat (first | refine gO rfl ?_ | ((first | refine gR ?_ | (with_reducible refine wM ?_ ?_) | ((with_reducible refine xR ?_); refine uE 6 zM31 zP1CE zP1CP 44 rfl (by kernel_rfl) ?_)) <;> ((try with_reducible intro K1 hK1); simp only [go_sem, ↓reduceIte, reduceCtorEq, nA, nB, nC, nD, nE, nF, hH0, hq2] <;> and_intros <;> first | (apply hK1; clear hK1 K1) | (intros; first | omega | decide | (simp_all <;> omega)) | skip))))
     rw [hef, if_neg h3, if_pos h4]; rfl
    ·have e4 : (kind == 4) = false := by simp; exact h4
     (repeat (first | refine gO rfl ?_ | ((first | refine gR ?_ | (with_reducible refine wM ?_ ?_) | ((with_reducible refine xR ?_); refine uE 6 zM31 zP1CE zP1CP 44 rfl (by kernel_rfl) ?_)) <;> ((try with_reducible intro K1 hK1); simp only [go_sem, ↓reduceIte, reduceCtorEq, nA, nB, nC, nD, nE, nF, hH0, e3, e4] <;> and_intros <;> first | (apply hK1; clear hK1 K1) | (intros; first | omega | decide | (simp_all <;> omega)) | skip))))
     refine awp_cond (t := _) rfl (fun h => by cases h) (fun _ => ?_)
     (repeat (first | refine gO rfl ?_ | ((first | refine gR ?_ | (with_reducible refine wM ?_ ?_) | ((with_reducible refine xR ?_); refine uE 6 zM31 zP1CE zP1CP 44 rfl (by kernel_rfl) ?_)) <;> ((try with_reducible intro K1 hK1); simp only [go_sem, ↓reduceIte, reduceCtorEq, nA, nB, nC, nD, nE, nF, hH0, e3, e4] <;> and_intros <;> first | (apply hK1; clear hK1 K1) | (intros; first | omega | decide | (simp_all <;> omega)) | skip))))
     refine awp_cond (t := _) rfl (fun h => by cases h) (fun _ => ?_)
     (repeat (first | refine gO rfl ?_ | ((first | refine gR ?_ | (with_reducible refine wM ?_ ?_) | ((with_reducible refine xR ?_); refine uE 6 zM31 zP1CE zP1CP 44 rfl (by kernel_rfl) ?_)) <;> ((try with_reducible intro K1 hK1); simp only [go_sem, ↓reduceIte, reduceCtorEq, nA, nB, nC, nD, nE, nF] <;> and_intros <;> first | (apply hK1; clear hK1 K1) | (intros; first | omega | decide | (simp_all <;> omega)) | skip))))
     rw [hef, if_neg h3, if_neg h4]; rfl
  ·rintro _ rfl
   generalize everyF kind kids.length shares = ev at *
   rcases hb : (p.tmod ev == 0) with _ | _
   ·(repeat (first | refine gO rfl ?_ | ((first | refine gR ?_ | (with_reducible refine wM ?_ ?_) | ((with_reducible refine xR ?_); refine uE 6 zM31 zP1CE zP1CP 44 rfl (by kernel_rfl) ?_)) <;> ((try with_reducible intro K1 hK1); simp only [go_sem, ↓reduceIte, reduceCtorEq, nA, nB, nC, nD, nE, nF, hH0, w1, w2, w3, w4, w5, hb] <;> and_intros <;> first | (apply hK1; clear hK1 K1) | (intros; first | omega | decide | (simp_all <;> omega)) | skip))))
    refine ⟨.v (.bool false), rfl, True.intro, hK1 _ ?_⟩; clear hK1 K1
    (repeat (first | refine gO rfl ?_ | ((first | refine gR ?_ | (with_reducible refine wM ?_ ?_) | ((with_reducible refine xR ?_); refine uE 6 zM31 zP1CE zP1CP 44 rfl (by kernel_rfl) ?_)) <;> ((try with_reducible intro K1 hK1); simp only [go_sem, ↓reduceIte, reduceCtorEq, nA, nB, nC, nD, nE, nF, hH0, w1, w2, w3, w4, w5, hb] <;> and_intros <;> first | (apply hK1; clear hK1 K1) | (intros; first | omega | decide | (simp_all <;> omega)) | skip))))
    simp only [Tryz.results142, go_sem, ↓reduceIte, reduceCtorEq, nA, nB, nC, nD, nE, nF]
    exact ⟨_, _, Weak.refl _, Hp.le.refl _, rfl, rfl⟩
   ·(repeat (first | refine gO rfl ?_ | ((first | refine gR ?_ | (with_reducible refine wM ?_ ?_) | ((with_reducible refine xR ?_); refine uE 6 zM31 zP1CE zP1CP 44 rfl (by kernel_rfl) ?_)) <;> ((try with_reducible intro K1 hK1); simp only [go_sem, ↓reduceIte, reduceCtorEq, nA, nB, nC, nD, nE, nF, hH0, w1, w2, w3, w4, w5, hb] <;> and_intros <;> first | (apply hK1; clear hK1 K1) | (intros; first | omega | decide | (simp_all <;> omega)) | skip))))
    refine hcon.mono ?_; rintro _ hz ⟨rfl, hh⟩; refine ⟨rfl, hK1 _ ?_⟩; clear hK1 K1; rw [hh]; clear hh hz
    (repeat (first | refine gO rfl ?_ | ((first | refine gR ?_ | (with_reducible refine wM ?_ ?_) | ((with_reducible refine xR ?_); refine uE 6 zM31 zP1CE zP1CP 44 rfl (by kernel_rfl) ?_)) <;> ((try with_reducible intro K1 hK1); simp only [go_sem, ↓reduceIte, reduceCtorEq, nA, nB, nC, nD, nE, nF, hH0, w1, w2, w3, w4, w5, hb] <;> and_intros <;> first | (apply hK1; clear hK1 K1) | (intros; first | omega | decide | (simp_all <;> omega)) | skip))))
    simp only [Tryz.results142, go_sem, ↓reduceIte, reduceCtorEq, nA, nB, nC, nD, nE, nF]
    exact ⟨_, _, Weak.refl _, Hp.le.refl _, by simp, rfl⟩
def PassRel (d : Nat) (t : LT) (s : PS) (out : List (ByteArray × Int)) (s' : PS) (out' : List (ByteArray × Int)) : Prop :=
 (5000 < out.length → s' = s ∧ out' = out) ∧ (out.length ≤ 5000 → out.length + (passU d t s).2.length ≤ 5000 → s' = (passU d t s).1 ∧ out' = out ++ (passU d t s).2) ∧
 (out.length ≤ 5000 → 5000 < out.length + (passU d t s).2.length → out'.length = 5001 ∧ PSB d t s' 5001)
def RunR (d : Nat) (kids : List LT) (out : List (ByteArray × Int)) (acc : (List Int × List PS) × List (ByteArray × Int)) (cs : List Int) (ks : List PS) (out' : List (ByteArray × Int)) : Prop :=
 FOk d kids out'.length (cs, ks) ∧ out'.length ≤ 5001 ∧ (out.length + acc.2.length ≤ 5000 → (cs, ks) = acc.1 ∧ out' = out ++ acc.2) ∧ (5000 < out.length + acc.2.length → out'.length = 5001)
theorem set_getD {α : Type} (l : List α) (x : Nat) (d : α) : l.set x (l.getD x d) = l := by
 by_cases h : x < l.length
 ·rw [List.getD_eq_getElem?_getD, List.getElem?_eq_getElem h]; simp
 ·rw [List.set_eq_of_length_le (by omega)]
theorem RunR.step {d : Nat} {kids : List LT} {out : List (ByteArray × Int)} {acc : (List Int × List PS) × List (ByteArray × Int)} {cs : List Int} {ks : List PS} {out' : List (ByteArray × Int)} (hR : RunR d kids out acc cs ks out') {x : Nat} (hx : x < kids.length)
  (hv : VL d (kids.getD x default)) (hf : Fits d (kids.getD x default) (ks.getD x default)) {s'' : PS} {out'' : List (ByteArray × Int)} (hp : PassRel d (kids.getD x default) (ks.getD x default) out' s'' out'') :
  RunR d kids out (stepU (passU d) kids acc x) (if out.length + acc.2.length ≤ 5000 then cs.set x (cs.getD x 0 + 1) else cs) (ks.set x s'') out'' := by
 obtain ⟨h1, h2, h3, h4⟩ := hR
 obtain ⟨p1, p2, p3⟩ := hp
 obtain ⟨⟨f1, f2⟩, f3, f4⟩ := id h1
 have hpo := passU_ok d (kids.getD x default) (ks.getD x default) out'.length hv hf (by omega) (f4 x hx)
 by_cases hex : out.length + acc.2.length ≤ 5000
 ·rw [if_pos hex]
  obtain ⟨e1, e2⟩ := h3 hex
  have e3 : acc.1.1 = cs := by rw [← e1]
  have e4 : acc.1.2 = ks := by rw [← e1]
  have e5 : out'.length = out.length + acc.2.length := by rw [e2, List.length_append]
  have hst : (stepU (passU d) kids acc x).1 = (cs.set x (cs.getD x 0 + 1), ks.set x (passU d (kids.getD x default) (ks.getD x default)).1) := by simp only [stepU, e3, e4]
  have hs2 : (stepU (passU d) kids acc x).2 = acc.2 ++ (passU d (kids.getD x default) (ks.getD x default)).2 := by simp only [stepU, e4]
  by_cases hk : out'.length + (passU d (kids.getD x default) (ks.getD x default)).2.length ≤ 5000
  ·obtain ⟨rfl, rfl⟩ := p2 (by omega) hk
   have hh : FOk d kids out'.length acc.1 := by rw [← e1]; exact h1
   obtain ⟨s1, s2⟩ := stepU_ok (f := passU d) (a := acc) hh hx (by rw [e4]) hpo.1 (by rw [e4]; exact hpo.2.1)
   rw [hst] at s1
   refine ⟨by rw [List.length_append]; exact_mod_cast s1, by rw [List.length_append]; omega, fun _ => ⟨hst.symm, by rw [hs2, e2, List.append_assoc]⟩, fun h => ?_⟩
   rw [hs2, List.length_append] at h; omega
  ·obtain ⟨q1, q2⟩ := p3 (by omega) (by omega)
   have q1' : (out''.length : Int) = 5001 := by omega
   refine ⟨⟨⟨by simpa using f1, by simpa using f2⟩, fun y hy => ?_, fun j hj => ?_⟩, by omega, fun h => ?_, fun _ => q1⟩
   ·rw [q1']
    rcases mem_set_or hy with h | h
    ·have := f3 y h; omega
    ·have := f3 _ (getD_mem' cs x 0 (show x < cs.length from by have : cs.length = kids.length := f1; omega)); omega
   ·rw [q1']
    show PSB d (kids.getD j default) ((ks.set x s'').getD j default) 5001
    by_cases hxj : x = j
    ·subst hxj; rw [getD_setS _ _ _ _ (by have : ks.length = kids.length := f2; omega)]; exact q2
    ·rw [getD_setN _ _ _ _ _ hxj]; exact (f4 j hj).mono (by omega)
   ·rw [hs2, List.length_append] at h; omega
 ·rw [if_neg hex]
  have e5 := h4 (by omega)
  obtain ⟨rfl, rfl⟩ := p1 (by omega)
  rw [set_getD]
  have hs2 : acc.2.length ≤ (stepU (passU d) kids acc x).2.length := by simp [stepU]
  exact ⟨h1, h2, fun h => by omega, fun _ => e5⟩
def oEx : List AV := [.v (.int .i64 5000)]
def St2 (d : Nat) (t : LT) (kids : List LT) (a : AT) (p : Int) (h : Hp) (o k : Nat) (out : List (ByteArray × Int)) (acc : (List Int × List PS) × List (ByteArray × Int)) (h1 : Hp) (cs : List Int) (ks : List PS) (out' : List (ByteArray × Int)) : Prop :=
 RAt XP h1 (d + 1) t a (.mk p cs ks) ∧ OutAt h1 o k oEx out' ∧ FrP a o k h h1 ∧ RunR d kids out acc cs ks out'
def PRp (d : Nat) (t : LT) (a : AT) (s : PS) (h : Hp) (o k : Nat) (out : List (ByteArray × Int)) (r : AV) (h' : Hp) : Prop :=
 r = .tup [] ∧ ∃ s' out', RAt XP h' d t a s' ∧ OutAt h' o k oEx out' ∧ FrP a o k h h' ∧ PassRel d t s out s' out'
theorem RAt.counts {h : Hp} {d : Nat} {kind : Int} {item : ByteArray} {long many : Int} {kids : List LT} {shares : List Int} {a : AT} {p : Int} {cs cs' : List Int} {ks : List PS} (h4 : kind ≠ 4) (hl : cs'.length = cs.length)
  (hR : RAt XP h (d + 1) (.mk kind item long many kids shares) a (.mk p cs ks)) : RAt XP h (d + 1) (.mk kind item long many kids shares) a (.mk p cs' ks) := by
 cases a with
 | mk i c az =>
  obtain ⟨h1, h2, ⟨l1, l2, l3, l4⟩, h5⟩ := hR
  have e : XP.cf kind cs' = XP.cf kind cs := by simp only [XP, if_neg h4, hl]
  exact ⟨h1, by rw [e]; exact h2, ⟨by rw [e]; exact l1, by omega, l3, l4⟩, h5⟩
theorem St2.next {d : Nat} {kind : Int} {item : ByteArray} {long many : Int} {kids : List LT} {shares : List Int} {i c : Nat} {az : List AT} {p : Int} {h : Hp} {o k : Nat} {out : List (ByteArray × Int)} {acc : (List Int × List PS) × List (ByteArray × Int)} {h1 : Hp} {cs : List Int} {ks : List PS} {out' : List (ByteArray × Int)}
  (hs : St2 d (.mk kind item long many kids shares) kids (.mk i c az) p h o k out acc h1 cs ks out') (h4 : kind ≠ 4) (hS : Sep (d + 1) (.mk i c az)) (ho : o ∉ idsT (.mk i c az)) {x : Nat} (hx : x < kids.length) (hv : VL d (kids.getD x default))
  {r : AV} {h3 : Hp} (hp : PRp d (kids.getD x default) (az.getD x default) (ks.getD x default) h1 o k out' r h3) : ∃ cs' ks' out'', St2 d (.mk kind item long many kids shares) kids (.mk i c az) p h o k out (stepU (passU d) kids acc x) h3 cs' ks' out'' := by
 obtain ⟨g1, g2, g3, g4⟩ := hs
 obtain ⟨rfl, s', out'', r1, r2, r3, r4⟩ := hp
 obtain ⟨_, _, ⟨l1, l2, l3, l4⟩, hk⟩ := id g1
 have hkt := g1.tokNe g2.2
 refine ⟨if out.length + acc.2.length ≤ 5000 then cs.set x (cs.getD x 0 + 1) else cs, ks.set x s', out'', (g1.kid hS ho hkt hx r1 r3).counts h4 (by split <;> simp), r2, g3.trans (r3.kid (by omega)), g4.step hx hv (hk x hx).fits r4⟩
theorem St2.ask {d : Nat} {kind : Int} {item : ByteArray} {long many : Int} {kids : List LT} {shares : List Int} {i c : Nat} {az : List AT} {p : Int} {h : Hp} {o k : Nat} {out : List (ByteArray × Int)} {acc : (List Int × List PS) × List (ByteArray × Int)} {h1 : Hp} {cs : List Int} {ks : List PS} {out' : List (ByteArray × Int)}
  (hs : St2 d (.mk kind item long many kids shares) kids (.mk i c az) p h o k out acc h1 cs ks out') (hS : Sep (d + 1) (.mk i c az)) (ho : o ∉ idsT (.mk i c az)) {x : Nat} (hx : x < kids.length) :
  RAt XP h1 d (kids.getD x default) (az.getD x default) (ks.getD x default) ∧ Sep d (az.getD x default) ∧ PSB d (kids.getD x default) (ks.getD x default) out'.length ∧ OutAt h1 o k oEx out' ∧ o ∉ idsT (az.getD x default) ∧ out'.length ≤ 5001 := by
 obtain ⟨g1, g2, g3, g4⟩ := hs
 obtain ⟨_, _, ⟨l1, l2, l3, l4⟩, hk⟩ := id g1
 exact ⟨hk x hx, (hS x (by omega)).1.2.2, g4.1.2.2 x hx, g2, fun hh => ho (idsT_kid (by omega) hh), g4.2.1⟩
theorem St2.cells {d : Nat} {kind : Int} {item : ByteArray} {long many : Int} {kids : List LT} {shares : List Int} {i c : Nat} {az : List AT} {p : Int} {h : Hp} {o k : Nat} {out : List (ByteArray × Int)} {acc : (List Int × List PS) × List (ByteArray × Int)} {h1 : Hp} {cs : List Int} {ks : List PS} {out' : List (ByteArray × Int)}
  (hs : St2 d (.mk kind item long many kids shares) kids (.mk i c az) p h o k out acc h1 cs ks out') (hne : kids ≠ []) : (∃ tk, h1.H i = some (.cells [.v (.int .i64 kind), .v (.string item), .v (.int .i64 long), .v (.int .i64 many), .row 6 (kids.map encL) none, .row 1 (shares.map encI) none, .row 1 (az.map fun a => [.ptr a.id 0]) tk, .v (.int .i64 p), .arr 1 c kids.length, .v (.int .i64 shares.sum)])) ∧ az.length = kids.length := by
 obtain ⟨⟨⟨K, h1, hK⟩, _, ⟨l1, l2, l3, l4⟩, _⟩, _⟩ := hs
 refine ⟨?_, l3⟩
 rcases hK with ⟨rfl, _⟩ | ⟨tk, rfl⟩
 ·simp at l3; exact absurd (List.eq_nil_of_length_eq_zero l3.symm) hne
 ·exact ⟨tk, h1⟩
abbrev zP1DE : List Nat := [0, 1, 2, 3, 4, 5, 6, 7, 8, 9, 10, 11, 12, 13, 14, 15, 16]
abbrev zP1DP : List (Nat × List Nat × List Nat) := [(17, [], [18, 19]), (20, [], [])]
abbrev zP1EE : List Nat := [0, 1, 2, 3, 4, 5, 6, 7, 8, 9, 10, 11, 12, 13, 14, 15, 16]
abbrev zP1EP : List (Nat × List Nat × List Nat) := [(17, [], [])]
attribute [go_sem] zP1DE zP1DP zP1EE zP1EP
def PassJp (d : Nat) (kind : Int) (item : ByteArray) (long many : Int) (kids : List LT) (shares : List Int) (i c0 : Nat) (az : List AT) (p : Int) (cs : List Int) (ks : List PS) (h : Hp) (o k : Nat) (out : List (ByteArray × Int)) (s : St) : Prop :=
 ∃ h1 cs' ks' out', St2 d (.mk kind item long many kids shares) kids (.mk i c0 az) p h o k out ((idxL kind p many kids.length (nextF shares p cs)).foldl (stepU (passU d) kids) ((cs, ks), if kind = 1 then [(item, long)] else [])) h1 cs' ks' out' ∧
  s = ⟨((.ptr i 0) :: (.ptr o 0) :: (jnk 114 [])), [], h1⟩
theorem g_passP : ∀ (d : Nat) (t : LT) (a : AT) (s : PS) (h : Hp) (o k : Nat) (out : List (ByteArray × Int)), VL d t → RAt XP h d t a s → Sep d a → PSB d t s out.length → OutAt h o k oEx out → o ∉ idsT a → out.length ≤ 5001 →
  ACalls Tryz.prog 76 [.ptr a.id 0, .ptr o 0] h (PRp d t a s h o k out)
 | 0, _, _, _, _, _, _, _, hv, _, _, _, _, _, _ => hv.elim
 | d + 1, .mk kind item long many kids shares, .mk i c0 az, .mk p cs ks, h, o, k, out, hv, hR, hS, hB, hO, ho, hout => by
  have hfit := hR.fits
  have hkt := hR.tokNe hO.2
  obtain ⟨v1, v2, v3, v4, v5, v6, v7, v8⟩ := id hv
  obtain ⟨⟨K, hH, hK⟩, hT, ⟨l1, l2, l3, l4⟩, hkids⟩ := id hR
  have hH0 : h.H i = some (.cells [.v (.int .i64 kind), .v (.string item), .v (.int .i64 long), .v (.int .i64 many), .row 6 (kids.map encL) none, .row 1 (shares.map encI) none, K, .v (.int .i64 p), .arr 1 c0 kids.length, .v (.int .i64 shares.sum)]) := hH
  have hO1 : h.H o = some (.cells [.row 2 (out.map encStep) (some k), .v (.int .i64 5000)]) := hO.1
  have hO2 : h.T k = some (.tail out.length) := hO.2
  have hfr0 : FrP (.mk i c0 az) o k h h := ⟨fun _ _ _ => rfl, fun _ _ _ => rfl⟩
  show ACalls Tryz.prog 76 [.ptr i 0, .ptr o 0] h _
  refine gE Tryz.func76 rfl (by kernel_rfl) 114 rfl fun c => ?_
  (repeat (first | refine gO rfl ?_ | ((first | ((with_reducible refine yS ?_); refine awp_keep zK31 100 (kS ?_)) | ((with_reducible refine yR ?_); refine awp_keep zK31 100 (kR ?_)) | refine gR ?_ | (with_reducible refine wM ?_ ?_) | ((with_reducible refine xR ?_); refine awp_keep zK31 100 (uE 7 zM31 zP1DE zP1DP 116 rfl (by kernel_rfl) ?_)) | ((with_reducible refine xR ?_); refine awp_keep zK31 100 (uE 15 zM31 zP1EE zP1EP 116 rfl (by kernel_rfl) ?_))) <;> ((try with_reducible intro K1 hK1); simp only [go_sem, ↓reduceIte, reduceCtorEq, nA, nB, nC, nD, nE, nF, nG, nH, nI] <;> and_intros <;> first | (apply hK1; clear hK1 K1) | (intros; first | omega | decide | (simp_all <;> omega)) | skip))))
  refine (g_full28 o k h out hO).mono ?_; rintro _ hz ⟨rfl, hh⟩; apply hK1; clear hK1 K1; rw [hh]; clear hh hz
  (repeat (first | refine gO rfl ?_ | ((first | ((with_reducible refine yS ?_); refine awp_keep zK31 100 (kS ?_)) | ((with_reducible refine yR ?_); refine awp_keep zK31 100 (kR ?_)) | refine gR ?_ | (with_reducible refine wM ?_ ?_) | ((with_reducible refine xR ?_); refine awp_keep zK31 100 (uE 7 zM31 zP1DE zP1DP 116 rfl (by kernel_rfl) ?_)) | ((with_reducible refine xR ?_); refine awp_keep zK31 100 (uE 15 zM31 zP1EE zP1EP 116 rfl (by kernel_rfl) ?_))) <;> ((try with_reducible intro K1 hK1); simp only [go_sem, ↓reduceIte, reduceCtorEq, nA, nB, nC, nD, nE, nF, nG, nH, nI] <;> and_intros <;> first | (apply hK1; clear hK1 K1) | (intros; first | omega | decide | (simp_all <;> omega)) | skip))))
  refine awp_cond (t := _) rfl (fun hf => ?_) (fun hf => ?_)
  ·(repeat (first | refine gO rfl ?_ | ((first | ((with_reducible refine yS ?_); refine awp_keep zK31 100 (kS ?_)) | ((with_reducible refine yR ?_); refine awp_keep zK31 100 (kR ?_)) | refine gR ?_ | (with_reducible refine wM ?_ ?_) | ((with_reducible refine xR ?_); refine awp_keep zK31 100 (uE 7 zM31 zP1DE zP1DP 116 rfl (by kernel_rfl) ?_)) | ((with_reducible refine xR ?_); refine awp_keep zK31 100 (uE 15 zM31 zP1EE zP1EP 116 rfl (by kernel_rfl) ?_))) <;> ((try with_reducible intro K1 hK1); simp only [go_sem, ↓reduceIte, reduceCtorEq, nA, nB, nC, nD, nE, nF, nG, nH, nI] <;> and_intros <;> first | (apply hK1; clear hK1 K1) | (intros; first | omega | decide | (simp_all <;> omega)) | skip))))
   simp only [Tryz.results76, go_sem, ↓reduceIte, reduceCtorEq, nA, nB, nC, nD, nE, nF]
   simp only [decide_eq_true_eq] at hf
   exact ⟨_, _, Weak.refl _, Hp.le.refl _, rfl, _, out, hR, hO, hfr0, fun _ => ⟨rfl, rfl⟩, fun h => by omega, fun h => by omega⟩
  simp only [decide_eq_false_iff_not] at hf
  have hpn : 0 ≤ p ∧ p ≤ 5000 := by have := hB.1; omega
  have hcn : ∀ x ∈ cs, 0 ≤ x ∧ x ≤ 1000000 := fun x hx => by have := hB.2.1 x hx; omega
  (repeat (first | refine gQ rfl ?_ | ((first | ((with_reducible refine yS ?_); refine awp_keep zK31 100 (kS ?_)) | ((with_reducible refine yR ?_); refine awp_keep zK31 100 (kR ?_)) | refine gR ?_ | (with_reducible refine wM ?_ ?_) | ((with_reducible refine xR ?_); refine awp_keep zK31 100 (uE 7 zM31 zP1DE zP1DP 116 rfl (by kernel_rfl) ?_)) | ((with_reducible refine xR ?_); refine awp_keep zK31 100 (uE 15 zM31 zP1EE zP1EP 116 rfl (by kernel_rfl) ?_))) <;> ((try with_reducible intro K1 hK1); simp only [go_sem, ↓reduceIte, reduceCtorEq, nA, nB, nC, nD, nE, nF, hH0, nG, nH, nI] <;> and_intros <;> first | (apply hK1; clear hK1 K1) | (intros; first | omega | decide | (simp_all <;> omega)) | skip))))
  refine awp_seq ?_
  refine awp_join (rl false [0, 2, 114]) 0 (fun s => PassJp d kind item long many kids shares i c0 az p cs ks h o k out s) ?_ ?_
  ·rcases (show kind = 1 ∨ kind = 2 ∨ kind = 3 ∨ kind = 4 ∨ kind = 5 by omega) with rfl | rfl | rfl | rfl | rfl
   ·(repeat (first | refine gO rfl ?_ | ((first | ((with_reducible refine yS ?_); refine awp_keep zK31 100 (kS ?_)) | ((with_reducible refine yR ?_); refine awp_keep zK31 100 (kR ?_)) | refine gR ?_ | (with_reducible refine wM ?_ ?_) | ((with_reducible refine xR ?_); refine awp_keep zK31 100 (uE 7 zM31 zP1DE zP1DP 116 rfl (by kernel_rfl) ?_)) | ((with_reducible refine xR ?_); refine awp_keep zK31 100 (uE 15 zM31 zP1EE zP1EP 116 rfl (by kernel_rfl) ?_))) <;> ((try with_reducible intro K1 hK1); simp only [go_sem, ↓reduceIte, reduceCtorEq, nA, nB, nC, nD, nE, nF, hH0, nG, nH, nI] <;> and_intros <;> first | (apply hK1; clear hK1 K1) | (intros; first | omega | decide | (simp_all <;> omega)) | skip))))
    refine awp_cond (t := _) rfl (fun _ => ?_) (fun h1 => by cases h1)
    (repeat (first | refine gO rfl ?_ | ((first | ((with_reducible refine yS ?_); refine awp_keep zK31 100 (kS ?_)) | ((with_reducible refine yR ?_); refine awp_keep zK31 100 (kR ?_)) | refine gR ?_ | (with_reducible refine wM ?_ ?_) | ((with_reducible refine xR ?_); refine awp_keep zK31 100 (uE 7 zM31 zP1DE zP1DP 116 rfl (by kernel_rfl) ?_)) | ((with_reducible refine xR ?_); refine awp_keep zK31 100 (uE 15 zM31 zP1EE zP1EP 116 rfl (by kernel_rfl) ?_))) <;> ((try with_reducible intro K1 hK1); simp only [go_sem, ↓reduceIte, reduceCtorEq, nA, nB, nC, nD, nE, nF, hH0, hO1, hO2, nG, nH, nI] <;> and_intros <;> first | (apply hK1; clear hK1 K1) | (intros; first | omega | decide | (simp_all <;> omega)) | skip))))
    have hix : idxL 1 p many kids.length (nextF shares p cs) = [] := by simp [idxL]
    refine ⟨{ H := upd h.H o (some (.cells [.row 2 (out.map encStep ++ [[.v (.string item), .v (.int .i64 long)]]) (some k), .v (.int .i64 5000)])), T := upd h.T k (some (.tail (out.length + 1))) }, cs, ks, out ++ [(item, long)], ⟨hR.frame (fun x hx => upd_other _ _ (fun e => by subst e; exact ho hx)) (fun x hx => upd_other _ _ (fun e => by subst e; exact hkt hx)), ⟨?_, ?_⟩, ⟨fun x _ hx => upd_other _ _ hx, fun x _ hx => upd_other _ _ hx⟩, ?_⟩, rfl⟩
    ·rw [show (out ++ [(item, long)]).map encStep = out.map encStep ++ [[.v (.string item), .v (.int .i64 long)]] by simp [encStep]]
     exact upd_same _ _ _
    ·rw [show (out ++ [(item, long)]).length = out.length + 1 by simp]
     exact upd_same _ _ _
    ·rw [hix]
     have e7 : (out ++ [(item, long)]).length = out.length + 1 := by simp
     refine ⟨⟨⟨l2, l4⟩, fun x hx => ?_, fun j hj => (hB.2.2 j hj).mono (by omega)⟩, by omega, fun _ => ⟨rfl, by simp⟩, fun h => ?_⟩
     ·have := hB.2.1 x hx; omega
     ·simp at h; omega
   ·have hs0 : St2 d (.mk 2 item long many kids shares) kids (.mk i c0 az) p h o k out ((cs, ks), []) h cs ks out := ⟨hR, hO, hfr0, ⟨⟨l2, l4⟩, hB.2.1, hB.2.2⟩, by omega, fun _ => ⟨rfl, by simp⟩, fun h => by simp only [List.length_nil] at h; omega⟩
    obtain ⟨⟨tk, hC0⟩, hz0⟩ := hs0.cells (v3 (by omega))
    have hKe := hH0.symm.trans hC0
    simp only [Option.some.injEq, AO.cells.injEq, List.cons.injEq, true_and, and_true] at hKe
    subst hKe
    (repeat (first | refine gO rfl ?_ | ((first | ((with_reducible refine yS ?_); refine awp_keep zK31 100 (kS ?_)) | ((with_reducible refine yR ?_); refine awp_keep zK31 100 (kR ?_)) | refine gR ?_ | (with_reducible refine wM ?_ ?_) | ((with_reducible refine xR ?_); refine awp_keep zK31 100 (uE 7 zM31 zP1DE zP1DP 116 rfl (by kernel_rfl) ?_)) | ((with_reducible refine xR ?_); refine awp_keep zK31 100 (uE 15 zM31 zP1EE zP1EP 116 rfl (by kernel_rfl) ?_))) <;> ((try with_reducible intro K1 hK1); simp only [go_sem, ↓reduceIte, reduceCtorEq, nA, nB, nC, nD, nE, nF, hH0, nG, nH, nI] <;> and_intros <;> first | (apply hK1; clear hK1 K1) | (intros; first | omega | decide | (simp_all <;> omega)) | skip))))
    refine awp_cond (t := _) rfl (fun h1 => by cases h1) (fun _ => ?_)
    (repeat (first | refine gO rfl ?_ | ((first | ((with_reducible refine yS ?_); refine awp_keep zK31 100 (kS ?_)) | ((with_reducible refine yR ?_); refine awp_keep zK31 100 (kR ?_)) | refine gR ?_ | (with_reducible refine wM ?_ ?_) | ((with_reducible refine xR ?_); refine awp_keep zK31 100 (uE 7 zM31 zP1DE zP1DP 116 rfl (by kernel_rfl) ?_)) | ((with_reducible refine xR ?_); refine awp_keep zK31 100 (uE 15 zM31 zP1EE zP1EP 116 rfl (by kernel_rfl) ?_))) <;> ((try with_reducible intro K1 hK1); simp only [go_sem, ↓reduceIte, reduceCtorEq, nA, nB, nC, nD, nE, nF, hH0, nG, nH, nI] <;> and_intros <;> first | (apply hK1; clear hK1 K1) | (intros; first | omega | decide | (simp_all <;> omega)) | skip))))
    refine awp_cond (t := _) rfl (fun _ => ?_) (fun h1 => by cases h1)
    (repeat (first | refine gO rfl ?_ | ((first | ((with_reducible refine yS ?_); refine awp_keep zK31 100 (kS ?_)) | ((with_reducible refine yR ?_); refine awp_keep zK31 100 (kR ?_)) | refine gR ?_ | (with_reducible refine wM ?_ ?_) | ((with_reducible refine xR ?_); refine awp_keep zK31 100 (uE 7 zM31 zP1DE zP1DP 116 rfl (by kernel_rfl) ?_)) | ((with_reducible refine xR ?_); refine awp_keep zK31 100 (uE 15 zM31 zP1EE zP1EP 116 rfl (by kernel_rfl) ?_))) <;> ((try with_reducible intro K1 hK1); simp only [go_sem, ↓reduceIte, reduceCtorEq, nA, nB, nC, nD, nE, nF, hH0, nG, nH, nI] <;> and_intros <;> first | (apply hK1; clear hK1 K1) | (intros; first | omega | decide | (simp_all <;> omega)) | skip))))
    have hix : idxL 2 p many kids.length (nextF shares p cs) = List.range kids.length := by simp [idxL]
    refine awp_loopC (rl false [0, 2, 55, 3, 56]) 0 (fun g s => ∃ (j : Nat) (h1 : Hp) (cs' : List Int) (ks' : List PS) (out' : List (ByteArray × Int)), g + j = kids.length ∧ St2 d (.mk 2 item long many kids shares) kids (.mk i c0 az) p h o k out ((List.range j).foldl (stepU (passU d) kids) ((cs, ks), [])) h1 cs' ks' out' ∧
     s = ⟨((.ptr i 0) :: (.ptr o 0) :: (jnk 55 ((.row 1 (az.map fun a => [.ptr a.id 0]) tk) :: (.v (.int .i64 kids.length)) :: (.v (.int .i64 j)) :: (jnk 56 [])))), [], h1⟩) kids.length ⟨0, h, cs, ks, out, by omega, hs0, by rw [← hz0]; rfl⟩ ?_
    rintro g _ ⟨j, h1, cs', ks', out', hj, hs, rfl⟩
    (repeat (first | refine gO rfl ?_ | ((first | ((with_reducible refine yS ?_); refine awp_keep zK31 100 (kS ?_)) | ((with_reducible refine yR ?_); refine awp_keep zK31 100 (kR ?_)) | refine gR ?_ | (with_reducible refine wM ?_ ?_) | ((with_reducible refine xR ?_); refine awp_keep zK31 100 (uE 7 zM31 zP1DE zP1DP 116 rfl (by kernel_rfl) ?_)) | ((with_reducible refine xR ?_); refine awp_keep zK31 100 (uE 15 zM31 zP1EE zP1EP 116 rfl (by kernel_rfl) ?_))) <;> ((try with_reducible intro K1 hK1); simp only [go_sem, ↓reduceIte, reduceCtorEq, nA, nB, nC, nD, nE, nF, nG, nH, nI] <;> and_intros <;> first | (apply hK1; clear hK1 K1) | (intros; first | omega | decide | (simp_all <;> omega)) | skip))))
    refine awp_cond (t := _) rfl (fun h2 => ?_) (fun h2 => ?_)
    ·simp only [decide_eq_true_eq] at h2
     have hx : j < kids.length := by omega
     have hgz : (az.map fun a : AT => [AV.ptr a.id 0]).getD j [] = [.ptr (az.getD j default).id 0] := getD_enc (fun a : AT => [AV.ptr a.id 0]) az j default (by omega)
     obtain ⟨a1, a2, a3, a4, a5, a6⟩ := hs.ask hS ho hx
     (repeat (first | refine gO rfl ?_ | ((first | ((with_reducible refine yS ?_); refine awp_keep zK31 100 (kS ?_)) | ((with_reducible refine yR ?_); refine awp_keep zK31 100 (kR ?_)) | refine gR ?_ | (with_reducible refine wM ?_ ?_) | ((with_reducible refine xR ?_); refine awp_keep zK31 100 (uE 7 zM31 zP1DE zP1DP 116 rfl (by kernel_rfl) ?_)) | ((with_reducible refine xR ?_); refine awp_keep zK31 100 (uE 15 zM31 zP1EE zP1EP 116 rfl (by kernel_rfl) ?_))) <;> ((try with_reducible intro K1 hK1); simp only [go_sem, ↓reduceIte, reduceCtorEq, nA, nB, nC, nD, nE, nF, Int.toNat_natCast, hgz, hz0, nG, nH, nI] <;> and_intros <;> first | (apply hK1; clear hK1 K1) | (intros; first | omega | decide | (simp_all <;> omega)) | skip))))
     refine (g_passP d _ _ _ h1 o k out' (v8 _ (getD_mem' kids j default hx)) a1 a2 a3 a4 a5 a6).mono ?_
     intro r h3 hres
     obtain ⟨cs2, ks2, out2, hs2⟩ := hs.next (by omega) hS ho hx (v8 _ (getD_mem' kids j default hx)) hres
     obtain ⟨rfl, _⟩ := hres
     refine hK1 _ ?_; clear hK1 K1
     (repeat (first | refine gO rfl ?_ | ((first | ((with_reducible refine yS ?_); refine awp_keep zK31 100 (kS ?_)) | ((with_reducible refine yR ?_); refine awp_keep zK31 100 (kR ?_)) | refine gR ?_ | (with_reducible refine wM ?_ ?_) | ((with_reducible refine xR ?_); refine awp_keep zK31 100 (uE 7 zM31 zP1DE zP1DP 116 rfl (by kernel_rfl) ?_)) | ((with_reducible refine xR ?_); refine awp_keep zK31 100 (uE 15 zM31 zP1EE zP1EP 116 rfl (by kernel_rfl) ?_))) <;> ((try with_reducible intro K1 hK1); simp only [go_sem, ↓reduceIte, reduceCtorEq, nA, nB, nC, nD, nE, nF, nG, nH, nI] <;> and_intros <;> first | (apply hK1; clear hK1 K1) | (intros; first | omega | decide | (simp_all <;> omega)) | skip))))
     exact ⟨g - 1, by omega, j + 1, h3, cs2, ks2, out2, by omega, by rw [List.range_succ, List.foldl_append]; exact hs2, rfl⟩
    ·simp only [decide_eq_false_iff_not] at h2
     have hjk : j = kids.length := by omega
     subst hjk
     (repeat (first | refine gO rfl ?_ | ((first | ((with_reducible refine yS ?_); refine awp_keep zK31 100 (kS ?_)) | ((with_reducible refine yR ?_); refine awp_keep zK31 100 (kR ?_)) | refine gR ?_ | (with_reducible refine wM ?_ ?_) | ((with_reducible refine xR ?_); refine awp_keep zK31 100 (uE 7 zM31 zP1DE zP1DP 116 rfl (by kernel_rfl) ?_)) | ((with_reducible refine xR ?_); refine awp_keep zK31 100 (uE 15 zM31 zP1EE zP1EP 116 rfl (by kernel_rfl) ?_))) <;> ((try with_reducible intro K1 hK1); simp only [go_sem, ↓reduceIte, reduceCtorEq, nA, nB, nC, nD, nE, nF, nG, nH, nI] <;> and_intros <;> first | (apply hK1; clear hK1 K1) | (intros; first | omega | decide | (simp_all <;> omega)) | skip))))
     exact ⟨h1, cs', ks', out', by rw [hix]; exact hs, rfl⟩
   ·have hs0 : St2 d (.mk 3 item long many kids shares) kids (.mk i c0 az) p h o k out ((cs, ks), []) h cs ks out := ⟨hR, hO, hfr0, ⟨⟨l2, l4⟩, hB.2.1, hB.2.2⟩, by omega, fun _ => ⟨rfl, by simp⟩, fun h => by simp only [List.length_nil] at h; omega⟩
    obtain ⟨⟨tk, hC0⟩, hz0⟩ := hs0.cells (v3 (by omega))
    have hKe := hH0.symm.trans hC0
    simp only [Option.some.injEq, AO.cells.injEq, List.cons.injEq, true_and, and_true] at hKe
    subst hKe
    (repeat (first | refine gO rfl ?_ | ((first | ((with_reducible refine yS ?_); refine awp_keep zK31 100 (kS ?_)) | ((with_reducible refine yR ?_); refine awp_keep zK31 100 (kR ?_)) | refine gR ?_ | (with_reducible refine wM ?_ ?_) | ((with_reducible refine xR ?_); refine awp_keep zK31 100 (uE 7 zM31 zP1DE zP1DP 116 rfl (by kernel_rfl) ?_)) | ((with_reducible refine xR ?_); refine awp_keep zK31 100 (uE 15 zM31 zP1EE zP1EP 116 rfl (by kernel_rfl) ?_))) <;> ((try with_reducible intro K1 hK1); simp only [go_sem, ↓reduceIte, reduceCtorEq, nA, nB, nC, nD, nE, nF, hH0, nG, nH, nI] <;> and_intros <;> first | (apply hK1; clear hK1 K1) | (intros; first | omega | decide | (simp_all <;> omega)) | skip))))
    refine awp_cond (t := _) rfl (fun h1 => by cases h1) (fun _ => ?_)
    (repeat (first | refine gO rfl ?_ | ((first | ((with_reducible refine yS ?_); refine awp_keep zK31 100 (kS ?_)) | ((with_reducible refine yR ?_); refine awp_keep zK31 100 (kR ?_)) | refine gR ?_ | (with_reducible refine wM ?_ ?_) | ((with_reducible refine xR ?_); refine awp_keep zK31 100 (uE 7 zM31 zP1DE zP1DP 116 rfl (by kernel_rfl) ?_)) | ((with_reducible refine xR ?_); refine awp_keep zK31 100 (uE 15 zM31 zP1EE zP1EP 116 rfl (by kernel_rfl) ?_))) <;> ((try with_reducible intro K1 hK1); simp only [go_sem, ↓reduceIte, reduceCtorEq, nA, nB, nC, nD, nE, nF, hH0, nG, nH, nI] <;> and_intros <;> first | (apply hK1; clear hK1 K1) | (intros; first | omega | decide | (simp_all <;> omega)) | skip))))
    refine awp_cond (t := _) rfl (fun h1 => by cases h1) (fun _ => ?_)
    (repeat (first | refine gO rfl ?_ | ((first | ((with_reducible refine yS ?_); refine awp_keep zK31 100 (kS ?_)) | ((with_reducible refine yR ?_); refine awp_keep zK31 100 (kR ?_)) | refine gR ?_ | (with_reducible refine wM ?_ ?_) | ((with_reducible refine xR ?_); refine awp_keep zK31 100 (uE 7 zM31 zP1DE zP1DP 116 rfl (by kernel_rfl) ?_)) | ((with_reducible refine xR ?_); refine awp_keep zK31 100 (uE 15 zM31 zP1EE zP1EP 116 rfl (by kernel_rfl) ?_))) <;> ((try with_reducible intro K1 hK1); simp only [go_sem, ↓reduceIte, reduceCtorEq, nA, nB, nC, nD, nE, nF, hH0, nG, nH, nI] <;> and_intros <;> first | (apply hK1; clear hK1 K1) | (intros; first | omega | decide | (simp_all <;> omega)) | skip))))
    refine awp_cond (t := _) rfl (fun _ => ?_) (fun h1 => by cases h1)
    have hnk : 0 < kids.length := List.length_pos_iff.2 (v3 (by omega))
    have htm := Int.tmod_lt_of_pos p (show (0 : Int) < kids.length by omega)
    have htn := Int.tmod_nonneg (kids.length : Int) hpn.1
    have hix : idxL 3 p many kids.length (nextF shares p cs) = [(p.tmod kids.length).toNat] := by simp [idxL]
    have hx : (p.tmod kids.length).toNat < kids.length := by omega
    have hgz : (az.map fun a : AT => [AV.ptr a.id 0]).getD (p.tmod kids.length).toNat [] = [.ptr (az.getD (p.tmod kids.length).toNat default).id 0] := getD_enc (fun a : AT => [AV.ptr a.id 0]) az _ default (by omega)
    obtain ⟨a1, a2, a3, a4, a5, a6⟩ := hs0.ask hS ho hx
    (repeat (first | refine gO rfl ?_ | ((first | ((with_reducible refine yS ?_); refine awp_keep zK31 100 (kS ?_)) | ((with_reducible refine yR ?_); refine awp_keep zK31 100 (kR ?_)) | refine gR ?_ | (with_reducible refine wM ?_ ?_) | ((with_reducible refine xR ?_); refine awp_keep zK31 100 (uE 7 zM31 zP1DE zP1DP 116 rfl (by kernel_rfl) ?_)) | ((with_reducible refine xR ?_); refine awp_keep zK31 100 (uE 15 zM31 zP1EE zP1EP 116 rfl (by kernel_rfl) ?_))) <;> ((try with_reducible intro K1 hK1); simp only [go_sem, ↓reduceIte, reduceCtorEq, nA, nB, nC, nD, nE, nF, hH0, hz0, hgz, nG, nH, nI] <;> and_intros <;> first | (apply hK1; clear hK1 K1) | (intros; first | omega | decide | (simp_all <;> omega)) | skip))))
    refine (g_passP d _ _ _ h o k out (v8 _ (getD_mem' kids _ default hx)) a1 a2 a3 a4 a5 a6).mono ?_
    intro r h3 hres
    obtain ⟨cs2, ks2, out2, hs2⟩ := hs0.next (by omega) hS ho hx (v8 _ (getD_mem' kids _ default hx)) hres
    obtain ⟨rfl, _⟩ := hres
    refine hK1 _ ?_; clear hK1 K1
    (repeat (first | refine gO rfl ?_ | ((first | ((with_reducible refine yS ?_); refine awp_keep zK31 100 (kS ?_)) | ((with_reducible refine yR ?_); refine awp_keep zK31 100 (kR ?_)) | refine gR ?_ | (with_reducible refine wM ?_ ?_) | ((with_reducible refine xR ?_); refine awp_keep zK31 100 (uE 7 zM31 zP1DE zP1DP 116 rfl (by kernel_rfl) ?_)) | ((with_reducible refine xR ?_); refine awp_keep zK31 100 (uE 15 zM31 zP1EE zP1EP 116 rfl (by kernel_rfl) ?_))) <;> ((try with_reducible intro K1 hK1); simp only [go_sem, ↓reduceIte, reduceCtorEq, nA, nB, nC, nD, nE, nF, nG, nH, nI] <;> and_intros <;> first | (apply hK1; clear hK1 K1) | (intros; first | omega | decide | (simp_all <;> omega)) | skip))))
    exact ⟨h3, cs2, ks2, out2, by rw [hix]; exact hs2, rfl⟩
   ·have hs0 : St2 d (.mk 4 item long many kids shares) kids (.mk i c0 az) p h o k out ((cs, ks), []) h cs ks out := ⟨hR, hO, hfr0, ⟨⟨l2, l4⟩, hB.2.1, hB.2.2⟩, by omega, fun _ => ⟨rfl, by simp⟩, fun h => by simp only [List.length_nil] at h; omega⟩
    obtain ⟨⟨tk, hC0⟩, hz0⟩ := hs0.cells (v3 (by omega))
    have hKe := hH0.symm.trans hC0
    simp only [Option.some.injEq, AO.cells.injEq, List.cons.injEq, true_and, and_true] at hKe
    subst hKe
    (repeat (first | refine gO rfl ?_ | ((first | ((with_reducible refine yS ?_); refine awp_keep zK31 100 (kS ?_)) | ((with_reducible refine yR ?_); refine awp_keep zK31 100 (kR ?_)) | refine gR ?_ | (with_reducible refine wM ?_ ?_) | ((with_reducible refine xR ?_); refine awp_keep zK31 100 (uE 7 zM31 zP1DE zP1DP 116 rfl (by kernel_rfl) ?_)) | ((with_reducible refine xR ?_); refine awp_keep zK31 100 (uE 15 zM31 zP1EE zP1EP 116 rfl (by kernel_rfl) ?_))) <;> ((try with_reducible intro K1 hK1); simp only [go_sem, ↓reduceIte, reduceCtorEq, nA, nB, nC, nD, nE, nF, hH0, nG, nH, nI] <;> and_intros <;> first | (apply hK1; clear hK1 K1) | (intros; first | omega | decide | (simp_all <;> omega)) | skip))))
    refine awp_cond (t := _) rfl (fun h1 => by cases h1) (fun _ => ?_)
    (repeat (first | refine gO rfl ?_ | ((first | ((with_reducible refine yS ?_); refine awp_keep zK31 100 (kS ?_)) | ((with_reducible refine yR ?_); refine awp_keep zK31 100 (kR ?_)) | refine gR ?_ | (with_reducible refine wM ?_ ?_) | ((with_reducible refine xR ?_); refine awp_keep zK31 100 (uE 7 zM31 zP1DE zP1DP 116 rfl (by kernel_rfl) ?_)) | ((with_reducible refine xR ?_); refine awp_keep zK31 100 (uE 15 zM31 zP1EE zP1EP 116 rfl (by kernel_rfl) ?_))) <;> ((try with_reducible intro K1 hK1); simp only [go_sem, ↓reduceIte, reduceCtorEq, nA, nB, nC, nD, nE, nF, hH0, nG, nH, nI] <;> and_intros <;> first | (apply hK1; clear hK1 K1) | (intros; first | omega | decide | (simp_all <;> omega)) | skip))))
    refine awp_cond (t := _) rfl (fun h1 => by cases h1) (fun _ => ?_)
    (repeat (first | refine gO rfl ?_ | ((first | ((with_reducible refine yS ?_); refine awp_keep zK31 100 (kS ?_)) | ((with_reducible refine yR ?_); refine awp_keep zK31 100 (kR ?_)) | refine gR ?_ | (with_reducible refine wM ?_ ?_) | ((with_reducible refine xR ?_); refine awp_keep zK31 100 (uE 7 zM31 zP1DE zP1DP 116 rfl (by kernel_rfl) ?_)) | ((with_reducible refine xR ?_); refine awp_keep zK31 100 (uE 15 zM31 zP1EE zP1EP 116 rfl (by kernel_rfl) ?_))) <;> ((try with_reducible intro K1 hK1); simp only [go_sem, ↓reduceIte, reduceCtorEq, nA, nB, nC, nD, nE, nF, hH0, nG, nH, nI] <;> and_intros <;> first | (apply hK1; clear hK1 K1) | (intros; first | omega | decide | (simp_all <;> omega)) | skip))))
    refine awp_cond (t := _) rfl (fun h1 => by cases h1) (fun _ => ?_)
    (repeat (first | refine gO rfl ?_ | ((first | ((with_reducible refine yS ?_); refine awp_keep zK31 100 (kS ?_)) | ((with_reducible refine yR ?_); refine awp_keep zK31 100 (kR ?_)) | refine gR ?_ | (with_reducible refine wM ?_ ?_) | ((with_reducible refine xR ?_); refine awp_keep zK31 100 (uE 7 zM31 zP1DE zP1DP 116 rfl (by kernel_rfl) ?_)) | ((with_reducible refine xR ?_); refine awp_keep zK31 100 (uE 15 zM31 zP1EE zP1EP 116 rfl (by kernel_rfl) ?_))) <;> ((try with_reducible intro K1 hK1); simp only [go_sem, ↓reduceIte, reduceCtorEq, nA, nB, nC, nD, nE, nF, hH0, nG, nH, nI] <;> and_intros <;> first | (apply hK1; clear hK1 K1) | (intros; first | omega | decide | (simp_all <;> omega)) | skip))))
    refine awp_cond (t := _) rfl (fun _ => ?_) (fun h1 => by cases h1)
    have hsl := v5 rfl
    have hnk : 0 < kids.length := List.length_pos_iff.2 (v3 (by omega))
    have hx : nextF shares p cs < kids.length := by rw [← hsl]; exact bestTo_lt _ _ (by omega)
    have hix : idxL 4 p many kids.length (nextF shares p cs) = [nextF shares p cs] := by simp [idxL]
    have hT0 : h.T c0 = some (.cont 1 (cs.map encI)) := hT
    have hH4 := hH0
    rw [← hsl] at hH4
    (repeat (first | refine gO rfl ?_ | ((first | ((with_reducible refine yS ?_); refine awp_keep zK31 100 (kS ?_)) | ((with_reducible refine yR ?_); refine awp_keep zK31 100 (kR ?_)) | refine gR ?_ | (with_reducible refine wM ?_ ?_) | ((with_reducible refine xR ?_); refine awp_keep zK31 100 (uE 7 zM31 zP1DE zP1DP 116 rfl (by kernel_rfl) ?_)) | ((with_reducible refine xR ?_); refine awp_keep zK31 100 (uE 15 zM31 zP1EE zP1EP 116 rfl (by kernel_rfl) ?_))) <;> ((try with_reducible intro K1 hK1); simp only [go_sem, ↓reduceIte, reduceCtorEq, nA, nB, nC, nD, nE, nF, nG, nH, nI] <;> and_intros <;> first | (apply hK1; clear hK1 K1) | (intros; first | omega | decide | (simp_all <;> omega)) | skip))))
    refine (g_behind45 4 item long many (.row 6 (kids.map encL) none) shares (.row 1 (az.map fun a => [.ptr a.id 0]) tk) p i c0 cs h hH4 hT0 (by omega) (by omega) v6 (by omega) hcn).mono ?_; rintro _ hz ⟨rfl, hh⟩; apply hK1; clear hK1 K1; rw [hh]; clear hh hz
    have hcl : cs.length = kids.length := l2
    have hgc : (cs.map encI).getD (nextF shares p cs) [] = encI (cs.getD (nextF shares p cs) 0) := getD_enc encI cs _ 0 (by omega)
    have hcb := hcn _ (getD_mem' cs (nextF shares p cs) 0 (by omega))
    have hgz : (az.map fun a : AT => [AV.ptr a.id 0]).getD (nextF shares p cs) [] = [.ptr (az.getD (nextF shares p cs) default).id 0] := getD_enc (fun a : AT => [AV.ptr a.id 0]) az _ default (by omega)
    generalize hxe : nextF shares p cs = x at *
    (repeat (first | refine gO rfl ?_ | ((first | ((with_reducible refine yS ?_); refine awp_keep zK31 100 (kS ?_)) | ((with_reducible refine yR ?_); refine awp_keep zK31 100 (kR ?_)) | refine gR ?_ | (with_reducible refine wM ?_ ?_) | ((with_reducible refine xR ?_); refine awp_keep zK31 100 (uE 7 zM31 zP1DE zP1DP 116 rfl (by kernel_rfl) ?_)) | ((with_reducible refine xR ?_); refine awp_keep zK31 100 (uE 15 zM31 zP1EE zP1EP 116 rfl (by kernel_rfl) ?_))) <;> ((try with_reducible intro K1 hK1); simp only [go_sem, ↓reduceIte, reduceCtorEq, nA, nB, nC, nD, nE, nF, hH0, hT0, hcl, hgc, hz0, hgz, Int.toNat_natCast, encI, nG, nH, nI] <;> and_intros <;> first | (apply hK1; clear hK1 K1) | (intros; first | omega | decide | (simp_all <;> omega)) | skip))))
    have hck : c0 ≠ k := fun e => hkt (by rw [toksT_eq, e]; simp)
    have hR4 := hR.count hS (cs' := cs.set x (cs.getD x 0 + 1)) (by simp) (by simp [XP]; omega)
    rw [show XP.cf 4 (cs.set x (cs.getD x 0 + 1)) = cs.set x (cs.getD x 0 + 1) from rfl, List.map_set] at hR4
    have hO4 : OutAt { h with T := upd h.T c0 (some (.cont 1 ((cs.map encI).set x (encI (cs.getD x 0 + 1))))) } o k oEx out := ⟨hO.1, (upd_other _ _ (fun e => hck e.symm)).trans hO.2⟩
    have hk4 := hR4.2.2.2 x hx
    have hF4 : FrP (.mk i c0 az) o k h { h with T := upd h.T c0 (some (.cont 1 ((cs.map encI).set x (encI (cs.getD x 0 + 1))))) } := ⟨fun _ _ _ => rfl, fun y hy _ => upd_other _ _ (fun e => hy (by rw [toksT_eq, e]; simp))⟩
    refine (g_passP d _ _ _ _ o k out (v8 _ (getD_mem' kids x default hx)) hk4 (hS x (by omega)).1.2.2 (hB.2.2 x hx) hO4 (fun hh => ho (idsT_kid (by omega) hh)) hout).mono ?_
    rintro r h3 ⟨rfl, s', out2, r1, r2, r3, r4⟩
    refine hK1 _ ?_; clear hK1 K1
    (repeat (first | refine gO rfl ?_ | ((first | ((with_reducible refine yS ?_); refine awp_keep zK31 100 (kS ?_)) | ((with_reducible refine yR ?_); refine awp_keep zK31 100 (kR ?_)) | refine gR ?_ | (with_reducible refine wM ?_ ?_) | ((with_reducible refine xR ?_); refine awp_keep zK31 100 (uE 7 zM31 zP1DE zP1DP 116 rfl (by kernel_rfl) ?_)) | ((with_reducible refine xR ?_); refine awp_keep zK31 100 (uE 15 zM31 zP1EE zP1EP 116 rfl (by kernel_rfl) ?_))) <;> ((try with_reducible intro K1 hK1); simp only [go_sem, ↓reduceIte, reduceCtorEq, nA, nB, nC, nD, nE, nF, nG, nH, nI] <;> and_intros <;> first | (apply hK1; clear hK1 K1) | (intros; first | omega | decide | (simp_all <;> omega)) | skip))))
    have hst := hs0.2.2.2.step hx (v8 _ (getD_mem' kids x default hx)) hk4.fits r4
    rw [if_pos (by simp only [List.length_nil]; omega)] at hst
    exact ⟨h3, _, _, out2, ⟨hR4.kid hS ho (hR4.tokNe hO4.2) hx r1 r3, r2, hF4.trans (r3.kid (by omega)), by rw [hxe, hix]; exact hst⟩, rfl⟩
   ·have hs0 : St2 d (.mk 5 item long many kids shares) kids (.mk i c0 az) p h o k out ((cs, ks), []) h cs ks out := ⟨hR, hO, hfr0, ⟨⟨l2, l4⟩, hB.2.1, hB.2.2⟩, by omega, fun _ => ⟨rfl, by simp⟩, fun h => by simp only [List.length_nil] at h; omega⟩
    obtain ⟨⟨tk, hC0⟩, hz0⟩ := hs0.cells (v3 (by omega))
    have hKe := hH0.symm.trans hC0
    simp only [Option.some.injEq, AO.cells.injEq, List.cons.injEq, true_and, and_true] at hKe
    subst hKe
    (repeat (first | refine gO rfl ?_ | ((first | ((with_reducible refine yS ?_); refine awp_keep zK31 100 (kS ?_)) | ((with_reducible refine yR ?_); refine awp_keep zK31 100 (kR ?_)) | refine gR ?_ | (with_reducible refine wM ?_ ?_) | ((with_reducible refine xR ?_); refine awp_keep zK31 100 (uE 7 zM31 zP1DE zP1DP 116 rfl (by kernel_rfl) ?_)) | ((with_reducible refine xR ?_); refine awp_keep zK31 100 (uE 15 zM31 zP1EE zP1EP 116 rfl (by kernel_rfl) ?_))) <;> ((try with_reducible intro K1 hK1); simp only [go_sem, ↓reduceIte, reduceCtorEq, nA, nB, nC, nD, nE, nF, hH0, nG, nH, nI] <;> and_intros <;> first | (apply hK1; clear hK1 K1) | (intros; first | omega | decide | (simp_all <;> omega)) | skip))))
    refine awp_cond (t := _) rfl (fun h1 => by cases h1) (fun _ => ?_)
    (repeat (first | refine gO rfl ?_ | ((first | ((with_reducible refine yS ?_); refine awp_keep zK31 100 (kS ?_)) | ((with_reducible refine yR ?_); refine awp_keep zK31 100 (kR ?_)) | refine gR ?_ | (with_reducible refine wM ?_ ?_) | ((with_reducible refine xR ?_); refine awp_keep zK31 100 (uE 7 zM31 zP1DE zP1DP 116 rfl (by kernel_rfl) ?_)) | ((with_reducible refine xR ?_); refine awp_keep zK31 100 (uE 15 zM31 zP1EE zP1EP 116 rfl (by kernel_rfl) ?_))) <;> ((try with_reducible intro K1 hK1); simp only [go_sem, ↓reduceIte, reduceCtorEq, nA, nB, nC, nD, nE, nF, hH0, nG, nH, nI] <;> and_intros <;> first | (apply hK1; clear hK1 K1) | (intros; first | omega | decide | (simp_all <;> omega)) | skip))))
    refine awp_cond (t := _) rfl (fun h1 => by cases h1) (fun _ => ?_)
    (repeat (first | refine gO rfl ?_ | ((first | ((with_reducible refine yS ?_); refine awp_keep zK31 100 (kS ?_)) | ((with_reducible refine yR ?_); refine awp_keep zK31 100 (kR ?_)) | refine gR ?_ | (with_reducible refine wM ?_ ?_) | ((with_reducible refine xR ?_); refine awp_keep zK31 100 (uE 7 zM31 zP1DE zP1DP 116 rfl (by kernel_rfl) ?_)) | ((with_reducible refine xR ?_); refine awp_keep zK31 100 (uE 15 zM31 zP1EE zP1EP 116 rfl (by kernel_rfl) ?_))) <;> ((try with_reducible intro K1 hK1); simp only [go_sem, ↓reduceIte, reduceCtorEq, nA, nB, nC, nD, nE, nF, hH0, nG, nH, nI] <;> and_intros <;> first | (apply hK1; clear hK1 K1) | (intros; first | omega | decide | (simp_all <;> omega)) | skip))))
    refine awp_cond (t := _) rfl (fun h1 => by cases h1) (fun _ => ?_)
    (repeat (first | refine gO rfl ?_ | ((first | ((with_reducible refine yS ?_); refine awp_keep zK31 100 (kS ?_)) | ((with_reducible refine yR ?_); refine awp_keep zK31 100 (kR ?_)) | refine gR ?_ | (with_reducible refine wM ?_ ?_) | ((with_reducible refine xR ?_); refine awp_keep zK31 100 (uE 7 zM31 zP1DE zP1DP 116 rfl (by kernel_rfl) ?_)) | ((with_reducible refine xR ?_); refine awp_keep zK31 100 (uE 15 zM31 zP1EE zP1EP 116 rfl (by kernel_rfl) ?_))) <;> ((try with_reducible intro K1 hK1); simp only [go_sem, ↓reduceIte, reduceCtorEq, nA, nB, nC, nD, nE, nF, hH0, nG, nH, nI] <;> and_intros <;> first | (apply hK1; clear hK1 K1) | (intros; first | omega | decide | (simp_all <;> omega)) | skip))))
    refine awp_cond (t := _) rfl (fun h1 => by cases h1) (fun _ => ?_)
    have hm5 := v4 rfl
    have hx : 0 < kids.length := by omega
    (repeat (first | refine gO rfl ?_ | ((first | ((with_reducible refine yS ?_); refine awp_keep zK31 100 (kS ?_)) | ((with_reducible refine yR ?_); refine awp_keep zK31 100 (kR ?_)) | refine gR ?_ | (with_reducible refine wM ?_ ?_) | ((with_reducible refine xR ?_); refine awp_keep zK31 100 (uE 7 zM31 zP1DE zP1DP 116 rfl (by kernel_rfl) ?_)) | ((with_reducible refine xR ?_); refine awp_keep zK31 100 (uE 15 zM31 zP1EE zP1EP 116 rfl (by kernel_rfl) ?_))) <;> ((try with_reducible intro K1 hK1); simp only [go_sem, ↓reduceIte, reduceCtorEq, nA, nB, nC, nD, nE, nF, hH0, nG, nH, nI] <;> and_intros <;> first | (apply hK1; clear hK1 K1) | (intros; first | omega | decide | (simp_all <;> omega)) | skip))))
    have hix : idxL 5 p many kids.length (nextF shares p cs) = List.replicate many.toNat 0 := by simp [idxL]
    refine awp_loopC (rl false [0, 2, 16, 2, 96]) 0 (fun g s => ∃ (j : Nat) (h1 : Hp) (cs' : List Int) (ks' : List PS) (out' : List (ByteArray × Int)), g + j = many.toNat ∧ St2 d (.mk 5 item long many kids shares) kids (.mk i c0 az) p h o k out ((List.replicate j 0).foldl (stepU (passU d) kids) ((cs, ks), [])) h1 cs' ks' out' ∧
     s = ⟨((.ptr i 0) :: (.ptr o 0) :: (jnk 16 ((.v (.int .i64 many)) :: (.v (.int .i64 j)) :: (jnk 96 [])))), [], h1⟩) many.toNat ⟨0, h, cs, ks, out, by omega, hs0, rfl⟩ ?_
    rintro g _ ⟨j, h1, cs', ks', out', hj, hs, rfl⟩
    (repeat (first | refine gO rfl ?_ | ((first | ((with_reducible refine yS ?_); refine awp_keep zK31 100 (kS ?_)) | ((with_reducible refine yR ?_); refine awp_keep zK31 100 (kR ?_)) | refine gR ?_ | (with_reducible refine wM ?_ ?_) | ((with_reducible refine xR ?_); refine awp_keep zK31 100 (uE 7 zM31 zP1DE zP1DP 116 rfl (by kernel_rfl) ?_)) | ((with_reducible refine xR ?_); refine awp_keep zK31 100 (uE 15 zM31 zP1EE zP1EP 116 rfl (by kernel_rfl) ?_))) <;> ((try with_reducible intro K1 hK1); simp only [go_sem, ↓reduceIte, reduceCtorEq, nA, nB, nC, nD, nE, nF, nG, nH, nI] <;> and_intros <;> first | (apply hK1; clear hK1 K1) | (intros; first | omega | decide | (simp_all <;> omega)) | skip))))
    refine awp_cond (t := _) rfl (fun h2 => ?_) (fun h2 => ?_)
    ·simp only [decide_eq_true_eq] at h2
     have hgz : (az.map fun a : AT => [AV.ptr a.id 0]).getD 0 [] = [.ptr (az.getD 0 default).id 0] := getD_enc (fun a : AT => [AV.ptr a.id 0]) az 0 default (by omega)
     obtain ⟨a1, a2, a3, a4, a5, a6⟩ := hs.ask hS ho hx
     obtain ⟨⟨tk1, hC1⟩, _⟩ := hs.cells (v3 (by omega))
     have hgz0 : ∀ tz, (az.map fun a : AT => [AV.ptr a.id 0]).getD (Int.toNat 0) tz = (az.map fun a : AT => [AV.ptr a.id 0]).getD 0 tz := fun _ => rfl
     (repeat (first | refine gO rfl ?_ | ((first | ((with_reducible refine yS ?_); refine awp_keep zK31 100 (kS ?_)) | ((with_reducible refine yR ?_); refine awp_keep zK31 100 (kR ?_)) | refine gR ?_ | (with_reducible refine wM ?_ ?_) | ((with_reducible refine xR ?_); refine awp_keep zK31 100 (uE 7 zM31 zP1DE zP1DP 116 rfl (by kernel_rfl) ?_)) | ((with_reducible refine xR ?_); refine awp_keep zK31 100 (uE 15 zM31 zP1EE zP1EP 116 rfl (by kernel_rfl) ?_))) <;> ((try with_reducible intro K1 hK1); simp only [go_sem, ↓reduceIte, reduceCtorEq, nA, nB, nC, nD, nE, nF, hC1, hgz0, hgz, hz0, nG, nH, nI] <;> and_intros <;> first | (apply hK1; clear hK1 K1) | (intros; first | omega | decide | (simp_all <;> omega)) | skip))))
     refine (g_passP d _ _ _ h1 o k out' (v8 _ (getD_mem' kids 0 default hx)) a1 a2 a3 a4 a5 a6).mono ?_
     intro r h3 hres
     obtain ⟨cs2, ks2, out2, hs2⟩ := hs.next (by omega) hS ho hx (v8 _ (getD_mem' kids 0 default hx)) hres
     obtain ⟨rfl, _⟩ := hres
     refine hK1 _ ?_; clear hK1 K1
     (repeat (first | refine gO rfl ?_ | ((first | ((with_reducible refine yS ?_); refine awp_keep zK31 100 (kS ?_)) | ((with_reducible refine yR ?_); refine awp_keep zK31 100 (kR ?_)) | refine gR ?_ | (with_reducible refine wM ?_ ?_) | ((with_reducible refine xR ?_); refine awp_keep zK31 100 (uE 7 zM31 zP1DE zP1DP 116 rfl (by kernel_rfl) ?_)) | ((with_reducible refine xR ?_); refine awp_keep zK31 100 (uE 15 zM31 zP1EE zP1EP 116 rfl (by kernel_rfl) ?_))) <;> ((try with_reducible intro K1 hK1); simp only [go_sem, ↓reduceIte, reduceCtorEq, nA, nB, nC, nD, nE, nF, nG, nH, nI] <;> and_intros <;> first | (apply hK1; clear hK1 K1) | (intros; first | omega | decide | (simp_all <;> omega)) | skip))))
     exact ⟨g - 1, by omega, j + 1, h3, cs2, ks2, out2, by omega, by rw [List.replicate_succ', List.foldl_append]; exact hs2, rfl⟩
    ·simp only [decide_eq_false_iff_not] at h2
     have hjk : j = many.toNat := by omega
     subst hjk
     (repeat (first | refine gO rfl ?_ | ((first | ((with_reducible refine yS ?_); refine awp_keep zK31 100 (kS ?_)) | ((with_reducible refine yR ?_); refine awp_keep zK31 100 (kR ?_)) | refine gR ?_ | (with_reducible refine wM ?_ ?_) | ((with_reducible refine xR ?_); refine awp_keep zK31 100 (uE 7 zM31 zP1DE zP1DP 116 rfl (by kernel_rfl) ?_)) | ((with_reducible refine xR ?_); refine awp_keep zK31 100 (uE 15 zM31 zP1EE zP1EP 116 rfl (by kernel_rfl) ?_))) <;> ((try with_reducible intro K1 hK1); simp only [go_sem, ↓reduceIte, reduceCtorEq, nA, nB, nC, nD, nE, nF, nG, nH, nI] <;> and_intros <;> first | (apply hK1; clear hK1 K1) | (intros; first | omega | decide | (simp_all <;> omega)) | skip))))
     exact ⟨h1, cs', ks', out', by rw [hix]; exact hs, rfl⟩
  ·rintro _ ⟨h1, cs', ks', out', ⟨g1, g2, g3, g4⟩, rfl⟩
   obtain ⟨⟨K1', hH1, hK1'⟩, hT1, ⟨m1, m2, m3, m4⟩, hk1⟩ := id g1
   have hH10 : h1.H i = some (.cells [.v (.int .i64 kind), .v (.string item), .v (.int .i64 long), .v (.int .i64 many), .row 6 (kids.map encL) none, .row 1 (shares.map encI) none, K1', .v (.int .i64 p), .arr 1 c0 kids.length, .v (.int .i64 shares.sum)]) := hH1
   have hoi : o ≠ i := fun e => ho (by rw [idsT_eq, e]; simp)
   have hPS := passU_succ d kind item long many kids shares p cs ks
   have hpo := passU_ok (d + 1) _ _ out.length hv hfit (by omega) hB
   generalize (idxL kind p many kids.length (nextF shares p cs)).foldl (stepU (passU d) kids) ((cs, ks), if kind = 1 then [(item, long)] else []) = acc at *
   (repeat (first | refine gO rfl ?_ | ((first | ((with_reducible refine yS ?_); refine awp_keep zK31 100 (kS ?_)) | ((with_reducible refine yR ?_); refine awp_keep zK31 100 (kR ?_)) | refine gR ?_ | (with_reducible refine wM ?_ ?_) | ((with_reducible refine xR ?_); refine awp_keep zK31 100 (uE 7 zM31 zP1DE zP1DP 116 rfl (by kernel_rfl) ?_)) | ((with_reducible refine xR ?_); refine awp_keep zK31 100 (uE 15 zM31 zP1EE zP1EP 116 rfl (by kernel_rfl) ?_))) <;> ((try with_reducible intro K1 hK1); simp only [go_sem, ↓reduceIte, reduceCtorEq, nA, nB, nC, nD, nE, nF, hH10, nG, nH, nI] <;> and_intros <;> first | (apply hK1; clear hK1 K1) | (intros; first | omega | decide | (simp_all <;> omega)) | skip))))
   simp only [retQ, Tryz.results76, resV, resL]
   refine ⟨_, _, Weak.refl _, Hp.le.refl _, rfl, .mk (p + 1) cs' ks', out', g1.hadOne hS hK1', ⟨(upd_other _ _ hoi).trans g2.1, g2.2⟩, g3.trans ⟨fun y hy _ => upd_other _ _ (fun e => hy (by rw [idsT_eq, e]; simp)), fun _ _ _ => rfl⟩, fun h => by omega, fun _ hle => ?_, fun _ hlt => ?_⟩
   ·rw [hPS] at hle ⊢
    obtain ⟨e1, e2⟩ := g4.2.2.1 hle
    have e3 : acc.1.1 = cs' := by rw [← e1]
    have e4 : acc.1.2 = ks' := by rw [← e1]
    exact ⟨by rw [e3, e4], e2⟩
   ·rw [hPS] at hlt
    have e5 := g4.2.2.2 hlt
    refine ⟨e5, ⟨by omega, ?_, ?_⟩⟩
    ·have := g4.1.2.1; rw [e5] at this; exact this
    ·have := g4.1.2.2; rw [e5] at this; exact this
noncomputable def roundC (d : Nat) (t : LT) : List AV := [.v (.int .i64 (roundN d t : Nat)), .row 2 ((roundS d t).map encStep) none, .v (.int .i64 ((roundS d t).map (·.2)).sum)]
theorem roundS_some {d : Nat} {t : LT} {N : Nat} (h : RoundIs d t N) : roundS d t = (passesU d t N).2 ∧ roundE d t = 0 ∧ roundN d t = N := by
 have e := roundN_some h
 have h1 := h.1.1
 exact ⟨by rw [roundS, if_neg (by omega), e], by rw [roundE, if_neg (by omega)], e⟩
theorem roundS_none {d : Nat} {t : LT} (e : roundN d t = 0) : roundS d t = [] ∧ roundE d t = 2 := ⟨by rw [roundS, if_pos e], by rw [roundE, if_pos e]⟩
theorem roundC_none {d : Nat} {t : LT} (e : roundN d t = 0) : roundC d t = [.v (.int .i64 0), .row 2 [] none, .v (.int .i64 0)] := by
 rw [roundC, e, (roundS_none e).1]; rfl
theorem passesU_len (d : Nat) (t : LT) (j : Nat) : (passesU d t (j + 1)).2.length = (passesU d t j).2.length + (passU d t (passesU d t j).1).2.length := by simp only [passesU, List.length_append]
theorem sum_bdS (xs : List (ByteArray × Int)) (h : ∀ x ∈ xs, 1 ≤ x.2 ∧ x.2 ≤ 3600000) : 0 ≤ (xs.map (·.2)).sum ∧ (xs.map (·.2)).sum ≤ xs.length * 3600000 := by
 induction xs with
 | nil => simp
 | cons y l ih => have := h y (by simp); have := ih fun z hz => h z (by simp [hz]); simp only [List.map_cons, List.sum_cons, List.length_cons]; omega
theorem g_roundP (d : Nat) (t : LT) (h : Hp) (hb : KC d t) (hv : VL d t) (hil : IL d t) : ACalls Tryz.prog 79 [.agg (encL t)] h (fun r _ => r = .tup [.agg (roundC d t), .v (.int .i64 (roundE d t))]) := by
 have hlen := encL_len t
 have htk : List.take 6 (encL t) = encL t := List.take_of_length_le (Nat.le_of_eq hlen)
 have hdk : List.drop 6 (encL t) = [] := List.drop_of_length_le (Nat.le_of_eq hlen)
 refine gE Tryz.func79 rfl (by kernel_rfl) 56 rfl fun c => ?_
 (repeat (first | refine gQ rfl ?_ | (refine gM zM32 fun K1 hK1 => ?_; simp only [go_sem, ↓reduceIte, reduceCtorEq, nA, nB, nC, nD, nE, nF, hlen, htk, hdk] <;> and_intros <;> first | (apply hK1; clear hK1 K1) | (intros; first | omega | decide | (simp_all <;> omega)) | skip)))
 refine (g_newPart d t h hb).mono ?_
 rintro _ h1 ⟨a, rfl, hR, hS, hn1, hn2, hk1, hk2⟩
 refine hK1 _ ?_; clear hK1 K1
 first | refine gO rfl ?_ | (refine gM zM32 fun K1 hK1 => ?_; simp only [go_sem, ↓reduceIte, reduceCtorEq, nA, nB, nC, nD, nE, nF] <;> and_intros <;> first | (apply hK1; clear hK1 K1) | (intros; first | omega | decide | (simp_all <;> omega)) | skip)
 intro o ho
 refine hK1 _ ?_; clear hK1 K1
 refine vRem_nil ?_
 refine awp_ownPtr (cs := [.v (.slice none 0 0), .v (.int .i64 5000)]) o 0 2 (upd_same _ _ _) rfl (fun k hk => ?_)
 simp only [List.set_cons_zero, upd_upd]
 replace hk : h1.T k = none := hk
 replace ho : h1.H o = none := ho
 have hoa : o ∉ idsT a := fun hx => hR.ne.1 o hx ho
 have hka : k ∉ toksT a := fun hx => hR.ne.2 k hx hk
 have hok := passesU_ok d t hv
 (repeat (first | refine gQ rfl ?_ | (refine gM zM32 fun K1 hK1 => ?_; simp only [go_sem, ↓reduceIte, reduceCtorEq, nA, nB, nC, nD, nE, nF] <;> and_intros <;> first | (apply hK1; clear hK1 K1) | (intros; first | omega | decide | (simp_all <;> omega)) | skip)))
 refine awp_seq ?_
 refine awp_block ?_
 refine awp_loopC (rl false [2, 1, 1, 3, 50]) 2 (fun g s => ∃ (j : Nat) (h2 : Hp), g + j = 5001 ∧ (passesU d t j).2.length ≤ 5000 ∧ (∀ n, 1 ≤ n → n < j → homeF d t (passesU d t n).1 = false) ∧ RAt XP h2 d t a (passesU d t j).1 ∧ OutAt h2 o k oEx (passesU d t j).2 ∧
  s = ⟨(AV.junk :: AV.junk :: ((.loc 0 0) :: AV.junk :: ((.ptr a.id 0) :: (.ptr o 0) :: (.loc 1 0) :: (jnk 50 [])))), [[.v (.int .i64 0), .v (.slice none 0 0), .v (.int .i64 0)], [.v (.int .i64 j), .v (.slice none 0 0), .v (.int .i64 0)]], h2⟩) 5001 ⟨0, _, by omega, by simp [passesU], fun n h1 h2 => by omega, hR.frame (fun i hi => upd_other _ _ (fun e => hoa (by subst e; exact hi))) (fun c hc => upd_other _ _ (fun e => hka (by subst e; exact hc))), ⟨upd_same _ _ _, upd_same _ _ _⟩, rfl⟩ ?_
 rintro g _ ⟨j, h2, hj, hlj, hnh, hR2, hO2, rfl⟩
 have hj5 : j ≤ 5000 := by have := (hok j).2.2; omega
 (repeat (first | refine gQ rfl ?_ | (refine gM zM32 fun K1 hK1 => ?_; simp only [go_sem, ↓reduceIte, reduceCtorEq, nA, nB, nC, nD, nE, nF] <;> and_intros <;> first | (apply hK1; clear hK1 K1) | (intros; first | omega | decide | (simp_all <;> omega)) | skip)))
 refine awp_seq ?_
 refine awp_join (rl false [2, 1, 1, 3, 50]) 2 (fun s => (∀ n, 1 ≤ n → n ≤ j → homeF d t (passesU d t n).1 = false) ∧ s = ⟨(AV.junk :: AV.junk :: ((.loc 0 0) :: AV.junk :: ((.ptr a.id 0) :: (.ptr o 0) :: (.loc 1 0) :: (jnk 50 [])))), [[.v (.int .i64 0), .v (.slice none 0 0), .v (.int .i64 0)], [.v (.int .i64 j), .v (.slice none 0 0), .v (.int .i64 0)]], h2⟩) ?_ ?_
 ·by_cases hj0 : j = 0
  ·have e0 : ((j : Int) == 0) = true := by simp; omega
   (repeat (first | refine gO rfl ?_ | (refine gM zM32 fun K1 hK1 => ?_; simp only [go_sem, ↓reduceIte, reduceCtorEq, nA, nB, nC, nD, nE, nF, e0] <;> and_intros <;> first | (apply hK1; clear hK1 K1) | (intros; first | omega | decide | (simp_all <;> omega)) | skip)))
   refine ⟨.v (.bool true), rfl, hK1 _ ?_⟩; clear hK1 K1
   (repeat (first | refine gO rfl ?_ | (refine gM zM32 fun K1 hK1 => ?_; simp only [go_sem, ↓reduceIte, reduceCtorEq, nA, nB, nC, nD, nE, nF, e0] <;> and_intros <;> first | (apply hK1; clear hK1 K1) | (intros; first | omega | decide | (simp_all <;> omega)) | skip)))
   refine awp_cond (t := _) rfl (fun _ => ?_) (fun h => by cases h)
   (repeat (first | refine gO rfl ?_ | (refine gM zM32 fun K1 hK1 => ?_; simp only [go_sem, ↓reduceIte, reduceCtorEq, nA, nB, nC, nD, nE, nF] <;> and_intros <;> first | (apply hK1; clear hK1 K1) | (intros; first | omega | decide | (simp_all <;> omega)) | skip)))
   exact ⟨fun n h1 h2 => by omega, rfl⟩
  ·have e0 : ((j : Int) == 0) = false := by simp; omega
   (repeat (first | refine gO rfl ?_ | (refine gM zM32 fun K1 hK1 => ?_; simp only [go_sem, ↓reduceIte, reduceCtorEq, nA, nB, nC, nD, nE, nF, e0] <;> and_intros <;> first | (apply hK1; clear hK1 K1) | (intros; first | omega | decide | (simp_all <;> omega)) | skip)))
   refine (g_beginsG d t a _ h2 hv hR2 ((hok j).1.mono (by omega))).mono ?_; rintro _ hz ⟨rfl, hh⟩; refine ⟨rfl, hK1 _ ?_⟩; clear hK1 K1; rw [hh]; clear hh hz
   (repeat (first | refine gO rfl ?_ | (refine gM zM32 fun K1 hK1 => ?_; simp only [go_sem, ↓reduceIte, reduceCtorEq, nA, nB, nC, nD, nE, nF, e0] <;> and_intros <;> first | (apply hK1; clear hK1 K1) | (intros; first | omega | decide | (simp_all <;> omega)) | skip)))
   cases eh : homeF d t (passesU d t j).1 with
   | true =>
    have hri : RoundIs d t j := ⟨by omega, hlj, eh, hnh⟩
    obtain ⟨r1, r2, r3⟩ := roundS_some hri
    have hlong := passes_long hil j
    have hO20 : h2.H o = some (.cells [.row 2 ((passesU d t j).2.map encStep) (some k), .v (.int .i64 5000)]) := hO2.1
    have hrc : roundC d t = [.v (.int .i64 j), .row 2 ((passesU d t j).2.map encStep) none, .v (.int .i64 ((passesU d t j).2.map (·.2)).sum)] := by rw [roundC, r1, r3]
    rw [hrc, r2]
    refine awp_cond (t := _) rfl (fun h => by cases h) (fun _ => ?_)
    generalize (passesU d t j).2 = xs at *
    (repeat (first | refine gQ rfl ?_ | (refine gM zM32 fun K1 hK1 => ?_; simp only [go_sem, ↓reduceIte, reduceCtorEq, nA, nB, nC, nD, nE, nF, hO20] <;> and_intros <;> first | (apply hK1; clear hK1 K1) | (intros; first | omega | decide | (simp_all <;> omega)) | skip)))
    refine awp_seq ?_
    (repeat (first | refine gO rfl ?_ | (refine gM zM32 fun K1 hK1 => ?_; simp only [go_sem, ↓reduceIte, reduceCtorEq, nA, nB, nC, nD, nE, nF] <;> and_intros <;> first | (apply hK1; clear hK1 K1) | (intros; first | omega | decide | (simp_all <;> omega)) | skip)))
    refine awp_loopC (rl false [2, 1, 3, 1, 36, 3, 11]) 2 (fun g s => ∃ m : Nat, g + m = xs.length ∧ s = ⟨(AV.junk :: AV.junk :: ((.loc 0 0) :: (jnk 3 ((.loc 1 0) :: (jnk 36 ((.row 2 (xs.map encStep) (some k)) :: (.v (.int .i64 xs.length)) :: (.v (.int .i64 m)) :: (jnk 11 []))))))),
     [[.v (.int .i64 0), .v (.slice none 0 0), .v (.int .i64 0)], [.v (.int .i64 j), .row 2 (xs.map encStep) (some k), .v (.int .i64 ((xs.map (·.2)).take m).sum)]], h2⟩) xs.length ⟨0, by omega, rfl⟩ ?_
    rintro g2 _ ⟨m, hm, rfl⟩
    have hsb : 0 ≤ ((xs.map (·.2)).take m).sum ∧ ((xs.map (·.2)).take m).sum ≤ 5000 * 3600000 := by
     have h9 := sum_bdS (xs.take m) fun x hx => hlong x (List.mem_of_mem_take hx)
     rw [← List.map_take]
     have h10 : ((xs.take m).length : Int) ≤ 5000 := by simp; omega
     omega
    (repeat (first | refine gO rfl ?_ | (refine gM zM32 fun K1 hK1 => ?_; simp only [go_sem, ↓reduceIte, reduceCtorEq, nA, nB, nC, nD, nE, nF] <;> and_intros <;> first | (apply hK1; clear hK1 K1) | (intros; first | omega | decide | (simp_all <;> omega)) | skip)))
    refine awp_cond (t := _) rfl (fun h9 => ?_) (fun h9 => ?_)
    ·simp only [decide_eq_true_eq] at h9
     have hmx : m < xs.length := by omega
     have hgx : (xs.map encStep).getD m [] = encStep (xs.getD m default) := getD_enc encStep xs m default hmx
     have hxb := hlong _ (getD_mem' xs m default hmx)
     have e9 : ((xs.map (·.2)).take (m + 1)).sum = ((xs.map (·.2)).take m).sum + (xs.getD m default).2 := by
      rw [sum_take_succ _ _ (by simpa using hmx)]
      congr 1
      rw [List.getD_eq_getElem?_getD, List.getD_eq_getElem?_getD, List.getElem?_map, List.getElem?_eq_getElem hmx]; rfl
     generalize xs.getD m default = y at hgx hxb e9
     (repeat (first | refine gO rfl ?_ | (refine gM zM32 fun K1 hK1 => ?_; simp only [go_sem, ↓reduceIte, reduceCtorEq, nA, nB, nC, nD, nE, nF, Int.toNat_natCast, hgx, encStep] <;> and_intros <;> first | (apply hK1; clear hK1 K1) | (intros; first | omega | decide | (simp_all <;> omega)) | skip)))
     refine ⟨g2 - 1, by omega, m + 1, by omega, ?_⟩
     rw [e9]; rfl
    ·simp only [decide_eq_false_iff_not] at h9
     have hmx : m = xs.length := by omega
     rw [List.take_of_length_le (by simp; omega)] at hsb ⊢
     (repeat (first | refine gO rfl ?_ | (refine gM zM32 fun K1 hK1 => ?_; simp only [go_sem, ↓reduceIte, reduceCtorEq, nA, nB, nC, nD, nE, nF] <;> and_intros <;> first | (apply hK1; clear hK1 K1) | (intros; first | omega | decide | (simp_all <;> omega)) | skip)))
     simp only [Tryz.results79, go_sem, ↓reduceIte, reduceCtorEq, nA, nB, nC, nD, nE, nF]
     refine ⟨_, _, Weak.tup1 (Weak.agg (.cons (Weak.refl _) (.cons (Weak.row _ _ _) (.cons (Weak.refl _) .nil)))) (Weak.refl _), Hp.le.refl _, rfl⟩
   | false =>
    refine awp_cond (t := _) rfl (fun _ => ?_) (fun h => by cases h)
    (repeat (first | refine gO rfl ?_ | (refine gM zM32 fun K1 hK1 => ?_; simp only [go_sem, ↓reduceIte, reduceCtorEq, nA, nB, nC, nD, nE, nF] <;> and_intros <;> first | (apply hK1; clear hK1 K1) | (intros; first | omega | decide | (simp_all <;> omega)) | skip)))
    exact ⟨fun n h1 h2 => by
     by_cases e : n = j
     ·rw [e]; exact eh
     ·exact hnh n h1 (by omega), rfl⟩
 ·rintro _ ⟨hnh2, rfl⟩
  (repeat (first | refine gO rfl ?_ | (refine gM zM32 fun K1 hK1 => ?_; simp only [go_sem, ↓reduceIte, reduceCtorEq, nA, nB, nC, nD, nE, nF] <;> and_intros <;> first | (apply hK1; clear hK1 K1) | (intros; first | omega | decide | (simp_all <;> omega)) | skip)))
  refine (g_passP d t a _ h2 o k _ hv hR2 hS (hok j).1 hO2 hoa (by omega)).mono ?_
  rintro r h6 ⟨rfl, s2, out2, hR6, hO6, _, q1, q2, q3⟩
  have e5 := passesU_len d t j
  refine hK1 _ ?_; clear hK1 K1
  (repeat (first | refine gO rfl ?_ | (refine gM zM32 fun K1 hK1 => ?_; simp only [go_sem, ↓reduceIte, reduceCtorEq, nA, nB, nC, nD, nE, nF] <;> and_intros <;> first | (apply hK1; clear hK1 K1) | (intros; first | omega | decide | (simp_all <;> omega)) | skip)))
  refine (g_full28 o k h6 _ hO6).mono ?_; rintro _ hz ⟨rfl, hh⟩; apply hK1; clear hK1 K1; rw [hh]; clear hh hz
  by_cases hl6 : (passesU d t (j + 1)).2.length ≤ 5000
  ·obtain ⟨rfl, rfl⟩ := q2 hlj (by omega)
   have hj6 : j + 1 ≤ 5000 := by have := (hok (j + 1)).2.2; omega
   have hnf : decide ((5000 : Int) < ((passesU d t j).2 ++ (passU d t (passesU d t j).1).2).length) = false := by simp only [decide_eq_false_iff_not, List.length_append]; omega
   have hnf2 : decide ((5000 : Int) < (j : Int) + 1) = false := by simp only [decide_eq_false_iff_not]; omega
   (repeat (first | refine gO rfl ?_ | (refine gM zM32 fun K1 hK1 => ?_; simp only [go_sem, ↓reduceIte, reduceCtorEq, nA, nB, nC, nD, nE, nF, hnf, hnf2] <;> and_intros <;> first | (apply hK1; clear hK1 K1) | (intros; first | omega | decide | (simp_all <;> omega)) | skip)))
   refine awp_cond (t := _) rfl (fun h => by cases h) (fun _ => ?_)
   (repeat (first | refine gO rfl ?_ | (refine gM zM32 fun K1 hK1 => ?_; simp only [go_sem, ↓reduceIte, reduceCtorEq, nA, nB, nC, nD, nE, nF] <;> and_intros <;> first | (apply hK1; clear hK1 K1) | (intros; first | omega | decide | (simp_all <;> omega)) | skip)))
   exact ⟨g - 1, by omega, j + 1, h6, by omega, hl6, fun n h1 h2 => hnh2 n h1 (by omega), hR6, hO6, rfl⟩
  ·obtain ⟨z1, _⟩ := q3 hlj (by omega)
   have hr0 : roundN d t = 0 := round_long (j := j) (by omega) hnh2
   have hnf : decide ((5000 : Int) < out2.length) = true := by simp only [decide_eq_true_eq]; omega
   rw [roundC_none hr0, (roundS_none hr0).2]
   (repeat (first | refine gO rfl ?_ | (refine gM zM32 fun K1 hK1 => ?_; simp only [go_sem, ↓reduceIte, reduceCtorEq, nA, nB, nC, nD, nE, nF, hnf] <;> and_intros <;> first | (apply hK1; clear hK1 K1) | (intros; first | omega | decide | (simp_all <;> omega)) | skip)))
   refine awp_cond (t := _) rfl (fun _ => ?_) (fun h => by cases h)
   (repeat (first | refine gO rfl ?_ | (refine gM zM32 fun K1 hK1 => ?_; simp only [go_sem, ↓reduceIte, reduceCtorEq, nA, nB, nC, nD, nE, nF] <;> and_intros <;> first | (apply hK1; clear hK1 K1) | (intros; first | omega | decide | (simp_all <;> omega)) | skip)))
   simp only [Tryz.results79, go_sem, ↓reduceIte, reduceCtorEq, nA, nB, nC, nD, nE, nF]
   refine ⟨_, _, Weak.tup1 (Weak.agg (.cons (Weak.refl _) (.cons (Weak.nil 2 0 0 ⟨rfl, rfl⟩) (.cons (Weak.refl _) .nil)))) (Weak.refl _), Hp.le.refl _, rfl⟩
abbrev zP1FE : List Nat := [0, 1, 2, 3, 4, 5, 6, 7]
abbrev zP1FP : List (Nat × List Nat × List Nat) := []
abbrev zP1GE : List Nat := [0, 1, 2, 3, 4, 5, 6, 7, 8, 9, 10, 11, 12, 13, 14]
abbrev zP1GP : List (Nat × List Nat × List Nat) := []
attribute [go_sem] zP1FE zP1FP zP1GE zP1GP
theorem part_of_fault {t : LT} (h : faultF t = 0) : partF t = 0 := by
 unfold faultF at h
 split at h
 ·cases h
 ·exact h
noncomputable def rdE (d : Nat) (t : LT) : Int := if faultF t = 0 then roundE d t else faultF t
noncomputable def rdN (d : Nat) (t : LT) : Nat := if faultF t = 0 then roundN d t else 0
noncomputable def rdS (d : Nat) (t : LT) : List (ByteArray × Int) := if faultF t = 0 then roundS d t else []
abbrev zP1HE : List Nat := [0, 1, 2, 3, 4, 5, 6, 7, 8, 9, 10]
abbrev zP1HP : List (Nat × List Nat × List Nat) := []
attribute [go_sem] zP1HE zP1HP
noncomputable def rdC (d : Nat) (t : LT) : List AV := [.v (.int .i64 (rdN d t : Nat)), .row 2 ((rdS d t).map encStep) none, .v (.int .i64 ((rdS d t).map (·.2)).sum)]
theorem g_checked (d : Nat) (t : LT) (h : Hp) (hb : KC d t) (hd : manyF t ≤ 1000000000000000 ∧ d ≤ 1000) : ACalls Tryz.prog 70 [.agg (encL t)] h (fun r _ => r = .tup [.agg (rdC d t), .v (.int .i64 (rdE d t))]) := by
 have hlen := encL_len t
 have htk : List.take 6 (encL t) = encL t := List.take_of_length_le (Nat.le_of_eq hlen)
 have hdk : List.drop 6 (encL t) = [] := List.drop_of_length_le (Nat.le_of_eq hlen)
 unfold rdC rdE rdN rdS
 refine gE Tryz.func70 rfl (by kernel_rfl) 14 rfl fun c => ?_
 (repeat (first | refine gO rfl ?_ | (refine gM zM33 fun K1 hK1 => ?_; simp only [go_sem, ↓reduceIte, reduceCtorEq, nA, nB, nC, nD, nE, nF, hlen, htk, hdk] <;> and_intros <;> first | (apply hK1; clear hK1 K1) | (intros; first | omega | decide | (simp_all <;> omega)) | skip)))
 refine (g_check7 d t h hb hd).mono ?_; rintro _ hz ⟨rfl, hh⟩; apply hK1; clear hK1 K1; rw [hh]; clear hh hz
 (repeat (first | refine gO rfl ?_ | (refine gM zM33 fun K1 hK1 => ?_; simp only [go_sem, ↓reduceIte, reduceCtorEq, nA, nB, nC, nD, nE, nF, hlen, htk, hdk] <;> and_intros <;> first | (apply hK1; clear hK1 K1) | (intros; first | omega | decide | (simp_all <;> omega)) | skip)))
 by_cases hf : faultF t = 0
 ·have hv := vl_of d t hb (part_of_fault hf)
  simp only [if_pos hf]
  refine awp_cond (t := _) rfl (fun h9 => by simp [hf] at h9) (fun _ => ?_)
  (repeat (first | refine gO rfl ?_ | (refine gM zM33 fun K1 hK1 => ?_; simp only [go_sem, ↓reduceIte, reduceCtorEq, nA, nB, nC, nD, nE, nF, hlen, htk, hdk] <;> and_intros <;> first | (apply hK1; clear hK1 K1) | (intros; first | omega | decide | (simp_all <;> omega)) | skip)))
  refine (g_roundP d t h hb hv (il_of d t (part_of_fault hf))).mono ?_
  rintro _ h2 rfl
  refine hK1 _ ?_; clear hK1 K1
  (repeat (first | refine gO rfl ?_ | (refine gM zM33 fun K1 hK1 => ?_; simp only [go_sem, ↓reduceIte, reduceCtorEq, nA, nB, nC, nD, nE, nF, roundC] <;> and_intros <;> first | (apply hK1; clear hK1 K1) | (intros; first | omega | decide | (simp_all <;> omega)) | skip)))
  simp only [Tryz.results70, go_sem, ↓reduceIte, reduceCtorEq, nA, nB, nC, nD, nE, nF]
  exact ⟨_, _, Weak.refl _, Hp.le.refl _, rfl⟩
 ·simp only [if_neg hf]
  refine awp_cond (t := _) rfl (fun _ => ?_) (fun h9 => by simp [hf] at h9)
  (repeat (first | refine gO rfl ?_ | (refine gM zM33 fun K1 hK1 => ?_; simp only [go_sem, ↓reduceIte, reduceCtorEq, nA, nB, nC, nD, nE, nF] <;> and_intros <;> first | (apply hK1; clear hK1 K1) | (intros; first | omega | decide | (simp_all <;> omega)) | skip)))
  simp only [Tryz.results70, go_sem, ↓reduceIte, reduceCtorEq, nA, nB, nC, nD, nE, nF]
  exact ⟨_, _, Weak.tup1 (Weak.agg (.cons (Weak.refl _) (.cons (Weak.nil 2 0 0 ⟨rfl, rfl⟩) (.cons (Weak.refl _) .nil)))) (Weak.refl _), Hp.le.refl _, rfl⟩
theorem rd_bad {d : Nat} {t : LT} (h : rdE d t ≠ 0) : rdS d t = [] ∧ rdN d t = 0 := by
 unfold rdE at h
 unfold rdS rdN
 by_cases hf : faultF t = 0
 ·rw [if_pos hf] at h
  rw [if_pos hf, if_pos hf]
  unfold roundE at h
  unfold roundS
  split at h
  ·rename_i e; rw [if_pos e, e]; exact ⟨rfl, rfl⟩
  ·exact absurd rfl h
 ·rw [if_neg hf, if_neg hf]; exact ⟨rfl, rfl⟩
def preL (xs : List (ByteArray × Int)) (i : Nat) : Int := ((xs.map (·.2)).take i).sum
def sumL (xs : List (ByteArray × Int)) : Int := (xs.map (·.2)).sum
def Pos (xs : List (ByteArray × Int)) : Prop := ∀ x ∈ xs, 1 ≤ x.2 ∧ x.2 ≤ 3600000
theorem preL_zero (xs : List (ByteArray × Int)) : preL xs 0 = 0 := rfl
theorem preL_cons (x : ByteArray × Int) (xs : List (ByteArray × Int)) (i : Nat) : preL (x :: xs) (i + 1) = x.2 + preL xs i := by simp [preL]
theorem preL_all (xs : List (ByteArray × Int)) : preL xs xs.length = sumL xs := by
 rw [preL, List.take_of_length_le (by simp)]; rfl
theorem preL_succ : ∀ (xs : List (ByteArray × Int)) (i : Nat), i < xs.length → preL xs (i + 1) = preL xs i + (xs.getD i default).2
 | [], _, h => by simp at h
 | x :: xs, 0, _ => by simp [preL]
 | x :: xs, i + 1, h => by rw [preL_cons, preL_cons, preL_succ xs i (by simpa using h)]; simp; omega
theorem pos_at {xs : List (ByteArray × Int)} (h : Pos xs) {i : Nat} (hi : i < xs.length) : 1 ≤ (xs.getD i default).2 ∧ (xs.getD i default).2 ≤ 3600000 := by
 have : xs.getD i default ∈ xs := by rw [List.getD_eq_getElem?_getD, List.getElem?_eq_getElem hi]; exact List.getElem_mem hi
 exact h _ this
theorem preL_bd {xs : List (ByteArray × Int)} (h : Pos xs) (i : Nat) (hi : i ≤ xs.length) : 0 ≤ preL xs i ∧ preL xs i ≤ i * 3600000 := by
 induction i with
 | zero => simp [preL]
 | succ i ih =>
  have := ih (by omega)
  have := pos_at h (i := i) (by omega)
  rw [preL_succ xs i (by omega)]
  omega
theorem preL_mono {xs : List (ByteArray × Int)} (h : Pos xs) {i j : Nat} (hij : i ≤ j) (hj : j ≤ xs.length) : preL xs i ≤ preL xs j := by
 induction j with
 | zero =>
  obtain rfl : i = 0 := by omega
  exact Int.le_refl _
 | succ j ih =>
  by_cases e : i = j + 1
  ·rw [e]; exact Int.le_refl _
  ·have := ih (by omega) (by omega)
   have := pos_at h (i := j) (by omega)
   rw [preL_succ xs j (by omega)]; omega
theorem sumL_bd {xs : List (ByteArray × Int)} (h : Pos xs) : 0 ≤ sumL xs ∧ sumL xs ≤ xs.length * 3600000 := by
 rw [← preL_all]; exact preL_bd h _ (Nat.le_refl _)
theorem sumL_pos {xs : List (ByteArray × Int)} (h : Pos xs) (hn : xs ≠ []) : 1 ≤ sumL xs := by
 have hl := List.length_pos_iff.2 hn
 have h1 := preL_mono h (i := 1) (j := xs.length) (by omega) (Nat.le_refl _)
 rw [preL_all, preL_succ xs 0 hl, preL_zero] at h1
 have := pos_at h hl
 omega
open Go Go.Lib
def onceL (l : List (List UInt8)) : List (List UInt8) := compact (l.mergeSort fun x y => decide (x ≤ y))
def onceS (l : List ByteArray) : List ByteArray := (onceL (l.map (·.data.toList))).map fun l => ⟨l.toArray⟩
theorem leT : ∀ a b c : List UInt8, decide (a ≤ b) = true → decide (b ≤ c) = true → decide (a ≤ c) = true := fun a b c h1 h2 => by
 simp only [decide_eq_true_eq] at *; exact List.le_trans h1 h2
theorem leO : ∀ a b : List UInt8, (decide (a ≤ b) || decide (b ≤ a)) = true := fun a b => by
 simp only [Bool.or_eq_true, decide_eq_true_eq]; exact List.le_total a b
theorem comp_up (d : Array (List UInt8)) (hs : ∀ i j, i ≤ j → j < d.size → d[i]! ≤ d[j]!) : ∀ m, m ≤ d.size →
  (compactUpTo d m).Pairwise (fun x y => x ≤ y ∧ x ≠ y) ∧ ∀ x, x ∈ compactUpTo d m ↔ ∃ j, j < m ∧ d[j]! = x
 | 0, _ => ⟨by simp [compactUpTo], by simp [compactUpTo]⟩
 | m + 1, hm => by
  obtain ⟨h1, h2⟩ := comp_up d hs m (by omega)
  rw [compactUpTo_succ]
  cases hk : keeps d m with
  | true =>
   simp only [if_true]
   refine ⟨List.pairwise_append.2 ⟨h1, by simp, fun x hx y hy => ?_⟩, fun x => ?_⟩
   ·simp only [List.mem_singleton] at hy
    subst hy
    obtain ⟨j, hj, rfl⟩ := (h2 x).1 hx
    refine ⟨hs j m (by omega) (by omega), fun e => ?_⟩
    simp only [keeps, decide_eq_true_eq] at hk
    rcases hk with hk | hk
    ·omega
    ·have a1 := hs j (m - 1) (by omega) (by omega)
     have a2 := hs (m - 1) m (by omega) (by omega)
     rw [e] at a1
     exact hk (List.le_antisymm a1 a2)
   ·rw [List.mem_append, h2 x, List.mem_singleton]
    constructor
    ·rintro (⟨j, hj, e⟩ | rfl)
     ·exact ⟨j, by omega, e⟩
     ·exact ⟨m, by omega, rfl⟩
    ·rintro ⟨j, hj, e⟩
     by_cases hjm : j = m
     ·subst hjm; exact .inr e.symm
     ·exact .inl ⟨j, by omega, e⟩
  | false =>
   simp only [Bool.false_eq_true, if_false, List.append_nil]
   refine ⟨h1, fun x => ?_⟩
   rw [h2 x]
   simp only [keeps, decide_eq_false_iff_not, not_or, ne_eq, Decidable.not_not] at hk
   constructor
   ·rintro ⟨j, hj, e⟩; exact ⟨j, by omega, e⟩
   ·rintro ⟨j, hj, e⟩
    by_cases hjm : j = m
    ·subst hjm; exact ⟨j - 1, by omega, by rw [← e, hk.2]⟩
    ·exact ⟨j, by omega, e⟩
theorem onceL_ok (l : List (List UInt8)) : (onceL l).Pairwise (fun x y => x ≤ y ∧ x ≠ y) ∧ ∀ x, x ∈ onceL l ↔ x ∈ l := by
 have hp := List.pairwise_mergeSort leT leO l
 have hm := List.mergeSort_perm l fun x y => decide (x ≤ y)
 unfold onceL
 generalize (l.mergeSort fun x y => decide (x ≤ y)) = zs at hp hm ⊢
 have hs : ∀ i j, i ≤ j → j < zs.toArray.size → zs.toArray[i]! ≤ zs.toArray[j]! := fun i j hij hj => by
  have hj' : j < zs.length := by simpa using hj
  have e1 : zs.toArray[i]! = zs[i] := by simp [getElem!_pos, show i < zs.length by omega]
  have e2 : zs.toArray[j]! = zs[j] := by simp [getElem!_pos, hj']
  rw [e1, e2]
  by_cases e : i = j
  ·subst e; exact List.le_refl _
  ·have := List.pairwise_iff_getElem.1 hp i j (by omega) hj' (by omega)
   simpa using this
 obtain ⟨h1, h2⟩ := comp_up zs.toArray hs zs.length (by simp)
 refine ⟨h1, fun x => ?_⟩
 show x ∈ compactUpTo zs.toArray zs.length ↔ _
 rw [h2 x, ← hm.mem_iff]
 constructor
 ·rintro ⟨j, hj, rfl⟩
  have e2 : zs.toArray[j]! = zs[j] := by simp [getElem!_pos, hj]
  rw [e2]; exact List.getElem_mem hj
 ·intro hx
  obtain ⟨j, hj, e⟩ := List.getElem_of_mem hx
  exact ⟨j, hj, by rw [← e]; simp [getElem!_pos, hj]⟩
theorem keys_once {ks l : List (List UInt8)} (hn : ks.Nodup) (hm : ∀ x, x ∈ ks ↔ x ∈ l) : (ks.mergeSort fun x y => decide (x ≤ y)) = onceL l := by
 obtain ⟨h1, h2⟩ := onceL_ok l
 have hp := List.pairwise_mergeSort leT leO ks
 have hk := List.mergeSort_perm ks fun x y => decide (x ≤ y)
 have hnd : (onceL l).Nodup := h1.imp fun h => h.2
 have hperm : (ks.mergeSort fun x y => decide (x ≤ y)).Perm (onceL l) := (List.perm_ext_iff_of_nodup (hk.nodup_iff.2 hn) hnd).2 fun x => by rw [hk.mem_iff, hm x, h2 x]
 refine List.Perm.eq_of_pairwise (le := fun a b => decide (a ≤ b) = true) (fun a b _ _ h1 h2 => ?_) hp (h1.imp fun h => by simpa using h.1) hperm
 simp only [decide_eq_true_eq] at h1 h2
 exact List.le_antisymm h1 h2
theorem onceS_mem (l : List ByteArray) (x : ByteArray) : x ∈ onceS l ↔ x ∈ l := by
 rw [onceS, List.mem_map]
 constructor
 ·rintro ⟨y, hy, rfl⟩
  obtain ⟨z, hz, rfl⟩ := List.mem_map.1 (((onceL_ok _).2 y).1 hy)
  exact hz
 ·intro hx
  exact ⟨x.data.toList, ((onceL_ok _).2 _).2 (List.mem_map.2 ⟨x, hx, rfl⟩), rfl⟩
theorem nodup_len {α : Type} [DecidableEq α] : ∀ (l m : List α), l.Nodup → (∀ x ∈ l, x ∈ m) → l.length ≤ m.length
 | [], _, _, _ => by simp
 | x :: l, m, hn, h => by
  have hx := h x (by simp)
  have := nodup_len l (m.erase x) (List.nodup_cons.1 hn).2 fun y hy => (List.mem_erase_of_ne (fun e => by subst e; exact (List.nodup_cons.1 hn).1 hy)).2 (h y (by simp [hy]))
  rw [List.length_erase_of_mem hx] at this
  have := List.length_pos_of_mem hx
  simp only [List.length_cons]; omega
theorem onceS_len (l : List ByteArray) : (onceS l).length ≤ l.length := by
 have h : (onceL (l.map (·.data.toList))).length ≤ (l.map (·.data.toList)).length := nodup_len _ _ ((onceL_ok _).1.imp fun h => h.2) fun x hx => ((onceL_ok _).2 x).1 hx
 simpa [onceS] using h
def cntF (xs : List (ByteArray × Int)) (k : ByteArray) : Nat := (xs.filter fun x => x.1 == k).length
def longF (xs : List (ByteArray × Int)) (k : ByteArray) : Int := ((xs.filter fun x => x.1 == k).map (·.2)).sum
theorem cntF_le (xs : List (ByteArray × Int)) (k : ByteArray) : cntF xs k ≤ xs.length := List.length_filter_le _ _
theorem longF_bd {xs : List (ByteArray × Int)} (h : Pos xs) (k : ByteArray) : 0 ≤ longF xs k ∧ longF xs k ≤ xs.length * 3600000 := by
 have h1 : Pos (xs.filter fun x => x.1 == k) := fun x hx => h x (List.mem_filter.1 hx).1
 have := sumL_bd h1
 have := List.length_filter_le (fun x : ByteArray × Int => x.1 == k) xs
 unfold longF
 simp only [sumL] at *
 omega
theorem take_at (xs : List (ByteArray × Int)) (j : Nat) (h : j < xs.length) : xs.take (j + 1) = xs.take j ++ [xs.getD j default] := by
 rw [List.take_add_one, List.getElem?_eq_getElem h, List.getD_eq_getElem?_getD, List.getElem?_eq_getElem h]; rfl
theorem cntF_yes {xs : List (ByteArray × Int)} {j : Nat} (h : j < xs.length) {k : ByteArray} (e : (xs.getD j default).1 = k) : cntF (xs.take (j + 1)) k = cntF (xs.take j) k + 1 := by
 have hb : ((xs.getD j default).1 == k) = true := by rw [ba_beq]; simp only [decide_eq_true_eq]; exact e
 rw [take_at xs j h, cntF, cntF, List.filter_append, List.length_append, List.filter_cons_of_pos (p := fun x : ByteArray × Int => x.1 == k) hb]; simp
theorem cntF_no {xs : List (ByteArray × Int)} {j : Nat} (h : j < xs.length) {k : ByteArray} (e : (xs.getD j default).1 ≠ k) : cntF (xs.take (j + 1)) k = cntF (xs.take j) k := by
 have hb : ¬ ((xs.getD j default).1 == k) = true := by rw [ba_beq]; simp only [decide_eq_true_eq]; exact e
 rw [take_at xs j h, cntF, cntF, List.filter_append, List.length_append, List.filter_cons_of_neg (p := fun x : ByteArray × Int => x.1 == k) hb]; simp
theorem longF_yes {xs : List (ByteArray × Int)} {j : Nat} (h : j < xs.length) {k : ByteArray} (e : (xs.getD j default).1 = k) : longF (xs.take (j + 1)) k = longF (xs.take j) k + (xs.getD j default).2 := by
 have hb : ((xs.getD j default).1 == k) = true := by rw [ba_beq]; simp only [decide_eq_true_eq]; exact e
 rw [take_at xs j h, longF, longF, List.filter_append, List.map_append, List.sum_append, List.filter_cons_of_pos (p := fun x : ByteArray × Int => x.1 == k) hb]; simp
theorem longF_no {xs : List (ByteArray × Int)} {j : Nat} (h : j < xs.length) {k : ByteArray} (e : (xs.getD j default).1 ≠ k) : longF (xs.take (j + 1)) k = longF (xs.take j) k := by
 have hb : ¬ ((xs.getD j default).1 == k) = true := by rw [ba_beq]; simp only [decide_eq_true_eq]; exact e
 rw [take_at xs j h, longF, longF, List.filter_append, List.map_append, List.sum_append, List.filter_cons_of_neg (p := fun x : ByteArray × Int => x.1 == k) hb]; simp
theorem longF_zero {xs : List (ByteArray × Int)} {k : ByteArray} (h : k ∉ xs.map (·.1)) : longF xs k = 0 ∧ cntF xs k = 0 := by
 have e : (xs.filter fun x => x.1 == k) = [] := List.filter_eq_nil_iff.2 fun x hx hb => h (List.mem_map.2 ⟨x, hx, by rw [ba_beq] at hb; simpa using hb⟩)
 rw [longF, cntF, e]; exact ⟨rfl, rfl⟩
def ptrsL (f : ByteArray → Nat) (ks : List ByteArray) : List (ByteArray × AV) := ks.map fun k => (k, .ptr (f k) 0)
theorem mget_ptrs (f : ByteArray → Nat) : ∀ (ks : List ByteArray) (k : ByteArray), (k ∈ ks → mget k (ptrsL f ks) = some (.ptr (f k) 0)) ∧ (k ∉ ks → mget k (ptrsL f ks) = none)
 | [], k => ⟨fun h => by simp at h, fun _ => rfl⟩
 | q :: ks, k => by
  have ih := mget_ptrs f ks k
  simp only [ptrsL, List.map_cons, mget] at ih ⊢
  by_cases e : q = k
  ·subst e; simp
  ·rw [if_neg e]
   refine ⟨fun h => ih.1 ?_, fun h => ih.2 ?_⟩
   ·rcases List.mem_cons.1 h with h | h
    ·exact absurd h.symm e
    ·exact h
   ·exact fun h' => h (List.mem_cons_of_mem _ h')
theorem mset_ptrs {f : ByteArray → Nat} : ∀ {ks : List ByteArray} {k : ByteArray} (_ : k ∉ ks) (x : AV), mset k x (ptrsL f ks) = ptrsL f ks ++ [(k, x)]
 | [], k, _, x => rfl
 | q :: ks, k, h, x => by
  simp only [List.mem_cons, not_or] at h
  have ih := mset_ptrs (f := f) h.2 x
  simp only [ptrsL, List.map_cons, mset] at ih ⊢
  rw [if_neg (Ne.symm h.1), ih]; rfl
def tCell (xs : List (ByteArray × Int)) (k : ByteArray) : List AV := [.v (.int .i64 (cntF xs k)), .v (.int .i64 (longF xs k))]
structure TalI (h : Hp) (m : Nat) (ys : List (ByteArray × Int)) (S : List ByteArray) (ks : List ByteArray) (f : ByteArray → Nat) : Prop where
 nd : ks.Nodup
 mem : ∀ k, k ∈ ks ↔ k ∈ S
 map : h.H m = some (.map (ptrsL f ks))
 cell : ∀ k ∈ ks, h.H (f k) = some (.cells (tCell ys k))
 ne : ∀ k ∈ ks, f k ≠ m
 inj : ∀ k ∈ ks, ∀ q ∈ ks, f k = f q → k = q
theorem TalI.nil {h : Hp} {m : Nat} (hm : h.H m = some (.map [])) : TalI h m [] [] [] (fun _ => 0) :=
 ⟨by simp, by simp, hm, by simp, by simp, by simp⟩
theorem TalI.same {h : Hp} {m : Nat} {ys : List (ByteArray × Int)} {S ks : List ByteArray} {f : ByteArray → Nat} (t : TalI h m ys S ks f) {q : ByteArray} (hq : q ∈ ks) : TalI h m ys (S ++ [q]) ks f :=
 ⟨t.nd, fun k => by
  rw [List.mem_append, ← t.mem k, List.mem_singleton]
  exact ⟨.inl, fun h => h.elim id fun e => by rw [e]; exact hq⟩, t.map, t.cell, t.ne, t.inj⟩
theorem TalI.more {h h' : Hp} {m j : Nat} {xs : List (ByteArray × Int)} {S ks : List ByteArray} {f : ByteArray → Nat} (t : TalI h m (xs.take j) S ks f) (hj : j < xs.length) {q : ByteArray} (e : (xs.getD j default).1 = q) (hk : q ∈ ks)
  (e1 : h'.H (f q) = some (.cells (tCell (xs.take (j + 1)) q))) (e2 : ∀ i, i ≠ f q → h'.H i = h.H i) : TalI h' m (xs.take (j + 1)) S ks f where
 nd := t.nd
 mem := t.mem
 map := by rw [e2 m (Ne.symm (t.ne _ hk))]; exact t.map
 cell k hk' := by
  by_cases h : k = q
  ·rw [h]; exact e1
  ·rw [e2 _ (fun e' => h (t.inj _ hk' _ hk e')), t.cell k hk', tCell, tCell, cntF_no hj (by rw [e]; exact Ne.symm h), longF_no hj (by rw [e]; exact Ne.symm h)]
 ne := t.ne
 inj := t.inj
theorem TalI.born {h h' : Hp} {m i : Nat} {ys : List (ByteArray × Int)} {S ks : List ByteArray} {f : ByteArray → Nat} (t : TalI h m ys S ks f) {q : ByteArray} (hk : q ∉ ks) (hi : h.H i = none)
  (e0 : h'.H m = some (.map (ptrsL f ks ++ [(q, .ptr i 0)]))) (e1 : h'.H i = some (.cells (tCell ys q))) (e2 : ∀ n, n ≠ i → n ≠ m → h'.H n = h.H n) :
  TalI h' m ys (S ++ [q]) (ks ++ [q]) (fun k => if k = q then i else f k) := by
 have hfi : ∀ k ∈ ks, f k ≠ i := fun k hk' e => by have := t.cell k hk'; rw [e, hi] at this; cases this
 have him : i ≠ m := fun e => by rw [e, t.map] at hi; cases hi
 have hne : ∀ k ∈ ks, k ≠ q := fun k hk' e => hk (e ▸ hk')
 have hpl : ptrsL (fun k => if k = q then i else f k) ks = ptrsL f ks := List.map_congr_left fun k hk' => by simp only [if_neg (hne k hk')]
 refine ⟨?_, fun k => ?_, ?_, fun k hk' => ?_, fun k hk' => ?_, fun k hk' p hp e => ?_⟩
 ·rw [List.nodup_append]
  exact ⟨t.nd, by simp, fun a ha b hb e => by simp only [List.mem_singleton] at hb; exact hk (by rw [← hb, ← e]; exact ha)⟩
 ·rw [List.mem_append, List.mem_append, ← t.mem k]
 ·rw [e0]
  have : ptrsL (fun k => if k = q then i else f k) (ks ++ [q]) = ptrsL f ks ++ [(q, .ptr i 0)] := by
   rw [← hpl]; simp [ptrsL]
  rw [this]
 ·rcases List.mem_append.1 hk' with h1 | h1
  ·have hn := hne k h1
   simp only [if_neg hn]
   rw [e2 _ (hfi k h1) (t.ne k h1), t.cell k h1]
  ·simp only [List.mem_singleton] at h1
   subst h1; simp only [if_true]; exact e1
 ·rcases List.mem_append.1 hk' with h1 | h1
  ·simp only [if_neg (hne k h1)]; exact t.ne k h1
  ·simp only [List.mem_singleton] at h1; subst h1; simp only [if_true]; exact him
 ·rcases List.mem_append.1 hk' with h1 | h1 <;> rcases List.mem_append.1 hp with h2 | h2
  ·simp only [if_neg (hne k h1), if_neg (hne p h2)] at e; exact t.inj k h1 p h2 e
  ·simp only [List.mem_singleton] at h2
   simp only [if_neg (hne k h1), h2, if_true] at e; exact absurd e (hfi k h1)
  ·simp only [List.mem_singleton] at h1
   simp only [if_neg (hne p h2), h1, if_true] at e; exact absurd e.symm (hfi p h2)
  ·simp only [List.mem_singleton] at h1 h2; rw [h1, h2]
def lowF (a b : Nat) : List AV := [.v (.int .i64 (a / Nat.gcd a b : Nat)), .v (.int .i64 (b / Nat.gcd a b : Nat))]
def encPn (xs : List (ByteArray × Int)) (k : ByteArray) : List AV := .v (.string k) :: (lowF (cntF xs k) xs.length ++ lowF (longF xs k).toNat (sumL xs).toNat)
def partsR (xs : List (ByteArray × Int)) : List (List AV) := (onceS (xs.map (·.1))).map (encPn xs)
def IZ : Nat → LT → Prop
 | 0, _ => True
 | d + 1, .mk _ item _ _ kids _ => item.size ≤ 2 ∧ ∀ k ∈ kids, IZ d k
theorem IZ.dflt : ∀ d : Nat, IZ d default
 | 0 => trivial
 | d + 1 => show IZ (d + 1) (.mk 0 default 0 0 [] []) from ⟨Nat.zero_le _, fun k hk => (by cases hk)⟩
theorem iz_of : ∀ (d : Nat) (t : LT), KC d t → IZ d t
 | 0, _, _ => trivial
 | d + 1, .mk kind item long many kids shares, h => ⟨h.2.1, fun k hk => iz_of d k (h.2.2.2.2.2.2.2 k hk)⟩
theorem pass_item : ∀ (d : Nat) (t : LT) (s : PS), IZ d t → ∀ x ∈ (passU d t s).2, x.1.size ≤ 2
 | 0, _, _, _ => by simp [passU]
 | d + 1, .mk kind item long many kids shares, .mk p cs ks, hi => by
  rw [passU_succ]
  have hk : ∀ i, IZ d (kids.getD i default) := fun i => by
   by_cases h : i < kids.length
   ·exact hi.2 _ (getD_mem' kids i default h)
   ·rw [List.getD_eq_getElem?_getD, List.getElem?_eq_none (by omega)]; exact IZ.dflt d
  have key : ∀ (L : List Nat) (a : (List Int × List PS) × List (ByteArray × Int)), (∀ x ∈ a.2, x.1.size ≤ 2) → ∀ x ∈ (L.foldl (stepU (passU d) kids) a).2, x.1.size ≤ 2 := fun L => by
   induction L with
   | nil => intro a h; exact h
   | cons i L ih =>
    intro a h
    refine ih _ (fun x hx => ?_)
    rcases List.mem_append.1 hx with h9 | h9
    ·exact h x h9
    ·exact pass_item d _ _ (hk i) x h9
  refine key _ _ ?_
  split
  ·intro x hx
   rw [List.mem_singleton.1 hx]
   exact hi.1
  ·simp
theorem passes_item {d : Nat} {t : LT} (h : IZ d t) : ∀ n, ∀ x ∈ (passesU d t n).2, x.1.size ≤ 2
 | 0 => by simp [passesU]
 | n + 1 => fun x hx => by
  rcases List.mem_append.1 hx with h9 | h9
  ·exact passes_item h n x h9
  ·exact pass_item d t _ h x h9
structure GoodS (xs : List (ByteArray × Int)) : Prop where
 ne : xs ≠ []
 len : xs.length ≤ 5000
 pos : Pos xs
 item : ∀ x ∈ xs, x.1.size ≤ 2
theorem rd_good {d : Nat} {t : LT} (hb : KC d t) (h : rdE d t = 0) : GoodS (rdS d t) := by
 unfold rdE at h
 unfold rdS
 by_cases hf : faultF t = 0
 ·rw [if_pos hf] at h ⊢
  have hp := part_of_fault hf
  have hv := vl_of d t hb hp
  refine ⟨fun e => ?_, roundS_len d t, roundS_long (il_of d t hp), fun x hx => ?_⟩
  ·have := roundS_pos hv h
   rw [e] at this; simp at this
  ·unfold roundS at hx
   split at hx
   ·cases hx
   ·exact passes_item (iz_of d t hb) _ x hx
 ·rw [if_neg hf] at h; exact absurd h hf
theorem rd_bad2 {d : Nat} {t : LT} (h : rdE d t ≠ 0) : rdS d t = [] := (rd_bad h).1
theorem partsR_nil : partsR [] = [] := by simp [partsR, onceS, onceL, Lib.compact, Lib.compactUpTo]
def itemT (x : ByteArray × Int) : LT := .mk 1 x.1 x.2 0 [] []
def shareT (xs : List (ByteArray × Int)) (shares : List Int) : LT := .mk 4 default 0 0 (xs.map itemT) shares
def seqS (shares : List Int) (n : Nat) : List Nat := (List.range n).map fun (i : Nat) => nextF shares i (cntS shares i)
theorem seqS_succ (shares : List Int) (n : Nat) : seqS shares (n + 1) = seqS shares n ++ [nextF shares n (cntS shares n)] := by simp [seqS, List.range_succ]
theorem seqS_len (shares : List Int) (n : Nat) : (seqS shares n).length = n := by simp [seqS]
theorem seqS_lt {shares : List Int} (h0 : 0 < shares.length) (n : Nat) : ∀ x ∈ seqS shares n, x < shares.length := fun x hx => by
 obtain ⟨i, _, rfl⟩ := List.mem_map.1 hx
 exact bestTo_lt _ _ h0
theorem seqS_cnt {shares : List Int} (h0 : 0 < shares.length) (i : Nat) : ∀ n, (((seqS shares n).filter fun x => x == i).length : Int) = (cntS shares n).getD i 0
 | 0 => by simp only [cntS, zero_getD]; simp [seqS]
 | n + 1 => by
  have ih := seqS_cnt h0 i n
  have hx : nextF shares n (cntS shares n) < shares.length := bestTo_lt _ _ h0
  have hl := cntS_len shares n
  rw [seqS_succ, List.filter_append, List.length_append, Int.natCast_add, ih]
  simp only [cntS]
  rw [getD_setI]
  by_cases e : i = nextF shares n (cntS shares n)
  ·rw [if_pos ⟨e, by omega⟩, ← e]; simp
  ·rw [if_neg (fun h => e h.1)]
   have : (nextF shares n (cntS shares n) == i) = false := by simp; omega
   simp [this]
def seqX (xs : List (ByteArray × Int)) (shares : List Int) (n : Nat) : List (ByteArray × Int) := (seqS shares n).map fun x => xs.getD x default
theorem pass_item1 (d : Nat) (x : ByteArray × Int) (s : PS) : (passU (d + 1) (itemT x) s).2 = [x] := by
 cases s; rfl
theorem getD_item (xs : List (ByteArray × Int)) {j : Nat} (h : j < xs.length) : (xs.map itemT).getD j default = itemT (xs.getD j default) := by
 rw [List.getD_eq_getElem?_getD, List.getD_eq_getElem?_getD, List.getElem?_map, List.getElem?_eq_getElem h]; rfl
theorem passes_share (d : Nat) (xs : List (ByteArray × Int)) (shares : List Int) (hl : shares.length = xs.length) (h0 : 0 < xs.length) : ∀ n, ∃ ks, ks.length = xs.length ∧ passesU (d + 2) (shareT xs shares) n = (.mk n (cntS shares n) ks, seqX xs shares n)
 | 0 => ⟨(xs.map itemT).map ps0, by simp, by
   simp only [passesU, shareT]
   rw [ps0_eq]
   have e : ((xs.map itemT).map fun _ => (0 : Int)) = cntS shares 0 := by
    simp only [cntS]
    rw [List.map_const', List.map_const', List.length_map, hl]
   rw [e]; simp [seqX, seqS]⟩
 | n + 1 => by
  obtain ⟨ks, hk, e⟩ := passes_share d xs shares hl h0 n
  have hx : nextF shares n (cntS shares n) < xs.length := by rw [← hl]; exact bestTo_lt _ _ (by omega)
  refine ⟨ks.set (nextF shares n (cntS shares n)) (passU (d + 1) ((xs.map itemT).getD (nextF shares n (cntS shares n)) default) (ks.getD (nextF shares n (cntS shares n)) default)).1, by simp [hk], ?_⟩
  simp only [passesU]
  rw [e]
  simp only [shareT]
  rw [passU_succ]
  simp only [idxL, show ¬ (4 : Int) = 1 by omega, show ¬ (4 : Int) = 2 by omega, show ¬ (4 : Int) = 3 by omega, if_false, if_true, List.foldl_cons, List.foldl_nil, stepU]
  rw [getD_item xs hx, pass_item1]
  simp only [seqX, seqS_succ, List.map_append, List.map_cons, List.map_nil, List.nil_append, cntS]
  rfl
theorem home_item (d : Nat) (x : ByteArray × Int) (s : PS) : homeF d (itemT x) s = true := by
 cases d with
 | zero => rfl
 | succ d => cases s; simp [homeF, itemT, everyF]
theorem share_round {d : Nat} {xs : List (ByteArray × Int)} {shares : List Int} (hl : shares.length = xs.length) (h0 : 0 < xs.length) {E : Nat} (hE : shares.sum / (gcdI shares : Int) = E) (hE5 : 1 ≤ E ∧ E ≤ 5000) : RoundIs (d + 2) (shareT xs shares) E := by
 have key : ∀ n : Nat, homeF (d + 2) (shareT xs shares) (passesU (d + 2) (shareT xs shares) n).1 = (((n : Int).tmod E) == 0) := fun n => by
  obtain ⟨ks, hk, e⟩ := passes_share d xs shares hl h0 n
  rw [e]
  have hall : ((List.range (xs.map itemT).length).all fun j => homeF (d + 1) ((xs.map itemT).getD j default) (ks.getD j default)) = true := by
   rw [List.all_eq_true]
   intro j hj
   simp only [List.mem_range, List.length_map] at hj
   rw [getD_item xs hj]
   exact home_item _ _ _
  simp only [shareT, homeF]
  rw [hall, Bool.and_true]
  simp only [everyF, show ¬ (4 : Int) = 3 by omega, if_false, if_true, hE]
 refine ⟨hE5, ?_, ?_, fun n h1 h2 => ?_⟩
 ·obtain ⟨ks, hk, e⟩ := passes_share d xs shares hl h0 E
  rw [e]
  simp only [seqX, List.length_map, seqS_len]
  exact hE5.2
 ·rw [key]; simp
 ·rw [key]
  rw [Int.tmod_eq_emod_of_nonneg (by omega), Int.emod_eq_of_lt (by omega) (by omega)]
  simp; omega
theorem cnt_share {xs : List (ByteArray × Int)} {shares : List Int} (hl : shares.length = xs.length) (h0 : 0 < xs.length) (hd : (xs.map (·.1)).Nodup) (n : Nat) {i : Nat} (hi : i < xs.length) : (cntF (seqX xs shares n) (xs.getD i default).1 : Int) = (cntS shares n).getD i 0 := by
 rw [← seqS_cnt (by omega) i n]
 unfold cntF seqX
 rw [List.filter_map, List.length_map]
 congr 2
 refine List.filter_congr fun x hx => ?_
 have hx2 : x < xs.length := by rw [← hl]; exact seqS_lt (by omega) n x hx
 simp only [Function.comp]
 rw [ba_beq, Bool.eq_iff_iff]
 simp only [beq_iff_eq, decide_eq_true_eq]
 constructor
 ·intro e
  have e1 : xs.getD x default = xs[x] := by rw [List.getD_eq_getElem?_getD, List.getElem?_eq_getElem hx2]; rfl
  have e2 : xs.getD i default = xs[i] := by rw [List.getD_eq_getElem?_getD, List.getElem?_eq_getElem hi]; rfl
  rw [e1, e2] at e
  have hq := List.pairwise_iff_getElem.1 hd
  rcases Nat.lt_trichotomy x i with h1 | h1 | h1
  ·exact absurd (by rw [List.getElem_map, List.getElem_map]; exact e) (hq x i (by simpa using hx2) (by simpa using hi) h1)
  ·exact h1
  ·exact absurd (by rw [List.getElem_map, List.getElem_map]; exact e.symm) (hq i x (by simpa using hi) (by simpa using hx2) h1)
 ·rintro rfl; rfl
theorem share_parts {S s c E g : Int} {G : Nat} (hS : S = g * E) (hc : c * g = s) {a b : Int} (ha : a * G = c) (hb : b * G = E) : a * S = s * b := by
 subst ha hb hc hS
 ac_rfl
theorem onceS_same {l m : List ByteArray} (hm : (m.map (·.data.toList)).Pairwise fun x y => x ≤ y ∧ x ≠ y) (h : ∀ x, x ∈ l ↔ x ∈ m) : onceS l = m := by
 have h1 := onceL_ok (l.map (·.data.toList))
 have n1 : (onceL (l.map (·.data.toList))).Nodup := h1.1.imp fun h => h.2
 have n2 : (m.map (·.data.toList)).Nodup := hm.imp fun h => h.2
 have hp : (onceL (l.map (·.data.toList))).Perm (m.map (·.data.toList)) := (List.perm_ext_iff_of_nodup n1 n2).2 fun x => by
  rw [h1.2 x]
  simp only [List.mem_map]
  constructor
  ·rintro ⟨y, hy, rfl⟩; exact ⟨y, (h y).1 hy, rfl⟩
  ·rintro ⟨y, hy, rfl⟩; exact ⟨y, (h y).2 hy, rfl⟩
 have e : onceL (l.map (·.data.toList)) = m.map (·.data.toList) :=
  List.Perm.eq_of_pairwise (le := fun x y => x ≤ y) (fun a b _ _ h1 h2 => List.le_antisymm h1 h2) (h1.1.imp fun h => h.1) (hm.imp fun h => h.1) hp
 unfold onceS
 rw [e, List.map_map]
 have : ((fun l : List UInt8 => (⟨l.toArray⟩ : ByteArray)) ∘ fun x : ByteArray => x.data.toList) = id := by funext x; simp
 rw [this, List.map_id]
open Go.RowKit Go.Lib Go.Sort
theorem onceS_cells (hv : List ByteArray) : (onceL (hv.map (·.data.toList))).map encStr = (onceS hv).map Value.string := by
  rw [onceS, List.map_map]
  rfl
abbrev zP1IE : List Nat := [0, 1, 2, 3, 4, 5, 6]
abbrev zP1IP : List (Nat × List Nat × List Nat) := [(7, [], [])]
attribute [go_sem] zP1IE zP1IP
theorem gcd_bd (a b : Nat) (hb : 1 ≤ b) : 1 ≤ Nat.gcd a b ∧ Nat.gcd a b ≤ b := ⟨Nat.gcd_pos_of_pos_right a (by omega), Nat.gcd_le_right a (by omega)⟩
theorem g_lowP (a b : Nat) (h : Hp) (ha : a ≤ 1000000000000) (hb : 1 ≤ b ∧ b ≤ 1000000000000) : ACalls Tryz.prog 84 [.v (.int .i64 a), .v (.int .i64 b)] h (fun r h' => r = .agg (lowF a b) ∧ h' = h) := by
 have hgb := gcd_bd a b hb.1
 have hg := g_gcdP a b h ha hb.2
 unfold lowF
 generalize Nat.gcd a b = g at *
 have q1 : a / g ≤ a := Nat.div_le_self _ _
 have q2 : b / g ≤ b := Nat.div_le_self _ _
 have e1 : (a : Int).tdiv (g : Int) = ((a / g : Nat) : Int) := rfl
 have e2 : (b : Int).tdiv (g : Int) = ((b / g : Nat) : Int) := rfl
 have em : max (a : Int) (-(a : Int)) = a := by omega
 generalize a / g = p at *
 generalize b / g = q at *
 refine gE Tryz.func84 rfl (by kernel_rfl) 20 rfl fun c => ?_
 (repeat (first | refine gO rfl ?_ | ((first | refine gM zM34 ?_ | (with_reducible refine wM ?_ ?_) | ((with_reducible refine xS ?_); refine uD 4 zM34 zP1IE zP1IP 22 rfl (by kernel_rfl) ?_)) <;> ((try with_reducible intro K1 hK1); simp only [go_sem, ↓reduceIte, reduceCtorEq, nA, nB, nC, nD, nE, nF, em] <;> and_intros <;> first | (apply hK1; clear hK1 K1) | (intros; first | omega | decide | (simp_all <;> omega)) | skip))))
 refine awp_cond (t := _) rfl (fun h9 => by simp at h9; omega) (fun _ => ?_)
 (repeat (first | refine gO rfl ?_ | ((first | refine gM zM34 ?_ | (with_reducible refine wM ?_ ?_) | ((with_reducible refine xS ?_); refine uD 4 zM34 zP1IE zP1IP 22 rfl (by kernel_rfl) ?_)) <;> ((try with_reducible intro K1 hK1); simp only [go_sem, ↓reduceIte, reduceCtorEq, nA, nB, nC, nD, nE, nF] <;> and_intros <;> first | (apply hK1; clear hK1 K1) | (intros; first | omega | decide | (simp_all <;> omega)) | skip))))
 refine hg.mono ?_; rintro _ hz ⟨rfl, hh⟩; apply hK1; clear hK1 K1; rw [hh]; clear hh hz
 (repeat (first | refine gO rfl ?_ | ((first | refine gM zM34 ?_ | (with_reducible refine wM ?_ ?_) | ((with_reducible refine xS ?_); refine uD 4 zM34 zP1IE zP1IP 22 rfl (by kernel_rfl) ?_)) <;> ((try with_reducible intro K1 hK1); simp only [go_sem, ↓reduceIte, reduceCtorEq, nA, nB, nC, nD, nE, nF, e1, e2] <;> and_intros <;> first | (apply hK1; clear hK1 K1) | (intros; first | omega | decide | (simp_all <;> omega)) | skip))))
 simp only [Tryz.results84, go_sem, ↓reduceIte, reduceCtorEq, nA, nB, nC, nD, nE, nF]
 exact ⟨_, _, Weak.refl _, Hp.le.refl _, rfl, rfl⟩
theorem flat_encS (l : List ByteArray) : (l.map encS).flatten = l.map fun x => AV.v (.string x) := by
 induction l with
 | nil => rfl
 | cons x q ih => simp [encS, ih]
theorem repL_strs (G : Gh) (l : List ByteArray) : RepL G (l.map fun x => AV.v (.string x)) (l.map Value.string) := by
 refine ⟨by simp, fun j a b => ?_⟩
 simp only [List.getElem_map]
 exact ⟨.v _ rfl, rfl⟩
end Go.Proofs.YtidkkmoiolffnaaGreatDoor
namespace Go.Proofs
open Go.Shelf
set_option linter.unusedVariables false
set_option linter.unusedSimpArgs false
def Tryz.keys83_ren : Go.Shelf.Ren := ⟨fun | 7 => 83 | 10 => 145 | n => n, fun | 23 => 166 | 26 => 9 | 3 => 172 | 28 => 170 | 0 => 0 | 27 => 169 | 33 => 181 | 4 => 4 | n => n, fun | n => n⟩
theorem Tryz.keys83 : Go.Proofs.SlLaysZ.n7 Tryz.prog Tryz.keys83_ren := {
  mixed := by kernel_rfl
  f7 := ⟨Tryz.f83.name, by decide, Tryz.func83.trans (congrArg some (by kernel_rfl))⟩
  f10 := ⟨Tryz.f145.name, by decide, Tryz.func145.trans (congrArg some (by kernel_rfl))⟩
  t0 := Tryz.underlying0
  a0 := Tryz.isAgg0
  z0 := Tryz.sizeOf0
  v0 := Tryz.zeroValue0
  t4 := Tryz.underlying4
  a4 := Tryz.isAgg4
  z4 := Tryz.sizeOf4
  v4 := Tryz.zeroValue4
  t23 := Tryz.underlying166
  a23 := Tryz.isAgg166
  z23 := Tryz.sizeOf166
  v23 := Tryz.zeroValue166
  t26 := Tryz.underlying9
  a26 := Tryz.isAgg9
  z26 := Tryz.sizeOf9
  v26 := Tryz.zeroValue9
  t27 := Tryz.underlying169
  a27 := Tryz.isAgg169
  z27 := Tryz.sizeOf169
  v27 := Tryz.zeroValue169
  t28 := Tryz.underlying170
  a28 := Tryz.isAgg170
  z28 := Tryz.sizeOf170
  v28 := Tryz.zeroValue170
  t33 := Tryz.underlying181
  a33 := Tryz.isAgg181
  z33 := Tryz.sizeOf181
  v33 := Tryz.zeroValue181 }
def Tryz.sorted82_ren : Go.Shelf.Ren := ⟨fun | 6 => 82 | 8 => 143 | 9 => 144 | 11 => 203 | 13 => 158 | 12 => 204 | 23 => 227 | 24 => 228 | 14 => 257 | 15 => 258 | 16 => 259 | 17 => 260 | 18 => 261 | 19 => 262 | 20 => 263 | 21 => 264 | 22 => 265 | 25 => 329 | 26 => 278 | 27 => 279 | 28 => 330 | 29 => 331 | 30 => 332 | 31 => 364 | n => n, fun | 26 => 9 | 28 => 170 | 24 => 44 | 0 => 0 | 3 => 3 | 37 => 279 | 48 => 211 | 50 => 354 | 4 => 4 | 40 => 347 | 39 => 346 | 45 => 200 | 5 => 5 | 9 => 9 | 51 => 395 | 55 => 399 | 57 => 440 | 58 => 164 | 33 => 181 | n => n, fun | n => n⟩
theorem Tryz.sorted82 : Go.Proofs.SlLaysZ.n6 Tryz.prog Tryz.sorted82_ren := {
  mixed := by kernel_rfl
  f6 := ⟨Tryz.f82.name, by decide, Tryz.func82.trans (congrArg some (by kernel_rfl))⟩
  f8 := ⟨Tryz.f143.name, by decide, Tryz.func143.trans (congrArg some (by kernel_rfl))⟩
  f11 := ⟨Tryz.f203.name, by decide, Tryz.func203.trans (congrArg some (by kernel_rfl))⟩
  t0 := Tryz.underlying0
  a0 := Tryz.isAgg0
  z0 := Tryz.sizeOf0
  v0 := Tryz.zeroValue0
  t24 := Tryz.underlying44
  a24 := Tryz.isAgg44
  z24 := Tryz.sizeOf44
  v24 := Tryz.zeroValue44
  t26 := Tryz.underlying9
  a26 := Tryz.isAgg9
  z26 := Tryz.sizeOf9
  v26 := Tryz.zeroValue9
  t28 := Tryz.underlying170
  a28 := Tryz.isAgg170
  z28 := Tryz.sizeOf170
  v28 := Tryz.zeroValue170
  i26 := by kernel_rfl }
def Tryz.sort144_ren : Go.Shelf.Ren := ⟨fun | 6 => 144 | 8 => 158 | 9 => 204 | 19 => 227 | 20 => 228 | 21 => 257 | 22 => 258 | 23 => 259 | 24 => 260 | 25 => 261 | 26 => 262 | 27 => 263 | 28 => 264 | 29 => 265 | 36 => 329 | 31 => 278 | 32 => 279 | 37 => 330 | 38 => 331 | 39 => 332 | 41 => 364 | n => n, fun | 27 => 44 | 29 => 9 | 3 => 3 | 32 => 279 | 26 => 44 | 0 => 0 | 44 => 211 | 46 => 354 | 4 => 4 | 36 => 347 | 35 => 346 | 41 => 200 | 5 => 5 | 9 => 9 | 53 => 395 | 57 => 399 | 63 => 440 | 64 => 164 | n => n, fun | n => n⟩
theorem Tryz.sort144 : Go.Proofs.SlLaysM.n6 Tryz.prog Tryz.sort144_ren := {
  mixed := by kernel_rfl
  f6 := ⟨Tryz.f144.name, by decide, Tryz.func144.trans (congrArg some (by kernel_rfl))⟩
  f8 := Tryz.func158.trans (congrArg some (by kernel_rfl))
  f9 := ⟨Tryz.f204.name, by decide, Tryz.func204.trans (congrArg some (by kernel_rfl))⟩
  f19 := Tryz.func227.trans (congrArg some (by kernel_rfl))
  f20 := Tryz.func228.trans (congrArg some (by kernel_rfl))
  f21 := ⟨Tryz.f257.name, by decide, Tryz.func257.trans (congrArg some (by kernel_rfl))⟩
  f22 := ⟨Tryz.f258.name, by decide, Tryz.func258.trans (congrArg some (by kernel_rfl))⟩
  f23 := ⟨Tryz.f259.name, by decide, Tryz.func259.trans (congrArg some (by kernel_rfl))⟩
  f24 := ⟨Tryz.f260.name, by decide, Tryz.func260.trans (congrArg some (by kernel_rfl))⟩
  f25 := ⟨Tryz.f261.name, by decide, Tryz.func261.trans (congrArg some (by kernel_rfl))⟩
  f26 := ⟨Tryz.f262.name, by decide, Tryz.func262.trans (congrArg some (by kernel_rfl))⟩
  f27 := ⟨Tryz.f263.name, by decide, Tryz.func263.trans (congrArg some (by kernel_rfl))⟩
  f28 := ⟨Tryz.f264.name, by decide, Tryz.func264.trans (congrArg some (by kernel_rfl))⟩
  f29 := ⟨Tryz.f265.name, by decide, Tryz.func265.trans (congrArg some (by kernel_rfl))⟩
  f31 := Tryz.func278.trans (congrArg some (by kernel_rfl))
  f32 := Tryz.func279.trans (congrArg some (by kernel_rfl))
  f36 := ⟨Tryz.f329.name, by decide, Tryz.func329.trans (congrArg some (by kernel_rfl))⟩
  f37 := ⟨Tryz.f330.name, by decide, Tryz.func330.trans (congrArg some (by kernel_rfl))⟩
  f38 := ⟨Tryz.f331.name, by decide, Tryz.func331.trans (congrArg some (by kernel_rfl))⟩
  f39 := ⟨Tryz.f332.name, by decide, Tryz.func332.trans (congrArg some (by kernel_rfl))⟩
  f41 := ⟨Tryz.f364.name, by decide, Tryz.func364.trans (congrArg some (by kernel_rfl))⟩
  t0 := Tryz.underlying0
  a0 := Tryz.isAgg0
  z0 := Tryz.sizeOf0
  v0 := Tryz.zeroValue0
  t3 := Tryz.underlying3
  a3 := Tryz.isAgg3
  z3 := Tryz.sizeOf3
  v3 := Tryz.zeroValue3
  t4 := Tryz.underlying4
  a4 := Tryz.isAgg4
  z4 := Tryz.sizeOf4
  v4 := Tryz.zeroValue4
  t5 := Tryz.underlying5
  a5 := Tryz.isAgg5
  z5 := Tryz.sizeOf5
  v5 := Tryz.zeroValue5
  t9 := Tryz.underlying9
  a9 := Tryz.isAgg9
  z9 := Tryz.sizeOf9
  v9 := Tryz.zeroValue9
  t26 := Tryz.underlying44
  a26 := Tryz.isAgg44
  z26 := Tryz.sizeOf44
  v26 := Tryz.zeroValue44
  t27 := Tryz.underlying44
  a27 := Tryz.isAgg44
  z27 := Tryz.sizeOf44
  v27 := Tryz.zeroValue44
  t29 := Tryz.underlying9
  a29 := Tryz.isAgg9
  z29 := Tryz.sizeOf9
  v29 := Tryz.zeroValue9
  t32 := Tryz.underlying279
  a32 := Tryz.isAgg279
  z32 := Tryz.sizeOf279
  v32 := Tryz.zeroValue279
  t35 := Tryz.underlying346
  a35 := Tryz.isAgg346
  z35 := Tryz.sizeOf346
  v35 := Tryz.zeroValue346
  t36 := Tryz.underlying347
  a36 := Tryz.isAgg347
  z36 := Tryz.sizeOf347
  v36 := Tryz.zeroValue347
  t41 := Tryz.underlying200
  a41 := Tryz.isAgg200
  z41 := Tryz.sizeOf200
  v41 := Tryz.zeroValue200
  t44 := Tryz.underlying211
  a44 := Tryz.isAgg211
  z44 := Tryz.sizeOf211
  v44 := Tryz.zeroValue211
  t46 := Tryz.underlying354
  a46 := Tryz.isAgg354
  z46 := Tryz.sizeOf354
  v46 := Tryz.zeroValue354
  t53 := Tryz.underlying395
  a53 := Tryz.isAgg395
  z53 := Tryz.sizeOf395
  v53 := Tryz.zeroValue395
  t57 := Tryz.underlying399
  a57 := Tryz.isAgg399
  z57 := Tryz.sizeOf399
  v57 := Tryz.zeroValue399
  t63 := Tryz.underlying440
  a63 := Tryz.isAgg440
  z63 := Tryz.sizeOf440
  v63 := Tryz.zeroValue440
  t64 := Tryz.underlying164
  a64 := Tryz.isAgg164
  z64 := Tryz.sizeOf164
  v64 := Tryz.zeroValue164 }
open Go.RowKit Go.Maps Go.Sort in
theorem Tryz.sorts82 (m : Nat) : AnyZ.SortsIn Tryz.prog Tryz.sorted82_ren Fence.wide m :=
  ⟨fun blk off cap ss W hH hblk hsz => callsIn_wide.2 (AnyM.slices_Sort_string Tryz.sort144 blk off cap ss W hH hblk hsz),
   fun p cap W => callsIn_wide.2 (AnyM.slices_Sort_string_none Tryz.sort144 p cap W)⟩
end Go.Proofs
namespace Go.Proofs.YtidkkmoiolffnaaGreatDoor
open Go.RowKit Go.Maps Go.Sort Go.Shelf Go.WideElems Go.MapKept
set_option linter.unusedVariables false
set_option linter.unusedSimpArgs false
def keyL (x : MapEntry) : List UInt8 := match x.key with
  | .string s => s.data.toList
  | _ => []
def okR {H : Type} : Value → Option (DataW H × List MemPlace) := fun _ => some (.lit (.bool true), [])
theorem ents_fit {H : Type} {P : Program} {k : TypeId} (hk : P.underlying k = some .string) {ents : Array MapEntry} {clock : Nat} (hst : Stamped ents clock) (hs : ∀ x ∈ ents.toList, ∃ s : ByteArray, x.key = .string s ∧ s.size ≤ maxLen) (hl : ents.size ≤ maxLen) : Fit (H := H) P k okR ents clock := by
  refine ⟨hl, hst, fun x hx => ?_⟩
  obtain ⟨s, e, hsz⟩ := hs x hx
  exact ⟨(.string s.data.toList, .lit (.bool true)), by simp [Go.WideElems.rd, keyOf, hk, e, mapKey, hsz, okR]⟩
theorem ents_keys {H : Type} {P : Program} {k : TypeId} (hk : P.underlying k = some .string) {l : List MapEntry} (hs : ∀ x ∈ l, ∃ s : ByteArray, x.key = .string s ∧ s.size ≤ maxLen) : (l.map (Go.WideElems.rg (H := H) P k okR)).map (fun p => strOf p.1) = l.map keyL := by
  rw [List.map_map]
  refine List.map_congr_left fun x hx => ?_
  obtain ⟨s, e, hsz⟩ := hs x hx
  have : Go.WideElems.rd (H := H) P k okR x = some (.string s.data.toList, .lit (.bool true)) := by simp [Go.WideElems.rd, keyOf, hk, e, mapKey, hsz, okR]
  simp [Go.WideElems.rg, this, strOf, keyL, e]
set_option maxRecDepth 100000 in
set_option maxHeartbeats 1000000 in
theorem sorted_walkT (p b : Nat) (ents : Array MapEntry) (clock : Nat) (W : World) (hp : W.cell? ⟨p, 0, none⟩ = some (.map (some b))) (hb : W.heap[b]? = some (.map ents clock)) (hst : Stamped ents clock)
    (hs : ∀ x ∈ ents.toList, ∃ s : ByteArray, x.key = .string s ∧ s.size ≤ maxLen) (hl : ents.size ≤ 100000) :
    Calls Tryz.prog 82 #[.func (.func 145) #[] #[.pointer (some ⟨p, 0, none⟩)]] W fun e w' => ∃ (v : Value) (ss : List (List UInt8)), e = .returned v ∧ ss.Perm (ents.toList.map keyL) ∧
      w'.ownsRow W.heap.size 9 1 v ss.length ((ss.mergeSort (fun x y => decide (x ≤ y))).map encStr) ∧ Below W.heap.size W w' := by
  have hk : Tryz.prog.underlying 9 = some .string := Tryz.underlying9
  have hmx : (100000 : Nat) ≤ maxLen := by decide
  have F := ents_fit (H := Unit) hk hst hs (by omega)
  have hpb : p < W.heap.size := World.block_lt_of_cell? W _ hp
  have hperm : ((ents.toList.map (Go.WideElems.rg (H := Unit) Tryz.prog 9 okR)).foldr DataW.insert []).Perm (ents.toList.map (Go.WideElems.rg Tryz.prog 9 okR)) := Go.WideShapes.sorted_perm _
  have hlen : Maps.size (.map ((ents.toList.map (Go.WideElems.rg (H := Unit) Tryz.prog 9 okR)).foldr DataW.insert [])) = ents.size := by
    rw [Maps.size_eq, hperm.length_eq]; simp
  have hown : W.ownsMap Tryz.prog 9 (okR (H := Unit)) b ents.size (.map ((ents.toList.map (Go.WideElems.rg Tryz.prog 9 okR)).foldr DataW.insert [])) := ⟨ents, clock, hb, F, Nat.le_refl _, rfl⟩
  have hseq := AnyZ.keys_gives (ρ := Tryz.keys83_ren) { Tryz.keys83 with } Fence.wide 2 trivial rfl (by omega) p b ents.size _ W hpb hp hown
  have hc := AnyZ.sorted_in Tryz.sorted82 Fence.wide 5 trivial trivial trivial trivial rfl (by omega) (Tryz.sorts82 _) (enters_of Tryz.func144 (by kernel_rfl) rfl) 145 #[.pointer (some ⟨p, 0, none⟩)] trivial
    (enters_of Tryz.func145 (by kernel_rfl) rfl) _ _ (by rw [hlen]; omega) (by rw [hlen]; omega) W hseq
  refine (callsIn_wide.1 hc).mono ?_
  rintro e w' ⟨v, ss, rfl, hS, hrow, _, hbel⟩
  refine ⟨v, ss, rfl, hS.trans ?_, hrow, hbel⟩
  rw [← ents_keys (H := Unit) hk hs]
  exact hperm.map _
open Go
open Nat renaming reduceAdd → nA, reduceSub → nB, reduceMul → nC, reduceLT → nD, reduceLeDiff → nE, reduceEqDiff → nF, reduceMod → nG, reduceDiv → nH, reducePow → nI
set_option maxRecDepth 100000
set_option maxHeartbeats 8000000
theorem g_keysT (m : Nat) (h : Hp) : ACalls Tryz.prog 83 [.map m] h (fun r h' => ∃ i, h.H i = none ∧ r = .fn 145 [.ptr i 0] ∧ h' = { h with H := upd h.H i (some (.cells [.map m])) }) := by
 refine gE Tryz.func83 rfl (by kernel_rfl) 3 rfl fun c => ?_
 (repeat (first | refine gO rfl ?_ | (refine gM zM35 fun K1 hK1 => ?_; simp only [go_sem, ↓reduceIte, reduceCtorEq, nA, nB, nC, nD, nE, nF] <;> and_intros <;> first | (apply hK1; clear hK1 K1) | (intros; first | omega | decide | (simp_all <;> omega)) | skip)))
 intro i hi
 refine hK1 _ ?_; clear hK1 K1
 (repeat (first | refine gO rfl ?_ | (refine gM zM35 fun K1 hK1 => ?_; simp only [go_sem, ↓reduceIte, reduceCtorEq, nA, nB, nC, nD, nE, nF] <;> and_intros <;> first | (apply hK1; clear hK1 K1) | (intros; first | omega | decide | (simp_all <;> omega)) | skip)))
 simp only [Tryz.results83, go_sem, ↓reduceIte, reduceCtorEq, nA, nB, nC, nD, nE, nF]
 exact ⟨_, _, Weak.refl _, Hp.le.refl _, i, hi, rfl, rfl⟩
theorem g_sortedT (i m : Nat) (es : List (ByteArray × AV)) (ns : List ByteArray) (h : Hp) (hi : h.H i = some (.cells [.map m])) (hm : h.H m = some (.map es)) (hmem : ∀ k, k ∈ es.map (·.1) ↔ k ∈ ns) (hsz : ∀ k ∈ es.map (·.1), k.size ≤ 1000000) (hl : es.length ≤ 100000) :
  ACalls Tryz.prog 82 [.fn 145 [.ptr i 0]] h (fun r h' => r = .row 1 ((onceS ns).map encS) none ∧ h' = h) := by
 refine acalls_mk (by kernel_rfl) fun G w vs hs hv ha => ?_
 have hr := ha 0 (by simp)
 have hvs : vs = #[vs.getD 0 undef] := by
  have hv1 : vs.size = 1 := hv
  apply Array.ext (by simpa using hv1)
  intro j hj hj'
  simp only [List.size_toArray, List.length_cons, List.length_nil] at hj'
  obtain rfl : j = 0 := by omega
  simp [Array.getD, hv1]
 rw [hvs]
 generalize vs.getD 0 undef = v at *
 simp only [List.getElem_cons_zero] at hr
 cases hr with
 | fn _ _ us u hlu huu hru =>
 have h0 := hru 0 (by simp)
 have hu0 := huu 0 (by simp)
 simp only [List.getElem_cons_zero] at h0
 have hus : us = #[u 0] := by
  have hl1 : us.size = 1 := hlu
  apply Array.ext (by simpa using hl1)
  intro j hj hj'
  simp only [List.size_toArray, List.length_cons, List.length_nil] at hj'
  obtain rfl : j = 0 := by omega
  rw [Array.getElem?_eq_getElem hj] at hu0
  simpa using hu0
 rw [hus]
 generalize u 0 = p0 at h0
 cases h0 with
 | ptr _ _ p hat =>
 obtain ⟨p', ob, e', hh, ⟨cs, E, rfl, hcr⟩, _⟩ := hs.obj i _ hi
 rw [hat] at e'; cases e'
 obtain ⟨x, hx, hrx, _⟩ := hcr.getD (j := 0) (by simp)
 simp only [List.getD_cons_zero] at hrx
 cases hrx with
 | map _ b hab =>
 have hcell : w.cell? ⟨p, 0, none⟩ = some (.map (some b)) := by
  rw [List.getElem?_take] at hx
  split at hx
  ·simpa [World.cell?, hh] using hx
  ·cases hx
 obtain ⟨b', ob, e', hhb, ⟨ents, clock, rfl, hst, hsize, hent⟩, _⟩ := hs.obj m _ hm
 rw [hab] at e'; cases e'
 have hkeys : ents.toList.map keyL = es.map (fun q => q.1.data.toList) := by
  apply List.ext_getElem (by simpa using hsize)
  intro j h1 h2
  have h3 := hent j (by simpa using h2) (by simpa using h1)
  simp only [List.getElem_map, Array.getElem_toList, keyL, h3.1]
 have hks : ∀ x ∈ ents.toList, ∃ s : ByteArray, x.key = .string s ∧ s.size ≤ maxLen := fun x hx => by
  obtain ⟨j, hj, e⟩ := List.getElem_of_mem hx
  have hj2 : j < ents.size := by simpa using hj
  have hj3 : j < es.length := by omega
  have h3 := hent j hj3 hj2
  have hmx : (1000000 : Nat) ≤ maxLen := by decide
  refine ⟨es[j].1, by rw [← e]; simpa using h3.1, Nat.le_trans (hsz _ (List.mem_map.2 ⟨es[j], List.getElem_mem hj3, rfl⟩)) hmx⟩
 have hnd : (es.map (fun q => q.1.data.toList)).Nodup := by
  rw [← hkeys]
  have h3 : ents.toList.map (fun x => x.key) = (ents.toList.map keyL).map encStr := by
   rw [List.map_map]
   refine List.map_congr_left fun x hx => ?_
   obtain ⟨s, e, _⟩ := hks x hx
   simp [keyL, e, encStr]
  have h4 := hst.2.2
  rw [h3] at h4
  exact List.Pairwise.of_map encStr (fun a b h e => h (by rw [e])) h4
 refine (sorted_walkT p b ents clock w hcell hhb hst hks (by omega)).mono ?_
 rintro _ w' ⟨v', ss, rfl, hperm, own, bel⟩
 rw [hkeys] at hperm
 have hmm : ∀ x, x ∈ ss ↔ x ∈ ns.map (·.data.toList) := fun x => by
  rw [hperm.mem_iff, List.mem_map, List.mem_map]
  constructor
  ·rintro ⟨q, hq, rfl⟩; exact ⟨q.1, (hmem q.1).1 (List.mem_map.2 ⟨q, hq, rfl⟩), rfl⟩
  ·rintro ⟨k, hk, rfl⟩
   obtain ⟨q, hq, rfl⟩ := List.mem_map.1 ((hmem k).2 hk)
   exact ⟨q, hq, rfl⟩
 have hko := keys_once (hperm.nodup_iff.2 hnd) hmm
 have hsl : ss.length = (onceS ns).length := by
  have := congrArg List.length hko
  rw [List.length_mergeSort] at this
  rw [this, onceS, List.length_map]
 rw [hko, onceS_cells, hsl] at own
 obtain ⟨G', g1, f1, s1, r1⟩ := row_of_own hs bel own (xs := (onceS ns).map encS) (by simp) (fun x hx => by obtain ⟨y, _, rfl⟩ := List.mem_map.1 hx; rfl) (by rw [flat_encS]; exact repL_strs G _)
 exact ⟨v', rfl, _, h, G', ⟨rfl, rfl⟩, g1, f1, s1, r1⟩
end Go.Proofs.YtidkkmoiolffnaaGreatDoor
