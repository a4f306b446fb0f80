/- loop.newPart. -/
import Derived.Test.YtidkkmoiolffnaaGreatDoorM2
namespace Go.Proofs.YtidkkmoiolffnaaGreatDoor
open Go
set_option linter.unusedVariables false
set_option linter.unusedSimpArgs false
open Nat renaming reduceAdd → nA, reduceSub → nB, reduceMul → nC, reduceLT → nD, reduceLeDiff → nE, reduceEqDiff → nF, reduceMod → nG, reduceDiv → nH, reducePow → nI
abbrev zM30 : Option Tmp → Nat := mdL [(5, 1), (14, 2)]
abbrev zM31 : Option Tmp → Nat := mdL []
abbrev zM32 : Option Tmp → Nat := mdL [(1, 1)]
abbrev zM33 : Option Tmp → Nat := mdL [(4, 1), (6, 1), (8, 1)]
abbrev zM34 : Option Tmp → Nat := mdL [(2, 1), (6, 1), (8, 1), (12, 2)]
abbrev zK30 : Nat := 35184372150525
abbrev zK31 : Nat := 154742654650856545879597411
attribute [go_sem] zM30 zM31 zM32 zM33 zM34 zK30 zK31
abbrev zP17E : List Nat := [0, 1, 2, 3]
abbrev zP17P : List (Nat × List Nat × List Nat) := [(4, [0], [5]), (6, [], [7])]
abbrev zP18E : List Nat := [0, 1, 2, 3, 4, 5]
abbrev zP18P : List (Nat × List Nat × List Nat) := [(6, [4], [7]), (8, [], [9, 10]), (11, [], [])]
attribute [go_sem] zP17E zP17P zP18E zP18P
set_option maxRecDepth 100000
set_option maxHeartbeats 8000000
def XP : RK := ⟨fun t => match t with | .mk _ _ _ _ _ shares => [.v (.int .i64 shares.sum)], fun kind cs => if kind = 4 then cs else List.replicate cs.length 0⟩
theorem upd_self {α : Type} {f : Nat → Option α} {i : Nat} {x : Option α} (h : f i = x) : upd f i x = f := by
 funext j
 by_cases hj : j = i
 ·subst hj; rw [upd_same, h]
 ·rw [upd_other _ _ hj]
theorem sum_nb : ∀ (l : List Int), (∀ x ∈ l, NB x) → -(l.length * 5000000000000000) ≤ l.sum ∧ l.sum ≤ l.length * 5000000000000000
 | [], _ => by simp
 | x :: l, h => by
  have h1 := h x (by simp)
  have h2 := sum_nb l fun y hy => h y (by simp [hy])
  unfold NB at h1
  simp only [List.sum_cons, List.length_cons]
  omega
def NewPI (d : Nat) (kind : Int) (item : ByteArray) (long many : Int) (kids : List LT) (shares : List Int) (h : Hp) (i c : Nat) (g : Nat) (s : St) : Prop :=
 ∃ (az : List AT) (K : AV) (h' : Hp), g + az.length = kids.length ∧ NewI XP d kids h i c az h' ∧ kidsK h az K h'.T ∧ h'.H i = some (.cells (cells9 kind item long many kids shares K 0 c ++ [.v (.int .i64 0)])) ∧ h'.T c = some (.cont 1 ((kids.map fun _ => (0 : Int)).map encI)) ∧
  s = ⟨(AV.junk :: ((.ref [.v (.int .i64 kind), .v (.string item), .v (.int .i64 long), .v (.int .i64 many), .row 6 (kids.map encL) none, .row 1 (shares.map encI) none] 0) :: AV.junk :: ((.ptr i 0) :: (jnk 12 ((.row 6 (kids.map encL) none) :: (.v (.int .i64 kids.length)) :: (.v (.int .i64 az.length)) :: (jnk 32 [])))))), [], h'⟩
theorem g_newPart : ∀ (d : Nat) (t : LT) (h : Hp), KC d t → ACalls Tryz.prog 75 [.agg (encL t)] h (NewR XP d t h)
 | 0, _, _, hb => hb.elim
 | d + 1, .mk kind item long many kids shares, h, hb => by
  obtain ⟨b1, b2, b3, b4, b5, b6, b7, b8⟩ := id hb
  simp only [encL_eq]
  refine gE Tryz.func75 rfl (by kernel_rfl) 50 rfl fun c => ?_
  (repeat (first | refine gO rfl ?_ | ((first | refine gM zM30 ?_ | (with_reducible refine wM ?_ ?_) | ((with_reducible refine xS ?_); refine uD 1 zM30 zP17E zP17P 51 rfl (by kernel_rfl) ?_) | ((with_reducible refine xR ?_); refine uE 5 zM30 zP18E zP18P 51 rfl (by kernel_rfl) ?_)) <;> ((try with_reducible intro K1 hK1); simp only [go_sem, ↓reduceIte, reduceCtorEq, nA, nB, nC, nD, nE, nF, Int.toNat_natCast] <;> and_intros <;> first | (apply hK1; clear hK1 K1) | (intros; first | omega | decide | (simp_all <;> omega)) | skip))))
  intro c0 hc0
  refine hK1 _ ?_; clear hK1 K1
  (repeat (first | refine gO rfl ?_ | ((first | refine gM zM30 ?_ | (with_reducible refine wM ?_ ?_) | ((with_reducible refine xS ?_); refine uD 1 zM30 zP17E zP17P 51 rfl (by kernel_rfl) ?_) | ((with_reducible refine xR ?_); refine uE 5 zM30 zP18E zP18P 51 rfl (by kernel_rfl) ?_)) <;> ((try with_reducible intro K1 hK1); simp only [go_sem, ↓reduceIte, reduceCtorEq, nA, nB, nC, nD, nE, nF, Int.toNat_natCast] <;> and_intros <;> first | (apply hK1; clear hK1 K1) | (intros; first | omega | decide | (simp_all <;> omega)) | skip))))
  intro i hi
  refine hK1 _ ?_; clear hK1 K1
  (repeat (first | refine gO rfl ?_ | ((first | refine gM zM30 ?_ | (with_reducible refine wM ?_ ?_) | ((with_reducible refine xS ?_); refine uD 1 zM30 zP17E zP17P 51 rfl (by kernel_rfl) ?_) | ((with_reducible refine xR ?_); refine uE 5 zM30 zP18E zP18P 51 rfl (by kernel_rfl) ?_)) <;> ((try with_reducible intro K1 hK1); simp only [go_sem, ↓reduceIte, reduceCtorEq, nA, nB, nC, nD, nE, nF, Int.toNat_natCast] <;> and_intros <;> first | (apply hK1; clear hK1 K1) | (intros; first | omega | decide | (simp_all <;> omega)) | skip))))
  have hrep : List.replicate kids.length [AV.v (.int .i64 0)] = (kids.map fun _ => (0 : Int)).map encI := by
   rw [List.map_map, ← List.map_const]; rfl
  refine awp_loopC (rl false [1, 1, 1, 1, 12, 3, 32]) 0 (fun g s => NewPI d kind item long many kids shares h i c0 g s) kids.length ⟨[], _, _, by simp, ⟨fun l hl => by simp at hl, fun j l hj => by simp at hj, fun x hx => upd_other _ _ (fun e => by subst e; exact hx hi), fun x hx => upd_other _ _ (fun e => by subst e; exact hx hc0)⟩, .inl ⟨rfl, rfl⟩, upd_same _ _ _, by rw [← hrep]; exact upd_same _ _ _, rfl⟩ ?_
  rintro g _ ⟨az, K, h', hg, hI, hK, hH, hT, rfl⟩
  have hH0 : h'.H i = some (.cells [.v (.int .i64 kind), .v (.string item), .v (.int .i64 long), .v (.int .i64 many), .row 6 (kids.map encL) none, .row 1 (shares.map encI) none, K, .v (.int .i64 0), .arr 1 c0 kids.length, .v (.int .i64 0)]) := hH
  (repeat (first | refine gO rfl ?_ | ((first | refine gM zM30 ?_ | (with_reducible refine wM ?_ ?_) | ((with_reducible refine xS ?_); refine uD 1 zM30 zP17E zP17P 51 rfl (by kernel_rfl) ?_) | ((with_reducible refine xR ?_); refine uE 5 zM30 zP18E zP18P 51 rfl (by kernel_rfl) ?_)) <;> ((try with_reducible intro K1 hK1); simp only [go_sem, ↓reduceIte, reduceCtorEq, nA, nB, nC, nD, nE, nF] <;> and_intros <;> first | (apply hK1; clear hK1 K1) | (intros; first | omega | decide | (simp_all <;> omega)) | skip))))
  refine awp_cond (t := _) rfl (fun h6 => ?_) (fun h6 => ?_)
  ·simp only [decide_eq_true_eq] at h6
   have hjk : az.length < kids.length := by omega
   have hge : (kids.map encL).getD az.length [] = encL (kids.getD az.length default) := getD_enc encL kids az.length default hjk
   have hmem := getD_mem' kids az.length default hjk
   have hbt := b8 _ hmem
   have hlen := encL_len (kids.getD az.length default)
   have htk : List.take 6 (encL (kids.getD az.length default)) = encL (kids.getD az.length default) := List.take_of_length_le (Nat.le_of_eq hlen)
   have hdr : List.drop 6 (encL (kids.getD az.length default)) = [] := List.drop_of_length_le (Nat.le_of_eq hlen)
   obtain ⟨jn, hjn⟩ : ∃ jn, az.length = jn := ⟨_, rfl⟩
   rw [hjn] at hjk hge hmem hbt hlen htk hdr h6 hg ⊢
   rcases hK with ⟨rfl, rfl⟩ | ⟨tk, hne, rfl, htkT, htk0⟩
   ·(repeat (first | refine gO rfl ?_ | ((first | refine gM zM30 ?_ | (with_reducible refine wM ?_ ?_) | ((with_reducible refine xS ?_); refine uD 1 zM30 zP17E zP17P 51 rfl (by kernel_rfl) ?_) | ((with_reducible refine xR ?_); refine uE 5 zM30 zP18E zP18P 51 rfl (by kernel_rfl) ?_)) <;> ((try with_reducible intro K1 hK1); simp only [go_sem, ↓reduceIte, reduceCtorEq, nA, nB, nC, nD, nE, nF, Int.toNat_natCast, hge, hlen, htk, hdr, hH0] <;> and_intros <;> first | (apply hK1; clear hK1 K1) | (intros; first | omega | decide | (simp_all <;> omega)) | skip))))
    refine (g_newPart d (kids.getD jn default) h' hbt).mono ?_
    rintro _ h2 ⟨a, rfl, hR, hS, hn1, hn2, hk1, hk2⟩
    have hH2 := (hk1 i (by rw [hH0]; simp)).trans hH0
    have hT2 := (hk2 c0 (by rw [hT]; simp)).trans hT
    refine hK1 _ ?_; clear hK1 K1
    (repeat (first | refine gO rfl ?_ | ((first | refine gM zM30 ?_ | (with_reducible refine wM ?_ ?_) | ((with_reducible refine xS ?_); refine uD 1 zM30 zP17E zP17P 51 rfl (by kernel_rfl) ?_) | ((with_reducible refine xR ?_); refine uE 5 zM30 zP18E zP18P 51 rfl (by kernel_rfl) ?_)) <;> ((try with_reducible intro K1 hK1); simp only [go_sem, ↓reduceIte, reduceCtorEq, nA, nB, nC, nD, nE, nF, Int.toNat_natCast, hge, hlen, htk, hdr, hH2] <;> and_intros <;> first | (apply hK1; clear hK1 K1) | (intros; first | omega | decide | (simp_all <;> omega)) | skip))))
    intro tk htkn
    refine hK1 _ ?_; clear hK1 K1
    replace htkn : h2.T tk = none := htkn
    (repeat (first | refine gO rfl ?_ | ((first | refine gM zM30 ?_ | (with_reducible refine wM ?_ ?_) | ((with_reducible refine xS ?_); refine uD 1 zM30 zP17E zP17P 51 rfl (by kernel_rfl) ?_) | ((with_reducible refine xR ?_); refine uE 5 zM30 zP18E zP18P 51 rfl (by kernel_rfl) ?_)) <;> ((try with_reducible intro K1 hK1); simp only [go_sem, ↓reduceIte, reduceCtorEq, nA, nB, nC, nD, nE, nF, Int.toNat_natCast, hge, hlen, htk, hdr, hH2] <;> and_intros <;> first | (apply hK1; clear hK1 K1) | (intros; first | omega | decide | (simp_all <;> omega)) | skip))))
    have htk1 : h'.T tk = none := Classical.byContradiction fun hn => by have := hk2 tk hn; rw [htkn] at this; exact hn this.symm
    have htk0 : h.T tk = none := Classical.byContradiction fun hn => by have := hI.2.2.2 tk hn; rw [htk1] at this; exact hn this.symm
    have hfr : ∀ (Y : AO) (n : Nat) (tk : Nat), (∀ xs, h2.T tk ≠ some (.cont 1 xs)) → RAt XP { H := upd h2.H i (some Y), T := upd h2.T tk (some (.tail n)) } d (kids.getD jn default) a (ps0 (kids.getD jn default)) := fun Y n tk htk => hR.frame (fun x hx => upd_other _ _ (fun e => by subst e; exact absurd (hn1 _ hx) (by rw [hH0]; simp))) (fun x hx => upd_other _ _ (fun e => by subst e; obtain ⟨xs, e2⟩ := hR.cont _ hx; exact htk xs e2))
    refine ⟨g - 1, by omega, ([] : List AT) ++ [a], .row 1 ((([] : List AT) ++ [a]).map fun a => [.ptr a.id 0]) (some tk), { H := upd h2.H i (some (.cells (cells9 kind item long many kids shares (.row 1 ((([] : List AT) ++ [a]).map fun a => [.ptr a.id 0]) (some tk)) 0 c0 ++ [.v (.int .i64 0)]))), T := upd h2.T tk (some (.tail 1)) }, by simp at hjn hg ⊢; omega, NewI.more (c := c0) (az := ([] : List AT)) hI hi (by rw [hH0]; simp) (by rw [hT]; simp) (by rw [hjn]; exact hfr _ 1 tk (fun xs e => by rw [htkn] at e; cases e)) hS hn1 hn2 (fun x hx hxi => (upd_other _ _ hxi).trans (hk1 x hx)) (fun x xs hx => (upd_other _ _ (fun e => by subst e; exact (by have := hk2 _ (show h'.T _ ≠ none by rw [hx]; simp); rw [hx, htkn] at this; cases this))).trans (hk2 x (by rw [hx]; simp))) (fun x hx => (upd_other _ _ (fun e => by subst e; exact hx htk0)).trans ((hk2 x (by rw [hI.2.2.2 x hx]; exact hx)).trans (hI.2.2.2 x hx))),
     .inr ⟨tk, by simp, rfl, by rw [show (([] : List AT) ++ [a]).length = 1 from rfl]; exact upd_same _ _ _, htk0⟩, upd_same _ _ _, (upd_other _ _ (fun e => by subst e; exact (by rw [hT2] at htkn; cases htkn))).trans hT2, by subst hjn; rfl⟩
   ·(repeat (first | refine gO rfl ?_ | ((first | refine gM zM30 ?_ | (with_reducible refine wM ?_ ?_) | ((with_reducible refine xS ?_); refine uD 1 zM30 zP17E zP17P 51 rfl (by kernel_rfl) ?_) | ((with_reducible refine xR ?_); refine uE 5 zM30 zP18E zP18P 51 rfl (by kernel_rfl) ?_)) <;> ((try with_reducible intro K1 hK1); simp only [go_sem, ↓reduceIte, reduceCtorEq, nA, nB, nC, nD, nE, nF, Int.toNat_natCast, hge, hlen, htk, hdr, hH0] <;> and_intros <;> first | (apply hK1; clear hK1 K1) | (intros; first | omega | decide | (simp_all <;> omega)) | skip))))
    refine (g_newPart d (kids.getD jn default) h' hbt).mono ?_
    rintro _ h2 ⟨a, rfl, hR, hS, hn1, hn2, hk1, hk2⟩
    have hH2 := (hk1 i (by rw [hH0]; simp)).trans hH0
    have hT2 := (hk2 c0 (by rw [hT]; simp)).trans hT
    refine hK1 _ ?_; clear hK1 K1
    have htk2 := (hk2 tk (by rw [htkT]; simp)).trans htkT
    (repeat (first | refine gO rfl ?_ | ((first | refine gM zM30 ?_ | (with_reducible refine wM ?_ ?_) | ((with_reducible refine xS ?_); refine uD 1 zM30 zP17E zP17P 51 rfl (by kernel_rfl) ?_) | ((with_reducible refine xR ?_); refine uE 5 zM30 zP18E zP18P 51 rfl (by kernel_rfl) ?_)) <;> ((try with_reducible intro K1 hK1); simp only [go_sem, ↓reduceIte, reduceCtorEq, nA, nB, nC, nD, nE, nF, Int.toNat_natCast, hge, hlen, htk, hdr, hH2, htk2] <;> and_intros <;> first | (apply hK1; clear hK1 K1) | (intros; first | omega | decide | (simp_all <;> omega)) | skip))))
    have hfr : ∀ (Y : AO) (n : Nat) (tk : Nat), (∀ xs, h2.T tk ≠ some (.cont 1 xs)) → RAt XP { H := upd h2.H i (some Y), T := upd h2.T tk (some (.tail n)) } d (kids.getD jn default) a (ps0 (kids.getD jn default)) := fun Y n tk htk => hR.frame (fun x hx => upd_other _ _ (fun e => by subst e; exact absurd (hn1 _ hx) (by rw [hH0]; simp))) (fun x hx => upd_other _ _ (fun e => by subst e; obtain ⟨xs, e2⟩ := hR.cont _ hx; exact htk xs e2))
    have hrow : az.map (fun a : AT => [AV.ptr a.id 0]) ++ [[AV.ptr a.id 0]] = (az ++ [a]).map (fun a : AT => [AV.ptr a.id 0]) := by simp
    rw [hrow]
    refine ⟨g - 1, by omega, az ++ [a], .row 1 ((az ++ [a]).map fun a => [.ptr a.id 0]) (some tk), { H := upd h2.H i (some (.cells (cells9 kind item long many kids shares (.row 1 ((az ++ [a]).map fun a => [.ptr a.id 0]) (some tk)) 0 c0 ++ [.v (.int .i64 0)]))), T := upd h2.T tk (some (.tail (az.length + 1))) }, by simp at hjn hg ⊢; omega, NewI.more (c := c0) (az := az) hI hi (by rw [hH0]; simp) (by rw [hT]; simp) (by rw [hjn]; exact hfr _ (jn + 1) tk (fun xs e => by rw [htk2] at e; cases e)) hS hn1 hn2 (fun x hx hxi => (upd_other _ _ hxi).trans (hk1 x hx)) (fun x xs hx => (upd_other _ _ (fun e => by subst e; exact (by rw [htkT] at hx; cases hx))).trans (hk2 x (by rw [hx]; simp))) (fun x hx => (upd_other _ _ (fun e => by subst e; exact hx htk0)).trans ((hk2 x (by rw [hI.2.2.2 x hx]; exact hx)).trans (hI.2.2.2 x hx))),
     .inr ⟨tk, by simp, rfl, by rw [show (az ++ [a]).length = az.length + 1 by simp]; exact upd_same _ _ _, htk0⟩, upd_same _ _ _, (upd_other _ _ (fun e => by subst e; exact (by rw [hT2] at htk2; cases htk2))).trans hT2, by rw [show ((az ++ [a]).length : Int) = (jn : Int) + 1 by simp; omega]; rfl⟩
  ·simp only [decide_eq_false_iff_not] at h6
   have hjk : az.length = kids.length := by omega
   have hK' : kidsC az K := by
    rcases hK with ⟨rfl, rfl⟩ | ⟨tk, _, rfl, _, _⟩
    ·exact .inl ⟨rfl, rfl⟩
    ·exact .inr ⟨some tk, rfl⟩
   clear hK hH0
   (repeat (first | refine gQ rfl ?_ | ((first | refine gM zM30 ?_ | (with_reducible refine wM ?_ ?_) | ((with_reducible refine xS ?_); refine uD 1 zM30 zP17E zP17P 51 rfl (by kernel_rfl) ?_) | ((with_reducible refine xR ?_); refine uE 5 zM30 zP18E zP18P 51 rfl (by kernel_rfl) ?_)) <;> ((try with_reducible intro K1 hK1); simp only [go_sem, ↓reduceIte, reduceCtorEq, nA, nB, nC, nD, nE, nF] <;> and_intros <;> first | (apply hK1; clear hK1 K1) | (intros; first | omega | decide | (simp_all <;> omega)) | skip))))
   refine awp_seq ?_
   (repeat (first | refine gO rfl ?_ | ((first | refine gM zM30 ?_ | (with_reducible refine wM ?_ ?_) | ((with_reducible refine xS ?_); refine uD 1 zM30 zP17E zP17P 51 rfl (by kernel_rfl) ?_) | ((with_reducible refine xR ?_); refine uE 5 zM30 zP18E zP18P 51 rfl (by kernel_rfl) ?_)) <;> ((try with_reducible intro K1 hK1); simp only [go_sem, ↓reduceIte, reduceCtorEq, nA, nB, nC, nD, nE, nF] <;> and_intros <;> first | (apply hK1; clear hK1 K1) | (intros; first | omega | decide | (simp_all <;> omega)) | skip))))
   refine awp_loopC (rl false [3, 1, 31, 3, 13]) 0 (fun g s => ∃ j : Nat, g + j = shares.length ∧ s = ⟨((jnk 3 ((.ptr i 0) :: (jnk 31 ((.row 1 (shares.map encI) none) :: (.v (.int .i64 shares.length)) :: (.v (.int .i64 j)) :: (jnk 13 [])))))), [],
    { H := upd h'.H i (some (.cells (cells9 kind item long many kids shares K 0 c0 ++ [.v (.int .i64 (shares.take j).sum)]))), T := h'.T }⟩) shares.length ⟨0, by omega, ?_⟩ ?_
   ·have e0 : ({ H := upd h'.H i (some (.cells (cells9 kind item long many kids shares K 0 c0 ++ [.v (.int .i64 (shares.take 0).sum)]))), T := h'.T } : Hp) = h' := by
     show (⟨upd h'.H i (some (.cells (cells9 kind item long many kids shares K 0 c0 ++ [.v (.int .i64 0)]))), h'.T⟩ : Hp) = h'
     rw [upd_self hH]
    rw [e0]; rfl
   rintro g _ ⟨j, hj, rfl⟩
   have hnb := sum_nb (shares.take j) fun x hx => b7 x (List.mem_of_mem_take hx)
   have hjl : (shares.take j).length ≤ 1000 := by simp; omega
   have hH1 : (upd h'.H i (some (AO.cells (cells9 kind item long many kids shares K 0 c0 ++ [.v (.int .i64 (shares.take j).sum)])))) i = some (.cells [.v (.int .i64 kind), .v (.string item), .v (.int .i64 long), .v (.int .i64 many), .row 6 (kids.map encL) none, .row 1 (shares.map encI) none, K, .v (.int .i64 0), .arr 1 c0 kids.length, .v (.int .i64 (shares.take j).sum)]) := upd_same _ _ _
   (repeat (first | refine gO rfl ?_ | ((first | refine gM zM30 ?_ | (with_reducible refine wM ?_ ?_) | ((with_reducible refine xS ?_); refine uD 1 zM30 zP17E zP17P 51 rfl (by kernel_rfl) ?_) | ((with_reducible refine xR ?_); refine uE 5 zM30 zP18E zP18P 51 rfl (by kernel_rfl) ?_)) <;> ((try with_reducible intro K1 hK1); simp only [go_sem, ↓reduceIte, reduceCtorEq, nA, nB, nC, nD, nE, nF] <;> and_intros <;> first | (apply hK1; clear hK1 K1) | (intros; first | omega | decide | (simp_all <;> omega)) | skip))))
   refine awp_cond (t := _) rfl (fun h7 => ?_) (fun h7 => ?_)
   ·simp only [decide_eq_true_eq] at h7
    have hjs : j < shares.length := by omega
    have hgs : (shares.map encI).getD j [] = encI (shares.getD j 0) := getD_enc encI shares j 0 hjs
    have hms := b7 _ (getD_mem' shares j 0 hjs)
    have e1 : (shares.take (j + 1)).sum = (shares.take j).sum + shares.getD j 0 := by
     rw [List.take_add_one, List.getD_eq_getElem?_getD, List.getElem?_eq_getElem hjs, List.sum_append]; simp only [Option.toList_some, List.sum_cons, List.sum_nil, Option.getD_some]; omega
    have hb2 : NB (shares.getD j 0) := hms
    unfold NB at hb2
    (repeat (first | refine gO rfl ?_ | ((first | refine gM zM30 ?_ | (with_reducible refine wM ?_ ?_) | ((with_reducible refine xS ?_); refine uD 1 zM30 zP17E zP17P 51 rfl (by kernel_rfl) ?_) | ((with_reducible refine xR ?_); refine uE 5 zM30 zP18E zP18P 51 rfl (by kernel_rfl) ?_)) <;> ((try with_reducible intro K1 hK1); simp only [go_sem, ↓reduceIte, reduceCtorEq, nA, nB, nC, nD, nE, nF, Int.toNat_natCast, hgs, encI, cells9] <;> and_intros <;> first | (apply hK1; clear hK1 K1) | (intros; first | omega | decide | (simp_all <;> omega)) | skip))))
    refine ⟨g - 1, by omega, j + 1, by omega, ?_⟩
    rw [e1]; rfl
   ·simp only [decide_eq_false_iff_not] at h7
    have hjs : j = shares.length := by omega
    subst hjs
    rw [List.take_length]
    (repeat (first | refine gO rfl ?_ | ((first | refine gM zM30 ?_ | (with_reducible refine wM ?_ ?_) | ((with_reducible refine xS ?_); refine uD 1 zM30 zP17E zP17P 51 rfl (by kernel_rfl) ?_) | ((with_reducible refine xR ?_); refine uE 5 zM30 zP18E zP18P 51 rfl (by kernel_rfl) ?_)) <;> ((try with_reducible intro K1 hK1); simp only [go_sem, ↓reduceIte, reduceCtorEq, nA, nB, nC, nD, nE, nF] <;> and_intros <;> first | (apply hK1; clear hK1 K1) | (intros; first | omega | decide | (simp_all <;> omega)) | skip))))
    simp only [Tryz.results75, go_sem, ↓reduceIte, reduceCtorEq, nA, nB, nC, nD, nE, nF]
    obtain ⟨g1, g2, g3, g4⟩ := hI
    refine ⟨_, _, Weak.refl _, Hp.le.refl _, .mk i c0 az, rfl, ?_, ?_, ?_, ?_, fun x hx => (upd_other _ _ (fun e => by subst e; exact hx hi)).trans (g3 x hx), g4⟩
    ·rw [ps0_eq]
     have hcf : XP.cf kind (kids.map fun _ => (0 : Int)) = kids.map fun _ => (0 : Int) := by
      simp only [XP]
      split
      ·rfl
      ·rw [List.length_map, ← List.map_const]; rfl
     refine ⟨⟨K, upd_same _ _ _, hK'⟩, by rw [hcf]; exact hT, by rw [hcf]; simp; omega, fun j hj => ?_⟩
     have e : (kids.map ps0).getD j default = ps0 (kids.getD j default) := by
      rw [List.getD_eq_getElem?_getD, List.getD_eq_getElem?_getD, List.getElem?_map, List.getElem?_eq_getElem hj]; rfl
     rw [e]
     exact (g1 j (by omega)).1.frame (fun x hx => upd_other _ _ (fun e => by subst e; exact (g1 j (by omega)).2.1.1 hx)) (fun _ _ => rfl)
    ·exact fun j hj => ⟨(g1 j hj).2.1, fun l hl hne => g2 j l hj hl hne⟩
    ·intro x hx
     rcases mem_idsT hx with rfl | ⟨j, hj, hx⟩
     ·exact hi
     ·exact (g1 j hj).2.2.1 x hx
    ·intro x hx
     rcases mem_toksT hx with rfl | ⟨j, hj, hx⟩
     ·exact hc0
     ·exact (g1 j hj).2.2.2 x hx
theorem mul_bd {a b A B : Int} (ha : 0 ≤ a ∧ a ≤ A) (hb : 0 ≤ b ∧ b ≤ B) : 0 ≤ a * b ∧ a * b ≤ A * B :=
 ⟨Int.mul_nonneg ha.1 hb.1, Int.mul_le_mul ha.2 hb.2 hb.1 (by omega)⟩
theorem sum_take_succ (l : List Int) (j : Nat) (h : j < l.length) : (l.take (j + 1)).sum = (l.take j).sum + l.getD j 0 := by
 rw [List.take_add_one, List.getD_eq_getElem?_getD, List.getElem?_eq_getElem h, List.sum_append]; simp only [Option.toList_some, List.sum_cons, List.sum_nil, Option.getD_some]; omega
theorem sum_01 : ∀ (l : List Int), (∀ x ∈ l, 1 ≤ x ∧ x ≤ 1000) → 0 ≤ l.sum ∧ l.sum ≤ l.length * 1000
 | [], _ => by simp
 | x :: l, h => by
  have h1 := h x (by simp)
  have h2 := sum_01 l fun y hy => h y (by simp [hy])
  simp only [List.sum_cons, List.length_cons]
  omega
abbrev zP19E : List Nat := [0, 1, 2, 3, 4, 5, 6, 7, 8, 9, 10, 11, 12, 13, 14, 15, 16, 17, 18, 19, 20]
abbrev zP19P : List (Nat × List Nat × List Nat) := []
abbrev zP1AE : List Nat := [0, 1, 2, 3, 4, 5, 6, 7, 8, 9, 10]
abbrev zP1AP : List (Nat × List Nat × List Nat) := []
attribute [go_sem] zP19E zP19P zP1AE zP1AP
theorem g_behind45 (kind : Int) (item : ByteArray) (long many : Int) (kr : AV) (shares : List Int) (K : AV) (p : Int) (i c0 : Nat) (cs : List Int) (h : Hp) (hH : h.H i = some (.cells [.v (.int .i64 kind), .v (.string item), .v (.int .i64 long), .v (.int .i64 many), kr, .row 1 (shares.map encI) none, K, .v (.int .i64 p), .arr 1 c0 shares.length, .v (.int .i64 shares.sum)]))
  (hT : h.T c0 = some (.cont 1 (cs.map encI))) (hl : cs.length = shares.length) (hl2 : shares.length ≤ 1000) (hs : ∀ x ∈ shares, 1 ≤ x ∧ x ≤ 1000) (hp : 0 ≤ p ∧ p ≤ 1000000) (hc : ∀ x ∈ cs, 0 ≤ x ∧ x ≤ 1000000) :
  ACalls Tryz.prog 141 [.ptr i 0] h (fun r h' => r = .v (.int .i64 (nextF shares p cs)) ∧ h' = h) := by
 refine gE Tryz.func141 rfl (by kernel_rfl) 49 rfl fun c => ?_
 (repeat (first | refine gQ rfl ?_ | ((first | ((with_reducible refine yS ?_); refine awp_keep zK30 100 (kS ?_)) | ((with_reducible refine yR ?_); refine awp_keep zK30 100 (kR ?_)) | refine gR ?_ | (with_reducible refine wM ?_ ?_) | ((with_reducible refine xS ?_); refine awp_keep zK30 100 (uD 5 zM31 zP19E zP19P 50 rfl (by kernel_rfl) ?_))) <;> ((try with_reducible intro K1 hK1); simp only [go_sem, ↓reduceIte, reduceCtorEq, nA, nB, nC, nD, nE, nF, hH, nG, nH, nI] <;> and_intros <;> first | (apply hK1; clear hK1 K1) | (intros; first | omega | decide | (simp_all <;> omega)) | skip))))
 refine awp_seq ?_
 (repeat (first | refine gO rfl ?_ | ((first | ((with_reducible refine yS ?_); refine awp_keep zK30 100 (kS ?_)) | ((with_reducible refine yR ?_); refine awp_keep zK30 100 (kR ?_)) | refine gR ?_ | (with_reducible refine wM ?_ ?_) | ((with_reducible refine xS ?_); refine awp_keep zK30 100 (uD 5 zM31 zP19E zP19P 50 rfl (by kernel_rfl) ?_))) <;> ((try with_reducible intro K1 hK1); simp only [go_sem, ↓reduceIte, reduceCtorEq, nA, nB, nC, nD, nE, nF, hH, nG, nH, nI] <;> and_intros <;> first | (apply hK1; clear hK1 K1) | (intros; first | omega | decide | (simp_all <;> omega)) | skip))))
 refine awp_loopC (rl false [0, 1, 2, 2, 7, 3, 35]) 0 (fun g s => ∃ (j : Nat) (m : Int), g + j = shares.length ∧ (j ≠ 0 → m = shareV shares p cs (bestTo (shareV shares p cs) j)) ∧ (-10000000000000 ≤ m ∧ m ≤ 10000000000000) ∧
  s = ⟨((.ptr i 0) :: AV.junk :: AV.junk :: ((.v (.int .i64 (bestTo (shareV shares p cs) j))) :: (.v (.int .i64 m)) :: (jnk 7 ((.row 1 (shares.map encI) none) :: (.v (.int .i64 shares.length)) :: (.v (.int .i64 j)) :: (jnk 35 []))))), [], h⟩) shares.length ⟨0, 0, by omega, fun h => absurd rfl h, by omega, rfl⟩ ?_
 rintro g _ ⟨j, m, hj, hm, hmb, rfl⟩
 (repeat (first | refine gO rfl ?_ | ((first | ((with_reducible refine yS ?_); refine awp_keep zK30 100 (kS ?_)) | ((with_reducible refine yR ?_); refine awp_keep zK30 100 (kR ?_)) | refine gR ?_ | (with_reducible refine wM ?_ ?_) | ((with_reducible refine xS ?_); refine awp_keep zK30 100 (uD 5 zM31 zP19E zP19P 50 rfl (by kernel_rfl) ?_))) <;> ((try with_reducible intro K1 hK1); simp only [go_sem, ↓reduceIte, reduceCtorEq, nA, nB, nC, nD, nE, nF, hH, nG, nH, nI] <;> and_intros <;> first | (apply hK1; clear hK1 K1) | (intros; first | omega | decide | (simp_all <;> omega)) | skip))))
 refine awp_cond (t := _) rfl (fun h1 => ?_) (fun h1 => ?_)
 ·simp only [decide_eq_true_eq] at h1
  have hjs : j < shares.length := by omega
  have e2 : bestTo (shareV shares p cs) (j + 1) = if shareV shares p cs j > shareV shares p cs (bestTo (shareV shares p cs) j) then j else bestTo (shareV shares p cs) j := rfl
  have e0 : j = 0 → bestTo (shareV shares p cs) (j + 1) = j := fun h => by subst h; simp [bestTo]
  have e2t : j ≠ 0 → m < shareV shares p cs j → bestTo (shareV shares p cs) (j + 1) = j := fun h0 h => by rw [e2, if_pos (by rw [hm h0] at h; exact h)]
  have e2f : j ≠ 0 → ¬ m < shareV shares p cs j → bestTo (shareV shares p cs) (j + 1) = bestTo (shareV shares p cs) j := fun h0 h => by rw [e2, if_neg (by rw [hm h0] at h; exact h)]
  clear e2
  have hg : (shares.map encI).getD j [] = encI (shares.getD j 0) := getD_enc encI shares j 0 hjs
  have hcj : (cs.map encI).getD j [] = encI (cs.getD j 0) := getD_enc encI cs j 0 (by omega)
  have b1 := hs _ (getD_mem' shares j 0 hjs)
  have b3 := hc _ (getD_mem' cs j 0 (by omega))
  have hss := sum_01 shares hs
  have m1 := mul_bd (a := shares.getD j 0) (b := p + 1) (A := 1000) (B := 1000001) (by omega) (by omega)
  have m3 := mul_bd (a := cs.getD j 0) (b := shares.sum) (A := 1000000) (B := 1000000) (by omega) (by omega)
  have hv : shareV shares p cs j = shares.getD j 0 * (p + 1) - cs.getD j 0 * shares.sum := rfl
  (repeat (first | refine gO rfl ?_ | ((first | ((with_reducible refine yS ?_); refine awp_keep zK30 100 (kS ?_)) | ((with_reducible refine yR ?_); refine awp_keep zK30 100 (kR ?_)) | refine gR ?_ | (with_reducible refine wM ?_ ?_) | ((with_reducible refine xS ?_); refine awp_keep zK30 100 (uD 5 zM31 zP19E zP19P 50 rfl (by kernel_rfl) ?_))) <;> ((try with_reducible intro K1 hK1); simp only [go_sem, ↓reduceIte, reduceCtorEq, nA, nB, nC, nD, nE, nF, hH, hT, hl, Int.toNat_natCast, hg, hcj, encI, nG, nH, nI] <;> and_intros <;> first | (apply hK1; clear hK1 K1) | (intros; first | omega | decide | (simp_all <;> omega)) | skip))))
  refine awp_cond (t := _) rfl (fun h2 => ?_) (fun h2 => ?_)
  ·(repeat (first | refine gO rfl ?_ | ((first | ((with_reducible refine yS ?_); refine awp_keep zK30 100 (kS ?_)) | ((with_reducible refine yR ?_); refine awp_keep zK30 100 (kR ?_)) | refine gR ?_ | (with_reducible refine wM ?_ ?_) | ((with_reducible refine xS ?_); refine awp_keep zK30 100 (uD 5 zM31 zP19E zP19P 50 rfl (by kernel_rfl) ?_))) <;> ((try with_reducible intro K1 hK1); simp only [go_sem, ↓reduceIte, reduceCtorEq, nA, nB, nC, nD, nE, nF, nG, nH, nI] <;> and_intros <;> first | (apply hK1; clear hK1 K1) | (intros; first | omega | decide | (simp_all <;> omega)) | skip))))
   have e3 : bestTo (shareV shares p cs) (j + 1) = j := by
    simp only [Bool.or_eq_true, beq_iff_eq, decide_eq_true_eq] at h2
    by_cases h0 : j = 0
    ·exact e0 h0
    ·exact e2t h0 (by rw [hv]; omega)
   exact ⟨g - 1, by omega, j + 1, shares.getD j 0 * (p + 1) - cs.getD j 0 * shares.sum, by omega, fun _ => by rw [e3, hv], by omega, by rw [e3]; rfl⟩
  ·(repeat (first | refine gO rfl ?_ | ((first | ((with_reducible refine yS ?_); refine awp_keep zK30 100 (kS ?_)) | ((with_reducible refine yR ?_); refine awp_keep zK30 100 (kR ?_)) | refine gR ?_ | (with_reducible refine wM ?_ ?_) | ((with_reducible refine xS ?_); refine awp_keep zK30 100 (uD 5 zM31 zP19E zP19P 50 rfl (by kernel_rfl) ?_))) <;> ((try with_reducible intro K1 hK1); simp only [go_sem, ↓reduceIte, reduceCtorEq, nA, nB, nC, nD, nE, nF, nG, nH, nI] <;> and_intros <;> first | (apply hK1; clear hK1 K1) | (intros; first | omega | decide | (simp_all <;> omega)) | skip))))
   simp only [Bool.or_eq_false_iff, beq_eq_false_iff_ne, decide_eq_false_iff_not] at h2
   have h0 : j ≠ 0 := by omega
   have e3 := e2f h0 (by rw [hv]; omega)
   exact ⟨g - 1, by omega, j + 1, m, by omega, fun _ => by rw [e3]; exact hm h0, by omega, by rw [e3]; rfl⟩
 ·simp only [decide_eq_false_iff_not] at h1
  have hjs : j = shares.length := by omega
  subst hjs
  (repeat (first | refine gO rfl ?_ | ((first | ((with_reducible refine yS ?_); refine awp_keep zK30 100 (kS ?_)) | ((with_reducible refine yR ?_); refine awp_keep zK30 100 (kR ?_)) | refine gR ?_ | (with_reducible refine wM ?_ ?_) | ((with_reducible refine xS ?_); refine awp_keep zK30 100 (uD 5 zM31 zP19E zP19P 50 rfl (by kernel_rfl) ?_))) <;> ((try with_reducible intro K1 hK1); simp only [go_sem, ↓reduceIte, reduceCtorEq, nA, nB, nC, nD, nE, nF, nG, nH, nI] <;> and_intros <;> first | (apply hK1; clear hK1 K1) | (intros; first | omega | decide | (simp_all <;> omega)) | skip))))
  simp only [Tryz.results141, go_sem, ↓reduceIte, reduceCtorEq, nA, nB, nC, nD, nE, nF]
  exact ⟨_, _, Weak.refl _, Hp.le.refl _, rfl, rfl⟩
theorem g_full28 (o k : Nat) (h : Hp) (xs : List (ByteArray × Int)) (hO : OutAt h o k [.v (.int .i64 5000)] xs) : ACalls Tryz.prog 77 [.ptr o 0] h (fun r h' => r = .v (.bool (decide (5000 < (xs.length : Int)))) ∧ h' = h) := by
 have hH : h.H o = some (.cells [.row 2 (xs.map encStep) (some k), .v (.int .i64 5000)]) := hO.1
 refine gE Tryz.func77 rfl (by kernel_rfl) 12 rfl fun c => ?_
 (repeat (first | refine gO rfl ?_ | ((first | refine gR ?_ | (with_reducible refine wM ?_ ?_) | ((with_reducible refine xS ?_); refine uD 1 zM31 zP1AE zP1AP 13 rfl (by kernel_rfl) ?_)) <;> ((try with_reducible intro K1 hK1); simp only [go_sem, ↓reduceIte, reduceCtorEq, nA, nB, nC, nD, nE, nF, hH] <;> and_intros <;> first | (apply hK1; clear hK1 K1) | (intros; first | omega | decide | (simp_all <;> omega)) | skip))))
 simp only [Tryz.results77, go_sem, ↓reduceIte, reduceCtorEq, nA, nB, nC, nD, nE, nF]
 exact ⟨_, _, Weak.refl _, Hp.le.refl _, rfl, rfl⟩
def FrP (a : AT) (o k : Nat) (h h' : Hp) : Prop := (∀ i, i ∉ idsT a → i ≠ o → h'.H i = h.H i) ∧ (∀ c, c ∉ toksT a → c ≠ k → h'.T c = h.T c)
theorem FrP.trans {a : AT} {o k : Nat} {h h1 h2 : Hp} (f : FrP a o k h h1) (g : FrP a o k h1 h2) : FrP a o k h h2 :=
 ⟨fun i x y => (g.1 i x y).trans (f.1 i x y), fun i x y => (g.2 i x y).trans (f.2 i x y)⟩
theorem FrP.kid {i c : Nat} {az : List AT} {j : Nat} {o k : Nat} {h h' : Hp} (hj : j < az.length) (f : FrP (az.getD j default) o k h h') : FrP (.mk i c az) o k h h' :=
 ⟨fun x hx ho => f.1 x (fun h => hx (idsT_kid hj h)) ho, fun x hx ho => f.2 x (fun h => hx (toksT_kid hj h)) ho⟩
theorem getD_setS {α : Type} (l : List α) (j : Nat) (x d : α) (h : j < l.length) : (l.set j x).getD j d = x := by rw [List.getD_eq_getElem?_getD, List.getElem?_set_self h]; rfl
theorem getD_setN {α : Type} (l : List α) (j i : Nat) (x d : α) (h : j ≠ i) : (l.set j x).getD i d = l.getD i d := by rw [List.getD_eq_getElem?_getD, List.getElem?_set_ne h, ← List.getD_eq_getElem?_getD]
theorem RAt.kid {X : RK} {h h' : Hp} {d : Nat} {kind : Int} {item : ByteArray} {long many : Int} {kids : List LT} {shares : List Int} {i c : Nat} {az : List AT} {p : Int} {cs : List Int} {ks : List PS}
  (hR : RAt X h (d + 1) (.mk kind item long many kids shares) (.mk i c az) (.mk p cs ks)) (hS : Sep (d + 1) (.mk i c az)) {o k : Nat} (ho : o ∉ idsT (.mk i c az)) (hk : k ∉ toksT (.mk i c az)) {j : Nat} (hj : j < kids.length) {s' : PS}
  (hj' : RAt X h' d (kids.getD j default) (az.getD j default) s') (hf : FrP (az.getD j default) o k h h') : RAt X h' (d + 1) (.mk kind item long many kids shares) (.mk i c az) (.mk p cs (ks.set j s')) := by
 obtain ⟨⟨K, h1, hK⟩, h2, ⟨l1, l2, l3, l4⟩, h4⟩ := hR
 have hjz : j < az.length := by omega
 have hSj := hS j hjz
 refine ⟨⟨K, (hf.1 i hSj.1.1 (fun e => ho (by rw [idsT_eq, e]; simp))).trans h1, hK⟩, (hf.2 c hSj.1.2.1 (fun e => hk (by rw [toksT_eq, e]; simp))).trans h2, ⟨l1, l2, l3, by simpa using l4⟩, fun l hl => ?_⟩
 by_cases hlj : j = l
 ·subst hlj
  rw [getD_setS _ _ _ _ (by omega)]
  exact hj'
 ·rw [getD_setN _ _ _ _ _ hlj]
  have hd := hSj.2 l (by omega) (fun e => hlj e.symm)
  exact (h4 l hl).frame (fun x hx => hf.1 x (fun hx2 => hd.1 x hx2 hx) (fun e => ho (by rw [← e]; exact idsT_kid (by omega) hx))) (fun x hx => hf.2 x (fun hx2 => hd.2 x hx2 hx) (fun e => hk (by rw [← e]; exact toksT_kid (by omega) hx)))
theorem RAt.tokNe {X : RK} {h : Hp} {d : Nat} {t : LT} {a : AT} {s : PS} (hR : RAt X h d t a s) {k n : Nat} (hk : h.T k = some (.tail n)) : k ∉ toksT a := fun hx => by
 obtain ⟨xs, e⟩ := hR.cont k hx
 rw [hk] at e; cases e
def FOk (d : Nat) (kids : List LT) (n : Int) (a : List Int × List PS) : Prop :=
 (a.1.length = kids.length ∧ a.2.length = kids.length) ∧ (∀ x ∈ a.1, 0 ≤ x ∧ x ≤ n) ∧ ∀ j, j < kids.length → PSB d (kids.getD j default) (a.2.getD j default) n
theorem mem_set_or {l : List Int} {j : Nat} {v x : Int} (h : x ∈ l.set j v) : x ∈ l ∨ x = v := List.mem_or_eq_of_mem_set h
theorem stepU_ok {d : Nat} {f : LT → PS → PS × List (ByteArray × Int)} {kids : List LT} {n : Int} {a : (List Int × List PS) × List (ByteArray × Int)} (hf : FOk d kids n a.1) {i : Nat} (hi : i < kids.length) {m : Nat}
  (hm : (f (kids.getD i default) (a.1.2.getD i default)).2.length = m) (hm1 : 1 ≤ m) (hp : PSB d (kids.getD i default) (f (kids.getD i default) (a.1.2.getD i default)).1 (n + m)) : FOk d kids (n + m) (stepU f kids a i).1 ∧ (stepU f kids a i).2.length = a.2.length + m := by
 obtain ⟨⟨l1, l2⟩, h1, h2⟩ := hf
 refine ⟨⟨⟨by simp [stepU, l1], by simp [stepU, l2]⟩, fun x hx => ?_, fun j hj => ?_⟩, by simp only [stepU, List.length_append, hm]⟩
 ·rcases mem_set_or hx with h | h
  ·have := h1 x h; omega
  ·have := h1 _ (getD_mem' a.1.1 i 0 (by omega)); omega
 ·simp only [stepU]
  by_cases hij : i = j
  ·subst hij; rw [getD_setS _ _ _ _ (by omega)]; exact hp
  ·rw [getD_setN _ _ _ _ _ hij]; exact (h2 j hj).mono (by omega)
theorem idxL_lt {kind p many : Int} {nk nx : Nat} (hk : 1 ≤ kind ∧ kind ≤ 5) (hn : kind ≠ 1 → 0 < nk) (hx : kind = 4 → nx < nk) (hp : 0 ≤ p) : ∀ i ∈ idxL kind p many nk nx, i < nk := by
 intro i hi
 unfold idxL at hi
 split at hi
 ·simp at hi
 ·rename_i h1
  have h0 := hn h1
  split at hi
  ·simpa using hi
  ·split at hi
   ·simp only [List.mem_singleton] at hi
    subst hi
    have := Int.tmod_lt_of_pos p (show (0 : Int) < nk by omega)
    have := Int.tmod_nonneg (nk : Int) hp
    omega
   ·split at hi
    ·simp only [List.mem_singleton] at hi; subst hi; exact hx (by assumption)
    ·have := (List.mem_replicate.1 hi).2; omega
theorem idxL_ne {kind p many : Int} {nk nx : Nat} (hk : 1 ≤ kind ∧ kind ≤ 5) (h1 : kind ≠ 1) (hn : 0 < nk) (hm : kind = 5 → 1 ≤ many) : idxL kind p many nk nx ≠ [] := by
 unfold idxL
 rw [if_neg h1]
 split
 ·intro h; have := congrArg List.length h; simp at this; omega
 ·split
  ·simp
  ·split
   ·simp
   ·intro h; have := congrArg List.length h; simp at this; have := hm (by omega); omega
def Fits : Nat → LT → PS → Prop
 | 0, _, _ => False
 | d + 1, .mk _ _ _ _ kids _, .mk _ cs ks => (cs.length = kids.length ∧ ks.length = kids.length) ∧ ∀ j, j < kids.length → Fits d (kids.getD j default) (ks.getD j default)
theorem RAt.fits {X : RK} {h : Hp} : ∀ {d : Nat} {t : LT} {a : AT} {s : PS}, RAt X h d t a s → Fits d t s
 | 0, _, _, _, h => h.elim
 | d + 1, .mk .., .mk .., .mk .., ⟨_, _, h3, h4⟩ => ⟨⟨h3.2.1, h3.2.2.2⟩, fun j hj => (h4 j hj).fits⟩
theorem passU_ok : ∀ (d : Nat) (t : LT) (s : PS) (n : Int), VL d t → Fits d t s → 0 ≤ n → PSB d t s n → 1 ≤ (passU d t s).2.length ∧ PSB d t (passU d t s).1 (n + (passU d t s).2.length) ∧ Fits d t (passU d t s).1
 | 0, _, _, _, h, _, _, _ => h.elim
 | d + 1, .mk kind item long many kids shares, .mk p cs ks, n, hv, hft, hn, hb => by
  obtain ⟨v1, v2, v3, v4, v5, v6, v7, v8⟩ := hv
  obtain ⟨⟨f1, f2⟩, f3⟩ := hft
  obtain ⟨c1, c2, c3⟩ := hb
  rw [passU_succ]
  have hnk : kind ≠ 1 → 0 < kids.length := fun h => List.length_pos_iff.2 (v3 h)
  have hidx := idxL_lt (many := many) (nx := nextF shares p cs) v1 hnk (fun h4 => by rw [← v5 h4]; exact bestTo_lt _ _ (by rw [v5 h4]; exact hnk (by omega))) c1.1
  have hne := fun h => idxL_ne (p := p) (nx := nextF shares p cs) v1 h (hnk h) (fun h5 => (v4 h5).2.1)
  have hnil : kind = 1 → idxL kind p many kids.length (nextF shares p cs) = [] := fun h => by unfold idxL; rw [if_pos h]
  generalize idxL kind p many kids.length (nextF shares p cs) = L at *
  -- the fold
  have key : ∀ (L : List Nat), (∀ i ∈ L, i < kids.length) → ∀ (a : (List Int × List PS) × List (ByteArray × Int)) (m : Int), 0 ≤ m → FOk d kids m a.1 → (∀ j, j < kids.length → Fits d (kids.getD j default) (a.1.2.getD j default)) →
    FOk d kids (m + ((L.foldl (stepU (passU d) kids) a).2.length - a.2.length)) (L.foldl (stepU (passU d) kids) a).1 ∧ (∀ j, j < kids.length → Fits d (kids.getD j default) ((L.foldl (stepU (passU d) kids) a).1.2.getD j default)) ∧
    a.2.length + L.length ≤ (L.foldl (stepU (passU d) kids) a).2.length := by
   intro L
   induction L with
   | nil => intro _ a m _ ha hfi; exact ⟨by simpa using ha, hfi, by simp⟩
   | cons i L ih =>
    intro hL a m hm ha hfi
    have hi := hL i (by simp)
    have hmem := getD_mem' kids i default hi
    obtain ⟨g1, g2, g3⟩ := passU_ok d (kids.getD i default) (a.1.2.getD i default) m (v8 _ hmem) (hfi i hi) hm (ha.2.2 i hi)
    obtain ⟨s1, s2⟩ := stepU_ok (f := passU d) ha hi rfl g1 g2
    have hfi2 : ∀ j, j < kids.length → Fits d (kids.getD j default) ((stepU (passU d) kids a i).1.2.getD j default) := fun j hj => by
     simp only [stepU]
     by_cases hij : i = j
     ·subst hij; rw [getD_setS _ _ _ _ (by rw [ha.1.2]; exact hi)]; exact g3
     ·rw [getD_setN _ _ _ _ _ hij]; exact hfi j hj
    obtain ⟨r1, r2, r3⟩ := ih (fun j hj => hL j (by simp [hj])) (stepU (passU d) kids a i) _ (by omega) s1 hfi2
    simp only [List.foldl_cons]
    refine ⟨?_, r2, by simp only [List.length_cons]; omega⟩
    have e : m + (((L.foldl (stepU (passU d) kids) (stepU (passU d) kids a i)).2.length : Int) - a.2.length) = m + ((passU d (kids.getD i default) (a.1.2.getD i default)).2.length) + (((L.foldl (stepU (passU d) kids) (stepU (passU d) kids a i)).2.length : Int) - (stepU (passU d) kids a i).2.length) := by rw [s2]; omega
    rw [e]; exact r1
  obtain ⟨r1, r2, r3⟩ := key L hidx ((cs, ks), if kind = 1 then [(item, long)] else []) n hn ⟨⟨f1, f2⟩, c2, c3⟩ f3
  have hlen : 1 ≤ (L.foldl (stepU (passU d) kids) ((cs, ks), if kind = 1 then [(item, long)] else [])).2.length ∧ n + (((L.foldl (stepU (passU d) kids) ((cs, ks), if kind = 1 then [(item, long)] else [])).2.length : Int) - (if kind = 1 then [(item, long)] else []).length) ≤ n + (L.foldl (stepU (passU d) kids) ((cs, ks), if kind = 1 then [(item, long)] else [])).2.length := by
   by_cases h1 : kind = 1
   ·rw [hnil h1]; simp [h1]; omega
   ·have := List.length_pos_iff.2 (hne h1)
    rw [if_neg h1] at r3 ⊢
    simp only [List.length_nil] at r3 ⊢
    omega
  refine ⟨hlen.1, ⟨by simp only []; omega, fun x hx => ⟨(r1.2.1 x hx).1, Int.le_trans (r1.2.1 x hx).2 hlen.2⟩, fun j hj => (r1.2.2 j hj).mono hlen.2⟩, ⟨r1.1, r2⟩⟩
theorem RAt.count {X : RK} {h : Hp} {d : Nat} {kind : Int} {item : ByteArray} {long many : Int} {kids : List LT} {shares : List Int} {i c : Nat} {az : List AT} {p : Int} {cs cs' : List Int} {ks : List PS}
  (hR : RAt X h (d + 1) (.mk kind item long many kids shares) (.mk i c az) (.mk p cs ks)) (hS : Sep (d + 1) (.mk i c az)) (hl : cs'.length = cs.length) (hl2 : (X.cf kind cs').length = kids.length) :
  RAt X { h with T := upd h.T c (some (.cont 1 ((X.cf kind cs').map encI))) } (d + 1) (.mk kind item long many kids shares) (.mk i c az) (.mk p cs' ks) := by
 obtain ⟨h1, h2, ⟨l1, l2, l3, l4⟩, h4⟩ := hR
 exact ⟨h1, upd_same _ _ _, ⟨hl2, by omega, l3, l4⟩, fun j hj => (h4 j hj).frame (fun _ _ => rfl) (fun x hx => upd_other _ _ (fun e => by subst e; exact (hS j (by omega)).1.2.1 hx))⟩
theorem RAt.hadOne {X : RK} {h : Hp} {d : Nat} {kind : Int} {item : ByteArray} {long many : Int} {kids : List LT} {shares : List Int} {i c : Nat} {az : List AT} {p p' : Int} {cs : List Int} {ks : List PS} {K : AV}
  (hR : RAt X h (d + 1) (.mk kind item long many kids shares) (.mk i c az) (.mk p cs ks)) (hS : Sep (d + 1) (.mk i c az)) (hK : kidsC az K) :
  RAt X { h with H := upd h.H i (some (.cells (cells9 kind item long many kids shares K p' c ++ X.ex (.mk kind item long many kids shares)))) } (d + 1) (.mk kind item long many kids shares) (.mk i c az) (.mk p' cs ks) := by
 obtain ⟨h1, h2, ⟨l1, l2, l3, l4⟩, h4⟩ := hR
 exact ⟨⟨K, upd_same _ _ _, hK⟩, h2, ⟨l1, l2, l3, l4⟩, fun j hj => (h4 j hj).frame (fun x hx => upd_other _ _ (fun e => by subst e; exact (hS j (by omega)).1.1 hx)) (fun _ _ => rfl)⟩
def LT.kd : LT → Int
 | .mk k _ _ _ _ _ => k
def LT.mn : LT → Int
 | .mk _ _ _ m _ _ => m
def LT.ks : LT → List LT
 | .mk _ _ _ _ l _ => l
def LT.hd (t : LT) : LT := t.ks.getD 0 default
def repK (n : Int) (l : List LT) : LT := .mk 5 ⟨#[]⟩ 0 n l []
def rowT (l : List LT) : LT := .mk 2 ⟨#[]⟩ 0 0 l []
def cnt (t : LT) : Option (LT × Int) := if t.kd = 1 then some (t, 1) else if t.kd = 5 ∧ t.hd.kd = 1 then some (t.hd, t.mn) else none
open Classical in
noncomputable def runN (it : LT) : List LT → Int × Nat
 | [] => (0, 0)
 | x :: xs => match cnt x with
  | some (y, n) => if y = it then (n + (runN it xs).1, (runN it xs).2 + 1) else (0, 0)
  | none => (0, 0)
def manyT (it : LT) (n : Nat) : List LT := List.replicate (n / 100) (repK 100 [it]) ++ if n % 100 = 0 then [] else if n % 100 = 1 then [it] else [repK (n % 100 : Nat) [it]]
noncomputable def gathF : Nat → List LT → List LT
 | 0, _ => []
 | _ + 1, [] => []
 | f + 1, x :: xs => match cnt x with
  | none => x :: gathF f xs
  | some (it, n) => manyT it (n + (runN it xs).1).toNat ++ gathF f (xs.drop (runN it xs).2)
noncomputable def gath (l : List LT) : List LT := gathF l.length l
def flatT (l : List LT) : List LT := l.flatMap fun k => if k.kd = 2 then k.ks else [k]
def gcdN : List Nat → Nat
 | [] => 0
 | x :: xs => Nat.gcd x (gcdN xs)
theorem foldl_gcd : ∀ (l : List Nat) (a : Nat), l.foldl Nat.gcd a = Nat.gcd a (gcdN l)
 | [], a => by simp [gcdN]
 | x :: xs, a => by rw [List.foldl_cons, foldl_gcd xs, gcdN, Nat.gcd_assoc]
theorem gcdN_dvd : ∀ (l : List Nat), ∀ x ∈ l, gcdN l ∣ x
 | y :: ys, x, hx => by
  rcases List.mem_cons.1 hx with rfl | h
  ·exact Nat.gcd_dvd_left _ _
  ·exact Nat.dvd_trans (Nat.gcd_dvd_right _ _) (gcdN_dvd ys x h)
def gcdI (l : List Int) : Nat := gcdN (l.map Int.toNat)
def divI (g : Nat) (l : List Int) : List Int := l.map fun x => x / (g : Int)
theorem gcdI_pos {l : List Int} (h : ∀ x ∈ l, 1 ≤ x) (hn : l ≠ []) : 0 < gcdI l := by
 cases l with
 | nil => exact absurd rfl hn
 | cons x xs =>
  rw [gcdI, List.map_cons, gcdN]
  exact Nat.gcd_pos_of_pos_left _ (by have := h x (by simp); omega)
theorem gcdI_dvd {l : List Int} (h : ∀ x ∈ l, 1 ≤ x) {x : Int} (hx : x ∈ l) : (gcdI l : Int) ∣ x := by
 have h1 := gcdN_dvd (l.map Int.toNat) x.toNat (List.mem_map.2 ⟨x, hx, rfl⟩)
 have h2 : ((x.toNat : Nat) : Int) = x := by have := h x hx; omega
 rw [← h2]
 exact Int.natCast_dvd_natCast.2 h1
def plainT : LT → Bool
 | .mk kind _ _ _ kids _ => kind != 3 && kind != 4 && (kids.map plainT).all id
def WF : LT → Prop
 | .mk kind item long many kids shares => (1 ≤ kind ∧ kind ≤ 5) ∧ (kind = 1 → kids = [] ∧ shares = [] ∧ many = 0) ∧ (kind ≠ 1 → item = ⟨#[]⟩ ∧ long = 0 ∧ kids ≠ []) ∧ (kind = 5 → kids.length = 1 ∧ 1 ≤ many ∧ many ≤ 100) ∧ (kind ≠ 5 → many = 0) ∧
   (kind = 4 → shares.length = kids.length) ∧ (kind ≠ 4 → shares = []) ∧ (∀ x ∈ shares, 1 ≤ x ∧ x ≤ 1000) ∧ (NB long ∧ item.size ≤ 2) ∧ ∀ k ∈ kids, WF k
theorem WF_eq (kind : Int) (item : ByteArray) (long many : Int) (kids : List LT) (shares : List Int) : WF (.mk kind item long many kids shares) = ((1 ≤ kind ∧ kind ≤ 5) ∧ (kind = 1 → kids = [] ∧ shares = [] ∧ many = 0) ∧ (kind ≠ 1 → item = ⟨#[]⟩ ∧ long = 0 ∧ kids ≠ []) ∧ (kind = 5 → kids.length = 1 ∧ 1 ≤ many ∧ many ≤ 100) ∧ (kind ≠ 5 → many = 0) ∧
   (kind = 4 → shares.length = kids.length) ∧ (kind ≠ 4 → shares = []) ∧ (∀ x ∈ shares, 1 ≤ x ∧ x ≤ 1000) ∧ (NB long ∧ item.size ≤ 2) ∧ ∀ k ∈ kids, WF k) := by rw [WF]
open Classical in
noncomputable def stepT : LT → Option LT
 | .mk kind item long many kids shares =>
  if kind = 1 then none
  else if kind = 5 then if many = 1 then some (kids.getD 0 default) else if (kids.getD 0 default).kd = 5 ∧ many * (kids.getD 0 default).mn ≤ 100 then some (repK (many * (kids.getD 0 default).mn) (kids.getD 0 default).ks) else none
  else if kids.length = 1 then some (kids.getD 0 default)
  else if kind = 2 then if gath (flatT kids) = kids then none else some (rowT (gath (flatT kids)))
  else if kind = 4 then if 1 < gcdI shares then some (.mk 4 item long many kids (divI (gcdI shares) shares)) else none
  else if plainT (kids.getD 0 default) = true ∧ ∀ k ∈ kids, k = kids.getD 0 default then some (kids.getD 0 default) else none
def HS : LT → Prop
 | .mk kind item long many kids shares => stepT (.mk kind item long many kids shares) = none ∧ ∀ k ∈ kids, HS k
theorem HS_eq (kind : Int) (item : ByteArray) (long many : Int) (kids : List LT) (shares : List Int) : HS (.mk kind item long many kids shares) = (stepT (.mk kind item long many kids shares) = none ∧ ∀ k ∈ kids, HS k) := by rw [HS]
theorem HS.st {t : LT} (h : HS t) : stepT t = none := by cases t; rw [HS_eq] at h; exact h.1
theorem HS.kids {t : LT} (h : HS t) : ∀ k ∈ t.ks, HS k := by cases t; rw [HS_eq] at h; exact h.2
theorem WF.kids {t : LT} (h : WF t) : ∀ k ∈ t.ks, WF k := by cases t; rw [WF_eq] at h; exact h.2.2.2.2.2.2.2.2.2
theorem WF.ne {t : LT} (h : WF t) (hk : t.kd ≠ 1) : t.ks ≠ [] := by
 cases t; rw [WF_eq] at h; exact (h.2.2.1 hk).2.2
theorem firstNZ_all : ∀ (l : List Int), firstNZ l = 0 → ∀ x ∈ l, x = 0
 | [], _, x, hx => by simp at hx
 | y :: l, h, x, hx => by
  simp only [firstNZ] at h
  split at h
  ·rename_i h0
   rcases List.mem_cons.1 hx with rfl | hx
   ·exact h0
   ·exact firstNZ_all l h x hx
  ·rename_i h0; exact absurd h h0
theorem vl_of : ∀ (d : Nat) (t : LT), KC d t → partF t = 0 → VL d t
 | 0, _, h, _ => h.elim
 | d + 1, .mk kind item long many kids shares, hb, hp => by
  obtain ⟨b1, b2, b3, b4, b5, b6, b7, b8⟩ := hb
  rw [partF_eq] at hp
  by_cases h1 : outB kind 1 5
  ·rw [if_pos h1] at hp; omega
  rw [if_neg h1] at hp
  by_cases h2 : formB kind item long many kids.length shares.length
  ·rw [if_pos h2] at hp; omega
  rw [if_neg h2] at hp
  by_cases h3 : (kind == 1 && !keyB item) = true
  ·rw [if_pos h3] at hp; omega
  rw [if_neg h3] at hp
  by_cases h4 : (kind == 1 && outB long 1 3600000) = true
  ·rw [if_pos h4] at hp; omega
  rw [if_neg h4] at hp
  by_cases h5 : (kind == 5 && outB many 1 100) = true
  ·rw [if_pos h5] at hp; omega
  rw [if_neg h5] at hp
  by_cases h6 : shares.any (fun n => outB n 1 1000)
  ·rw [if_pos h6] at hp; omega
  rw [if_neg h6] at hp
  have hk := firstNZ_all _ hp
  simp only [outB, Bool.or_eq_true, decide_eq_true_eq, not_or, Int.not_lt] at h1
  simp only [formB, Bool.or_eq_true, Bool.and_eq_true, beq_iff_eq, bne_iff_ne, ne_eq, not_or, not_and, Decidable.not_not] at h2
  simp only [outB, Bool.and_eq_true, beq_iff_eq, Bool.or_eq_true, decide_eq_true_eq, not_and, not_or, Int.not_lt] at h5
  obtain ⟨⟨⟨⟨⟨⟨g1, g2⟩, g3⟩, g4⟩, g5⟩, g6⟩, g7⟩ := h2
  refine ⟨by omega, fun h => List.eq_nil_of_length_eq_zero (by have := g1 h; omega), fun h hn => by subst hn; exact g3 h rfl, fun h => ⟨by have := g2 h; omega, (h5 h).1, (h5 h).2⟩, fun h => by have := g4 h; omega, fun n hn => ?_, ⟨b5, b6⟩, fun k hkm => vl_of d k (b8 k hkm) (hk _ (List.mem_map.2 ⟨k, hkm, rfl⟩))⟩
  have h7 : outB n 1 1000 = false := by
   cases e : outB n 1 1000 with
   | false => rfl
   | true => exact absurd (List.any_eq_true.2 ⟨n, hn, e⟩) h6
  simp only [outB, Bool.or_eq_false_iff, decide_eq_false_iff_not, Int.not_lt] at h7
  exact h7
theorem psb0 : ∀ (d : Nat) (t : LT), PSB d t (ps0 t) 0
 | 0, _ => trivial
 | d + 1, .mk kind item long many kids shares => by
  rw [ps0_eq]
  refine ⟨by omega, fun x hx => ?_, fun j hj => ?_⟩
  ·obtain ⟨_, _, rfl⟩ := List.mem_map.1 hx; omega
  ·have e : (kids.map ps0).getD j default = ps0 (kids.getD j default) := by
    rw [List.getD_eq_getElem?_getD, List.getD_eq_getElem?_getD, List.getElem?_map, List.getElem?_eq_getElem hj]; rfl
   rw [e]; exact psb0 d _
def passesU (d : Nat) (t : LT) : Nat → PS × List (ByteArray × Int)
 | 0 => (ps0 t, [])
 | n + 1 => ((passU d t (passesU d t n).1).1, (passesU d t n).2 ++ (passU d t (passesU d t n).1).2)
theorem passesU_mono (d : Nat) (t : LT) : ∀ {m n : Nat}, m ≤ n → (passesU d t m).2.length ≤ (passesU d t n).2.length
 | m, 0, h => by
  obtain rfl : m = 0 := by omega
  exact Nat.le_refl _
 | m, n + 1, h => by
  by_cases e : m = n + 1
  ·rw [e]; exact Nat.le_refl _
  ·have := passesU_mono d t (m := m) (n := n) (by omega)
   simp only [passesU, List.length_append]; omega
theorem fits0 : ∀ (d : Nat) (t : LT), VL d t → Fits d t (ps0 t)
 | 0, _, h => h.elim
 | d + 1, .mk kind item long many kids shares, h => by
  obtain ⟨_, _, _, _, _, _, _, v8⟩ := h
  rw [ps0_eq]
  refine ⟨⟨by simp, by simp⟩, fun j hj => ?_⟩
  have e : (kids.map ps0).getD j default = ps0 (kids.getD j default) := by
   rw [List.getD_eq_getElem?_getD, List.getD_eq_getElem?_getD, List.getElem?_map, List.getElem?_eq_getElem hj]; rfl
  rw [e]
  exact fits0 d _ (v8 _ (getD_mem' kids j default hj))
theorem passesU_ok (d : Nat) (t : LT) (hv : VL d t) : ∀ n, PSB d t (passesU d t n).1 (passesU d t n).2.length ∧ Fits d t (passesU d t n).1 ∧ n ≤ (passesU d t n).2.length
 | 0 => ⟨psb0 d t, fits0 d t hv, Nat.zero_le _⟩
 | n + 1 => by
  obtain ⟨h1, h2, h3⟩ := passesU_ok d t hv n
  obtain ⟨q1, q2, q3⟩ := passU_ok d t _ _ hv h2 (by omega) h1
  exact ⟨by simp only [passesU, List.length_append]; exact_mod_cast q2, q3, by simp only [passesU, List.length_append]; omega⟩
def everyF (kind : Int) (nk : Nat) (shares : List Int) : Int := if kind = 3 then nk else if kind = 4 then shares.sum / gcdI shares else 1
def homeF : Nat → LT → PS → Bool
 | 0, _, _ => true
 | d + 1, .mk kind _ _ _ kids shares, .mk p _ ks => (p.tmod (everyF kind kids.length shares) == 0) && (List.range kids.length).all fun j => homeF d (kids.getD j default) (ks.getD j default)
theorem gcdI_le_sum {l : List Int} (h : ∀ x ∈ l, 1 ≤ x ∧ x ≤ 1000) (hn : l ≠ []) : (gcdI l : Int) ≤ l.sum := by
 cases l with
 | nil => exact absurd rfl hn
 | cons x xs =>
  have h1 := Int.le_of_dvd (by have := (h x (by simp)).1; omega) (gcdI_dvd (fun y hy => (h y hy).1) (List.mem_cons_self (a := x) (l := xs)))
  have : ∀ l : List Int, (∀ x ∈ l, 1 ≤ x ∧ x ≤ 1000) → 0 ≤ l.sum := fun l => by
   induction l with
   | nil => simp
   | cons y l ih => intro h; have := h y (by simp); have := ih fun z hz => h z (by simp [hz]); simp only [List.sum_cons]; omega
  have := this xs fun z hz => h z (by simp [hz])
  simp only [List.sum_cons]; omega
theorem every_pos {d : Nat} {kind : Int} {item : ByteArray} {long many : Int} {kids : List LT} {shares : List Int} (hv : VL (d + 1) (.mk kind item long many kids shares)) : 1 ≤ everyF kind kids.length shares ∧ everyF kind kids.length shares ≤ 1000000 := by
 obtain ⟨v1, v2, v3, v4, v5, v6, v7, v8⟩ := hv
 unfold everyF
 split
 ·have := List.length_pos_iff.2 (v3 (by omega)); omega
 ·split
  ·rename_i h4
   have hn : shares ≠ [] := fun e => v3 (by omega) (List.eq_nil_of_length_eq_zero (by rw [← v5 h4, e]; rfl))
   have h1 := gcdI_le_sum v6 hn
   have h2 := gcdI_pos (fun x hx => (v6 x hx).1) hn
   have h3 : ∀ l : List Int, (∀ x ∈ l, 1 ≤ x ∧ x ≤ 1000) → l.sum ≤ l.length * 1000 := fun l => by
    induction l with
    | nil => simp
    | cons y l ih => intro h; have := h y (by simp); have := ih fun z hz => h z (by simp [hz]); simp only [List.sum_cons, List.length_cons]; omega
   have h4 := h3 shares v6
   have h5 : shares.sum / (gcdI shares : Int) ≤ shares.sum := Int.ediv_le_self _ (by omega)
   refine ⟨?_, by omega⟩
   have := Int.le_ediv_of_mul_le (a := 1) (b := shares.sum) (c := (gcdI shares : Int)) (by omega) (by omega)
   omega
  ·omega
def RoundIs (d : Nat) (t : LT) (N : Nat) : Prop := (1 ≤ N ∧ N ≤ 5000) ∧ (passesU d t N).2.length ≤ 5000 ∧ homeF d t (passesU d t N).1 = true ∧ ∀ n, 1 ≤ n → n < N → homeF d t (passesU d t n).1 = false
theorem RoundIs.eq {d : Nat} {t : LT} {N M : Nat} (h : RoundIs d t N) (k : RoundIs d t M) : N = M := by
 obtain ⟨a, _, b, c⟩ := h
 obtain ⟨a', _, b', c'⟩ := k
 rcases Nat.lt_trichotomy N M with h | h | h
 ·rw [c' N a.1 h] at b; cases b
 ·exact h
 ·rw [c M a'.1 h] at b'; cases b'
open Classical in
noncomputable def roundN (d : Nat) (t : LT) : Nat := if h : ∃ N, RoundIs d t N then h.choose else 0
theorem roundN_some {d : Nat} {t : LT} {N : Nat} (h : RoundIs d t N) : roundN d t = N := by
 have hx : ∃ N, RoundIs d t N := ⟨N, h⟩
 rw [roundN, dif_pos hx]
 exact (hx.choose_spec).eq h
theorem roundN_none {d : Nat} {t : LT} (h : ∀ N, ¬ RoundIs d t N) : roundN d t = 0 := by
 rw [roundN, dif_neg fun ⟨N, hN⟩ => h N hN]
theorem roundN_is {d : Nat} {t : LT} (h : roundN d t ≠ 0) : RoundIs d t (roundN d t) := by
 by_cases hx : ∃ N, RoundIs d t N
 ·rw [roundN, dif_pos hx]; exact hx.choose_spec
 ·rw [roundN, dif_neg hx] at h; exact absurd rfl h
theorem round_long {d : Nat} {t : LT} {j : Nat} (hl : 5000 < (passesU d t (j + 1)).2.length) (hn : ∀ n, 1 ≤ n → n ≤ j → homeF d t (passesU d t n).1 = false) : roundN d t = 0 := roundN_none fun N ⟨a, b, c, _⟩ => by
 by_cases h : N ≤ j
 ·rw [hn N a.1 h] at c; cases c
 ·have := passesU_mono d t (m := j + 1) (n := N) (by omega)
  omega
noncomputable def roundS (d : Nat) (t : LT) : List (ByteArray × Int) := if roundN d t = 0 then [] else (passesU d t (roundN d t)).2
noncomputable def roundE (d : Nat) (t : LT) : Int := if roundN d t = 0 then 2 else 0
theorem roundS_len (d : Nat) (t : LT) : (roundS d t).length ≤ 5000 := by
 unfold roundS
 split
 ·simp
 ·rename_i h; exact (roundN_is h).2.1
theorem roundS_pos {d : Nat} {t : LT} (hv : VL d t) (h : roundE d t = 0) : 1 ≤ (roundS d t).length := by
 unfold roundE at h
 split at h
 ·cases h
 ·rename_i h0
  rw [roundS, if_neg h0]
  have := (passesU_ok d t hv (roundN d t)).2.2
  have := (roundN_is h0).1.1
  omega
def IL : Nat → LT → Prop
 | 0, _ => True
 | d + 1, .mk kind _ long _ kids _ => (kind = 1 → 1 ≤ long ∧ long ≤ 3600000) ∧ ∀ k ∈ kids, IL d k
theorem IL.dflt : ∀ d, IL d default
 | 0 => trivial
 | d + 1 => show IL (d + 1) (.mk 0 default 0 0 [] []) from ⟨fun h => (by cases h), fun k hk => (by cases hk)⟩
theorem pass_long : ∀ (d : Nat) (t : LT) (s : PS), IL d t → ∀ x ∈ (passU d t s).2, 1 ≤ x.2 ∧ x.2 ≤ 3600000
 | 0, _, _, _ => by simp [passU]
 | d + 1, .mk kind item long many kids shares, .mk p cs ks, hi => by
  rw [passU_succ]
  have hk : ∀ i, IL d (kids.getD i default) := fun i => by
   by_cases h : i < kids.length
   ·exact hi.2 _ (getD_mem' kids i default h)
   ·rw [List.getD_eq_getElem?_getD, List.getElem?_eq_none (by omega)]; exact IL.dflt d
  have key : ∀ (L : List Nat) (a : (List Int × List PS) × List (ByteArray × Int)), (∀ x ∈ a.2, 1 ≤ x.2 ∧ x.2 ≤ 3600000) → ∀ x ∈ (L.foldl (stepU (passU d) kids) a).2, 1 ≤ x.2 ∧ x.2 ≤ 3600000 := fun L => by
   induction L with
   | nil => intro a h; exact h
   | cons i L ih =>
    intro a h
    refine ih _ (fun x hx => ?_)
    rcases List.mem_append.1 hx with h9 | h9
    ·exact h x h9
    ·exact pass_long d _ _ (hk i) x h9
  refine key _ _ ?_
  split
  ·rename_i h1
   intro x hx
   rw [List.mem_singleton.1 hx]
   exact hi.1 h1
  ·simp
theorem passes_long {d : Nat} {t : LT} (h : IL d t) : ∀ n, ∀ x ∈ (passesU d t n).2, 1 ≤ x.2 ∧ x.2 ≤ 3600000
 | 0 => by simp [passesU]
 | n + 1 => fun x hx => by
  rcases List.mem_append.1 hx with h9 | h9
  ·exact passes_long h n x h9
  ·exact pass_long d t _ h x h9
theorem roundS_long {d : Nat} {t : LT} (h : IL d t) : ∀ x ∈ roundS d t, 1 ≤ x.2 ∧ x.2 ≤ 3600000 := by
 unfold roundS
 split
 ·simp
 ·exact passes_long h _
theorem il_of : ∀ (d : Nat) (t : LT), partF t = 0 → IL d t
 | 0, _, _ => trivial
 | d + 1, .mk kind item long many kids shares, hp => by
  rw [partF_eq] at hp
  by_cases h1 : outB kind 1 5
  ·rw [if_pos h1] at hp; omega
  rw [if_neg h1] at hp
  by_cases h2 : formB kind item long many kids.length shares.length
  ·rw [if_pos h2] at hp; omega
  rw [if_neg h2] at hp
  by_cases h3 : (kind == 1 && !keyB item) = true
  ·rw [if_pos h3] at hp; omega
  rw [if_neg h3] at hp
  by_cases h4 : (kind == 1 && outB long 1 3600000) = true
  ·rw [if_pos h4] at hp; omega
  rw [if_neg h4] at hp
  by_cases h5 : (kind == 5 && outB many 1 100) = true
  ·rw [if_pos h5] at hp; omega
  rw [if_neg h5] at hp
  by_cases h6 : shares.any (fun n => outB n 1 1000)
  ·rw [if_pos h6] at hp; omega
  rw [if_neg h6] at hp
  have hnz : ∀ (l : List Int), firstNZ l = 0 → ∀ x ∈ l, x = 0 := fun l => by
   induction l with
   | nil => intro _ x hx; cases hx
   | cons y l ih =>
    intro h x hx
    simp only [firstNZ] at h
    split at h
    ·rename_i h0
     rcases List.mem_cons.1 hx with rfl | hx
     ·exact h0
     ·exact ih h x hx
    ·rename_i h0; exact absurd h h0
  have hk := hnz _ hp
  refine ⟨fun h => ?_, fun k hkm => il_of d k (hk _ (List.mem_map.2 ⟨k, hkm, rfl⟩))⟩
  subst h
  simpa [outB] using h4
def itemsR : List ByteArray := [⟨#[105, 97]⟩, ⟨#[105, 98]⟩, ⟨#[105, 99]⟩, ⟨#[110, 97]⟩]
def RT : Nat → LT → Prop
 | 0, _ => False
 | d + 1, .mk kind item long many kids shares =>
  (kind = 1 ∧ item ∈ itemsR ∧ (1 ≤ long ∧ long ≤ 5000) ∧ many = 0 ∧ kids = [] ∧ shares = []) ∨
  ((2 ≤ kind ∧ kind ≤ 5) ∧ item = default ∧ long = 0 ∧ (kind = 5 → (1 ≤ many ∧ many ≤ 3) ∧ kids.length = 1) ∧ (kind ≠ 5 → many = 0) ∧ (1 ≤ kids.length ∧ kids.length ≤ 3) ∧ (kind = 4 → shares.length = kids.length) ∧ (kind ≠ 4 → shares = []) ∧ (∀ n ∈ shares, 1 ≤ n ∧ n ≤ 4) ∧ ∀ k ∈ kids, RT d k)
theorem RT.mono : ∀ {d e : Nat} {t : LT}, RT d t → d ≤ e → RT e t
 | 0, _, _, h, _ => h.elim
 | d + 1, 0, _, _, h => by omega
 | d + 1, e + 1, .mk .., h, hd => by
  rcases h with h | ⟨h1, h2, h3, h4, h5, h6, h7, h8, h9, h10⟩
  ·exact .inl h
  ·exact .inr ⟨h1, h2, h3, h4, h5, h6, h7, h8, h9, fun k hk => (h10 k hk).mono (by omega)⟩
theorem items_size : ∀ x ∈ itemsR, x.size ≤ 2 ∧ keyB x = true := by decide
theorem RT.lc : ∀ {d : Nat} {t : LT}, RT d t → LC d t
 | 0, _, h => h.elim
 | d + 1, .mk kind item long many kids shares, h => by
  rcases h with ⟨h1, h2, h3, h4, rfl, rfl⟩ | ⟨h1, h2, h3, h4, h5, h6, h7, h8, h9, h10⟩
  ·exact ⟨by unfold NB; omega, (items_size _ h2).1, by unfold NB; omega, by unfold NB; omega, by simp, by simp, by simp, by simp⟩
  ·have hm : NB many := by
    unfold NB
    by_cases e : kind = 5
    ·have := h4 e; omega
    ·have := h5 e; omega
   have hs : shares.length ≤ 5 := by
    by_cases e : kind = 4
    ·have := h7 e; omega
    ·rw [h8 e]; simp
   exact ⟨by unfold NB; omega, by rw [h2]; decide, by unfold NB; omega, hm, by omega, hs, fun x hx => by have := h9 x hx; unfold NB; omega, fun k hk => (h10 k hk).lc⟩
theorem firstNZ_none : ∀ (l : List Int), (∀ x ∈ l, x = 0) → firstNZ l = 0
 | [], _ => rfl
 | y :: l, h => by
  simp only [firstNZ]
  rw [if_pos (h y (by simp))]
  exact firstNZ_none l fun x hx => h x (by simp [hx])
theorem RT.part : ∀ {d : Nat} {t : LT}, RT d t → partF t = 0
 | 0, _, h => h.elim
 | d + 1, .mk kind item long many kids shares, h => by
  rw [partF_eq]
  rcases h with ⟨rfl, h2, h3, rfl, rfl, rfl⟩ | ⟨h1, h2, h3, h4, h5, h6, h7, h8, h9, h10⟩
  ·have hk := (items_size _ h2).2
   simp [outB, formB, hk, firstNZ]
   omega
  ·have c1 : outB kind 1 5 = false := by simp [outB]; omega
   have c2 : formB kind item long many kids.length shares.length = false := by
    have e1 : (kind == 1) = false := by simp; omega
    have e2 : (kind == 5 && (kids.length : Int) != 1) = false := by
     by_cases e : kind = 5
     ·have := h4 e; simp; omega
     ·simp [e]
    have e3 : (kind == 4 && (shares.length : Int) != (kids.length : Int)) = false := by
     by_cases e : kind = 4
     ·have := h7 e; simp; omega
     ·simp [e]
    have e4 : (kind != 4 && (shares.length : Int) != 0) = false := by
     by_cases e : kind = 4
     ·simp [e]
     ·have := h8 e; simp [this]
    have e5 : (kind != 5 && many != 0) = false := by
     by_cases e : kind = 5
     ·simp [e]
     ·have := h5 e; simp [this]
    have e6 : ((kids.length : Int) == 0) = false := by simp; intro e; rw [e] at h6; simp at h6
    have e7 : (item != (⟨#[]⟩ : ByteArray)) = false := by rw [h2]; decide
    have e8 : (long != 0) = false := by rw [h3]; rfl
    unfold formB
    rw [e1, e2, e3, e4, e5, e6, e7, e8]
    simp
   have c3 : (kind == 1) = false := by simp; omega
   have c4 : (kind == 5 && outB many 1 100) = false := by
    by_cases e : kind = 5
    ·have := h4 e; simp [outB]; omega
    ·simp [e]
   have c5 : shares.any (fun n => outB n 1 1000) = false := by
    rw [List.any_eq_false]
    intro x hx
    have := h9 x hx
    simp [outB]; omega
   rw [c1, c2, c3, c4, c5]
   simp only [Bool.false_and, Bool.false_eq_true, if_false]
   refine firstNZ_none _ fun x hx => ?_
   obtain ⟨k, hk, rfl⟩ := List.mem_map.1 hx
   exact (h10 k hk).part
def mostR : Nat → Int
 | 0 => 0
 | d + 1 => 3 * mostR d + 1
theorem mostR_nonneg : ∀ d, 0 ≤ mostR d
 | 0 => Int.le_refl _
 | d + 1 => by have := mostR_nonneg d; simp only [mostR]; omega
theorem RT.many : ∀ {d : Nat} {t : LT}, RT d t → 0 ≤ manyF t ∧ manyF t ≤ mostR d ∧ deepF t ≤ d
 | 0, _, h => h.elim
 | d + 1, .mk kind item long many kids shares, h => by
  rw [manyF_eq, deepF_eq]
  have hm := mostR_nonneg d
  have hk : kids.length ≤ 3 ∧ ∀ k ∈ kids, RT d k := by
   rcases h with ⟨h1, h2, h3, h4, rfl, rfl⟩ | ⟨h1, h2, h3, h4, h5, h6, h7, h8, h9, h10⟩
   ·simp
   ·exact ⟨h6.2, h10⟩
  have h1 := sum_bd manyF (mostR d) hm kids fun k hk' => ⟨(hk.2 k hk').many.1, (hk.2 k hk').many.2.1⟩
  have h2 := max_bd deepF d kids 0 (by omega) fun k hk' => (hk.2 k hk').many.2.2
  have h3 : (kids.length : Int) * mostR d ≤ 3 * mostR d := Int.mul_le_mul_of_nonneg_right (by omega) hm
  simp only [mostR]
  refine ⟨by omega, by omega, by omega⟩
theorem RT.fault {t : LT} (h : RT 4 t) : faultF t = 0 := by
 have h1 := h.many
 have e : mostR 4 = 40 := rfl
 unfold faultF
 rw [if_neg (by omega)]
 exact h.part
theorem RT.vl {t : LT} (h : RT 4 t) : VL 23 t := vl_of 23 t (h.mono (by omega)).lc.kc h.part
abbrev zP1BE : List Nat := [0, 1, 3, 4]
abbrev zP1BP : List (Nat × List Nat × List Nat) := [(2, [3], []), (5, [], [6]), (7, [], [])]
abbrev zP1CE : List Nat := [0, 1, 2, 3]
abbrev zP1CP : List (Nat × List Nat × List Nat) := [(4, [0], [5]), (6, [], []), (8, [], [])]
abbrev zP1DE : List Nat := [0, 1, 2, 3]
abbrev zP1DP : List (Nat × List Nat × List Nat) := [(4, [1], [5]), (6, [], [7]), (8, [], [])]
attribute [go_sem] zP1BE zP1BP zP1CE zP1CP zP1DE zP1DP
theorem g_itemK (i : Nat) (l : List Int) (a : Int) (h : Hp) (hl : SOk l) (ha : 0 ≤ a ∧ a ≤ 900000000) :
  ACalls Tryz.prog 66 [.ref [.ptr i 0] 0] (h.st i l a) (fun r h' => ∃ t, RT 1 t ∧ r = .agg (encX t) ∧ h' = h.st i l (a + 2)) := by
 refine gE Tryz.func66 rfl (by kernel_rfl) 8 rfl fun c => ?_
 (repeat (first | refine gO rfl ?_ | ((first | refine gM zM32 ?_ | (with_reducible refine wM ?_ ?_) | ((with_reducible refine xS ?_); refine uD 1 zM32 zP1BE zP1BP 9 rfl (by kernel_rfl) ?_)) <;> ((try with_reducible intro K1 hK1); simp only [go_sem, ↓reduceIte, reduceCtorEq, nA, nB, nC, nD, nE, nF] <;> and_intros <;> first | (apply hK1; clear hK1 K1) | (intros; first | omega | decide | (simp_all <;> omega)) | skip))))
 refine (g_some i l a [⟨#[105, 97]⟩, ⟨#[105, 97]⟩, ⟨#[105, 98]⟩, ⟨#[105, 99]⟩, ⟨#[110, 97]⟩] none h hl (by omega) (by simp)).mono ?_; rintro _ _ ⟨x, hx, rfl, rfl⟩; apply hK1; clear hK1 K1
 (repeat (first | refine gO rfl ?_ | ((first | refine gM zM32 ?_ | (with_reducible refine wM ?_ ?_) | ((with_reducible refine xS ?_); refine uD 1 zM32 zP1BE zP1BP 9 rfl (by kernel_rfl) ?_)) <;> ((try with_reducible intro K1 hK1); simp only [go_sem, ↓reduceIte, reduceCtorEq, nA, nB, nC, nD, nE, nF] <;> and_intros <;> first | (apply hK1; clear hK1 K1) | (intros; first | omega | decide | (simp_all <;> omega)) | skip))))
 refine (g_pick i l (a + 1) [1000, 2000, 5000] none h hl (by omega) (by simp)).mono ?_; rintro _ _ ⟨y, hy, rfl, rfl⟩; apply hK1; clear hK1 K1
 (repeat (first | refine gO rfl ?_ | ((first | refine gM zM32 ?_ | (with_reducible refine wM ?_ ?_) | ((with_reducible refine xS ?_); refine uD 1 zM32 zP1BE zP1BP 9 rfl (by kernel_rfl) ?_)) <;> ((try with_reducible intro K1 hK1); simp only [go_sem, ↓reduceIte, reduceCtorEq, nA, nB, nC, nD, nE, nF] <;> and_intros <;> first | (apply hK1; clear hK1 K1) | (intros; first | omega | decide | (simp_all <;> omega)) | skip))))
 simp only [Tryz.results66, go_sem, ↓reduceIte, reduceCtorEq, nA, nB, nC, nD, nE, nF]
 refine ⟨_, _, Weak.refl _, Hp.le.refl _, .mk 1 x y 0 [] [], ?_, by rw [encX_eq]; rfl, by rw [show a + 1 + 1 = a + 2 by omega]⟩
 simp at hx hy
 refine .inl ⟨rfl, ?_, by omega, rfl, rfl, rfl⟩
 rcases hx with rfl | rfl | rfl | rfl <;> simp [itemsR]
def costR : Nat → Int
 | 0 => 20
 | n + 1 => 20 + 3 * (costR n + 10)
theorem costR_ge : ∀ d, 20 ≤ costR d
 | 0 => Int.le_refl _
 | n + 1 => by have := costR_ge n; show 20 ≤ 20 + 3 * (costR n + 10); omega
def RightIK (d : Nat) (deep : Int) (i : Nat) (l : List Int) (h : Hp) (kd mn many a' : Int) (k1 : Nat) (g : Nat) (s : St) : Prop :=
 ∃ (kids : List LT) (shares : List Int) (S : AV) (T2 : Nat → Option TO) (a2 : Int), (g : Int) + kids.length = many ∧ T2 k1 = some (.tail kids.length) ∧
  (kd = 4 ∧ (∃ k2, k2 ≠ k1 ∧ h.T k2 = none ∧ S = .row 1 (shares.map encI) (some k2) ∧ T2 k2 = some (.tail shares.length) ∧ shares.length = kids.length) ∨ kd ≠ 4 ∧ shares = [] ∧ S = .v (.slice none 0 0)) ∧
  (∀ k, h.T k ≠ none → T2 k = h.T k) ∧ (∀ t ∈ kids, RT (d + 1) t) ∧ (∀ x ∈ shares, 1 ≤ x ∧ x ≤ 4) ∧ (a' ≤ a2 ∧ a2 ≤ a' + kids.length * (costR d + 3)) ∧
  s = ⟨(AV.junk :: ((.v (.int .i64 deep)) :: (.ref [.ptr i 0] 0) :: AV.junk :: ((.loc 0 0) :: AV.junk :: ((.loc 1 0) :: (jnk 25 ((.v (.int .i64 many)) :: (.v (.int .i64 kids.length)) :: (jnk 42 []))))))),
   [[.v (.int .i64 0), .v (.string { data := #[] }), .v (.int .i64 0), .v (.int .i64 0), .v (.slice none 0 0), .v (.slice none 0 0)], [.v (.int .i64 kd), .v (.string { data := #[] }), .v (.int .i64 0), .v (.int .i64 mn), .row 6 (kids.map encX) (some k1), S]], Hp.st ⟨h.H, T2⟩ i l a2⟩
theorem g_rightK (d : Nat) : ∀ (deep : Int) (_ : deep ≤ d ∧ -10 ≤ deep ∧ d ≤ 100) (i : Nat) (l : List Int) (a : Int) (h : Hp) (_ : SOk l) (_ : 0 ≤ a ∧ a + costR d ≤ 900000000),
  ACalls Tryz.prog 13 [.ptr i 0, .v (.int .i64 deep)] (h.st i l a) (fun r h' => ∃ t a', RT (d + 1) t ∧ (a ≤ a' ∧ a' ≤ a + costR d) ∧ r = .agg (encX t) ∧ h' = h.st i l a') := by
 induction d with
 | zero =>
  intro deep hd i l a h hl ha
  have hc : costR 0 = 20 := rfl
  refine gE Tryz.func13 rfl (by kernel_rfl) 74 rfl fun c => ?_
  (repeat (first | refine gO rfl ?_ | ((first | refine gM zM33 ?_ | (with_reducible refine wM ?_ ?_) | ((with_reducible refine xS ?_); refine uF 10 zM33 7 zP1CE zP1CP 76 rfl (by kernel_rfl) ?_) | ((with_reducible refine xR ?_); refine uE 16 zM33 zP1DE zP1DP 76 rfl (by kernel_rfl) ?_)) <;> ((try with_reducible intro K1 hK1); simp only [go_sem, ↓reduceIte, reduceCtorEq, nA, nB, nC, nD, nE, nF] <;> and_intros <;> first | (apply hK1; clear hK1 K1) | (intros; first | omega | decide | (simp_all <;> omega)) | skip))))
  intro h1
  refine hK1 _ ?_; clear hK1 K1
  (repeat (first | refine gO rfl ?_ | ((first | refine gM zM33 ?_ | (with_reducible refine wM ?_ ?_) | ((with_reducible refine xS ?_); refine uF 10 zM33 7 zP1CE zP1CP 76 rfl (by kernel_rfl) ?_) | ((with_reducible refine xR ?_); refine uE 16 zM33 zP1DE zP1DP 76 rfl (by kernel_rfl) ?_)) <;> ((try with_reducible intro K1 hK1); simp only [go_sem, ↓reduceIte, reduceCtorEq, nA, nB, nC, nD, nE, nF, h1] <;> and_intros <;> first | (apply hK1; clear hK1 K1) | (intros; first | omega | decide | (simp_all <;> omega)) | skip))))
  refine awp_cond (t := _) rfl (fun _ => ?_) (fun h2 => by cases h2)
  (repeat (first | refine gO rfl ?_ | ((first | refine gM zM33 ?_ | (with_reducible refine wM ?_ ?_) | ((with_reducible refine xS ?_); refine uF 10 zM33 7 zP1CE zP1CP 76 rfl (by kernel_rfl) ?_) | ((with_reducible refine xR ?_); refine uE 16 zM33 zP1DE zP1DP 76 rfl (by kernel_rfl) ?_)) <;> ((try with_reducible intro K1 hK1); simp only [go_sem, ↓reduceIte, reduceCtorEq, nA, nB, nC, nD, nE, nF] <;> and_intros <;> first | (apply hK1; clear hK1 K1) | (intros; first | omega | decide | (simp_all <;> omega)) | skip))))
  refine (g_itemK i l a h hl (by omega)).mono ?_; rintro _ _ ⟨t, ht, rfl, rfl⟩; apply hK1; clear hK1 K1
  have hlen := encX_len t
  have htk : List.take 6 (encX t) = encX t := List.take_of_length_le (Nat.le_of_eq hlen)
  (repeat (first | refine gO rfl ?_ | ((first | refine gM zM33 ?_ | (with_reducible refine wM ?_ ?_) | ((with_reducible refine xS ?_); refine uF 10 zM33 7 zP1CE zP1CP 76 rfl (by kernel_rfl) ?_) | ((with_reducible refine xR ?_); refine uE 16 zM33 zP1DE zP1DP 76 rfl (by kernel_rfl) ?_)) <;> ((try with_reducible intro K1 hK1); simp only [go_sem, ↓reduceIte, reduceCtorEq, nA, nB, nC, nD, nE, nF, hlen] <;> and_intros <;> first | (apply hK1; clear hK1 K1) | (intros; first | omega | decide | (simp_all <;> omega)) | skip))))
  simp only [Tryz.results13, go_sem, ↓reduceIte, reduceCtorEq, nA, nB, nC, nD, nE, nF, hlen, htk]
  exact ⟨_, _, Weak.refl _, Hp.le.refl _, t, a + 2, ht, by omega, rfl, rfl⟩
 | succ d ih =>
  intro deep hd i l a h hl ha
  have hc : costR (d + 1) = 20 + 3 * (costR d + 10) := rfl
  have hc0 : 20 ≤ costR d := costR_ge d
  refine gE Tryz.func13 rfl (by kernel_rfl) 74 rfl fun c => ?_
  (repeat (first | refine gO rfl ?_ | ((first | refine gM zM33 ?_ | (with_reducible refine wM ?_ ?_) | ((with_reducible refine xS ?_); refine uF 10 zM33 7 zP1CE zP1CP 76 rfl (by kernel_rfl) ?_) | ((with_reducible refine xR ?_); refine uE 16 zM33 zP1DE zP1DP 76 rfl (by kernel_rfl) ?_)) <;> ((try with_reducible intro K1 hK1); simp only [go_sem, ↓reduceIte, reduceCtorEq, nA, nB, nC, nD, nE, nF] <;> and_intros <;> first | (apply hK1; clear hK1 K1) | (intros; first | omega | decide | (simp_all <;> omega)) | skip))))
  rotate_left
  ·intro h1
   refine hK1 _ ?_; clear hK1 K1
   (repeat (first | refine gO rfl ?_ | ((first | refine gM zM33 ?_ | (with_reducible refine wM ?_ ?_) | ((with_reducible refine xS ?_); refine uF 10 zM33 7 zP1CE zP1CP 76 rfl (by kernel_rfl) ?_) | ((with_reducible refine xR ?_); refine uE 16 zM33 zP1DE zP1DP 76 rfl (by kernel_rfl) ?_)) <;> ((try with_reducible intro K1 hK1); simp only [go_sem, ↓reduceIte, reduceCtorEq, nA, nB, nC, nD, nE, nF, h1] <;> and_intros <;> first | (apply hK1; clear hK1 K1) | (intros; first | omega | decide | (simp_all <;> omega)) | skip))))
   refine awp_cond (t := _) rfl (fun _ => ?_) (fun h2 => by cases h2)
   (repeat (first | refine gO rfl ?_ | ((first | refine gM zM33 ?_ | (with_reducible refine wM ?_ ?_) | ((with_reducible refine xS ?_); refine uF 10 zM33 7 zP1CE zP1CP 76 rfl (by kernel_rfl) ?_) | ((with_reducible refine xR ?_); refine uE 16 zM33 zP1DE zP1DP 76 rfl (by kernel_rfl) ?_)) <;> ((try with_reducible intro K1 hK1); simp only [go_sem, ↓reduceIte, reduceCtorEq, nA, nB, nC, nD, nE, nF] <;> and_intros <;> first | (apply hK1; clear hK1 K1) | (intros; first | omega | decide | (simp_all <;> omega)) | skip))))
   refine (g_itemK i l a h hl (by omega)).mono ?_; rintro _ _ ⟨t, ht, rfl, rfl⟩; apply hK1; clear hK1 K1
   have hlen := encX_len t
   have htk : List.take 6 (encX t) = encX t := List.take_of_length_le (Nat.le_of_eq hlen)
   (repeat (first | refine gO rfl ?_ | ((first | refine gM zM33 ?_ | (with_reducible refine wM ?_ ?_) | ((with_reducible refine xS ?_); refine uF 10 zM33 7 zP1CE zP1CP 76 rfl (by kernel_rfl) ?_) | ((with_reducible refine xR ?_); refine uE 16 zM33 zP1DE zP1DP 76 rfl (by kernel_rfl) ?_)) <;> ((try with_reducible intro K1 hK1); simp only [go_sem, ↓reduceIte, reduceCtorEq, nA, nB, nC, nD, nE, nF, hlen] <;> and_intros <;> first | (apply hK1; clear hK1 K1) | (intros; first | omega | decide | (simp_all <;> omega)) | skip))))
   simp only [Tryz.results13, go_sem, ↓reduceIte, reduceCtorEq, nA, nB, nC, nD, nE, nF, hlen, htk]
   exact ⟨_, _, Weak.refl _, Hp.le.refl _, t, a + 2, ht.mono (by omega), by omega, rfl, rfl⟩
  ·intro h1
   refine ⟨h1, ?_⟩
   refine (g_flip i l a 5 h hl (by omega) (by omega)).mono ?_
   rintro _ _ ⟨b, rfl, rfl⟩
   refine ⟨rfl, hK1 _ ?_⟩; clear hK1 K1
   (repeat (first | refine gO rfl ?_ | ((first | refine gM zM33 ?_ | (with_reducible refine wM ?_ ?_) | ((with_reducible refine xS ?_); refine uF 10 zM33 7 zP1CE zP1CP 76 rfl (by kernel_rfl) ?_) | ((with_reducible refine xR ?_); refine uE 16 zM33 zP1DE zP1DP 76 rfl (by kernel_rfl) ?_)) <;> ((try with_reducible intro K1 hK1); simp only [go_sem, ↓reduceIte, reduceCtorEq, nA, nB, nC, nD, nE, nF, h1] <;> and_intros <;> first | (apply hK1; clear hK1 K1) | (intros; first | omega | decide | (simp_all <;> omega)) | skip))))
   refine awp_cond (t := _) rfl (fun _ => ?_) (fun h2 => ?_)
   ·(repeat (first | refine gO rfl ?_ | ((first | refine gM zM33 ?_ | (with_reducible refine wM ?_ ?_) | ((with_reducible refine xS ?_); refine uF 10 zM33 7 zP1CE zP1CP 76 rfl (by kernel_rfl) ?_) | ((with_reducible refine xR ?_); refine uE 16 zM33 zP1DE zP1DP 76 rfl (by kernel_rfl) ?_)) <;> ((try with_reducible intro K1 hK1); simp only [go_sem, ↓reduceIte, reduceCtorEq, nA, nB, nC, nD, nE, nF] <;> and_intros <;> first | (apply hK1; clear hK1 K1) | (intros; first | omega | decide | (simp_all <;> omega)) | skip))))
    refine (g_itemK i l (a + 1) h hl (by omega)).mono ?_; rintro _ _ ⟨t, ht, rfl, rfl⟩; apply hK1; clear hK1 K1
    have hlen := encX_len t
    have htk : List.take 6 (encX t) = encX t := List.take_of_length_le (Nat.le_of_eq hlen)
    (repeat (first | refine gO rfl ?_ | ((first | refine gM zM33 ?_ | (with_reducible refine wM ?_ ?_) | ((with_reducible refine xS ?_); refine uF 10 zM33 7 zP1CE zP1CP 76 rfl (by kernel_rfl) ?_) | ((with_reducible refine xR ?_); refine uE 16 zM33 zP1DE zP1DP 76 rfl (by kernel_rfl) ?_)) <;> ((try with_reducible intro K1 hK1); simp only [go_sem, ↓reduceIte, reduceCtorEq, nA, nB, nC, nD, nE, nF, hlen] <;> and_intros <;> first | (apply hK1; clear hK1 K1) | (intros; first | omega | decide | (simp_all <;> omega)) | skip))))
    simp only [Tryz.results13, go_sem, ↓reduceIte, reduceCtorEq, nA, nB, nC, nD, nE, nF, hlen, htk]
    exact ⟨_, _, Weak.refl _, Hp.le.refl _, t, a + 1 + 2, ht.mono (by omega), by omega, rfl, rfl⟩
   ·(repeat (first | refine gO rfl ?_ | ((first | refine gM zM33 ?_ | (with_reducible refine wM ?_ ?_) | ((with_reducible refine xS ?_); refine uF 10 zM33 7 zP1CE zP1CP 76 rfl (by kernel_rfl) ?_) | ((with_reducible refine xR ?_); refine uE 16 zM33 zP1DE zP1DP 76 rfl (by kernel_rfl) ?_)) <;> ((try with_reducible intro K1 hK1); simp only [go_sem, ↓reduceIte, reduceCtorEq, nA, nB, nC, nD, nE, nF] <;> and_intros <;> first | (apply hK1; clear hK1 K1) | (intros; first | omega | decide | (simp_all <;> omega)) | skip))))
    refine (g_pick i l (a + 1) [2, 2, 3, 4, 5] none h hl (by omega) (by simp)).mono ?_; rintro _ _ ⟨kd, hkd, rfl, rfl⟩; apply hK1; clear hK1 K1
    (repeat (first | refine gO rfl ?_ | ((first | refine gM zM33 ?_ | (with_reducible refine wM ?_ ?_) | ((with_reducible refine xS ?_); refine uF 10 zM33 7 zP1CE zP1CP 76 rfl (by kernel_rfl) ?_) | ((with_reducible refine xR ?_); refine uE 16 zM33 zP1DE zP1DP 76 rfl (by kernel_rfl) ?_)) <;> ((try with_reducible intro K1 hK1); simp only [go_sem, ↓reduceIte, reduceCtorEq, nA, nB, nC, nD, nE, nF] <;> and_intros <;> first | (apply hK1; clear hK1 K1) | (intros; first | omega | decide | (simp_all <;> omega)) | skip))))
    refine (g_range i l (a + 1 + 1) 1 3 h hl (by omega) (by omega) (by omega) (by omega)).mono ?_; rintro _ _ ⟨many, hmany, rfl, rfl⟩; apply hK1; clear hK1 K1
    (repeat (first | refine gO rfl ?_ | ((first | refine gM zM33 ?_ | (with_reducible refine wM ?_ ?_) | ((with_reducible refine xS ?_); refine uF 10 zM33 7 zP1CE zP1CP 76 rfl (by kernel_rfl) ?_) | ((with_reducible refine xR ?_); refine uE 16 zM33 zP1DE zP1DP 76 rfl (by kernel_rfl) ?_)) <;> ((try with_reducible intro K1 hK1); simp only [go_sem, ↓reduceIte, reduceCtorEq, nA, nB, nC, nD, nE, nF] <;> and_intros <;> first | (apply hK1; clear hK1 K1) | (intros; first | omega | decide | (simp_all <;> omega)) | skip))))
    have hk5 : 2 ≤ kd ∧ kd ≤ 5 := by simp at hkd; omega
    clear hkd
    refine awp_join (rl false [1, 2, 1, 1, 1, 2, 68]) 2 (fun s => ∃ mn many a' : Int, (0 ≤ mn ∧ mn ≤ 3) ∧ (1 ≤ many ∧ many ≤ 3) ∧ (a ≤ a' ∧ a' ≤ a + 4) ∧ ((kd = 5 → (1 ≤ mn ∧ mn ≤ 3) ∧ many = 1) ∧ (kd ≠ 5 → mn = 0)) ∧
     s = ⟨(AV.junk :: ((.v (.int .i64 deep)) :: (.ref [.ptr i 0] 0) :: AV.junk :: ((.loc 0 0) :: AV.junk :: ((.loc 1 0) :: (.v (.int .i64 many)) :: (jnk 68 []))))),
      [[.v (.int .i64 0), .v (.string { data := #[] }), .v (.int .i64 0), .v (.int .i64 0), .v (.slice none 0 0), .v (.slice none 0 0)], [.v (.int .i64 kd), .v (.string { data := #[] }), .v (.int .i64 0), .v (.int .i64 mn), .v (.slice none 0 0), .v (.slice none 0 0)]], h.st i l a'⟩) ?_ ?_
    ·refine awp_cond (t := _) rfl (fun h5 => ?_) (fun h5 => ?_)
     ·(repeat (first | refine gO rfl ?_ | ((first | refine gM zM33 ?_ | (with_reducible refine wM ?_ ?_) | ((with_reducible refine xS ?_); refine uF 10 zM33 7 zP1CE zP1CP 76 rfl (by kernel_rfl) ?_) | ((with_reducible refine xR ?_); refine uE 16 zM33 zP1DE zP1DP 76 rfl (by kernel_rfl) ?_)) <;> ((try with_reducible intro K1 hK1); simp only [go_sem, ↓reduceIte, reduceCtorEq, nA, nB, nC, nD, nE, nF] <;> and_intros <;> first | (apply hK1; clear hK1 K1) | (intros; first | omega | decide | (simp_all <;> omega)) | skip))))
      refine (g_pick i l (a + 1 + 1 + 1) [1, 2, 3] none h hl (by omega) (by simp)).mono ?_; rintro _ _ ⟨mn, hmn, rfl, rfl⟩; apply hK1; clear hK1 K1
      (repeat (first | refine gO rfl ?_ | ((first | refine gM zM33 ?_ | (with_reducible refine wM ?_ ?_) | ((with_reducible refine xS ?_); refine uF 10 zM33 7 zP1CE zP1CP 76 rfl (by kernel_rfl) ?_) | ((with_reducible refine xR ?_); refine uE 16 zM33 zP1DE zP1DP 76 rfl (by kernel_rfl) ?_)) <;> ((try with_reducible intro K1 hK1); simp only [go_sem, ↓reduceIte, reduceCtorEq, nA, nB, nC, nD, nE, nF] <;> and_intros <;> first | (apply hK1; clear hK1 K1) | (intros; first | omega | decide | (simp_all <;> omega)) | skip))))
      exact ⟨mn, 1, _, by simp at hmn; omega, by omega, by omega, ⟨fun _ => ⟨by simp at hmn; omega, rfl⟩, fun h => absurd (by simpa using h5) h⟩, rfl⟩
     ·(repeat (first | refine gO rfl ?_ | ((first | refine gM zM33 ?_ | (with_reducible refine wM ?_ ?_) | ((with_reducible refine xS ?_); refine uF 10 zM33 7 zP1CE zP1CP 76 rfl (by kernel_rfl) ?_) | ((with_reducible refine xR ?_); refine uE 16 zM33 zP1DE zP1DP 76 rfl (by kernel_rfl) ?_)) <;> ((try with_reducible intro K1 hK1); simp only [go_sem, ↓reduceIte, reduceCtorEq, nA, nB, nC, nD, nE, nF] <;> and_intros <;> first | (apply hK1; clear hK1 K1) | (intros; first | omega | decide | (simp_all <;> omega)) | skip))))
      exact ⟨0, many, _, by omega, hmany, by omega, ⟨fun h => absurd h (by simpa using h5), fun _ => rfl⟩, rfl⟩
    ·rintro _ ⟨mn, many, a', hmn, hmany2, ha', hm5, rfl⟩
     refine awp_ownLoc 1 4 6 rfl rfl (fun k1 hk1 => ?_)
     simp only [List.set_cons_zero, List.set_cons_succ]
     refine awp_via (fun s => ∃ (S : AV) (T' : Nat → Option TO), T' k1 = some (.tail 0) ∧ (kd = 4 ∧ (∃ k2, k2 ≠ k1 ∧ h.T k2 = none ∧ S = .row 1 [] (some k2) ∧ T' k2 = some (.tail 0)) ∨ kd ≠ 4 ∧ S = .v (.slice none 0 0)) ∧ (∀ k, h.T k ≠ none → T' k = h.T k) ∧
      s = ⟨(AV.junk :: ((.v (.int .i64 deep)) :: (.ref [.ptr i 0] 0) :: AV.junk :: ((.loc 0 0) :: AV.junk :: ((.loc 1 0) :: (.v (.int .i64 many)) :: (jnk 68 []))))),
       [[.v (.int .i64 0), .v (.string { data := #[] }), .v (.int .i64 0), .v (.int .i64 0), .v (.slice none 0 0), .v (.slice none 0 0)], [.v (.int .i64 kd), .v (.string { data := #[] }), .v (.int .i64 0), .v (.int .i64 mn), .row 6 [] (some k1), S]], Hp.st ⟨h.H, T'⟩ i l a'⟩) ?_ ?_
     rotate_left
     ·intro main
      by_cases h4 : kd = 4
      ·refine awp_ownLoc 1 5 1 rfl rfl (fun k2 hk2 => ?_)
       simp only [List.set_cons_zero, List.set_cons_succ]
       have hne : k2 ≠ k1 := fun e => by subst e; simp [upd_same] at hk2
       simp only [upd_other _ _ hne] at hk2
       refine main _ ⟨_, upd (upd h.T k1 (some (.tail 0))) k2 (some (.tail 0)), by rw [upd_other _ _ hne.symm, upd_same], .inl ⟨h4, k2, hne, hk2, rfl, upd_same _ _ _⟩, fun k hk => ?_, rfl⟩
       have e1 : k ≠ k1 := fun e => hk (e ▸ hk1)
       have e2 : k ≠ k2 := fun e => hk (e ▸ hk2)
       rw [upd_other _ _ e2, upd_other _ _ e1]
      ·refine main _ ⟨_, upd h.T k1 (some (.tail 0)), upd_same _ _ _, .inr ⟨h4, rfl⟩, fun k hk => ?_, rfl⟩
       have e1 : k ≠ k1 := fun e => hk (e ▸ hk1)
       rw [upd_other _ _ e1]
     ·rintro _ ⟨S, T', hT1, hS, hTT, rfl⟩
      (repeat (first | refine gO rfl ?_ | ((first | refine gM zM33 ?_ | (with_reducible refine wM ?_ ?_) | ((with_reducible refine xS ?_); refine uF 10 zM33 7 zP1CE zP1CP 76 rfl (by kernel_rfl) ?_) | ((with_reducible refine xR ?_); refine uE 16 zM33 zP1DE zP1DP 76 rfl (by kernel_rfl) ?_)) <;> ((try with_reducible intro K1 hK1); simp only [go_sem, ↓reduceIte, reduceCtorEq, nA, nB, nC, nD, nE, nF] <;> and_intros <;> first | (apply hK1; clear hK1 K1) | (intros; first | omega | decide | (simp_all <;> omega)) | skip))))
      refine awp_loopC (rl false [1, 2, 1, 1, 1, 1, 25, 2, 42]) 2 (fun g s => RightIK d deep i l h kd mn many a' k1 g s) many.toNat ⟨[], [], S, T', a', by simp; omega, hT1, by
       rcases hS with ⟨x1, k2, x2, x5, x3, x4⟩ | ⟨x1, x2⟩
       ·exact .inl ⟨x1, k2, x2, x5, x3, x4, rfl⟩
       ·exact .inr ⟨x1, rfl, x2⟩, hTT, by simp, by simp, by simp, rfl⟩ ?_
      rintro n _ ⟨kids, shares, S, T2, a2, hn, hT1, hS, hTT, hkl, hsb, ha2, rfl⟩
      have hkn : (kids.length : Int) ≤ 3 := by omega
      have hcd : (kids.length : Int) * (costR d + 3) ≤ 3 * (costR d + 3) := Int.mul_le_mul_of_nonneg_right hkn (by omega)
      (repeat (first | refine gO rfl ?_ | ((first | refine gM zM33 ?_ | (with_reducible refine wM ?_ ?_) | ((with_reducible refine xS ?_); refine uF 10 zM33 7 zP1CE zP1CP 76 rfl (by kernel_rfl) ?_) | ((with_reducible refine xR ?_); refine uE 16 zM33 zP1DE zP1DP 76 rfl (by kernel_rfl) ?_)) <;> ((try with_reducible intro K1 hK1); simp only [go_sem, ↓reduceIte, reduceCtorEq, nA, nB, nC, nD, nE, nF] <;> and_intros <;> first | (apply hK1; clear hK1 K1) | (intros; first | omega | decide | (simp_all <;> omega)) | skip))))
      refine awp_cond (t := _) rfl (fun h5 => ?_) (fun h5 => ?_)
      rotate_left
      ·(repeat (first | refine gO rfl ?_ | ((first | refine gM zM33 ?_ | (with_reducible refine wM ?_ ?_) | ((with_reducible refine xS ?_); refine uF 10 zM33 7 zP1CE zP1CP 76 rfl (by kernel_rfl) ?_) | ((with_reducible refine xR ?_); refine uE 16 zM33 zP1DE zP1DP 76 rfl (by kernel_rfl) ?_)) <;> ((try with_reducible intro K1 hK1); simp only [go_sem, ↓reduceIte, reduceCtorEq, nA, nB, nC, nD, nE, nF] <;> and_intros <;> first | (apply hK1; clear hK1 K1) | (intros; first | omega | decide | (simp_all <;> omega)) | skip))))
       simp only [Tryz.results13, go_sem, ↓reduceIte, reduceCtorEq, nA, nB, nC, nD, nE, nF]
       have hkl2 : (kids.length : Int) = many := by simp only [decide_eq_false_iff_not] at h5; omega
       refine ⟨_, _, ?_, le_st hTT i l a2, .mk kd default 0 mn kids shares, a2, ?_, by omega, rfl, rfl⟩
       ·rw [encX_eq]
        refine Weak.agg (.cons (Weak.refl _) (.cons (Weak.refl _) (.cons (Weak.refl _) (.cons (Weak.refl _) (.cons ?_ (.cons ?_ .nil))))))
        ·cases kids with
         | nil => simp at hkl2; omega
         | cons x xs => exact Weak.row _ _ _
        ·rcases hS with ⟨_, k2, _, _, rfl, _, h6⟩ | ⟨_, rfl, rfl⟩
         ·cases shares with
          | nil => simp at h6; omega
          | cons x xs => exact Weak.row _ _ _
         ·exact Weak.refl _
       ·refine .inr ⟨hk5, rfl, rfl, fun h8 => ⟨(hm5.1 h8).1, by have := (hm5.1 h8).2; omega⟩, hm5.2, by omega, fun h8 => ?_, fun h8 => ?_, hsb, hkl⟩
        ·rcases hS with ⟨_, k2, _, _, _, _, h6⟩ | ⟨h9, _⟩
         ·exact h6
         ·exact absurd h8 h9
        ·rcases hS with ⟨h9, _⟩ | ⟨_, h9, _⟩
         ·exact absurd h9 h8
         ·exact h9
      ·simp only [decide_eq_true_eq] at h5
       have hcd2 : (kids.length : Int) * (costR d + 3) ≤ 2 * (costR d + 3) := Int.mul_le_mul_of_nonneg_right (by omega) (by omega)
       have hd1 : 1 ≤ deep := by simp only [decide_eq_false_iff_not] at h1; omega
       (repeat (first | refine gO rfl ?_ | ((first | refine gM zM33 ?_ | (with_reducible refine wM ?_ ?_) | ((with_reducible refine xS ?_); refine uF 10 zM33 7 zP1CE zP1CP 76 rfl (by kernel_rfl) ?_) | ((with_reducible refine xR ?_); refine uE 16 zM33 zP1DE zP1DP 76 rfl (by kernel_rfl) ?_)) <;> ((try with_reducible intro K1 hK1); simp only [go_sem, ↓reduceIte, reduceCtorEq, nA, nB, nC, nD, nE, nF] <;> and_intros <;> first | (apply hK1; clear hK1 K1) | (intros; first | omega | decide | (simp_all <;> omega)) | skip))))
       refine (g_pick i l a2 [1, 1, 2] none ⟨h.H, T2⟩ hl (by omega) (by simp)).mono ?_; rintro _ _ ⟨dx, hdx, rfl, rfl⟩; apply hK1; clear hK1 K1
       have hdx2 : 1 ≤ dx ∧ dx ≤ 2 := by simp at hdx; omega
       (repeat (first | refine gO rfl ?_ | ((first | refine gM zM33 ?_ | (with_reducible refine wM ?_ ?_) | ((with_reducible refine xS ?_); refine uF 10 zM33 7 zP1CE zP1CP 76 rfl (by kernel_rfl) ?_) | ((with_reducible refine xR ?_); refine uE 16 zM33 zP1DE zP1DP 76 rfl (by kernel_rfl) ?_)) <;> ((try with_reducible intro K1 hK1); simp only [go_sem, ↓reduceIte, reduceCtorEq, nA, nB, nC, nD, nE, nF] <;> and_intros <;> first | (apply hK1; clear hK1 K1) | (intros; first | omega | decide | (simp_all <;> omega)) | skip))))
       refine (ih (deep - dx) (by omega) i l (a2 + 1) ⟨h.H, T2⟩ hl (by omega)).mono ?_; rintro _ _ ⟨t, a3, ht, ha3, rfl, rfl⟩; apply hK1; clear hK1 K1
       have hlen := encX_len t
       (repeat (first | refine gQ rfl ?_ | ((first | refine gM zM33 ?_ | (with_reducible refine wM ?_ ?_) | ((with_reducible refine xS ?_); refine uF 10 zM33 7 zP1CE zP1CP 76 rfl (by kernel_rfl) ?_) | ((with_reducible refine xR ?_); refine uE 16 zM33 zP1DE zP1DP 76 rfl (by kernel_rfl) ?_)) <;> ((try with_reducible intro K1 hK1); simp only [go_sem, ↓reduceIte, reduceCtorEq, nA, nB, nC, nD, nE, nF, hlen] <;> and_intros <;> first | (apply hK1; clear hK1 K1) | (intros; first | omega | decide | (simp_all <;> omega)) | skip))))
       refine awp_seq ?_
       refine awp_join (rl false [1, 2, 1, 1, 1, 1, 1, 1, 23, 2, 42]) 3 (fun s => ∃ t a4, RT (d + 1) t ∧ (a2 ≤ a4 ∧ a4 ≤ a2 + costR d + 2) ∧
        s = ⟨(AV.junk :: ((.v (.int .i64 deep)) :: (.ref [.ptr i 0] 0) :: AV.junk :: ((.loc 0 0) :: AV.junk :: ((.loc 1 0) :: AV.junk :: ((.loc 2 0) :: (jnk 23 ((.v (.int .i64 many)) :: (.v (.int .i64 kids.length)) :: (jnk 42 [])))))))),
         [[.v (.int .i64 0), .v (.string { data := #[] }), .v (.int .i64 0), .v (.int .i64 0), .v (.slice none 0 0), .v (.slice none 0 0)], [.v (.int .i64 kd), .v (.string { data := #[] }), .v (.int .i64 0), .v (.int .i64 mn), .row 6 (kids.map encX) (some k1), S], encX t], Hp.st ⟨h.H, T2⟩ i l a4⟩) ?_ ?_
       ·(repeat (first | refine gO rfl ?_ | ((first | refine gM zM33 ?_ | (with_reducible refine wM ?_ ?_) | ((with_reducible refine xS ?_); refine uF 10 zM33 7 zP1CE zP1CP 76 rfl (by kernel_rfl) ?_) | ((with_reducible refine xR ?_); refine uE 16 zM33 zP1DE zP1DP 76 rfl (by kernel_rfl) ?_)) <;> ((try with_reducible intro K1 hK1); simp only [go_sem, ↓reduceIte, reduceCtorEq, nA, nB, nC, nD, nE, nF] <;> and_intros <;> first | (apply hK1; clear hK1 K1) | (intros; first | omega | decide | (simp_all <;> omega)) | skip))))
        rotate_left
        ·intro h6
         refine hK1 _ ?_; clear hK1 K1
         (repeat (first | refine gO rfl ?_ | ((first | refine gM zM33 ?_ | (with_reducible refine wM ?_ ?_) | ((with_reducible refine xS ?_); refine uF 10 zM33 7 zP1CE zP1CP 76 rfl (by kernel_rfl) ?_) | ((with_reducible refine xR ?_); refine uE 16 zM33 zP1DE zP1DP 76 rfl (by kernel_rfl) ?_)) <;> ((try with_reducible intro K1 hK1); simp only [go_sem, ↓reduceIte, reduceCtorEq, nA, nB, nC, nD, nE, nF, h6] <;> and_intros <;> first | (apply hK1; clear hK1 K1) | (intros; first | omega | decide | (simp_all <;> omega)) | skip))))
         refine awp_cond (t := _) rfl (fun h7 => by cases h7) (fun h7 => ?_)
         (repeat (first | refine gO rfl ?_ | ((first | refine gM zM33 ?_ | (with_reducible refine wM ?_ ?_) | ((with_reducible refine xS ?_); refine uF 10 zM33 7 zP1CE zP1CP 76 rfl (by kernel_rfl) ?_) | ((with_reducible refine xR ?_); refine uE 16 zM33 zP1DE zP1DP 76 rfl (by kernel_rfl) ?_)) <;> ((try with_reducible intro K1 hK1); simp only [go_sem, ↓reduceIte, reduceCtorEq, nA, nB, nC, nD, nE, nF] <;> and_intros <;> first | (apply hK1; clear hK1 K1) | (intros; first | omega | decide | (simp_all <;> omega)) | skip))))
         exact ⟨t, a3, ht, by omega, rfl⟩
        ·intro h6
         refine ⟨h6, ?_⟩
         refine (g_flip i l a3 3 ⟨h.H, T2⟩ hl (by omega) (by omega)).mono ?_
         rintro _ _ ⟨b2, rfl, rfl⟩
         refine ⟨rfl, hK1 _ ?_⟩; clear hK1 K1
         (repeat (first | refine gO rfl ?_ | ((first | refine gM zM33 ?_ | (with_reducible refine wM ?_ ?_) | ((with_reducible refine xS ?_); refine uF 10 zM33 7 zP1CE zP1CP 76 rfl (by kernel_rfl) ?_) | ((with_reducible refine xR ?_); refine uE 16 zM33 zP1DE zP1DP 76 rfl (by kernel_rfl) ?_)) <;> ((try with_reducible intro K1 hK1); simp only [go_sem, ↓reduceIte, reduceCtorEq, nA, nB, nC, nD, nE, nF, h6] <;> and_intros <;> first | (apply hK1; clear hK1 K1) | (intros; first | omega | decide | (simp_all <;> omega)) | skip))))
         refine awp_cond (t := _) rfl (fun h7 => ?_) (fun h7 => ?_)
         ·simp only [decide_eq_true_eq] at h6
          have hg : (kids.map encX).getD ((kids.length : Int) - 1).toNat [] = encX (kids.getD ((kids.length : Int) - 1).toNat default) := getD_encX (by omega)
          have hm : kids.getD ((kids.length : Int) - 1).toNat default ∈ kids := by
           rw [List.getD_eq_getElem?_getD, List.getElem?_eq_getElem (show ((kids.length : Int) - 1).toNat < kids.length by omega)]
           exact List.getElem_mem _
          generalize kids.getD ((kids.length : Int) - 1).toNat default = t2 at hg hm
          have hlen2 := encX_len t2
          have htk2 : List.take 6 (encX t2) = encX t2 := List.take_of_length_le (Nat.le_of_eq hlen2)
          have hdr : List.drop 6 (encX t) = [] := List.drop_of_length_le (Nat.le_of_eq hlen)
          (repeat (first | refine gO rfl ?_ | ((first | refine gM zM33 ?_ | (with_reducible refine wM ?_ ?_) | ((with_reducible refine xS ?_); refine uF 10 zM33 7 zP1CE zP1CP 76 rfl (by kernel_rfl) ?_) | ((with_reducible refine xR ?_); refine uE 16 zM33 zP1DE zP1DP 76 rfl (by kernel_rfl) ?_)) <;> ((try with_reducible intro K1 hK1); simp only [go_sem, ↓reduceIte, reduceCtorEq, nA, nB, nC, nD, nE, nF, hg, hlen, hlen2, htk2, hdr] <;> and_intros <;> first | (apply hK1; clear hK1 K1) | (intros; first | omega | decide | (simp_all <;> omega)) | skip))))
          exact ⟨t2, a3 + 1, hkl _ hm, by omega, rfl⟩
         ·(repeat (first | refine gO rfl ?_ | ((first | refine gM zM33 ?_ | (with_reducible refine wM ?_ ?_) | ((with_reducible refine xS ?_); refine uF 10 zM33 7 zP1CE zP1CP 76 rfl (by kernel_rfl) ?_) | ((with_reducible refine xR ?_); refine uE 16 zM33 zP1DE zP1DP 76 rfl (by kernel_rfl) ?_)) <;> ((try with_reducible intro K1 hK1); simp only [go_sem, ↓reduceIte, reduceCtorEq, nA, nB, nC, nD, nE, nF] <;> and_intros <;> first | (apply hK1; clear hK1 K1) | (intros; first | omega | decide | (simp_all <;> omega)) | skip))))
          exact ⟨t, a3 + 1, ht, by omega, rfl⟩
       ·clear ht ha3 hlen t a3
        rintro _ ⟨t, a4, ht, ha4, rfl⟩
        have hlen := encX_len t
        have htk : List.take 6 (encX t) = encX t := List.take_of_length_le (Nat.le_of_eq hlen)
        (repeat (first | refine gO rfl ?_ | ((first | refine gM zM33 ?_ | (with_reducible refine wM ?_ ?_) | ((with_reducible refine xS ?_); refine uF 10 zM33 7 zP1CE zP1CP 76 rfl (by kernel_rfl) ?_) | ((with_reducible refine xR ?_); refine uE 16 zM33 zP1DE zP1DP 76 rfl (by kernel_rfl) ?_)) <;> ((try with_reducible intro K1 hK1); simp only [go_sem, ↓reduceIte, reduceCtorEq, nA, nB, nC, nD, nE, nF, hlen, htk, hT1, st_T] <;> and_intros <;> first | (apply hK1; clear hK1 K1) | (intros; first | omega | decide | (simp_all <;> omega)) | skip))))
        rcases hS with ⟨h4, k2, hne, hk2, rfl, hT3, hsl⟩ | ⟨h4, rfl, rfl⟩
        ·refine awp_cond (t := _) rfl (fun _ => ?_) (fun h7 => absurd h4 (by simpa using h7))
         have hT4 : upd T2 k1 (some (.tail (kids.length + 1))) k2 = some (.tail shares.length) := by rw [upd_other _ _ hne]; exact hT3
         (repeat (first | refine gO rfl ?_ | ((first | refine gM zM33 ?_ | (with_reducible refine wM ?_ ?_) | ((with_reducible refine xS ?_); refine uF 10 zM33 7 zP1CE zP1CP 76 rfl (by kernel_rfl) ?_) | ((with_reducible refine xR ?_); refine uE 16 zM33 zP1DE zP1DP 76 rfl (by kernel_rfl) ?_)) <;> ((try with_reducible intro K1 hK1); simp only [go_sem, ↓reduceIte, reduceCtorEq, nA, nB, nC, nD, nE, nF, hT4, st_T] <;> and_intros <;> first | (apply hK1; clear hK1 K1) | (intros; first | omega | decide | (simp_all <;> omega)) | skip))))
         refine (g_pick i l a4 [1, 1, 2, 3, 4] none ⟨h.H, upd T2 k1 (some (.tail (kids.length + 1)))⟩ hl (by omega) (by simp)).mono ?_; rintro _ _ ⟨sx, hsx, rfl, rfl⟩; apply hK1; clear hK1 K1
         (repeat (first | refine gO rfl ?_ | ((first | refine gM zM33 ?_ | (with_reducible refine wM ?_ ?_) | ((with_reducible refine xS ?_); refine uF 10 zM33 7 zP1CE zP1CP 76 rfl (by kernel_rfl) ?_) | ((with_reducible refine xR ?_); refine uE 16 zM33 zP1DE zP1DP 76 rfl (by kernel_rfl) ?_)) <;> ((try with_reducible intro K1 hK1); simp only [go_sem, ↓reduceIte, reduceCtorEq, nA, nB, nC, nD, nE, nF, hT4, st_T, encI] <;> and_intros <;> first | (apply hK1; clear hK1 K1) | (intros; first | omega | decide | (simp_all <;> omega)) | skip))))
         refine ⟨n - 1, by omega, kids ++ [t], shares ++ [sx], _, upd (upd T2 k1 (some (.tail (kids.length + 1)))) k2 (some (.tail (shares.length + 1))), a4 + 1, by simp; omega, by rw [upd_other _ _ hne.symm, upd_same]; simp, .inl ⟨h4, k2, hne, hk2, by simp [encI]; rfl, by rw [upd_same]; simp, by simp; omega⟩, ?_, ?_, ?_, ?_, ?_⟩
         ·intro k hk
          have e1 : k ≠ k1 := fun e => hk (e ▸ hk1)
          by_cases e2 : k = k2
          ·subst e2; exact absurd hk2 hk
          ·rw [upd_other _ _ e2, upd_other _ _ e1]; exact hTT k hk
         ·intro x hx
          rcases List.mem_append.1 hx with hx | hx
          ·exact hkl x hx
          ·simp at hx; subst hx; exact ht
         ·intro x hx
          rcases List.mem_append.1 hx with hx | hx
          ·exact hsb x hx
          ·simp at hx hsx; subst hx; omega
         ·have e9 : ((kids ++ [t]).length : Int) * (costR d + 3) = kids.length * (costR d + 3) + (costR d + 3) := by simp [Int.add_mul]
          rw [e9]; omega
         ·simp; rfl
        ·refine awp_cond (t := _) rfl (fun h7 => absurd (by simpa using h7) h4) (fun _ => ?_)
         (repeat (first | refine gO rfl ?_ | ((first | refine gM zM33 ?_ | (with_reducible refine wM ?_ ?_) | ((with_reducible refine xS ?_); refine uF 10 zM33 7 zP1CE zP1CP 76 rfl (by kernel_rfl) ?_) | ((with_reducible refine xR ?_); refine uE 16 zM33 zP1DE zP1DP 76 rfl (by kernel_rfl) ?_)) <;> ((try with_reducible intro K1 hK1); simp only [go_sem, ↓reduceIte, reduceCtorEq, nA, nB, nC, nD, nE, nF] <;> and_intros <;> first | (apply hK1; clear hK1 K1) | (intros; first | omega | decide | (simp_all <;> omega)) | skip))))
         refine ⟨n - 1, by omega, kids ++ [t], [], _, upd T2 k1 (some (.tail (kids.length + 1))), a4, by simp; omega, by rw [upd_same]; simp, .inr ⟨h4, rfl, rfl⟩, ?_, ?_, ?_, ?_, ?_⟩
         ·intro k hk
          have e1 : k ≠ k1 := fun e => hk (e ▸ hk1)
          rw [upd_other _ _ e1]; exact hTT k hk
         ·intro x hx
          rcases List.mem_append.1 hx with hx | hx
          ·exact hkl x hx
          ·simp at hx; subst hx; exact ht
         ·simp
         ·have e9 : ((kids ++ [t]).length : Int) * (costR d + 3) = kids.length * (costR d + 3) + (costR d + 3) := by simp [Int.add_mul]
          rw [e9]; omega
         ·simp; rfl
theorem bestTo_max (f : Nat → Int) : ∀ n j, j < n → f j ≤ f (bestTo f n)
 | 0, j, h => by omega
 | n + 1, j, h => by
  simp only [bestTo]
  by_cases e : j = n
  ·subst e
   split
   ·exact Int.le_refl _
   ·omega
  ·have := bestTo_max f n j (by omega)
   split
   ·omega
   ·exact this
theorem bestTo_cong {f g : Nat → Int} : ∀ n, (∀ j, j < n → f j = g j) → bestTo f n = bestTo g n
 | 0, _ => rfl
 | n + 1, h => by
  have ih := bestTo_cong (f := f) (g := g) n fun j hj => h j (by omega)
  simp only [bestTo, ih]
  cases n with
  | zero => simp [bestTo]
  | succ n =>
   have h1 := bestTo_lt g (n + 1) (by omega)
   rw [h (bestTo g (n + 1)) (by omega), h (n + 1) (by omega)]
def cntS (shares : List Int) : Nat → List Int
 | 0 => shares.map fun _ => 0
 | n + 1 => (cntS shares n).set (nextF shares n (cntS shares n)) ((cntS shares n).getD (nextF shares n (cntS shares n)) 0 + 1)
theorem cntS_len (shares : List Int) : ∀ n, (cntS shares n).length = shares.length
 | 0 => by simp [cntS]
 | n + 1 => by simp [cntS, cntS_len shares n]
theorem sum_set : ∀ (l : List Int) (x : Nat), x < l.length → (l.set x (l.getD x 0 + 1)).sum = l.sum + 1
 | [], x, h => by simp at h
 | y :: l, 0, _ => by simp; omega
 | y :: l, x + 1, h => by
  have := sum_set l x (by simpa using h)
  simp only [List.set_cons_succ, List.sum_cons, List.getD_cons_succ]; omega
theorem getD_setI (l : List Int) (x i : Nat) (v : Int) : (l.set x v).getD i 0 = if i = x ∧ x < l.length then v else l.getD i 0 := by
 rw [List.getD_eq_getElem?_getD, List.getD_eq_getElem?_getD, List.getElem?_set]
 by_cases e : x = i
 ·subst e
  by_cases h : x < l.length
  ·simp [h]
  ·simp [h]
 ·rw [if_neg e, if_neg (fun h => e h.1.symm)]
theorem sum_le (m S : Int) : ∀ (a b : List Int), a.length = b.length → (∀ i, i < a.length → b.getD i 0 * S ≤ a.getD i 0 * m) → b.sum * S ≤ a.sum * m
 | [], [], _, _ => by simp
 | x :: a, y :: b, hl, h => by
  have h0 := h 0 (by simp)
  have ih := sum_le m S a b (by simpa using hl) fun i hi => by simpa using h (i + 1) (by simpa using hi)
  simp only [List.getD_cons_zero] at h0
  simp only [List.sum_cons, Int.add_mul]; omega
theorem sum_ge (m S : Int) (a b : List Int) (hl : a.length = b.length) (h : ∀ i, i < a.length → a.getD i 0 * m ≤ b.getD i 0 * S) : a.sum * m ≤ b.sum * S :=
 sum_le S m b a hl.symm fun i hi => h i (by omega)
theorem sum_same (m S : Int) : ∀ (a b : List Int), a.length = b.length → (∀ i, i < a.length → b.getD i 0 * S ≤ a.getD i 0 * m) → b.sum * S = a.sum * m → ∀ i, i < a.length → b.getD i 0 * S = a.getD i 0 * m
 | [], _, _, _, _, i, hi => by simp at hi
 | x :: a, y :: b, hl, h, hs, i, hi => by
  have h0 := h 0 (by simp)
  have hr := fun i (hi : i < a.length) => by simpa using h (i + 1) (by simpa using hi)
  have ih := sum_le m S a b (by simpa using hl) hr
  simp only [List.getD_cons_zero] at h0
  simp only [List.sum_cons, Int.add_mul] at hs
  cases i with
  | zero => simp only [List.getD_cons_zero]; omega
  | succ i =>
   simp only [List.getD_cons_succ]
   exact sum_same m S a b (by simpa using hl) hr (by omega) i (by simpa using hi)
structure Fair (shares : List Int) (n : Nat) : Prop where
 tot : (cntS shares n).sum = n
 ahead : ∀ i, i < shares.length → (cntS shares n).getD i 0 * shares.sum - shares.getD i 0 * n < shares.sum
theorem sum_pos {l : List Int} (h : ∀ x ∈ l, 1 ≤ x) (hn : l ≠ []) : 1 ≤ l.sum := by
 cases l with
 | nil => exact absurd rfl hn
 | cons x l =>
  have h1 := h x (by simp)
  have : ∀ l : List Int, (∀ x ∈ l, 1 ≤ x) → 0 ≤ l.sum := fun l => by
   induction l with
   | nil => simp
   | cons x l ih =>
    intro h
    have := h x (by simp); have := ih fun y hy => h y (by simp [hy])
    simp only [List.sum_cons]; omega
  have := this l fun y hy => h y (by simp [hy])
  simp only [List.sum_cons]; omega
theorem zero_sum (l : List Int) : (l.map fun _ => (0 : Int)).sum = 0 := by
 induction l with
 | nil => rfl
 | cons x l ih => simp only [List.map_cons, List.sum_cons, ih]; rfl
theorem zero_getD (l : List Int) (i : Nat) : (l.map fun _ => (0 : Int)).getD i 0 = 0 := by
 rw [List.getD_eq_getElem?_getD, List.getElem?_map]
 cases l[i]? <;> rfl
theorem fair {shares : List Int} (h : ∀ x ∈ shares, 1 ≤ x) (hn : shares ≠ []) : ∀ n, Fair shares n
 | 0 => ⟨by simp only [cntS, zero_sum]; rfl, fun i hi => by
   have := sum_pos h hn
   simp only [cntS, zero_getD]; omega⟩
 | n + 1 => by
  obtain ⟨h1, h2⟩ := fair h hn n
  have hS := sum_pos h hn
  have hl := cntS_len shares n
  have h0 : 0 < shares.length := List.length_pos_iff.2 hn
  have hx : nextF shares n (cntS shares n) < shares.length := bestTo_lt _ _ h0
  have hm := fun j hj => bestTo_max (shareV shares n (cntS shares n)) shares.length j hj
  have hpos : 0 < shareV shares n (cntS shares n) (nextF shares n (cntS shares n)) := by
   rcases Int.lt_or_le 0 (shareV shares n (cntS shares n) (nextF shares n (cntS shares n))) with h3 | h3
   ·exact h3
   ·exfalso
    have := sum_ge ((n : Int) + 1) shares.sum shares (cntS shares n) hl.symm fun i hi => by
     have := hm i hi
     have h4 : shareV shares n (cntS shares n) i ≤ 0 := Int.le_trans this h3
     simp only [shareV] at h4; omega
    rw [h1, Int.mul_add] at this
    have e : shares.sum * (n : Int) = (n : Int) * shares.sum := Int.mul_comm _ _
    omega
  refine ⟨?_, fun i hi => ?_⟩
  ·simp only [cntS]
   rw [sum_set _ _ (by omega), h1]; omega
  ·simp only [cntS]
   rw [getD_setI]
   have h3 := h2 i hi
   have e1 : shares.getD i 0 * ((n + 1 : Nat) : Int) = shares.getD i 0 * n + shares.getD i 0 := by rw [Int.natCast_add, Int.mul_add]; simp
   have h4 := h _ (getD_mem' shares i 0 hi)
   rw [e1]
   split
   ·rename_i hc
    obtain ⟨hc, _⟩ := hc
    rw [← hc] at hpos ⊢
    simp only [shareV] at hpos
    rw [Int.mul_add, Int.mul_one] at hpos
    rw [Int.add_mul, Int.one_mul]
    omega
   ·omega
theorem fair_exact {shares : List Int} (h : ∀ x ∈ shares, 1 ≤ x) (hn : shares ≠ []) {n : Nat} (hd : ∀ i, i < shares.length → shares.sum ∣ shares.getD i 0 * n) : ∀ i, i < shares.length → (cntS shares n).getD i 0 * shares.sum = shares.getD i 0 * n := by
 obtain ⟨h1, h2⟩ := fair h hn n
 have hS := sum_pos h hn
 refine sum_same n shares.sum shares (cntS shares n) (cntS_len shares n).symm (fun i hi => ?_) ?_
 ·obtain ⟨q, hq⟩ := hd i hi
  have h3 := h2 i hi
  rw [hq] at h3 ⊢
  have e : (cntS shares n).getD i 0 * shares.sum - shares.sum * q = ((cntS shares n).getD i 0 - q) * shares.sum := by rw [Int.sub_mul, Int.mul_comm q]
  rw [e] at h3
  have : (cntS shares n).getD i 0 - q < 1 := by
   rcases Int.lt_or_le ((cntS shares n).getD i 0 - q) 1 with h5 | h5
   ·exact h5
   ·have := Int.mul_le_mul_of_nonneg_right h5 (show 0 ≤ shares.sum by omega)
    omega
  have h6 : (cntS shares n).getD i 0 ≤ q := by omega
  have := Int.mul_le_mul_of_nonneg_right h6 (show 0 ≤ shares.sum by omega)
  rw [Int.mul_comm shares.sum q]; exact this
 ·rw [h1, Int.mul_comm]
theorem every4 {shares : List Int} (h : ∀ x ∈ shares, 1 ≤ x) (hn : shares ≠ []) : ∃ (g E : Nat), 0 < g ∧ 0 < E ∧ shares.sum / (gcdI shares : Int) = E ∧ shares.sum = g * E ∧ ∀ i, i < shares.length → ∃ q : Int, shares.getD i 0 = g * q := by
 have hg := gcdI_pos h hn
 have hd : ∀ l : List Int, (∀ x ∈ l, (gcdI shares : Int) ∣ x) → (gcdI shares : Int) ∣ l.sum := fun l => by
  induction l with
  | nil => intro _; exact ⟨0, by simp⟩
  | cons x l ih =>
   intro hl
   rw [List.sum_cons]
   exact Int.dvd_add (hl x (by simp)) (ih fun y hy => hl y (by simp [hy]))
 obtain ⟨q, hq⟩ := hd shares fun x hx => gcdI_dvd h hx
 have hS := sum_pos h hn
 have hq0 : 0 < q := by
  rcases Int.lt_or_le 0 q with h1 | h1
  ·exact h1
  ·have := Int.mul_le_mul_of_nonneg_left h1 (show (0 : Int) ≤ gcdI shares by omega)
   omega
 refine ⟨gcdI shares, q.toNat, hg, by omega, ?_, by rw [hq]; congr 1; omega, fun i hi => ?_⟩
 ·rw [hq, Int.mul_ediv_cancel_left _ (by omega)]; omega
 ·obtain ⟨r, hr⟩ := gcdI_dvd h (getD_mem' shares i 0 hi)
  exact ⟨r, hr⟩
theorem cntS_round {shares : List Int} (h : ∀ x ∈ shares, 1 ≤ x) (hn : shares ≠ []) {g E : Nat} (hg : 0 < g) (hE : shares.sum = g * E) (hq : ∀ i, i < shares.length → ∃ q : Int, shares.getD i 0 = g * q) :
  ∀ n i, i < shares.length → (cntS shares (n + E)).getD i 0 * g = (cntS shares n).getD i 0 * g + shares.getD i 0
 | 0, i, hi => by
  have h1 := fair_exact h hn (n := E) (fun j hj => by
   obtain ⟨q, e⟩ := hq j hj
   exact ⟨q, by rw [e, hE, Int.mul_assoc, Int.mul_assoc, Int.mul_comm q]⟩) i hi
  have hS := sum_pos h hn
  have hE0 : (E : Int) ≠ 0 := by
   intro e; rw [e, Int.mul_zero] at hE; omega
  rw [hE, ← Int.mul_assoc] at h1
  have h2 := Int.eq_of_mul_eq_mul_right hE0 h1
  rw [Nat.zero_add, h2]
  simp only [cntS, zero_getD]
  omega
 | n + 1, i, hi => by
  have ih := cntS_round h hn hg hE hq n
  have hS := sum_pos h hn
  have e : nextF shares ((n + E : Nat) : Int) (cntS shares (n + E)) = nextF shares (n : Nat) (cntS shares n) := by
   refine bestTo_cong _ fun j hj => ?_
   have h1 := ih j hj
   obtain ⟨q, hq⟩ := hq j hj
   have hg0 : (g : Int) ≠ 0 := by omega
   have h2 : (cntS shares (n + E)).getD j 0 = (cntS shares n).getD j 0 + q := by
    apply Int.eq_of_mul_eq_mul_right hg0
    rw [h1, hq, Int.add_mul, Int.mul_comm (g : Int) q]
   simp only [shareV]
   rw [h2, hq, hE, Int.add_mul, Int.natCast_add]
   simp only [Int.mul_add, Int.mul_one]
   have e1 : (g : Int) * q * (E : Int) = q * ((g : Int) * E) := by rw [Int.mul_comm (g : Int) q, Int.mul_assoc]
   omega
  rw [show n + 1 + E = (n + E) + 1 by omega]
  have hl := cntS_len shares n
  have hl2 := cntS_len shares (n + E)
  have h0 : 0 < shares.length := by omega
  have hx : nextF shares n (cntS shares n) < shares.length := bestTo_lt _ _ h0
  simp only [cntS]
  rw [e, getD_setI, getD_setI]
  have h1 := ih i hi
  by_cases hc : i = nextF shares n (cntS shares n)
  ·rw [if_pos ⟨hc, by omega⟩, if_pos ⟨hc, by omega⟩, ← hc, Int.add_mul, Int.add_mul]; omega
  ·rw [if_neg (fun h => hc h.1), if_neg (fun h => hc h.1)]; exact h1
def Rch : Nat → LT → PS → Prop
 | 0, _, _ => True
 | d + 1, .mk kind _ _ _ kids shares, .mk p cs ks => 0 ≤ p ∧ (kind = 4 → cs = cntS shares p.toNat) ∧ ks.length = kids.length ∧ ∀ j, j < kids.length → Rch d (kids.getD j default) (ks.getD j default)
def Eqv : Nat → LT → PS → PS → Prop
 | 0, _, _, _ => True
 | d + 1, .mk kind _ _ _ kids shares, .mk p _ ks, .mk p' _ ks' => p % everyF kind kids.length shares = p' % everyF kind kids.length shares ∧ ∀ j, j < kids.length → Eqv d (kids.getD j default) (ks.getD j default) (ks'.getD j default)
theorem getD_setP (l : List PS) (x i : Nat) (v : PS) : (l.set x v).getD i default = if i = x ∧ x < l.length then v else l.getD i default := by
 rw [List.getD_eq_getElem?_getD, List.getD_eq_getElem?_getD, List.getElem?_set]
 by_cases e : x = i
 ·subst e
  by_cases h : x < l.length
  ·simp [h]
  ·simp [h]
 ·rw [if_neg e, if_neg (fun h => e h.1.symm)]
theorem rch0 : ∀ (d : Nat) (t : LT), VL d t → Rch d t (ps0 t)
 | 0, _, _ => trivial
 | d + 1, .mk kind item long many kids shares, h => by
  obtain ⟨_, _, _, _, v5, _, _, v8⟩ := h
  rw [ps0_eq]
  refine ⟨Int.le_refl _, fun h4 => ?_, by simp, fun j hj => ?_⟩
  ·have hl := v5 h4
   show _ = shares.map fun _ => 0
   rw [List.map_const', List.map_const', hl]
  ·have e : (kids.map ps0).getD j default = ps0 (kids.getD j default) := by
    rw [List.getD_eq_getElem?_getD, List.getD_eq_getElem?_getD, List.getElem?_map, List.getElem?_eq_getElem hj]; rfl
   rw [e]
   exact rch0 d _ (v8 _ (getD_mem' kids j default hj))
def KidsQ (d : Nat) (kids : List LT) (ks ks' : List PS) : Prop := (ks.length = kids.length ∧ ks'.length = kids.length) ∧ ∀ j, j < kids.length → (Rch d (kids.getD j default) (ks.getD j default) ∧ Rch d (kids.getD j default) (ks'.getD j default)) ∧ Eqv d (kids.getD j default) (ks.getD j default) (ks'.getD j default)
theorem fold_eqv {d : Nat} {kids : List LT} (hf : ∀ j, j < kids.length → ∀ s s', Rch d (kids.getD j default) s → Rch d (kids.getD j default) s' → Eqv d (kids.getD j default) s s' →
   (passU d (kids.getD j default) s).2 = (passU d (kids.getD j default) s').2 ∧ (Rch d (kids.getD j default) (passU d (kids.getD j default) s).1 ∧ Rch d (kids.getD j default) (passU d (kids.getD j default) s').1) ∧ Eqv d (kids.getD j default) (passU d (kids.getD j default) s).1 (passU d (kids.getD j default) s').1) :
  ∀ (L : List Nat) (cs cs' : List Int) (ks ks' : List PS) (out : List (ByteArray × Int)), (∀ i ∈ L, i < kids.length) → KidsQ d kids ks ks' →
   (L.foldl (stepU (passU d) kids) ((cs, ks), out)).2 = (L.foldl (stepU (passU d) kids) ((cs', ks'), out)).2 ∧ KidsQ d kids (L.foldl (stepU (passU d) kids) ((cs, ks), out)).1.2 (L.foldl (stepU (passU d) kids) ((cs', ks'), out)).1.2
 | [], _, _, _, _, _, _, h => ⟨rfl, h⟩
 | i :: L, cs, cs', ks, ks', out, hL, ⟨⟨hl1, hl2⟩, hq⟩ => by
  have hi := hL i (by simp)
  obtain ⟨⟨q1, q2⟩, q3⟩ := hq i hi
  obtain ⟨e, ⟨r1, r2⟩, r3⟩ := hf i hi _ _ q1 q2 q3
  simp only [List.foldl_cons, stepU]
  rw [e]
  refine fold_eqv hf L _ _ _ _ _ (fun j hj => hL j (by simp [hj])) ⟨⟨by simp [hl1], by simp [hl2]⟩, fun j hj => ?_⟩
  rw [getD_setP, getD_setP]
  by_cases hc : j = i
  ·subst hc
   rw [if_pos ⟨rfl, by omega⟩, if_pos ⟨rfl, by omega⟩]
   exact ⟨⟨r1, r2⟩, r3⟩
  ·rw [if_neg (fun h => hc h.1), if_neg (fun h => hc h.1)]
   exact hq j hj
theorem add_every {p p' e : Int} (h : p % e = p' % e) : (p + 1) % e = (p' + 1) % e := by
 rw [Int.add_emod, h, ← Int.add_emod]
theorem nextF_round {shares : List Int} (h : ∀ x ∈ shares, 1 ≤ x) (hn : shares ≠ []) {E : Nat} (hE : shares.sum / (gcdI shares : Int) = E) (n : Nat) : nextF shares ((n + E : Nat) : Int) (cntS shares (n + E)) = nextF shares (n : Nat) (cntS shares n) := by
 obtain ⟨g, E', hg, hE0, e1, e2, hq⟩ := every4 h hn
 have e3 : E' = E := by omega
 subst e3
 refine bestTo_cong _ fun j hj => ?_
 have h1 := cntS_round h hn hg e2 hq n j hj
 obtain ⟨q, hq⟩ := hq j hj
 have hg0 : (g : Int) ≠ 0 := by omega
 have h2 : (cntS shares (n + E')).getD j 0 = (cntS shares n).getD j 0 + q := by
  apply Int.eq_of_mul_eq_mul_right hg0
  rw [h1, hq, Int.add_mul, Int.mul_comm (g : Int) q]
 simp only [shareV]
 rw [h2, hq, e2, Int.add_mul, Int.natCast_add]
 simp only [Int.mul_add, Int.mul_one]
 have e5 : (g : Int) * q * (E' : Int) = q * ((g : Int) * E') := by rw [Int.mul_comm (g : Int) q, Int.mul_assoc]
 omega
theorem nextF_rounds {shares : List Int} (h : ∀ x ∈ shares, 1 ≤ x) (hn : shares ≠ []) {E : Nat} (hE : shares.sum / (gcdI shares : Int) = E) (n : Nat) : ∀ k : Nat, nextF shares ((n + k * E : Nat) : Int) (cntS shares (n + k * E)) = nextF shares (n : Nat) (cntS shares n)
 | 0 => by simp
 | k + 1 => by
  rw [show n + (k + 1) * E = (n + k * E) + E by rw [Nat.add_mul]; omega, nextF_round h hn hE (n + k * E), nextF_rounds h hn hE n k]
theorem nextF_mod {shares : List Int} (h : ∀ x ∈ shares, 1 ≤ x) (hn : shares ≠ []) {p p' : Int} (hp : 0 ≤ p) (hp' : 0 ≤ p') (he : p % (shares.sum / (gcdI shares : Int)) = p' % (shares.sum / (gcdI shares : Int))) :
  nextF shares p (cntS shares p.toNat) = nextF shares p' (cntS shares p'.toNat) := by
 obtain ⟨g, E, hg, hE0, e1, e2, hq⟩ := every4 h hn
 rw [e1] at he
 have key : ∀ p : Int, 0 ≤ p → nextF shares p (cntS shares p.toNat) = nextF shares ((p % E).toNat : Nat) (cntS shares (p % E).toNat) := fun p hp => by
  have h1 := nextF_rounds h hn e1 (p % E).toNat (p / E).toNat
  have m0 : 0 ≤ p % (E : Int) := Int.emod_nonneg _ (by omega)
  have d0 : 0 ≤ p / (E : Int) := Int.ediv_nonneg hp (by omega)
  have m1 := Int.mul_ediv_add_emod p E
  have e3 : (p % (E : Int)).toNat + (p / (E : Int)).toNat * E = p.toNat := by
   have : (((p % (E : Int)).toNat + (p / (E : Int)).toNat * E : Nat) : Int) = p := by
    rw [Int.natCast_add, Int.natCast_mul, Int.toNat_of_nonneg m0, Int.toNat_of_nonneg d0, Int.mul_comm]; omega
   omega
  rw [e3] at h1
  have e4 : ((p.toNat : Nat) : Int) = p := by omega
  rw [e4] at h1
  exact h1
 rw [key p hp, key p' hp', he]
theorem pass_eqv : ∀ (d : Nat) (t : LT) (s s' : PS), VL d t → Rch d t s → Rch d t s' → Eqv d t s s' → (passU d t s).2 = (passU d t s').2 ∧ (Rch d t (passU d t s).1 ∧ Rch d t (passU d t s').1) ∧ Eqv d t (passU d t s).1 (passU d t s').1
 | 0, _, _, _, h, _, _, _ => h.elim
 | d + 1, .mk kind item long many kids shares, .mk p cs ks, .mk p' cs' ks', hv, ⟨r1, r2, r3, r4⟩, ⟨q1, q2, q3, q4⟩, ⟨he, hk⟩ => by
  obtain ⟨v1, v2, v3, v4, v5, v6, v7, v8⟩ := id hv
  have hf := fun j (hj : j < kids.length) s s' a b c => pass_eqv d (kids.getD j default) s s' (v8 _ (getD_mem' kids j default hj)) a b c
  have hnx : kind = 4 → nextF shares p cs = nextF shares p' cs' := fun h4 => by
   have hl := v5 h4
   have hk0 := List.length_pos_iff.2 (v3 (by omega))
   rw [r2 h4, q2 h4]
   refine nextF_mod (fun x hx => (v6 x hx).1) (fun e => by rw [e] at hl; simp at hl; omega) r1 q1 ?_
   simpa only [everyF, if_neg (show ¬ kind = 3 by omega), if_pos h4] using he
  have hL : idxL kind p many kids.length (nextF shares p cs) = idxL kind p' many kids.length (nextF shares p' cs') := by
   unfold idxL
   by_cases h1 : kind = 1
   ·rw [if_pos h1, if_pos h1]
   by_cases h2 : kind = 2
   ·rw [if_neg h1, if_pos h2, if_neg h1, if_pos h2]
   by_cases h3 : kind = 3
   ·rw [if_neg h1, if_neg h2, if_pos h3, if_neg h1, if_neg h2, if_pos h3]
    simp only [everyF, if_pos h3] at he
    rw [Int.tmod_eq_emod_of_nonneg r1, Int.tmod_eq_emod_of_nonneg q1, he]
   by_cases h4 : kind = 4
   ·rw [if_neg h1, if_neg h2, if_neg h3, if_pos h4, if_neg h1, if_neg h2, if_neg h3, if_pos h4, hnx h4]
   ·rw [if_neg h1, if_neg h2, if_neg h3, if_neg h4, if_neg h1, if_neg h2, if_neg h3, if_neg h4]
  have hlt := idxL_lt (kind := kind) (p := p) (many := many) (nk := kids.length) (nx := nextF shares p cs) v1 (fun h => List.length_pos_iff.2 (v3 h)) (fun h4 => by
   have hl := v5 h4
   have hk0 := List.length_pos_iff.2 (v3 (by omega))
   rw [← hl]
   exact bestTo_lt _ _ (by omega)) r1
  have hfold := fold_eqv hf (idxL kind p many kids.length (nextF shares p cs)) cs cs' ks ks' (if kind = 1 then [(item, long)] else []) hlt ⟨⟨r3, q3⟩, fun j hj => ⟨⟨r4 j hj, q4 j hj⟩, hk j hj⟩⟩
  have hc4 : kind = 4 → ∀ (p : Int) (cs : List Int) (ks : List PS), 0 ≤ p → cs = cntS shares p.toNat → ((idxL kind p many kids.length (nextF shares p cs)).foldl (stepU (passU d) kids) ((cs, ks), if kind = 1 then [(item, long)] else [])).1.1 = cntS shares (p + 1).toNat := fun h4 p cs ks hp hcs => by
   have e : (p + 1).toNat = p.toNat + 1 := by omega
   have e2 : ((p.toNat : Nat) : Int) = p := by omega
   rw [e]
   subst h4
   simp only [idxL, cntS, e2]
   rw [hcs]
   rfl
  rw [passU_succ, passU_succ, ← hL]
  refine ⟨hfold.1, ⟨⟨by omega, fun h4 => hc4 h4 p cs ks r1 (r2 h4), hfold.2.1.1, fun j hj => (hfold.2.2 j hj).1.1⟩, by omega, fun h4 => by rw [hL]; exact hc4 h4 p' cs' ks' q1 (q2 h4), hfold.2.1.2, fun j hj => (hfold.2.2 j hj).1.2⟩, add_every he, fun j hj => (hfold.2.2 j hj).2⟩
theorem eqv_refl : ∀ (d : Nat) (t : LT) (s : PS), Eqv d t s s
 | 0, _, _ => trivial
 | d + 1, .mk .., .mk .. => ⟨rfl, fun _ _ => eqv_refl d _ _⟩
theorem passes_rch {d : Nat} {t : LT} (hv : VL d t) : ∀ n, Rch d t (passesU d t n).1
 | 0 => rch0 d t hv
 | n + 1 => (pass_eqv d t _ _ hv (passes_rch hv n) (passes_rch hv n) (eqv_refl d t _)).2.1.1
theorem home_eqv : ∀ (d : Nat) (t : LT) (s : PS), VL d t → Rch d t s → homeF d t s = true → Eqv d t s (ps0 t)
 | 0, _, _, _, _, _ => trivial
 | d + 1, .mk kind item long many kids shares, .mk p cs ks, hv, ⟨r1, r2, r3, r4⟩, hh => by
  obtain ⟨v1, v2, v3, v4, v5, v6, v7, v8⟩ := id hv
  simp only [homeF, Bool.and_eq_true, beq_iff_eq, List.all_eq_true, List.mem_range] at hh
  rw [ps0_eq]
  refine ⟨?_, fun j hj => ?_⟩
  ·rw [← Int.tmod_eq_emod_of_nonneg r1, hh.1]; simp
  ·have e : (kids.map ps0).getD j default = ps0 (kids.getD j default) := by
    rw [List.getD_eq_getElem?_getD, List.getD_eq_getElem?_getD, List.getElem?_map, List.getElem?_eq_getElem hj]; rfl
   rw [e]
   exact home_eqv d _ _ (v8 _ (getD_mem' kids j default hj)) (r4 j hj) (hh.2 j hj)
theorem passes_again {d : Nat} {t : LT} (hv : VL d t) {N : Nat} (hh : homeF d t (passesU d t N).1 = true) : ∀ m, (passesU d t (N + m)).2 = (passesU d t N).2 ++ (passesU d t m).2 ∧ Eqv d t (passesU d t (N + m)).1 (passesU d t m).1
 | 0 => ⟨by simp [passesU], home_eqv d t _ hv (passes_rch hv N) hh⟩
 | m + 1 => by
  obtain ⟨h1, h2⟩ := passes_again hv hh m
  obtain ⟨h3, _, h5⟩ := pass_eqv d t _ _ hv (passes_rch hv (N + m)) (passes_rch hv m) h2
  refine ⟨?_, h5⟩
  show (passesU d t (N + m)).2 ++ (passU d t (passesU d t (N + m)).1).2 = _
  rw [h1, h3, List.append_assoc]
  rfl
abbrev zP1EE : List Nat := [0, 1, 2, 3]
abbrev zP1EP : List (Nat × List Nat × List Nat) := [(4, [], []), (5, [], [])]
attribute [go_sem] zP1EE zP1EP
theorem g_gcdP (a b : Nat) (h : Hp) (ha : a ≤ 1000000000000) (hb : b ≤ 1000000000000) : ACalls Tryz.prog 146 [.v (.int .i64 a), .v (.int .i64 b)] h (fun r h' => r = .v (.int .i64 (Nat.gcd a b : Nat)) ∧ h' = h) := by
 refine gE Tryz.func146 rfl (by kernel_rfl) 13 rfl fun c => ?_
 (repeat (first | refine gO rfl ?_ | ((first | refine gR ?_ | (with_reducible refine wM ?_ ?_) | ((with_reducible refine xR ?_); refine uE 2 zM31 zP1EE zP1EP 15 rfl (by kernel_rfl) ?_)) <;> ((try with_reducible intro K1 hK1); simp only [go_sem, ↓reduceIte, reduceCtorEq, nA, nB, nC, nD, nE, nF] <;> and_intros <;> first | (apply hK1; clear hK1 K1) | (intros; first | omega | decide | (simp_all <;> omega)) | skip))))
 refine awp_loopC (rl false [0, 2, 13]) 0 (fun g s => ∃ x : Nat, Nat.gcd x g = Nat.gcd a b ∧ x ≤ 1000000000000 ∧ g ≤ 1000000000000 ∧ s = ⟨((.v (.int .i64 x)) :: (.v (.int .i64 g)) :: (jnk 13 [])), [], h⟩) b ⟨a, rfl, ha, hb, rfl⟩ ?_
 rintro g _ ⟨x, hx, hx1, hg1, rfl⟩
 (repeat (first | refine gO rfl ?_ | ((first | refine gR ?_ | (with_reducible refine wM ?_ ?_) | ((with_reducible refine xR ?_); refine uE 2 zM31 zP1EE zP1EP 15 rfl (by kernel_rfl) ?_)) <;> ((try with_reducible intro K1 hK1); simp only [go_sem, ↓reduceIte, reduceCtorEq, nA, nB, nC, nD, nE, nF] <;> and_intros <;> first | (apply hK1; clear hK1 K1) | (intros; first | omega | decide | (simp_all <;> omega)) | skip))))
 refine awp_cond (t := _) rfl (fun h1 => ?_) (fun h1 => ?_)
 ·have hg : g ≠ 0 := by simpa using h1
  have hm : (x : Int).tmod (g : Int) = ((x % g : Nat) : Int) := rfl
  have hlt := Nat.mod_lt x (show 0 < g by omega)
  (repeat (first | refine gO rfl ?_ | ((first | refine gR ?_ | (with_reducible refine wM ?_ ?_) | ((with_reducible refine xR ?_); refine uE 2 zM31 zP1EE zP1EP 15 rfl (by kernel_rfl) ?_)) <;> ((try with_reducible intro K1 hK1); simp only [go_sem, ↓reduceIte, reduceCtorEq, nA, nB, nC, nD, nE, nF, hm] <;> and_intros <;> first | (apply hK1; clear hK1 K1) | (intros; first | omega | decide | (simp_all <;> omega)) | skip))))
  exact ⟨x % g, hlt, g, by rw [← hx, Nat.gcd_comm x g, Nat.gcd_rec g x, Nat.gcd_comm], hg1, by omega, rfl⟩
 ·have hg : g = 0 := by simpa using h1
  subst hg
  rw [Nat.gcd_zero_right] at hx
  have hmx : max (x : Int) (-(x : Int)) = x := by omega
  (repeat (first | refine gO rfl ?_ | ((first | refine gR ?_ | (with_reducible refine wM ?_ ?_) | ((with_reducible refine xR ?_); refine uE 2 zM31 zP1EE zP1EP 15 rfl (by kernel_rfl) ?_)) <;> ((try with_reducible intro K1 hK1); simp only [go_sem, ↓reduceIte, reduceCtorEq, nA, nB, nC, nD, nE, nF, hmx] <;> and_intros <;> first | (apply hK1; clear hK1 K1) | (intros; first | omega | decide | (simp_all <;> omega)) | skip))))
  simp only [Tryz.results146, go_sem, ↓reduceIte, reduceCtorEq, nA, nB, nC, nD, nE, nF]
  exact ⟨_, _, Weak.refl _, Hp.le.refl _, by rw [← hx], rfl⟩
def gcdTo (l : List Int) (j : Nat) : Nat := ((l.take j).map Int.toNat).foldl Nat.gcd 0
theorem gcdTo_succ (l : List Int) (j : Nat) (h : j < l.length) : gcdTo l (j + 1) = Nat.gcd (gcdTo l j) (l.getD j 0).toNat := by
 rw [gcdTo, List.take_add_one, List.getElem?_eq_getElem h, List.map_append, List.foldl_append, List.getD_eq_getElem?_getD, List.getElem?_eq_getElem h]; rfl
theorem gcdTo_all (l : List Int) : gcdTo l l.length = gcdI l := by
 rw [gcdTo, List.take_length, foldl_gcd, Nat.gcd_zero_left]; rfl
theorem gcdTo_le (l : List Int) (h : ∀ x ∈ l, 1 ≤ x ∧ x ≤ 1000) : ∀ j, j ≤ l.length → gcdTo l j ≤ 1000
 | 0, _ => by simp [gcdTo]
 | j + 1, hj => by
  have hm : l.getD j 0 ∈ l := by rw [List.getD_eq_getElem?_getD, List.getElem?_eq_getElem (by omega)]; exact List.getElem_mem _
  have := h _ hm
  rw [gcdTo_succ l j (by omega)]
  exact Nat.le_trans (Nat.gcd_le_right _ (by omega)) (by omega)
theorem g_divisorP (l : List Int) (h : Hp) (hl : l.length ≤ 1000) (hs : ∀ x ∈ l, 1 ≤ x ∧ x ≤ 1000) : ACalls Tryz.prog 200 [.row 1 (l.map encI) none] h (fun r h' => r = .v (.int .i64 (gcdI l : Nat)) ∧ h' = h) := by
 refine gE Tryz.func200 rfl (by kernel_rfl) 16 rfl fun c => ?_
 (repeat (first | refine gO rfl ?_ | (refine gR fun K1 hK1 => ?_; simp only [go_sem, ↓reduceIte, reduceCtorEq, nA, nB, nC, nD, nE, nF] <;> and_intros <;> first | (apply hK1; clear hK1 K1) | (intros; first | omega | decide | (simp_all <;> omega)) | skip)))
 refine awp_loopC (rl false [3, 1, 2, 3, 8]) 0 (fun g s => ∃ j : Nat, g + j = l.length ∧ s = ⟨((jnk 3 ((.v (.int .i64 (gcdTo l j : Nat))) :: AV.junk :: AV.junk :: ((.row 1 (l.map encI) none) :: (.v (.int .i64 l.length)) :: (.v (.int .i64 j)) :: (jnk 8 []))))), [], h⟩) l.length ⟨0, by omega, rfl⟩ ?_
 rintro g _ ⟨j, hj, rfl⟩
 (repeat (first | refine gO rfl ?_ | (refine gR fun K1 hK1 => ?_; simp only [go_sem, ↓reduceIte, reduceCtorEq, nA, nB, nC, nD, nE, nF] <;> and_intros <;> first | (apply hK1; clear hK1 K1) | (intros; first | omega | decide | (simp_all <;> omega)) | skip)))
 refine awp_cond (t := _) rfl (fun h1 => ?_) (fun h1 => ?_)
 ·simp only [decide_eq_true_eq] at h1
  have hjl : j < l.length := by omega
  have gx : (l.map encI).getD j [] = encI (l.getD j 0) := getD_enc encI l j 0 hjl
  have hb := hs _ (getD_mem' l j 0 hjl)
  have e1 := gcdTo_succ l j hjl
  have hl1 := gcdTo_le l hs j (by omega)
  generalize l.getD j 0 = x at gx hb e1
  obtain ⟨y, rfl⟩ : ∃ y : Nat, x = y := ⟨x.toNat, by omega⟩
  rw [Int.toNat_natCast] at e1
  (repeat (first | refine gO rfl ?_ | (refine gR fun K1 hK1 => ?_; simp only [go_sem, ↓reduceIte, reduceCtorEq, nA, nB, nC, nD, nE, nF, Int.toNat_natCast, gx, encI] <;> and_intros <;> first | (apply hK1; clear hK1 K1) | (intros; first | omega | decide | (simp_all <;> omega)) | skip)))
  refine (g_gcdP (gcdTo l j) y h (by omega) (by omega)).mono ?_; rintro _ hz ⟨rfl, hh⟩; apply hK1; clear hK1 K1; rw [hh]; clear hh hz
  (repeat (first | refine gO rfl ?_ | (refine gR fun K1 hK1 => ?_; simp only [go_sem, ↓reduceIte, reduceCtorEq, nA, nB, nC, nD, nE, nF] <;> and_intros <;> first | (apply hK1; clear hK1 K1) | (intros; first | omega | decide | (simp_all <;> omega)) | skip)))
  exact ⟨g - 1, by omega, j + 1, by omega, by rw [e1]; rfl⟩
 ·simp only [decide_eq_false_iff_not] at h1
  have hjl : j = l.length := by omega
  subst hjl
  rw [gcdTo_all]
  (repeat (first | refine gO rfl ?_ | (refine gR fun K1 hK1 => ?_; simp only [go_sem, ↓reduceIte, reduceCtorEq, nA, nB, nC, nD, nE, nF] <;> and_intros <;> first | (apply hK1; clear hK1 K1) | (intros; first | omega | decide | (simp_all <;> omega)) | skip)))
  simp only [Tryz.results200, go_sem, ↓reduceIte, reduceCtorEq, nA, nB, nC, nD, nE, nF]
  exact ⟨_, _, Weak.refl _, Hp.le.refl _, rfl, rfl⟩
abbrev zP1FE : List Nat := [0, 1, 2, 3, 4, 5, 6, 7, 8]
abbrev zP1FP : List (Nat × List Nat × List Nat) := [(9, [3], [10, 11])]
attribute [go_sem] zP1FE zP1FP
theorem g_ixP (fid : Nat) (xs : List AT) (K : AV) (hK : kidsC xs K) (hl : xs.length ≤ 100000) (I P : Nat → Hp → Prop) (h : Hp) (h0 : I 0 h)
  (step : ∀ j h, j < xs.length → I j h → ACalls Tryz.prog fid [.ptr (xs.getD j default).id 0] h (fun r h' => ∃ b, r = .v (.bool b) ∧ (b = true → P j h') ∧ (b = false → I (j + 1) h'))) :
  ACalls Tryz.prog 256 [K, .fn fid []] h (fun r h' => (∃ j : Nat, j < xs.length ∧ r = .v (.int .i64 j) ∧ P j h') ∨ r = .v (.int .i64 (-1)) ∧ I xs.length h') := by
 rcases hK with ⟨rfl, rfl⟩ | ⟨tk, rfl⟩
 ·refine gE Tryz.func256 rfl (by kernel_rfl) 17 rfl fun c => ?_
  (repeat (first | refine gO rfl ?_ | (refine gR fun K1 hK1 => ?_; simp only [go_sem, ↓reduceIte, reduceCtorEq, nA, nB, nC, nD, nE, nF] <;> and_intros <;> first | (apply hK1; clear hK1 K1) | (intros; first | omega | decide | (simp_all <;> omega)) | skip)))
  refine awp_loopC (rl false [7, 2, 10]) 0 (fun g s => s = ⟨((jnk 7 ((.v (.int .i64 0)) :: (.v (.int .i64 0)) :: (jnk 10 [])))), [], h⟩) 0 rfl ?_
  rintro g _ rfl
  (repeat (first | refine gO rfl ?_ | (refine gR fun K1 hK1 => ?_; simp only [go_sem, ↓reduceIte, reduceCtorEq, nA, nB, nC, nD, nE, nF] <;> and_intros <;> first | (apply hK1; clear hK1 K1) | (intros; first | omega | decide | (simp_all <;> omega)) | skip)))
  refine awp_cond (t := _) rfl (fun h1 => by cases h1) (fun h1 => ?_)
  (repeat (first | refine gO rfl ?_ | (refine gR fun K1 hK1 => ?_; simp only [go_sem, ↓reduceIte, reduceCtorEq, nA, nB, nC, nD, nE, nF] <;> and_intros <;> first | (apply hK1; clear hK1 K1) | (intros; first | omega | decide | (simp_all <;> omega)) | skip)))
  simp only [Tryz.results256, go_sem, ↓reduceIte, reduceCtorEq, nA, nB, nC, nD, nE, nF]
  exact ⟨_, _, Weak.refl _, Hp.le.refl _, .inr ⟨rfl, h0⟩⟩
 ·refine gE Tryz.func256 rfl (by kernel_rfl) 17 rfl fun c => ?_
  (repeat (first | refine gO rfl ?_ | (refine gR fun K1 hK1 => ?_; simp only [go_sem, ↓reduceIte, reduceCtorEq, nA, nB, nC, nD, nE, nF] <;> and_intros <;> first | (apply hK1; clear hK1 K1) | (intros; first | omega | decide | (simp_all <;> omega)) | skip)))
  refine awp_loopC (rl false [0, 2, 5, 2, 10]) 0 (fun g s => ∃ (j : Nat) (h' : Hp), g + j = xs.length ∧ I j h' ∧ s = ⟨((.row 1 (xs.map fun a => [.ptr a.id 0]) tk) :: (.fn fid []) :: (jnk 5 ((.v (.int .i64 xs.length)) :: (.v (.int .i64 j)) :: (jnk 10 [])))), [], h'⟩) xs.length ⟨0, h, by omega, h0, rfl⟩ ?_
  rintro g _ ⟨j, h', hj, hI, rfl⟩
  (repeat (first | refine gO rfl ?_ | (refine gR fun K1 hK1 => ?_; simp only [go_sem, ↓reduceIte, reduceCtorEq, nA, nB, nC, nD, nE, nF] <;> and_intros <;> first | (apply hK1; clear hK1 K1) | (intros; first | omega | decide | (simp_all <;> omega)) | skip)))
  refine awp_cond (t := _) rfl (fun h1 => ?_) (fun h1 => ?_)
  ·simp only [decide_eq_true_eq] at h1
   have hjk : j < xs.length := by omega
   have hg : (xs.map fun a : AT => [AV.ptr a.id 0]).getD j [] = [.ptr (xs.getD j default).id 0] := getD_enc (fun a : AT => [AV.ptr a.id 0]) xs j default hjk
   have st := step j h' hjk hI
   (repeat (first | refine gO rfl ?_ | (refine gR fun K1 hK1 => ?_; simp only [go_sem, ↓reduceIte, reduceCtorEq, nA, nB, nC, nD, nE, nF, Int.toNat_natCast, hg] <;> and_intros <;> first | (apply hK1; clear hK1 K1) | (intros; first | omega | decide | (simp_all <;> omega)) | skip)))
   refine st.mono ?_; rintro _ _ ⟨b, rfl, hb1, hb2⟩; apply hK1; clear hK1 K1
   (repeat (first | refine gO rfl ?_ | (refine gR fun K1 hK1 => ?_; simp only [go_sem, ↓reduceIte, reduceCtorEq, nA, nB, nC, nD, nE, nF] <;> and_intros <;> first | (apply hK1; clear hK1 K1) | (intros; first | omega | decide | (simp_all <;> omega)) | skip)))
   refine awp_cond (t := _) rfl (fun h2 => ?_) (fun h2 => ?_)
   ·(repeat (first | refine gO rfl ?_ | (refine gR fun K1 hK1 => ?_; simp only [go_sem, ↓reduceIte, reduceCtorEq, nA, nB, nC, nD, nE, nF] <;> and_intros <;> first | (apply hK1; clear hK1 K1) | (intros; first | omega | decide | (simp_all <;> omega)) | skip)))
    simp only [Tryz.results256, go_sem, ↓reduceIte, reduceCtorEq, nA, nB, nC, nD, nE, nF]
    exact ⟨_, _, Weak.refl _, Hp.le.refl _, .inl ⟨j, hjk, rfl, hb1 h2⟩⟩
   ·(repeat (first | refine gO rfl ?_ | (refine gR fun K1 hK1 => ?_; simp only [go_sem, ↓reduceIte, reduceCtorEq, nA, nB, nC, nD, nE, nF] <;> and_intros <;> first | (apply hK1; clear hK1 K1) | (intros; first | omega | decide | (simp_all <;> omega)) | skip)))
    exact ⟨g - 1, by omega, j + 1, _, by omega, hb2 h2, rfl⟩
  ·simp only [decide_eq_false_iff_not] at h1
   have hjk : j = xs.length := by omega
   subst hjk
   (repeat (first | refine gO rfl ?_ | (refine gR fun K1 hK1 => ?_; simp only [go_sem, ↓reduceIte, reduceCtorEq, nA, nB, nC, nD, nE, nF] <;> and_intros <;> first | (apply hK1; clear hK1 K1) | (intros; first | omega | decide | (simp_all <;> omega)) | skip)))
   simp only [Tryz.results256, go_sem, ↓reduceIte, reduceCtorEq, nA, nB, nC, nD, nE, nF]
   exact ⟨_, _, Weak.refl _, Hp.le.refl _, .inr ⟨rfl, hI⟩⟩
theorem g_coP (fid : Nat) (xs : List AT) (K : AV) (hK : kidsC xs K) (hl : xs.length ≤ 100000) (q : Nat → Bool) (h : Hp)
  (step : ∀ j, j < xs.length → ACalls Tryz.prog fid [.ptr (xs.getD j default).id 0] h (fun r h' => r = .v (.bool (!q j)) ∧ h' = h)) :
  ACalls Tryz.prog 201 [K, .fn fid []] h (fun r h' => r = .v (.bool (!(List.range xs.length).all q)) ∧ h' = h) := by
 have hi := g_ixP fid xs K hK hl (fun j h' => h' = h ∧ ∀ l, l < j → q l = true) (fun j h' => h' = h ∧ q j = false) h ⟨rfl, fun l hl => by omega⟩ (fun j h' hj ⟨e, hI⟩ => by
  rw [e]
  refine (step j hj).mono ?_
  rintro _ h2 ⟨rfl, e2⟩
  refine ⟨_, rfl, fun hb => ⟨e2, by simpa using hb⟩, fun hb => ⟨e2, fun l hl => ?_⟩⟩
  by_cases hlj : l = j
  ·rw [hlj]; simpa using hb
  ·exact hI l (by omega))
 have o3 : OneV K := by rcases hK with ⟨_, rfl⟩ | ⟨tk, rfl⟩ <;> exact ⟨rfl, rfl, rfl, rfl, rfl⟩
 obtain ⟨w1, w2, w3, w4, w5⟩ := o3
 unfold uside at w1; unfold unw at w2; unfold AV.noLoc at w3; unfold isOpt at w4; simp only [AV.cellsB, Value.oneCell'] at w5
 refine gE Tryz.func201 rfl (by kernel_rfl) 7 rfl fun c => ?_
 (repeat (first | refine gO rfl ?_ | (refine gR fun K1 hK1 => ?_; simp only [go_sem, ↓reduceIte, reduceCtorEq, nA, nB, nC, nD, nE, nF, w1, w2, w3, w4, w5] <;> and_intros <;> first | (apply hK1; clear hK1 K1) | (intros; first | omega | decide | (simp_all <;> omega)) | skip)))
 refine hi.mono ?_
 rintro _ h' (⟨j, hj, rfl, rfl, hp⟩ | ⟨rfl, rfl, hi9⟩)
 ·refine hK1 _ ?_; clear hK1 K1
  have e9 : (List.range xs.length).all q = false := by
   rw [List.all_eq_false]
   exact ⟨j, by simpa using hj, by rw [hp]; simp⟩
  (repeat (first | refine gO rfl ?_ | (refine gR fun K1 hK1 => ?_; simp only [go_sem, ↓reduceIte, reduceCtorEq, nA, nB, nC, nD, nE, nF] <;> and_intros <;> first | (apply hK1; clear hK1 K1) | (intros; first | omega | decide | (simp_all <;> omega)) | skip)))
  simp only [Tryz.results201, go_sem, ↓reduceIte, reduceCtorEq, nA, nB, nC, nD, nE, nF]
  exact ⟨_, _, Weak.refl _, Hp.le.refl _, by rw [e9]; simp, rfl⟩
 ·refine hK1 _ ?_; clear hK1 K1
  have e9 : (List.range xs.length).all q = true := by
   rw [List.all_eq_true]
   exact fun l hl => hi9 l (by simpa using hl)
  (repeat (first | refine gO rfl ?_ | (refine gR fun K1 hK1 => ?_; simp only [go_sem, ↓reduceIte, reduceCtorEq, nA, nB, nC, nD, nE, nF] <;> and_intros <;> first | (apply hK1; clear hK1 K1) | (intros; first | omega | decide | (simp_all <;> omega)) | skip)))
  simp only [Tryz.results201, go_sem, ↓reduceIte, reduceCtorEq, nA, nB, nC, nD, nE, nF]
  exact ⟨_, _, Weak.refl _, Hp.le.refl _, by rw [e9]; simp, rfl⟩
theorem homeF_eq (d : Nat) (kind : Int) (item : ByteArray) (long many : Int) (kids : List LT) (shares : List Int) (p : Int) (cs : List Int) (ks : List PS) :
  homeF (d + 1) (.mk kind item long many kids shares) (.mk p cs ks) = ((p.tmod (everyF kind kids.length shares) == 0) && (List.range kids.length).all fun j => homeF d (kids.getD j default) (ks.getD j default)) := rfl
theorem sum_bdI {l : List Int} (h : ∀ x ∈ l, 1 ≤ x ∧ x ≤ 1000) (hl : l.length ≤ 1000) : 0 ≤ l.sum ∧ l.sum ≤ 1000000 := by
 have key : ∀ l : List Int, (∀ x ∈ l, 1 ≤ x ∧ x ≤ 1000) → 0 ≤ l.sum ∧ l.sum ≤ l.length * 1000 := fun l => by
  induction l with
  | nil => simp
  | cons y l ih => intro h; have := h y (by simp); have := ih fun z hz => h z (by simp [hz]); simp only [List.sum_cons, List.length_cons]; omega
 have := key l h
 omega
theorem g_beginsG : ∀ (d : Nat) (t : LT) (a : AT) (s : PS) (h : Hp), VL d t → RAt XP h d t a s → PSB d t s 100000 → ACalls Tryz.prog 142 [.ptr a.id 0] h (fun r h' => r = .v (.bool (homeF d t s)) ∧ h' = h)
 | 0, _, _, _, _, hv, _, _ => hv.elim
 | d + 1, .mk kind item long many kids shares, .mk i c0 az, .mk p cs ks, h0, hv, hR, hB => by
  obtain ⟨v1, v2, v3, v4, v5, v6, v7, v8⟩ := id hv
  obtain ⟨⟨K, hH, hK⟩, hT, ⟨l1, l2, l3, l4⟩, hkids⟩ := id hR
  obtain ⟨c1, c2, c3⟩ := id hB
  have hH0 : h0.H i = some (.cells [.v (.int .i64 kind), .v (.string item), .v (.int .i64 long), .v (.int .i64 many), .row 6 (kids.map encL) none, .row 1 (shares.map encI) none, K, .v (.int .i64 p), .arr 1 c0 kids.length, .v (.int .i64 shares.sum)]) := hH
  have o3 : OneV K := by rcases hK with ⟨_, rfl⟩ | ⟨tk, rfl⟩ <;> exact ⟨rfl, rfl, rfl, rfl, rfl⟩
  obtain ⟨w1, w2, w3, w4, w5⟩ := o3
  unfold uside at w1; unfold unw at w2; unfold AV.noLoc at w3; unfold isOpt at w4; simp only [AV.cellsB, Value.oneCell'] at w5
  have hclo : ∀ j, j < az.length → ACalls Tryz.prog 202 [.ptr (az.getD j default).id 0] h0 (fun r h' => r = .v (.bool (!homeF d (kids.getD j default) (ks.getD j default))) ∧ h' = h0) := fun j hj => by
   have g1 := g_beginsG d _ _ _ h0 (v8 _ (getD_mem' kids j default (by omega))) (hkids j (by omega)) (c3 j (by omega))
   refine gE Tryz.func202 rfl (by kernel_rfl) 5 rfl fun c => ?_
   (repeat (first | refine gO rfl ?_ | (refine gR fun K1 hK1 => ?_; simp only [go_sem, ↓reduceIte, reduceCtorEq, nA, nB, nC, nD, nE, nF] <;> and_intros <;> first | (apply hK1; clear hK1 K1) | (intros; first | omega | decide | (simp_all <;> omega)) | skip)))
   refine g1.mono ?_; rintro _ hz ⟨rfl, hh⟩; apply hK1; clear hK1 K1; rw [hh]; clear hh hz
   (repeat (first | refine gO rfl ?_ | (refine gR fun K1 hK1 => ?_; simp only [go_sem, ↓reduceIte, reduceCtorEq, nA, nB, nC, nD, nE, nF] <;> and_intros <;> first | (apply hK1; clear hK1 K1) | (intros; first | omega | decide | (simp_all <;> omega)) | skip)))
   simp only [Tryz.results202, go_sem, ↓reduceIte, reduceCtorEq, nA, nB, nC, nD, nE, nF]
   exact ⟨_, _, Weak.refl _, Hp.le.refl _, rfl, rfl⟩
  have hcon := g_coP 202 az K hK (by omega) (fun j => homeF d (kids.getD j default) (ks.getD j default)) h0 hclo
  rw [l3] at hcon
  have hdiv := g_divisorP shares h0 v7.2 v6
  have hev := every_pos hv
  show ACalls Tryz.prog 142 [.ptr i 0] h0 _
  rw [homeF_eq]
  have hef : everyF kind kids.length shares = if kind = 3 then (kids.length : Int) else if kind = 4 then shares.sum / gcdI shares else 1 := rfl
  generalize hQ : (List.range kids.length).all (fun j => homeF d (kids.getD j default) (ks.getD j default)) = qq at *
  refine gE Tryz.func142 rfl (by kernel_rfl) 43 rfl fun c => ?_
  (repeat (first | refine gQ rfl ?_ | ((first | refine gR ?_ | (with_reducible refine wM ?_ ?_) | ((with_reducible refine xR ?_); refine uE 6 zM31 zP1FE zP1FP 44 rfl (by kernel_rfl) ?_)) <;> ((try with_reducible intro K1 hK1); simp only [go_sem, ↓reduceIte, reduceCtorEq, nA, nB, nC, nD, nE, nF, hH0] <;> and_intros <;> first | (apply hK1; clear hK1 K1) | (intros; first | omega | decide | (simp_all <;> omega)) | skip))))
  refine awp_seq ?_
  refine awp_join (rl false [0, 1, 2, 1, 40]) 0 (fun s => s = ⟨((.ptr i 0) :: AV.junk :: AV.junk :: ((.v (.int .i64 (everyF kind kids.length shares))) :: (jnk 40 []))), [], h0⟩) ?_ ?_
  ·by_cases h3 : kind = 3
   ·have e3 : (kind == 3) = true := by simp; exact h3
    obtain ⟨tk, rfl⟩ : ∃ tk, K = .row 1 (az.map fun a => [.ptr a.id 0]) tk := by
     rcases hK with ⟨rfl, _⟩ | h9
     ·simp at l3; exact absurd (List.eq_nil_of_length_eq_zero l3.symm) (v3 (by omega))
     ·exact h9
    (repeat (first | refine gO rfl ?_ | ((first | refine gR ?_ | (with_reducible refine wM ?_ ?_) | ((with_reducible refine xR ?_); refine uE 6 zM31 zP1FE zP1FP 44 rfl (by kernel_rfl) ?_)) <;> ((try with_reducible intro K1 hK1); simp only [go_sem, ↓reduceIte, reduceCtorEq, nA, nB, nC, nD, nE, nF, hH0, e3] <;> and_intros <;> first | (apply hK1; clear hK1 K1) | (intros; first | omega | decide | (simp_all <;> omega)) | skip))))
    refine awp_cond (t := _) rfl (fun _ => ?_) (fun h => by cases h)
    (repeat (first | refine gO rfl ?_ | ((first | refine gR ?_ | (with_reducible refine wM ?_ ?_) | ((with_reducible refine xR ?_); refine uE 6 zM31 zP1FE zP1FP 44 rfl (by kernel_rfl) ?_)) <;> ((try with_reducible intro K1 hK1); simp only [go_sem, ↓reduceIte, reduceCtorEq, nA, nB, nC, nD, nE, nF, hH0, l3] <;> and_intros <;> first | (apply hK1; clear hK1 K1) | (intros; first | omega | decide | (simp_all <;> omega)) | skip))))
    rw [hef, if_pos h3]; rfl
   ·have e3 : (kind == 3) = false := by simp; exact h3
    by_cases h4 : kind = 4
    ·have e4 : (kind == 4) = true := by simp; exact h4
     have hne : shares ≠ [] := fun e => v3 (by omega) (List.eq_nil_of_length_eq_zero (by rw [← v5 h4, e]; rfl))
     have hgp := gcdI_pos (fun x hx => (v6 x hx).1) hne
     have hsb := sum_bdI v6 v7.2
     have hq2 : shares.sum.tdiv (gcdI shares : Int) = shares.sum / (gcdI shares : Int) := Int.tdiv_eq_ediv_of_nonneg hsb.1
     have hq3 : 0 ≤ shares.sum / (gcdI shares : Int) ∧ shares.sum / (gcdI shares : Int) ≤ shares.sum := ⟨Int.ediv_nonneg hsb.1 (by omega), Int.ediv_le_self _ hsb.1⟩
     (repeat (first | refine gO rfl ?_ | ((first | refine gR ?_ | (with_reducible refine wM ?_ ?_) | ((with_reducible refine xR ?_); refine uE 6 zM31 zP1FE zP1FP 44 rfl (by kernel_rfl) ?_)) <;> ((try with_reducible intro K1 hK1); simp only [go_sem, ↓reduceIte, reduceCtorEq, nA, nB, nC, nD, nE, nF, hH0, e3, e4] <;> and_intros <;> first | (apply hK1; clear hK1 K1) | (intros; first | omega | decide | (simp_all <;> omega)) | skip))))
     refine awp_cond (t := _) rfl (fun h => by cases h) (fun _ => ?_)
     (repeat (first | refine gO rfl ?_ | ((first | refine gR ?_ | (with_reducible refine wM ?_ ?_) | ((with_reducible refine xR ?_); refine uE 6 zM31 zP1FE zP1FP 44 rfl (by kernel_rfl) ?_)) <;> ((try with_reducible intro K1 hK1); simp only [go_sem, ↓reduceIte, reduceCtorEq, nA, nB, nC, nD, nE, nF, hH0, e3, e4] <;> and_intros <;> first | (apply hK1; clear hK1 K1) | (intros; first | omega | decide | (simp_all <;> omega)) | skip))))
     refine awp_cond (t := _) rfl (fun _ => ?_) (fun h => by cases h)
     (repeat (first | refine gO rfl ?_ | ((first | refine gR ?_ | (with_reducible refine wM ?_ ?_) | ((with_reducible refine xR ?_); refine uE 6 zM31 zP1FE zP1FP 44 rfl (by kernel_rfl) ?_)) <;> ((try with_reducible intro K1 hK1); simp only [go_sem, ↓reduceIte, reduceCtorEq, nA, nB, nC, nD, nE, nF, hH0, hq2] <;> and_intros <;> first | (apply hK1; clear hK1 K1) | (intros; first | omega | decide | (simp_all <;> omega)) | skip))))
     refine hdiv.mono ?_; rintro _ hz ⟨rfl, hh⟩; apply hK1; clear hK1 K1; rw [hh]; clear hh hz
     (repeat (first | refine gO rfl ?_ | ((first | refine gR ?_ | (with_reducible refine wM ?_ ?_) | ((with_reducible refine xR ?_); refine uE 6 zM31 zP1FE zP1FP 44 rfl (by kernel_rfl) ?_)) <;> ((try with_reducible intro K1 hK1); simp only [go_sem, ↓reduceIte, reduceCtorEq, nA, nB, nC, nD, nE, nF, hH0, hq2] <;> and_intros <;> first | (apply hK1; clear hK1 K1) | (intros; first | omega | decide | (simp_all <;> omega)) | skip))))
     rw [hef, if_neg h3, if_pos h4]; rfl
    ·have e4 : (kind == 4) = false := by simp; exact h4
     (repeat (first | refine gO rfl ?_ | ((first | refine gR ?_ | (with_reducible refine wM ?_ ?_) | ((with_reducible refine xR ?_); refine uE 6 zM31 zP1FE zP1FP 44 rfl (by kernel_rfl) ?_)) <;> ((try with_reducible intro K1 hK1); simp only [go_sem, ↓reduceIte, reduceCtorEq, nA, nB, nC, nD, nE, nF, hH0, e3, e4] <;> and_intros <;> first | (apply hK1; clear hK1 K1) | (intros; first | omega | decide | (simp_all <;> omega)) | skip))))
     refine awp_cond (t := _) rfl (fun h => by cases h) (fun _ => ?_)
     (repeat (first | refine gO rfl ?_ | ((first | refine gR ?_ | (with_reducible refine wM ?_ ?_) | ((with_reducible refine xR ?_); refine uE 6 zM31 zP1FE zP1FP 44 rfl (by kernel_rfl) ?_)) <;> ((try with_reducible intro K1 hK1); simp only [go_sem, ↓reduceIte, reduceCtorEq, nA, nB, nC, nD, nE, nF, hH0, e3, e4] <;> and_intros <;> first | (apply hK1; clear hK1 K1) | (intros; first | omega | decide | (simp_all <;> omega)) | skip))))
     refine awp_cond (t := _) rfl (fun h => by cases h) (fun _ => ?_)
     (repeat (first | refine gO rfl ?_ | ((first | refine gR ?_ | (with_reducible refine wM ?_ ?_) | ((with_reducible refine xR ?_); refine uE 6 zM31 zP1FE zP1FP 44 rfl (by kernel_rfl) ?_)) <;> ((try with_reducible intro K1 hK1); simp only [go_sem, ↓reduceIte, reduceCtorEq, nA, nB, nC, nD, nE, nF] <;> and_intros <;> first | (apply hK1; clear hK1 K1) | (intros; first | omega | decide | (simp_all <;> omega)) | skip))))
     rw [hef, if_neg h3, if_neg h4]; rfl
  ·rintro _ rfl
   generalize everyF kind kids.length shares = ev at *
   rcases hb : (p.tmod ev == 0) with _ | _
   ·(repeat (first | refine gO rfl ?_ | ((first | refine gR ?_ | (with_reducible refine wM ?_ ?_) | ((with_reducible refine xR ?_); refine uE 6 zM31 zP1FE zP1FP 44 rfl (by kernel_rfl) ?_)) <;> ((try with_reducible intro K1 hK1); simp only [go_sem, ↓reduceIte, reduceCtorEq, nA, nB, nC, nD, nE, nF, hH0, w1, w2, w3, w4, w5, hb] <;> and_intros <;> first | (apply hK1; clear hK1 K1) | (intros; first | omega | decide | (simp_all <;> omega)) | skip))))
    refine ⟨.v (.bool false), rfl, True.intro, hK1 _ ?_⟩; clear hK1 K1
    (repeat (first | refine gO rfl ?_ | ((first | refine gR ?_ | (with_reducible refine wM ?_ ?_) | ((with_reducible refine xR ?_); refine uE 6 zM31 zP1FE zP1FP 44 rfl (by kernel_rfl) ?_)) <;> ((try with_reducible intro K1 hK1); simp only [go_sem, ↓reduceIte, reduceCtorEq, nA, nB, nC, nD, nE, nF, hH0, w1, w2, w3, w4, w5, hb] <;> and_intros <;> first | (apply hK1; clear hK1 K1) | (intros; first | omega | decide | (simp_all <;> omega)) | skip))))
    simp only [Tryz.results142, go_sem, ↓reduceIte, reduceCtorEq, nA, nB, nC, nD, nE, nF]
    exact ⟨_, _, Weak.refl _, Hp.le.refl _, rfl, rfl⟩
   ·(repeat (first | refine gO rfl ?_ | ((first | refine gR ?_ | (with_reducible refine wM ?_ ?_) | ((with_reducible refine xR ?_); refine uE 6 zM31 zP1FE zP1FP 44 rfl (by kernel_rfl) ?_)) <;> ((try with_reducible intro K1 hK1); simp only [go_sem, ↓reduceIte, reduceCtorEq, nA, nB, nC, nD, nE, nF, hH0, w1, w2, w3, w4, w5, hb] <;> and_intros <;> first | (apply hK1; clear hK1 K1) | (intros; first | omega | decide | (simp_all <;> omega)) | skip))))
    refine hcon.mono ?_; rintro _ hz ⟨rfl, hh⟩; refine ⟨rfl, hK1 _ ?_⟩; clear hK1 K1; rw [hh]; clear hh hz
    (repeat (first | refine gO rfl ?_ | ((first | refine gR ?_ | (with_reducible refine wM ?_ ?_) | ((with_reducible refine xR ?_); refine uE 6 zM31 zP1FE zP1FP 44 rfl (by kernel_rfl) ?_)) <;> ((try with_reducible intro K1 hK1); simp only [go_sem, ↓reduceIte, reduceCtorEq, nA, nB, nC, nD, nE, nF, hH0, w1, w2, w3, w4, w5, hb] <;> and_intros <;> first | (apply hK1; clear hK1 K1) | (intros; first | omega | decide | (simp_all <;> omega)) | skip))))
    simp only [Tryz.results142, go_sem, ↓reduceIte, reduceCtorEq, nA, nB, nC, nD, nE, nF]
    exact ⟨_, _, Weak.refl _, Hp.le.refl _, by simp, rfl⟩
def PassRel (d : Nat) (t : LT) (s : PS) (out : List (ByteArray × Int)) (s' : PS) (out' : List (ByteArray × Int)) : Prop :=
 (5000 < out.length → s' = s ∧ out' = out) ∧ (out.length ≤ 5000 → out.length + (passU d t s).2.length ≤ 5000 → s' = (passU d t s).1 ∧ out' = out ++ (passU d t s).2) ∧
 (out.length ≤ 5000 → 5000 < out.length + (passU d t s).2.length → out'.length = 5001 ∧ PSB d t s' 5001)
def RunR (d : Nat) (kids : List LT) (out : List (ByteArray × Int)) (acc : (List Int × List PS) × List (ByteArray × Int)) (cs : List Int) (ks : List PS) (out' : List (ByteArray × Int)) : Prop :=
 FOk d kids out'.length (cs, ks) ∧ out'.length ≤ 5001 ∧ (out.length + acc.2.length ≤ 5000 → (cs, ks) = acc.1 ∧ out' = out ++ acc.2) ∧ (5000 < out.length + acc.2.length → out'.length = 5001)
theorem set_getD {α : Type} (l : List α) (x : Nat) (d : α) : l.set x (l.getD x d) = l := by
 by_cases h : x < l.length
 ·rw [List.getD_eq_getElem?_getD, List.getElem?_eq_getElem h]; simp
 ·rw [List.set_eq_of_length_le (by omega)]
theorem RunR.step {d : Nat} {kids : List LT} {out : List (ByteArray × Int)} {acc : (List Int × List PS) × List (ByteArray × Int)} {cs : List Int} {ks : List PS} {out' : List (ByteArray × Int)} (hR : RunR d kids out acc cs ks out') {x : Nat} (hx : x < kids.length)
  (hv : VL d (kids.getD x default)) (hf : Fits d (kids.getD x default) (ks.getD x default)) {s'' : PS} {out'' : List (ByteArray × Int)} (hp : PassRel d (kids.getD x default) (ks.getD x default) out' s'' out'') :
  RunR d kids out (stepU (passU d) kids acc x) (if out.length + acc.2.length ≤ 5000 then cs.set x (cs.getD x 0 + 1) else cs) (ks.set x s'') out'' := by
 obtain ⟨h1, h2, h3, h4⟩ := hR
 obtain ⟨p1, p2, p3⟩ := hp
 obtain ⟨⟨f1, f2⟩, f3, f4⟩ := id h1
 have hpo := passU_ok d (kids.getD x default) (ks.getD x default) out'.length hv hf (by omega) (f4 x hx)
 by_cases hex : out.length + acc.2.length ≤ 5000
 ·rw [if_pos hex]
  obtain ⟨e1, e2⟩ := h3 hex
  have e3 : acc.1.1 = cs := by rw [← e1]
  have e4 : acc.1.2 = ks := by rw [← e1]
  have e5 : out'.length = out.length + acc.2.length := by rw [e2, List.length_append]
  have hst : (stepU (passU d) kids acc x).1 = (cs.set x (cs.getD x 0 + 1), ks.set x (passU d (kids.getD x default) (ks.getD x default)).1) := by simp only [stepU, e3, e4]
  have hs2 : (stepU (passU d) kids acc x).2 = acc.2 ++ (passU d (kids.getD x default) (ks.getD x default)).2 := by simp only [stepU, e4]
  by_cases hk : out'.length + (passU d (kids.getD x default) (ks.getD x default)).2.length ≤ 5000
  ·obtain ⟨rfl, rfl⟩ := p2 (by omega) hk
   have hh : FOk d kids out'.length acc.1 := by rw [← e1]; exact h1
   obtain ⟨s1, s2⟩ := stepU_ok (f := passU d) (a := acc) hh hx (by rw [e4]) hpo.1 (by rw [e4]; exact hpo.2.1)
   rw [hst] at s1
   refine ⟨by rw [List.length_append]; exact_mod_cast s1, by rw [List.length_append]; omega, fun _ => ⟨hst.symm, by rw [hs2, e2, List.append_assoc]⟩, fun h => ?_⟩
   rw [hs2, List.length_append] at h; omega
  ·obtain ⟨q1, q2⟩ := p3 (by omega) (by omega)
   have q1' : (out''.length : Int) = 5001 := by omega
   refine ⟨⟨⟨by simpa using f1, by simpa using f2⟩, fun y hy => ?_, fun j hj => ?_⟩, by omega, fun h => ?_, fun _ => q1⟩
   ·rw [q1']
    rcases mem_set_or hy with h | h
    ·have := f3 y h; omega
    ·have := f3 _ (getD_mem' cs x 0 (show x < cs.length from by have : cs.length = kids.length := f1; omega)); omega
   ·rw [q1']
    show PSB d (kids.getD j default) ((ks.set x s'').getD j default) 5001
    by_cases hxj : x = j
    ·subst hxj; rw [getD_setS _ _ _ _ (by have : ks.length = kids.length := f2; omega)]; exact q2
    ·rw [getD_setN _ _ _ _ _ hxj]; exact (f4 j hj).mono (by omega)
   ·rw [hs2, List.length_append] at h; omega
 ·rw [if_neg hex]
  have e5 := h4 (by omega)
  obtain ⟨rfl, rfl⟩ := p1 (by omega)
  rw [set_getD]
  have hs2 : acc.2.length ≤ (stepU (passU d) kids acc x).2.length := by simp [stepU]
  exact ⟨h1, h2, fun h => by omega, fun _ => e5⟩
def oEx : List AV := [.v (.int .i64 5000)]
def St2 (d : Nat) (t : LT) (kids : List LT) (a : AT) (p : Int) (h : Hp) (o k : Nat) (out : List (ByteArray × Int)) (acc : (List Int × List PS) × List (ByteArray × Int)) (h1 : Hp) (cs : List Int) (ks : List PS) (out' : List (ByteArray × Int)) : Prop :=
 RAt XP h1 (d + 1) t a (.mk p cs ks) ∧ OutAt h1 o k oEx out' ∧ FrP a o k h h1 ∧ RunR d kids out acc cs ks out'
def PRp (d : Nat) (t : LT) (a : AT) (s : PS) (h : Hp) (o k : Nat) (out : List (ByteArray × Int)) (r : AV) (h' : Hp) : Prop :=
 r = .tup [] ∧ ∃ s' out', RAt XP h' d t a s' ∧ OutAt h' o k oEx out' ∧ FrP a o k h h' ∧ PassRel d t s out s' out'
theorem RAt.counts {h : Hp} {d : Nat} {kind : Int} {item : ByteArray} {long many : Int} {kids : List LT} {shares : List Int} {a : AT} {p : Int} {cs cs' : List Int} {ks : List PS} (h4 : kind ≠ 4) (hl : cs'.length = cs.length)
  (hR : RAt XP h (d + 1) (.mk kind item long many kids shares) a (.mk p cs ks)) : RAt XP h (d + 1) (.mk kind item long many kids shares) a (.mk p cs' ks) := by
 cases a with
 | mk i c az =>
  obtain ⟨h1, h2, ⟨l1, l2, l3, l4⟩, h5⟩ := hR
  have e : XP.cf kind cs' = XP.cf kind cs := by simp only [XP, if_neg h4, hl]
  exact ⟨h1, by rw [e]; exact h2, ⟨by rw [e]; exact l1, by omega, l3, l4⟩, h5⟩
theorem St2.next {d : Nat} {kind : Int} {item : ByteArray} {long many : Int} {kids : List LT} {shares : List Int} {i c : Nat} {az : List AT} {p : Int} {h : Hp} {o k : Nat} {out : List (ByteArray × Int)} {acc : (List Int × List PS) × List (ByteArray × Int)} {h1 : Hp} {cs : List Int} {ks : List PS} {out' : List (ByteArray × Int)}
  (hs : St2 d (.mk kind item long many kids shares) kids (.mk i c az) p h o k out acc h1 cs ks out') (h4 : kind ≠ 4) (hS : Sep (d + 1) (.mk i c az)) (ho : o ∉ idsT (.mk i c az)) {x : Nat} (hx : x < kids.length) (hv : VL d (kids.getD x default))
  {r : AV} {h3 : Hp} (hp : PRp d (kids.getD x default) (az.getD x default) (ks.getD x default) h1 o k out' r h3) : ∃ cs' ks' out'', St2 d (.mk kind item long many kids shares) kids (.mk i c az) p h o k out (stepU (passU d) kids acc x) h3 cs' ks' out'' := by
 obtain ⟨g1, g2, g3, g4⟩ := hs
 obtain ⟨rfl, s', out'', r1, r2, r3, r4⟩ := hp
 obtain ⟨_, _, ⟨l1, l2, l3, l4⟩, hk⟩ := id g1
 have hkt := g1.tokNe g2.2
 refine ⟨if out.length + acc.2.length ≤ 5000 then cs.set x (cs.getD x 0 + 1) else cs, ks.set x s', out'', (g1.kid hS ho hkt hx r1 r3).counts h4 (by split <;> simp), r2, g3.trans (r3.kid (by omega)), g4.step hx hv (hk x hx).fits r4⟩
theorem St2.ask {d : Nat} {kind : Int} {item : ByteArray} {long many : Int} {kids : List LT} {shares : List Int} {i c : Nat} {az : List AT} {p : Int} {h : Hp} {o k : Nat} {out : List (ByteArray × Int)} {acc : (List Int × List PS) × List (ByteArray × Int)} {h1 : Hp} {cs : List Int} {ks : List PS} {out' : List (ByteArray × Int)}
  (hs : St2 d (.mk kind item long many kids shares) kids (.mk i c az) p h o k out acc h1 cs ks out') (hS : Sep (d + 1) (.mk i c az)) (ho : o ∉ idsT (.mk i c az)) {x : Nat} (hx : x < kids.length) :
  RAt XP h1 d (kids.getD x default) (az.getD x default) (ks.getD x default) ∧ Sep d (az.getD x default) ∧ PSB d (kids.getD x default) (ks.getD x default) out'.length ∧ OutAt h1 o k oEx out' ∧ o ∉ idsT (az.getD x default) ∧ out'.length ≤ 5001 := by
 obtain ⟨g1, g2, g3, g4⟩ := hs
 obtain ⟨_, _, ⟨l1, l2, l3, l4⟩, hk⟩ := id g1
 exact ⟨hk x hx, (hS x (by omega)).1.2.2, g4.1.2.2 x hx, g2, fun hh => ho (idsT_kid (by omega) hh), g4.2.1⟩
theorem St2.cells {d : Nat} {kind : Int} {item : ByteArray} {long many : Int} {kids : List LT} {shares : List Int} {i c : Nat} {az : List AT} {p : Int} {h : Hp} {o k : Nat} {out : List (ByteArray × Int)} {acc : (List Int × List PS) × List (ByteArray × Int)} {h1 : Hp} {cs : List Int} {ks : List PS} {out' : List (ByteArray × Int)}
  (hs : St2 d (.mk kind item long many kids shares) kids (.mk i c az) p h o k out acc h1 cs ks out') (hne : kids ≠ []) : (∃ tk, h1.H i = some (.cells [.v (.int .i64 kind), .v (.string item), .v (.int .i64 long), .v (.int .i64 many), .row 6 (kids.map encL) none, .row 1 (shares.map encI) none, .row 1 (az.map fun a => [.ptr a.id 0]) tk, .v (.int .i64 p), .arr 1 c kids.length, .v (.int .i64 shares.sum)])) ∧ az.length = kids.length := by
 obtain ⟨⟨⟨K, h1, hK⟩, _, ⟨l1, l2, l3, l4⟩, _⟩, _⟩ := hs
 refine ⟨?_, l3⟩
 rcases hK with ⟨rfl, _⟩ | ⟨tk, rfl⟩
 ·simp at l3; exact absurd (List.eq_nil_of_length_eq_zero l3.symm) hne
 ·exact ⟨tk, h1⟩
abbrev zP1GE : List Nat := [0, 1, 2, 3, 4, 5, 6, 7, 8, 9, 10, 11, 12, 13, 14, 15, 16]
abbrev zP1GP : List (Nat × List Nat × List Nat) := [(17, [], [18, 19]), (20, [], [])]
abbrev zP1HE : List Nat := [0, 1, 2, 3, 4, 5, 6, 7, 8, 9, 10, 11, 12, 13, 14, 15, 16]
abbrev zP1HP : List (Nat × List Nat × List Nat) := [(17, [], [])]
attribute [go_sem] zP1GE zP1GP zP1HE zP1HP
def PassJp (d : Nat) (kind : Int) (item : ByteArray) (long many : Int) (kids : List LT) (shares : List Int) (i c0 : Nat) (az : List AT) (p : Int) (cs : List Int) (ks : List PS) (h : Hp) (o k : Nat) (out : List (ByteArray × Int)) (s : St) : Prop :=
 ∃ h1 cs' ks' out', St2 d (.mk kind item long many kids shares) kids (.mk i c0 az) p h o k out ((idxL kind p many kids.length (nextF shares p cs)).foldl (stepU (passU d) kids) ((cs, ks), if kind = 1 then [(item, long)] else [])) h1 cs' ks' out' ∧
  s = ⟨((.ptr i 0) :: (.ptr o 0) :: (jnk 114 [])), [], h1⟩
theorem g_passP : ∀ (d : Nat) (t : LT) (a : AT) (s : PS) (h : Hp) (o k : Nat) (out : List (ByteArray × Int)), VL d t → RAt XP h d t a s → Sep d a → PSB d t s out.length → OutAt h o k oEx out → o ∉ idsT a → out.length ≤ 5001 →
  ACalls Tryz.prog 76 [.ptr a.id 0, .ptr o 0] h (PRp d t a s h o k out)
 | 0, _, _, _, _, _, _, _, hv, _, _, _, _, _, _ => hv.elim
 | d + 1, .mk kind item long many kids shares, .mk i c0 az, .mk p cs ks, h, o, k, out, hv, hR, hS, hB, hO, ho, hout => by
  have hfit := hR.fits
  have hkt := hR.tokNe hO.2
  obtain ⟨v1, v2, v3, v4, v5, v6, v7, v8⟩ := id hv
  obtain ⟨⟨K, hH, hK⟩, hT, ⟨l1, l2, l3, l4⟩, hkids⟩ := id hR
  have hH0 : h.H i = some (.cells [.v (.int .i64 kind), .v (.string item), .v (.int .i64 long), .v (.int .i64 many), .row 6 (kids.map encL) none, .row 1 (shares.map encI) none, K, .v (.int .i64 p), .arr 1 c0 kids.length, .v (.int .i64 shares.sum)]) := hH
  have hO1 : h.H o = some (.cells [.row 2 (out.map encStep) (some k), .v (.int .i64 5000)]) := hO.1
  have hO2 : h.T k = some (.tail out.length) := hO.2
  have hfr0 : FrP (.mk i c0 az) o k h h := ⟨fun _ _ _ => rfl, fun _ _ _ => rfl⟩
  show ACalls Tryz.prog 76 [.ptr i 0, .ptr o 0] h _
  refine gE Tryz.func76 rfl (by kernel_rfl) 114 rfl fun c => ?_
  (repeat (first | refine gO rfl ?_ | ((first | ((with_reducible refine yS ?_); refine awp_keep zK31 100 (kS ?_)) | ((with_reducible refine yR ?_); refine awp_keep zK31 100 (kR ?_)) | refine gR ?_ | (with_reducible refine wM ?_ ?_) | ((with_reducible refine xR ?_); refine awp_keep zK31 100 (uE 7 zM31 zP1GE zP1GP 116 rfl (by kernel_rfl) ?_)) | ((with_reducible refine xR ?_); refine awp_keep zK31 100 (uE 15 zM31 zP1HE zP1HP 116 rfl (by kernel_rfl) ?_))) <;> ((try with_reducible intro K1 hK1); simp only [go_sem, ↓reduceIte, reduceCtorEq, nA, nB, nC, nD, nE, nF, nG, nH, nI] <;> and_intros <;> first | (apply hK1; clear hK1 K1) | (intros; first | omega | decide | (simp_all <;> omega)) | skip))))
  refine (g_full28 o k h out hO).mono ?_; rintro _ hz ⟨rfl, hh⟩; apply hK1; clear hK1 K1; rw [hh]; clear hh hz
  (repeat (first | refine gO rfl ?_ | ((first | ((with_reducible refine yS ?_); refine awp_keep zK31 100 (kS ?_)) | ((with_reducible refine yR ?_); refine awp_keep zK31 100 (kR ?_)) | refine gR ?_ | (with_reducible refine wM ?_ ?_) | ((with_reducible refine xR ?_); refine awp_keep zK31 100 (uE 7 zM31 zP1GE zP1GP 116 rfl (by kernel_rfl) ?_)) | ((with_reducible refine xR ?_); refine awp_keep zK31 100 (uE 15 zM31 zP1HE zP1HP 116 rfl (by kernel_rfl) ?_))) <;> ((try with_reducible intro K1 hK1); simp only [go_sem, ↓reduceIte, reduceCtorEq, nA, nB, nC, nD, nE, nF, nG, nH, nI] <;> and_intros <;> first | (apply hK1; clear hK1 K1) | (intros; first | omega | decide | (simp_all <;> omega)) | skip))))
  refine awp_cond (t := _) rfl (fun hf => ?_) (fun hf => ?_)
  ·(repeat (first | refine gO rfl ?_ | ((first | ((with_reducible refine yS ?_); refine awp_keep zK31 100 (kS ?_)) | ((with_reducible refine yR ?_); refine awp_keep zK31 100 (kR ?_)) | refine gR ?_ | (with_reducible refine wM ?_ ?_) | ((with_reducible refine xR ?_); refine awp_keep zK31 100 (uE 7 zM31 zP1GE zP1GP 116 rfl (by kernel_rfl) ?_)) | ((with_reducible refine xR ?_); refine awp_keep zK31 100 (uE 15 zM31 zP1HE zP1HP 116 rfl (by kernel_rfl) ?_))) <;> ((try with_reducible intro K1 hK1); simp only [go_sem, ↓reduceIte, reduceCtorEq, nA, nB, nC, nD, nE, nF, nG, nH, nI] <;> and_intros <;> first | (apply hK1; clear hK1 K1) | (intros; first | omega | decide | (simp_all <;> omega)) | skip))))
   simp only [Tryz.results76, go_sem, ↓reduceIte, reduceCtorEq, nA, nB, nC, nD, nE, nF]
   simp only [decide_eq_true_eq] at hf
   exact ⟨_, _, Weak.refl _, Hp.le.refl _, rfl, _, out, hR, hO, hfr0, fun _ => ⟨rfl, rfl⟩, fun h => by omega, fun h => by omega⟩
  simp only [decide_eq_false_iff_not] at hf
  have hpn : 0 ≤ p ∧ p ≤ 5000 := by have := hB.1; omega
  have hcn : ∀ x ∈ cs, 0 ≤ x ∧ x ≤ 1000000 := fun x hx => by have := hB.2.1 x hx; omega
  (repeat (first | refine gQ rfl ?_ | ((first | ((with_reducible refine yS ?_); refine awp_keep zK31 100 (kS ?_)) | ((with_reducible refine yR ?_); refine awp_keep zK31 100 (kR ?_)) | refine gR ?_ | (with_reducible refine wM ?_ ?_) | ((with_reducible refine xR ?_); refine awp_keep zK31 100 (uE 7 zM31 zP1GE zP1GP 116 rfl (by kernel_rfl) ?_)) | ((with_reducible refine xR ?_); refine awp_keep zK31 100 (uE 15 zM31 zP1HE zP1HP 116 rfl (by kernel_rfl) ?_))) <;> ((try with_reducible intro K1 hK1); simp only [go_sem, ↓reduceIte, reduceCtorEq, nA, nB, nC, nD, nE, nF, hH0, nG, nH, nI] <;> and_intros <;> first | (apply hK1; clear hK1 K1) | (intros; first | omega | decide | (simp_all <;> omega)) | skip))))
  refine awp_seq ?_
  refine awp_join (rl false [0, 2, 114]) 0 (fun s => PassJp d kind item long many kids shares i c0 az p cs ks h o k out s) ?_ ?_
  ·rcases (show kind = 1 ∨ kind = 2 ∨ kind = 3 ∨ kind = 4 ∨ kind = 5 by omega) with rfl | rfl | rfl | rfl | rfl
   ·(repeat (first | refine gO rfl ?_ | ((first | ((with_reducible refine yS ?_); refine awp_keep zK31 100 (kS ?_)) | ((with_reducible refine yR ?_); refine awp_keep zK31 100 (kR ?_)) | refine gR ?_ | (with_reducible refine wM ?_ ?_) | ((with_reducible refine xR ?_); refine awp_keep zK31 100 (uE 7 zM31 zP1GE zP1GP 116 rfl (by kernel_rfl) ?_)) | ((with_reducible refine xR ?_); refine awp_keep zK31 100 (uE 15 zM31 zP1HE zP1HP 116 rfl (by kernel_rfl) ?_))) <;> ((try with_reducible intro K1 hK1); simp only [go_sem, ↓reduceIte, reduceCtorEq, nA, nB, nC, nD, nE, nF, hH0, nG, nH, nI] <;> and_intros <;> first | (apply hK1; clear hK1 K1) | (intros; first | omega | decide | (simp_all <;> omega)) | skip))))
    refine awp_cond (t := _) rfl (fun _ => ?_) (fun h1 => by cases h1)
    (repeat (first | refine gO rfl ?_ | ((first | ((with_reducible refine yS ?_); refine awp_keep zK31 100 (kS ?_)) | ((with_reducible refine yR ?_); refine awp_keep zK31 100 (kR ?_)) | refine gR ?_ | (with_reducible refine wM ?_ ?_) | ((with_reducible refine xR ?_); refine awp_keep zK31 100 (uE 7 zM31 zP1GE zP1GP 116 rfl (by kernel_rfl) ?_)) | ((with_reducible refine xR ?_); refine awp_keep zK31 100 (uE 15 zM31 zP1HE zP1HP 116 rfl (by kernel_rfl) ?_))) <;> ((try with_reducible intro K1 hK1); simp only [go_sem, ↓reduceIte, reduceCtorEq, nA, nB, nC, nD, nE, nF, hH0, hO1, hO2, nG, nH, nI] <;> and_intros <;> first | (apply hK1; clear hK1 K1) | (intros; first | omega | decide | (simp_all <;> omega)) | skip))))
    have hix : idxL 1 p many kids.length (nextF shares p cs) = [] := by simp [idxL]
    refine ⟨{ H := upd h.H o (some (.cells [.row 2 (out.map encStep ++ [[.v (.string item), .v (.int .i64 long)]]) (some k), .v (.int .i64 5000)])), T := upd h.T k (some (.tail (out.length + 1))) }, cs, ks, out ++ [(item, long)], ⟨hR.frame (fun x hx => upd_other _ _ (fun e => by subst e; exact ho hx)) (fun x hx => upd_other _ _ (fun e => by subst e; exact hkt hx)), ⟨?_, ?_⟩, ⟨fun x _ hx => upd_other _ _ hx, fun x _ hx => upd_other _ _ hx⟩, ?_⟩, rfl⟩
    ·rw [show (out ++ [(item, long)]).map encStep = out.map encStep ++ [[.v (.string item), .v (.int .i64 long)]] by simp [encStep]]
     exact upd_same _ _ _
    ·rw [show (out ++ [(item, long)]).length = out.length + 1 by simp]
     exact upd_same _ _ _
    ·rw [hix]
     have e7 : (out ++ [(item, long)]).length = out.length + 1 := by simp
     refine ⟨⟨⟨l2, l4⟩, fun x hx => ?_, fun j hj => (hB.2.2 j hj).mono (by omega)⟩, by omega, fun _ => ⟨rfl, by simp⟩, fun h => ?_⟩
     ·have := hB.2.1 x hx; omega
     ·simp at h; omega
   ·have hs0 : St2 d (.mk 2 item long many kids shares) kids (.mk i c0 az) p h o k out ((cs, ks), []) h cs ks out := ⟨hR, hO, hfr0, ⟨⟨l2, l4⟩, hB.2.1, hB.2.2⟩, by omega, fun _ => ⟨rfl, by simp⟩, fun h => by simp only [List.length_nil] at h; omega⟩
    obtain ⟨⟨tk, hC0⟩, hz0⟩ := hs0.cells (v3 (by omega))
    have hKe := hH0.symm.trans hC0
    simp only [Option.some.injEq, AO.cells.injEq, List.cons.injEq, true_and, and_true] at hKe
    subst hKe
    (repeat (first | refine gO rfl ?_ | ((first | ((with_reducible refine yS ?_); refine awp_keep zK31 100 (kS ?_)) | ((with_reducible refine yR ?_); refine awp_keep zK31 100 (kR ?_)) | refine gR ?_ | (with_reducible refine wM ?_ ?_) | ((with_reducible refine xR ?_); refine awp_keep zK31 100 (uE 7 zM31 zP1GE zP1GP 116 rfl (by kernel_rfl) ?_)) | ((with_reducible refine xR ?_); refine awp_keep zK31 100 (uE 15 zM31 zP1HE zP1HP 116 rfl (by kernel_rfl) ?_))) <;> ((try with_reducible intro K1 hK1); simp only [go_sem, ↓reduceIte, reduceCtorEq, nA, nB, nC, nD, nE, nF, hH0, nG, nH, nI] <;> and_intros <;> first | (apply hK1; clear hK1 K1) | (intros; first | omega | decide | (simp_all <;> omega)) | skip))))
    refine awp_cond (t := _) rfl (fun h1 => by cases h1) (fun _ => ?_)
    (repeat (first | refine gO rfl ?_ | ((first | ((with_reducible refine yS ?_); refine awp_keep zK31 100 (kS ?_)) | ((with_reducible refine yR ?_); refine awp_keep zK31 100 (kR ?_)) | refine gR ?_ | (with_reducible refine wM ?_ ?_) | ((with_reducible refine xR ?_); refine awp_keep zK31 100 (uE 7 zM31 zP1GE zP1GP 116 rfl (by kernel_rfl) ?_)) | ((with_reducible refine xR ?_); refine awp_keep zK31 100 (uE 15 zM31 zP1HE zP1HP 116 rfl (by kernel_rfl) ?_))) <;> ((try with_reducible intro K1 hK1); simp only [go_sem, ↓reduceIte, reduceCtorEq, nA, nB, nC, nD, nE, nF, hH0, nG, nH, nI] <;> and_intros <;> first | (apply hK1; clear hK1 K1) | (intros; first | omega | decide | (simp_all <;> omega)) | skip))))
    refine awp_cond (t := _) rfl (fun _ => ?_) (fun h1 => by cases h1)
    (repeat (first | refine gO rfl ?_ | ((first | ((with_reducible refine yS ?_); refine awp_keep zK31 100 (kS ?_)) | ((with_reducible refine yR ?_); refine awp_keep zK31 100 (kR ?_)) | refine gR ?_ | (with_reducible refine wM ?_ ?_) | ((with_reducible refine xR ?_); refine awp_keep zK31 100 (uE 7 zM31 zP1GE zP1GP 116 rfl (by kernel_rfl) ?_)) | ((with_reducible refine xR ?_); refine awp_keep zK31 100 (uE 15 zM31 zP1HE zP1HP 116 rfl (by kernel_rfl) ?_))) <;> ((try with_reducible intro K1 hK1); simp only [go_sem, ↓reduceIte, reduceCtorEq, nA, nB, nC, nD, nE, nF, hH0, nG, nH, nI] <;> and_intros <;> first | (apply hK1; clear hK1 K1) | (intros; first | omega | decide | (simp_all <;> omega)) | skip))))
    have hix : idxL 2 p many kids.length (nextF shares p cs) = List.range kids.length := by simp [idxL]
    refine awp_loopC (rl false [0, 2, 55, 3, 56]) 0 (fun g s => ∃ (j : Nat) (h1 : Hp) (cs' : List Int) (ks' : List PS) (out' : List (ByteArray × Int)), g + j = kids.length ∧ St2 d (.mk 2 item long many kids shares) kids (.mk i c0 az) p h o k out ((List.range j).foldl (stepU (passU d) kids) ((cs, ks), [])) h1 cs' ks' out' ∧
     s = ⟨((.ptr i 0) :: (.ptr o 0) :: (jnk 55 ((.row 1 (az.map fun a => [.ptr a.id 0]) tk) :: (.v (.int .i64 kids.length)) :: (.v (.int .i64 j)) :: (jnk 56 [])))), [], h1⟩) kids.length ⟨0, h, cs, ks, out, by omega, hs0, by rw [← hz0]; rfl⟩ ?_
    rintro g _ ⟨j, h1, cs', ks', out', hj, hs, rfl⟩
    (repeat (first | refine gO rfl ?_ | ((first | ((with_reducible refine yS ?_); refine awp_keep zK31 100 (kS ?_)) | ((with_reducible refine yR ?_); refine awp_keep zK31 100 (kR ?_)) | refine gR ?_ | (with_reducible refine wM ?_ ?_) | ((with_reducible refine xR ?_); refine awp_keep zK31 100 (uE 7 zM31 zP1GE zP1GP 116 rfl (by kernel_rfl) ?_)) | ((with_reducible refine xR ?_); refine awp_keep zK31 100 (uE 15 zM31 zP1HE zP1HP 116 rfl (by kernel_rfl) ?_))) <;> ((try with_reducible intro K1 hK1); simp only [go_sem, ↓reduceIte, reduceCtorEq, nA, nB, nC, nD, nE, nF, nG, nH, nI] <;> and_intros <;> first | (apply hK1; clear hK1 K1) | (intros; first | omega | decide | (simp_all <;> omega)) | skip))))
    refine awp_cond (t := _) rfl (fun h2 => ?_) (fun h2 => ?_)
    ·simp only [decide_eq_true_eq] at h2
     have hx : j < kids.length := by omega
     have hgz : (az.map fun a : AT => [AV.ptr a.id 0]).getD j [] = [.ptr (az.getD j default).id 0] := getD_enc (fun a : AT => [AV.ptr a.id 0]) az j default (by omega)
     obtain ⟨a1, a2, a3, a4, a5, a6⟩ := hs.ask hS ho hx
     (repeat (first | refine gO rfl ?_ | ((first | ((with_reducible refine yS ?_); refine awp_keep zK31 100 (kS ?_)) | ((with_reducible refine yR ?_); refine awp_keep zK31 100 (kR ?_)) | refine gR ?_ | (with_reducible refine wM ?_ ?_) | ((with_reducible refine xR ?_); refine awp_keep zK31 100 (uE 7 zM31 zP1GE zP1GP 116 rfl (by kernel_rfl) ?_)) | ((with_reducible refine xR ?_); refine awp_keep zK31 100 (uE 15 zM31 zP1HE zP1HP 116 rfl (by kernel_rfl) ?_))) <;> ((try with_reducible intro K1 hK1); simp only [go_sem, ↓reduceIte, reduceCtorEq, nA, nB, nC, nD, nE, nF, Int.toNat_natCast, hgz, hz0, nG, nH, nI] <;> and_intros <;> first | (apply hK1; clear hK1 K1) | (intros; first | omega | decide | (simp_all <;> omega)) | skip))))
     refine (g_passP d _ _ _ h1 o k out' (v8 _ (getD_mem' kids j default hx)) a1 a2 a3 a4 a5 a6).mono ?_
     intro r h3 hres
     obtain ⟨cs2, ks2, out2, hs2⟩ := hs.next (by omega) hS ho hx (v8 _ (getD_mem' kids j default hx)) hres
     obtain ⟨rfl, _⟩ := hres
     refine hK1 _ ?_; clear hK1 K1
     (repeat (first | refine gO rfl ?_ | ((first | ((with_reducible refine yS ?_); refine awp_keep zK31 100 (kS ?_)) | ((with_reducible refine yR ?_); refine awp_keep zK31 100 (kR ?_)) | refine gR ?_ | (with_reducible refine wM ?_ ?_) | ((with_reducible refine xR ?_); refine awp_keep zK31 100 (uE 7 zM31 zP1GE zP1GP 116 rfl (by kernel_rfl) ?_)) | ((with_reducible refine xR ?_); refine awp_keep zK31 100 (uE 15 zM31 zP1HE zP1HP 116 rfl (by kernel_rfl) ?_))) <;> ((try with_reducible intro K1 hK1); simp only [go_sem, ↓reduceIte, reduceCtorEq, nA, nB, nC, nD, nE, nF, nG, nH, nI] <;> and_intros <;> first | (apply hK1; clear hK1 K1) | (intros; first | omega | decide | (simp_all <;> omega)) | skip))))
     exact ⟨g - 1, by omega, j + 1, h3, cs2, ks2, out2, by omega, by rw [List.range_succ, List.foldl_append]; exact hs2, rfl⟩
    ·simp only [decide_eq_false_iff_not] at h2
     have hjk : j = kids.length := by omega
     subst hjk
     (repeat (first | refine gO rfl ?_ | ((first | ((with_reducible refine yS ?_); refine awp_keep zK31 100 (kS ?_)) | ((with_reducible refine yR ?_); refine awp_keep zK31 100 (kR ?_)) | refine gR ?_ | (with_reducible refine wM ?_ ?_) | ((with_reducible refine xR ?_); refine awp_keep zK31 100 (uE 7 zM31 zP1GE zP1GP 116 rfl (by kernel_rfl) ?_)) | ((with_reducible refine xR ?_); refine awp_keep zK31 100 (uE 15 zM31 zP1HE zP1HP 116 rfl (by kernel_rfl) ?_))) <;> ((try with_reducible intro K1 hK1); simp only [go_sem, ↓reduceIte, reduceCtorEq, nA, nB, nC, nD, nE, nF, nG, nH, nI] <;> and_intros <;> first | (apply hK1; clear hK1 K1) | (intros; first | omega | decide | (simp_all <;> omega)) | skip))))
     exact ⟨h1, cs', ks', out', by rw [hix]; exact hs, rfl⟩
   ·have hs0 : St2 d (.mk 3 item long many kids shares) kids (.mk i c0 az) p h o k out ((cs, ks), []) h cs ks out := ⟨hR, hO, hfr0, ⟨⟨l2, l4⟩, hB.2.1, hB.2.2⟩, by omega, fun _ => ⟨rfl, by simp⟩, fun h => by simp only [List.length_nil] at h; omega⟩
    obtain ⟨⟨tk, hC0⟩, hz0⟩ := hs0.cells (v3 (by omega))
    have hKe := hH0.symm.trans hC0
    simp only [Option.some.injEq, AO.cells.injEq, List.cons.injEq, true_and, and_true] at hKe
    subst hKe
    (repeat (first | refine gO rfl ?_ | ((first | ((with_reducible refine yS ?_); refine awp_keep zK31 100 (kS ?_)) | ((with_reducible refine yR ?_); refine awp_keep zK31 100 (kR ?_)) | refine gR ?_ | (with_reducible refine wM ?_ ?_) | ((with_reducible refine xR ?_); refine awp_keep zK31 100 (uE 7 zM31 zP1GE zP1GP 116 rfl (by kernel_rfl) ?_)) | ((with_reducible refine xR ?_); refine awp_keep zK31 100 (uE 15 zM31 zP1HE zP1HP 116 rfl (by kernel_rfl) ?_))) <;> ((try with_reducible intro K1 hK1); simp only [go_sem, ↓reduceIte, reduceCtorEq, nA, nB, nC, nD, nE, nF, hH0, nG, nH, nI] <;> and_intros <;> first | (apply hK1; clear hK1 K1) | (intros; first | omega | decide | (simp_all <;> omega)) | skip))))
    refine awp_cond (t := _) rfl (fun h1 => by cases h1) (fun _ => ?_)
    (repeat (first | refine gO rfl ?_ | ((first | ((with_reducible refine yS ?_); refine awp_keep zK31 100 (kS ?_)) | ((with_reducible refine yR ?_); refine awp_keep zK31 100 (kR ?_)) | refine gR ?_ | (with_reducible refine wM ?_ ?_) | ((with_reducible refine xR ?_); refine awp_keep zK31 100 (uE 7 zM31 zP1GE zP1GP 116 rfl (by kernel_rfl) ?_)) | ((with_reducible refine xR ?_); refine awp_keep zK31 100 (uE 15 zM31 zP1HE zP1HP 116 rfl (by kernel_rfl) ?_))) <;> ((try with_reducible intro K1 hK1); simp only [go_sem, ↓reduceIte, reduceCtorEq, nA, nB, nC, nD, nE, nF, hH0, nG, nH, nI] <;> and_intros <;> first | (apply hK1; clear hK1 K1) | (intros; first | omega | decide | (simp_all <;> omega)) | skip))))
    refine awp_cond (t := _) rfl (fun h1 => by cases h1) (fun _ => ?_)
    (repeat (first | refine gO rfl ?_ | ((first | ((with_reducible refine yS ?_); refine awp_keep zK31 100 (kS ?_)) | ((with_reducible refine yR ?_); refine awp_keep zK31 100 (kR ?_)) | refine gR ?_ | (with_reducible refine wM ?_ ?_) | ((with_reducible refine xR ?_); refine awp_keep zK31 100 (uE 7 zM31 zP1GE zP1GP 116 rfl (by kernel_rfl) ?_)) | ((with_reducible refine xR ?_); refine awp_keep zK31 100 (uE 15 zM31 zP1HE zP1HP 116 rfl (by kernel_rfl) ?_))) <;> ((try with_reducible intro K1 hK1); simp only [go_sem, ↓reduceIte, reduceCtorEq, nA, nB, nC, nD, nE, nF, hH0, nG, nH, nI] <;> and_intros <;> first | (apply hK1; clear hK1 K1) | (intros; first | omega | decide | (simp_all <;> omega)) | skip))))
    refine awp_cond (t := _) rfl (fun _ => ?_) (fun h1 => by cases h1)
    have hnk : 0 < kids.length := List.length_pos_iff.2 (v3 (by omega))
    have htm := Int.tmod_lt_of_pos p (show (0 : Int) < kids.length by omega)
    have htn := Int.tmod_nonneg (kids.length : Int) hpn.1
    have hix : idxL 3 p many kids.length (nextF shares p cs) = [(p.tmod kids.length).toNat] := by simp [idxL]
    have hx : (p.tmod kids.length).toNat < kids.length := by omega
    have hgz : (az.map fun a : AT => [AV.ptr a.id 0]).getD (p.tmod kids.length).toNat [] = [.ptr (az.getD (p.tmod kids.length).toNat default).id 0] := getD_enc (fun a : AT => [AV.ptr a.id 0]) az _ default (by omega)
    obtain ⟨a1, a2, a3, a4, a5, a6⟩ := hs0.ask hS ho hx
    (repeat (first | refine gO rfl ?_ | ((first | ((with_reducible refine yS ?_); refine awp_keep zK31 100 (kS ?_)) | ((with_reducible refine yR ?_); refine awp_keep zK31 100 (kR ?_)) | refine gR ?_ | (with_reducible refine wM ?_ ?_) | ((with_reducible refine xR ?_); refine awp_keep zK31 100 (uE 7 zM31 zP1GE zP1GP 116 rfl (by kernel_rfl) ?_)) | ((with_reducible refine xR ?_); refine awp_keep zK31 100 (uE 15 zM31 zP1HE zP1HP 116 rfl (by kernel_rfl) ?_))) <;> ((try with_reducible intro K1 hK1); simp only [go_sem, ↓reduceIte, reduceCtorEq, nA, nB, nC, nD, nE, nF, hH0, hz0, hgz, nG, nH, nI] <;> and_intros <;> first | (apply hK1; clear hK1 K1) | (intros; first | omega | decide | (simp_all <;> omega)) | skip))))
    refine (g_passP d _ _ _ h o k out (v8 _ (getD_mem' kids _ default hx)) a1 a2 a3 a4 a5 a6).mono ?_
    intro r h3 hres
    obtain ⟨cs2, ks2, out2, hs2⟩ := hs0.next (by omega) hS ho hx (v8 _ (getD_mem' kids _ default hx)) hres
    obtain ⟨rfl, _⟩ := hres
    refine hK1 _ ?_; clear hK1 K1
    (repeat (first | refine gO rfl ?_ | ((first | ((with_reducible refine yS ?_); refine awp_keep zK31 100 (kS ?_)) | ((with_reducible refine yR ?_); refine awp_keep zK31 100 (kR ?_)) | refine gR ?_ | (with_reducible refine wM ?_ ?_) | ((with_reducible refine xR ?_); refine awp_keep zK31 100 (uE 7 zM31 zP1GE zP1GP 116 rfl (by kernel_rfl) ?_)) | ((with_reducible refine xR ?_); refine awp_keep zK31 100 (uE 15 zM31 zP1HE zP1HP 116 rfl (by kernel_rfl) ?_))) <;> ((try with_reducible intro K1 hK1); simp only [go_sem, ↓reduceIte, reduceCtorEq, nA, nB, nC, nD, nE, nF, nG, nH, nI] <;> and_intros <;> first | (apply hK1; clear hK1 K1) | (intros; first | omega | decide | (simp_all <;> omega)) | skip))))
    exact ⟨h3, cs2, ks2, out2, by rw [hix]; exact hs2, rfl⟩
   ·have hs0 : St2 d (.mk 4 item long many kids shares) kids (.mk i c0 az) p h o k out ((cs, ks), []) h cs ks out := ⟨hR, hO, hfr0, ⟨⟨l2, l4⟩, hB.2.1, hB.2.2⟩, by omega, fun _ => ⟨rfl, by simp⟩, fun h => by simp only [List.length_nil] at h; omega⟩
    obtain ⟨⟨tk, hC0⟩, hz0⟩ := hs0.cells (v3 (by omega))
    have hKe := hH0.symm.trans hC0
    simp only [Option.some.injEq, AO.cells.injEq, List.cons.injEq, true_and, and_true] at hKe
    subst hKe
    (repeat (first | refine gO rfl ?_ | ((first | ((with_reducible refine yS ?_); refine awp_keep zK31 100 (kS ?_)) | ((with_reducible refine yR ?_); refine awp_keep zK31 100 (kR ?_)) | refine gR ?_ | (with_reducible refine wM ?_ ?_) | ((with_reducible refine xR ?_); refine awp_keep zK31 100 (uE 7 zM31 zP1GE zP1GP 116 rfl (by kernel_rfl) ?_)) | ((with_reducible refine xR ?_); refine awp_keep zK31 100 (uE 15 zM31 zP1HE zP1HP 116 rfl (by kernel_rfl) ?_))) <;> ((try with_reducible intro K1 hK1); simp only [go_sem, ↓reduceIte, reduceCtorEq, nA, nB, nC, nD, nE, nF, hH0, nG, nH, nI] <;> and_intros <;> first | (apply hK1; clear hK1 K1) | (intros; first | omega | decide | (simp_all <;> omega)) | skip))))
    refine awp_cond (t := _) rfl (fun h1 => by cases h1) (fun _ => ?_)
    (repeat (first | refine gO rfl ?_ | ((first | ((with_reducible refine yS ?_); refine awp_keep zK31 100 (kS ?_)) | ((with_reducible refine yR ?_); refine awp_keep zK31 100 (kR ?_)) | refine gR ?_ | (with_reducible refine wM ?_ ?_) | ((with_reducible refine xR ?_); refine awp_keep zK31 100 (uE 7 zM31 zP1GE zP1GP 116 rfl (by kernel_rfl) ?_)) | ((with_reducible refine xR ?_); refine awp_keep zK31 100 (uE 15 zM31 zP1HE zP1HP 116 rfl (by kernel_rfl) ?_))) <;> ((try with_reducible intro K1 hK1); simp only [go_sem, ↓reduceIte, reduceCtorEq, nA, nB, nC, nD, nE, nF, hH0, nG, nH, nI] <;> and_intros <;> first | (apply hK1; clear hK1 K1) | (intros; first | omega | decide | (simp_all <;> omega)) | skip))))
    refine awp_cond (t := _) rfl (fun h1 => by cases h1) (fun _ => ?_)
    (repeat (first | refine gO rfl ?_ | ((first | ((with_reducible refine yS ?_); refine awp_keep zK31 100 (kS ?_)) | ((with_reducible refine yR ?_); refine awp_keep zK31 100 (kR ?_)) | refine gR ?_ | (with_reducible refine wM ?_ ?_) | ((with_reducible refine xR ?_); refine awp_keep zK31 100 (uE 7 zM31 zP1GE zP1GP 116 rfl (by kernel_rfl) ?_)) | ((with_reducible refine xR ?_); refine awp_keep zK31 100 (uE 15 zM31 zP1HE zP1HP 116 rfl (by kernel_rfl) ?_))) <;> ((try with_reducible intro K1 hK1); simp only [go_sem, ↓reduceIte, reduceCtorEq, nA, nB, nC, nD, nE, nF, hH0, nG, nH, nI] <;> and_intros <;> first | (apply hK1; clear hK1 K1) | (intros; first | omega | decide | (simp_all <;> omega)) | skip))))
    refine awp_cond (t := _) rfl (fun h1 => by cases h1) (fun _ => ?_)
    (repeat (first | refine gO rfl ?_ | ((first | ((with_reducible refine yS ?_); refine awp_keep zK31 100 (kS ?_)) | ((with_reducible refine yR ?_); refine awp_keep zK31 100 (kR ?_)) | refine gR ?_ | (with_reducible refine wM ?_ ?_) | ((with_reducible refine xR ?_); refine awp_keep zK31 100 (uE 7 zM31 zP1GE zP1GP 116 rfl (by kernel_rfl) ?_)) | ((with_reducible refine xR ?_); refine awp_keep zK31 100 (uE 15 zM31 zP1HE zP1HP 116 rfl (by kernel_rfl) ?_))) <;> ((try with_reducible intro K1 hK1); simp only [go_sem, ↓reduceIte, reduceCtorEq, nA, nB, nC, nD, nE, nF, hH0, nG, nH, nI] <;> and_intros <;> first | (apply hK1; clear hK1 K1) | (intros; first | omega | decide | (simp_all <;> omega)) | skip))))
    refine awp_cond (t := _) rfl (fun _ => ?_) (fun h1 => by cases h1)
    have hsl := v5 rfl
    have hnk : 0 < kids.length := List.length_pos_iff.2 (v3 (by omega))
    have hx : nextF shares p cs < kids.length := by rw [← hsl]; exact bestTo_lt _ _ (by omega)
    have hix : idxL 4 p many kids.length (nextF shares p cs) = [nextF shares p cs] := by simp [idxL]
    have hT0 : h.T c0 = some (.cont 1 (cs.map encI)) := hT
    have hH4 := hH0
    rw [← hsl] at hH4
    (repeat (first | refine gO rfl ?_ | ((first | ((with_reducible refine yS ?_); refine awp_keep zK31 100 (kS ?_)) | ((with_reducible refine yR ?_); refine awp_keep zK31 100 (kR ?_)) | refine gR ?_ | (with_reducible refine wM ?_ ?_) | ((with_reducible refine xR ?_); refine awp_keep zK31 100 (uE 7 zM31 zP1GE zP1GP 116 rfl (by kernel_rfl) ?_)) | ((with_reducible refine xR ?_); refine awp_keep zK31 100 (uE 15 zM31 zP1HE zP1HP 116 rfl (by kernel_rfl) ?_))) <;> ((try with_reducible intro K1 hK1); simp only [go_sem, ↓reduceIte, reduceCtorEq, nA, nB, nC, nD, nE, nF, nG, nH, nI] <;> and_intros <;> first | (apply hK1; clear hK1 K1) | (intros; first | omega | decide | (simp_all <;> omega)) | skip))))
    refine (g_behind45 4 item long many (.row 6 (kids.map encL) none) shares (.row 1 (az.map fun a => [.ptr a.id 0]) tk) p i c0 cs h hH4 hT0 (by omega) (by omega) v6 (by omega) hcn).mono ?_; rintro _ hz ⟨rfl, hh⟩; apply hK1; clear hK1 K1; rw [hh]; clear hh hz
    have hcl : cs.length = kids.length := l2
    have hgc : (cs.map encI).getD (nextF shares p cs) [] = encI (cs.getD (nextF shares p cs) 0) := getD_enc encI cs _ 0 (by omega)
    have hcb := hcn _ (getD_mem' cs (nextF shares p cs) 0 (by omega))
    have hgz : (az.map fun a : AT => [AV.ptr a.id 0]).getD (nextF shares p cs) [] = [.ptr (az.getD (nextF shares p cs) default).id 0] := getD_enc (fun a : AT => [AV.ptr a.id 0]) az _ default (by omega)
    generalize hxe : nextF shares p cs = x at *
    (repeat (first | refine gO rfl ?_ | ((first | ((with_reducible refine yS ?_); refine awp_keep zK31 100 (kS ?_)) | ((with_reducible refine yR ?_); refine awp_keep zK31 100 (kR ?_)) | refine gR ?_ | (with_reducible refine wM ?_ ?_) | ((with_reducible refine xR ?_); refine awp_keep zK31 100 (uE 7 zM31 zP1GE zP1GP 116 rfl (by kernel_rfl) ?_)) | ((with_reducible refine xR ?_); refine awp_keep zK31 100 (uE 15 zM31 zP1HE zP1HP 116 rfl (by kernel_rfl) ?_))) <;> ((try with_reducible intro K1 hK1); simp only [go_sem, ↓reduceIte, reduceCtorEq, nA, nB, nC, nD, nE, nF, hH0, hT0, hcl, hgc, hz0, hgz, Int.toNat_natCast, encI, nG, nH, nI] <;> and_intros <;> first | (apply hK1; clear hK1 K1) | (intros; first | omega | decide | (simp_all <;> omega)) | skip))))
    have hck : c0 ≠ k := fun e => hkt (by rw [toksT_eq, e]; simp)
    have hR4 := hR.count hS (cs' := cs.set x (cs.getD x 0 + 1)) (by simp) (by simp [XP]; omega)
    rw [show XP.cf 4 (cs.set x (cs.getD x 0 + 1)) = cs.set x (cs.getD x 0 + 1) from rfl, List.map_set] at hR4
    have hO4 : OutAt { h with T := upd h.T c0 (some (.cont 1 ((cs.map encI).set x (encI (cs.getD x 0 + 1))))) } o k oEx out := ⟨hO.1, (upd_other _ _ (fun e => hck e.symm)).trans hO.2⟩
    have hk4 := hR4.2.2.2 x hx
    have hF4 : FrP (.mk i c0 az) o k h { h with T := upd h.T c0 (some (.cont 1 ((cs.map encI).set x (encI (cs.getD x 0 + 1))))) } := ⟨fun _ _ _ => rfl, fun y hy _ => upd_other _ _ (fun e => hy (by rw [toksT_eq, e]; simp))⟩
    refine (g_passP d _ _ _ _ o k out (v8 _ (getD_mem' kids x default hx)) hk4 (hS x (by omega)).1.2.2 (hB.2.2 x hx) hO4 (fun hh => ho (idsT_kid (by omega) hh)) hout).mono ?_
    rintro r h3 ⟨rfl, s', out2, r1, r2, r3, r4⟩
    refine hK1 _ ?_; clear hK1 K1
    (repeat (first | refine gO rfl ?_ | ((first | ((with_reducible refine yS ?_); refine awp_keep zK31 100 (kS ?_)) | ((with_reducible refine yR ?_); refine awp_keep zK31 100 (kR ?_)) | refine gR ?_ | (with_reducible refine wM ?_ ?_) | ((with_reducible refine xR ?_); refine awp_keep zK31 100 (uE 7 zM31 zP1GE zP1GP 116 rfl (by kernel_rfl) ?_)) | ((with_reducible refine xR ?_); refine awp_keep zK31 100 (uE 15 zM31 zP1HE zP1HP 116 rfl (by kernel_rfl) ?_))) <;> ((try with_reducible intro K1 hK1); simp only [go_sem, ↓reduceIte, reduceCtorEq, nA, nB, nC, nD, nE, nF, nG, nH, nI] <;> and_intros <;> first | (apply hK1; clear hK1 K1) | (intros; first | omega | decide | (simp_all <;> omega)) | skip))))
    have hst := hs0.2.2.2.step hx (v8 _ (getD_mem' kids x default hx)) hk4.fits r4
    rw [if_pos (by simp only [List.length_nil]; omega)] at hst
    exact ⟨h3, _, _, out2, ⟨hR4.kid hS ho (hR4.tokNe hO4.2) hx r1 r3, r2, hF4.trans (r3.kid (by omega)), by rw [hxe, hix]; exact hst⟩, rfl⟩
   ·have hs0 : St2 d (.mk 5 item long many kids shares) kids (.mk i c0 az) p h o k out ((cs, ks), []) h cs ks out := ⟨hR, hO, hfr0, ⟨⟨l2, l4⟩, hB.2.1, hB.2.2⟩, by omega, fun _ => ⟨rfl, by simp⟩, fun h => by simp only [List.length_nil] at h; omega⟩
    obtain ⟨⟨tk, hC0⟩, hz0⟩ := hs0.cells (v3 (by omega))
    have hKe := hH0.symm.trans hC0
    simp only [Option.some.injEq, AO.cells.injEq, List.cons.injEq, true_and, and_true] at hKe
    subst hKe
    (repeat (first | refine gO rfl ?_ | ((first | ((with_reducible refine yS ?_); refine awp_keep zK31 100 (kS ?_)) | ((with_reducible refine yR ?_); refine awp_keep zK31 100 (kR ?_)) | refine gR ?_ | (with_reducible refine wM ?_ ?_) | ((with_reducible refine xR ?_); refine awp_keep zK31 100 (uE 7 zM31 zP1GE zP1GP 116 rfl (by kernel_rfl) ?_)) | ((with_reducible refine xR ?_); refine awp_keep zK31 100 (uE 15 zM31 zP1HE zP1HP 116 rfl (by kernel_rfl) ?_))) <;> ((try with_reducible intro K1 hK1); simp only [go_sem, ↓reduceIte, reduceCtorEq, nA, nB, nC, nD, nE, nF, hH0, nG, nH, nI] <;> and_intros <;> first | (apply hK1; clear hK1 K1) | (intros; first | omega | decide | (simp_all <;> omega)) | skip))))
    refine awp_cond (t := _) rfl (fun h1 => by cases h1) (fun _ => ?_)
    (repeat (first | refine gO rfl ?_ | ((first | ((with_reducible refine yS ?_); refine awp_keep zK31 100 (kS ?_)) | ((with_reducible refine yR ?_); refine awp_keep zK31 100 (kR ?_)) | refine gR ?_ | (with_reducible refine wM ?_ ?_) | ((with_reducible refine xR ?_); refine awp_keep zK31 100 (uE 7 zM31 zP1GE zP1GP 116 rfl (by kernel_rfl) ?_)) | ((with_reducible refine xR ?_); refine awp_keep zK31 100 (uE 15 zM31 zP1HE zP1HP 116 rfl (by kernel_rfl) ?_))) <;> ((try with_reducible intro K1 hK1); simp only [go_sem, ↓reduceIte, reduceCtorEq, nA, nB, nC, nD, nE, nF, hH0, nG, nH, nI] <;> and_intros <;> first | (apply hK1; clear hK1 K1) | (intros; first | omega | decide | (simp_all <;> omega)) | skip))))
    refine awp_cond (t := _) rfl (fun h1 => by cases h1) (fun _ => ?_)
    (repeat (first | refine gO rfl ?_ | ((first | ((with_reducible refine yS ?_); refine awp_keep zK31 100 (kS ?_)) | ((with_reducible refine yR ?_); refine awp_keep zK31 100 (kR ?_)) | refine gR ?_ | (with_reducible refine wM ?_ ?_) | ((with_reducible refine xR ?_); refine awp_keep zK31 100 (uE 7 zM31 zP1GE zP1GP 116 rfl (by kernel_rfl) ?_)) | ((with_reducible refine xR ?_); refine awp_keep zK31 100 (uE 15 zM31 zP1HE zP1HP 116 rfl (by kernel_rfl) ?_))) <;> ((try with_reducible intro K1 hK1); simp only [go_sem, ↓reduceIte, reduceCtorEq, nA, nB, nC, nD, nE, nF, hH0, nG, nH, nI] <;> and_intros <;> first | (apply hK1; clear hK1 K1) | (intros; first | omega | decide | (simp_all <;> omega)) | skip))))
    refine awp_cond (t := _) rfl (fun h1 => by cases h1) (fun _ => ?_)
    (repeat (first | refine gO rfl ?_ | ((first | ((with_reducible refine yS ?_); refine awp_keep zK31 100 (kS ?_)) | ((with_reducible refine yR ?_); refine awp_keep zK31 100 (kR ?_)) | refine gR ?_ | (with_reducible refine wM ?_ ?_) | ((with_reducible refine xR ?_); refine awp_keep zK31 100 (uE 7 zM31 zP1GE zP1GP 116 rfl (by kernel_rfl) ?_)) | ((with_reducible refine xR ?_); refine awp_keep zK31 100 (uE 15 zM31 zP1HE zP1HP 116 rfl (by kernel_rfl) ?_))) <;> ((try with_reducible intro K1 hK1); simp only [go_sem, ↓reduceIte, reduceCtorEq, nA, nB, nC, nD, nE, nF, hH0, nG, nH, nI] <;> and_intros <;> first | (apply hK1; clear hK1 K1) | (intros; first | omega | decide | (simp_all <;> omega)) | skip))))
    refine awp_cond (t := _) rfl (fun h1 => by cases h1) (fun _ => ?_)
    have hm5 := v4 rfl
    have hx : 0 < kids.length := by omega
    (repeat (first | refine gO rfl ?_ | ((first | ((with_reducible refine yS ?_); refine awp_keep zK31 100 (kS ?_)) | ((with_reducible refine yR ?_); refine awp_keep zK31 100 (kR ?_)) | refine gR ?_ | (with_reducible refine wM ?_ ?_) | ((with_reducible refine xR ?_); refine awp_keep zK31 100 (uE 7 zM31 zP1GE zP1GP 116 rfl (by kernel_rfl) ?_)) | ((with_reducible refine xR ?_); refine awp_keep zK31 100 (uE 15 zM31 zP1HE zP1HP 116 rfl (by kernel_rfl) ?_))) <;> ((try with_reducible intro K1 hK1); simp only [go_sem, ↓reduceIte, reduceCtorEq, nA, nB, nC, nD, nE, nF, hH0, nG, nH, nI] <;> and_intros <;> first | (apply hK1; clear hK1 K1) | (intros; first | omega | decide | (simp_all <;> omega)) | skip))))
    have hix : idxL 5 p many kids.length (nextF shares p cs) = List.replicate many.toNat 0 := by simp [idxL]
    refine awp_loopC (rl false [0, 2, 16, 2, 96]) 0 (fun g s => ∃ (j : Nat) (h1 : Hp) (cs' : List Int) (ks' : List PS) (out' : List (ByteArray × Int)), g + j = many.toNat ∧ St2 d (.mk 5 item long many kids shares) kids (.mk i c0 az) p h o k out ((List.replicate j 0).foldl (stepU (passU d) kids) ((cs, ks), [])) h1 cs' ks' out' ∧
     s = ⟨((.ptr i 0) :: (.ptr o 0) :: (jnk 16 ((.v (.int .i64 many)) :: (.v (.int .i64 j)) :: (jnk 96 [])))), [], h1⟩) many.toNat ⟨0, h, cs, ks, out, by omega, hs0, rfl⟩ ?_
    rintro g _ ⟨j, h1, cs', ks', out', hj, hs, rfl⟩
    (repeat (first | refine gO rfl ?_ | ((first | ((with_reducible refine yS ?_); refine awp_keep zK31 100 (kS ?_)) | ((with_reducible refine yR ?_); refine awp_keep zK31 100 (kR ?_)) | refine gR ?_ | (with_reducible refine wM ?_ ?_) | ((with_reducible refine xR ?_); refine awp_keep zK31 100 (uE 7 zM31 zP1GE zP1GP 116 rfl (by kernel_rfl) ?_)) | ((with_reducible refine xR ?_); refine awp_keep zK31 100 (uE 15 zM31 zP1HE zP1HP 116 rfl (by kernel_rfl) ?_))) <;> ((try with_reducible intro K1 hK1); simp only [go_sem, ↓reduceIte, reduceCtorEq, nA, nB, nC, nD, nE, nF, nG, nH, nI] <;> and_intros <;> first | (apply hK1; clear hK1 K1) | (intros; first | omega | decide | (simp_all <;> omega)) | skip))))
    refine awp_cond (t := _) rfl (fun h2 => ?_) (fun h2 => ?_)
    ·simp only [decide_eq_true_eq] at h2
     have hgz : (az.map fun a : AT => [AV.ptr a.id 0]).getD 0 [] = [.ptr (az.getD 0 default).id 0] := getD_enc (fun a : AT => [AV.ptr a.id 0]) az 0 default (by omega)
     obtain ⟨a1, a2, a3, a4, a5, a6⟩ := hs.ask hS ho hx
     obtain ⟨⟨tk1, hC1⟩, _⟩ := hs.cells (v3 (by omega))
     have hgz0 : ∀ tz, (az.map fun a : AT => [AV.ptr a.id 0]).getD (Int.toNat 0) tz = (az.map fun a : AT => [AV.ptr a.id 0]).getD 0 tz := fun _ => rfl
     (repeat (first | refine gO rfl ?_ | ((first | ((with_reducible refine yS ?_); refine awp_keep zK31 100 (kS ?_)) | ((with_reducible refine yR ?_); refine awp_keep zK31 100 (kR ?_)) | refine gR ?_ | (with_reducible refine wM ?_ ?_) | ((with_reducible refine xR ?_); refine awp_keep zK31 100 (uE 7 zM31 zP1GE zP1GP 116 rfl (by kernel_rfl) ?_)) | ((with_reducible refine xR ?_); refine awp_keep zK31 100 (uE 15 zM31 zP1HE zP1HP 116 rfl (by kernel_rfl) ?_))) <;> ((try with_reducible intro K1 hK1); simp only [go_sem, ↓reduceIte, reduceCtorEq, nA, nB, nC, nD, nE, nF, hC1, hgz0, hgz, hz0, nG, nH, nI] <;> and_intros <;> first | (apply hK1; clear hK1 K1) | (intros; first | omega | decide | (simp_all <;> omega)) | skip))))
     refine (g_passP d _ _ _ h1 o k out' (v8 _ (getD_mem' kids 0 default hx)) a1 a2 a3 a4 a5 a6).mono ?_
     intro r h3 hres
     obtain ⟨cs2, ks2, out2, hs2⟩ := hs.next (by omega) hS ho hx (v8 _ (getD_mem' kids 0 default hx)) hres
     obtain ⟨rfl, _⟩ := hres
     refine hK1 _ ?_; clear hK1 K1
     (repeat (first | refine gO rfl ?_ | ((first | ((with_reducible refine yS ?_); refine awp_keep zK31 100 (kS ?_)) | ((with_reducible refine yR ?_); refine awp_keep zK31 100 (kR ?_)) | refine gR ?_ | (with_reducible refine wM ?_ ?_) | ((with_reducible refine xR ?_); refine awp_keep zK31 100 (uE 7 zM31 zP1GE zP1GP 116 rfl (by kernel_rfl) ?_)) | ((with_reducible refine xR ?_); refine awp_keep zK31 100 (uE 15 zM31 zP1HE zP1HP 116 rfl (by kernel_rfl) ?_))) <;> ((try with_reducible intro K1 hK1); simp only [go_sem, ↓reduceIte, reduceCtorEq, nA, nB, nC, nD, nE, nF, nG, nH, nI] <;> and_intros <;> first | (apply hK1; clear hK1 K1) | (intros; first | omega | decide | (simp_all <;> omega)) | skip))))
     exact ⟨g - 1, by omega, j + 1, h3, cs2, ks2, out2, by omega, by rw [List.replicate_succ', List.foldl_append]; exact hs2, rfl⟩
    ·simp only [decide_eq_false_iff_not] at h2
     have hjk : j = many.toNat := by omega
     subst hjk
     (repeat (first | refine gO rfl ?_ | ((first | ((with_reducible refine yS ?_); refine awp_keep zK31 100 (kS ?_)) | ((with_reducible refine yR ?_); refine awp_keep zK31 100 (kR ?_)) | refine gR ?_ | (with_reducible refine wM ?_ ?_) | ((with_reducible refine xR ?_); refine awp_keep zK31 100 (uE 7 zM31 zP1GE zP1GP 116 rfl (by kernel_rfl) ?_)) | ((with_reducible refine xR ?_); refine awp_keep zK31 100 (uE 15 zM31 zP1HE zP1HP 116 rfl (by kernel_rfl) ?_))) <;> ((try with_reducible intro K1 hK1); simp only [go_sem, ↓reduceIte, reduceCtorEq, nA, nB, nC, nD, nE, nF, nG, nH, nI] <;> and_intros <;> first | (apply hK1; clear hK1 K1) | (intros; first | omega | decide | (simp_all <;> omega)) | skip))))
     exact ⟨h1, cs', ks', out', by rw [hix]; exact hs, rfl⟩
  ·rintro _ ⟨h1, cs', ks', out', ⟨g1, g2, g3, g4⟩, rfl⟩
   obtain ⟨⟨K1', hH1, hK1'⟩, hT1, ⟨m1, m2, m3, m4⟩, hk1⟩ := id g1
   have hH10 : h1.H i = some (.cells [.v (.int .i64 kind), .v (.string item), .v (.int .i64 long), .v (.int .i64 many), .row 6 (kids.map encL) none, .row 1 (shares.map encI) none, K1', .v (.int .i64 p), .arr 1 c0 kids.length, .v (.int .i64 shares.sum)]) := hH1
   have hoi : o ≠ i := fun e => ho (by rw [idsT_eq, e]; simp)
   have hPS := passU_succ d kind item long many kids shares p cs ks
   have hpo := passU_ok (d + 1) _ _ out.length hv hfit (by omega) hB
   generalize (idxL kind p many kids.length (nextF shares p cs)).foldl (stepU (passU d) kids) ((cs, ks), if kind = 1 then [(item, long)] else []) = acc at *
   (repeat (first | refine gO rfl ?_ | ((first | ((with_reducible refine yS ?_); refine awp_keep zK31 100 (kS ?_)) | ((with_reducible refine yR ?_); refine awp_keep zK31 100 (kR ?_)) | refine gR ?_ | (with_reducible refine wM ?_ ?_) | ((with_reducible refine xR ?_); refine awp_keep zK31 100 (uE 7 zM31 zP1GE zP1GP 116 rfl (by kernel_rfl) ?_)) | ((with_reducible refine xR ?_); refine awp_keep zK31 100 (uE 15 zM31 zP1HE zP1HP 116 rfl (by kernel_rfl) ?_))) <;> ((try with_reducible intro K1 hK1); simp only [go_sem, ↓reduceIte, reduceCtorEq, nA, nB, nC, nD, nE, nF, hH10, nG, nH, nI] <;> and_intros <;> first | (apply hK1; clear hK1 K1) | (intros; first | omega | decide | (simp_all <;> omega)) | skip))))
   simp only [retQ, Tryz.results76, resV, resL]
   refine ⟨_, _, Weak.refl _, Hp.le.refl _, rfl, .mk (p + 1) cs' ks', out', g1.hadOne hS hK1', ⟨(upd_other _ _ hoi).trans g2.1, g2.2⟩, g3.trans ⟨fun y hy _ => upd_other _ _ (fun e => hy (by rw [idsT_eq, e]; simp)), fun _ _ _ => rfl⟩, fun h => by omega, fun _ hle => ?_, fun _ hlt => ?_⟩
   ·rw [hPS] at hle ⊢
    obtain ⟨e1, e2⟩ := g4.2.2.1 hle
    have e3 : acc.1.1 = cs' := by rw [← e1]
    have e4 : acc.1.2 = ks' := by rw [← e1]
    exact ⟨by rw [e3, e4], e2⟩
   ·rw [hPS] at hlt
    have e5 := g4.2.2.2 hlt
    refine ⟨e5, ⟨by omega, ?_, ?_⟩⟩
    ·have := g4.1.2.1; rw [e5] at this; exact this
    ·have := g4.1.2.2; rw [e5] at this; exact this
noncomputable def roundC (d : Nat) (t : LT) : List AV := [.v (.int .i64 (roundN d t : Nat)), .row 2 ((roundS d t).map encStep) none, .v (.int .i64 ((roundS d t).map (·.2)).sum)]
theorem roundS_some {d : Nat} {t : LT} {N : Nat} (h : RoundIs d t N) : roundS d t = (passesU d t N).2 ∧ roundE d t = 0 ∧ roundN d t = N := by
 have e := roundN_some h
 have h1 := h.1.1
 exact ⟨by rw [roundS, if_neg (by omega), e], by rw [roundE, if_neg (by omega)], e⟩
theorem roundS_none {d : Nat} {t : LT} (e : roundN d t = 0) : roundS d t = [] ∧ roundE d t = 2 := ⟨by rw [roundS, if_pos e], by rw [roundE, if_pos e]⟩
theorem roundC_none {d : Nat} {t : LT} (e : roundN d t = 0) : roundC d t = [.v (.int .i64 0), .row 2 [] none, .v (.int .i64 0)] := by
 rw [roundC, e, (roundS_none e).1]; rfl
theorem passesU_len (d : Nat) (t : LT) (j : Nat) : (passesU d t (j + 1)).2.length = (passesU d t j).2.length + (passU d t (passesU d t j).1).2.length := by simp only [passesU, List.length_append]
theorem sum_bdS (xs : List (ByteArray × Int)) (h : ∀ x ∈ xs, 1 ≤ x.2 ∧ x.2 ≤ 3600000) : 0 ≤ (xs.map (·.2)).sum ∧ (xs.map (·.2)).sum ≤ xs.length * 3600000 := by
 induction xs with
 | nil => simp
 | cons y l ih => have := h y (by simp); have := ih fun z hz => h z (by simp [hz]); simp only [List.map_cons, List.sum_cons, List.length_cons]; omega
theorem g_roundP (d : Nat) (t : LT) (h : Hp) (hb : KC d t) (hv : VL d t) (hil : IL d t) : ACalls Tryz.prog 79 [.agg (encL t)] h (fun r _ => r = .tup [.agg (roundC d t), .v (.int .i64 (roundE d t))]) := by
 have hlen := encL_len t
 have htk : List.take 6 (encL t) = encL t := List.take_of_length_le (Nat.le_of_eq hlen)
 have hdk : List.drop 6 (encL t) = [] := List.drop_of_length_le (Nat.le_of_eq hlen)
 refine gE Tryz.func79 rfl (by kernel_rfl) 56 rfl fun c => ?_
 (repeat (first | refine gQ rfl ?_ | (refine gM zM34 fun K1 hK1 => ?_; simp only [go_sem, ↓reduceIte, reduceCtorEq, nA, nB, nC, nD, nE, nF, hlen, htk, hdk] <;> and_intros <;> first | (apply hK1; clear hK1 K1) | (intros; first | omega | decide | (simp_all <;> omega)) | skip)))
 refine (g_newPart d t h hb).mono ?_
 rintro _ h1 ⟨a, rfl, hR, hS, hn1, hn2, hk1, hk2⟩
 refine hK1 _ ?_; clear hK1 K1
 first | refine gO rfl ?_ | (refine gM zM34 fun K1 hK1 => ?_; simp only [go_sem, ↓reduceIte, reduceCtorEq, nA, nB, nC, nD, nE, nF] <;> and_intros <;> first | (apply hK1; clear hK1 K1) | (intros; first | omega | decide | (simp_all <;> omega)) | skip)
 intro o ho
 refine hK1 _ ?_; clear hK1 K1
 refine vRem_nil ?_
 refine awp_ownPtr (cs := [.v (.slice none 0 0), .v (.int .i64 5000)]) o 0 2 (upd_same _ _ _) rfl (fun k hk => ?_)
 simp only [List.set_cons_zero, upd_upd]
 replace hk : h1.T k = none := hk
 replace ho : h1.H o = none := ho
 have hoa : o ∉ idsT a := fun hx => hR.ne.1 o hx ho
 have hka : k ∉ toksT a := fun hx => hR.ne.2 k hx hk
 have hok := passesU_ok d t hv
 (repeat (first | refine gQ rfl ?_ | (refine gM zM34 fun K1 hK1 => ?_; simp only [go_sem, ↓reduceIte, reduceCtorEq, nA, nB, nC, nD, nE, nF] <;> and_intros <;> first | (apply hK1; clear hK1 K1) | (intros; first | omega | decide | (simp_all <;> omega)) | skip)))
 refine awp_seq ?_
 refine awp_block ?_
 refine awp_loopC (rl false [2, 1, 1, 3, 50]) 2 (fun g s => ∃ (j : Nat) (h2 : Hp), g + j = 5001 ∧ (passesU d t j).2.length ≤ 5000 ∧ (∀ n, 1 ≤ n → n < j → homeF d t (passesU d t n).1 = false) ∧ RAt XP h2 d t a (passesU d t j).1 ∧ OutAt h2 o k oEx (passesU d t j).2 ∧
  s = ⟨(AV.junk :: AV.junk :: ((.loc 0 0) :: AV.junk :: ((.ptr a.id 0) :: (.ptr o 0) :: (.loc 1 0) :: (jnk 50 [])))), [[.v (.int .i64 0), .v (.slice none 0 0), .v (.int .i64 0)], [.v (.int .i64 j), .v (.slice none 0 0), .v (.int .i64 0)]], h2⟩) 5001 ⟨0, _, by omega, by simp [passesU], fun n h1 h2 => by omega, hR.frame (fun i hi => upd_other _ _ (fun e => hoa (by subst e; exact hi))) (fun c hc => upd_other _ _ (fun e => hka (by subst e; exact hc))), ⟨upd_same _ _ _, upd_same _ _ _⟩, rfl⟩ ?_
 rintro g _ ⟨j, h2, hj, hlj, hnh, hR2, hO2, rfl⟩
 have hj5 : j ≤ 5000 := by have := (hok j).2.2; omega
 (repeat (first | refine gQ rfl ?_ | (refine gM zM34 fun K1 hK1 => ?_; simp only [go_sem, ↓reduceIte, reduceCtorEq, nA, nB, nC, nD, nE, nF] <;> and_intros <;> first | (apply hK1; clear hK1 K1) | (intros; first | omega | decide | (simp_all <;> omega)) | skip)))
 refine awp_seq ?_
 refine awp_join (rl false [2, 1, 1, 3, 50]) 2 (fun s => (∀ n, 1 ≤ n → n ≤ j → homeF d t (passesU d t n).1 = false) ∧ s = ⟨(AV.junk :: AV.junk :: ((.loc 0 0) :: AV.junk :: ((.ptr a.id 0) :: (.ptr o 0) :: (.loc 1 0) :: (jnk 50 [])))), [[.v (.int .i64 0), .v (.slice none 0 0), .v (.int .i64 0)], [.v (.int .i64 j), .v (.slice none 0 0), .v (.int .i64 0)]], h2⟩) ?_ ?_
 ·by_cases hj0 : j = 0
  ·have e0 : ((j : Int) == 0) = true := by simp; omega
   (repeat (first | refine gO rfl ?_ | (refine gM zM34 fun K1 hK1 => ?_; simp only [go_sem, ↓reduceIte, reduceCtorEq, nA, nB, nC, nD, nE, nF, e0] <;> and_intros <;> first | (apply hK1; clear hK1 K1) | (intros; first | omega | decide | (simp_all <;> omega)) | skip)))
   refine ⟨.v (.bool true), rfl, hK1 _ ?_⟩; clear hK1 K1
   (repeat (first | refine gO rfl ?_ | (refine gM zM34 fun K1 hK1 => ?_; simp only [go_sem, ↓reduceIte, reduceCtorEq, nA, nB, nC, nD, nE, nF, e0] <;> and_intros <;> first | (apply hK1; clear hK1 K1) | (intros; first | omega | decide | (simp_all <;> omega)) | skip)))
   refine awp_cond (t := _) rfl (fun _ => ?_) (fun h => by cases h)
   (repeat (first | refine gO rfl ?_ | (refine gM zM34 fun K1 hK1 => ?_; simp only [go_sem, ↓reduceIte, reduceCtorEq, nA, nB, nC, nD, nE, nF] <;> and_intros <;> first | (apply hK1; clear hK1 K1) | (intros; first | omega | decide | (simp_all <;> omega)) | skip)))
   exact ⟨fun n h1 h2 => by omega, rfl⟩
  ·have e0 : ((j : Int) == 0) = false := by simp; omega
   (repeat (first | refine gO rfl ?_ | (refine gM zM34 fun K1 hK1 => ?_; simp only [go_sem, ↓reduceIte, reduceCtorEq, nA, nB, nC, nD, nE, nF, e0] <;> and_intros <;> first | (apply hK1; clear hK1 K1) | (intros; first | omega | decide | (simp_all <;> omega)) | skip)))
   refine (g_beginsG d t a _ h2 hv hR2 ((hok j).1.mono (by omega))).mono ?_; rintro _ hz ⟨rfl, hh⟩; refine ⟨rfl, hK1 _ ?_⟩; clear hK1 K1; rw [hh]; clear hh hz
   (repeat (first | refine gO rfl ?_ | (refine gM zM34 fun K1 hK1 => ?_; simp only [go_sem, ↓reduceIte, reduceCtorEq, nA, nB, nC, nD, nE, nF, e0] <;> and_intros <;> first | (apply hK1; clear hK1 K1) | (intros; first | omega | decide | (simp_all <;> omega)) | skip)))
   cases eh : homeF d t (passesU d t j).1 with
   | true =>
    have hri : RoundIs d t j := ⟨by omega, hlj, eh, hnh⟩
    obtain ⟨r1, r2, r3⟩ := roundS_some hri
    have hlong := passes_long hil j
    have hO20 : h2.H o = some (.cells [.row 2 ((passesU d t j).2.map encStep) (some k), .v (.int .i64 5000)]) := hO2.1
    have hrc : roundC d t = [.v (.int .i64 j), .row 2 ((passesU d t j).2.map encStep) none, .v (.int .i64 ((passesU d t j).2.map (·.2)).sum)] := by rw [roundC, r1, r3]
    rw [hrc, r2]
    refine awp_cond (t := _) rfl (fun h => by cases h) (fun _ => ?_)
    generalize (passesU d t j).2 = xs at *
    (repeat (first | refine gQ rfl ?_ | (refine gM zM34 fun K1 hK1 => ?_; simp only [go_sem, ↓reduceIte, reduceCtorEq, nA, nB, nC, nD, nE, nF, hO20] <;> and_intros <;> first | (apply hK1; clear hK1 K1) | (intros; first | omega | decide | (simp_all <;> omega)) | skip)))
    refine awp_seq ?_
    (repeat (first | refine gO rfl ?_ | (refine gM zM34 fun K1 hK1 => ?_; simp only [go_sem, ↓reduceIte, reduceCtorEq, nA, nB, nC, nD, nE, nF] <;> and_intros <;> first | (apply hK1; clear hK1 K1) | (intros; first | omega | decide | (simp_all <;> omega)) | skip)))
    refine awp_loopC (rl false [2, 1, 3, 1, 36, 3, 11]) 2 (fun g s => ∃ m : Nat, g + m = xs.length ∧ s = ⟨(AV.junk :: AV.junk :: ((.loc 0 0) :: (jnk 3 ((.loc 1 0) :: (jnk 36 ((.row 2 (xs.map encStep) (some k)) :: (.v (.int .i64 xs.length)) :: (.v (.int .i64 m)) :: (jnk 11 []))))))),
     [[.v (.int .i64 0), .v (.slice none 0 0), .v (.int .i64 0)], [.v (.int .i64 j), .row 2 (xs.map encStep) (some k), .v (.int .i64 ((xs.map (·.2)).take m).sum)]], h2⟩) xs.length ⟨0, by omega, rfl⟩ ?_
    rintro g2 _ ⟨m, hm, rfl⟩
    have hsb : 0 ≤ ((xs.map (·.2)).take m).sum ∧ ((xs.map (·.2)).take m).sum ≤ 5000 * 3600000 := by
     have h9 := sum_bdS (xs.take m) fun x hx => hlong x (List.mem_of_mem_take hx)
     rw [← List.map_take]
     have h10 : ((xs.take m).length : Int) ≤ 5000 := by simp; omega
     omega
    (repeat (first | refine gO rfl ?_ | (refine gM zM34 fun K1 hK1 => ?_; simp only [go_sem, ↓reduceIte, reduceCtorEq, nA, nB, nC, nD, nE, nF] <;> and_intros <;> first | (apply hK1; clear hK1 K1) | (intros; first | omega | decide | (simp_all <;> omega)) | skip)))
    refine awp_cond (t := _) rfl (fun h9 => ?_) (fun h9 => ?_)
    ·simp only [decide_eq_true_eq] at h9
     have hmx : m < xs.length := by omega
     have hgx : (xs.map encStep).getD m [] = encStep (xs.getD m default) := getD_enc encStep xs m default hmx
     have hxb := hlong _ (getD_mem' xs m default hmx)
     have e9 : ((xs.map (·.2)).take (m + 1)).sum = ((xs.map (·.2)).take m).sum + (xs.getD m default).2 := by
      rw [sum_take_succ _ _ (by simpa using hmx)]
      congr 1
      rw [List.getD_eq_getElem?_getD, List.getD_eq_getElem?_getD, List.getElem?_map, List.getElem?_eq_getElem hmx]; rfl
     generalize xs.getD m default = y at hgx hxb e9
     (repeat (first | refine gO rfl ?_ | (refine gM zM34 fun K1 hK1 => ?_; simp only [go_sem, ↓reduceIte, reduceCtorEq, nA, nB, nC, nD, nE, nF, Int.toNat_natCast, hgx, encStep] <;> and_intros <;> first | (apply hK1; clear hK1 K1) | (intros; first | omega | decide | (simp_all <;> omega)) | skip)))
     refine ⟨g2 - 1, by omega, m + 1, by omega, ?_⟩
     rw [e9]; rfl
    ·simp only [decide_eq_false_iff_not] at h9
     have hmx : m = xs.length := by omega
     rw [List.take_of_length_le (by simp; omega)] at hsb ⊢
     (repeat (first | refine gO rfl ?_ | (refine gM zM34 fun K1 hK1 => ?_; simp only [go_sem, ↓reduceIte, reduceCtorEq, nA, nB, nC, nD, nE, nF] <;> and_intros <;> first | (apply hK1; clear hK1 K1) | (intros; first | omega | decide | (simp_all <;> omega)) | skip)))
     simp only [Tryz.results79, go_sem, ↓reduceIte, reduceCtorEq, nA, nB, nC, nD, nE, nF]
     refine ⟨_, _, Weak.tup1 (Weak.agg (.cons (Weak.refl _) (.cons (Weak.row _ _ _) (.cons (Weak.refl _) .nil)))) (Weak.refl _), Hp.le.refl _, rfl⟩
   | false =>
    refine awp_cond (t := _) rfl (fun _ => ?_) (fun h => by cases h)
    (repeat (first | refine gO rfl ?_ | (refine gM zM34 fun K1 hK1 => ?_; simp only [go_sem, ↓reduceIte, reduceCtorEq, nA, nB, nC, nD, nE, nF] <;> and_intros <;> first | (apply hK1; clear hK1 K1) | (intros; first | omega | decide | (simp_all <;> omega)) | skip)))
    exact ⟨fun n h1 h2 => by
     by_cases e : n = j
     ·rw [e]; exact eh
     ·exact hnh n h1 (by omega), rfl⟩
 ·rintro _ ⟨hnh2, rfl⟩
  (repeat (first | refine gO rfl ?_ | (refine gM zM34 fun K1 hK1 => ?_; simp only [go_sem, ↓reduceIte, reduceCtorEq, nA, nB, nC, nD, nE, nF] <;> and_intros <;> first | (apply hK1; clear hK1 K1) | (intros; first | omega | decide | (simp_all <;> omega)) | skip)))
  refine (g_passP d t a _ h2 o k _ hv hR2 hS (hok j).1 hO2 hoa (by omega)).mono ?_
  rintro r h6 ⟨rfl, s2, out2, hR6, hO6, _, q1, q2, q3⟩
  have e5 := passesU_len d t j
  refine hK1 _ ?_; clear hK1 K1
  (repeat (first | refine gO rfl ?_ | (refine gM zM34 fun K1 hK1 => ?_; simp only [go_sem, ↓reduceIte, reduceCtorEq, nA, nB, nC, nD, nE, nF] <;> and_intros <;> first | (apply hK1; clear hK1 K1) | (intros; first | omega | decide | (simp_all <;> omega)) | skip)))
  refine (g_full28 o k h6 _ hO6).mono ?_; rintro _ hz ⟨rfl, hh⟩; apply hK1; clear hK1 K1; rw [hh]; clear hh hz
  by_cases hl6 : (passesU d t (j + 1)).2.length ≤ 5000
  ·obtain ⟨rfl, rfl⟩ := q2 hlj (by omega)
   have hj6 : j + 1 ≤ 5000 := by have := (hok (j + 1)).2.2; omega
   have hnf : decide ((5000 : Int) < ((passesU d t j).2 ++ (passU d t (passesU d t j).1).2).length) = false := by simp only [decide_eq_false_iff_not, List.length_append]; omega
   have hnf2 : decide ((5000 : Int) < (j : Int) + 1) = false := by simp only [decide_eq_false_iff_not]; omega
   (repeat (first | refine gO rfl ?_ | (refine gM zM34 fun K1 hK1 => ?_; simp only [go_sem, ↓reduceIte, reduceCtorEq, nA, nB, nC, nD, nE, nF, hnf, hnf2] <;> and_intros <;> first | (apply hK1; clear hK1 K1) | (intros; first | omega | decide | (simp_all <;> omega)) | skip)))
   refine awp_cond (t := _) rfl (fun h => by cases h) (fun _ => ?_)
   (repeat (first | refine gO rfl ?_ | (refine gM zM34 fun K1 hK1 => ?_; simp only [go_sem, ↓reduceIte, reduceCtorEq, nA, nB, nC, nD, nE, nF] <;> and_intros <;> first | (apply hK1; clear hK1 K1) | (intros; first | omega | decide | (simp_all <;> omega)) | skip)))
   exact ⟨g - 1, by omega, j + 1, h6, by omega, hl6, fun n h1 h2 => hnh2 n h1 (by omega), hR6, hO6, rfl⟩
  ·obtain ⟨z1, _⟩ := q3 hlj (by omega)
   have hr0 : roundN d t = 0 := round_long (j := j) (by omega) hnh2
   have hnf : decide ((5000 : Int) < out2.length) = true := by simp only [decide_eq_true_eq]; omega
   rw [roundC_none hr0, (roundS_none hr0).2]
   (repeat (first | refine gO rfl ?_ | (refine gM zM34 fun K1 hK1 => ?_; simp only [go_sem, ↓reduceIte, reduceCtorEq, nA, nB, nC, nD, nE, nF, hnf] <;> and_intros <;> first | (apply hK1; clear hK1 K1) | (intros; first | omega | decide | (simp_all <;> omega)) | skip)))
   refine awp_cond (t := _) rfl (fun _ => ?_) (fun h => by cases h)
   (repeat (first | refine gO rfl ?_ | (refine gM zM34 fun K1 hK1 => ?_; simp only [go_sem, ↓reduceIte, reduceCtorEq, nA, nB, nC, nD, nE, nF] <;> and_intros <;> first | (apply hK1; clear hK1 K1) | (intros; first | omega | decide | (simp_all <;> omega)) | skip)))
   simp only [Tryz.results79, go_sem, ↓reduceIte, reduceCtorEq, nA, nB, nC, nD, nE, nF]
   refine ⟨_, _, Weak.tup1 (Weak.agg (.cons (Weak.refl _) (.cons (Weak.nil 2 0 0 ⟨rfl, rfl⟩) (.cons (Weak.refl _) .nil)))) (Weak.refl _), Hp.le.refl _, rfl⟩
abbrev zP1IE : List Nat := [0, 1, 2, 3, 4, 5, 6, 7]
abbrev zP1IP : List (Nat × List Nat × List Nat) := []
abbrev zP1JE : List Nat := [0, 1, 2, 3, 4, 5, 6, 7, 8, 9, 10, 11, 12, 13, 14]
abbrev zP1JP : List (Nat × List Nat × List Nat) := []
attribute [go_sem] zP1IE zP1IP zP1JE zP1JP
theorem part_of_fault {t : LT} (h : faultF t = 0) : partF t = 0 := by
 unfold faultF at h
 split at h
 ·cases h
 ·exact h
noncomputable def rdE (d : Nat) (t : LT) : Int := if faultF t = 0 then roundE d t else faultF t
noncomputable def rdN (d : Nat) (t : LT) : Nat := if faultF t = 0 then roundN d t else 0
noncomputable def rdS (d : Nat) (t : LT) : List (ByteArray × Int) := if faultF t = 0 then roundS d t else []
end Go.Proofs.YtidkkmoiolffnaaGreatDoor
