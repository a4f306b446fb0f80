/- signkeep1.PartsAreWhole returns true for every list of numbers. -/
import Derived.Test.YtidkkmoiolffnaaGreatDoorM2
namespace Go.Proofs.YtidkkmoiolffnaaGreatDoor
open Go
set_option linter.unusedVariables false
set_option linter.unusedSimpArgs false
open Nat renaming reduceAdd → nA, reduceSub → nB, reduceMul → nC, reduceLT → nD, reduceLeDiff → nE, reduceEqDiff → nF, reduceMod → nG, reduceDiv → nH, reducePow → nI
abbrev zM30 : Option Tmp → Nat := mdL [(21, 2)]
attribute [go_sem] zM30
abbrev zP15E : List Nat := [0, 1, 2, 3, 4, 5, 6, 7, 8, 9]
abbrev zP15P : List (Nat × List Nat × List Nat) := []
attribute [go_sem] zP15E zP15P
set_option maxRecDepth 100000
set_option maxHeartbeats 8000000
theorem g_lawParts (l : List Int) (h : Hp) (hl : SOk l) : ACalls Tryz.prog 9 [.row 1 (l.map encI) none] h (fun r _ => r = .v (.bool true)) := by
 have hp1 := fun i a h ha => g_pick i l a [1, 3, 8] none h hl ha (by decide)
 have hp2 := fun i a h ha => g_pick i l a [0, 10, 40] none h hl ha (by decide)
 simp only [List.map_cons, List.map_nil, encI] at hp1 hp2
 refine gE Tryz.func9 rfl (by kernel_rfl) 135 rfl fun c => ?_
 (repeat (first | refine gQ rfl ?_ | ((first | refine gM zM30 ?_ | (with_reducible refine wM ?_ ?_) | ((with_reducible refine xS ?_); refine uD 5 zM30 zP15E zP15P 136 rfl (by kernel_rfl) ?_)) <;> ((try with_reducible intro K1 hK1); simp only [go_sem, ↓reduceIte, reduceCtorEq, nA, nB, nC, nD, nE, nF] <;> and_intros <;> first | (apply hK1; clear hK1 K1) | (intros; first | omega | decide | (simp_all <;> omega)) | skip))))
 intro i hi
 refine hK1 _ ?_; clear hK1 K1
 have e0 : ({ H := upd h.H i (some (.cells [.row 1 (l.map encI) none, .v (.int .i64 0)])), T := h.T } : Hp) = h.st i l 0 := rfl
 rw [e0]
 (repeat (first | refine gQ rfl ?_ | ((first | refine gM zM30 ?_ | (with_reducible refine wM ?_ ?_) | ((with_reducible refine xS ?_); refine uD 5 zM30 zP15E zP15P 136 rfl (by kernel_rfl) ?_)) <;> ((try with_reducible intro K1 hK1); simp only [go_sem, ↓reduceIte, reduceCtorEq, nA, nB, nC, nD, nE, nF] <;> and_intros <;> first | (apply hK1; clear hK1 K1) | (intros; first | omega | decide | (simp_all <;> omega)) | skip))))
 refine (g_range i l 0 1 60 h hl (by omega) (by omega) (by omega) (by omega)).mono ?_; rintro _ _ ⟨many, hmany, rfl, rfl⟩; apply hK1; clear hK1 K1
 obtain ⟨m, rfl⟩ : ∃ m : Nat, many = m := ⟨many.toNat, by omega⟩
 (repeat (first | refine gQ rfl ?_ | ((first | refine gM zM30 ?_ | (with_reducible refine wM ?_ ?_) | ((with_reducible refine xS ?_); refine uD 5 zM30 zP15E zP15P 136 rfl (by kernel_rfl) ?_)) <;> ((try with_reducible intro K1 hK1); simp only [go_sem, ↓reduceIte, reduceCtorEq, nA, nB, nC, nD, nE, nF] <;> and_intros <;> first | (apply hK1; clear hK1 K1) | (intros; first | omega | decide | (simp_all <;> omega)) | skip))))
 refine (g_content i l _ m h hl (by omega) (by omega)).mono ?_; rintro _ _ ⟨t, rfl, ht, rfl⟩; apply hK1; clear hK1 K1
 (repeat (first | refine gQ rfl ?_ | ((first | refine gM zM30 ?_ | (with_reducible refine wM ?_ ?_) | ((with_reducible refine xS ?_); refine uD 5 zM30 zP15E zP15P 136 rfl (by kernel_rfl) ?_)) <;> ((try with_reducible intro K1 hK1); simp only [go_sem, ↓reduceIte, reduceCtorEq, nA, nB, nC, nD, nE, nF] <;> and_intros <;> first | (apply hK1; clear hK1 K1) | (intros; first | omega | decide | (simp_all <;> omega)) | skip))))
 refine (hp1 i _ h (by omega)).mono ?_; rintro _ _ ⟨low, hlow, rfl, rfl⟩; apply hK1; clear hK1 K1
 have hlow2 : 1 ≤ low ∧ low ≤ 8 := by simp at hlow; omega
 (repeat (first | refine gQ rfl ?_ | ((first | refine gM zM30 ?_ | (with_reducible refine wM ?_ ?_) | ((with_reducible refine xS ?_); refine uD 5 zM30 zP15E zP15P 136 rfl (by kernel_rfl) ?_)) <;> ((try with_reducible intro K1 hK1); simp only [go_sem, ↓reduceIte, reduceCtorEq, nA, nB, nC, nD, nE, nF] <;> and_intros <;> first | (apply hK1; clear hK1 K1) | (intros; first | omega | decide | (simp_all <;> omega)) | skip))))
 refine (g_range i l _ 0 4 h hl (by omega) (by omega) (by omega) (by omega)).mono ?_; rintro _ _ ⟨bits, hbits, rfl, rfl⟩; apply hK1; clear hK1 K1
 obtain ⟨bn, rfl⟩ : ∃ bn : Nat, bits = bn := ⟨bits.toNat, by omega⟩
 (repeat (first | refine gQ rfl ?_ | ((first | refine gM zM30 ?_ | (with_reducible refine wM ?_ ?_) | ((with_reducible refine xS ?_); refine uD 5 zM30 zP15E zP15P 136 rfl (by kernel_rfl) ?_)) <;> ((try with_reducible intro K1 hK1); simp only [go_sem, ↓reduceIte, reduceCtorEq, nA, nB, nC, nD, nE, nF] <;> and_intros <;> first | (apply hK1; clear hK1 K1) | (intros; first | omega | decide | (simp_all <;> omega)) | skip))))
 refine (hp2 i _ h (by omega)).mono ?_; rintro _ _ ⟨d, hd, rfl, rfl⟩; apply hK1; clear hK1 K1
 have hd2 : 0 ≤ d ∧ d ≤ 40 := by simp at hd; omega
 (repeat (first | refine gQ rfl ?_ | ((first | refine gM zM30 ?_ | (with_reducible refine wM ?_ ?_) | ((with_reducible refine xS ?_); refine uD 5 zM30 zP15E zP15P 136 rfl (by kernel_rfl) ?_)) <;> ((try with_reducible intro K1 hK1); simp only [go_sem, ↓reduceIte, reduceCtorEq, nA, nB, nC, nD, nE, nF] <;> and_intros <;> first | (apply hK1; clear hK1 K1) | (intros; first | omega | decide | (simp_all <;> omega)) | skip))))
 refine (g_next i l _ t.size h hl (by omega) (by omega)).mono ?_; rintro _ _ ⟨k, hk, rfl, rfl⟩; apply hK1; clear hK1 K1
 obtain ⟨kn, rfl⟩ : ∃ kn : Nat, k = kn := ⟨k.toNat, by omega⟩
 have hkn : kn < t.size := by omega
 have hk1 : ((kn : Int) + 1).toNat = kn + 1 := by omega
 have z0 : Int.toNat 0 = 0 := rfl
 have q33 : (⟨#[33]⟩ : ByteArray).size = 1 := rfl
 have hA : (t.extract 0 kn).size = kn := by rw [ByteArray.size_extract]; omega
 have hB : (t.extract 0 kn ++ ⟨#[33]⟩).size = kn + 1 := by rw [ByteArray.size_append, hA, q33]
 have hC : (t.extract (kn + 1) t.size).size = t.size - (kn + 1) := by rw [ByteArray.size_extract]; omega
 generalize h.st i l _ = h1
 (repeat (first | refine gQ rfl ?_ | ((first | refine gM zM30 ?_ | (with_reducible refine wM ?_ ?_) | ((with_reducible refine xS ?_); refine uD 5 zM30 zP15E zP15P 136 rfl (by kernel_rfl) ?_)) <;> ((try with_reducible intro K1 hK1); simp only [go_sem, ↓reduceIte, reduceCtorEq, nA, nB, nC, nD, nE, nF, Int.toNat_natCast, z0, hk1, hA, hB, hC, q33, Option.toList_none, Option.toList_some, List.append_eq, List.nil_append, List.cons_append, uside] <;> and_intros <;> first | (apply hK1; clear hK1 K1) | (intros; first | omega | decide | (simp_all <;> omega)) | skip))))
 have hus := other_size t hkn
 have hut := other_take t hkn
 generalize (t.extract 0 kn ++ ⟨#[33]⟩ ++ t.extract (kn + 1) t.size) = u at *
 clear hA hB hC q33
 refine (g_cut t low bn (low + d) _ (by omega) (by omega) (by omega) (by omega) (by omega)).mono ?_; rintro _ _ ⟨rfl, rfl⟩; apply hK1; clear hK1 K1
 (repeat (first | refine gQ rfl ?_ | ((first | refine gM zM30 ?_ | (with_reducible refine wM ?_ ?_) | ((with_reducible refine xS ?_); refine uD 5 zM30 zP15E zP15P 136 rfl (by kernel_rfl) ?_)) <;> ((try with_reducible intro K1 hK1); simp only [go_sem, ↓reduceIte, reduceCtorEq, nA, nB, nC, nD, nE, nF] <;> and_intros <;> first | (apply hK1; clear hK1 K1) | (intros; first | omega | decide | (simp_all <;> omega)) | skip))))
 refine (g_cut u low bn (low + d) _ (by omega) (by omega) (by omega) (by omega) (by omega)).mono ?_; rintro _ _ ⟨rfl, rfl⟩; apply hK1; clear hK1 K1
 have wA := cutSt_whole t low bn (low + d) (by omega)
 have wB := cutSt_whole u low bn (low + d) (by omega)
 have jA : (joinL (cutSt t low bn (low + d) t.size).2).length ≤ 1000000 := by
  have := congrArg ByteArray.size wA
  replace this : (joinL (cutSt t low bn (low + d) t.size).2).toArray.size = t.size := this
  simp only [List.size_toArray] at this; omega
 have jB : (joinL (cutSt u low bn (low + d) u.size).2).length ≤ 1000000 := by
  have := congrArg ByteArray.size wB
  replace this : (joinL (cutSt u low bn (low + d) u.size).2).toArray.size = u.size := this
  simp only [List.size_toArray] at this; omega
 have lenA := (cutSt_le t low bn (low + d) t.size).2
 have lenB := (cutSt_le u low bn (low + d) u.size).2
 have hAl := fun j hj hle => parts_alike t low bn (low + d) u hus (Nat.le_of_lt hkn) hut (j := j) hj hle
 have hHi := cutSt_high t low bn (low + d) (by omega) t.size (Nat.le_refl _)
 have hLo := cutSt_low t low bn (low + d) (by omega) t.size (Nat.le_refl _)
 have gA := fun h => g_join (cutSt t low bn (low + d) t.size).2 h (by omega) jA
 have gB := fun h => g_join (cutSt u low bn (low + d) u.size).2 h (by omega) jB
 rw [wA] at gA
 rw [wB] at gB
 clear wA wB jA jB hut hus
 generalize (cutSt t low bn (low + d) t.size).2 = A at *
 generalize (cutSt u low bn (low + d) u.size).2 = B at *
 have hhi : 1 ≤ low + d ∧ low + d ≤ 48 := by omega
 generalize low + d = high at *
 have ett : (t == t) = true := by rw [ba_beq]; simp
 have euu : (u == u) = true := by rw [ba_beq]; simp
 (repeat (first | refine gO rfl ?_ | ((first | refine gM zM30 ?_ | (with_reducible refine wM ?_ ?_) | ((with_reducible refine xS ?_); refine uD 5 zM30 zP15E zP15P 136 rfl (by kernel_rfl) ?_)) <;> ((try with_reducible intro K1 hK1); simp only [go_sem, ↓reduceIte, reduceCtorEq, nA, nB, nC, nD, nE, nF, ett, euu, Int.reduceBNe] <;> and_intros <;> first | (apply hK1; clear hK1 K1) | (intros; first | omega | decide | (simp_all <;> omega)) | skip))))
 refine (gA _).mono ?_
 rintro _ _ ⟨rfl, rfl⟩
 refine ⟨rfl, hK1 _ ?_⟩; clear hK1 K1
 (repeat (first | refine gO rfl ?_ | ((first | refine gM zM30 ?_ | (with_reducible refine wM ?_ ?_) | ((with_reducible refine xS ?_); refine uD 5 zM30 zP15E zP15P 136 rfl (by kernel_rfl) ?_)) <;> ((try with_reducible intro K1 hK1); simp only [go_sem, ↓reduceIte, reduceCtorEq, nA, nB, nC, nD, nE, nF, ett, euu, Int.reduceBNe] <;> and_intros <;> first | (apply hK1; clear hK1 K1) | (intros; first | omega | decide | (simp_all <;> omega)) | skip))))
 refine (gB _).mono ?_
 rintro _ h2 ⟨rfl, rfl⟩
 refine ⟨rfl, hK1 _ ?_⟩; clear hK1 K1
 (repeat (first | refine gO rfl ?_ | ((first | refine gM zM30 ?_ | (with_reducible refine wM ?_ ?_) | ((with_reducible refine xS ?_); refine uD 5 zM30 zP15E zP15P 136 rfl (by kernel_rfl) ?_)) <;> ((try with_reducible intro K1 hK1); simp only [go_sem, ↓reduceIte, reduceCtorEq, nA, nB, nC, nD, nE, nF, ett, euu, Int.reduceBNe] <;> and_intros <;> first | (apply hK1; clear hK1 K1) | (intros; first | omega | decide | (simp_all <;> omega)) | skip))))
 refine awp_cond (t := _) rfl (fun h9 => by cases h9) (fun _ => ?_)
 (repeat (first | refine gQ rfl ?_ | ((first | refine gM zM30 ?_ | (with_reducible refine wM ?_ ?_) | ((with_reducible refine xS ?_); refine uD 5 zM30 zP15E zP15P 136 rfl (by kernel_rfl) ?_)) <;> ((try with_reducible intro K1 hK1); simp only [go_sem, ↓reduceIte, reduceCtorEq, nA, nB, nC, nD, nE, nF] <;> and_intros <;> first | (apply hK1; clear hK1 K1) | (intros; first | omega | decide | (simp_all <;> omega)) | skip))))
 have hml : (A.map encS).length = A.length := List.length_map _
 have hmb : (B.map encS).length = B.length := List.length_map _
 refine awp_seqJ (rl false [5, 1, 1, 1, 2, 1, 125]) 0 (fun s => s = ⟨((jnk 5 ((.v (.int .i64 low)) :: AV.junk :: ((.v (.int .i64 high)) :: AV.junk :: AV.junk :: ((.row 1 (A.map encS) none) :: (jnk 125 [])))))), [], h2⟩) ?_ ?_
 ·(repeat (first | refine gO rfl ?_ | ((first | refine gM zM30 ?_ | (with_reducible refine wM ?_ ?_) | ((with_reducible refine xS ?_); refine uD 5 zM30 zP15E zP15P 136 rfl (by kernel_rfl) ?_)) <;> ((try with_reducible intro K1 hK1); simp only [go_sem, ↓reduceIte, reduceCtorEq, nA, nB, nC, nD, nE, nF, hml] <;> and_intros <;> first | (apply hK1; clear hK1 K1) | (intros; first | omega | decide | (simp_all <;> omega)) | skip))))
  refine awp_loopC (rl false [5, 1, 1, 2, 1, 1, 1, 1, 1, 1, 68, 3, 50]) 0 (fun g s => ∃ j : Nat, g + j = A.length ∧ sizesL (A.take j) ≤ kn ∧
   s = ⟨((jnk 5 ((.v (.int .i64 low)) :: AV.junk :: ((.v (.int .i64 high)) :: (.v (.int .i64 kn)) :: AV.junk :: ((.row 1 (A.map encS) none) :: AV.junk :: ((.row 1 (B.map encS) none) :: AV.junk :: ((.v (.int .i64 (sizesL (A.take j)))) :: (jnk 68 ((.row 1 (A.map encS) none) :: (.v (.int .i64 A.length)) :: (.v (.int .i64 j)) :: (jnk 50 [])))))))))), [], h2⟩) A.length ⟨0, by omega, Nat.zero_le _, rfl⟩ ?_
  rintro g _ ⟨j, hj, hsz, rfl⟩
  (repeat (first | refine gO rfl ?_ | ((first | refine gM zM30 ?_ | (with_reducible refine wM ?_ ?_) | ((with_reducible refine xS ?_); refine uD 5 zM30 zP15E zP15P 136 rfl (by kernel_rfl) ?_)) <;> ((try with_reducible intro K1 hK1); simp only [go_sem, ↓reduceIte, reduceCtorEq, nA, nB, nC, nD, nE, nF] <;> and_intros <;> first | (apply hK1; clear hK1 K1) | (intros; first | omega | decide | (simp_all <;> omega)) | skip))))
  refine awp_cond (t := _) rfl (fun h5 => ?_) (fun h5 => ?_)
  ·simp only [decide_eq_true_eq] at h5
   have hjl : j < A.length := by omega
   have gx : (A.map encS).getD j [] = encS (A.getD j default) := getD_enc encS A j default hjl
   have hst := sizesL_step A hjl
   have hB := hAl j hjl
   have hps := hHi (A.getD j default) (by rw [List.getD_eq_getElem?_getD, List.getElem?_eq_getElem hjl]; exact List.getElem_mem _)
   generalize A.getD j default = p at *
   generalize sizesL (A.take j) = z0 at *
   (repeat (first | refine gO rfl ?_ | ((first | refine gM zM30 ?_ | (with_reducible refine wM ?_ ?_) | ((with_reducible refine xS ?_); refine uD 5 zM30 zP15E zP15P 136 rfl (by kernel_rfl) ?_)) <;> ((try with_reducible intro K1 hK1); simp only [go_sem, ↓reduceIte, reduceCtorEq, nA, nB, nC, nD, nE, nF, Int.toNat_natCast, gx, encS, hml] <;> and_intros <;> first | (apply hK1; clear hK1 K1) | (intros; first | omega | decide | (simp_all <;> omega)) | skip))))
   refine awp_cond (t := _) rfl (fun h6 => ?_) (fun h6 => ?_)
   ·(repeat (first | refine gO rfl ?_ | ((first | refine gM zM30 ?_ | (with_reducible refine wM ?_ ?_) | ((with_reducible refine xS ?_); refine uD 5 zM30 zP15E zP15P 136 rfl (by kernel_rfl) ?_)) <;> ((try with_reducible intro K1 hK1); simp only [go_sem, ↓reduceIte, reduceCtorEq, nA, nB, nC, nD, nE, nF] <;> and_intros <;> first | (apply hK1; clear hK1 K1) | (intros; first | omega | decide | (simp_all <;> omega)) | skip))))
    exact rfl
   ·simp only [decide_eq_false_iff_not] at h6
    obtain ⟨hjb, hbe⟩ := hB (by omega)
    have gb : (B.map encS).getD j [] = encS p := (getD_enc encS B j default hjb).trans (by rw [hbe])
    have epp : (p == p) = true := by rw [ba_beq]; simp
    have hd9 : decide ((B.length : Int) ≤ (j : Int)) = false := by simp only [decide_eq_false_iff_not]; omega
    (repeat (first | refine gO rfl ?_ | ((first | refine gM zM30 ?_ | (with_reducible refine wM ?_ ?_) | ((with_reducible refine xS ?_); refine uD 5 zM30 zP15E zP15P 136 rfl (by kernel_rfl) ?_)) <;> ((try with_reducible intro K1 hK1); simp only [go_sem, ↓reduceIte, reduceCtorEq, nA, nB, nC, nD, nE, nF, Int.toNat_natCast, gb, encS, hmb, epp, hd9] <;> and_intros <;> first | (apply hK1; clear hK1 K1) | (intros; first | omega | decide | (simp_all <;> omega)) | skip))))
    refine awp_cond (t := _) rfl (fun h9 => by cases h9) (fun _ => ?_)
    (repeat (first | refine gO rfl ?_ | ((first | refine gM zM30 ?_ | (with_reducible refine wM ?_ ?_) | ((with_reducible refine xS ?_); refine uD 5 zM30 zP15E zP15P 136 rfl (by kernel_rfl) ?_)) <;> ((try with_reducible intro K1 hK1); simp only [go_sem, ↓reduceIte, reduceCtorEq, nA, nB, nC, nD, nE, nF] <;> and_intros <;> first | (apply hK1; clear hK1 K1) | (intros; first | omega | decide | (simp_all <;> omega)) | skip))))
    refine ⟨g - 1, by omega, j + 1, by omega, by omega, ?_⟩
    rw [hst, Int.natCast_add]
    rfl
  ·(repeat (first | refine gO rfl ?_ | ((first | refine gM zM30 ?_ | (with_reducible refine wM ?_ ?_) | ((with_reducible refine xS ?_); refine uD 5 zM30 zP15E zP15P 136 rfl (by kernel_rfl) ?_)) <;> ((try with_reducible intro K1 hK1); simp only [go_sem, ↓reduceIte, reduceCtorEq, nA, nB, nC, nD, nE, nF] <;> and_intros <;> first | (apply hK1; clear hK1 K1) | (intros; first | omega | decide | (simp_all <;> omega)) | skip))))
   exact rfl
 ·rintro _ rfl
  (repeat (first | refine gO rfl ?_ | ((first | refine gM zM30 ?_ | (with_reducible refine wM ?_ ?_) | ((with_reducible refine xS ?_); refine uD 5 zM30 zP15E zP15P 136 rfl (by kernel_rfl) ?_)) <;> ((try with_reducible intro K1 hK1); simp only [go_sem, ↓reduceIte, reduceCtorEq, nA, nB, nC, nD, nE, nF, hml] <;> and_intros <;> first | (apply hK1; clear hK1 K1) | (intros; first | omega | decide | (simp_all <;> omega)) | skip))))
  refine awp_loopC (rl false [5, 1, 1, 1, 2, 1, 99, 3, 23]) 0 (fun g s => ∃ j : Nat, g + j = A.length ∧
   s = ⟨((jnk 5 ((.v (.int .i64 low)) :: AV.junk :: ((.v (.int .i64 high)) :: AV.junk :: AV.junk :: ((.row 1 (A.map encS) none) :: (jnk 99 ((.row 1 (A.map encS) none) :: (.v (.int .i64 A.length)) :: (.v (.int .i64 j)) :: (jnk 23 [])))))))), [], h2⟩) A.length ⟨0, by omega, rfl⟩ ?_
  rintro g _ ⟨j, hj, rfl⟩
  (repeat (first | refine gO rfl ?_ | ((first | refine gM zM30 ?_ | (with_reducible refine wM ?_ ?_) | ((with_reducible refine xS ?_); refine uD 5 zM30 zP15E zP15P 136 rfl (by kernel_rfl) ?_)) <;> ((try with_reducible intro K1 hK1); simp only [go_sem, ↓reduceIte, reduceCtorEq, nA, nB, nC, nD, nE, nF] <;> and_intros <;> first | (apply hK1; clear hK1 K1) | (intros; first | omega | decide | (simp_all <;> omega)) | skip))))
  refine awp_cond (t := _) rfl (fun h5 => ?_) (fun h5 => ?_)
  ·simp only [decide_eq_true_eq] at h5
   have hjl : j < A.length := by omega
   have gx : (A.map encS).getD j [] = encS (A.getD j default) := getD_enc encS A j default hjl
   have hps := hHi (A.getD j default) (by rw [List.getD_eq_getElem?_getD, List.getElem?_eq_getElem hjl]; exact List.getElem_mem _)
   have hpl := hLo j (A.getD j default) (by rw [List.getD_eq_getElem?_getD, List.getElem?_eq_getElem hjl]; rfl)
   generalize A.getD j default = p at *
   have e9 : decide (high < (p.size : Int)) = false := by simp only [decide_eq_false_iff_not]; omega
   (repeat (first | refine gO rfl ?_ | ((first | refine gM zM30 ?_ | (with_reducible refine wM ?_ ?_) | ((with_reducible refine xS ?_); refine uD 5 zM30 zP15E zP15P 136 rfl (by kernel_rfl) ?_)) <;> ((try with_reducible intro K1 hK1); simp only [go_sem, ↓reduceIte, reduceCtorEq, nA, nB, nC, nD, nE, nF, Int.toNat_natCast, gx, encS, hml, e9] <;> and_intros <;> first | (apply hK1; clear hK1 K1) | (intros; first | omega | decide | (simp_all <;> omega)) | skip))))
   refine awp_cond (t := _) rfl (fun h7 => ?_) (fun _ => ?_)
   ·exfalso
    by_cases h8 : (p.size : Int) < low
    ·have := hpl
     simp [h8] at h7
     have := hpl (.inl (by omega))
     omega
    ·simp [h8] at h7
   ·(repeat (first | refine gO rfl ?_ | ((first | refine gM zM30 ?_ | (with_reducible refine wM ?_ ?_) | ((with_reducible refine xS ?_); refine uD 5 zM30 zP15E zP15P 136 rfl (by kernel_rfl) ?_)) <;> ((try with_reducible intro K1 hK1); simp only [go_sem, ↓reduceIte, reduceCtorEq, nA, nB, nC, nD, nE, nF] <;> and_intros <;> first | (apply hK1; clear hK1 K1) | (intros; first | omega | decide | (simp_all <;> omega)) | skip))))
    exact ⟨g - 1, by omega, j + 1, by omega, rfl⟩
  ·(repeat (first | refine gO rfl ?_ | ((first | refine gM zM30 ?_ | (with_reducible refine wM ?_ ?_) | ((with_reducible refine xS ?_); refine uD 5 zM30 zP15E zP15P 136 rfl (by kernel_rfl) ?_)) <;> ((try with_reducible intro K1 hK1); simp only [go_sem, ↓reduceIte, reduceCtorEq, nA, nB, nC, nD, nE, nF] <;> and_intros <;> first | (apply hK1; clear hK1 K1) | (intros; first | omega | decide | (simp_all <;> omega)) | skip))))
   refine (g_ready _).mono ?_
   rintro _ h3 rfl
   apply hK1; clear hK1 K1
   (repeat (first | refine gO rfl ?_ | ((first | refine gM zM30 ?_ | (with_reducible refine wM ?_ ?_) | ((with_reducible refine xS ?_); refine uD 5 zM30 zP15E zP15P 136 rfl (by kernel_rfl) ?_)) <;> ((try with_reducible intro K1 hK1); simp only [go_sem, ↓reduceIte, reduceCtorEq, nA, nB, nC, nD, nE, nF] <;> and_intros <;> first | (apply hK1; clear hK1 K1) | (intros; first | omega | decide | (simp_all <;> omega)) | skip))))
   simp only [Tryz.results9, go_sem, ↓reduceIte, reduceCtorEq, nA, nB, nC, nD, nE, nF]
   exact ⟨_, _, Weak.refl _, Hp.le.refl _, rfl⟩
end Go.Proofs.YtidkkmoiolffnaaGreatDoor
