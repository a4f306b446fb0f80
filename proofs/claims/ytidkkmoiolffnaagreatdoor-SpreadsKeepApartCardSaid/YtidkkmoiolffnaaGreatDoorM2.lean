/- loop.spreader.find. -/
import Derived.Test.YtidkkmoiolffnaaGreatDoorM1
import Derived.Test.YtidkkmoiolffnaaGreatDoorAvUn
import Derived.Shelf.GgClosure.Gives
import Derived.Test.YtidkkmoiolffnaaGreatDoorAvOld
import Derived.Test.YtidkkmoiolffnaaGreatDoorAvOwn
import Derived.Test.YtidkkmoiolffnaaGreatDoorAvTy
import Derived.Test.YtidkkmoiolffnaaGreatDoorAvClr
namespace Go.Proofs.YtidkkmoiolffnaaGreatDoor
open Go
set_option linter.unusedVariables false
set_option linter.unusedSimpArgs false
open Nat renaming reduceAdd → nA, reduceSub → nB, reduceMul → nC, reduceLT → nD, reduceLeDiff → nE, reduceEqDiff → nF, reduceMod → nG, reduceDiv → nH, reducePow → nI
abbrev zM20 : Option Tmp → Nat := mdL [(7, 1), (120, 1)]
abbrev zM21 : Option Tmp → Nat := mdL [(9, 1), (21, 2)]
abbrev zM22 : Option Tmp → Nat := mdL []
abbrev zM23 : Option Tmp → Nat := mdL [(65, 1)]
abbrev zM24 : Option Tmp → Nat := mdL [(4, 2)]
abbrev zM25 : Option Tmp → Nat := mdL [(6, 1), (8, 1), (11, 1)]
abbrev zM26 : Option Tmp → Nat := mdL [(7, 2)]
abbrev zM27 : Option Tmp → Nat := mdL [(11, 2)]
abbrev zM28 : Option Tmp → Nat := mdL [(6, 1)]
abbrev zM29 : Option Tmp → Nat := mdL [(4, 2), (6, 1), (8, 1), (9, 1)]
abbrev zM2A : Option Tmp → Nat := mdL [(5, 1), (9, 1)]
abbrev zM2B : Option Tmp → Nat := mdL [(28, 2)]
attribute [go_sem] zM20 zM21 zM22 zM23 zM24 zM25 zM26 zM27 zM28 zM29 zM2A zM2B
abbrev zP7E : List Nat := [0, 1, 2, 3, 4, 5, 6, 7, 8, 9, 10, 11, 12, 13, 14]
abbrev zP7P : List (Nat × List Nat × List Nat) := [(15, [], [])]
abbrev zP8E : List Nat := [0, 1, 2, 3, 4, 5, 6, 7]
abbrev zP8P : List (Nat × List Nat × List Nat) := [(8, [], [])]
abbrev zP9E : List Nat := [0, 1, 2, 3, 4, 5, 6, 7]
abbrev zP9P : List (Nat × List Nat × List Nat) := [(8, [], [9, 10]), (11, [], [])]
abbrev zPAE : List Nat := [0, 1, 2, 3, 4, 5, 6, 7, 8, 9, 10]
abbrev zPAP : List (Nat × List Nat × List Nat) := [(11, [], [12, 13]), (14, [], [])]
attribute [go_sem] zP7E zP7P zP8E zP8P zP9E zP9P zPAE zPAP
set_option maxRecDepth 100000
set_option maxHeartbeats 8000000
def boolsL (ks : List ByteArray) : List (ByteArray × AV) := ks.map fun k => (k, .v (.bool true))
theorem mget_bools : ∀ (ks : List ByteArray) (k : ByteArray), (k ∈ ks → mget k (boolsL ks) = some (.v (.bool true))) ∧ (k ∉ ks → mget k (boolsL ks) = none)
 | [], k => ⟨fun h => by simp at h, fun _ => rfl⟩
 | q :: ks, k => by
  obtain ⟨h1, h2⟩ := mget_bools ks k
  simp only [boolsL, List.map_cons, mget]
  by_cases e : q = k
  ·subst e; simp
  ·rw [if_neg e]
   exact ⟨fun h => h1 ((List.mem_cons.1 h).resolve_left (fun e' => e e'.symm)), fun h => h2 fun h3 => h (List.mem_cons.2 (.inr h3))⟩
theorem mset_bools : ∀ (ks : List ByteArray) (k : ByteArray), ∃ ks', mset k (.v (.bool true)) (boolsL ks) = boolsL ks' ∧ ∀ q ∈ ks', q = k ∨ q ∈ ks
 | [], k => ⟨[k], rfl, fun q hq => .inl (by simpa using hq)⟩
 | q :: ks, k => by
  obtain ⟨ks', h1, h2⟩ := mset_bools ks k
  simp only [boolsL, List.map_cons, mset] at h1 ⊢
  by_cases e : q = k
  ·subst e
   rw [if_pos rfl]
   exact ⟨q :: ks, rfl, fun x hx => .inr hx⟩
  ·rw [if_neg e, h1]
   refine ⟨q :: ks', rfl, fun x hx => ?_⟩
   rcases List.mem_cons.1 hx with rfl | hx
   ·exact .inr (by simp)
   ·exact (h2 x hx).imp id fun h => by simp [h]
def mixW (W : List Int) (e : Nat) : List Int := (stepW W).take e ++ W.drop e
theorem mixW_len (W : List Int) (e : Nat) (h : e ≤ W.length) : (mixW W e).length = W.length := by simp [mixW, stepW]; omega
theorem mixW_zero (W : List Int) : mixW W 0 = W := by simp [mixW]
theorem mixW_all (W : List Int) : mixW W W.length = stepW W := by
 rw [mixW, List.drop_length, List.append_nil, List.take_of_length_le (by simp [stepW])]
theorem mixW_get {W : List Int} {e : Nat} (h : e < W.length) : (mixW W e).getD e 0 = W.getD e 0 := by
 have hl : ((stepW W).take e).length = e := by simp [stepW]; omega
 rw [mixW, List.getD_eq_getElem?_getD, List.getElem?_append_right (by omega), hl, Nat.sub_self, List.getElem?_drop, Nat.add_zero, List.getD_eq_getElem?_getD]
theorem mixW_set {W : List Int} {e : Nat} (h : e < W.length) : (mixW W e).set e (max 0 (W.getD e 0 - 1)) = mixW W (e + 1) := by
 have hl : ((stepW W).take e).length = e := by simp [stepW]; omega
 have hd : W.drop e = W.getD e 0 :: W.drop (e + 1) := by rw [List.drop_eq_getElem_cons h, List.getD_eq_getElem?_getD, List.getElem?_eq_getElem h]; rfl
 have ht : (stepW W).take (e + 1) = (stepW W).take e ++ [max 0 (W.getD e 0 - 1)] := by
  rw [List.take_add_one, ← getD_stepW h, List.getD_eq_getElem?_getD, List.getElem?_eq_getElem (by simp [stepW]; exact h)]; rfl
 rw [mixW, mixW, ht, hd, List.set_append_right _ _ (by omega), hl, Nat.sub_self, List.set_cons_zero, List.append_assoc]; rfl
theorem upd_id {α : Type} {f : Nat → Option α} {k : Nat} {x : Option α} (h : f k = x) : upd f k x = f := by
 funext j
 by_cases e : j = k
 ·rw [e, upd_same, h]
 ·rw [upd_other _ _ e]
structure FS (h : Hp) (i kl kw ko mb : Nat) (ws : List Wn) (L W : List Int) (out : List ByteArray) (ks : List ByteArray) : Prop where
 hi : h.H i = some (.cells [.row 3 (ws.map encW) none, .arr 1 kl ws.length, .arr 1 kw ws.length, .arr 1 ko out.length, .map mb])
 hm : h.H mb = some (.map (boolsL ks))
 tl : h.T kl = some (.cont 1 (L.map encI))
 tw : h.T kw = some (.cont 1 (W.map encI))
 tq : h.T ko = some (.cont 1 (out.map encS))
 n1 : kl ≠ kw ∧ kl ≠ ko ∧ kw ≠ ko
 n2 : mb ≠ i
structure FB (ws : List Wn) (m : Nat) (L W : List Int) (out : List ByteArray) : Prop where
 sp : SpS (apt ws) m L W
 al : out.length + m ≤ 12
theorem FB.l1 {ws : List Wn} {m : Nat} {L W : List Int} {out : List ByteArray} (h : FB ws m L W out) : L.length = ws.length ∧ W.length = ws.length := by
 have h1 := h.sp.la; have h2 := h.sp.lw; simp [apt] at h1; omega
theorem FB.pos {ws : List Wn} {m : Nat} {L W : List Int} {out : List ByteArray} (h : FB ws (m + 1) L W out) : 0 < L.length := by
 cases L with
 | nil => have := h.sp.sm; simp at this; omega
 | cons a L => simp
def FF (h : Hp) (kl kw ko : Nat) (h' : Hp) (kw' ko' : Nat) : Prop := ∀ q, h.T q ≠ none → q ≠ kl → q ≠ kw → q ≠ ko → h'.T q = h.T q ∧ q ≠ kw' ∧ q ≠ ko'
theorem g_findSpr (ws : List Wn) (hn : ws.length ≤ 12) (i kl mb : Nat) : ∀ (m kw ko : Nat) (L W : List Int) (out ks : List ByteArray) (h : Hp), FS h i kl kw ko mb ws L W out ks → FB ws m L W out → BadOk (apt ws) ws.length ks →
  ACalls Tryz.prog 93 [.ptr i 0, .v (.int .i64 m)] h (fun r h' => ∃ (kw' ko' : Nat) (L' W' : List Int) (ks' : List ByteArray),
   match solve (apt ws) m L W with
   | some p => r = .v (.bool true) ∧ FS h' i kl kw' ko' mb ws L' W' (out ++ p.map (itm ws)) ks'
   | none => r = .v (.bool false) ∧ FS h' i kl kw' ko' mb ws L W out ks' ∧ BadOk (apt ws) ws.length ks' ∧ FF h kl kw ko h' kw' ko') := by
 intro m
 induction m with
 | zero =>
  intro kw ko L W out ks h hS hB hK
  refine gE Tryz.func93 rfl (by kernel_rfl) 140 rfl fun c => ?_
  (repeat (first | refine gO rfl ?_ | ((first | refine gM zM20 ?_ | (with_reducible refine wM ?_ ?_) | ((with_reducible refine xR ?_); refine uE 14 zM20 zP7E zP7P 142 rfl (by kernel_rfl) ?_) | ((with_reducible refine xS ?_); refine uD 16 zM20 zP8E zP8P 142 rfl (by kernel_rfl) ?_) | ((with_reducible refine xS ?_); refine uD 18 zM20 zP9E zP9P 142 rfl (by kernel_rfl) ?_) | ((with_reducible refine xS ?_); refine uD 21 zM20 zPAE zPAP 142 rfl (by kernel_rfl) ?_)) <;> ((try with_reducible intro K1 hK1); simp only [go_sem, ↓reduceIte, reduceCtorEq, nA, nB, nC, nD, nE, nF] <;> and_intros <;> first | (apply hK1; clear hK1 K1) | (intros; first | omega | decide | (simp_all <;> omega)) | skip))))
  refine awp_cond (t := _) rfl (fun _ => ?_) (fun h9 => by cases h9)
  (repeat (first | refine gO rfl ?_ | ((first | refine gM zM20 ?_ | (with_reducible refine wM ?_ ?_) | ((with_reducible refine xR ?_); refine uE 14 zM20 zP7E zP7P 142 rfl (by kernel_rfl) ?_) | ((with_reducible refine xS ?_); refine uD 16 zM20 zP8E zP8P 142 rfl (by kernel_rfl) ?_) | ((with_reducible refine xS ?_); refine uD 18 zM20 zP9E zP9P 142 rfl (by kernel_rfl) ?_) | ((with_reducible refine xS ?_); refine uD 21 zM20 zPAE zPAP 142 rfl (by kernel_rfl) ?_)) <;> ((try with_reducible intro K1 hK1); simp only [go_sem, ↓reduceIte, reduceCtorEq, nA, nB, nC, nD, nE, nF] <;> and_intros <;> first | (apply hK1; clear hK1 K1) | (intros; first | omega | decide | (simp_all <;> omega)) | skip))))
  simp only [Tryz.results93, go_sem, ↓reduceIte, reduceCtorEq, nA, nB, nC, nD, nE, nF]
  exact ⟨_, _, Weak.refl _, Hp.le.refl _, kw, ko, L, W, ks, rfl, by simpa using hS⟩
 | succ m ih =>
  intro kw ko L W out ks h hS hB hK
  obtain ⟨hl1, hw1⟩ := hB.l1
  have hp := hB.pos
  have e3 : (((m + 1 : Nat) : Int) == 0) = false := by simp; omega
  have ei := hS.hi
  have em := hS.hm
  have hkey := fun h2 (a : h2 = h) => g_key i kl kw (.row 3 (ws.map encW) none) (.arr 1 ko out.length) (.map mb) L W h2 (by rw [a, hl1]; exact ei) (by rw [a]; exact hS.tl) (by rw [a]; exact hS.tw) (by omega) hp (by omega) hB.sp.l0 hB.sp.w0
  have hmore := fun ks2 (h2 : BadOk (apt ws) ws.length ks2) h3 => h2.more (m := m + 1) (L := L) (W := W) hl1 hB.sp h3
  have hbad : (⟨(keyK L W).toArray⟩ : ByteArray) ∈ ks → solve (apt ws) (m + 1) L W = none := fun a => hK _ a (m + 1) L W hl1 hB.sp rfl
  generalize (⟨(keyK L W).toArray⟩ : ByteArray) = key at *
  refine gE Tryz.func93 rfl (by kernel_rfl) 140 rfl fun c => ?_
  (repeat (first | refine gO rfl ?_ | ((first | refine gM zM20 ?_ | (with_reducible refine wM ?_ ?_) | ((with_reducible refine xR ?_); refine uE 14 zM20 zP7E zP7P 142 rfl (by kernel_rfl) ?_) | ((with_reducible refine xS ?_); refine uD 16 zM20 zP8E zP8P 142 rfl (by kernel_rfl) ?_) | ((with_reducible refine xS ?_); refine uD 18 zM20 zP9E zP9P 142 rfl (by kernel_rfl) ?_) | ((with_reducible refine xS ?_); refine uD 21 zM20 zPAE zPAP 142 rfl (by kernel_rfl) ?_)) <;> ((try with_reducible intro K1 hK1); simp only [go_sem, ↓reduceIte, reduceCtorEq, nA, nB, nC, nD, nE, nF, e3] <;> and_intros <;> first | (apply hK1; clear hK1 K1) | (intros; first | omega | decide | (simp_all <;> omega)) | skip))))
  refine awp_cond (t := _) rfl (fun h9 => by cases h9) (fun _ => ?_)
  (repeat (first | refine gO rfl ?_ | ((first | refine gM zM20 ?_ | (with_reducible refine wM ?_ ?_) | ((with_reducible refine xR ?_); refine uE 14 zM20 zP7E zP7P 142 rfl (by kernel_rfl) ?_) | ((with_reducible refine xS ?_); refine uD 16 zM20 zP8E zP8P 142 rfl (by kernel_rfl) ?_) | ((with_reducible refine xS ?_); refine uD 18 zM20 zP9E zP9P 142 rfl (by kernel_rfl) ?_) | ((with_reducible refine xS ?_); refine uD 21 zM20 zPAE zPAP 142 rfl (by kernel_rfl) ?_)) <;> ((try with_reducible intro K1 hK1); simp only [go_sem, ↓reduceIte, reduceCtorEq, nA, nB, nC, nD, nE, nF] <;> and_intros <;> first | (apply hK1; clear hK1 K1) | (intros; first | omega | decide | (simp_all <;> omega)) | skip))))
  refine (hkey _ rfl).mono ?_; rintro _ hz ⟨rfl, hh⟩; apply hK1; clear hK1 K1; rw [hh]; clear hh hz
  clear hkey
  by_cases hin : key ∈ ks
  ·have hG := (mget_bools ks key).1 hin
   (repeat (first | refine gO rfl ?_ | ((first | refine gM zM20 ?_ | (with_reducible refine wM ?_ ?_) | ((with_reducible refine xR ?_); refine uE 14 zM20 zP7E zP7P 142 rfl (by kernel_rfl) ?_) | ((with_reducible refine xS ?_); refine uD 16 zM20 zP8E zP8P 142 rfl (by kernel_rfl) ?_) | ((with_reducible refine xS ?_); refine uD 18 zM20 zP9E zP9P 142 rfl (by kernel_rfl) ?_) | ((with_reducible refine xS ?_); refine uD 21 zM20 zPAE zPAP 142 rfl (by kernel_rfl) ?_)) <;> ((try with_reducible intro K1 hK1); simp only [go_sem, ↓reduceIte, reduceCtorEq, nA, nB, nC, nD, nE, nF, ei, em, hG] <;> and_intros <;> first | (apply hK1; clear hK1 K1) | (intros; first | omega | decide | (simp_all <;> omega)) | skip))))
   refine awp_cond (t := _) rfl (fun _ => ?_) (fun h9 => by cases h9)
   (repeat (first | refine gO rfl ?_ | ((first | refine gM zM20 ?_ | (with_reducible refine wM ?_ ?_) | ((with_reducible refine xR ?_); refine uE 14 zM20 zP7E zP7P 142 rfl (by kernel_rfl) ?_) | ((with_reducible refine xS ?_); refine uD 16 zM20 zP8E zP8P 142 rfl (by kernel_rfl) ?_) | ((with_reducible refine xS ?_); refine uD 18 zM20 zP9E zP9P 142 rfl (by kernel_rfl) ?_) | ((with_reducible refine xS ?_); refine uD 21 zM20 zPAE zPAP 142 rfl (by kernel_rfl) ?_)) <;> ((try with_reducible intro K1 hK1); simp only [go_sem, ↓reduceIte, reduceCtorEq, nA, nB, nC, nD, nE, nF] <;> and_intros <;> first | (apply hK1; clear hK1 K1) | (intros; first | omega | decide | (simp_all <;> omega)) | skip))))
   simp only [Tryz.results93, go_sem, ↓reduceIte, reduceCtorEq, nA, nB, nC, nD, nE, nF]
   refine ⟨_, _, Weak.refl _, Hp.le.refl _, kw, ko, L, W, ks, ?_⟩
   rw [hbad hin]
   exact ⟨rfl, hS, hK, fun q _ _ a b => ⟨rfl, a, b⟩⟩
  have hG := (mget_bools ks key).2 hin
  (repeat (first | refine gO rfl ?_ | ((first | refine gM zM20 ?_ | (with_reducible refine wM ?_ ?_) | ((with_reducible refine xR ?_); refine uE 14 zM20 zP7E zP7P 142 rfl (by kernel_rfl) ?_) | ((with_reducible refine xS ?_); refine uD 16 zM20 zP8E zP8P 142 rfl (by kernel_rfl) ?_) | ((with_reducible refine xS ?_); refine uD 18 zM20 zP9E zP9P 142 rfl (by kernel_rfl) ?_) | ((with_reducible refine xS ?_); refine uD 21 zM20 zPAE zPAP 142 rfl (by kernel_rfl) ?_)) <;> ((try with_reducible intro K1 hK1); simp only [go_sem, ↓reduceIte, reduceCtorEq, nA, nB, nC, nD, nE, nF, ei, em, hG] <;> and_intros <;> first | (apply hK1; clear hK1 K1) | (intros; first | omega | decide | (simp_all <;> omega)) | skip))))
  refine awp_cond (t := _) rfl (fun h9 => by cases h9) (fun _ => ?_)
  (repeat (first | refine gO rfl ?_ | ((first | refine gM zM20 ?_ | (with_reducible refine wM ?_ ?_) | ((with_reducible refine xR ?_); refine uE 14 zM20 zP7E zP7P 142 rfl (by kernel_rfl) ?_) | ((with_reducible refine xS ?_); refine uD 16 zM20 zP8E zP8P 142 rfl (by kernel_rfl) ?_) | ((with_reducible refine xS ?_); refine uD 18 zM20 zP9E zP9P 142 rfl (by kernel_rfl) ?_) | ((with_reducible refine xS ?_); refine uD 21 zM20 zPAE zPAP 142 rfl (by kernel_rfl) ?_)) <;> ((try with_reducible intro K1 hK1); simp only [go_sem, ↓reduceIte, reduceCtorEq, nA, nB, nC, nD, nE, nF, ei] <;> and_intros <;> first | (apply hK1; clear hK1 K1) | (intros; first | omega | decide | (simp_all <;> omega)) | skip))))
  have hHW : solve (apt ws) (m + 1) L W = fsome (tryI (apt ws) m L W) 0 ws.length := by rw [solve_succ, hl1]
  have HB := Lib.hid hB
  rw [hHW] at hmore ⊢
  clear hB hbad hG ei em hHW
  refine awp_loopC (rl false [0, 2, 3, 1, 17, 3, 116]) 0 (fun g s => ∃ (j kw2 ko2 : Nat) (ks2 : List ByteArray) (h2 : Hp), g + j = ws.length ∧ Go.RowKit.Hid (fsome (tryI (apt ws) m L W) 0 ws.length = fsome (tryI (apt ws) m L W) j (ws.length - j)) ∧ FS h2 i kl kw2 ko2 mb ws L W out ks2 ∧ BadOk (apt ws) ws.length ks2 ∧ FF h kl kw ko h2 kw2 ko2 ∧
   s = ⟨((.ptr i 0) :: (.v (.int .i64 (m + 1 : Nat))) :: (jnk 3 ((.v (.string key)) :: (jnk 17 ((.row 3 (ws.map encW) none) :: (.v (.int .i64 ws.length)) :: (.v (.int .i64 j)) :: (jnk 116 [])))))), [], h2⟩) ws.length ⟨0, kw, ko, ks, h, by omega, Lib.hid rfl, hS, hK, fun q _ _ a b => ⟨rfl, a, b⟩, rfl⟩ ?_
  rintro g _ ⟨j, kw2, ko2, ks2, h2, hj, HW, hS2, hK2, hF2, rfl⟩
  clear hS hK hin
  (repeat (first | refine gO rfl ?_ | ((first | refine gM zM20 ?_ | (with_reducible refine wM ?_ ?_) | ((with_reducible refine xR ?_); refine uE 14 zM20 zP7E zP7P 142 rfl (by kernel_rfl) ?_) | ((with_reducible refine xS ?_); refine uD 16 zM20 zP8E zP8P 142 rfl (by kernel_rfl) ?_) | ((with_reducible refine xS ?_); refine uD 18 zM20 zP9E zP9P 142 rfl (by kernel_rfl) ?_) | ((with_reducible refine xS ?_); refine uD 21 zM20 zPAE zPAP 142 rfl (by kernel_rfl) ?_)) <;> ((try with_reducible intro K1 hK1); simp only [go_sem, ↓reduceIte, reduceCtorEq, nA, nB, nC, nD, nE, nF] <;> and_intros <;> first | (apply hK1; clear hK1 K1) | (intros; first | omega | decide | (simp_all <;> omega)) | skip))))
  refine awp_cond (t := _) rfl (fun h5 => ?_) (fun h5 => ?_)
  ·simp only [decide_eq_true_eq] at h5
   have hjl : j < ws.length := by omega
   have gx : (ws.map encW).getD j [] = [.v (.string (ws.getD j default).1), .v (.int .i64 (ws.getD j default).2.1), .v (.int .i64 (ws.getD j default).2.2)] := getD_enc encW ws j default hjl
   have gl := getD_encI (L := L) (j := j) (by omega)
   have gw := getD_encI (L := W) (j := j) (by omega)
   have ga : (apt ws).getD j 0 = (ws.getD j default).2.2 := by simp [apt, List.getD_eq_getElem?_getD, hjl]
   have gi : itm ws j = (ws.getD j default).1 := rfl
   have c1 := HB.out.sp.l0 _ (mem_getD L (i := j) (by omega))
   have c2 := HB.out.sp.w0 _ (mem_getD W (i := j) (by omega))
   have c3 := HB.out.sp.a0 _ (mem_getD (apt ws) (i := j) (by simpa [apt] using hjl))
   have a12 := HB.out.al
   rw [show ws.length - j = (ws.length - (j + 1)) + 1 by omega] at HW
   have htI : tryI (apt ws) m L W j = if L.getD j 0 = 0 ∨ 0 < W.getD j 0 then none else (solve (apt ws) m (L.set j (L.getD j 0 - 1)) ((stepW W).set j ((apt ws).getD j 0))).map (j :: ·) := rfl
   have hNx := fun a => HB.out.sp.next (i := j) (by omega) a
   rw [ga] at c3 htI hNx
   have hml : (L.map encI).length = ws.length := by simpa using hl1
   have hmw : (W.map encI).length = ws.length := by simpa using hw1
   have r1 := hS2.hi
   have r5 := hS2.tl
   have r6 := hS2.tw
   by_cases hz : L.getD j 0 = 0
   ·have hd : (L.getD j 0 == 0) = true := by rw [hz]; rfl
    rw [if_pos (.inl hz)] at htI
    have HW2 := Lib.hid (HW.out.trans (fsome_none htI))
    clear HW htI hNx
    generalize L.getD j 0 = l at *
    generalize W.getD j 0 = c at *
    generalize ws.getD j default = x at *
    (repeat (first | refine gO rfl ?_ | ((first | refine gM zM20 ?_ | (with_reducible refine wM ?_ ?_) | ((with_reducible refine xR ?_); refine uE 14 zM20 zP7E zP7P 142 rfl (by kernel_rfl) ?_) | ((with_reducible refine xS ?_); refine uD 16 zM20 zP8E zP8P 142 rfl (by kernel_rfl) ?_) | ((with_reducible refine xS ?_); refine uD 18 zM20 zP9E zP9P 142 rfl (by kernel_rfl) ?_) | ((with_reducible refine xS ?_); refine uD 21 zM20 zPAE zPAP 142 rfl (by kernel_rfl) ?_)) <;> ((try with_reducible intro K1 hK1); simp only [go_sem, ↓reduceIte, reduceCtorEq, nA, nB, nC, nD, nE, nF, Int.toNat_natCast, gx, r1, r5, r6, gl, gw, hd, hml, hmw, hjl] <;> and_intros <;> first | (apply hK1; clear hK1 K1) | (intros; first | omega | decide | (simp_all <;> omega)) | skip))))
    refine awp_cond (t := _) rfl (fun _ => ?_) (fun h9 => by cases h9)
    (repeat (first | refine gO rfl ?_ | ((first | refine gM zM20 ?_ | (with_reducible refine wM ?_ ?_) | ((with_reducible refine xR ?_); refine uE 14 zM20 zP7E zP7P 142 rfl (by kernel_rfl) ?_) | ((with_reducible refine xS ?_); refine uD 16 zM20 zP8E zP8P 142 rfl (by kernel_rfl) ?_) | ((with_reducible refine xS ?_); refine uD 18 zM20 zP9E zP9P 142 rfl (by kernel_rfl) ?_) | ((with_reducible refine xS ?_); refine uD 21 zM20 zPAE zPAP 142 rfl (by kernel_rfl) ?_)) <;> ((try with_reducible intro K1 hK1); simp only [go_sem, ↓reduceIte, reduceCtorEq, nA, nB, nC, nD, nE, nF] <;> and_intros <;> first | (apply hK1; clear hK1 K1) | (intros; first | omega | decide | (simp_all <;> omega)) | skip))))
    exact ⟨g - 1, by omega, j + 1, kw2, ko2, ks2, h2, by omega, HW2, hS2, hK2, hF2, rfl⟩
   ·have hd : (L.getD j 0 == 0) = false := beq_eq_false_iff_ne.2 hz
    by_cases hw : 0 < W.getD j 0
    ·rw [if_pos (.inr hw)] at htI
     have HW2 := Lib.hid (HW.out.trans (fsome_none htI))
     clear HW htI hNx
     generalize L.getD j 0 = l at *
     generalize W.getD j 0 = c at *
     generalize ws.getD j default = x at *
     have hd2 : decide (0 < c) = true := by simpa using hw
     (repeat (first | refine gO rfl ?_ | ((first | refine gM zM20 ?_ | (with_reducible refine wM ?_ ?_) | ((with_reducible refine xR ?_); refine uE 14 zM20 zP7E zP7P 142 rfl (by kernel_rfl) ?_) | ((with_reducible refine xS ?_); refine uD 16 zM20 zP8E zP8P 142 rfl (by kernel_rfl) ?_) | ((with_reducible refine xS ?_); refine uD 18 zM20 zP9E zP9P 142 rfl (by kernel_rfl) ?_) | ((with_reducible refine xS ?_); refine uD 21 zM20 zPAE zPAP 142 rfl (by kernel_rfl) ?_)) <;> ((try with_reducible intro K1 hK1); simp only [go_sem, ↓reduceIte, reduceCtorEq, nA, nB, nC, nD, nE, nF, Int.toNat_natCast, gx, r1, r5, r6, gl, gw, hd, hd2, hml, hmw, hjl] <;> and_intros <;> first | (apply hK1; clear hK1 K1) | (intros; first | omega | decide | (simp_all <;> omega)) | skip))))
     refine awp_cond (t := _) rfl (fun _ => ?_) (fun h9 => by cases h9)
     (repeat (first | refine gO rfl ?_ | ((first | refine gM zM20 ?_ | (with_reducible refine wM ?_ ?_) | ((with_reducible refine xR ?_); refine uE 14 zM20 zP7E zP7P 142 rfl (by kernel_rfl) ?_) | ((with_reducible refine xS ?_); refine uD 16 zM20 zP8E zP8P 142 rfl (by kernel_rfl) ?_) | ((with_reducible refine xS ?_); refine uD 18 zM20 zP9E zP9P 142 rfl (by kernel_rfl) ?_) | ((with_reducible refine xS ?_); refine uD 21 zM20 zPAE zPAP 142 rfl (by kernel_rfl) ?_)) <;> ((try with_reducible intro K1 hK1); simp only [go_sem, ↓reduceIte, reduceCtorEq, nA, nB, nC, nD, nE, nF] <;> and_intros <;> first | (apply hK1; clear hK1 K1) | (intros; first | omega | decide | (simp_all <;> omega)) | skip))))
     exact ⟨g - 1, by omega, j + 1, kw2, ko2, ks2, h2, by omega, HW2, hS2, hK2, hF2, rfl⟩
    ·have hno : ¬ (L.getD j 0 = 0 ∨ 0 < W.getD j 0) := not_or.2 ⟨hz, hw⟩
     have hsp2 := hNx hno
     rw [if_neg hno] at htI
     clear hNx
     have hd2 : decide (0 < W.getD j 0) = false := by simpa using hw
     have hrestL : (L.set j (L.getD j 0 - 1)).set j (L.getD j 0) = L := by
      rw [List.set_set]
      apply List.ext_getElem?
      intro q
      by_cases e : j = q
      ·subst e; rw [List.getElem?_set_self (by omega), List.getD_eq_getElem?_getD, List.getElem?_eq_getElem (by omega)]; rfl
      ·rw [List.getElem?_set_ne e]
     have gl2 : ((L.set j (L.getD j 0 - 1)).map encI).getD j [] = [.v (.int .i64 (L.getD j 0 - 1))] := by rw [getD_encI (by simp; omega), getD_set_eq (by omega)]
     have sl := fun x => set_encI L j x
     have sl2 : ∀ x, ((L.set j (L.getD j 0 - 1)).map encI).set j [.v (.int .i64 x)] = ((L.set j (L.getD j 0 - 1)).set j x).map encI := fun x => set_encI _ j x
     have sw := fun x => set_encI (stepW W) j x
     have gs : ((stepW W).map encI).getD j [] = [.v (.int .i64 ((stepW W).getD j 0))] := getD_encI (by simp [stepW]; omega)
     have hms : ((stepW W).map encI).length = ws.length := by simp [stepW]; omega
     have hml2 : ((L.set j (L.getD j 0 - 1)).map encI).length = ws.length := by simpa using hl1
     have HW2 := Lib.hid HW.out
     have n1 := hS2.n1
     have n2 := hS2.n2
     clear HW hd
     have hd : (L.getD j 0 == 0) = false := beq_eq_false_iff_ne.2 hz
     generalize L.getD j 0 = l at *
     generalize hcW : W.getD j 0 = c at *
     generalize eL2 : L.set j (l - 1) = L2 at *
     generalize ws.getD j default = x at *
     (repeat (first | refine gO rfl ?_ | ((first | refine gM zM20 ?_ | (with_reducible refine wM ?_ ?_) | ((with_reducible refine xR ?_); refine uE 14 zM20 zP7E zP7P 142 rfl (by kernel_rfl) ?_) | ((with_reducible refine xS ?_); refine uD 16 zM20 zP8E zP8P 142 rfl (by kernel_rfl) ?_) | ((with_reducible refine xS ?_); refine uD 18 zM20 zP9E zP9P 142 rfl (by kernel_rfl) ?_) | ((with_reducible refine xS ?_); refine uD 21 zM20 zPAE zPAP 142 rfl (by kernel_rfl) ?_)) <;> ((try with_reducible intro K1 hK1); simp only [go_sem, ↓reduceIte, reduceCtorEq, nA, nB, nC, nD, nE, nF, Int.toNat_natCast, gx, r1, r5, r6, gl, gw, hd, hd2, hml, hmw, hjl] <;> and_intros <;> first | (apply hK1; clear hK1 K1) | (intros; first | omega | decide | (simp_all <;> omega)) | skip))))
     refine awp_cond (t := _) rfl (fun h9 => by cases h9) (fun _ => ?_)
     (repeat (first | refine gO rfl ?_ | ((first | refine gM zM20 ?_ | (with_reducible refine wM ?_ ?_) | ((with_reducible refine xR ?_); refine uE 14 zM20 zP7E zP7P 142 rfl (by kernel_rfl) ?_) | ((with_reducible refine xS ?_); refine uD 16 zM20 zP8E zP8P 142 rfl (by kernel_rfl) ?_) | ((with_reducible refine xS ?_); refine uD 18 zM20 zP9E zP9P 142 rfl (by kernel_rfl) ?_) | ((with_reducible refine xS ?_); refine uD 21 zM20 zPAE zPAP 142 rfl (by kernel_rfl) ?_)) <;> ((try with_reducible intro K1 hK1); simp only [go_sem, ↓reduceIte, reduceCtorEq, nA, nB, nC, nD, nE, nF, r1] <;> and_intros <;> first | (apply hK1; clear hK1 K1) | (intros; first | omega | decide | (simp_all <;> omega)) | skip))))
     refine (g_cloneArr kw2 ws.length W _ r6 hw1 (by omega) (by omega)).mono ?_
     rintro _ _ ⟨kc, hkc, rfl, rfl⟩
     refine hK1 _ ?_; clear hK1 K1
     have m1 : kl ≠ kc := fun e => by rw [← e, r5] at hkc; cases hkc
     have m2 : kw2 ≠ kc := fun e => by rw [← e, r6] at hkc; cases hkc
     have m3 : ko2 ≠ kc := fun e => by rw [← e, hS2.tq] at hkc; cases hkc
     (repeat (first | refine gO rfl ?_ | ((first | refine gM zM20 ?_ | (with_reducible refine wM ?_ ?_) | ((with_reducible refine xR ?_); refine uE 14 zM20 zP7E zP7P 142 rfl (by kernel_rfl) ?_) | ((with_reducible refine xS ?_); refine uD 16 zM20 zP8E zP8P 142 rfl (by kernel_rfl) ?_) | ((with_reducible refine xS ?_); refine uD 18 zM20 zP9E zP9P 142 rfl (by kernel_rfl) ?_) | ((with_reducible refine xS ?_); refine uD 21 zM20 zPAE zPAP 142 rfl (by kernel_rfl) ?_)) <;> ((try with_reducible intro K1 hK1); simp only [go_sem, ↓reduceIte, reduceCtorEq, nA, nB, nC, nD, nE, nF, r1] <;> and_intros <;> first | (apply hK1; clear hK1 K1) | (intros; first | omega | decide | (simp_all <;> omega)) | skip))))
     refine awp_loopC (rl false [0, 2, 3, 4, 14, 3, 30, 3, 83]) 1 (fun g2 s => ∃ e : Nat, g2 + e = ws.length ∧
      s = ⟨((.ptr i 0) :: (.v (.int .i64 (m + 1 : Nat))) :: (jnk 3 ((.v (.string key)) :: (.v (.int .i64 j)) :: (.loc 0 0) :: (.arr 1 kc ws.length) :: (jnk 14 ((.row 3 (ws.map encW) none) :: (.v (.int .i64 ws.length)) :: (.v (.int .i64 j)) :: (jnk 30 ((.arr 1 kw2 ws.length) :: (.v (.int .i64 ws.length)) :: (.v (.int .i64 e)) :: (jnk 83 [])))))))),
       [[.v (.string x.1), .v (.int .i64 x.2.1), .v (.int .i64 x.2.2)]], ⟨h2.H, upd (upd h2.T kc (some (.cont 1 (W.map encI)))) kw2 (some (.cont 1 ((mixW W e).map encI)))⟩⟩) ws.length ⟨0, by omega, by
        rw [mixW_zero, upd_id (show upd h2.T kc _ kw2 = _ by rw [upd_other _ _ m2]; exact r6)]; rfl⟩ ?_
     rintro g2 _ ⟨e, he, rfl⟩
     (repeat (first | refine gO rfl ?_ | ((first | refine gM zM20 ?_ | (with_reducible refine wM ?_ ?_) | ((with_reducible refine xR ?_); refine uE 14 zM20 zP7E zP7P 142 rfl (by kernel_rfl) ?_) | ((with_reducible refine xS ?_); refine uD 16 zM20 zP8E zP8P 142 rfl (by kernel_rfl) ?_) | ((with_reducible refine xS ?_); refine uD 18 zM20 zP9E zP9P 142 rfl (by kernel_rfl) ?_) | ((with_reducible refine xS ?_); refine uD 21 zM20 zPAE zPAP 142 rfl (by kernel_rfl) ?_)) <;> ((try with_reducible intro K1 hK1); simp only [go_sem, ↓reduceIte, reduceCtorEq, nA, nB, nC, nD, nE, nF] <;> and_intros <;> first | (apply hK1; clear hK1 K1) | (intros; first | omega | decide | (simp_all <;> omega)) | skip))))
     refine awp_cond (t := _) rfl (fun h7 => ?_) (fun h7 => ?_)
     ·simp only [decide_eq_true_eq] at h7
      have hel : e < ws.length := by omega
      have x1 := getD_encI (L := mixW W e) (j := e) (by rw [mixW_len _ _ (by omega)]; omega)
      rw [mixW_get (by omega)] at x1
      have x2 := fun y => set_encI (mixW W e) e y
      have x3 := mixW_set (W := W) (e := e) (by omega)
      have x4 : ((mixW W e).map encI).length = ws.length := by rw [List.length_map, mixW_len _ _ (by omega)]; omega
      have x5 := HB.out.sp.w0 _ (mem_getD W (i := e) (by omega))
      generalize W.getD e 0 = y at *
      (repeat (first | refine gO rfl ?_ | ((first | refine gM zM20 ?_ | (with_reducible refine wM ?_ ?_) | ((with_reducible refine xR ?_); refine uE 14 zM20 zP7E zP7P 142 rfl (by kernel_rfl) ?_) | ((with_reducible refine xS ?_); refine uD 16 zM20 zP8E zP8P 142 rfl (by kernel_rfl) ?_) | ((with_reducible refine xS ?_); refine uD 18 zM20 zP9E zP9P 142 rfl (by kernel_rfl) ?_) | ((with_reducible refine xS ?_); refine uD 21 zM20 zPAE zPAP 142 rfl (by kernel_rfl) ?_)) <;> ((try with_reducible intro K1 hK1); simp only [go_sem, ↓reduceIte, reduceCtorEq, nA, nB, nC, nD, nE, nF, Int.toNat_natCast, r1, x1, x2, x3, x4, hel, upd_upd] <;> and_intros <;> first | (apply hK1; clear hK1 K1) | (intros; first | omega | decide | (simp_all <;> omega)) | skip))))
      exact ⟨g2 - 1, by omega, e + 1, by omega, rfl⟩
     ·simp only [decide_eq_false_iff_not] at h7
      have hel : e = W.length := by omega
      subst hel
      rw [mixW_all]
      have y5 : ∀ A B, upd (upd h2.T kc A) kw2 B kl = some (.cont 1 (L.map encI)) := fun A B => by rw [upd_other _ _ n1.1, upd_other _ _ m1]; exact r5
      have y6 : ∀ A B C, upd (upd (upd h2.T kc A) kw2 B) kl C ko2 = some (.cont 1 (out.map encS)) := fun A B C => by rw [upd_other _ _ (Ne.symm n1.2.1), upd_other _ _ (Ne.symm n1.2.2), upd_other _ _ m3]; exact hS2.tq
      have hlo : (out.map encS).length = out.length := by simp
      have hao : out.map encS ++ [[.v (.string x.1)]] = (out ++ [x.1]).map encS := by simp [encS]
      have hmo : ((m + 1 : Nat) : Int) - 1 = (m : Int) := by omega
      (repeat (first | refine gO rfl ?_ | ((first | refine gM zM20 ?_ | (with_reducible refine wM ?_ ?_) | ((with_reducible refine xR ?_); refine uE 14 zM20 zP7E zP7P 142 rfl (by kernel_rfl) ?_) | ((with_reducible refine xS ?_); refine uD 16 zM20 zP8E zP8P 142 rfl (by kernel_rfl) ?_) | ((with_reducible refine xS ?_); refine uD 18 zM20 zP9E zP9P 142 rfl (by kernel_rfl) ?_) | ((with_reducible refine xS ?_); refine uD 21 zM20 zPAE zPAP 142 rfl (by kernel_rfl) ?_)) <;> ((try with_reducible intro K1 hK1); simp only [go_sem, ↓reduceIte, reduceCtorEq, nA, nB, nC, nD, nE, nF, Int.toNat_natCast, r1, gs, sw, hms, y5, gl, sl, eL2, hml, hjl, upd_upd, y6, hlo, hao, hmo] <;> and_intros <;> first | (apply hK1; clear hK1 K1) | (intros; first | omega | decide | (simp_all <;> omega)) | skip))))
      have hS3 : FS ⟨upd h2.H i (some (.cells [.row 3 (ws.map encW) none, .arr 1 kl ws.length, .arr 1 kw2 ws.length, .arr 1 ko2 (out.length + 1), .map mb])), upd (upd (upd (upd h2.T kc (some (.cont 1 (W.map encI)))) kw2 (some (.cont 1 (((stepW W).set j x.2.2).map encI)))) kl (some (.cont 1 (L2.map encI)))) ko2 (some (.cont 1 ((out ++ [x.1]).map encS)))⟩
        i kl kw2 ko2 mb ws L2 ((stepW W).set j x.2.2) (out ++ [x.1]) ks2 := by
       refine ⟨?_, ?_, ?_, ?_, upd_same _ _ _, n1, n2⟩
       ·show upd _ _ _ _ = _; rw [upd_same]; simp
       ·show upd _ _ _ _ = _; rw [upd_other _ _ n2]; exact hS2.hm
       ·show upd _ _ _ _ = _; rw [upd_other _ _ n1.2.1, upd_same]
       ·show upd _ _ _ _ = _; rw [upd_other _ _ n1.2.2, upd_other _ _ (Ne.symm n1.1), upd_same]
      have hB3 : FB ws m L2 ((stepW W).set j x.2.2) (out ++ [x.1]) := ⟨hsp2, by simp; omega⟩
      have hkcA : upd (upd (upd (upd h2.T kc (some (.cont 1 (W.map encI)))) kw2 (some (.cont 1 (((stepW W).set j x.2.2).map encI)))) kl (some (.cont 1 (L2.map encI)))) ko2 (some (.cont 1 ((out ++ [x.1]).map encS))) kc = some (.cont 1 (W.map encI)) := by
       rw [upd_other _ _ (Ne.symm m3), upd_other _ _ (Ne.symm m1), upd_other _ _ (Ne.symm m2), upd_same]
      have hothA : ∀ q, h2.T q ≠ none → q ≠ kl → q ≠ kw2 → q ≠ ko2 → upd (upd (upd (upd h2.T kc (some (.cont 1 (W.map encI)))) kw2 (some (.cont 1 (((stepW W).set j x.2.2).map encI)))) kl (some (.cont 1 (L2.map encI)))) ko2 (some (.cont 1 ((out ++ [x.1]).map encS))) q = h2.T q := fun q a b c d => by
       have hqc : q ≠ kc := fun e => a (by rw [e]; exact hkc)
       rw [upd_other _ _ d, upd_other _ _ b, upd_other _ _ c, upd_other _ _ hqc]
      refine (ih kw2 ko2 L2 ((stepW W).set j x.2.2) (out ++ [x.1]) ks2 _ hS3 hB3 hK2).mono ?_
      rintro r9 h9 ⟨kw3, ko3, L3, W3, ks3, hm⟩
      cases e : solve (apt ws) m L2 ((stepW W).set j x.2.2) with
      | some p =>
       rw [e] at hm htI
       obtain ⟨rfl, hS4⟩ := hm
       refine hK1 _ ?_; clear hK1 K1
       (repeat (first | refine gO rfl ?_ | ((first | refine gM zM20 ?_ | (with_reducible refine wM ?_ ?_) | ((with_reducible refine xR ?_); refine uE 14 zM20 zP7E zP7P 142 rfl (by kernel_rfl) ?_) | ((with_reducible refine xS ?_); refine uD 16 zM20 zP8E zP8P 142 rfl (by kernel_rfl) ?_) | ((with_reducible refine xS ?_); refine uD 18 zM20 zP9E zP9P 142 rfl (by kernel_rfl) ?_) | ((with_reducible refine xS ?_); refine uD 21 zM20 zPAE zPAP 142 rfl (by kernel_rfl) ?_)) <;> ((try with_reducible intro K1 hK1); simp only [go_sem, ↓reduceIte, reduceCtorEq, nA, nB, nC, nD, nE, nF] <;> and_intros <;> first | (apply hK1; clear hK1 K1) | (intros; first | omega | decide | (simp_all <;> omega)) | skip))))
       refine awp_cond (t := _) rfl (fun _ => ?_) (fun h9 => by cases h9)
       (repeat (first | refine gO rfl ?_ | ((first | refine gM zM20 ?_ | (with_reducible refine wM ?_ ?_) | ((with_reducible refine xR ?_); refine uE 14 zM20 zP7E zP7P 142 rfl (by kernel_rfl) ?_) | ((with_reducible refine xS ?_); refine uD 16 zM20 zP8E zP8P 142 rfl (by kernel_rfl) ?_) | ((with_reducible refine xS ?_); refine uD 18 zM20 zP9E zP9P 142 rfl (by kernel_rfl) ?_) | ((with_reducible refine xS ?_); refine uD 21 zM20 zPAE zPAP 142 rfl (by kernel_rfl) ?_)) <;> ((try with_reducible intro K1 hK1); simp only [go_sem, ↓reduceIte, reduceCtorEq, nA, nB, nC, nD, nE, nF] <;> and_intros <;> first | (apply hK1; clear hK1 K1) | (intros; first | omega | decide | (simp_all <;> omega)) | skip))))
       simp only [Tryz.results93, go_sem, ↓reduceIte, reduceCtorEq, nA, nB, nC, nD, nE, nF]
       refine ⟨_, _, Weak.refl _, Hp.le.refl _, kw3, ko3, L3, W3, ks3, ?_⟩
       rw [HW2.out, fsome_some (x := j :: p) (by rw [htI]; rfl)]
       refine ⟨rfl, ?_⟩
       rw [List.map_cons, gi, List.append_cons]
       exact hS4
      | none =>
       rw [e] at hm htI
       obtain ⟨rfl, hS4, hK4, hF4⟩ := hm
       have HW3 := Lib.hid (HW2.out.trans (fsome_none (by rw [htI]; rfl)))
       have hkc4 := hF4 kc (fun e9 => absurd (hkcA.symm.trans e9) (by simp)) (Ne.symm m1) (Ne.symm m2) (Ne.symm m3)
       have hTc : h9.T kc = some (.cont 1 (W.map encI)) := hkc4.1.trans hkcA
       refine hK1 _ ?_; clear hK1 K1
       (repeat (first | refine gO rfl ?_ | ((first | refine gM zM20 ?_ | (with_reducible refine wM ?_ ?_) | ((with_reducible refine xR ?_); refine uE 14 zM20 zP7E zP7P 142 rfl (by kernel_rfl) ?_) | ((with_reducible refine xS ?_); refine uD 16 zM20 zP8E zP8P 142 rfl (by kernel_rfl) ?_) | ((with_reducible refine xS ?_); refine uD 18 zM20 zP9E zP9P 142 rfl (by kernel_rfl) ?_) | ((with_reducible refine xS ?_); refine uD 21 zM20 zPAE zPAP 142 rfl (by kernel_rfl) ?_)) <;> ((try with_reducible intro K1 hK1); simp only [go_sem, ↓reduceIte, reduceCtorEq, nA, nB, nC, nD, nE, nF] <;> and_intros <;> first | (apply hK1; clear hK1 K1) | (intros; first | omega | decide | (simp_all <;> omega)) | skip))))
       refine awp_cond (t := _) rfl (fun h9 => by cases h9) (fun _ => ?_)
       have z1 := hS4.hi
       have z8 := hS4.tq
       have n1' := hS4.n1
       have hlq : (((out ++ [x.1]).length : Int) - 1).toNat = out.length := by simp
       have htq : ((out ++ [x.1]).map encS).take out.length = out.map encS := by rw [List.map_append, List.take_left' (by simp)]
       have hlm : ((out ++ [x.1]).map encS).length = (out ++ [x.1]).length := by simp
       have hlen9 : (out ++ [x.1]).length = out.length + 1 := by simp
       clear hS3 hkcA hsp2 hB3 hmo h7 he hd hd2 hno hz hw gs sw e3 y5 y6 hlo hao sl gx gl gw
       have HF4 := Lib.hid hF4
       have HOA := Lib.hid hothA
       clear hF4 hothA
       (repeat (first | refine gO rfl ?_ | ((first | refine gM zM20 ?_ | (with_reducible refine wM ?_ ?_) | ((with_reducible refine xR ?_); refine uE 14 zM20 zP7E zP7P 142 rfl (by kernel_rfl) ?_) | ((with_reducible refine xS ?_); refine uD 16 zM20 zP8E zP8P 142 rfl (by kernel_rfl) ?_) | ((with_reducible refine xS ?_); refine uD 18 zM20 zP9E zP9P 142 rfl (by kernel_rfl) ?_) | ((with_reducible refine xS ?_); refine uD 21 zM20 zPAE zPAP 142 rfl (by kernel_rfl) ?_)) <;> ((try with_reducible intro K1 hK1); simp only [go_sem, ↓reduceIte, reduceCtorEq, nA, nB, nC, nD, nE, nF, z1, z8, hlm, hlq, htq, Option.toList_none, Option.toList_some, List.append_eq, List.nil_append, List.cons_append, uside] <;> and_intros <;> first | (apply hK1; clear hK1 K1) | (intros; first | omega | decide) | skip))))
       intro q hq
       have hlive : ∀ k, h9.T k ≠ none → k ≠ q := fun k hk2 e => by
        rw [← e] at hq; exact hk2 hq
       have hql : kl ≠ q := hlive kl (by rw [hS4.tl]; simp)
       have hqc : kc ≠ q := hlive kc (by rw [hTc]; simp)
       have y5 : ∀ A, upd (upd h9.T ko3 none) q A kl = some (.cont 1 (L2.map encI)) := fun A => by rw [upd_other _ _ hql, upd_other _ _ n1'.2.1]; exact hS4.tl
       refine hK1 _ ?_; clear hK1 K1
       have hel : l - 1 + 1 = l := by omega
       (repeat (first | refine gO rfl ?_ | ((first | refine gM zM20 ?_ | (with_reducible refine wM ?_ ?_) | ((with_reducible refine xR ?_); refine uE 14 zM20 zP7E zP7P 142 rfl (by kernel_rfl) ?_) | ((with_reducible refine xS ?_); refine uD 16 zM20 zP8E zP8P 142 rfl (by kernel_rfl) ?_) | ((with_reducible refine xS ?_); refine uD 18 zM20 zP9E zP9P 142 rfl (by kernel_rfl) ?_) | ((with_reducible refine xS ?_); refine uD 21 zM20 zPAE zPAP 142 rfl (by kernel_rfl) ?_)) <;> ((try with_reducible intro K1 hK1); simp only [go_sem, ↓reduceIte, reduceCtorEq, nA, nB, nC, nD, nE, nF, Int.toNat_natCast, z1, upd_same, y5, gl2, sl2, hml2, hjl, hel, hrestL, upd_upd] <;> and_intros <;> first | (apply hK1; clear hK1 K1) | (intros; first | omega | decide) | skip))))
       refine ⟨g - 1, by omega, j + 1, kc, q, ks3, _, by omega, HW3, ⟨?_, ?_, ?_, ?_, ?_, ⟨m1, hql, hqc⟩, n2⟩, hK4, fun q0 a0 a1 a2 a3 => ?_, rfl⟩
       ·exact upd_same _ _ _
       ·show upd _ _ _ _ = _; rw [upd_other _ _ n2]; exact hS4.hm
       ·exact upd_same _ _ _
       ·show upd _ _ _ _ = _; rw [upd_other _ _ (Ne.symm m1), upd_other _ _ hqc, upd_other _ _ hkc4.2.2]; exact hTc
       ·show upd _ _ _ _ = _; rw [upd_other _ _ (Ne.symm hql), upd_same]
       ·obtain ⟨b1, b2, b3⟩ := hF2 q0 a0 a1 a2 a3
        have b4 : h2.T q0 ≠ none := by rw [b1]; exact a0
        have b5 := HOA.out q0 b4 a1 b2 b3
        have b6 : q0 ≠ kc := fun e9 => b4 (by rw [e9]; exact hkc)
        obtain ⟨d1, d2, d3⟩ := HF4.out q0 (fun e9 => b4 (b5.symm.trans e9)) a1 b2 b3
        have d4 : h9.T q0 = h2.T q0 := d1.trans b5
        have d5 : q0 ≠ q := hlive q0 (by rw [d4]; exact b4)
        refine ⟨?_, b6, d5⟩
        show upd _ _ _ _ = _
        rw [upd_other _ _ a1, upd_other _ _ d5, upd_other _ _ d3, d4, b1]
  ·simp only [decide_eq_false_iff_not] at h5
   have hjl : j = ws.length := by omega
   subst hjl
   rw [Nat.sub_self, fsome] at HW
   have q1 := hS2.hi
   have q2 := hS2.hm
   obtain ⟨ks3, q3, q4⟩ := mset_bools ks2 key
   have n2 := hS2.n2
   have hK3 : BadOk (apt ws) ws.length ks3 := fun q hq => by
    have hm := hmore ks2 hK2 HW.out
    rcases q4 q hq with rfl | h9
    ·exact hm q (by simp)
    ·exact hm q (by simp [h9])
   (repeat (first | refine gO rfl ?_ | ((first | refine gM zM20 ?_ | (with_reducible refine wM ?_ ?_) | ((with_reducible refine xR ?_); refine uE 14 zM20 zP7E zP7P 142 rfl (by kernel_rfl) ?_) | ((with_reducible refine xS ?_); refine uD 16 zM20 zP8E zP8P 142 rfl (by kernel_rfl) ?_) | ((with_reducible refine xS ?_); refine uD 18 zM20 zP9E zP9P 142 rfl (by kernel_rfl) ?_) | ((with_reducible refine xS ?_); refine uD 21 zM20 zPAE zPAP 142 rfl (by kernel_rfl) ?_)) <;> ((try with_reducible intro K1 hK1); simp only [go_sem, ↓reduceIte, reduceCtorEq, nA, nB, nC, nD, nE, nF, q1, q2, q3] <;> and_intros <;> first | (apply hK1; clear hK1 K1) | (intros; first | omega | decide | (simp_all <;> omega)) | skip))))
   simp only [Tryz.results93, go_sem, ↓reduceIte, reduceCtorEq, nA, nB, nC, nD, nE, nF]
   refine ⟨_, _, Weak.refl _, Hp.le.refl _, kw2, ko2, L, W, ks3, ?_⟩
   rw [HW.out]
   refine ⟨rfl, ⟨?_, upd_same _ _ _, hS2.tl, hS2.tw, hS2.tq, hS2.n1, n2⟩, hK3, hF2⟩
   show upd _ _ _ _ = _; rw [upd_other _ _ (Ne.symm n2)]; exact q1
theorem mem_idsT {i c : Nat} {az : List AT} {x : Nat} (h : x ∈ idsT (.mk i c az)) : x = i ∨ ∃ j, j < az.length ∧ x ∈ idsT (az.getD j default) := by
 rw [idsT_eq] at h
 rcases List.mem_cons.1 h with h | h
 ·exact .inl h
 ·obtain ⟨l, hl, hx⟩ := List.mem_flatten.1 h
  obtain ⟨a, ha, rfl⟩ := List.mem_map.1 hl
  obtain ⟨j, hj, rfl⟩ := List.getElem_of_mem ha
  exact .inr ⟨j, hj, by rw [List.getD_eq_getElem?_getD, List.getElem?_eq_getElem hj]; exact hx⟩
theorem mem_toksT {i c : Nat} {az : List AT} {x : Nat} (h : x ∈ toksT (.mk i c az)) : x = c ∨ ∃ j, j < az.length ∧ x ∈ toksT (az.getD j default) := by
 rw [toksT_eq] at h
 rcases List.mem_cons.1 h with h | h
 ·exact .inl h
 ·obtain ⟨l, hl, hx⟩ := List.mem_flatten.1 h
  obtain ⟨a, ha, rfl⟩ := List.mem_map.1 hl
  obtain ⟨j, hj, rfl⟩ := List.getElem_of_mem ha
  exact .inr ⟨j, hj, by rw [List.getD_eq_getElem?_getD, List.getElem?_eq_getElem hj]; exact hx⟩
theorem RAt.ne {X : RK} {h : Hp} : ∀ {d : Nat} {t : LT} {a : AT} {s : PS}, RAt X h d t a s → (∀ i ∈ idsT a, h.H i ≠ none) ∧ (∀ c ∈ toksT a, h.T c ≠ none)
 | 0, _, _, _, h => h.elim
 | d + 1, .mk kind item long many kids shares, .mk i c az, .mk p cs ks, ⟨⟨K, h1, hK⟩, h2, h3, h4⟩ => by
  refine ⟨fun x hx => ?_, fun x hx => ?_⟩
  ·rcases mem_idsT hx with rfl | ⟨j, hj, hx⟩
   ·rw [h1]; simp
   ·exact (h4 j (by omega)).ne.1 x hx
  ·rcases mem_toksT hx with rfl | ⟨j, hj, hx⟩
   ·rw [h2]; simp
   ·exact (h4 j (by omega)).ne.2 x hx
theorem RAt.cont {X : RK} {h : Hp} : ∀ {d : Nat} {t : LT} {a : AT} {s : PS}, RAt X h d t a s → ∀ c ∈ toksT a, ∃ xs, h.T c = some (.cont 1 xs)
 | 0, _, _, _, h => h.elim
 | d + 1, .mk kind item long many kids shares, .mk i c az, .mk p cs ks, ⟨_, h2, h3, h4⟩ => fun x hx => by
  rcases mem_toksT hx with rfl | ⟨j, hj, hx⟩
  ·exact ⟨_, h2⟩
  ·exact (h4 j (by omega)).cont x hx
def NewI (X : RK) (d : Nat) (kids : List LT) (h : Hp) (i c : Nat) (az : List AT) (h' : Hp) : Prop :=
 (∀ l, l < az.length → RAt X h' d (kids.getD l default) (az.getD l default) (ps0 (kids.getD l default)) ∧ (i ∉ idsT (az.getD l default) ∧ c ∉ toksT (az.getD l default) ∧ Sep d (az.getD l default)) ∧
  (∀ x ∈ idsT (az.getD l default), h.H x = none) ∧ (∀ x ∈ toksT (az.getD l default), h.T x = none)) ∧
 (∀ j l, j < az.length → l < az.length → l ≠ j → (∀ x ∈ idsT (az.getD j default), x ∉ idsT (az.getD l default)) ∧ (∀ x ∈ toksT (az.getD j default), x ∉ toksT (az.getD l default))) ∧
 (∀ x, h.H x ≠ none → h'.H x = h.H x) ∧ (∀ x, h.T x ≠ none → h'.T x = h.T x)
theorem getD_snoc {α : Type} (l : List α) (x d : α) (j : Nat) : (l ++ [x]).getD j d = if j = l.length then x else l.getD j d := by
 simp only [List.getD_eq_getElem?_getD]
 split
 ·rename_i h; subst h; simp
 ·rename_i h
  by_cases hj : j < l.length
  ·rw [List.getElem?_append_left hj]
  ·rw [List.getElem?_eq_none (by simp; omega), List.getElem?_eq_none (by omega)]
theorem NewI.more {X : RK} {d : Nat} {kids : List LT} {h h1 h2 : Hp} {i c : Nat} {az : List AT} (hI : NewI X d kids h i c az h1) (hi0 : h.H i = none) (hi : h1.H i ≠ none) (hc : h1.T c ≠ none) {a : AT}
  (hR : RAt X h2 d (kids.getD az.length default) a (ps0 (kids.getD az.length default))) (hS : Sep d a) (hn1 : ∀ x ∈ idsT a, h1.H x = none) (hn2 : ∀ x ∈ toksT a, h1.T x = none) (hk1 : ∀ x, h1.H x ≠ none → x ≠ i → h2.H x = h1.H x) (hk2 : ∀ x xs, h1.T x = some (.cont 1 xs) → h2.T x = h1.T x) (hk3 : ∀ x, h.T x ≠ none → h2.T x = h.T x) : NewI X d kids h i c (az ++ [a]) h2 := by
 obtain ⟨g1, g2, g3, g4⟩ := hI
 have o1 : ∀ x, h1.H x = none → h.H x = none := fun x hx => by
  cases e : h.H x with
  | none => rfl
  | some y => have := g3 x (by rw [e]; simp); rw [hx, e] at this; cases this
 have o2 : ∀ x, h1.T x = none → h.T x = none := fun x hx => by
  cases e : h.T x with
  | none => rfl
  | some y => have := g4 x (by rw [e]; simp); rw [hx, e] at this; cases this
 refine ⟨fun l hl => ?_, fun j l hj hl hne => ?_, fun x hx => (hk1 x (by rw [g3 x hx]; exact hx) (fun e => by subst e; exact hx hi0)).trans (g3 x hx), hk3⟩
 ·rw [getD_snoc]
  split
  ·rename_i e
   subst e
   exact ⟨hR, ⟨fun hx => hi (hn1 _ hx), fun hx => hc (hn2 _ hx), hS⟩, fun x hx => o1 x (hn1 x hx), fun x hx => o2 x (hn2 x hx)⟩
  ·rename_i e
   obtain ⟨f1, f2, f3, f4⟩ := g1 l (by simp at hl; omega)
   exact ⟨f1.frame (fun x hx => hk1 x (f1.ne.1 x hx) (fun e => by subst e; exact f2.1 hx)) (fun x hx => let ⟨xs, e⟩ := f1.cont x hx; hk2 x xs e), f2, f3, f4⟩
 ·simp only [List.length_append, List.length_cons, List.length_nil] at hj hl
  rw [getD_snoc, getD_snoc]
  split <;> split
  ·omega
  ·have f1 := (g1 l (by omega)).1
   exact ⟨fun x hx hx2 => f1.ne.1 x hx2 (hn1 x hx), fun x hx hx2 => f1.ne.2 x hx2 (hn2 x hx)⟩
  ·have f1 := (g1 j (by omega)).1
   exact ⟨fun x hx hx2 => f1.ne.1 x hx (hn1 x hx2), fun x hx hx2 => f1.ne.2 x hx (hn2 x hx2)⟩
  ·exact g2 j l (by omega) (by omega) hne
abbrev zPBE : List Nat := [0, 1, 2, 3]
abbrev zPBP : List (Nat × List Nat × List Nat) := [(4, [0], [5]), (6, [], [7])]
abbrev zPCE : List Nat := [0, 1, 2, 3, 4, 5]
abbrev zPCP : List (Nat × List Nat × List Nat) := [(6, [4], [7]), (8, [], [9, 10]), (11, [], [])]
attribute [go_sem] zPBE zPBP zPCE zPCP
def XP : RK := ⟨fun t => match t with | .mk _ _ _ _ _ shares => [.v (.int .i64 shares.sum)], fun kind cs => if kind = 4 then cs else List.replicate cs.length 0⟩
abbrev zPDE : List Nat := [0, 1, 2, 3, 4, 5, 6, 7, 8, 9, 10, 11, 12, 13, 14, 15, 16, 17, 18, 19, 20]
abbrev zPDP : List (Nat × List Nat × List Nat) := []
abbrev zPEE : List Nat := [0, 1, 2, 3, 4, 5, 6, 7, 8, 9, 10]
abbrev zPEP : List (Nat × List Nat × List Nat) := []
attribute [go_sem] zPDE zPDP zPEE zPEP
def FrP (a : AT) (o k : Nat) (h h' : Hp) : Prop := (∀ i, i ∉ idsT a → i ≠ o → h'.H i = h.H i) ∧ (∀ c, c ∉ toksT a → c ≠ k → h'.T c = h.T c)
theorem FrP.trans {a : AT} {o k : Nat} {h h1 h2 : Hp} (f : FrP a o k h h1) (g : FrP a o k h1 h2) : FrP a o k h h2 :=
 ⟨fun i x y => (g.1 i x y).trans (f.1 i x y), fun i x y => (g.2 i x y).trans (f.2 i x y)⟩
theorem FrP.kid {i c : Nat} {az : List AT} {j : Nat} {o k : Nat} {h h' : Hp} (hj : j < az.length) (f : FrP (az.getD j default) o k h h') : FrP (.mk i c az) o k h h' :=
 ⟨fun x hx ho => f.1 x (fun h => hx (idsT_kid hj h)) ho, fun x hx ho => f.2 x (fun h => hx (toksT_kid hj h)) ho⟩
theorem getD_setS {α : Type} (l : List α) (j : Nat) (x d : α) (h : j < l.length) : (l.set j x).getD j d = x := by rw [List.getD_eq_getElem?_getD, List.getElem?_set_self h]; rfl
theorem getD_setN {α : Type} (l : List α) (j i : Nat) (x d : α) (h : j ≠ i) : (l.set j x).getD i d = l.getD i d := by rw [List.getD_eq_getElem?_getD, List.getElem?_set_ne h, ← List.getD_eq_getElem?_getD]
theorem RAt.kid {X : RK} {h h' : Hp} {d : Nat} {kind : Int} {item : ByteArray} {long many : Int} {kids : List LT} {shares : List Int} {i c : Nat} {az : List AT} {p : Int} {cs : List Int} {ks : List PS}
  (hR : RAt X h (d + 1) (.mk kind item long many kids shares) (.mk i c az) (.mk p cs ks)) (hS : Sep (d + 1) (.mk i c az)) {o k : Nat} (ho : o ∉ idsT (.mk i c az)) (hk : k ∉ toksT (.mk i c az)) {j : Nat} (hj : j < kids.length) {s' : PS}
  (hj' : RAt X h' d (kids.getD j default) (az.getD j default) s') (hf : FrP (az.getD j default) o k h h') : RAt X h' (d + 1) (.mk kind item long many kids shares) (.mk i c az) (.mk p cs (ks.set j s')) := by
 obtain ⟨⟨K, h1, hK⟩, h2, ⟨l1, l2, l3, l4⟩, h4⟩ := hR
 have hjz : j < az.length := by omega
 have hSj := hS j hjz
 refine ⟨⟨K, (hf.1 i hSj.1.1 (fun e => ho (by rw [idsT_eq, e]; simp))).trans h1, hK⟩, (hf.2 c hSj.1.2.1 (fun e => hk (by rw [toksT_eq, e]; simp))).trans h2, ⟨l1, l2, l3, by simpa using l4⟩, fun l hl => ?_⟩
 by_cases hlj : j = l
 ·subst hlj
  rw [getD_setS _ _ _ _ (by omega)]
  exact hj'
 ·rw [getD_setN _ _ _ _ _ hlj]
  have hd := hSj.2 l (by omega) (fun e => hlj e.symm)
  exact (h4 l hl).frame (fun x hx => hf.1 x (fun hx2 => hd.1 x hx2 hx) (fun e => ho (by rw [← e]; exact idsT_kid (by omega) hx))) (fun x hx => hf.2 x (fun hx2 => hd.2 x hx2 hx) (fun e => hk (by rw [← e]; exact toksT_kid (by omega) hx)))
theorem RAt.tokNe {X : RK} {h : Hp} {d : Nat} {t : LT} {a : AT} {s : PS} (hR : RAt X h d t a s) {k n : Nat} (hk : h.T k = some (.tail n)) : k ∉ toksT a := fun hx => by
 obtain ⟨xs, e⟩ := hR.cont k hx
 rw [hk] at e; cases e
def FOk (d : Nat) (kids : List LT) (n : Int) (a : List Int × List PS) : Prop :=
 (a.1.length = kids.length ∧ a.2.length = kids.length) ∧ (∀ x ∈ a.1, 0 ≤ x ∧ x ≤ n) ∧ ∀ j, j < kids.length → PSB d (kids.getD j default) (a.2.getD j default) n
theorem mem_set_or {l : List Int} {j : Nat} {v x : Int} (h : x ∈ l.set j v) : x ∈ l ∨ x = v := List.mem_or_eq_of_mem_set h
theorem stepU_ok {d : Nat} {f : LT → PS → PS × List (ByteArray × Int)} {kids : List LT} {n : Int} {a : (List Int × List PS) × List (ByteArray × Int)} (hf : FOk d kids n a.1) {i : Nat} (hi : i < kids.length) {m : Nat}
  (hm : (f (kids.getD i default) (a.1.2.getD i default)).2.length = m) (hm1 : 1 ≤ m) (hp : PSB d (kids.getD i default) (f (kids.getD i default) (a.1.2.getD i default)).1 (n + m)) : FOk d kids (n + m) (stepU f kids a i).1 ∧ (stepU f kids a i).2.length = a.2.length + m := by
 obtain ⟨⟨l1, l2⟩, h1, h2⟩ := hf
 refine ⟨⟨⟨by simp [stepU, l1], by simp [stepU, l2]⟩, fun x hx => ?_, fun j hj => ?_⟩, by simp only [stepU, List.length_append, hm]⟩
 ·rcases mem_set_or hx with h | h
  ·have := h1 x h; omega
  ·have := h1 _ (getD_mem' a.1.1 i 0 (by omega)); omega
 ·simp only [stepU]
  by_cases hij : i = j
  ·subst hij; rw [getD_setS _ _ _ _ (by omega)]; exact hp
  ·rw [getD_setN _ _ _ _ _ hij]; exact (h2 j hj).mono (by omega)
theorem idxL_lt {kind p many : Int} {nk nx : Nat} (hk : 1 ≤ kind ∧ kind ≤ 5) (hn : kind ≠ 1 → 0 < nk) (hx : kind = 4 → nx < nk) (hp : 0 ≤ p) : ∀ i ∈ idxL kind p many nk nx, i < nk := by
 intro i hi
 unfold idxL at hi
 split at hi
 ·simp at hi
 ·rename_i h1
  have h0 := hn h1
  split at hi
  ·simpa using hi
  ·split at hi
   ·simp only [List.mem_singleton] at hi
    subst hi
    have := Int.tmod_lt_of_pos p (show (0 : Int) < nk by omega)
    have := Int.tmod_nonneg (nk : Int) hp
    omega
   ·split at hi
    ·simp only [List.mem_singleton] at hi; subst hi; exact hx (by assumption)
    ·have := (List.mem_replicate.1 hi).2; omega
theorem idxL_ne {kind p many : Int} {nk nx : Nat} (hk : 1 ≤ kind ∧ kind ≤ 5) (h1 : kind ≠ 1) (hn : 0 < nk) (hm : kind = 5 → 1 ≤ many) : idxL kind p many nk nx ≠ [] := by
 unfold idxL
 rw [if_neg h1]
 split
 ·intro h; have := congrArg List.length h; simp at this; omega
 ·split
  ·simp
  ·split
   ·simp
   ·intro h; have := congrArg List.length h; simp at this; have := hm (by omega); omega
def Fits : Nat → LT → PS → Prop
 | 0, _, _ => False
 | d + 1, .mk _ _ _ _ kids _, .mk _ cs ks => (cs.length = kids.length ∧ ks.length = kids.length) ∧ ∀ j, j < kids.length → Fits d (kids.getD j default) (ks.getD j default)
theorem RAt.fits {X : RK} {h : Hp} : ∀ {d : Nat} {t : LT} {a : AT} {s : PS}, RAt X h d t a s → Fits d t s
 | 0, _, _, _, h => h.elim
 | d + 1, .mk .., .mk .., .mk .., ⟨_, _, h3, h4⟩ => ⟨⟨h3.2.1, h3.2.2.2⟩, fun j hj => (h4 j hj).fits⟩
theorem passU_ok : ∀ (d : Nat) (t : LT) (s : PS) (n : Int), VL d t → Fits d t s → 0 ≤ n → PSB d t s n → 1 ≤ (passU d t s).2.length ∧ PSB d t (passU d t s).1 (n + (passU d t s).2.length) ∧ Fits d t (passU d t s).1
 | 0, _, _, _, h, _, _, _ => h.elim
 | d + 1, .mk kind item long many kids shares, .mk p cs ks, n, hv, hft, hn, hb => by
  obtain ⟨v1, v2, v3, v4, v5, v6, v7, v8⟩ := hv
  obtain ⟨⟨f1, f2⟩, f3⟩ := hft
  obtain ⟨c1, c2, c3⟩ := hb
  rw [passU_succ]
  have hnk : kind ≠ 1 → 0 < kids.length := fun h => List.length_pos_iff.2 (v3 h)
  have hidx := idxL_lt (many := many) (nx := nextF shares p cs) v1 hnk (fun h4 => by rw [← v5 h4]; exact bestTo_lt _ _ (by rw [v5 h4]; exact hnk (by omega))) c1.1
  have hne := fun h => idxL_ne (p := p) (nx := nextF shares p cs) v1 h (hnk h) (fun h5 => (v4 h5).2.1)
  have hnil : kind = 1 → idxL kind p many kids.length (nextF shares p cs) = [] := fun h => by unfold idxL; rw [if_pos h]
  generalize idxL kind p many kids.length (nextF shares p cs) = L at *
  -- the fold
  have key : ∀ (L : List Nat), (∀ i ∈ L, i < kids.length) → ∀ (a : (List Int × List PS) × List (ByteArray × Int)) (m : Int), 0 ≤ m → FOk d kids m a.1 → (∀ j, j < kids.length → Fits d (kids.getD j default) (a.1.2.getD j default)) →
    FOk d kids (m + ((L.foldl (stepU (passU d) kids) a).2.length - a.2.length)) (L.foldl (stepU (passU d) kids) a).1 ∧ (∀ j, j < kids.length → Fits d (kids.getD j default) ((L.foldl (stepU (passU d) kids) a).1.2.getD j default)) ∧
    a.2.length + L.length ≤ (L.foldl (stepU (passU d) kids) a).2.length := by
   intro L
   induction L with
   | nil => intro _ a m _ ha hfi; exact ⟨by simpa using ha, hfi, by simp⟩
   | cons i L ih =>
    intro hL a m hm ha hfi
    have hi := hL i (by simp)
    have hmem := getD_mem' kids i default hi
    obtain ⟨g1, g2, g3⟩ := passU_ok d (kids.getD i default) (a.1.2.getD i default) m (v8 _ hmem) (hfi i hi) hm (ha.2.2 i hi)
    obtain ⟨s1, s2⟩ := stepU_ok (f := passU d) ha hi rfl g1 g2
    have hfi2 : ∀ j, j < kids.length → Fits d (kids.getD j default) ((stepU (passU d) kids a i).1.2.getD j default) := fun j hj => by
     simp only [stepU]
     by_cases hij : i = j
     ·subst hij; rw [getD_setS _ _ _ _ (by rw [ha.1.2]; exact hi)]; exact g3
     ·rw [getD_setN _ _ _ _ _ hij]; exact hfi j hj
    obtain ⟨r1, r2, r3⟩ := ih (fun j hj => hL j (by simp [hj])) (stepU (passU d) kids a i) _ (by omega) s1 hfi2
    simp only [List.foldl_cons]
    refine ⟨?_, r2, by simp only [List.length_cons]; omega⟩
    have e : m + (((L.foldl (stepU (passU d) kids) (stepU (passU d) kids a i)).2.length : Int) - a.2.length) = m + ((passU d (kids.getD i default) (a.1.2.getD i default)).2.length) + (((L.foldl (stepU (passU d) kids) (stepU (passU d) kids a i)).2.length : Int) - (stepU (passU d) kids a i).2.length) := by rw [s2]; omega
    rw [e]; exact r1
  obtain ⟨r1, r2, r3⟩ := key L hidx ((cs, ks), if kind = 1 then [(item, long)] else []) n hn ⟨⟨f1, f2⟩, c2, c3⟩ f3
  have hlen : 1 ≤ (L.foldl (stepU (passU d) kids) ((cs, ks), if kind = 1 then [(item, long)] else [])).2.length ∧ n + (((L.foldl (stepU (passU d) kids) ((cs, ks), if kind = 1 then [(item, long)] else [])).2.length : Int) - (if kind = 1 then [(item, long)] else []).length) ≤ n + (L.foldl (stepU (passU d) kids) ((cs, ks), if kind = 1 then [(item, long)] else [])).2.length := by
   by_cases h1 : kind = 1
   ·rw [hnil h1]; simp [h1]; omega
   ·have := List.length_pos_iff.2 (hne h1)
    rw [if_neg h1] at r3 ⊢
    simp only [List.length_nil] at r3 ⊢
    omega
  refine ⟨hlen.1, ⟨by simp only []; omega, fun x hx => ⟨(r1.2.1 x hx).1, Int.le_trans (r1.2.1 x hx).2 hlen.2⟩, fun j hj => (r1.2.2 j hj).mono hlen.2⟩, ⟨r1.1, r2⟩⟩
def LT.kd : LT → Int
 | .mk k _ _ _ _ _ => k
def LT.mn : LT → Int
 | .mk _ _ _ m _ _ => m
def LT.ks : LT → List LT
 | .mk _ _ _ _ l _ => l
def LT.hd (t : LT) : LT := t.ks.getD 0 default
def repK (n : Int) (l : List LT) : LT := .mk 5 ⟨#[]⟩ 0 n l []
def rowT (l : List LT) : LT := .mk 2 ⟨#[]⟩ 0 0 l []
def cnt (t : LT) : Option (LT × Int) := if t.kd = 1 then some (t, 1) else if t.kd = 5 ∧ t.hd.kd = 1 then some (t.hd, t.mn) else none
open Classical in
noncomputable def runN (it : LT) : List LT → Int × Nat
 | [] => (0, 0)
 | x :: xs => match cnt x with
  | some (y, n) => if y = it then (n + (runN it xs).1, (runN it xs).2 + 1) else (0, 0)
  | none => (0, 0)
def manyT (it : LT) (n : Nat) : List LT := List.replicate (n / 100) (repK 100 [it]) ++ if n % 100 = 0 then [] else if n % 100 = 1 then [it] else [repK (n % 100 : Nat) [it]]
noncomputable def gathF : Nat → List LT → List LT
 | 0, _ => []
 | _ + 1, [] => []
 | f + 1, x :: xs => match cnt x with
  | none => x :: gathF f xs
  | some (it, n) => manyT it (n + (runN it xs).1).toNat ++ gathF f (xs.drop (runN it xs).2)
noncomputable def gath (l : List LT) : List LT := gathF l.length l
def flatT (l : List LT) : List LT := l.flatMap fun k => if k.kd = 2 then k.ks else [k]
def gcdN : List Nat → Nat
 | [] => 0
 | x :: xs => Nat.gcd x (gcdN xs)
def gcdI (l : List Int) : Nat := gcdN (l.map Int.toNat)
def divI (g : Nat) (l : List Int) : List Int := l.map fun x => x / (g : Int)
def plainT : LT → Bool
 | .mk kind _ _ _ kids _ => kind != 3 && kind != 4 && (kids.map plainT).all id
def WF : LT → Prop
 | .mk kind item long many kids shares => (1 ≤ kind ∧ kind ≤ 5) ∧ (kind = 1 → kids = [] ∧ shares = [] ∧ many = 0) ∧ (kind ≠ 1 → item = ⟨#[]⟩ ∧ long = 0 ∧ kids ≠ []) ∧ (kind = 5 → kids.length = 1 ∧ 1 ≤ many ∧ many ≤ 100) ∧ (kind ≠ 5 → many = 0) ∧
   (kind = 4 → shares.length = kids.length) ∧ (kind ≠ 4 → shares = []) ∧ (∀ x ∈ shares, 1 ≤ x ∧ x ≤ 1000) ∧ (NB long ∧ item.size ≤ 2) ∧ ∀ k ∈ kids, WF k
theorem WF_eq (kind : Int) (item : ByteArray) (long many : Int) (kids : List LT) (shares : List Int) : WF (.mk kind item long many kids shares) = ((1 ≤ kind ∧ kind ≤ 5) ∧ (kind = 1 → kids = [] ∧ shares = [] ∧ many = 0) ∧ (kind ≠ 1 → item = ⟨#[]⟩ ∧ long = 0 ∧ kids ≠ []) ∧ (kind = 5 → kids.length = 1 ∧ 1 ≤ many ∧ many ≤ 100) ∧ (kind ≠ 5 → many = 0) ∧
   (kind = 4 → shares.length = kids.length) ∧ (kind ≠ 4 → shares = []) ∧ (∀ x ∈ shares, 1 ≤ x ∧ x ≤ 1000) ∧ (NB long ∧ item.size ≤ 2) ∧ ∀ k ∈ kids, WF k) := by rw [WF]
open Classical in
noncomputable def stepT : LT → Option LT
 | .mk kind item long many kids shares =>
  if kind = 1 then none
  else if kind = 5 then if many = 1 then some (kids.getD 0 default) else if (kids.getD 0 default).kd = 5 ∧ many * (kids.getD 0 default).mn ≤ 100 then some (repK (many * (kids.getD 0 default).mn) (kids.getD 0 default).ks) else none
  else if kids.length = 1 then some (kids.getD 0 default)
  else if kind = 2 then if gath (flatT kids) = kids then none else some (rowT (gath (flatT kids)))
  else if kind = 4 then if 1 < gcdI shares then some (.mk 4 item long many kids (divI (gcdI shares) shares)) else none
  else if plainT (kids.getD 0 default) = true ∧ ∀ k ∈ kids, k = kids.getD 0 default then some (kids.getD 0 default) else none
def HS : LT → Prop
 | .mk kind item long many kids shares => stepT (.mk kind item long many kids shares) = none ∧ ∀ k ∈ kids, HS k
theorem HS_eq (kind : Int) (item : ByteArray) (long many : Int) (kids : List LT) (shares : List Int) : HS (.mk kind item long many kids shares) = (stepT (.mk kind item long many kids shares) = none ∧ ∀ k ∈ kids, HS k) := by rw [HS]
theorem HS.st {t : LT} (h : HS t) : stepT t = none := by cases t; rw [HS_eq] at h; exact h.1
theorem HS.kids {t : LT} (h : HS t) : ∀ k ∈ t.ks, HS k := by cases t; rw [HS_eq] at h; exact h.2
theorem WF.kids {t : LT} (h : WF t) : ∀ k ∈ t.ks, WF k := by cases t; rw [WF_eq] at h; exact h.2.2.2.2.2.2.2.2.2
theorem WF.ne {t : LT} (h : WF t) (hk : t.kd ≠ 1) : t.ks ≠ [] := by
 cases t; rw [WF_eq] at h; exact (h.2.2.1 hk).2.2
def passesU (d : Nat) (t : LT) : Nat → PS × List (ByteArray × Int)
 | 0 => (ps0 t, [])
 | n + 1 => ((passU d t (passesU d t n).1).1, (passesU d t n).2 ++ (passU d t (passesU d t n).1).2)
def everyF (kind : Int) (nk : Nat) (shares : List Int) : Int := if kind = 3 then nk else if kind = 4 then shares.sum / gcdI shares else 1
def homeF : Nat → LT → PS → Bool
 | 0, _, _ => true
 | d + 1, .mk kind _ _ _ kids shares, .mk p _ ks => (p.tmod (everyF kind kids.length shares) == 0) && (List.range kids.length).all fun j => homeF d (kids.getD j default) (ks.getD j default)
def RoundIs (d : Nat) (t : LT) (N : Nat) : Prop := (1 ≤ N ∧ N ≤ 5000) ∧ (passesU d t N).2.length ≤ 5000 ∧ homeF d t (passesU d t N).1 = true ∧ ∀ n, 1 ≤ n → n < N → homeF d t (passesU d t n).1 = false
theorem RoundIs.eq {d : Nat} {t : LT} {N M : Nat} (h : RoundIs d t N) (k : RoundIs d t M) : N = M := by
 obtain ⟨a, _, b, c⟩ := h
 obtain ⟨a', _, b', c'⟩ := k
 rcases Nat.lt_trichotomy N M with h | h | h
 ·rw [c' N a.1 h] at b; cases b
 ·exact h
 ·rw [c M a'.1 h] at b'; cases b'
abbrev zPFE : List Nat := [0, 1, 2, 3]
abbrev zPFP : List (Nat × List Nat × List Nat) := [(4, [], []), (5, [], [])]
attribute [go_sem] zPFE zPFP
abbrev zPGE : List Nat := [0, 1, 2, 3, 4, 5, 6, 7, 8]
abbrev zPGP : List (Nat × List Nat × List Nat) := [(9, [3], [10, 11])]
attribute [go_sem] zPGE zPGP
def PassRel (d : Nat) (t : LT) (s : PS) (out : List (ByteArray × Int)) (s' : PS) (out' : List (ByteArray × Int)) : Prop :=
 (5000 < out.length → s' = s ∧ out' = out) ∧ (out.length ≤ 5000 → out.length + (passU d t s).2.length ≤ 5000 → s' = (passU d t s).1 ∧ out' = out ++ (passU d t s).2) ∧
 (out.length ≤ 5000 → 5000 < out.length + (passU d t s).2.length → out'.length = 5001 ∧ PSB d t s' 5001)
def RunR (d : Nat) (kids : List LT) (out : List (ByteArray × Int)) (acc : (List Int × List PS) × List (ByteArray × Int)) (cs : List Int) (ks : List PS) (out' : List (ByteArray × Int)) : Prop :=
 FOk d kids out'.length (cs, ks) ∧ out'.length ≤ 5001 ∧ (out.length + acc.2.length ≤ 5000 → (cs, ks) = acc.1 ∧ out' = out ++ acc.2) ∧ (5000 < out.length + acc.2.length → out'.length = 5001)
theorem set_getD {α : Type} (l : List α) (x : Nat) (d : α) : l.set x (l.getD x d) = l := by
 by_cases h : x < l.length
 ·rw [List.getD_eq_getElem?_getD, List.getElem?_eq_getElem h]; simp
 ·rw [List.set_eq_of_length_le (by omega)]
theorem RunR.step {d : Nat} {kids : List LT} {out : List (ByteArray × Int)} {acc : (List Int × List PS) × List (ByteArray × Int)} {cs : List Int} {ks : List PS} {out' : List (ByteArray × Int)} (hR : RunR d kids out acc cs ks out') {x : Nat} (hx : x < kids.length)
  (hv : VL d (kids.getD x default)) (hf : Fits d (kids.getD x default) (ks.getD x default)) {s'' : PS} {out'' : List (ByteArray × Int)} (hp : PassRel d (kids.getD x default) (ks.getD x default) out' s'' out'') :
  RunR d kids out (stepU (passU d) kids acc x) (if out.length + acc.2.length ≤ 5000 then cs.set x (cs.getD x 0 + 1) else cs) (ks.set x s'') out'' := by
 obtain ⟨h1, h2, h3, h4⟩ := hR
 obtain ⟨p1, p2, p3⟩ := hp
 obtain ⟨⟨f1, f2⟩, f3, f4⟩ := id h1
 have hpo := passU_ok d (kids.getD x default) (ks.getD x default) out'.length hv hf (by omega) (f4 x hx)
 by_cases hex : out.length + acc.2.length ≤ 5000
 ·rw [if_pos hex]
  obtain ⟨e1, e2⟩ := h3 hex
  have e3 : acc.1.1 = cs := by rw [← e1]
  have e4 : acc.1.2 = ks := by rw [← e1]
  have e5 : out'.length = out.length + acc.2.length := by rw [e2, List.length_append]
  have hst : (stepU (passU d) kids acc x).1 = (cs.set x (cs.getD x 0 + 1), ks.set x (passU d (kids.getD x default) (ks.getD x default)).1) := by simp only [stepU, e3, e4]
  have hs2 : (stepU (passU d) kids acc x).2 = acc.2 ++ (passU d (kids.getD x default) (ks.getD x default)).2 := by simp only [stepU, e4]
  by_cases hk : out'.length + (passU d (kids.getD x default) (ks.getD x default)).2.length ≤ 5000
  ·obtain ⟨rfl, rfl⟩ := p2 (by omega) hk
   have hh : FOk d kids out'.length acc.1 := by rw [← e1]; exact h1
   obtain ⟨s1, s2⟩ := stepU_ok (f := passU d) (a := acc) hh hx (by rw [e4]) hpo.1 (by rw [e4]; exact hpo.2.1)
   rw [hst] at s1
   refine ⟨by rw [List.length_append]; exact_mod_cast s1, by rw [List.length_append]; omega, fun _ => ⟨hst.symm, by rw [hs2, e2, List.append_assoc]⟩, fun h => ?_⟩
   rw [hs2, List.length_append] at h; omega
  ·obtain ⟨q1, q2⟩ := p3 (by omega) (by omega)
   have q1' : (out''.length : Int) = 5001 := by omega
   refine ⟨⟨⟨by simpa using f1, by simpa using f2⟩, fun y hy => ?_, fun j hj => ?_⟩, by omega, fun h => ?_, fun _ => q1⟩
   ·rw [q1']
    rcases mem_set_or hy with h | h
    ·have := f3 y h; omega
    ·have := f3 _ (getD_mem' cs x 0 (show x < cs.length from by have : cs.length = kids.length := f1; omega)); omega
   ·rw [q1']
    show PSB d (kids.getD j default) ((ks.set x s'').getD j default) 5001
    by_cases hxj : x = j
    ·subst hxj; rw [getD_setS _ _ _ _ (by have : ks.length = kids.length := f2; omega)]; exact q2
    ·rw [getD_setN _ _ _ _ _ hxj]; exact (f4 j hj).mono (by omega)
   ·rw [hs2, List.length_append] at h; omega
 ·rw [if_neg hex]
  have e5 := h4 (by omega)
  obtain ⟨rfl, rfl⟩ := p1 (by omega)
  rw [set_getD]
  have hs2 : acc.2.length ≤ (stepU (passU d) kids acc x).2.length := by simp [stepU]
  exact ⟨h1, h2, fun h => by omega, fun _ => e5⟩
def oEx : List AV := [.v (.int .i64 5000)]
def St2 (d : Nat) (t : LT) (kids : List LT) (a : AT) (p : Int) (h : Hp) (o k : Nat) (out : List (ByteArray × Int)) (acc : (List Int × List PS) × List (ByteArray × Int)) (h1 : Hp) (cs : List Int) (ks : List PS) (out' : List (ByteArray × Int)) : Prop :=
 RAt XP h1 (d + 1) t a (.mk p cs ks) ∧ OutAt h1 o k oEx out' ∧ FrP a o k h h1 ∧ RunR d kids out acc cs ks out'
def PRp (d : Nat) (t : LT) (a : AT) (s : PS) (h : Hp) (o k : Nat) (out : List (ByteArray × Int)) (r : AV) (h' : Hp) : Prop :=
 r = .tup [] ∧ ∃ s' out', RAt XP h' d t a s' ∧ OutAt h' o k oEx out' ∧ FrP a o k h h' ∧ PassRel d t s out s' out'
theorem RAt.counts {h : Hp} {d : Nat} {kind : Int} {item : ByteArray} {long many : Int} {kids : List LT} {shares : List Int} {a : AT} {p : Int} {cs cs' : List Int} {ks : List PS} (h4 : kind ≠ 4) (hl : cs'.length = cs.length)
  (hR : RAt XP h (d + 1) (.mk kind item long many kids shares) a (.mk p cs ks)) : RAt XP h (d + 1) (.mk kind item long many kids shares) a (.mk p cs' ks) := by
 cases a with
 | mk i c az =>
  obtain ⟨h1, h2, ⟨l1, l2, l3, l4⟩, h5⟩ := hR
  have e : XP.cf kind cs' = XP.cf kind cs := by simp only [XP, if_neg h4, hl]
  exact ⟨h1, by rw [e]; exact h2, ⟨by rw [e]; exact l1, by omega, l3, l4⟩, h5⟩
theorem St2.next {d : Nat} {kind : Int} {item : ByteArray} {long many : Int} {kids : List LT} {shares : List Int} {i c : Nat} {az : List AT} {p : Int} {h : Hp} {o k : Nat} {out : List (ByteArray × Int)} {acc : (List Int × List PS) × List (ByteArray × Int)} {h1 : Hp} {cs : List Int} {ks : List PS} {out' : List (ByteArray × Int)}
  (hs : St2 d (.mk kind item long many kids shares) kids (.mk i c az) p h o k out acc h1 cs ks out') (h4 : kind ≠ 4) (hS : Sep (d + 1) (.mk i c az)) (ho : o ∉ idsT (.mk i c az)) {x : Nat} (hx : x < kids.length) (hv : VL d (kids.getD x default))
  {r : AV} {h3 : Hp} (hp : PRp d (kids.getD x default) (az.getD x default) (ks.getD x default) h1 o k out' r h3) : ∃ cs' ks' out'', St2 d (.mk kind item long many kids shares) kids (.mk i c az) p h o k out (stepU (passU d) kids acc x) h3 cs' ks' out'' := by
 obtain ⟨g1, g2, g3, g4⟩ := hs
 obtain ⟨rfl, s', out'', r1, r2, r3, r4⟩ := hp
 obtain ⟨_, _, ⟨l1, l2, l3, l4⟩, hk⟩ := id g1
 have hkt := g1.tokNe g2.2
 refine ⟨if out.length + acc.2.length ≤ 5000 then cs.set x (cs.getD x 0 + 1) else cs, ks.set x s', out'', (g1.kid hS ho hkt hx r1 r3).counts h4 (by split <;> simp), r2, g3.trans (r3.kid (by omega)), g4.step hx hv (hk x hx).fits r4⟩
theorem St2.ask {d : Nat} {kind : Int} {item : ByteArray} {long many : Int} {kids : List LT} {shares : List Int} {i c : Nat} {az : List AT} {p : Int} {h : Hp} {o k : Nat} {out : List (ByteArray × Int)} {acc : (List Int × List PS) × List (ByteArray × Int)} {h1 : Hp} {cs : List Int} {ks : List PS} {out' : List (ByteArray × Int)}
  (hs : St2 d (.mk kind item long many kids shares) kids (.mk i c az) p h o k out acc h1 cs ks out') (hS : Sep (d + 1) (.mk i c az)) (ho : o ∉ idsT (.mk i c az)) {x : Nat} (hx : x < kids.length) :
  RAt XP h1 d (kids.getD x default) (az.getD x default) (ks.getD x default) ∧ Sep d (az.getD x default) ∧ PSB d (kids.getD x default) (ks.getD x default) out'.length ∧ OutAt h1 o k oEx out' ∧ o ∉ idsT (az.getD x default) ∧ out'.length ≤ 5001 := by
 obtain ⟨g1, g2, g3, g4⟩ := hs
 obtain ⟨_, _, ⟨l1, l2, l3, l4⟩, hk⟩ := id g1
 exact ⟨hk x hx, (hS x (by omega)).1.2.2, g4.1.2.2 x hx, g2, fun hh => ho (idsT_kid (by omega) hh), g4.2.1⟩
theorem St2.cells {d : Nat} {kind : Int} {item : ByteArray} {long many : Int} {kids : List LT} {shares : List Int} {i c : Nat} {az : List AT} {p : Int} {h : Hp} {o k : Nat} {out : List (ByteArray × Int)} {acc : (List Int × List PS) × List (ByteArray × Int)} {h1 : Hp} {cs : List Int} {ks : List PS} {out' : List (ByteArray × Int)}
  (hs : St2 d (.mk kind item long many kids shares) kids (.mk i c az) p h o k out acc h1 cs ks out') (hne : kids ≠ []) : (∃ tk, h1.H i = some (.cells [.v (.int .i64 kind), .v (.string item), .v (.int .i64 long), .v (.int .i64 many), .row 6 (kids.map encL) none, .row 1 (shares.map encI) none, .row 1 (az.map fun a => [.ptr a.id 0]) tk, .v (.int .i64 p), .arr 1 c kids.length, .v (.int .i64 shares.sum)])) ∧ az.length = kids.length := by
 obtain ⟨⟨⟨K, h1, hK⟩, _, ⟨l1, l2, l3, l4⟩, _⟩, _⟩ := hs
 refine ⟨?_, l3⟩
 rcases hK with ⟨rfl, _⟩ | ⟨tk, rfl⟩
 ·simp at l3; exact absurd (List.eq_nil_of_length_eq_zero l3.symm) hne
 ·exact ⟨tk, h1⟩
abbrev zPHE : List Nat := [0, 1, 2, 3, 4, 5, 6, 7, 8, 9, 10, 11, 12, 13, 14, 15, 16]
abbrev zPHP : List (Nat × List Nat × List Nat) := [(17, [], [18, 19]), (20, [], [])]
abbrev zPIE : List Nat := [0, 1, 2, 3, 4, 5, 6, 7, 8, 9, 10, 11, 12, 13, 14, 15, 16]
abbrev zPIP : List (Nat × List Nat × List Nat) := [(17, [], [])]
attribute [go_sem] zPHE zPHP zPIE zPIP
theorem Weak.tup3 {a a' b b' c c' : AV} (ha : Weak a a') (hb : Weak b b') (hc : Weak c c') : Weak (.tup [a, b, c]) (.tup [a', b', c']) := fun G v hr => by
 cases hr with
 | tup _ vs u hl hu hr =>
  refine .tup _ vs u (by simpa using hl) (fun j hj => hu j (by simpa using hj)) (fun j hj => ?_)
  rcases j with _ | _ | _ | j
  ·exact ha G _ (hr 0 (by simp))
  ·exact hb G _ (hr 1 (by simp))
  ·exact hc G _ (hr 2 (by simp))
  ·simp only [List.length_cons, List.length_nil] at hj; omega
abbrev zPJE : List Nat := [0, 1, 2, 3, 4, 5, 6, 7]
abbrev zPJP : List (Nat × List Nat × List Nat) := [(8, [], [9, 10]), (11, [], [])]
attribute [go_sem] zPJE zPJP
structure SP (h : Hp) (i kl kw ko mb : Nat) (ws : List Wn) (j : Nat) : Prop where
 hi : h.H i = some (.cells [.row 3 (ws.map encW) none, .arr 1 kl j, .arr 1 kw ws.length, .arr 1 ko 0, .map mb])
 hm : h.H mb = some (.map [])
 tl : h.T kl = some (.cont 1 (((manyS ws).take j).map encI))
 tw : h.T kw = some (.cont 1 ((List.replicate ws.length (0 : Int)).map encI))
 tq : h.T ko = some (.cont 1 [])
 n1 : kl ≠ kw ∧ kl ≠ ko ∧ kw ≠ ko
 n2 : mb ≠ i
noncomputable def spreadA (ws : List Wn) : AV := if wantE ws = 0 then (match spreadV ws with
  | some p => .tup [.row 1 (p.map encS) none, .v (.bool true), .v (.int .i64 0)]
  | none => .tup [.row 1 [] none, .v (.bool false), .v (.int .i64 0)]) else .tup [.row 1 [] none, .v (.bool false), .v (.int .i64 (wantE ws))]
theorem g_spreadP (ws : List Wn) (h : Hp) (hs : ∀ x ∈ ws, WOk x) (hl : ws.length ≤ 1000) : ACalls Tryz.prog 28 [.row 3 (ws.map encW) none] h (fun r _ => r = spreadA ws) := by
 have hsA : spreadA ws = if wantE ws = 0 then (match spreadV ws with
  | some p => .tup [.row 1 (p.map encS) none, .v (.bool true), .v (.int .i64 0)]
  | none => .tup [.row 1 [] none, .v (.bool false), .v (.int .i64 0)]) else .tup [.row 1 [] none, .v (.bool false), .v (.int .i64 (wantE ws))] := rfl
 have hck := g_cntP ws h hs hl
 have hok := fun e => want_ok (ws := ws) e
 have hv : spreadV ws = (solve (apt ws) (allS ws) (manyS ws) (List.replicate ws.length 0)).map (·.map (itm ws)) := rfl
 generalize wantE ws = e at *
 refine gE Tryz.func28 rfl (by kernel_rfl) 51 rfl fun c => ?_
 (repeat (first | refine gO rfl ?_ | ((first | refine gM zM21 ?_ | (with_reducible refine wM ?_ ?_) | ((with_reducible refine xS ?_); refine uD 9 zM21 zPJE zPJP 52 rfl (by kernel_rfl) ?_)) <;> ((try with_reducible intro K1 hK1); simp only [go_sem, ↓reduceIte, reduceCtorEq, nA, nB, nC, nD, nE, nF] <;> and_intros <;> first | (apply hK1; clear hK1 K1) | (intros; first | omega | decide | (simp_all <;> omega)) | skip))))
 refine hck.mono ?_; rintro _ hz ⟨rfl, hh⟩; apply hK1; clear hK1 K1; rw [hh]; clear hh hz
 (repeat (first | refine gO rfl ?_ | ((first | refine gM zM21 ?_ | (with_reducible refine wM ?_ ?_) | ((with_reducible refine xS ?_); refine uD 9 zM21 zPJE zPJP 52 rfl (by kernel_rfl) ?_)) <;> ((try with_reducible intro K1 hK1); simp only [go_sem, ↓reduceIte, reduceCtorEq, nA, nB, nC, nD, nE, nF] <;> and_intros <;> first | (apply hK1; clear hK1 K1) | (intros; first | omega | decide | (simp_all <;> omega)) | skip))))
 by_cases he : e = 0
 ·subst he
  have hW := hok rfl
  rw [if_pos rfl] at hsA
  clear hok hck
  refine awp_cond (t := _) rfl (fun h9 => by simp at h9) (fun _ => ?_)
  (repeat (first | refine gO rfl ?_ | ((first | refine gM zM21 ?_ | (with_reducible refine wM ?_ ?_) | ((with_reducible refine xS ?_); refine uD 9 zM21 zPJE zPJP 52 rfl (by kernel_rfl) ?_)) <;> ((try with_reducible intro K1 hK1); simp only [go_sem, ↓reduceIte, reduceCtorEq, nA, nB, nC, nD, nE, nF] <;> and_intros <;> first | (apply hK1; clear hK1 K1) | (intros; first | omega | decide | (simp_all <;> omega)) | skip))))
  intro kw hkw mb hmb i hi
  have n2 : mb ≠ i := fun e => by rw [← e, upd_same] at hi; cases hi
  rw [upd_other _ _ (Ne.symm n2)] at hi
  refine hK1 _ ?_; clear hK1 K1
  (first | refine gO rfl ?_ | ((first | refine gM zM21 ?_ | (with_reducible refine wM ?_ ?_) | ((with_reducible refine xS ?_); refine uD 9 zM21 zPJE zPJP 52 rfl (by kernel_rfl) ?_)) <;> ((try with_reducible intro K1 hK1); simp only [go_sem, ↓reduceIte, reduceCtorEq, nA, nB, nC, nD, nE, nF] <;> and_intros <;> first | (apply hK1; clear hK1 K1) | (intros; first | omega | decide | (simp_all <;> omega)) | skip)))
  refine awp_ownObj i 1 1 (cs := [.row 3 (ws.map encW) none, .v (.slice none 0 0), .arr 1 kw (ws.length : Int).toNat, .v (.slice none 0 0), .map mb]) (upd_same _ _ _) rfl (fun kl hkl => ?_)
  refine awp_ownObj i 3 1 (cs := [.row 3 (ws.map encW) none, .arr 1 kl 0, .arr 1 kw (ws.length : Int).toNat, .v (.slice none 0 0), .map mb]) (upd_same _ _ _) rfl (fun ko hko => ?_)
  replace hkl : upd h.T kw (some (TO.cont 1 (List.replicate (ws.length : Int).toNat [.v (.int .i64 0)]))) kl = none := hkl
  replace hko : upd (upd h.T kw (some (TO.cont 1 (List.replicate (ws.length : Int).toNat [.v (.int .i64 0)])))) kl (some (TO.cont 1 [])) ko = none := hko
  have m1 : kl ≠ kw := fun e => by rw [e, upd_same] at hkl; cases hkl
  have m2 : ko ≠ kl := fun e => by rw [e, upd_same] at hko; cases hko
  have m3 : ko ≠ kw := fun e => by rw [upd_other _ _ m2, e, upd_same] at hko; cases hko
  have hS : SP ⟨upd (upd (upd (upd h.H mb (some (.map []))) i (some (.cells [.row 3 (ws.map encW) none, .v (.slice none 0 0), .arr 1 kw (ws.length : Int).toNat, .v (.slice none 0 0), .map mb]))) i (some (.cells [.row 3 (ws.map encW) none, .arr 1 kl 0, .arr 1 kw (ws.length : Int).toNat, .v (.slice none 0 0), .map mb]))) i (some (.cells [.row 3 (ws.map encW) none, .arr 1 kl 0, .arr 1 kw (ws.length : Int).toNat, .arr 1 ko 0, .map mb])),
    upd (upd (upd h.T kw (some (TO.cont 1 (List.replicate (ws.length : Int).toNat [.v (.int .i64 0)])))) kl (some (TO.cont 1 []))) ko (some (TO.cont 1 []))⟩ i kl kw ko mb ws 0 := by
   refine ⟨?_, ?_, ?_, ?_, upd_same _ _ _, ⟨m1, Ne.symm m2, Ne.symm m3⟩, n2⟩
   ·show upd _ _ _ _ = _; rw [upd_same]; rfl
   ·show upd _ _ _ _ = _; rw [upd_other _ _ n2, upd_other _ _ n2, upd_other _ _ n2, upd_same]
   ·show upd _ _ _ _ = _; rw [upd_other _ _ (Ne.symm m2), upd_same]; rfl
   ·show upd _ _ _ _ = _; rw [upd_other _ _ (Ne.symm m3), upd_other _ _ (Ne.symm m1), upd_same, List.map_replicate]; rfl
  refine (?_ : ∀ h5, SP h5 i kl kw ko mb ws 0 → Awp _ c _ _ ⟨((.row 3 (ws.map encW) none) :: AV.junk :: ((_) :: (_) :: (_) :: (_) :: (.ptr i 0) :: (jnk 3 ((_) :: (_) :: (_) :: (_) :: AV.junk :: ((_) :: (_) :: (_) :: (_) :: (_) :: (_) :: (_) :: (jnk 30 [])))))), [], h5⟩) _ hS
  clear hS hkl hko hkw hmb hi m1 m2 m3
  intro h5 hS
  (repeat (first | refine gO rfl ?_ | ((first | refine gM zM21 ?_ | (with_reducible refine wM ?_ ?_) | ((with_reducible refine xS ?_); refine uD 9 zM21 zPJE zPJP 52 rfl (by kernel_rfl) ?_)) <;> ((try with_reducible intro K1 hK1); simp only [go_sem, ↓reduceIte, reduceCtorEq, nA, nB, nC, nD, nE, nF] <;> and_intros <;> first | (apply hK1; clear hK1 K1) | (intros; first | omega | decide | (simp_all <;> omega)) | skip))))
  refine awp_loopC (rl false [6, 2, 14, 3, 27]) 0 (fun g s => ∃ (j : Nat) (h6 : Hp), g + j = ws.length ∧ SP h6 i kl kw ko mb ws j ∧
   s = ⟨((jnk 6 ((.ptr i 0) :: (.v (.int .i64 ((manyS ws).take j).sum)) :: (jnk 14 ((.row 3 (ws.map encW) none) :: (.v (.int .i64 ws.length)) :: (.v (.int .i64 j)) :: (jnk 27 [])))))), [], h6⟩) ws.length ⟨0, h5, by omega, hS, rfl⟩ ?_
  rintro g _ ⟨j, h6, hj, hS6, rfl⟩
  clear hS
  (repeat (first | refine gO rfl ?_ | ((first | refine gM zM21 ?_ | (with_reducible refine wM ?_ ?_) | ((with_reducible refine xS ?_); refine uD 9 zM21 zPJE zPJP 52 rfl (by kernel_rfl) ?_)) <;> ((try with_reducible intro K1 hK1); simp only [go_sem, ↓reduceIte, reduceCtorEq, nA, nB, nC, nD, nE, nF] <;> and_intros <;> first | (apply hK1; clear hK1 K1) | (intros; first | omega | decide | (simp_all <;> omega)) | skip))))
  refine awp_cond (t := _) rfl (fun h7 => ?_) (fun h7 => ?_)
  ·simp only [decide_eq_true_eq] at h7
   have hjl : j < ws.length := by omega
   have gx : (ws.map encW).getD j [] = [.v (.string (ws.getD j default).1), .v (.int .i64 (ws.getD j default).2.1), .v (.int .i64 (ws.getD j default).2.2)] := getD_enc encW ws j default hjl
   have hml : (manyS ws).length = ws.length := by simp [manyS]
   have gm : (manyS ws).getD j 0 = (ws.getD j default).2.1 := by simp [manyS, List.getD_eq_getElem?_getD, hjl]
   have ht : (manyS ws).take (j + 1) = (manyS ws).take j ++ [(manyS ws).getD j 0] := by
    rw [List.take_add_one, List.getElem?_eq_getElem (by omega), List.getD_eq_getElem?_getD, List.getElem?_eq_getElem (by omega)]; rfl
   have hmj := hW.nonneg _ (mem_getD (manyS ws) (i := j) (by omega))
   have hs0 : 0 ≤ ((manyS ws).take j).sum ∧ ((manyS ws).take j).sum ≤ 12 := by
    have h1 := sum_nonneg' (L := (manyS ws).take j) fun x hx => (hW.nonneg x (List.mem_of_mem_take hx)).1
    have h2 := sum_nonneg' (L := (manyS ws).drop j) fun x hx => (hW.nonneg x (List.mem_of_mem_drop hx)).1
    have h3 : (manyS ws).sum = ((manyS ws).take j).sum + ((manyS ws).drop j).sum := by rw [← List.sum_append, List.take_append_drop]
    have := hW.all
    omega
   have hln := hW.len
   rw [gm] at ht hmj
   have htl : (((manyS ws).take j).map encI).length = j := by rw [List.length_map, List.length_take]; omega
   have r1 := hS6.hi
   have r2 := hS6.tl
   have n1 := hS6.n1
   generalize ws.getD j default = x at *
   have hap : ((manyS ws).take j).map encI ++ [[.v (.int .i64 x.2.1)]] = ((manyS ws).take (j + 1)).map encI := by rw [ht, List.map_append]; rfl
   have hsum : ((manyS ws).take (j + 1)).sum = ((manyS ws).take j).sum + x.2.1 := by rw [ht]; simp
   (repeat (first | refine gO rfl ?_ | ((first | refine gM zM21 ?_ | (with_reducible refine wM ?_ ?_) | ((with_reducible refine xS ?_); refine uD 9 zM21 zPJE zPJP 52 rfl (by kernel_rfl) ?_)) <;> ((try with_reducible intro K1 hK1); simp only [go_sem, ↓reduceIte, reduceCtorEq, nA, nB, nC, nD, nE, nF, Int.toNat_natCast, gx, r1, r2, htl, hap] <;> and_intros <;> first | (apply hK1; clear hK1 K1) | (intros; first | omega | decide | (simp_all <;> omega)) | skip))))
   refine ⟨g - 1, by omega, j + 1, _, by omega, ⟨?_, ?_, ?_, ?_, ?_, n1, n2⟩, by rw [hsum]; rfl⟩
   ·exact upd_same _ _ _
   ·show upd _ _ _ _ = _; rw [upd_other _ _ n2]; exact hS6.hm
   ·exact upd_same _ _ _
   ·show upd _ _ _ _ = _; rw [upd_other _ _ (Ne.symm n1.1)]; exact hS6.tw
   ·show upd _ _ _ _ = _; rw [upd_other _ _ (Ne.symm n1.2.1)]; exact hS6.tq
  ·simp only [decide_eq_false_iff_not] at h7
   have hjl : j = ws.length := by omega
   subst hjl
   have hT : (manyS ws).take ws.length = manyS ws := List.take_of_length_le (by simp [manyS])
   have r2 := hS6.tl
   rw [hT] at r2
   rw [hT, hW.all.1]
   have hFS : FS h6 i kl kw ko mb ws (manyS ws) (List.replicate ws.length 0) [] [] := ⟨hS6.hi, hS6.hm, r2, hS6.tw, hS6.tq, hS6.n1, n2⟩
   have hFB : FB ws (allS ws) (manyS ws) (List.replicate ws.length 0) [] := ⟨hW.sps, by have := hW.all.2; simpa using this⟩
   (repeat (first | refine gO rfl ?_ | ((first | refine gM zM21 ?_ | (with_reducible refine wM ?_ ?_) | ((with_reducible refine xS ?_); refine uD 9 zM21 zPJE zPJP 52 rfl (by kernel_rfl) ?_)) <;> ((try with_reducible intro K1 hK1); simp only [go_sem, ↓reduceIte, reduceCtorEq, nA, nB, nC, nD, nE, nF] <;> and_intros <;> first | (apply hK1; clear hK1 K1) | (intros; first | omega | decide | (simp_all <;> omega)) | skip))))
   refine (g_findSpr ws hW.len i kl mb (allS ws) kw ko (manyS ws) (List.replicate ws.length 0) [] [] h6 hFS hFB (fun k hk => by simp at hk)).mono ?_
   rintro r8 h8 ⟨kw3, ko3, L3, W3, ks3, hm⟩
   cases e : solve (apt ws) (allS ws) (manyS ws) (List.replicate ws.length 0) with
   | none =>
    rw [e] at hm hv
    obtain ⟨rfl, _⟩ := hm
    refine hK1 _ ?_; clear hK1 K1
    (repeat (first | refine gO rfl ?_ | ((first | refine gM zM21 ?_ | (with_reducible refine wM ?_ ?_) | ((with_reducible refine xS ?_); refine uD 9 zM21 zPJE zPJP 52 rfl (by kernel_rfl) ?_)) <;> ((try with_reducible intro K1 hK1); simp only [go_sem, ↓reduceIte, reduceCtorEq, nA, nB, nC, nD, nE, nF] <;> and_intros <;> first | (apply hK1; clear hK1 K1) | (intros; first | omega | decide | (simp_all <;> omega)) | skip))))
    refine awp_cond (t := _) rfl (fun _ => ?_) (fun h9 => by cases h9)
    (repeat (first | refine gO rfl ?_ | ((first | refine gM zM21 ?_ | (with_reducible refine wM ?_ ?_) | ((with_reducible refine xS ?_); refine uD 9 zM21 zPJE zPJP 52 rfl (by kernel_rfl) ?_)) <;> ((try with_reducible intro K1 hK1); simp only [go_sem, ↓reduceIte, reduceCtorEq, nA, nB, nC, nD, nE, nF] <;> and_intros <;> first | (apply hK1; clear hK1 K1) | (intros; first | omega | decide | (simp_all <;> omega)) | skip))))
    simp only [Tryz.results28, go_sem, ↓reduceIte, reduceCtorEq, nA, nB, nC, nD, nE, nF]
    exact ⟨_, _, Weak.tup3 (Weak.nil 1 0 0 ⟨rfl, rfl⟩) (Weak.refl _) (Weak.refl _), Hp.le.refl _, by rw [hsA, hv]; rfl⟩
   | some p =>
    rw [e] at hm hv
    obtain ⟨rfl, hS8⟩ := hm
    rw [List.nil_append] at hS8
    have e2 := hS8.hi
    have hTo := hS8.tq
    refine hK1 _ ?_; clear hK1 K1
    (repeat (first | refine gO rfl ?_ | ((first | refine gM zM21 ?_ | (with_reducible refine wM ?_ ?_) | ((with_reducible refine xS ?_); refine uD 9 zM21 zPJE zPJP 52 rfl (by kernel_rfl) ?_)) <;> ((try with_reducible intro K1 hK1); simp only [go_sem, ↓reduceIte, reduceCtorEq, nA, nB, nC, nD, nE, nF] <;> and_intros <;> first | (apply hK1; clear hK1 K1) | (intros; first | omega | decide | (simp_all <;> omega)) | skip))))
    refine awp_cond (t := _) rfl (fun h9 => by cases h9) (fun _ => ?_)
    have hz : ∀ y ∈ (p.map (itm ws)).map encS, y.length = 1 := fun y hy => by obtain ⟨x, _, rfl⟩ := List.mem_map.1 hy; rfl
    have hlq : (p.map (itm ws)).length = ((p.map (itm ws)).map encS).length := by simp
    rw [hlq] at e2
    have hv2 : spreadA ws = .tup [.row 1 ((p.map (itm ws)).map encS) none, .v (.bool true), .v (.int .i64 0)] := by rw [hsA, hv]; rfl
    generalize (p.map (itm ws)).map encS = xs at *
    (first | refine gO rfl ?_ | ((first | refine gM zM21 ?_ | (with_reducible refine wM ?_ ?_) | ((with_reducible refine xS ?_); refine uD 9 zM21 zPJE zPJP 52 rfl (by kernel_rfl) ?_)) <;> ((try with_reducible intro K1 hK1); simp only [go_sem, ↓reduceIte, reduceCtorEq, nA, nB, nC, nD, nE, nF, e2] <;> and_intros <;> first | (apply hK1; clear hK1 K1) | (intros; first | omega | decide | (simp_all <;> omega)) | skip))); (first | refine gO rfl ?_ | ((first | refine gM zM21 ?_ | (with_reducible refine wM ?_ ?_) | ((with_reducible refine xS ?_); refine uD 9 zM21 zPJE zPJP 52 rfl (by kernel_rfl) ?_)) <;> ((try with_reducible intro K1 hK1); simp only [go_sem, ↓reduceIte, reduceCtorEq, nA, nB, nC, nD, nE, nF, e2] <;> and_intros <;> first | (apply hK1; clear hK1 K1) | (intros; first | omega | decide | (simp_all <;> omega)) | skip))); (first | refine gO rfl ?_ | ((first | refine gM zM21 ?_ | (with_reducible refine wM ?_ ?_) | ((with_reducible refine xS ?_); refine uD 9 zM21 zPJE zPJP 52 rfl (by kernel_rfl) ?_)) <;> ((try with_reducible intro K1 hK1); simp only [go_sem, ↓reduceIte, reduceCtorEq, nA, nB, nC, nD, nE, nF, e2] <;> and_intros <;> first | (apply hK1; clear hK1 K1) | (intros; first | omega | decide | (simp_all <;> omega)) | skip))); (first | refine gO rfl ?_ | ((first | refine gM zM21 ?_ | (with_reducible refine wM ?_ ?_) | ((with_reducible refine xS ?_); refine uD 9 zM21 zPJE zPJP 52 rfl (by kernel_rfl) ?_)) <;> ((try with_reducible intro K1 hK1); simp only [go_sem, ↓reduceIte, reduceCtorEq, nA, nB, nC, nD, nE, nF, e2] <;> and_intros <;> first | (apply hK1; clear hK1 K1) | (intros; first | omega | decide | (simp_all <;> omega)) | skip)))
    refine awp_frz 2 ko3 1 (xs := xs) rfl hTo hz ?_
    (repeat (first | refine gO rfl ?_ | ((first | refine gM zM21 ?_ | (with_reducible refine wM ?_ ?_) | ((with_reducible refine xS ?_); refine uD 9 zM21 zPJE zPJP 52 rfl (by kernel_rfl) ?_)) <;> ((try with_reducible intro K1 hK1); simp only [go_sem, ↓reduceIte, reduceCtorEq, nA, nB, nC, nD, nE, nF] <;> and_intros <;> first | (apply hK1; clear hK1 K1) | (intros; first | omega | decide | (simp_all <;> omega)) | skip))))
    simp only [Tryz.results28, go_sem, ↓reduceIte, reduceCtorEq, nA, nB, nC, nD, nE, nF]
    exact ⟨_, _, Weak.refl _, Hp.le.refl _, hv2.symm⟩
 ·rw [if_neg he] at hsA
  refine awp_cond (t := _) rfl (fun _ => ?_) (fun h9 => by simp [he] at h9)
  (repeat (first | refine gO rfl ?_ | ((first | refine gM zM21 ?_ | (with_reducible refine wM ?_ ?_) | ((with_reducible refine xS ?_); refine uD 9 zM21 zPJE zPJP 52 rfl (by kernel_rfl) ?_)) <;> ((try with_reducible intro K1 hK1); simp only [go_sem, ↓reduceIte, reduceCtorEq, nA, nB, nC, nD, nE, nF] <;> and_intros <;> first | (apply hK1; clear hK1 K1) | (intros; first | omega | decide | (simp_all <;> omega)) | skip))))
  simp only [Tryz.results28, go_sem, ↓reduceIte, reduceCtorEq, nA, nB, nC, nD, nE, nF]
  exact ⟨_, _, Weak.tup3 (Weak.nil 1 0 0 ⟨rfl, rfl⟩) (Weak.refl _) (Weak.refl _), Hp.le.refl _, hsA.symm⟩
abbrev zPKE : List Nat := [0, 1, 2, 3, 4, 5, 6, 7, 8, 9, 10, 11]
abbrev zPKP : List (Nat × List Nat × List Nat) := []
attribute [go_sem] zPKE zPKP
theorem acalls_pureT {P : Program} {f : Nat} (hok : fnOk P f = true) (xs rs : List Value) (h1 : ∀ v ∈ rs, v.oneCell' = true) (hc : ∀ w, Calls P f xs.toArray w fun e w' => e = .returned (.tuple rs.toArray) ∧ RowKit.Below w.heap.size w w') (h : Hp) : ACalls P f (xs.map .v) h (fun r h' => r = .tup (rs.map .v) ∧ h' = h) := by
 refine ⟨hok, fun G w vs hs hl ha => ?_⟩
 have e : vs = xs.toArray := by
  apply Array.ext
  ·simpa using hl
  ·intro j hj hj'
   have hjx : j < (xs.map AV.v).length := by rw [← hl]; exact hj
   have := ha j hjx
   simp only [List.getElem_map] at this
   have h2 : vs.getD j undef = vs[j] := by simp [Array.getD, hj]
   rw [h2] at this
   simp only [List.getElem_toArray]
   generalize vs[j] = y at this
   cases this
   rfl
 subst e
 refine (hc w).mono ?_
 rintro _ w' ⟨rfl, hb⟩
 have hb' : ∀ b, b < w.heap.size → w'.heap[b]? = w.heap[b]? := fun b hb2 => hb.block b hb2
 refine ⟨_, h, G, .tuple rs.toArray, rfl, ⟨rfl, rfl⟩, GLe.refl _, Fr.below (Fr.refl _ _ _) hb' hb.os hb.tape hb.output hb.size, hs.below hb', ?_⟩
 refine .tup _ _ (fun j => rs.getD j undef) (by simp) (fun j hj => ?_) (fun j hj => ?_)
 ·have hj' : j < rs.length := by simpa using hj
  simp [List.getD_eq_getElem?_getD, hj']
 ·have hj' : j < rs.length := by simpa using hj
  simp only [List.getElem_map, List.getD_eq_getElem?_getD, List.getElem?_eq_getElem hj', Option.getD_some]
  exact .v _ (h1 _ (List.getElem_mem _))
theorem ACalls.frz {P : Program} {f : Nat} {args : List AV} {h : Hp} {z : Nat} {xs : List (List AV)} (hc : ACalls P f args h (fun r h' => ∃ k, r = .arr z k xs.length ∧ h'.H = h.H ∧ h.T k = none ∧ h'.T k = some (.cont z xs) ∧ ∀ t, h.T t ≠ none → h'.T t = h.T t)) (hz : ∀ y ∈ xs, y.length = z) :
  ACalls P f args h (fun r h' => r = .row z xs none ∧ h' = h) := by
 refine hc.gup ?_
 rintro _ h' G w v ⟨k, rfl, hH, hk, hT, hold⟩ hs hr
 obtain ⟨G', hle, hfr, hs2, hfz⟩ := hs.freeze (h2 := h) (fun j => h.T j = none) hH.symm (fun j hj => hj) (fun j hj => (hold j hj).symm)
 exact ⟨_, h, G', ⟨rfl, rfl⟩, hle, hfr, hs2, hfz k z xs v hk hT hr xs rfl hz fun us hus => hus.mono hle⟩
theorem bel_id (w : World) : RowKit.Below w.heap.size w w := ⟨rfl, rfl, rfl, Nat.le_refl _, fun _ _ => rfl⟩
def sN : ByteArray := ⟨#[110]⟩
def sT : ByteArray := ⟨#[123, 110, 125]⟩
theorem c_cutPrefix (p : ByteArray) (h : Hp) (hp : Lib.trimPrefix sN.data.toList p.data.toList = [110] ∧ Lib.hasPrefix sN.data.toList p.data.toList = false) : ACalls Tryz.prog 313 [.v (.string sN), .v (.string p)] h (fun r h' => r = .tup [.v (.string sN), .v (.bool false)] ∧ h' = h) :=
 acalls_pureT (by kernel_rfl) [.string sN, .string p] [.string sN, .bool false] (by simp [Value.oneCell']) (fun w => (Tryz.strings_CutPrefix sN p w).mono fun e w' ⟨h1, h2⟩ => ⟨by rw [h1, hp.1, hp.2]; rfl, by rw [h2]; exact bel_id w⟩) h
theorem c_count (h : Hp) : ACalls Tryz.prog 400 [.v (.string sN), .v (.string ⟨#[58]⟩)] h (fun r h' => r = .v (.int .i64 0) ∧ h' = h) :=
 acalls_pure (by kernel_rfl) [.string sN, .string ⟨#[58]⟩] rfl (fun w => (Tryz.strings_Count_one sN 58 w).mono fun e w' ⟨h1, h2⟩ => ⟨by rw [h1]; rfl, by rw [h2]; exact bel_id w⟩) h
theorem c_index (h : Hp) : ACalls Tryz.prog 411 [.v (.string sN), .v (.string ⟨#[46]⟩)] h (fun r h' => r = .v (.int .i64 (-1)) ∧ h' = h) :=
 acalls_pure (by kernel_rfl) [.string sN, .string ⟨#[46]⟩] rfl (fun w => (Tryz.stringslite_Index_one sN 46 w).mono fun e w' ⟨h1, h2⟩ => ⟨by rw [h1]; rfl, by rw [h2]; exact bel_id w⟩) h
theorem c_indexByte (h : Hp) : ACalls Tryz.prog 150 [.v (.string sT), .v (.int .u8 125)] h (fun r h' => r = .v (.int .i64 2) ∧ h' = h) :=
 acalls_pure (by kernel_rfl) [.string sT, .int .u8 125] rfl (fun w => (Tryz.strings_IndexByte sT 125 w).mono fun e w' ⟨h1, h2⟩ => ⟨by rw [h1]; rfl, by rw [h2]; exact bel_id w⟩) h
theorem c_indexAny (h : Hp) : ACalls Tryz.prog 245 [.v (.string sT), .v (.string ⟨#[123, 125]⟩)] h (fun r h' => r = .v (.int .i64 0) ∧ h' = h) :=
 acalls_pure (by kernel_rfl) [.string sT, .string ⟨#[123, 125]⟩] rfl (fun w => (Tryz.strings_IndexAny_short sT ⟨#[123, 125]⟩ w (by decide) (by decide) (fun j b hb => by
  have hm : b ∈ sT.data.toList := List.mem_of_getElem? hb
  have hall : ∀ x ∈ sT.data.toList, x.toNat < 128 := by decide
  exact hall b hm)).mono fun e w' ⟨h1, h2⟩ => ⟨by rw [h1]; rfl, by
   obtain ⟨pos, rfl⟩ := h2
   exact (bel_id w).alloc (Nat.le_refl _) _⟩) h
theorem c_cutL (h : Hp) : ACalls Tryz.prog 398 [.v (.string sN), .v (.string ⟨#[46]⟩)] h (fun r h' => r = .tup [.v (.string sN), .v (.string ⟨#[]⟩), .v (.bool false)] ∧ h' = h) := by
 have h1 := fun h => c_index h
 refine gE Tryz.func398 rfl (by kernel_rfl) 21 rfl fun c => ?_
 (repeat (first | refine gO rfl ?_ | ((first | refine gR ?_ | (with_reducible refine wM ?_ ?_) | ((with_reducible refine xS ?_); refine uD 3 zM22 zPKE zPKP 23 rfl (by kernel_rfl) ?_)) <;> ((try with_reducible intro K1 hK1); simp only [go_sem, ↓reduceIte, reduceCtorEq, nA, nB, nC, nD, nE, nF, Int.reduceBEq, Int.reduceTMod, Int.reduceTDiv, Int.reduceMul, Int.reduceBNe, Int.reduceLT, Int.reduceLE, Int.reduceAdd, Int.reduceSub, Int.reduceNeg, decide_true, decide_false, Bool.true_and, Bool.false_and, Bool.and_true, Bool.and_false, Bool.or_false, Bool.or_true, Bool.true_or, Bool.false_or, Bool.not_true, Bool.not_false, true_implies, false_implies, true_and, and_true, Int.reduceToNat] <;> and_intros <;> first | (apply hK1; clear hK1 K1) | (intros; first | omega | decide) | skip)) | (refine awp_cond (t := _) rfl (fun hq => ?_) (fun hq => ?_) <;> first | (exact absurd hq (by decide)) | (cases hq; done) | (clear hq)) | (refine awp_un 8 ?_) | (with_reducible exact rfl) | (with_reducible exact trivial) | ((with_reducible show uside _); first | exact True.intro | exact rfl) | ((with_reducible show opS _ _); exact True.intro) | (refine ⟨AV.v (.bool true), rfl, hK1 _ ?_⟩; clear hK1 K1) | (refine (h1 _).mono ?_; rintro _ hz ⟨rfl, hh⟩; (first | (refine hK1 _ ?_) | (refine ⟨rfl, hK1 _ ?_⟩)); clear hK1 K1; rw [hh]; clear hh hz)))
 simp only [Tryz.results398, go_sem, ↓reduceIte, reduceCtorEq, nA, nB, nC, nD, nE, nF]
 exact ⟨_, _, Weak.refl _, Hp.le.refl _, rfl, rfl⟩
theorem c_cut (h : Hp) : ACalls Tryz.prog 383 [.v (.string sN), .v (.string ⟨#[46]⟩)] h (fun r h' => r = .tup [.v (.string sN), .v (.string ⟨#[]⟩), .v (.bool false)] ∧ h' = h) := by
 have h1 := fun h => c_cutL h
 refine gE Tryz.func383 rfl (by kernel_rfl) 11 rfl fun c => ?_
 (repeat (first | refine gO rfl ?_ | (refine gR fun K1 hK1 => ?_; simp only [go_sem, ↓reduceIte, reduceCtorEq, nA, nB, nC, nD, nE, nF, Int.reduceBEq, Int.reduceTMod, Int.reduceTDiv, Int.reduceMul, Int.reduceBNe, Int.reduceLT, Int.reduceLE, Int.reduceAdd, Int.reduceSub, Int.reduceNeg, decide_true, decide_false, Bool.true_and, Bool.false_and, Bool.and_true, Bool.and_false, Bool.or_false, Bool.or_true, Bool.true_or, Bool.false_or, Bool.not_true, Bool.not_false, true_implies, false_implies, true_and, and_true, Int.reduceToNat] <;> and_intros <;> first | (apply hK1; clear hK1 K1) | (intros; first | omega | decide) | skip) | (refine awp_cond (t := _) rfl (fun hq => ?_) (fun hq => ?_) <;> first | (exact absurd hq (by decide)) | (cases hq; done) | (clear hq)) | (refine awp_un 8 ?_) | (with_reducible exact rfl) | (with_reducible exact trivial) | ((with_reducible show uside _); first | exact True.intro | exact rfl) | ((with_reducible show opS _ _); exact True.intro) | (refine ⟨AV.v (.bool true), rfl, hK1 _ ?_⟩; clear hK1 K1) | (refine (h1 _).mono ?_; rintro _ hz ⟨rfl, hh⟩; (first | (refine hK1 _ ?_) | (refine ⟨rfl, hK1 _ ?_⟩)); clear hK1 K1; rw [hh]; clear hh hz)))
 simp only [Tryz.results383, go_sem, ↓reduceIte, reduceCtorEq, nA, nB, nC, nD, nE, nF]
 exact ⟨_, _, Weak.refl _, Hp.le.refl _, rfl, rfl⟩
theorem c_genSplit (h : Hp) : ACalls Tryz.prog 384 [.v (.string sN), .v (.string ⟨#[58]⟩), .v (.int .i64 0), .v (.int .i64 (-1))] h (fun r h' => r = .row 1 [[.v (.string sN)]] none ∧ h' = h) := by
 refine ACalls.frz ?_ (by simp)
 have h1 := fun h => c_count h
 have hs : (sN.size : Int) = 1 := rfl
 have e2 : min (1 : Int) (1 + 1) = 1 := by decide
 have e3 : min (1 : Int) 2 = 1 := by decide
 have e1 : ((⟨#[58]⟩ : ByteArray) == ⟨#[]⟩) = false := by decide
 refine gE Tryz.func384 rfl (by kernel_rfl) 62 rfl fun c => ?_
 (repeat (first | refine gO rfl ?_ | (refine gM zM23 fun K1 hK1 => ?_; simp only [go_sem, ↓reduceIte, reduceCtorEq, nA, nB, nC, nD, nE, nF, Int.reduceBEq, Int.reduceTMod, Int.reduceTDiv, Int.reduceMul, Int.reduceBNe, Int.reduceLT, Int.reduceLE, Int.reduceAdd, Int.reduceSub, Int.reduceNeg, decide_true, decide_false, Bool.true_and, Bool.false_and, Bool.and_true, Bool.and_false, Bool.or_false, Bool.or_true, Bool.true_or, Bool.false_or, Bool.not_true, Bool.not_false, true_implies, false_implies, true_and, and_true, Int.reduceToNat, e1, hs, e2, e3] <;> and_intros <;> first | (apply hK1; clear hK1 K1) | (intros; first | omega | decide) | skip) | (refine awp_cond (t := _) rfl (fun hq => ?_) (fun hq => ?_) <;> first | (exact absurd hq (by decide)) | (cases hq; done) | (clear hq)) | (refine awp_un 8 ?_) | (with_reducible exact rfl) | (with_reducible exact trivial) | ((with_reducible show uside _); first | exact True.intro | exact rfl) | ((with_reducible show opS _ _); exact True.intro) | (refine ⟨AV.v (.bool true), rfl, hK1 _ ?_⟩; clear hK1 K1) | (refine (h1 _).mono ?_; rintro _ hz ⟨rfl, hh⟩; (first | (refine hK1 _ ?_) | (refine ⟨rfl, hK1 _ ?_⟩)); clear hK1 K1; rw [hh]; clear hh hz)))
 intro k hk
 refine hK1 _ ?_; clear hK1 K1
 (repeat (first | refine gO rfl ?_ | (refine gM zM23 fun K1 hK1 => ?_; simp only [go_sem, ↓reduceIte, reduceCtorEq, nA, nB, nC, nD, nE, nF, Int.reduceBEq, Int.reduceTMod, Int.reduceTDiv, Int.reduceMul, Int.reduceBNe, Int.reduceLT, Int.reduceLE, Int.reduceAdd, Int.reduceSub, Int.reduceNeg, decide_true, decide_false, Bool.true_and, Bool.false_and, Bool.and_true, Bool.and_false, Bool.or_false, Bool.or_true, Bool.true_or, Bool.false_or, Bool.not_true, Bool.not_false, true_implies, false_implies, true_and, and_true, Int.reduceToNat, upd_same, List.replicate] <;> and_intros <;> first | (apply hK1; clear hK1 K1) | (intros; first | omega | decide) | skip) | (refine awp_cond (t := _) rfl (fun hq => ?_) (fun hq => ?_) <;> first | (exact absurd hq (by decide)) | (cases hq; done) | (clear hq)) | (refine awp_un 8 ?_) | (with_reducible exact rfl) | (with_reducible exact trivial) | ((with_reducible show uside _); first | exact True.intro | exact rfl) | ((with_reducible show opS _ _); exact True.intro) | (refine ⟨AV.v (.bool true), rfl, hK1 _ ?_⟩; clear hK1 K1)))
 all_goals first | exact True.intro | exact rfl | skip
 intro q hq
 refine hK1 _ ?_; clear hK1 K1
 (repeat (first | refine gO rfl ?_ | (refine gM zM23 fun K1 hK1 => ?_; simp only [go_sem, ↓reduceIte, reduceCtorEq, nA, nB, nC, nD, nE, nF, Int.reduceBEq, Int.reduceTMod, Int.reduceTDiv, Int.reduceMul, Int.reduceBNe, Int.reduceLT, Int.reduceLE, Int.reduceAdd, Int.reduceSub, Int.reduceNeg, decide_true, decide_false, Bool.true_and, Bool.false_and, Bool.and_true, Bool.and_false, Bool.or_false, Bool.or_true, Bool.true_or, Bool.false_or, Bool.not_true, Bool.not_false, true_implies, false_implies, true_and, and_true, Int.reduceToNat] <;> and_intros <;> first | (apply hK1; clear hK1 K1) | (intros; first | omega | decide) | skip) | (refine awp_cond (t := _) rfl (fun hq => ?_) (fun hq => ?_) <;> first | (exact absurd hq (by decide)) | (cases hq; done) | (clear hq)) | (refine awp_un 8 ?_) | (with_reducible exact rfl) | (with_reducible exact trivial) | ((with_reducible show uside _); first | exact True.intro | exact rfl) | ((with_reducible show opS _ _); exact True.intro) | (refine ⟨AV.v (.bool true), rfl, hK1 _ ?_⟩; clear hK1 K1)))
 simp only [Tryz.results384, go_sem, ↓reduceIte, reduceCtorEq, nA, nB, nC, nD, nE, nF]
 replace hk : h.T k = none := hk
 have hq2 : h.T q = none := by
  replace hq : upd h.T k (some (TO.cont 1 [[.v (.string sN)]])) q = none := hq
  by_cases e : q = k
  ·rw [e, upd_same] at hq; cases hq
  ·rwa [upd_other _ _ e] at hq
 refine ⟨_, _, Weak.refl _, Hp.le.refl _, q, rfl, rfl, hq2, upd_same _ _ _, fun t ht => ?_⟩
 have tq : t ≠ q := by rintro rfl; exact ht hq2
 have tk : t ≠ k := by rintro rfl; exact ht hk
 show upd (upd h.T k none) q _ t = _
 rw [upd_other _ _ tq, upd_other _ _ tk]
theorem c_split (h : Hp) : ACalls Tryz.prog 354 [.v (.string sN), .v (.string ⟨#[58]⟩)] h (fun r h' => r = .row 1 [[.v (.string sN)]] none ∧ h' = h) := by
 have h1 := fun h => c_genSplit h
 refine gE Tryz.func354 rfl (by kernel_rfl) 6 rfl fun c => ?_
 (repeat (first | refine gO rfl ?_ | (refine gR fun K1 hK1 => ?_; simp only [go_sem, ↓reduceIte, reduceCtorEq, nA, nB, nC, nD, nE, nF, Int.reduceBEq, Int.reduceTMod, Int.reduceTDiv, Int.reduceMul, Int.reduceBNe, Int.reduceLT, Int.reduceLE, Int.reduceAdd, Int.reduceSub, Int.reduceNeg, decide_true, decide_false, Bool.true_and, Bool.false_and, Bool.and_true, Bool.and_false, Bool.or_false, Bool.or_true, Bool.true_or, Bool.false_or, Bool.not_true, Bool.not_false, true_implies, false_implies, true_and, and_true, Int.reduceToNat] <;> and_intros <;> first | (apply hK1; clear hK1 K1) | (intros; first | omega | decide) | skip) | (refine awp_cond (t := _) rfl (fun hq => ?_) (fun hq => ?_) <;> first | (exact absurd hq (by decide)) | (cases hq; done) | (clear hq)) | (refine awp_un 8 ?_) | (with_reducible exact rfl) | (with_reducible exact trivial) | ((with_reducible show uside _); first | exact True.intro | exact rfl) | ((with_reducible show opS _ _); exact True.intro) | (refine ⟨AV.v (.bool true), rfl, hK1 _ ?_⟩; clear hK1 K1) | (refine (h1 _).mono ?_; rintro _ hz ⟨rfl, hh⟩; (first | (refine hK1 _ ?_) | (refine ⟨rfl, hK1 _ ?_⟩)); clear hK1 K1; rw [hh]; clear hh hz)))
 simp only [Tryz.results354, go_sem, ↓reduceIte, reduceCtorEq, nA, nB, nC, nD, nE, nF]
 exact ⟨_, _, Weak.refl _, Hp.le.refl _, rfl, rfl⟩
theorem c_ixNil (s : ByteArray) (h : Hp) : ACalls Tryz.prog 121 [.v (.slice none 0 0), .v (.string s)] h (fun r h' => r = .v (.int .i64 (-1)) ∧ h' = h) := by
 refine gE Tryz.func121 rfl (by kernel_rfl) 17 rfl fun c => ?_
 (repeat (first | refine gO rfl ?_ | (refine gR fun K1 hK1 => ?_; simp only [go_sem, ↓reduceIte, reduceCtorEq, nA, nB, nC, nD, nE, nF, Int.reduceBEq, Int.reduceTMod, Int.reduceTDiv, Int.reduceMul, Int.reduceBNe, Int.reduceLT, Int.reduceLE, Int.reduceAdd, Int.reduceSub, Int.reduceNeg, decide_true, decide_false, Bool.true_and, Bool.false_and, Bool.and_true, Bool.and_false, Bool.or_false, Bool.or_true, Bool.true_or, Bool.false_or, Bool.not_true, Bool.not_false, true_implies, false_implies, true_and, and_true, Int.reduceToNat] <;> and_intros <;> first | (apply hK1; clear hK1 K1) | (intros; first | omega | decide) | skip) | (refine awp_cond (t := _) rfl (fun hq => ?_) (fun hq => ?_) <;> first | (exact absurd hq (by decide)) | (cases hq; done) | (clear hq)) | (refine awp_un 8 ?_) | (with_reducible exact rfl) | (with_reducible exact trivial) | ((with_reducible show uside _); first | exact True.intro | exact rfl) | ((with_reducible show opS _ _); exact True.intro) | (refine ⟨AV.v (.bool true), rfl, hK1 _ ?_⟩; clear hK1 K1)))
 simp only [Tryz.results121, go_sem, ↓reduceIte, reduceCtorEq, nA, nB, nC, nD, nE, nF]
 exact ⟨_, _, Weak.refl _, Hp.le.refl _, rfl, rfl⟩
theorem c_hasNil (s : ByteArray) (h : Hp) : ACalls Tryz.prog 57 [.v (.slice none 0 0), .v (.string s)] h (fun r h' => r = .v (.bool false) ∧ h' = h) := by
 have h1 := fun h => c_ixNil s h
 refine gE Tryz.func57 rfl (by kernel_rfl) 7 rfl fun c => ?_
 (repeat (first | refine gO rfl ?_ | (refine gR fun K1 hK1 => ?_; simp only [go_sem, ↓reduceIte, reduceCtorEq, nA, nB, nC, nD, nE, nF, Int.reduceBEq, Int.reduceTMod, Int.reduceTDiv, Int.reduceMul, Int.reduceBNe, Int.reduceLT, Int.reduceLE, Int.reduceAdd, Int.reduceSub, Int.reduceNeg, decide_true, decide_false, Bool.true_and, Bool.false_and, Bool.and_true, Bool.and_false, Bool.or_false, Bool.or_true, Bool.true_or, Bool.false_or, Bool.not_true, Bool.not_false, true_implies, false_implies, true_and, and_true, Int.reduceToNat] <;> and_intros <;> first | (apply hK1; clear hK1 K1) | (intros; first | omega | decide) | skip) | (refine awp_cond (t := _) rfl (fun hq => ?_) (fun hq => ?_) <;> first | (exact absurd hq (by decide)) | (cases hq; done) | (clear hq)) | (refine awp_un 8 ?_) | (with_reducible exact rfl) | (with_reducible exact trivial) | ((with_reducible show uside _); first | exact True.intro | exact rfl) | ((with_reducible show opS _ _); exact True.intro) | (refine ⟨AV.v (.bool true), rfl, hK1 _ ?_⟩; clear hK1 K1) | (refine (h1 _).mono ?_; rintro _ hz ⟨rfl, hh⟩; (first | (refine hK1 _ ?_) | (refine ⟨rfl, hK1 _ ?_⟩)); clear hK1 K1; rw [hh]; clear hh hz)))
 simp only [Tryz.results57, go_sem, ↓reduceIte, reduceCtorEq, nA, nB, nC, nD, nE, nF]
 exact ⟨_, _, Weak.refl _, Hp.le.refl _, rfl, rfl⟩
theorem g_ixNo (s : ByteArray) (l : List ByteArray) (h : Hp) (hl : l.length ≤ 100000) (hn : ∀ x ∈ l, (s == x) = false) : ACalls Tryz.prog 121 [.row 1 (l.map fun x => [.v (.string x)]) none, .v (.string s)] h (fun r h' => r = .v (.int .i64 (-1)) ∧ h' = h) := by
 obtain ⟨en, hen⟩ : ∃ en : ByteArray → List AV, en = fun x => [.v (.string x)] := ⟨_, rfl⟩
 rw [← hen]
 have hml : (l.map en).length = l.length := List.length_map _
 refine gE Tryz.func121 rfl (by kernel_rfl) 17 rfl fun c => ?_
 (repeat (first | refine gO rfl ?_ | (refine gR fun K1 hK1 => ?_; simp only [go_sem, ↓reduceIte, reduceCtorEq, nA, nB, nC, nD, nE, nF, hml] <;> and_intros <;> first | (apply hK1; clear hK1 K1) | (intros; first | omega | decide | (simp_all <;> omega)) | skip)))
 refine awp_loopC (rl false [0, 2, 5, 2, 10]) 0 (fun g s' => ∃ j : Nat, g + j = l.length ∧
  s' = ⟨((.row 1 (l.map en) none) :: (.v (.string s)) :: (jnk 5 ((.v (.int .i64 l.length)) :: (.v (.int .i64 j)) :: (jnk 10 [])))), [], h⟩) l.length ⟨0, by omega, rfl⟩ ?_
 rintro g _ ⟨j, hj, rfl⟩
 (repeat (first | refine gO rfl ?_ | (refine gR fun K1 hK1 => ?_; simp only [go_sem, ↓reduceIte, reduceCtorEq, nA, nB, nC, nD, nE, nF] <;> and_intros <;> first | (apply hK1; clear hK1 K1) | (intros; first | omega | decide) | skip)))
 refine awp_cond (t := _) rfl (fun h1 => ?_) (fun h1 => ?_)
 ·simp only [decide_eq_true_eq] at h1
  have hjl : j < l.length := by omega
  have gx : (l.map en).getD j [] = en (l.getD j default) := getD_enc en l j default hjl
  have hno := hn (l.getD j default) (by rw [List.getD_eq_getElem?_getD, List.getElem?_eq_getElem hjl]; exact List.getElem_mem _)
  generalize l.getD j default = y at *
  have gx2 : (l.map en).getD j [] = [.v (.string y)] := by rw [gx, hen]
  (repeat (first | refine gO rfl ?_ | (refine gR fun K1 hK1 => ?_; simp only [go_sem, ↓reduceIte, reduceCtorEq, nA, nB, nC, nD, nE, nF, hml, Int.toNat_natCast, gx2] <;> and_intros <;> first | (apply hK1; clear hK1 K1) | (intros; first | omega | decide) | skip)))
  refine awp_cond (t := _) rfl (fun h9 => by rw [hno] at h9; cases h9) (fun _ => ?_)
  (repeat (first | refine gO rfl ?_ | (refine gR fun K1 hK1 => ?_; simp only [go_sem, ↓reduceIte, reduceCtorEq, nA, nB, nC, nD, nE, nF] <;> and_intros <;> first | (apply hK1; clear hK1 K1) | (intros; first | omega | decide) | skip)))
  exact ⟨g - 1, by omega, j + 1, by omega, rfl⟩
 ·(repeat (first | refine gO rfl ?_ | (refine gR fun K1 hK1 => ?_; simp only [go_sem, ↓reduceIte, reduceCtorEq, nA, nB, nC, nD, nE, nF] <;> and_intros <;> first | (apply hK1; clear hK1 K1) | (intros; first | omega | decide) | skip)))
  simp only [Tryz.results121, go_sem, ↓reduceIte, reduceCtorEq, nA, nB, nC, nD, nE, nF]
  exact ⟨_, _, Weak.refl _, Hp.le.refl _, rfl, rfl⟩
theorem g_hasNo (s : ByteArray) (l : List ByteArray) (h : Hp) (hl : l.length ≤ 100000) (hn : ∀ x ∈ l, (s == x) = false) : ACalls Tryz.prog 57 [.row 1 (l.map fun x => [.v (.string x)]) none, .v (.string s)] h (fun r h' => r = .v (.bool false) ∧ h' = h) := by
 have h1 := fun h => g_ixNo s l h hl hn
 generalize (l.map fun x => [AV.v (.string x)]) = rw0 at *
 refine gE Tryz.func57 rfl (by kernel_rfl) 7 rfl fun c => ?_
 (repeat (first | refine gO rfl ?_ | (refine gR fun K1 hK1 => ?_; simp only [go_sem, ↓reduceIte, reduceCtorEq, nA, nB, nC, nD, nE, nF, Int.reduceBEq, Int.reduceTMod, Int.reduceTDiv, Int.reduceMul, Int.reduceBNe, Int.reduceLT, Int.reduceLE, Int.reduceAdd, Int.reduceSub, Int.reduceNeg, decide_true, decide_false, Bool.true_and, Bool.false_and, Bool.and_true, Bool.and_false, Bool.or_false, Bool.or_true, Bool.true_or, Bool.false_or, Bool.not_true, Bool.not_false, true_implies, false_implies, true_and, and_true, Int.reduceToNat] <;> and_intros <;> first | (apply hK1; clear hK1 K1) | (intros; first | omega | decide) | skip) | (refine awp_cond (t := _) rfl (fun hq => ?_) (fun hq => ?_) <;> first | (exact absurd hq (by decide)) | (cases hq; done) | (clear hq)) | (refine awp_un 8 ?_) | (with_reducible exact rfl) | (with_reducible exact trivial) | ((with_reducible show uside _); first | exact True.intro | exact rfl) | ((with_reducible show opS _ _); exact True.intro) | (refine ⟨AV.v (.bool true), rfl, hK1 _ ?_⟩; clear hK1 K1) | (refine (h1 _).mono ?_; rintro _ hz ⟨rfl, hh⟩; (first | (refine hK1 _ ?_) | (refine ⟨rfl, hK1 _ ?_⟩)); clear hK1 K1; rw [hh]; clear hh hz)))
 simp only [Tryz.results57, go_sem, ↓reduceIte, reduceCtorEq, nA, nB, nC, nD, nE, nF]
 exact ⟨_, _, Weak.refl _, Hp.le.refl _, rfl, rfl⟩
abbrev zPLE : List Nat := [0, 1, 2, 3, 4, 5, 6, 7, 8, 9, 10, 11, 12]
abbrev zPLP : List (Nat × List Nat × List Nat) := []
abbrev zPME : List Nat := [0, 2, 7, 8]
abbrev zPMP : List (Nat × List Nat × List Nat) := [(1, [7], []), (3, [7], [4, 5, 6]), (9, [], [10, 11]), (12, [], [])]
abbrev zPNE : List Nat := [0, 1, 2, 3]
abbrev zPNP : List (Nat × List Nat × List Nat) := [(4, [2], []), (5, [], [6, 7, 8]), (10, [], [11])]
abbrev zPOE : List Nat := [0, 1, 2, 3, 4, 5, 6, 7, 8, 9]
abbrev zPOP : List (Nat × List Nat × List Nat) := []
abbrev zPPE : List Nat := [0, 1, 2, 3, 4, 5, 6, 7, 8]
abbrev zPPP : List (Nat × List Nat × List Nat) := [(9, [], [10])]
abbrev zPQE : List Nat := [0, 1, 2, 3, 4, 5, 6, 7, 8, 9, 10]
abbrev zPQP : List (Nat × List Nat × List Nat) := []
abbrev zPRE : List Nat := [0, 1, 2, 3, 4, 5, 6, 7, 8, 9, 10, 11, 12, 13, 14, 15, 16]
abbrev zPRP : List (Nat × List Nat × List Nat) := [(17, [], [])]
abbrev zPSE : List Nat := [0, 1, 2, 3, 4, 5, 6, 7, 8]
abbrev zPSP : List (Nat × List Nat × List Nat) := [(9, [], [10])]
abbrev zPTE : List Nat := [0, 1, 2, 3, 4, 5, 6, 7, 8, 9, 10, 11, 12, 13, 14, 15, 16, 17, 18, 19, 20, 21, 22, 23, 24, 25, 26, 27, 28, 29, 30, 31]
abbrev zPTP : List (Nat × List Nat × List Nat) := [(32, [], [33, 34])]
abbrev zPUE : List Nat := [0, 1, 2, 3, 4, 5, 6]
abbrev zPUP : List (Nat × List Nat × List Nat) := []
attribute [go_sem] zPLE zPLP zPME zPMP zPNE zPNP zPOE zPOP zPPE zPPP zPQE zPQP zPRE zPRP zPSE zPSP zPTE zPTP zPUE zPUP
def vI (n : Int) : AV := .v (.int .i64 n)
def vS (s : ByteArray) : AV := .v (.string s)
def vB (b : Bool) : AV := .v (.bool b)
def nl : AV := .v (.slice none 0 0)
def s0 : ByteArray := ⟨#[]⟩
def ndC (kind : Int) (name : ByteArray) : List AV := [vI kind, vS s0, vS s0, vS name, nl, vI 0, nl, vS s0, vS s0, vS s0, vI 0, vS s0, vI 0, vB false, vS s0, vS s0, vS s0, nl, nl]
def bkC (part : AV) : List AV := ndC 0 s0 ++ [part, vB false]
def rdrC (i : Int) (b : Nat) : List AV := [vS sT, vI i, .row 1 [[.ptr b 0]] none, vB false]
theorem hle_obj {h : Hp} {b : Nat} {o : AO} (hb : h.H b = none) : Hp.le h ⟨upd h.H b (some o), h.T⟩ :=
 ⟨fun i => by
  by_cases e : i = b
  ·exact .inl (by rw [e]; exact hb)
  ·exact .inr (upd_other _ _ e).symm, fun _ => .inr rfl⟩
theorem Weak.tupW {a a' : AV} {xs : List AV} (ha : Weak a a') : Weak (.tup (a :: xs)) (.tup (a' :: xs)) := fun G v hr => by
 cases hr with
 | tup _ vs u hl hu hr =>
  refine .tup _ vs u (by simpa using hl) (fun j hj => hu j (by simpa using hj)) (fun j hj => ?_)
  rcases j with _ | j
  ·exact ha G _ (hr 0 (by simp))
  ·exact hr (j + 1) (by simpa using hj)
theorem nc1 : ((1 : Nat) : Int) = 1 := rfl
theorem c_top (r b : Nat) (i : Int) (h : Hp) (hr : h.H r = some (.cells (rdrC i b))) : ACalls Tryz.prog 310 [.ptr r 0] h (fun x h' => x = .ptr b 0 ∧ h' = h) := by
 unfold rdrC vS vI vB at hr
 refine gE Tryz.func310 rfl (by kernel_rfl) 14 rfl fun c => ?_
 (repeat (first | refine gO rfl ?_ | ((first | refine gR ?_ | (with_reducible refine wM ?_ ?_) | ((with_reducible refine xS ?_); refine uD 1 zM22 zPLE zPLP 15 rfl (by kernel_rfl) ?_)) <;> ((try with_reducible intro K1 hK1); simp only [go_sem, ↓reduceIte, reduceCtorEq, nA, nB, nC, nD, nE, nF, Int.reduceBEq, Int.reduceTMod, Int.reduceTDiv, Int.reduceMul, Int.reduceBNe, Int.reduceLT, Int.reduceLE, Int.reduceAdd, Int.reduceSub, Int.reduceNeg, decide_true, decide_false, Bool.true_and, Bool.false_and, Bool.and_true, Bool.and_false, Bool.or_false, Bool.or_true, Bool.true_or, Bool.false_or, Bool.not_true, Bool.not_false, true_implies, false_implies, true_and, and_true, Int.reduceToNat, hr, nc1] <;> and_intros <;> first | (apply hK1; clear hK1 K1) | (intros; first | omega | decide) | skip)) | (refine awp_cond (t := _) rfl (fun hq => ?_) (fun hq => ?_) <;> first | (exact absurd hq (by decide)) | (cases hq; done) | (clear hq)) | (refine awp_un 8 ?_) | (with_reducible exact rfl) | (with_reducible exact trivial) | ((with_reducible show uside _); first | exact True.intro | exact rfl) | ((with_reducible show opS _ _); exact True.intro) | (refine ⟨AV.v (.bool true), rfl, hK1 _ ?_⟩; clear hK1 K1)))
 simp only [Tryz.results310, go_sem, ↓reduceIte, reduceCtorEq, nA, nB, nC, nD, nE, nF]
 exact ⟨_, _, Weak.refl _, Hp.le.refl _, rfl, rfl⟩
theorem c_add (r b : Nat) (i : Int) (n : List AV) (h : Hp) (hn : n.length = 19) (hr : h.H r = some (.cells (rdrC i b))) (hb : h.H b = some (.cells (bkC nl))) : ACalls Tryz.prog 246 [.ptr r 0, .agg n] h (fun x h' => x = .tup [] ∧ ∃ k, h.T k = none ∧ h' = ⟨upd h.H b (some (.cells (bkC (.row 19 [n] (some k))))), upd h.T k (some (.tail 1))⟩) := by
 have h1 := c_top r b i h hr
 have ht : List.take 19 n = n := List.take_of_length_le (by omega)
 unfold bkC ndC vS vI vB nl s0 at *
 simp only [List.cons_append, List.nil_append] at *
 refine gE Tryz.func246 rfl (by kernel_rfl) 14 rfl fun c => ?_
 (repeat (first | refine gO rfl ?_ | ((first | refine gR ?_ | (with_reducible refine wM ?_ ?_) | ((with_reducible refine xR ?_); refine uE 1 zM22 zPME zPMP 16 rfl (by kernel_rfl) ?_)) <;> ((try with_reducible intro K1 hK1); simp only [go_sem, ↓reduceIte, reduceCtorEq, nA, nB, nC, nD, nE, nF, Int.reduceBEq, Int.reduceTMod, Int.reduceTDiv, Int.reduceMul, Int.reduceBNe, Int.reduceLT, Int.reduceLE, Int.reduceAdd, Int.reduceSub, Int.reduceNeg, decide_true, decide_false, Bool.true_and, Bool.false_and, Bool.and_true, Bool.and_false, Bool.or_false, Bool.or_true, Bool.true_or, Bool.false_or, Bool.not_true, Bool.not_false, true_implies, false_implies, true_and, and_true, Int.reduceToNat, hb, hn, ht] <;> and_intros <;> first | (apply hK1; clear hK1 K1) | (intros; first | omega | decide) | skip)) | (refine awp_cond (t := _) rfl (fun hq => ?_) (fun hq => ?_) <;> first | (exact absurd hq (by decide)) | (cases hq; done) | (clear hq)) | (refine awp_un 8 ?_) | (with_reducible exact rfl) | (with_reducible exact trivial) | ((with_reducible show uside _); first | exact True.intro | exact rfl) | ((with_reducible show opS _ _); exact True.intro) | (refine ⟨AV.v (.bool true), rfl, hK1 _ ?_⟩; clear hK1 K1) | (refine (h1).mono ?_; rintro _ hz ⟨rfl, hh⟩; (first | (refine hK1 _ ?_) | (refine ⟨rfl, hK1 _ ?_⟩)); clear hK1 K1; rw [hh]; clear hh hz)))
 intro k hk
 refine hK1 _ ?_; clear hK1 K1
 (repeat (first | refine gO rfl ?_ | ((first | refine gR ?_ | (with_reducible refine wM ?_ ?_) | ((with_reducible refine xR ?_); refine uE 1 zM22 zPME zPMP 16 rfl (by kernel_rfl) ?_)) <;> ((try with_reducible intro K1 hK1); simp only [go_sem, ↓reduceIte, reduceCtorEq, nA, nB, nC, nD, nE, nF, Int.reduceBEq, Int.reduceTMod, Int.reduceTDiv, Int.reduceMul, Int.reduceBNe, Int.reduceLT, Int.reduceLE, Int.reduceAdd, Int.reduceSub, Int.reduceNeg, decide_true, decide_false, Bool.true_and, Bool.false_and, Bool.and_true, Bool.and_false, Bool.or_false, Bool.or_true, Bool.true_or, Bool.false_or, Bool.not_true, Bool.not_false, true_implies, false_implies, true_and, and_true, Int.reduceToNat, hb] <;> and_intros <;> first | (apply hK1; clear hK1 K1) | (intros; first | omega | decide) | skip)) | (refine awp_cond (t := _) rfl (fun hq => ?_) (fun hq => ?_) <;> first | (exact absurd hq (by decide)) | (cases hq; done) | (clear hq)) | (refine awp_un 8 ?_) | (with_reducible exact rfl) | (with_reducible exact trivial) | ((with_reducible show uside _); first | exact True.intro | exact rfl) | ((with_reducible show opS _ _); exact True.intro) | (refine ⟨AV.v (.bool true), rfl, hK1 _ ?_⟩; clear hK1 K1)))
 simp only [Tryz.results246, go_sem, ↓reduceIte, reduceCtorEq, nA, nB, nC, nD, nE, nF]
 exact ⟨_, _, Weak.refl _, Hp.le.refl _, rfl, k, hk, rfl⟩
theorem c_names (r b : Nat) (i : Int) (part : AV) (h : Hp) (hr : h.H r = some (.cells (rdrC i b))) (hb : h.H b = some (.cells (bkC part))) : ACalls Tryz.prog 350 [.ptr r 0] h (fun x h' => x = nl ∧ h' = h) := by
 unfold rdrC vS vI vB at hr
 unfold bkC ndC vS vI vB nl s0 at *
 simp only [List.cons_append, List.nil_append] at *
 refine gE Tryz.func350 rfl (by kernel_rfl) 30 rfl fun c => ?_
 (repeat (first | refine gO rfl ?_ | (refine gR fun K1 hK1 => ?_; simp only [go_sem, ↓reduceIte, reduceCtorEq, nA, nB, nC, nD, nE, nF, Int.reduceBEq, Int.reduceTMod, Int.reduceTDiv, Int.reduceMul, Int.reduceBNe, Int.reduceLT, Int.reduceLE, Int.reduceAdd, Int.reduceSub, Int.reduceNeg, decide_true, decide_false, Bool.true_and, Bool.false_and, Bool.and_true, Bool.and_false, Bool.or_false, Bool.or_true, Bool.true_or, Bool.false_or, Bool.not_true, Bool.not_false, true_implies, false_implies, true_and, and_true, Int.reduceToNat, hr, hb, nc1] <;> and_intros <;> first | (apply hK1; clear hK1 K1) | (intros; first | omega | decide) | skip) | (refine awp_cond (t := _) rfl (fun hq => ?_) (fun hq => ?_) <;> first | (exact absurd hq (by decide)) | (cases hq; done) | (clear hq)) | (refine awp_un 8 ?_) | (with_reducible exact rfl) | (with_reducible exact trivial) | ((with_reducible show uside _); first | exact True.intro | exact rfl) | ((with_reducible show opS _ _); exact True.intro) | (refine ⟨AV.v (.bool true), rfl, hK1 _ ?_⟩; clear hK1 K1)))
 simp only [Tryz.results350, go_sem, ↓reduceIte, reduceCtorEq, nA, nB, nC, nD, nE, nF]
 exact ⟨_, _, Weak.refl _, Hp.le.refl _, rfl, rfl⟩
theorem c_isReserved (h : Hp) : ACalls Tryz.prog 317 [.v (.string sN)] h (fun x h' => x = .v (.bool false) ∧ h' = h) := by
 have h1 := fun h => g_hasNo sN [⟨#[111, 112, 101, 110]⟩, ⟨#[99, 108, 111, 115, 101]⟩, ⟨#[105, 102]⟩, ⟨#[101, 108, 115, 101]⟩, ⟨#[101, 110, 100]⟩, ⟨#[101, 97, 99, 104]⟩, ⟨#[97, 115]⟩, ⟨#[97, 110, 100]⟩, ⟨#[111, 114]⟩, ⟨#[110, 111, 116]⟩, ⟨#[116, 114, 117, 101]⟩, ⟨#[102, 97, 108, 115, 101]⟩] h (by decide) (by decide)
 simp only [List.map_cons, List.map_nil] at h1
 refine gE Tryz.func317 rfl (by kernel_rfl) 5 rfl fun c => ?_
 (repeat (first | refine gO rfl ?_ | (refine gR fun K1 hK1 => ?_; simp only [go_sem, ↓reduceIte, reduceCtorEq, nA, nB, nC, nD, nE, nF, Int.reduceBEq, Int.reduceTMod, Int.reduceTDiv, Int.reduceMul, Int.reduceBNe, Int.reduceLT, Int.reduceLE, Int.reduceAdd, Int.reduceSub, Int.reduceNeg, decide_true, decide_false, Bool.true_and, Bool.false_and, Bool.and_true, Bool.and_false, Bool.or_false, Bool.or_true, Bool.true_or, Bool.false_or, Bool.not_true, Bool.not_false, true_implies, false_implies, true_and, and_true, Int.reduceToNat] <;> and_intros <;> first | (apply hK1; clear hK1 K1) | (intros; first | omega | decide) | skip) | (refine awp_cond (t := _) rfl (fun hq => ?_) (fun hq => ?_) <;> first | (exact absurd hq (by decide)) | (cases hq; done) | (clear hq)) | (refine awp_un 8 ?_) | (with_reducible exact rfl) | (with_reducible exact trivial) | ((with_reducible show uside _); first | exact True.intro | exact rfl) | ((with_reducible show opS _ _); exact True.intro) | (refine ⟨AV.v (.bool true), rfl, hK1 _ ?_⟩; clear hK1 K1) | (refine (h1 _).mono ?_; rintro _ hz ⟨rfl, hh⟩; (first | (refine hK1 _ ?_) | (refine ⟨rfl, hK1 _ ?_⟩)); clear hK1 K1; rw [hh]; clear hh hz)))
 simp only [Tryz.results317, go_sem, ↓reduceIte, reduceCtorEq, nA, nB, nC, nD, nE, nF]
 exact ⟨_, _, Weak.refl _, Hp.le.refl _, rfl, rfl⟩
theorem c_isName (h : Hp) : ACalls Tryz.prog 248 [.v (.string sN)] h (fun x h' => x = .v (.bool true) ∧ h' = h) := by
 have h1 := fun h => c_isReserved h
 have h2 := fun h => a_isKey sN (by decide) h
 rw [show keyB sN = true by decide] at h2
 refine gE Tryz.func248 rfl (by kernel_rfl) 9 rfl fun c => ?_
 (repeat (first | refine gO rfl ?_ | (refine gR fun K1 hK1 => ?_; simp only [go_sem, ↓reduceIte, reduceCtorEq, nA, nB, nC, nD, nE, nF, Int.reduceBEq, Int.reduceTMod, Int.reduceTDiv, Int.reduceMul, Int.reduceBNe, Int.reduceLT, Int.reduceLE, Int.reduceAdd, Int.reduceSub, Int.reduceNeg, decide_true, decide_false, Bool.true_and, Bool.false_and, Bool.and_true, Bool.and_false, Bool.or_false, Bool.or_true, Bool.true_or, Bool.false_or, Bool.not_true, Bool.not_false, true_implies, false_implies, true_and, and_true, Int.reduceToNat] <;> and_intros <;> first | (apply hK1; clear hK1 K1) | (intros; first | omega | decide) | skip) | (refine awp_cond (t := _) rfl (fun hq => ?_) (fun hq => ?_) <;> first | (exact absurd hq (by decide)) | (cases hq; done) | (clear hq)) | (refine awp_un 8 ?_) | (with_reducible exact rfl) | (with_reducible exact trivial) | ((with_reducible show uside _); first | exact True.intro | exact rfl) | ((with_reducible show opS _ _); exact True.intro) | (refine ⟨AV.v (.bool true), rfl, hK1 _ ?_⟩; clear hK1 K1) | (refine (h1 _).mono ?_; rintro _ hz ⟨rfl, hh⟩; (first | (refine hK1 _ ?_) | (refine ⟨rfl, hK1 _ ?_⟩)); clear hK1 K1; rw [hh]; clear hh hz) | (refine (h2 _).mono ?_; rintro _ hz ⟨rfl, hh⟩; (first | (refine hK1 _ ?_) | (refine ⟨rfl, hK1 _ ?_⟩)); clear hK1 K1; rw [hh]; clear hh hz)))
 simp only [Tryz.results248, go_sem, ↓reduceIte, reduceCtorEq, nA, nB, nC, nD, nE, nF]
 exact ⟨_, _, Weak.refl _, Hp.le.refl _, rfl, rfl⟩
theorem c_refOf (h : Hp) : ACalls Tryz.prog 353 [.v (.string sN), nl] h (fun x h' => x = .tup [.agg [vS s0, vS sN], .v (.bool true)] ∧ h' = h) := by
 have h1 := fun h => c_cut h
 have h2 := fun h => c_isName h
 have h3 := fun s h => c_hasNil s h
 unfold nl vS s0 at *
 refine gE Tryz.func353 rfl (by kernel_rfl) 35 rfl fun c => ?_
 (repeat (first | refine gO rfl ?_ | (refine gM zM24 fun K1 hK1 => ?_; simp only [go_sem, ↓reduceIte, reduceCtorEq, nA, nB, nC, nD, nE, nF, Int.reduceBEq, Int.reduceTMod, Int.reduceTDiv, Int.reduceMul, Int.reduceBNe, Int.reduceLT, Int.reduceLE, Int.reduceAdd, Int.reduceSub, Int.reduceNeg, decide_true, decide_false, Bool.true_and, Bool.false_and, Bool.and_true, Bool.and_false, Bool.or_false, Bool.or_true, Bool.true_or, Bool.false_or, Bool.not_true, Bool.not_false, true_implies, false_implies, true_and, and_true, Int.reduceToNat] <;> and_intros <;> first | (apply hK1; clear hK1 K1) | (intros; first | omega | decide) | skip) | (refine awp_cond (t := _) rfl (fun hq => ?_) (fun hq => ?_) <;> first | (exact absurd hq (by decide)) | (cases hq; done) | (clear hq)) | (refine awp_un 8 ?_) | (with_reducible exact rfl) | (with_reducible exact trivial) | ((with_reducible show uside _); first | exact True.intro | exact rfl) | ((with_reducible show opS _ _); exact True.intro) | (refine ⟨AV.v (.bool true), rfl, hK1 _ ?_⟩; clear hK1 K1) | (refine (h1 _).mono ?_; rintro _ hz ⟨rfl, hh⟩; (first | (refine hK1 _ ?_) | (refine ⟨rfl, hK1 _ ?_⟩)); clear hK1 K1; rw [hh]; clear hh hz) | (refine (h2 _).mono ?_; rintro _ hz ⟨rfl, hh⟩; (first | (refine hK1 _ ?_) | (refine ⟨rfl, hK1 _ ?_⟩)); clear hK1 K1; rw [hh]; clear hh hz) | (refine (h3 _ _).mono ?_; rintro _ hz ⟨rfl, hh⟩; (first | (refine hK1 _ ?_) | (refine ⟨rfl, hK1 _ ?_⟩)); clear hK1 K1; rw [hh]; clear hh hz)))
 intro p hp
 refine hK1 _ ?_; clear hK1 K1
 (repeat (first | refine gO rfl ?_ | (refine gM zM24 fun K1 hK1 => ?_; simp only [go_sem, ↓reduceIte, reduceCtorEq, nA, nB, nC, nD, nE, nF, Int.reduceBEq, Int.reduceTMod, Int.reduceTDiv, Int.reduceMul, Int.reduceBNe, Int.reduceLT, Int.reduceLE, Int.reduceAdd, Int.reduceSub, Int.reduceNeg, decide_true, decide_false, Bool.true_and, Bool.false_and, Bool.and_true, Bool.and_false, Bool.or_false, Bool.or_true, Bool.true_or, Bool.false_or, Bool.not_true, Bool.not_false, true_implies, false_implies, true_and, and_true, Int.reduceToNat] <;> and_intros <;> first | (apply hK1; clear hK1 K1) | (intros; first | omega | decide) | skip) | (refine awp_cond (t := _) rfl (fun hq => ?_) (fun hq => ?_) <;> first | (exact absurd hq (by decide)) | (cases hq; done) | (clear hq)) | (refine awp_un 8 ?_) | (with_reducible exact rfl) | (with_reducible exact trivial) | ((with_reducible show uside _); first | exact True.intro | exact rfl) | ((with_reducible show opS _ _); exact True.intro) | (refine ⟨AV.v (.bool true), rfl, hK1 _ ?_⟩; clear hK1 K1) | (refine (h1 _).mono ?_; rintro _ hz ⟨rfl, hh⟩; (first | (refine hK1 _ ?_) | (refine ⟨rfl, hK1 _ ?_⟩)); clear hK1 K1; rw [hh]; clear hh hz) | (refine (h2 _).mono ?_; rintro _ hz ⟨rfl, hh⟩; (first | (refine hK1 _ ?_) | (refine ⟨rfl, hK1 _ ?_⟩)); clear hK1 K1; rw [hh]; clear hh hz) | (refine (h3 _ _).mono ?_; rintro _ hz ⟨rfl, hh⟩; (first | (refine hK1 _ ?_) | (refine ⟨rfl, hK1 _ ?_⟩)); clear hK1 K1; rw [hh]; clear hh hz)))
 simp only [Tryz.results353, go_sem, ↓reduceIte, reduceCtorEq, nA, nB, nC, nD, nE, nF]
 exact ⟨_, h, Weak.refl _, hle_obj hp, rfl, rfl⟩
def ndN : List AV := ndC 1 sN
theorem c_fieldTag (r b : Nat) (i : Int) (h : Hp) (hr : h.H r = some (.cells (rdrC i b))) (hb : h.H b = some (.cells (bkC nl))) : ACalls Tryz.prog 316 [.ptr r 0, .v (.string sN)] h (fun x h' => x = .v (.bool true) ∧ ∃ k, h.T k = none ∧ h' = ⟨upd h.H b (some (.cells (bkC (.row 19 [ndN] (some k))))), upd h.T k (some (.tail 1))⟩) := by
 have h1 := fun h => c_split h
 have h2 := fun h hr hb => c_names r b i nl h hr hb
 have h3 := fun h => c_refOf h
 have h4 := fun h hr hb => c_add r b i ndN h rfl hr hb
 have g2 := h2 h hr hb
 have g4 := h4 h hr hb
 clear h2 h4
 unfold nl at g2
 unfold nl vS s0 at h3
 simp only [ndN, ndC, vI, vS, vB, nl, s0] at g4
 refine gE Tryz.func316 rfl (by kernel_rfl) 56 rfl fun c => ?_
 (repeat (first | refine gO rfl ?_ | ((first | refine gM zM25 ?_ | (with_reducible refine wM ?_ ?_) | ((with_reducible refine xS ?_); refine uF 2 zM25 9 zPNE zPNP 58 rfl (by kernel_rfl) ?_)) <;> ((try with_reducible intro K1 hK1); simp only [go_sem, ↓reduceIte, reduceCtorEq, nA, nB, nC, nD, nE, nF, Int.reduceBEq, Int.reduceTMod, Int.reduceTDiv, Int.reduceMul, Int.reduceBNe, Int.reduceLT, Int.reduceLE, Int.reduceAdd, Int.reduceSub, Int.reduceNeg, decide_true, decide_false, Bool.true_and, Bool.false_and, Bool.and_true, Bool.and_false, Bool.or_false, Bool.or_true, Bool.true_or, Bool.false_or, Bool.not_true, Bool.not_false, true_implies, false_implies, true_and, and_true, Int.reduceToNat, nc1] <;> and_intros <;> first | (apply hK1; clear hK1 K1) | (intros; first | omega | decide) | skip)) | (refine awp_cond (t := _) rfl (fun hq => ?_) (fun hq => ?_) <;> first | (exact absurd hq (by decide)) | (cases hq; done) | (clear hq)) | (refine awp_un 8 ?_) | (with_reducible exact rfl) | (with_reducible exact trivial) | ((with_reducible show uside _); first | exact True.intro | exact rfl) | ((with_reducible show opS _ _); exact True.intro) | (refine ⟨AV.v (.bool true), rfl, hK1 _ ?_⟩; clear hK1 K1) | (refine (h1 _).mono ?_; rintro _ hz ⟨rfl, hh⟩; (first | (refine hK1 _ ?_) | (refine ⟨rfl, hK1 _ ?_⟩)); clear hK1 K1; rw [hh]; clear hh hz) | (refine (g2).mono ?_; rintro _ hz ⟨rfl, hh⟩; (first | (refine hK1 _ ?_) | (refine ⟨rfl, hK1 _ ?_⟩)); clear hK1 K1; rw [hh]; clear hh hz) | (refine (h3 _).mono ?_; rintro _ hz ⟨rfl, hh⟩; (first | (refine hK1 _ ?_) | (refine ⟨rfl, hK1 _ ?_⟩)); clear hK1 K1; rw [hh]; clear hh hz)))
 refine g4.mono ?_
 rintro _ hz ⟨rfl, k, hk, rfl⟩
 refine hK1 _ ?_; clear hK1 K1
 (repeat (first | refine gO rfl ?_ | ((first | refine gM zM25 ?_ | (with_reducible refine wM ?_ ?_) | ((with_reducible refine xS ?_); refine uF 2 zM25 9 zPNE zPNP 58 rfl (by kernel_rfl) ?_)) <;> ((try with_reducible intro K1 hK1); simp only [go_sem, ↓reduceIte, reduceCtorEq, nA, nB, nC, nD, nE, nF, Int.reduceBEq, Int.reduceTMod, Int.reduceTDiv, Int.reduceMul, Int.reduceBNe, Int.reduceLT, Int.reduceLE, Int.reduceAdd, Int.reduceSub, Int.reduceNeg, decide_true, decide_false, Bool.true_and, Bool.false_and, Bool.and_true, Bool.and_false, Bool.or_false, Bool.or_true, Bool.true_or, Bool.false_or, Bool.not_true, Bool.not_false, true_implies, false_implies, true_and, and_true, Int.reduceToNat] <;> and_intros <;> first | (apply hK1; clear hK1 K1) | (intros; first | omega | decide) | skip)) | (refine awp_cond (t := _) rfl (fun hq => ?_) (fun hq => ?_) <;> first | (exact absurd hq (by decide)) | (cases hq; done) | (clear hq)) | (refine awp_un 8 ?_) | (with_reducible exact rfl) | (with_reducible exact trivial) | ((with_reducible show uside _); first | exact True.intro | exact rfl) | ((with_reducible show opS _ _); exact True.intro) | (refine ⟨AV.v (.bool true), rfl, hK1 _ ?_⟩; clear hK1 K1)))
 simp only [Tryz.results316, go_sem, ↓reduceIte, reduceCtorEq, nA, nB, nC, nD, nE, nF]
 exact ⟨_, _, Weak.refl _, Hp.le.refl _, rfl, k, hk, rfl⟩
theorem c_tag (r b : Nat) (i : Int) (h : Hp) (hr : h.H r = some (.cells (rdrC i b))) (hb : h.H b = some (.cells (bkC nl))) : ACalls Tryz.prog 247 [.ptr r 0, .v (.string sN)] h (fun x h' => x = .v (.bool true) ∧ ∃ k, h.T k = none ∧ h' = ⟨upd h.H b (some (.cells (bkC (.row 19 [ndN] (some k))))), upd h.T k (some (.tail 1))⟩) := by
 have g1 := c_fieldTag r b i h hr hb
 have h2 := fun h => c_cutPrefix ⟨#[105, 102, 32]⟩ h (by decide)
 have h3 := fun h => c_cutPrefix ⟨#[101, 97, 99, 104, 32]⟩ h (by decide)
 have e1 : (sN == ⟨#[111, 112, 101, 110]⟩) = false := by decide
 have e2 : (sN == ⟨#[99, 108, 111, 115, 101]⟩) = false := by decide
 have e3 : (sN == ⟨#[101, 108, 115, 101]⟩) = false := by decide
 have e4 : (sN == ⟨#[101, 110, 100]⟩) = false := by decide
 refine gE Tryz.func247 rfl (by kernel_rfl) 47 rfl fun c => ?_
 (repeat (first | refine gO rfl ?_ | (refine gR fun K1 hK1 => ?_; simp only [go_sem, ↓reduceIte, reduceCtorEq, nA, nB, nC, nD, nE, nF, Int.reduceBEq, Int.reduceTMod, Int.reduceTDiv, Int.reduceMul, Int.reduceBNe, Int.reduceLT, Int.reduceLE, Int.reduceAdd, Int.reduceSub, Int.reduceNeg, decide_true, decide_false, Bool.true_and, Bool.false_and, Bool.and_true, Bool.and_false, Bool.or_false, Bool.or_true, Bool.true_or, Bool.false_or, Bool.not_true, Bool.not_false, true_implies, false_implies, true_and, and_true, Int.reduceToNat, e1, e2, e3, e4] <;> and_intros <;> first | (apply hK1; clear hK1 K1) | (intros; first | omega | decide) | skip) | (refine awp_cond (t := _) rfl (fun hq => ?_) (fun hq => ?_) <;> first | (exact absurd hq (by decide)) | (cases hq; done) | (clear hq)) | (refine awp_un 8 ?_) | (with_reducible exact rfl) | (with_reducible exact trivial) | ((with_reducible show uside _); first | exact True.intro | exact rfl) | ((with_reducible show opS _ _); exact True.intro) | (refine ⟨AV.v (.bool true), rfl, hK1 _ ?_⟩; clear hK1 K1) | (refine (h2 _).mono ?_; rintro _ hz ⟨rfl, hh⟩; (first | (refine hK1 _ ?_) | (refine ⟨rfl, hK1 _ ?_⟩)); clear hK1 K1; rw [hh]; clear hh hz) | (refine (h3 _).mono ?_; rintro _ hz ⟨rfl, hh⟩; (first | (refine hK1 _ ?_) | (refine ⟨rfl, hK1 _ ?_⟩)); clear hK1 K1; rw [hh]; clear hh hz)))
 refine g1.mono ?_
 rintro _ hz ⟨rfl, k, hk, rfl⟩
 refine hK1 _ ?_; clear hK1 K1
 (repeat (first | refine gO rfl ?_ | (refine gR fun K1 hK1 => ?_; simp only [go_sem, ↓reduceIte, reduceCtorEq, nA, nB, nC, nD, nE, nF, Int.reduceBEq, Int.reduceTMod, Int.reduceTDiv, Int.reduceMul, Int.reduceBNe, Int.reduceLT, Int.reduceLE, Int.reduceAdd, Int.reduceSub, Int.reduceNeg, decide_true, decide_false, Bool.true_and, Bool.false_and, Bool.and_true, Bool.and_false, Bool.or_false, Bool.or_true, Bool.true_or, Bool.false_or, Bool.not_true, Bool.not_false, true_implies, false_implies, true_and, and_true, Int.reduceToNat] <;> and_intros <;> first | (apply hK1; clear hK1 K1) | (intros; first | omega | decide) | skip) | (refine awp_cond (t := _) rfl (fun hq => ?_) (fun hq => ?_) <;> first | (exact absurd hq (by decide)) | (cases hq; done) | (clear hq)) | (refine awp_un 8 ?_) | (with_reducible exact rfl) | (with_reducible exact trivial) | ((with_reducible show uside _); first | exact True.intro | exact rfl) | ((with_reducible show opS _ _); exact True.intro) | (refine ⟨AV.v (.bool true), rfl, hK1 _ ?_⟩; clear hK1 K1)))
 simp only [Tryz.results247, go_sem, ↓reduceIte, reduceCtorEq, nA, nB, nC, nD, nE, nF]
 exact ⟨_, _, Weak.refl _, Hp.le.refl _, rfl, k, hk, rfl⟩
theorem c_run (r : Nat) (h : Hp) (hr : h.H r = some (.cells [vS sT, vI 0, nl, vB false])) : ACalls Tryz.prog 194 [.ptr r 0] h (fun x h' => x = .v (.bool true) ∧ ∃ b k, h'.H r = some (.cells (rdrC 3 b)) ∧ h'.H b = some (.cells (bkC (.row 19 [ndN] (some k)))) ∧ h'.T k = some (.tail 1)) := by
 have h1 := fun h => c_indexAny h
 have h2 := fun h => c_indexByte h
 have z1 : (sT.size : Int) = 3 := rfl
 have z2 : ((sT.data.toList.getD 0 0).toNat : Int) = 123 := rfl
 have z3 : sT.extract 0 3 = sT := by decide
 have z4 : sT.extract 1 2 = sN := by decide
 unfold vS vI nl vB at hr
 refine gE Tryz.func194 rfl (by kernel_rfl) 130 rfl fun c => ?_
 (repeat (first | refine gO rfl ?_ | ((first | refine gM zM26 ?_ | (with_reducible refine wM ?_ ?_) | ((with_reducible refine xS ?_); refine uD 2 zM26 zPOE zPOP 131 rfl (by kernel_rfl) ?_) | ((with_reducible refine xS ?_); refine uD 3 zM26 zPPE zPPP 131 rfl (by kernel_rfl) ?_) | ((with_reducible refine xR ?_); refine uE 5 zM26 zPQE zPQP 131 rfl (by kernel_rfl) ?_) | ((with_reducible refine xS ?_); refine uD 7 zM26 zPRE zPRP 131 rfl (by kernel_rfl) ?_) | ((with_reducible refine xS ?_); refine uD 9 zM26 zPSE zPSP 131 rfl (by kernel_rfl) ?_) | ((with_reducible refine xS ?_); refine uD 10 zM26 zPTE zPTP 131 rfl (by kernel_rfl) ?_)) <;> ((try with_reducible intro K1 hK1); simp only [go_sem, ↓reduceIte, reduceCtorEq, nA, nB, nC, nD, nE, nF, Int.reduceBEq, Int.reduceTMod, Int.reduceTDiv, Int.reduceMul, Int.reduceBNe, Int.reduceLT, Int.reduceLE, Int.reduceAdd, Int.reduceSub, Int.reduceNeg, decide_true, decide_false, Bool.true_and, Bool.false_and, Bool.and_true, Bool.and_false, Bool.or_false, Bool.or_true, Bool.true_or, Bool.false_or, Bool.not_true, Bool.not_false, true_implies, false_implies, true_and, and_true, Int.reduceToNat, hr] <;> and_intros <;> first | (apply hK1; clear hK1 K1) | (intros; first | omega | decide) | skip)) | (refine awp_cond (t := _) rfl (fun hq => ?_) (fun hq => ?_) <;> first | (exact absurd hq (by decide)) | (cases hq; done) | (clear hq)) | (refine awp_un 8 ?_) | (with_reducible exact rfl) | (with_reducible exact trivial) | ((with_reducible show uside _); first | exact True.intro | exact rfl) | ((with_reducible show opS _ _); exact True.intro) | (refine ⟨AV.v (.bool true), rfl, hK1 _ ?_⟩; clear hK1 K1) | (refine (h1 _).mono ?_; rintro _ hz ⟨rfl, hh⟩; (first | (refine hK1 _ ?_) | (refine ⟨rfl, hK1 _ ?_⟩)); clear hK1 K1; rw [hh]; clear hh hz) | (refine (h2 _).mono ?_; rintro _ hz ⟨rfl, hh⟩; (first | (refine hK1 _ ?_) | (refine ⟨rfl, hK1 _ ?_⟩)); clear hK1 K1; rw [hh]; clear hh hz)))
 intro b hb
 have hrb : r ≠ b := by rintro rfl; rw [hr] at hb; cases hb
 have hor : ∀ o, upd h.H b o r = some (.cells [.v (.string sT), .v (.int .i64 0), .v (.slice none 0 0), .v (.bool false)]) := fun o => (upd_other _ _ hrb).trans hr
 ((simp only [go_sem, ↓reduceIte, reduceCtorEq, nA, nB, nC, nD, nE, nF, hor]; (try and_intros); all_goals first | (refine hK1 _ ?_; clear hK1 K1) | (intros; first | omega | decide | (simp_all <;> omega)) | skip))
 (repeat (first | refine gO rfl ?_ | ((first | refine gM zM26 ?_ | (with_reducible refine wM ?_ ?_) | ((with_reducible refine xS ?_); refine uD 2 zM26 zPOE zPOP 131 rfl (by kernel_rfl) ?_) | ((with_reducible refine xS ?_); refine uD 3 zM26 zPPE zPPP 131 rfl (by kernel_rfl) ?_) | ((with_reducible refine xR ?_); refine uE 5 zM26 zPQE zPQP 131 rfl (by kernel_rfl) ?_) | ((with_reducible refine xS ?_); refine uD 7 zM26 zPRE zPRP 131 rfl (by kernel_rfl) ?_) | ((with_reducible refine xS ?_); refine uD 9 zM26 zPSE zPSP 131 rfl (by kernel_rfl) ?_) | ((with_reducible refine xS ?_); refine uD 10 zM26 zPTE zPTP 131 rfl (by kernel_rfl) ?_)) <;> ((try with_reducible intro K1 hK1); simp only [go_sem, ↓reduceIte, reduceCtorEq, nA, nB, nC, nD, nE, nF, Int.reduceBEq, Int.reduceTMod, Int.reduceTDiv, Int.reduceMul, Int.reduceBNe, Int.reduceLT, Int.reduceLE, Int.reduceAdd, Int.reduceSub, Int.reduceNeg, decide_true, decide_false, Bool.true_and, Bool.false_and, Bool.and_true, Bool.and_false, Bool.or_false, Bool.or_true, Bool.true_or, Bool.false_or, Bool.not_true, Bool.not_false, true_implies, false_implies, true_and, and_true, Int.reduceToNat, upd_same, z1, z2, z3, z4] <;> and_intros <;> first | (apply hK1; clear hK1 K1) | (intros; first | omega | decide) | skip)) | (refine awp_cond (t := _) rfl (fun hq => ?_) (fun hq => ?_) <;> first | (exact absurd hq (by decide)) | (cases hq; done) | (clear hq)) | (refine awp_un 8 ?_) | (with_reducible exact rfl) | (with_reducible exact trivial) | ((with_reducible show uside _); first | exact True.intro | exact rfl) | ((with_reducible show opS _ _); exact True.intro) | (refine ⟨AV.v (.bool true), rfl, hK1 _ ?_⟩; clear hK1 K1) | (refine (h1 _).mono ?_; rintro _ hz ⟨rfl, hh⟩; (first | (refine hK1 _ ?_) | (refine ⟨rfl, hK1 _ ?_⟩)); clear hK1 K1; rw [hh]; clear hh hz) | (refine (h2 _).mono ?_; rintro _ hz ⟨rfl, hh⟩; (first | (refine hK1 _ ?_) | (refine ⟨rfl, hK1 _ ?_⟩)); clear hK1 K1; rw [hh]; clear hh hz)))
 refine ⟨.v (.string sN), ⟨⟨rfl, rfl, True.intro⟩, ?_⟩, rfl, ?_⟩
 ·unfold qE
  simp only [go_sem, ↓reduceIte, reduceCtorEq, Nat.reduceAdd, Nat.reduceSub, Nat.reduceMul, Nat.reduceLT, Nat.reduceLeDiff, Nat.reduceEqDiff, z1, z4]
  exact ⟨by decide, congrArg (fun s => AV.v (.string s)) z4⟩
 refine hK1 _ ?_; clear hK1 K1
 (repeat (first | refine gO rfl ?_ | ((first | refine gM zM26 ?_ | (with_reducible refine wM ?_ ?_) | ((with_reducible refine xS ?_); refine uD 2 zM26 zPOE zPOP 131 rfl (by kernel_rfl) ?_) | ((with_reducible refine xS ?_); refine uD 3 zM26 zPPE zPPP 131 rfl (by kernel_rfl) ?_) | ((with_reducible refine xR ?_); refine uE 5 zM26 zPQE zPQP 131 rfl (by kernel_rfl) ?_) | ((with_reducible refine xS ?_); refine uD 7 zM26 zPRE zPRP 131 rfl (by kernel_rfl) ?_) | ((with_reducible refine xS ?_); refine uD 9 zM26 zPSE zPSP 131 rfl (by kernel_rfl) ?_) | ((with_reducible refine xS ?_); refine uD 10 zM26 zPTE zPTP 131 rfl (by kernel_rfl) ?_)) <;> ((try with_reducible intro K1 hK1); simp only [go_sem, ↓reduceIte, reduceCtorEq, nA, nB, nC, nD, nE, nF, Int.reduceBEq, Int.reduceTMod, Int.reduceTDiv, Int.reduceMul, Int.reduceBNe, Int.reduceLT, Int.reduceLE, Int.reduceAdd, Int.reduceSub, Int.reduceNeg, decide_true, decide_false, Bool.true_and, Bool.false_and, Bool.and_true, Bool.and_false, Bool.or_false, Bool.or_true, Bool.true_or, Bool.false_or, Bool.not_true, Bool.not_false, true_implies, false_implies, true_and, and_true, Int.reduceToNat] <;> and_intros <;> first | (apply hK1; clear hK1 K1) | (intros; first | omega | decide) | skip)) | (refine awp_cond (t := _) rfl (fun hq => ?_) (fun hq => ?_) <;> first | (exact absurd hq (by decide)) | (cases hq; done) | (clear hq)) | (refine awp_un 8 ?_) | (with_reducible exact rfl) | (with_reducible exact trivial) | ((with_reducible show uside _); first | exact True.intro | exact rfl) | ((with_reducible show opS _ _); exact True.intro) | (refine ⟨AV.v (.bool true), rfl, hK1 _ ?_⟩; clear hK1 K1)))
 have g1 := c_tag r b 0 ⟨upd (upd h.H b (some (.cells (bkC nl)))) r (some (.cells (rdrC 0 b))), h.T⟩ (upd_same _ _ _) ((upd_other _ _ hrb.symm).trans (upd_same _ _ _))
 refine g1.mono ?_
 rintro _ hz ⟨rfl, k, hk, rfl⟩
 refine ⟨rfl, hK1 _ ?_⟩; clear hK1 K1 g1
 generalize hbb : bkC (.row 19 [ndN] (some k)) = bb
 have hor2 : ∀ o, upd (upd (upd h.H b (some (.cells (bkC nl)))) r (some (.cells (rdrC 0 b)))) b o r = some (.cells [.v (.string sT), .v (.int .i64 0), .row 1 [[.ptr b 0]] none, .v (.bool false)]) := fun o => (upd_other _ _ hrb).trans (upd_same _ _ _)
 (repeat (first | refine gO rfl ?_ | ((first | refine gM zM26 ?_ | (with_reducible refine wM ?_ ?_) | ((with_reducible refine xS ?_); refine uD 2 zM26 zPOE zPOP 131 rfl (by kernel_rfl) ?_) | ((with_reducible refine xS ?_); refine uD 3 zM26 zPPE zPPP 131 rfl (by kernel_rfl) ?_) | ((with_reducible refine xR ?_); refine uE 5 zM26 zPQE zPQP 131 rfl (by kernel_rfl) ?_) | ((with_reducible refine xS ?_); refine uD 7 zM26 zPRE zPRP 131 rfl (by kernel_rfl) ?_) | ((with_reducible refine xS ?_); refine uD 9 zM26 zPSE zPSP 131 rfl (by kernel_rfl) ?_) | ((with_reducible refine xS ?_); refine uD 10 zM26 zPTE zPTP 131 rfl (by kernel_rfl) ?_)) <;> ((try with_reducible intro K1 hK1); simp only [go_sem, ↓reduceIte, reduceCtorEq, nA, nB, nC, nD, nE, nF, Int.reduceBEq, Int.reduceTMod, Int.reduceTDiv, Int.reduceMul, Int.reduceBNe, Int.reduceLT, Int.reduceLE, Int.reduceAdd, Int.reduceSub, Int.reduceNeg, decide_true, decide_false, Bool.true_and, Bool.false_and, Bool.and_true, Bool.and_false, Bool.or_false, Bool.or_true, Bool.true_or, Bool.false_or, Bool.not_true, Bool.not_false, true_implies, false_implies, true_and, and_true, Int.reduceToNat, upd_same, z1, hor2, nc1] <;> and_intros <;> first | (apply hK1; clear hK1 K1) | (intros; first | omega | decide) | skip)) | (refine awp_cond (t := _) rfl (fun hq => ?_) (fun hq => ?_) <;> first | (exact absurd hq (by decide)) | (cases hq; done) | (clear hq)) | (refine awp_un 8 ?_) | (with_reducible exact rfl) | (with_reducible exact trivial) | ((with_reducible show uside _); first | exact True.intro | exact rfl) | ((with_reducible show opS _ _); exact True.intro) | (refine ⟨AV.v (.bool true), rfl, hK1 _ ?_⟩; clear hK1 K1)))
 simp only [Tryz.results194, go_sem, ↓reduceIte, reduceCtorEq, nA, nB, nC, nD, nE, nF]
 exact ⟨_, _, Weak.refl _, Hp.le.refl _, rfl, b, k, upd_same _ _ _, ((upd_other _ _ hrb.symm).trans (upd_same _ _ _)).trans (by rw [hbb]), upd_same _ _ _⟩
theorem c_parse (h : Hp) : ACalls Tryz.prog 136 [.v (.string sT)] h (fun x h' => x = .tup [.row 19 [ndN] none, .v (.int .i64 0), .v (.int .i64 0)]) := by
 have h1 := fun r h hr => c_run r h hr
 have z1 : (sT.size : Int) = 3 := rfl
 refine gE Tryz.func136 rfl (by kernel_rfl) 31 rfl fun c => ?_
 (repeat (first | refine gO rfl ?_ | ((first | refine gM zM27 ?_ | (with_reducible refine wM ?_ ?_) | ((with_reducible refine xS ?_); refine uD 5 zM27 zPUE zPUP 32 rfl (by kernel_rfl) ?_)) <;> ((try with_reducible intro K1 hK1); simp only [go_sem, ↓reduceIte, reduceCtorEq, nA, nB, nC, nD, nE, nF, Int.reduceBEq, Int.reduceTMod, Int.reduceTDiv, Int.reduceMul, Int.reduceBNe, Int.reduceLT, Int.reduceLE, Int.reduceAdd, Int.reduceSub, Int.reduceNeg, decide_true, decide_false, Bool.true_and, Bool.false_and, Bool.and_true, Bool.and_false, Bool.or_false, Bool.or_true, Bool.true_or, Bool.false_or, Bool.not_true, Bool.not_false, true_implies, false_implies, true_and, and_true, Int.reduceToNat, z1] <;> and_intros <;> first | (apply hK1; clear hK1 K1) | (intros; first | omega | decide) | skip)) | (refine awp_cond (t := _) rfl (fun hq => ?_) (fun hq => ?_) <;> first | (exact absurd hq (by decide)) | (cases hq; done) | (clear hq)) | (refine awp_un 8 ?_) | (with_reducible exact rfl) | (with_reducible exact trivial) | ((with_reducible show uside _); first | exact True.intro | exact rfl) | ((with_reducible show opS _ _); exact True.intro) | (refine ⟨AV.v (.bool true), rfl, hK1 _ ?_⟩; clear hK1 K1)))
 intro r hr
 refine hK1 _ ?_; clear hK1 K1
 (repeat (first | refine gO rfl ?_ | ((first | refine gM zM27 ?_ | (with_reducible refine wM ?_ ?_) | ((with_reducible refine xS ?_); refine uD 5 zM27 zPUE zPUP 32 rfl (by kernel_rfl) ?_)) <;> ((try with_reducible intro K1 hK1); simp only [go_sem, ↓reduceIte, reduceCtorEq, nA, nB, nC, nD, nE, nF, Int.reduceBEq, Int.reduceTMod, Int.reduceTDiv, Int.reduceMul, Int.reduceBNe, Int.reduceLT, Int.reduceLE, Int.reduceAdd, Int.reduceSub, Int.reduceNeg, decide_true, decide_false, Bool.true_and, Bool.false_and, Bool.and_true, Bool.and_false, Bool.or_false, Bool.or_true, Bool.true_or, Bool.false_or, Bool.not_true, Bool.not_false, true_implies, false_implies, true_and, and_true, Int.reduceToNat] <;> and_intros <;> first | (apply hK1; clear hK1 K1) | (intros; first | omega | decide) | skip)) | (refine awp_cond (t := _) rfl (fun hq => ?_) (fun hq => ?_) <;> first | (exact absurd hq (by decide)) | (cases hq; done) | (clear hq)) | (refine awp_un 8 ?_) | (with_reducible exact rfl) | (with_reducible exact trivial) | ((with_reducible show uside _); first | exact True.intro | exact rfl) | ((with_reducible show opS _ _); exact True.intro) | (refine ⟨AV.v (.bool true), rfl, hK1 _ ?_⟩; clear hK1 K1)))
 refine (h1 r _ (upd_same _ _ _)).mono ?_
 rintro _ ha ⟨rfl, b, k, har, hab, hak⟩
 refine hK1 _ ?_; clear hK1 K1 h1
 unfold rdrC vS vI vB at har
 generalize hnn : ([ndN] : List (List AV)) = nn at *
 unfold bkC ndC vS vI vB nl s0 at hab
 simp only [List.cons_append, List.nil_append] at hab
 (repeat (first | refine gO rfl ?_ | ((first | refine gM zM27 ?_ | (with_reducible refine wM ?_ ?_) | ((with_reducible refine xS ?_); refine uD 5 zM27 zPUE zPUP 32 rfl (by kernel_rfl) ?_)) <;> ((try with_reducible intro K1 hK1); simp only [go_sem, ↓reduceIte, reduceCtorEq, nA, nB, nC, nD, nE, nF, Int.reduceBEq, Int.reduceTMod, Int.reduceTDiv, Int.reduceMul, Int.reduceBNe, Int.reduceLT, Int.reduceLE, Int.reduceAdd, Int.reduceSub, Int.reduceNeg, decide_true, decide_false, Bool.true_and, Bool.false_and, Bool.and_true, Bool.and_false, Bool.or_false, Bool.or_true, Bool.true_or, Bool.false_or, Bool.not_true, Bool.not_false, true_implies, false_implies, true_and, and_true, Int.reduceToNat, har, hab] <;> and_intros <;> first | (apply hK1; clear hK1 K1) | (intros; first | omega | decide) | skip)) | (refine awp_cond (t := _) rfl (fun hq => ?_) (fun hq => ?_) <;> first | (exact absurd hq (by decide)) | (cases hq; done) | (clear hq)) | (refine awp_un 8 ?_) | (with_reducible exact rfl) | (with_reducible exact trivial) | ((with_reducible show uside _); first | exact True.intro | exact rfl) | ((with_reducible show opS _ _); exact True.intro) | (refine ⟨AV.v (.bool true), rfl, hK1 _ ?_⟩; clear hK1 K1)))
 simp only [Tryz.results136, go_sem, ↓reduceIte, reduceCtorEq, nA, nB, nC, nD, nE, nF]
 exact ⟨_, _, Weak.tupW (Weak.row _ _ _), Hp.le.refl _, rfl⟩
open Go.RowKit
theorem bon {a b c : World} (h : Below a.heap.size a b) (k : Below b.heap.size b c) : Below a.heap.size a c := h.trans (k.mono h.size)
theorem bfirst (a : World) (o : Obj) : Below a.heap.size a (a.alloc o) := (Below.refl _ _).alloc (Nat.le_refl _) o
theorem bold {a b : World} (k : Below a.heap.size a b) {p : Addr} {v : Value} (h : a.cell? p = some v) : b.cell? p = some v :=
  (k.cell (World.block_lt_of_cell? a _ h)).trans h
open Go Go.RowKit
def fV : List Value := [.string sN, .int .i64 2, .string ⟨#[]⟩, .int .i64 5, .bool false, .slice none 0 0]
def fC : List AV := fV.map .v
theorem w_cmp (w : World) : Calls Tryz.prog 359 #[.agg #[.string sN, .int .i64 2, .string ⟨#[]⟩, .int .i64 5, .bool false, .slice none 0 0], .string sN] w fun e w' => e = .returned (.int .i64 0) ∧ Below w.heap.size w w' := by
 have HC := fun w => Tryz.strings_Compare sN sN w
 go_enter Tryz.func359, Tryz.ntmps359
 go_wp2_with fail
 refine (HC _).mono ?_
 rintro e w1 ⟨rfl, rfl⟩
 go_wp2_with fail
 go_ret
 exact ⟨rfl, bfirst _ _⟩
theorem w_search (b o c : Nat) (w : World) (hbl : b < w.heap.size) (h0 : ∀ j (hj : j < fV.length), w.cell? ⟨b, o + j, none⟩ = some fV[j]) :
  Calls Tryz.prog 358 #[.slice (some ⟨b, o, none⟩) 1 c, .string sN, .func (.func 359) #[] #[]] w fun e w' => e = .returned (.tuple #[.int .i64 0, .bool true]) ∧ Below w.heap.size w w' := by
 have c0 := h0 0 (by decide)
 have c1 := h0 1 (by decide)
 have c2 := h0 2 (by decide)
 have c3 := h0 3 (by decide)
 have c4 := h0 4 (by decide)
 have c5 := h0 5 (by decide)
 simp only [fV, List.getElem_cons_zero, List.getElem_cons_succ] at c0 c1 c2 c3 c4 c5
 have hcl : ∀ j v, j < 6 → w.cell? ⟨b, o + j, none⟩ = some v → ∀ wr, Below w.heap.size w wr → wr.cell? ⟨b, o + j, none⟩ = some v := fun j v _ hv wr hb => bold hb hv
 have HC := Lib.hid (show ∀ wr, Below w.heap.size w wr → b < wr.heap.size ∧ wr.cell? ⟨b, o, none⟩ = some (.string sN) ∧ wr.cell? ⟨b, o + 1, none⟩ = some (.int .i64 2) ∧ wr.cell? ⟨b, o + 2, none⟩ = some (.string ⟨#[]⟩) ∧ wr.cell? ⟨b, o + 3, none⟩ = some (.int .i64 5) ∧ wr.cell? ⟨b, o + 4, none⟩ = some (.bool false) ∧ wr.cell? ⟨b, o + 5, none⟩ = some (.slice none 0 0) from fun wr hb => ⟨Nat.lt_of_lt_of_le hbl hb.size, bold hb c0, bold hb c1, bold hb c2, bold hb c3, bold hb c4, bold hb c5⟩)
 have eg := enters_of Tryz.func359 (by kernel_rfl) rfl
 clear h0 c0 c1 c2 c3 c4 c5 hcl hbl
 go_enter Tryz.func358, Tryz.ntmps358
 go_wp2_with fail
 go_loopg [9, 10, 11] 1 (fun g s9 s10 _ wr => ∃ hi : Nat, s9 = .int .i64 0 ∧ s10 = .int .i64 hi ∧ hi ≤ 1 ∧ hi ≤ g ∧ Below w.heap.size w wr)
 case atStart => exact ⟨1, rfl, rfl, by omega, by omega, Below.refl _ _⟩
 case round =>
  obtain ⟨hi, rfl, rfl, h1, hg, hb⟩ := hrel
  obtain ⟨hbl, c0, c1, c2, c3, c4, c5⟩ := HC.out wr hb
  obtain rfl | rfl : hi = 0 ∨ hi = 1 := by omega
  ·go_wp2_with fail
   refine (w_cmp _).mono ?_
   rintro e w1 ⟨rfl, hb1⟩
   go_wp2_with fail
   go_ret2
   exact ⟨rfl, bon hb hb1⟩
  ·have hgk : gk ≠ 0 := by omega
   go_wp2_with fail
   refine (w_cmp _).mono ?_
   rintro e w1 ⟨rfl, hb1⟩
   go_wp2_with fail
   go_roundg 0
   case measure => omega
   case rel => exact ⟨0, rfl, rfl, by omega, by omega, bon hb hb1⟩
section
variable {P : Program} {c : Cx} {s : St} {ty : Nat → Option TyD} {o : Oper}
theorem a_boxObj {t : Nat} {x : Operand} (ho : o.op = .box t x) {cs : List AV} (hc : (s.ev x).cellsB = some cs) {K : St → Prop}
  (hK : ∀ i, s.h.H i = none → K ({ s with h := { s.h with H := upd s.h.H i (some (.obj t cs)) } }.put o.dst (.ptr i 0))) : Aop P c o s K := by
 rintro a w ⟨G, L, sm, hg, hf, hL⟩ Kc Qc hk
 have hr := cellsB_sound (sm.ev x) hc
 obtain ⟨hn, s1, g1, f1, e1⟩ := sm.newObj (y := .obj t cs) (o := .cells (a.eval x).cells.toList.toArray t) ⟨_, rfl, by simpa using hr⟩
 unfold Oper.wp
 have hrun : (execOp a.eval o).run P w = .ok (.value (.pointer (some ⟨w.heap.size, 0, none⟩))) (w.alloc (.cells (a.eval x).cells.toList.toArray t)) := by
  simp [execOp, ho, Instr.box, newVar, newRow]
 rw [hrun]
 exact hk _ _ _ (hK _ hn) (In.put s1 (hg.trans g1) (hf.trans f1) hL o.dst (RepT.of (.ptr _ 0 _ e1)))
end
open Go.RowKit in
theorem w_ccAt (b : Nat) (w : World) (n : Nat) (h0 : w.cell? ⟨b, 2, none⟩ = some (.pointer none)) (hsh : w.shape? b = some (260, 5)) (hfz : w.frozen? ⟨b, 2, none⟩ = false) :
  Calls Tryz.prog 160 #[.pointer (some ⟨b, 2, none⟩)] w fun e w' => e = .returned (.tuple #[]) ∧ w' = w.setCell ⟨b, 2, none⟩ (.pointer (some ⟨b, 2, none⟩)) := by
 obtain ⟨j, hj, hjs⟩ := Option.map_eq_some_iff.1 sizeBuilder
 go_enter Tryz.func160, Tryz.ntmps160
 go_wp2
 rw [Lib.run_to_unsafe w ⟨b, 2, none⟩ Tryz.underlying202 Tryz.underlying355 hj (by rw [hjs]; decide) hsh (by show 2 < 5; omega)]
 simp only [Result.andThen]
 rw [Oper.upon_value]
 go_wp2
 rw [run_callFunc_extern Tryz.func229 (by kernel_rfl) (by kernel_rfl) (by kernel_rfl) (e := Extern.AbiNoEscape.same) (by kernel_rfl)]
 rw [Lib.run_noEscape]
 simp only [Result.andThen]
 rw [Oper.upon_value]
 go_wp2
 rw [Lib.run_from_unsafe w ⟨b, 2, none⟩ Tryz.underlying355 Tryz.underlying202 hj hsh (by kernel_rfl)]
 simp only [Result.andThen]
 rw [Oper.upon_value]
 go_wp2
 go_end0
 exact ⟨rfl, rfl⟩
theorem five_cells {G : Gh} {A B C D E : AV} {vs : Array Value} (h : RepL G [A, B, C, D, E] vs.toList) : ∃ a b c d e, vs = #[a, b, c, d, e] ∧ Rep G A a ∧ Rep G B b ∧ Rep G C c ∧ Rep G D d ∧ Rep G E e ∧ a.oneCell' = true ∧ b.oneCell' = true ∧ d.oneCell' = true ∧ e.oneCell' = true := by
 obtain ⟨h1, h2⟩ := h
 have hs : vs.size = 5 := by simpa using h1
 refine ⟨vs[0], vs[1], vs[2], vs[3], vs[4], ?_, ?_⟩
 ·apply Array.ext (by simpa using hs)
  intro j a b
  have : j = 0 ∨ j = 1 ∨ j = 2 ∨ j = 3 ∨ j = 4 := by simp at b; omega
  rcases this with rfl | rfl | rfl | rfl | rfl <;> rfl
 ·have a0 := h2 0 (by simp) (by simp; omega)
  have a1 := h2 1 (by simp) (by simp; omega)
  have a2 := h2 2 (by simp) (by simp; omega)
  have a3 := h2 3 (by simp) (by simp; omega)
  have a4 := h2 4 (by simp) (by simp; omega)
  simp only [List.getElem_cons_zero, List.getElem_cons_succ, Array.getElem_toList] at a0 a1 a2 a3 a4
  exact ⟨a0.1, a1.1, a2.1, a3.1, a4.1, a0.2, a1.2, a3.2, a4.2⟩
theorem one_ptrAt {G : Gh} {b o : Nat} {vs : Array Value} (hv : vs.size = 1) (ha : ∀ j (hj : j < [AV.ptr b o].length), Rep G [AV.ptr b o][j] (vs.getD j undef)) : ∃ p, vs = #[.pointer (some ⟨p, o, none⟩)] ∧ G.at_ b = some p := by
 have hr := ha 0 (by simp)
 have hvs : vs = #[vs.getD 0 undef] := by
  apply Array.ext (by simpa using hv)
  intro j hj hj'
  simp only [List.size_toArray, List.length_cons, List.length_nil] at hj'
  obtain rfl : j = 0 := by omega
  simp [Array.getD, hv]
 rw [hvs]
 generalize vs.getD 0 undef = v at hr
 simp only [List.getElem_cons_zero] at hr
 cases hr with
 | ptr _ _ p hat => exact ⟨p, rfl, hat⟩
theorem g_ccAt (b : Nat) (D R Y I : AV) (h : Hp) (hb : h.H b = some (.obj 260 [D, R, .v (.pointer none), Y, I])) :
  ACalls Tryz.prog 160 [.ptr b 2] h (fun r h' => r = .tup [] ∧ h' = { h with H := upd h.H b (some (.obj 260 [D, R, .ptr b 2, Y, I])) }) := by
 refine acalls_mk (by kernel_rfl) fun G w vs hs hv ha => ?_
 obtain ⟨p, rfl, hat⟩ := one_ptrAt hv ha
 obtain ⟨p', ob, e', hh, ⟨us, rfl, hrr⟩, hval⟩ := hs.obj b _ hb
 rw [hat] at e'; cases e'
 obtain ⟨d, r, x, y, i, rfl, hd, hrw, hx, hy, hi, od, orr, oy, oi⟩ := five_cells hrr
 have hO : Own G h p := .inl ⟨b, by rw [hb]; simp, hat⟩
 have hre : RepL G [D, R, .ptr b 2, Y, I] [d, r, .pointer (some ⟨p, 2, none⟩), y, i] :=
  RepL.cons hd od (RepL.cons hrw orr (RepL.cons (.ptr b 2 p hat) rfl (RepL.cons hy oy (RepL.cons hi oi (RepL.nil G)))))
 obtain rfl : x = .pointer none := (RepT.of (L := []) hx).v_inv
 have hc0 : w.cell? ⟨p, 2, none⟩ = some (.pointer none) := by simp [World.cell?, hh]
 refine (w_ccAt p w 0 hc0 (by simp [World.shape?, hh]) (by simp [World.frozen?, hh])).mono ?_
 rintro e w' ⟨rfl, rfl⟩
 have hh' : (w.setCell ⟨p, 2, none⟩ (.pointer (some ⟨p, 2, none⟩))).heap[p]? = some (.cells #[d, r, .pointer (some ⟨p, 2, none⟩), y, i] 260 (0, 0)) := by
  exact heap_setCell_same w p 2 _ _ _ hh
 have hoth : ∀ q, q ≠ p → (w.setCell ⟨p, 2, none⟩ (.pointer (some ⟨p, 2, none⟩))).heap[q]? = w.heap[q]? := fun q hq => heap_setCell_other w _ q _ hq
 refine ⟨_, rfl, .tup [], _, G, ⟨rfl, rfl⟩, GLe.refl _, ?_, hs.setObj hb hat hoth hh' ⟨_, rfl, hre⟩, .tup [] #[] (fun _ => undef) rfl (fun j hj => by simp at hj) (fun j hj => by simp at hj)⟩
 exact ⟨rfl, rfl, rfl, by simp [World.setCell], fun q hlt hn => ⟨hoth q (fun e => hn (e ▸ hO)), fun o' => hn ((own_updH hb).1 o'), fun _ => rfl⟩⟩
theorem g_writeAt (b k : Nat) (D R I : AV) (s : ByteArray) (h : Hp) (hb : h.H b = some (.obj 260 [D, R, .v (.pointer none), .arr 1 k 0, I])) (hT : h.T k = some (.buf 5 (rowB []))) (hbig : s.size ≤ 1000000000) :
  ACalls Tryz.prog 104 [.ptr b 2, .v (.string s)] h (fun r h' => r = .tup [.v (.int .i64 s.size), .v .nilIface] ∧ h' = ⟨upd h.H b (some (.obj 260 [D, R, .ptr b 2, .arr 1 k s.size, I])), upd h.T k (some (.buf 5 (rowB s.data.toList)))⟩) := by
 have hl : (rowB []).length = 0 := rfl
 have ha : rowB [] ++ strRow s = rowB s.data.toList := rowB_app [] s
 rw [← ha]
 generalize rowB [] = bs at *
 refine gE Tryz.func104 rfl (by kernel_rfl) 17 rfl fun c => ?_
 (repeat (first | refine gO rfl ?_ | (refine gR fun K1 hK1 => ?_; simp only [go_sem, ↓reduceIte, reduceCtorEq, nA, nB, nC, nD, nE, nF] <;> and_intros <;> first | (apply hK1; clear hK1 K1) | (intros; first | omega | decide | (simp_all <;> omega)) | skip)))
 refine (g_ccAt b D R _ I h hb).mono ?_; rintro _ hz ⟨rfl, hh⟩; apply hK1; clear hK1 K1; rw [hh]; clear hh hz
 (repeat (first | refine gO rfl ?_ | (refine gR fun K1 hK1 => ?_; simp only [go_sem, ↓reduceIte, reduceCtorEq, nA, nB, nC, nD, nE, nF, upd_same, hT] <;> and_intros <;> first | (apply hK1; clear hK1 K1) | (intros; first | omega | decide | (simp_all <;> omega)) | skip)))
 simp only [Tryz.results104, go_sem, ↓reduceIte, reduceCtorEq, nA, nB, nC, nD, nE, nF]
 exact ⟨_, _, Weak.refl _, Hp.le.refl _, rfl, by simp only [Nat.zero_add]⟩
open Go.RowKit in
theorem w_strAt (b g cap : Nat) (cur : Array Value) (d r p i : Value) (l : List UInt8) (w : World) (h0 : l ≠ []) (hbk : w.heap[b]? = some (.cells #[d, r, p, .slice (some ⟨g, 0, none⟩) l.length cap, i] 260 (0, 0))) (hg : w.heap[g]? = some (.cells cur 5 (0, 0)))
  (hnc : l.length ≤ cap) (hcm : cap ≤ maxLen) (hcs : cur.size = cap) (htake : cur.toList.take l.length = Lib.byteCells l) :
  Calls Tryz.prog 105 #[.pointer (some ⟨b, 2, none⟩)] w fun e w' => e = .returned (.string ⟨l.toArray⟩) ∧ w' = w.drew.freeze ⟨g, 0, none⟩ l.length := by
 have hl0 : l.length ≠ 0 := by simpa using h0
 have c1 : w.drew.cell? ⟨b, 3, none⟩ = some (.slice (some ⟨g, 0, none⟩) l.length cap) := by
  have : w.drew.heap[b]? = some (.cells #[d, r, p, .slice (some ⟨g, 0, none⟩) l.length cap, i] 260 (0, 0)) := hbk
  rw [Lib.cell_of_heap this]; rfl
 have hSD : (Builtin.unsafeSliceData_ #[203] 280 #[.slice (some ⟨g, 0, none⟩) l.length cap]).run Tryz.prog w.drew = .ok (.pointer (some ⟨g, 0, none⟩)) w.drew :=
  Lib.run_unsafeSliceData_row _ _ _ _ _ _ (by omega)
 have hUS : (Builtin.unsafeString_ #[280, 3] 9 #[.pointer (some ⟨g, 0, none⟩), .int .i64 l.length]).run Tryz.prog w.drew = .ok (.string ⟨l.toArray⟩) (w.drew.freeze ⟨g, 0, none⟩ l.length) := by
  refine Lib.run_unsafeString_row w.drew 280 3 9 5 Tryz.underlying280 (by kernel_rfl) g cur.size (by have hg' : w.drew.heap[g]? = some (.cells cur 5 (0, 0)) := hg; simp [World.shape?, hg']) l h0 (by omega) (by unfold maxLen at hcm; omega) ?_
  intro j x hx
  have hg' : w.drew.heap[g]? = some (.cells cur 5 (0, 0)) := hg
  have h1 : (cur.toList.take l.length)[j]? = some (.int .u8 x.toNat) := by rw [htake]; simp [Lib.byteCells, hx]
  rw [Addr.add_lit, Nat.zero_add, Lib.cell_of_heap hg']
  rw [List.getElem?_take] at h1
  split at h1
  ·simpa using h1
  ·cases h1
 have mixed : Tryz.prog.follows .mixedOrders = true := by kernel_rfl
 go_enter Tryz.func105, Tryz.ntmps105
 go_wp2
 go_region_o
 all_goals (go_wp2; go_ret; exact ⟨rfl, rfl⟩)
theorem g_strAt (b k : Nat) (D R X I : AV) (l : List UInt8) (h : Hp) (hb : h.H b = some (.obj 260 [D, R, X, .arr 1 k l.length, I])) (hT : h.T k = some (.buf 5 (rowB l))) (h0 : l ≠ []) :
  ACalls Tryz.prog 105 [.ptr b 2] h (fun r h' => r = .v (.string ⟨l.toArray⟩) ∧ h' = ⟨upd h.H b none, upd h.T k none⟩) := by
 refine acalls_mk (by kernel_rfl) fun G w vs hs hv ha => ?_
 obtain ⟨p, rfl, hat⟩ := one_ptrAt hv ha
 obtain ⟨p', ob, e', hh, ⟨us, rfl, hrr⟩, hval⟩ := hs.obj b _ hb
 rw [hat] at e'; cases e'
 obtain ⟨d, r, x, y, i, rfl, hd, hrw, hx, hy, hi, od, orr, oy, oi⟩ := five_cells hrr
 have hrl : (rowB l).length = l.length := by simp [rowB]
 have hne : rowB l ≠ [] := fun e => h0 (by rw [e] at hrl; exact List.eq_nil_of_length_eq_zero hrl.symm)
 rcases hs.tok k _ hT with ⟨_, e1⟩ | ⟨tt, cur, htl, htm, htp, hth, hts, htc, htcm, htf, htz, hzx, htr⟩
 ·exact absurd e1 hne
 cases hy with
 | arr _ _ _ q m c ho =>
 obtain ⟨_, ⟨q', c', e2, _, _⟩, hm⟩ := ho
 rw [htl] at hm
 obtain ⟨hxe, _⟩ := hm.2 (by rw [htm, hrl])
 simp only [Value.slice.injEq] at hxe e2
 obtain ⟨rfl, rfl, rfl⟩ := hxe
 have hfl : (rowB l).flatten.length = l.length := by rw [flatten_len hzx, hrl, Nat.mul_one]
 rw [hfl] at htr
 refine (w_strAt p tt.g tt.c cur d r x i l w h0 hh hth (by omega) htcm (by rw [hts, htz, Nat.mul_one]) (repB htr)).mono ?_
 rintro e w' ⟨rfl, rfl⟩
 have hbel : RowKit.Below tt.g w (w.drew.freeze ⟨tt.g, 0, none⟩ l.length) := Lib.below_freeze (RowKit.Below.drew (RowKit.Below.refl tt.g w)) (p := ⟨tt.g, 0, none⟩) (Nat.le_refl _) _
 have hoth : ∀ q, q ≠ tt.g → (w.drew.freeze ⟨tt.g, 0, none⟩ l.length).heap[q]? = w.heap[q]? := fun q hq => by
  unfold World.freeze
  split
  ·rfl
  ·show (w.drew.heap.modify tt.g _)[q]? = _
   rw [Array.getElem?_modify, if_neg (fun e => hq e.symm)]; rfl
 have hle : Hp.le ⟨upd h.H b none, upd h.T k none⟩ h := ⟨fun i => by
  by_cases e : i = b
  ·left; rw [e]; exact upd_same _ _ _
  ·right; exact upd_other _ _ e, fun i => by
  by_cases e : i = k
  ·left; rw [e]; exact upd_same _ _ _
  ·right; exact upd_other _ _ e⟩
 have hnO : ¬ Own G ⟨upd h.H b none, upd h.T k none⟩ tt.g := by
  rintro (⟨i, a, e⟩ | ⟨k2, t2, a, e, eg⟩)
  ·exact hs.tobj k i tt (by rw [hT]; simp) (hle.Hne a) htl e
  ·have := hs.tinj k2 k t2 tt (hle.Tne a) (by rw [hT]; simp) e htl eg
   subst this
   exact a (upd_same _ _ _)
 have hO : Own G h tt.g := .inr ⟨k, tt, by rw [hT]; simp, htl, rfl⟩
 refine ⟨_, rfl, .v (.string ⟨l.toArray⟩), _, G, ⟨rfl, rfl⟩, GLe.refl _, ?_, (hs.less hle).other hoth htf hnO, .v _ rfl⟩
 exact ⟨hbel.os, hbel.tape, hbel.output, hbel.size, fun q hlt hn => ⟨hoth q (fun e => hn (e ▸ hO)), fun o' => hn (hle.own o'), fun _ => rfl⟩⟩
open Go
set_option linter.unusedVariables false
set_option linter.unusedSimpArgs false
open Nat renaming reduceAdd → nA, reduceSub → nB, reduceMul → nC, reduceLT → nD, reduceLeDiff → nE, reduceEqDiff → nF, reduceMod → nG, reduceDiv → nH, reducePow → nI
abbrev zPVE : List Nat := [0, 1, 2, 3, 4, 6, 7]
abbrev zPVP : List (Nat × List Nat × List Nat) := [(5, [], []), (8, [], [9, 10, 11, 12])]
abbrev zPWE : List Nat := [0, 1, 2, 3, 4, 6, 7, 10, 11, 13, 14]
abbrev zPWP : List (Nat × List Nat × List Nat) := [(5, [], []), (8, [], [9]), (12, [], []), (15, [], [16, 17, 18, 19, 20])]
abbrev zPXE : List Nat := [0, 1, 2, 3, 4, 5, 6, 7, 8, 9, 10, 11, 12, 13, 14, 15, 16]
abbrev zPXP : List (Nat × List Nat × List Nat) := []
abbrev zPYE : List Nat := [0, 1, 2, 3, 4, 5, 6, 7, 8, 9, 10, 11, 12, 13, 14, 15, 16, 17, 18, 19, 20, 21, 22, 23, 24, 25, 26]
abbrev zPYP : List (Nat × List Nat × List Nat) := []
abbrev zPZE : List Nat := [0, 1, 2, 3, 4, 5, 6, 7, 8, 9, 10, 11, 12, 13, 14, 15, 16, 17, 18, 19, 20, 21, 22, 23, 24, 25, 26, 27, 28, 29, 30, 31, 32, 33, 34, 35, 36]
abbrev zPZP : List (Nat × List Nat × List Nat) := []
abbrev zP10E : List Nat := [0, 1, 2, 3, 4, 5, 6, 7, 8, 9, 10, 11, 12]
abbrev zP10P : List (Nat × List Nat × List Nat) := []
abbrev zP11E : List Nat := [0, 1, 2, 8]
abbrev zP11P : List (Nat × List Nat × List Nat) := [(3, [1], [4, 5, 6]), (7, [], [9]), (10, [], [])]
attribute [go_sem] zPVE zPVP zPWE zPWP zPXE zPXP zPYE zPYP zPZE zPZP zP10E zP10P zP11E zP11P
set_option maxRecDepth 100000
set_option maxHeartbeats 8000000
theorem repL_v_inv {G : Gh} {l us : List Value} (h : RepL G (l.map AV.v) us) : us = l := by
 obtain ⟨h1, h2⟩ := h
 apply List.ext_getElem (by simpa using h1)
 intro j a b
 have h3 := (h2 j (by simpa using b) a).1
 simp only [List.getElem_map] at h3
 generalize us[j] = y at h3
 cases h3; rfl
theorem c_search (h : Hp) : ACalls Tryz.prog 358 [.row 6 [fC] none, .v (.string sN), .fn 359 []] h (fun r h' => r = .tup [.v (.int .i64 0), .v (.bool true)] ∧ h' = h) := by
 refine acalls_mk (by kernel_rfl) fun G w vs hs hv ha => ?_
 have hv3 : vs.size = 3 := hv
 have r0 := ha 0 (by simp)
 have r1 := ha 1 (by simp)
 have r2 := ha 2 (by simp)
 have hvs : vs = #[vs.getD 0 undef, vs.getD 1 undef, vs.getD 2 undef] := by
  apply Array.ext (by simpa using hv3)
  intro j hj hj'
  simp only [List.size_toArray, List.length_cons, List.length_nil] at hj'
  have : j = 0 ∨ j = 1 ∨ j = 2 := by omega
  rcases this with rfl | rfl | rfl <;> simp [Array.getD, hv3]
 rw [hvs]
 generalize vs.getD 0 undef = v0 at *
 generalize vs.getD 1 undef = v1 at *
 generalize vs.getD 2 undef = v2 at *
 simp only [List.getElem_cons_zero, List.getElem_cons_succ] at r0 r1 r2
 cases r1
 cases r2 with | fn _ _ cvs u hl hu hr =>
 obtain rfl : cvs = #[] := Array.eq_empty_of_size_eq_zero hl
 rcases Rep.row_inv r0 with ⟨a, _, e⟩ | ⟨g, o, c, us, rfl, hc, hz, hru, hu2⟩
 ·cases e
 ·have hus : us = fV := repL_v_inv (by simpa [fC] using hru)
  subst hus
  have hcell : ∀ j (hj : j < fV.length), w.cell? ⟨g, o + j, none⟩ = some fV[j] := fun j hj => hs.cell _ _ _ (hu2 j _ (List.getElem?_eq_getElem hj))
  refine (w_search g o c w (World.block_lt_of_cell? w _ (hcell 0 (by decide))) hcell).mono ?_
  rintro e w' ⟨rfl, hb⟩
  have hb' : ∀ b, b < w.heap.size → w'.heap[b]? = w.heap[b]? := fun b hb2 => hb.block b hb2
  refine ⟨_, rfl, _, h, G, ⟨rfl, rfl⟩, GLe.refl _, Fr.below (Fr.refl _ _ _) hb' hb.os hb.tape hb.output hb.size, hs.below hb', ?_⟩
  refine .tup _ _ (fun j => [Value.int .i64 0, Value.bool true].getD j undef) rfl (fun j hj => ?_) (fun j hj => ?_)
  ·have : j = 0 ∨ j = 1 := by simp at hj; omega
   rcases this with rfl | rfl <;> rfl
  ·have : j = 0 ∨ j = 1 := by simp at hj; omega
   rcases this with rfl | rfl <;> exact .v _ rfl
theorem c_valid0 (h : Hp) : ACalls Tryz.prog 319 [.v (.string ⟨#[]⟩)] h (fun r h' => r = .v (.bool true) ∧ h' = h) := by
 have z : ((⟨#[]⟩ : ByteArray).size : Int) = 0 := rfl
 refine gE Tryz.func319 rfl (by kernel_rfl) 168 rfl fun c => ?_
 (repeat (first | refine gO rfl ?_ | ((first | refine gM zM28 ?_ | (with_reducible refine wM ?_ ?_) | ((with_reducible refine xS ?_); refine uD 7 zM28 zPVE zPVP 169 rfl (by kernel_rfl) ?_) | ((with_reducible refine xS ?_); refine uD 9 zM28 zPWE zPWP 169 rfl (by kernel_rfl) ?_) | ((with_reducible refine xS ?_); refine uD 17 zM28 zPXE zPXP 169 rfl (by kernel_rfl) ?_) | ((with_reducible refine xS ?_); refine uD 21 zM28 zPYE zPYP 169 rfl (by kernel_rfl) ?_) | ((with_reducible refine xS ?_); refine uD 25 zM28 zPZE zPZP 169 rfl (by kernel_rfl) ?_)) <;> ((try with_reducible intro K1 hK1); simp only [go_sem, ↓reduceIte, reduceCtorEq, nA, nB, nC, nD, nE, nF, Int.reduceBEq, Int.reduceTMod, Int.reduceTDiv, Int.reduceMul, Int.reduceBNe, Int.reduceLT, Int.reduceLE, Int.reduceAdd, Int.reduceSub, Int.reduceNeg, decide_true, decide_false, Bool.true_and, Bool.false_and, Bool.and_true, Bool.and_false, Bool.or_false, Bool.or_true, Bool.true_or, Bool.false_or, Bool.not_true, Bool.not_false, true_implies, false_implies, true_and, and_true, Int.reduceToNat, z] <;> and_intros <;> first | (apply hK1; clear hK1 K1) | (intros; first | omega | decide) | skip)) | (refine awp_cond (t := _) rfl (fun hq => ?_) (fun hq => ?_) <;> first | (exact absurd hq (by decide)) | (cases hq; done) | (clear hq)) | (refine awp_un 8 ?_) | (with_reducible exact rfl) | (with_reducible exact trivial) | ((with_reducible show uside _); first | exact True.intro | exact rfl) | ((with_reducible show opS _ _); exact True.intro) | (refine ⟨AV.v (.bool true), rfl, hK1 _ ?_⟩; clear hK1 K1)))
 simp only [Tryz.results319, go_sem, ↓reduceIte, reduceCtorEq, nA, nB, nC, nD, nE, nF]
 exact ⟨_, _, Weak.refl _, Hp.le.refl _, rfl, rfl⟩
theorem fC_eq : fC = [.v (.string sN), .v (.int .i64 2), .v (.string ⟨#[]⟩), .v (.int .i64 5), .v (.bool false), .v (.slice none 0 0)] := rfl
theorem e00 : ((⟨#[]⟩ : ByteArray) == ⟨#[]⟩) = true := by decide
theorem c_idle (h : Hp) : ACalls Tryz.prog 318 [.agg fC] h (fun r h' => r = .v (.bool true) ∧ h' = h) := by
 rw [fC_eq]
 refine gE Tryz.func318 rfl (by kernel_rfl) 41 rfl fun c => ?_
 (repeat (first | refine gO rfl ?_ | (refine gR fun K1 hK1 => ?_; simp only [go_sem, ↓reduceIte, reduceCtorEq, nA, nB, nC, nD, nE, nF, Int.reduceBEq, Int.reduceTMod, Int.reduceTDiv, Int.reduceMul, Int.reduceBNe, Int.reduceLT, Int.reduceLE, Int.reduceAdd, Int.reduceSub, Int.reduceNeg, decide_true, decide_false, Bool.true_and, Bool.false_and, Bool.and_true, Bool.and_false, Bool.or_false, Bool.or_true, Bool.true_or, Bool.false_or, Bool.not_true, Bool.not_false, true_implies, false_implies, true_and, and_true, Int.reduceToNat, e00] <;> and_intros <;> first | (apply hK1; clear hK1 K1) | (intros; first | omega | decide) | skip) | (refine awp_cond (t := _) rfl (fun hq => ?_) (fun hq => ?_) <;> first | (exact absurd hq (by decide)) | (cases hq; done) | (clear hq)) | (refine awp_un 8 ?_) | (with_reducible exact rfl) | (with_reducible exact trivial) | ((with_reducible show uside _); first | exact True.intro | exact rfl) | ((with_reducible show opS _ _); exact True.intro) | (refine ⟨AV.v (.bool true), rfl, hK1 _ ?_⟩; clear hK1 K1)))
 simp only [Tryz.results318, go_sem, ↓reduceIte, reduceCtorEq, nA, nB, nC, nD, nE, nF]
 exact ⟨_, _, Weak.refl _, Hp.le.refl _, rfl, rfl⟩
theorem c_fieldFault (h : Hp) : ACalls Tryz.prog 249 [.agg fC, .v (.int .i64 0)] h (fun r h' => r = .v (.int .i64 0) ∧ h' = h) := by
 have h1 := fun h => a_outside 2 1 4 h
 have h2 := fun h => c_idle h
 have h3 := fun h => c_valid0 h
 have h4 := fun h => a_outside 5 (-1000000000) 1000000000 h
 have z : ((⟨#[]⟩ : ByteArray).size : Int) = 0 := rfl
 have z2 : ((#[] : Array UInt8).size : Int) = 0 := rfl
 rw [fC_eq] at *
 refine gE Tryz.func249 rfl (by kernel_rfl) 59 rfl fun c => ?_
 (repeat (first | refine gO rfl ?_ | (refine gR fun K1 hK1 => ?_; simp only [go_sem, ↓reduceIte, reduceCtorEq, nA, nB, nC, nD, nE, nF, Int.reduceBEq, Int.reduceTMod, Int.reduceTDiv, Int.reduceMul, Int.reduceBNe, Int.reduceLT, Int.reduceLE, Int.reduceAdd, Int.reduceSub, Int.reduceNeg, decide_true, decide_false, Bool.true_and, Bool.false_and, Bool.and_true, Bool.and_false, Bool.or_false, Bool.or_true, Bool.true_or, Bool.false_or, Bool.not_true, Bool.not_false, true_implies, false_implies, true_and, and_true, Int.reduceToNat, z, z2] <;> and_intros <;> first | (apply hK1; clear hK1 K1) | (intros; first | omega | decide) | skip) | (refine awp_cond (t := _) rfl (fun hq => ?_) (fun hq => ?_) <;> first | (exact absurd hq (by decide)) | (cases hq; done) | (clear hq)) | (refine awp_un 8 ?_) | (with_reducible exact rfl) | (with_reducible exact trivial) | ((with_reducible show uside _); first | exact True.intro | exact rfl) | ((with_reducible show opS _ _); exact True.intro) | (refine ⟨AV.v (.bool true), rfl, hK1 _ ?_⟩; clear hK1 K1) | (refine (h1 _).mono ?_; rintro _ hz ⟨rfl, hh⟩; (first | (refine hK1 _ ?_) | (refine ⟨rfl, hK1 _ ?_⟩)); clear hK1 K1; rw [hh]; clear hh hz) | (refine (h2 _).mono ?_; rintro _ hz ⟨rfl, hh⟩; (first | (refine hK1 _ ?_) | (refine ⟨rfl, hK1 _ ?_⟩)); clear hK1 K1; rw [hh]; clear hh hz) | (refine (h3 _).mono ?_; rintro _ hz ⟨rfl, hh⟩; (first | (refine hK1 _ ?_) | (refine ⟨rfl, hK1 _ ?_⟩)); clear hK1 K1; rw [hh]; clear hh hz) | (refine (h4 _).mono ?_; rintro _ hz ⟨rfl, hh⟩; (first | (refine hK1 _ ?_) | (refine ⟨rfl, hK1 _ ?_⟩)); clear hK1 K1; rw [hh]; clear hh hz)))
 simp only [Tryz.results249, go_sem, ↓reduceIte, reduceCtorEq, nA, nB, nC, nD, nE, nF]
 exact ⟨_, _, Weak.refl _, Hp.le.refl _, rfl, rfl⟩
theorem c_dataFault (h : Hp) : ACalls Tryz.prog 195 [.row 6 [fC] none, .v (.int .i64 0)] h (fun r h' => r = .v (.int .i64 0) ∧ h' = h) := by
 have h1 := fun h => c_isName h
 have h2 := fun h => c_fieldFault h
 rw [fC_eq] at *
 refine gE Tryz.func195 rfl (by kernel_rfl) 40 rfl fun c => ?_
 (repeat (first | refine gO rfl ?_ | ((first | refine gM zM28 ?_ | (with_reducible refine wM ?_ ?_) | ((with_reducible refine xS ?_); refine uD 8 zM28 zP10E zP10P 42 rfl (by kernel_rfl) ?_)) <;> ((try with_reducible intro K1 hK1); simp only [go_sem, ↓reduceIte, reduceCtorEq, nA, nB, nC, nD, nE, nF, Int.reduceBEq, Int.reduceTMod, Int.reduceTDiv, Int.reduceMul, Int.reduceBNe, Int.reduceLT, Int.reduceLE, Int.reduceAdd, Int.reduceSub, Int.reduceNeg, decide_true, decide_false, Bool.true_and, Bool.false_and, Bool.and_true, Bool.and_false, Bool.or_false, Bool.or_true, Bool.true_or, Bool.false_or, Bool.not_true, Bool.not_false, true_implies, false_implies, true_and, and_true, Int.reduceToNat] <;> and_intros <;> first | (apply hK1; clear hK1 K1) | (intros; first | omega | decide) | skip)) | (refine awp_cond (t := _) rfl (fun hq => ?_) (fun hq => ?_) <;> first | (exact absurd hq (by decide)) | (cases hq; done) | (clear hq)) | (refine awp_un 8 ?_) | (with_reducible exact rfl) | (with_reducible exact trivial) | ((with_reducible show uside _); first | exact True.intro | exact rfl) | ((with_reducible show opS _ _); exact True.intro) | (refine ⟨AV.v (.bool true), rfl, hK1 _ ?_⟩; clear hK1 K1) | (refine (h1 _).mono ?_; rintro _ hz ⟨rfl, hh⟩; (first | (refine hK1 _ ?_) | (refine ⟨rfl, hK1 _ ?_⟩)); clear hK1 K1; rw [hh]; clear hh hz) | (refine (h2 _).mono ?_; rintro _ hz ⟨rfl, hh⟩; (first | (refine hK1 _ ?_) | (refine ⟨rfl, hK1 _ ?_⟩)); clear hK1 K1; rw [hh]; clear hh hz)))
 simp only [Tryz.results195, go_sem, ↓reduceIte, reduceCtorEq, nA, nB, nC, nD, nE, nF]
 exact ⟨_, _, Weak.refl _, Hp.le.refl _, rfl, rfl⟩
theorem c_checkData (h : Hp) : ACalls Tryz.prog 137 [.row 6 [fC] none] h (fun r h' => r = .v (.int .i64 0) ∧ h' = h) := by
 have h2 := fun h => c_dataFault h
 rw [fC_eq] at *
 refine gE Tryz.func137 rfl (by kernel_rfl) 4 rfl fun c => ?_
 (repeat (first | refine gO rfl ?_ | (refine gR fun K1 hK1 => ?_; simp only [go_sem, ↓reduceIte, reduceCtorEq, nA, nB, nC, nD, nE, nF, Int.reduceBEq, Int.reduceTMod, Int.reduceTDiv, Int.reduceMul, Int.reduceBNe, Int.reduceLT, Int.reduceLE, Int.reduceAdd, Int.reduceSub, Int.reduceNeg, decide_true, decide_false, Bool.true_and, Bool.false_and, Bool.and_true, Bool.and_false, Bool.or_false, Bool.or_true, Bool.true_or, Bool.false_or, Bool.not_true, Bool.not_false, true_implies, false_implies, true_and, and_true, Int.reduceToNat] <;> and_intros <;> first | (apply hK1; clear hK1 K1) | (intros; first | omega | decide) | skip) | (refine awp_cond (t := _) rfl (fun hq => ?_) (fun hq => ?_) <;> first | (exact absurd hq (by decide)) | (cases hq; done) | (clear hq)) | (refine awp_un 8 ?_) | (with_reducible exact rfl) | (with_reducible exact trivial) | ((with_reducible show uside _); first | exact True.intro | exact rfl) | ((with_reducible show opS _ _); exact True.intro) | (refine ⟨AV.v (.bool true), rfl, hK1 _ ?_⟩; clear hK1 K1) | (refine (h2 _).mono ?_; rintro _ hz ⟨rfl, hh⟩; (first | (refine hK1 _ ?_) | (refine ⟨rfl, hK1 _ ?_⟩)); clear hK1 K1; rw [hh]; clear hh hz)))
 simp only [Tryz.results137, go_sem, ↓reduceIte, reduceCtorEq, nA, nB, nC, nD, nE, nF]
 exact ⟨_, _, Weak.refl _, Hp.le.refl _, rfl, rfl⟩
theorem c_fieldAt (h : Hp) : ACalls Tryz.prog 321 [.row 6 [fC] none, .v (.string sN)] h (fun r h' => r = .tup [.agg fC, .v (.bool true)] ∧ h' = h) := by
 have h2 := fun h => c_search h
 rw [fC_eq] at *
 refine gE Tryz.func321 rfl (by kernel_rfl) 19 rfl fun c => ?_
 (repeat (first | refine gO rfl ?_ | (refine gM zM24 fun K1 hK1 => ?_; simp only [go_sem, ↓reduceIte, reduceCtorEq, nA, nB, nC, nD, nE, nF, Int.reduceBEq, Int.reduceTMod, Int.reduceTDiv, Int.reduceMul, Int.reduceBNe, Int.reduceLT, Int.reduceLE, Int.reduceAdd, Int.reduceSub, Int.reduceNeg, decide_true, decide_false, Bool.true_and, Bool.false_and, Bool.and_true, Bool.and_false, Bool.or_false, Bool.or_true, Bool.true_or, Bool.false_or, Bool.not_true, Bool.not_false, true_implies, false_implies, true_and, and_true, Int.reduceToNat] <;> and_intros <;> first | (apply hK1; clear hK1 K1) | (intros; first | omega | decide) | skip) | (refine awp_cond (t := _) rfl (fun hq => ?_) (fun hq => ?_) <;> first | (exact absurd hq (by decide)) | (cases hq; done) | (clear hq)) | (refine awp_un 8 ?_) | (with_reducible exact rfl) | (with_reducible exact trivial) | ((with_reducible show uside _); first | exact True.intro | exact rfl) | ((with_reducible show opS _ _); exact True.intro) | (refine ⟨AV.v (.bool true), rfl, hK1 _ ?_⟩; clear hK1 K1) | (refine (h2 _).mono ?_; rintro _ hz ⟨rfl, hh⟩; (first | (refine hK1 _ ?_) | (refine ⟨rfl, hK1 _ ?_⟩)); clear hK1 K1; rw [hh]; clear hh hz)))
 intro p hp
 refine hK1 _ ?_; clear hK1 K1
 (repeat (first | refine gO rfl ?_ | (refine gM zM24 fun K1 hK1 => ?_; simp only [go_sem, ↓reduceIte, reduceCtorEq, nA, nB, nC, nD, nE, nF, Int.reduceBEq, Int.reduceTMod, Int.reduceTDiv, Int.reduceMul, Int.reduceBNe, Int.reduceLT, Int.reduceLE, Int.reduceAdd, Int.reduceSub, Int.reduceNeg, decide_true, decide_false, Bool.true_and, Bool.false_and, Bool.and_true, Bool.and_false, Bool.or_false, Bool.or_true, Bool.true_or, Bool.false_or, Bool.not_true, Bool.not_false, true_implies, false_implies, true_and, and_true, Int.reduceToNat, upd_same] <;> and_intros <;> first | (apply hK1; clear hK1 K1) | (intros; first | omega | decide) | skip) | (refine awp_cond (t := _) rfl (fun hq => ?_) (fun hq => ?_) <;> first | (exact absurd hq (by decide)) | (cases hq; done) | (clear hq)) | (refine awp_un 8 ?_) | (with_reducible exact rfl) | (with_reducible exact trivial) | ((with_reducible show uside _); first | exact True.intro | exact rfl) | ((with_reducible show opS _ _); exact True.intro) | (refine ⟨AV.v (.bool true), rfl, hK1 _ ?_⟩; clear hK1 K1) | (refine (h2 _).mono ?_; rintro _ hz ⟨rfl, hh⟩; (first | (refine hK1 _ ?_) | (refine ⟨rfl, hK1 _ ?_⟩)); clear hK1 K1; rw [hh]; clear hh hz)))
 simp only [Tryz.results321, go_sem, ↓reduceIte, reduceCtorEq, nA, nB, nC, nD, nE, nF]
 exact ⟨_, h, Weak.refl _, hle_obj hp, rfl, rfl⟩
theorem c_numberText (h : Hp) : ACalls Tryz.prog 326 [.v (.int .i64 5)] h (fun r h' => r = .v (.string ⟨#[53]⟩) ∧ h' = h) := by
 have h2 := fun h => g_itoa 5 (by decide) h
 rw [show (Lib.decDigits 5).toArray = #[53] by unfold Lib.decDigits; rfl] at h2
 refine gE Tryz.func326 rfl (by kernel_rfl) 4 rfl fun c => ?_
 (repeat (first | refine gO rfl ?_ | (refine gR fun K1 hK1 => ?_; simp only [go_sem, ↓reduceIte, reduceCtorEq, nA, nB, nC, nD, nE, nF, Int.reduceBEq, Int.reduceTMod, Int.reduceTDiv, Int.reduceMul, Int.reduceBNe, Int.reduceLT, Int.reduceLE, Int.reduceAdd, Int.reduceSub, Int.reduceNeg, decide_true, decide_false, Bool.true_and, Bool.false_and, Bool.and_true, Bool.and_false, Bool.or_false, Bool.or_true, Bool.true_or, Bool.false_or, Bool.not_true, Bool.not_false, true_implies, false_implies, true_and, and_true, Int.reduceToNat] <;> and_intros <;> first | (apply hK1; clear hK1 K1) | (intros; first | omega | decide) | skip) | (refine awp_cond (t := _) rfl (fun hq => ?_) (fun hq => ?_) <;> first | (exact absurd hq (by decide)) | (cases hq; done) | (clear hq)) | (refine awp_un 8 ?_) | (with_reducible exact rfl) | (with_reducible exact trivial) | ((with_reducible show uside _); first | exact True.intro | exact rfl) | ((with_reducible show opS _ _); exact True.intro) | (refine ⟨AV.v (.bool true), rfl, hK1 _ ?_⟩; clear hK1 K1) | (refine (h2 _).mono ?_; rintro _ hz ⟨rfl, hh⟩; (first | (refine hK1 _ ?_) | (refine ⟨rfl, hK1 _ ?_⟩)); clear hK1 K1; rw [hh]; clear hh hz)))
 simp only [Tryz.results326, go_sem, ↓reduceIte, reduceCtorEq, nA, nB, nC, nD, nE, nF]
 exact ⟨_, _, Weak.refl _, Hp.le.refl _, rfl, rfl⟩
theorem c_said (h : Hp) : ACalls Tryz.prog 253 [.agg fC] h (fun r h' => r = .v (.string ⟨#[53]⟩) ∧ h' = h) := by
 have h2 := fun h => c_numberText h
 rw [fC_eq] at *
 refine gE Tryz.func253 rfl (by kernel_rfl) 16 rfl fun c => ?_
 (repeat (first | refine gO rfl ?_ | (refine gR fun K1 hK1 => ?_; simp only [go_sem, ↓reduceIte, reduceCtorEq, nA, nB, nC, nD, nE, nF, Int.reduceBEq, Int.reduceTMod, Int.reduceTDiv, Int.reduceMul, Int.reduceBNe, Int.reduceLT, Int.reduceLE, Int.reduceAdd, Int.reduceSub, Int.reduceNeg, decide_true, decide_false, Bool.true_and, Bool.false_and, Bool.and_true, Bool.and_false, Bool.or_false, Bool.or_true, Bool.true_or, Bool.false_or, Bool.not_true, Bool.not_false, true_implies, false_implies, true_and, and_true, Int.reduceToNat] <;> and_intros <;> first | (apply hK1; clear hK1 K1) | (intros; first | omega | decide) | skip) | (refine awp_cond (t := _) rfl (fun hq => ?_) (fun hq => ?_) <;> first | (exact absurd hq (by decide)) | (cases hq; done) | (clear hq)) | (refine awp_un 8 ?_) | (with_reducible exact rfl) | (with_reducible exact trivial) | ((with_reducible show uside _); first | exact True.intro | exact rfl) | ((with_reducible show opS _ _); exact True.intro) | (refine ⟨AV.v (.bool true), rfl, hK1 _ ?_⟩; clear hK1 K1) | (refine (h2 _).mono ?_; rintro _ hz ⟨rfl, hh⟩; (first | (refine hK1 _ ?_) | (refine ⟨rfl, hK1 _ ?_⟩)); clear hK1 K1; rw [hh]; clear hh hz)))
 simp only [Tryz.results253, go_sem, ↓reduceIte, reduceCtorEq, nA, nB, nC, nD, nE, nF]
 exact ⟨_, _, Weak.refl _, Hp.le.refl _, rfl, rfl⟩
theorem c_filtered (s : ByteArray) (h : Hp) : ACalls Tryz.prog 252 [.v (.string s), .v (.slice none 0 0)] h (fun r h' => r = .v (.string s) ∧ h' = h) := by
 refine gE Tryz.func252 rfl (by kernel_rfl) 58 rfl fun c => ?_
 (repeat (first | refine gO rfl ?_ | ((first | refine gM zM28 ?_ | (with_reducible refine wM ?_ ?_) | ((with_reducible refine xR ?_); refine uE 5 zM28 zP11E zP11P 60 rfl (by kernel_rfl) ?_)) <;> ((try with_reducible intro K1 hK1); simp only [go_sem, ↓reduceIte, reduceCtorEq, nA, nB, nC, nD, nE, nF, Int.reduceBEq, Int.reduceTMod, Int.reduceTDiv, Int.reduceMul, Int.reduceBNe, Int.reduceLT, Int.reduceLE, Int.reduceAdd, Int.reduceSub, Int.reduceNeg, decide_true, decide_false, Bool.true_and, Bool.false_and, Bool.and_true, Bool.and_false, Bool.or_false, Bool.or_true, Bool.true_or, Bool.false_or, Bool.not_true, Bool.not_false, true_implies, false_implies, true_and, and_true, Int.reduceToNat] <;> and_intros <;> first | (apply hK1; clear hK1 K1) | (intros; first | omega | decide) | skip)) | (refine awp_cond (t := _) rfl (fun hq => ?_) (fun hq => ?_) <;> first | (exact absurd hq (by decide)) | (cases hq; done) | (clear hq)) | (refine awp_un 8 ?_) | (with_reducible exact rfl) | (with_reducible exact trivial) | ((with_reducible show uside _); first | exact True.intro | exact rfl) | ((with_reducible show opS _ _); exact True.intro) | (refine ⟨AV.v (.bool true), rfl, hK1 _ ?_⟩; clear hK1 K1)))
 simp only [Tryz.results252, go_sem, ↓reduceIte, reduceCtorEq, nA, nB, nC, nD, nE, nF]
 exact ⟨_, _, Weak.refl _, Hp.le.refl _, rfl, rfl⟩
abbrev zP12E : List Nat := [0, 1, 3, 4]
abbrev zP12P : List (Nat × List Nat × List Nat) := [(2, [4], []), (5, [], []), (6, [], [7])]
abbrev zP13E : List Nat := [0, 1, 2, 3, 4, 5, 6, 7, 8, 9]
abbrev zP13P : List (Nat × List Nat × List Nat) := [(10, [], [11, 12]), (13, [], [])]
abbrev zP14E : List Nat := [0, 1, 2, 3, 4, 5, 6, 7, 8, 9, 10, 11, 12, 13]
abbrev zP14P : List (Nat × List Nat × List Nat) := [(14, [], [])]
attribute [go_sem] zP12E zP12P zP13E zP13P zP14E zP14P
def s5 : ByteArray := ⟨#[53]⟩
def bdO (k : Nat) : AO := .obj 260 [.row 6 [fC] none, .v (.slice none 0 0), .v (.pointer none), .arr 1 k 0, .v (.int .i64 0)]
def bdP (b k : Nat) : AO := .obj 260 [.row 6 [fC] none, .v (.slice none 0 0), .ptr b 2, .arr 1 k 1, .v (.int .i64 0)]
def h5 (h : Hp) (b k : Nat) : Hp := ⟨upd h.H b (some (bdP b k)), upd h.T k (some (.buf 5 (rowB [53])))⟩
theorem c_field (b k : Nat) (h : Hp) (hb : h.H b = some (bdO k)) : ACalls Tryz.prog 251 [.ptr b 0, .agg [.v (.string ⟨#[]⟩), .v (.string sN)]] h (fun r h' => r = .tup [.agg fC, .v (.int .i64 0)] ∧ h' = h) := by
 have h1 := fun h => c_fieldAt h
 have e1 : (!((⟨#[]⟩ : ByteArray) == ⟨#[]⟩)) = false := by decide
 unfold bdO at hb
 rw [fC_eq] at *
 refine gE Tryz.func251 rfl (by kernel_rfl) 41 rfl fun c => ?_
 (repeat (first | refine gO rfl ?_ | (refine gM zM29 fun K1 hK1 => ?_; simp only [go_sem, ↓reduceIte, reduceCtorEq, nA, nB, nC, nD, nE, nF, Int.reduceBEq, Int.reduceTMod, Int.reduceTDiv, Int.reduceMul, Int.reduceBNe, Int.reduceLT, Int.reduceLE, Int.reduceAdd, Int.reduceSub, Int.reduceNeg, decide_true, decide_false, Bool.true_and, Bool.false_and, Bool.and_true, Bool.and_false, Bool.or_false, Bool.or_true, Bool.true_or, Bool.false_or, Bool.not_true, Bool.not_false, true_implies, false_implies, true_and, and_true, Int.reduceToNat] <;> and_intros <;> first | (apply hK1; clear hK1 K1) | (intros; first | omega | decide) | skip) | (refine awp_cond (t := _) rfl (fun hq => ?_) (fun hq => ?_) <;> first | (exact absurd hq (by decide)) | (cases hq; done) | (clear hq)) | (refine awp_un 8 ?_) | (with_reducible exact rfl) | (with_reducible exact trivial) | ((with_reducible show uside _); first | exact True.intro | exact rfl) | ((with_reducible show opS _ _); exact True.intro) | (refine ⟨AV.v (.bool true), rfl, hK1 _ ?_⟩; clear hK1 K1)))
 intro p hp
 refine hK1 _ ?_; clear hK1 K1
 have hpb : b ≠ p := by rintro rfl; rw [hp] at hb; cases hb
 have hb2 : ∀ o, upd h.H p o b = h.H b := fun o => upd_other _ _ hpb
 rw [hb] at hb2
 (repeat (first | refine gO rfl ?_ | (refine gM zM29 fun K1 hK1 => ?_; simp only [go_sem, ↓reduceIte, reduceCtorEq, nA, nB, nC, nD, nE, nF, Int.reduceBEq, Int.reduceTMod, Int.reduceTDiv, Int.reduceMul, Int.reduceBNe, Int.reduceLT, Int.reduceLE, Int.reduceAdd, Int.reduceSub, Int.reduceNeg, decide_true, decide_false, Bool.true_and, Bool.false_and, Bool.and_true, Bool.and_false, Bool.or_false, Bool.or_true, Bool.true_or, Bool.false_or, Bool.not_true, Bool.not_false, true_implies, false_implies, true_and, and_true, Int.reduceToNat, hb2, e1, e00, upd_same] <;> and_intros <;> first | (apply hK1; clear hK1 K1) | (intros; first | omega | decide) | skip) | (refine awp_cond (t := _) rfl (fun hq => ?_) (fun hq => ?_) <;> first | (exact absurd hq (by decide)) | (cases hq; done) | (clear hq)) | (refine awp_un 8 ?_) | (with_reducible exact rfl) | (with_reducible exact trivial) | ((with_reducible show uside _); first | exact True.intro | exact rfl) | ((with_reducible show opS _ _); exact True.intro) | (refine ⟨AV.v (.bool true), rfl, hK1 _ ?_⟩; clear hK1 K1) | (refine (h1 _).mono ?_; rintro _ hz ⟨rfl, hh⟩; (first | (refine hK1 _ ?_) | (refine ⟨rfl, hK1 _ ?_⟩)); clear hK1 K1; rw [hh]; clear hh hz)))
 simp only [Tryz.results251, go_sem, ↓reduceIte, reduceCtorEq, nA, nB, nC, nD, nE, nF]
 exact ⟨_, h, Weak.refl _, hle_obj hp, rfl, rfl⟩
theorem c_put (b k : Nat) (h : Hp) (hb : h.H b = some (bdO k)) (hT : h.T k = some (.buf 5 (rowB []))) : ACalls Tryz.prog 250 [.ptr b 0, .v (.string s5)] h (fun r h' => r = .v (.int .i64 0) ∧ h' = h5 h b k) := by
 have h1 : ACalls Tryz.prog 237 [.ptr b 2] h (fun r h' => r = .v (.int .i64 0) ∧ h' = h) := by
  unfold bdO at hb
  refine gE Tryz.func237 rfl (by kernel_rfl) 7 rfl fun c => ?_
  (repeat (first | refine gO rfl ?_ | (refine gR fun K1 hK1 => ?_; simp only [go_sem, ↓reduceIte, reduceCtorEq, nA, nB, nC, nD, nE, nF, Int.reduceBEq, Int.reduceTMod, Int.reduceTDiv, Int.reduceMul, Int.reduceBNe, Int.reduceLT, Int.reduceLE, Int.reduceAdd, Int.reduceSub, Int.reduceNeg, decide_true, decide_false, Bool.true_and, Bool.false_and, Bool.and_true, Bool.and_false, Bool.or_false, Bool.or_true, Bool.true_or, Bool.false_or, Bool.not_true, Bool.not_false, true_implies, false_implies, true_and, and_true, Int.reduceToNat, hb] <;> and_intros <;> first | (apply hK1; clear hK1 K1) | (intros; first | omega | decide) | skip) | (refine awp_cond (t := _) rfl (fun hq => ?_) (fun hq => ?_) <;> first | (exact absurd hq (by decide)) | (cases hq; done) | (clear hq)) | (refine awp_un 8 ?_) | (with_reducible exact rfl) | (with_reducible exact trivial) | ((with_reducible show uside _); first | exact True.intro | exact rfl) | ((with_reducible show opS _ _); exact True.intro) | (refine ⟨AV.v (.bool true), rfl, hK1 _ ?_⟩; clear hK1 K1)))
  simp only [Tryz.results237, go_sem, ↓reduceIte, reduceCtorEq, nA, nB, nC, nD, nE, nF]
  exact ⟨_, _, Weak.refl _, Hp.le.refl _, rfl, rfl⟩
 have h2 := g_writeAt b k _ _ _ s5 h hb hT (by decide)
 have z : (s5.size : Int) = 1 := rfl
 refine gE Tryz.func250 rfl (by kernel_rfl) 16 rfl fun c => ?_
 (repeat (first | refine gO rfl ?_ | (refine gR fun K1 hK1 => ?_; simp only [go_sem, ↓reduceIte, reduceCtorEq, nA, nB, nC, nD, nE, nF, Int.reduceBEq, Int.reduceTMod, Int.reduceTDiv, Int.reduceMul, Int.reduceBNe, Int.reduceLT, Int.reduceLE, Int.reduceAdd, Int.reduceSub, Int.reduceNeg, decide_true, decide_false, Bool.true_and, Bool.false_and, Bool.and_true, Bool.and_false, Bool.or_false, Bool.or_true, Bool.true_or, Bool.false_or, Bool.not_true, Bool.not_false, true_implies, false_implies, true_and, and_true, Int.reduceToNat, z] <;> and_intros <;> first | (apply hK1; clear hK1 K1) | (intros; first | omega | decide) | skip) | (refine awp_cond (t := _) rfl (fun hq => ?_) (fun hq => ?_) <;> first | (exact absurd hq (by decide)) | (cases hq; done) | (clear hq)) | (refine awp_un 8 ?_) | (with_reducible exact rfl) | (with_reducible exact trivial) | ((with_reducible show uside _); first | exact True.intro | exact rfl) | ((with_reducible show opS _ _); exact True.intro) | (refine ⟨AV.v (.bool true), rfl, hK1 _ ?_⟩; clear hK1 K1) | (refine (h1).mono ?_; rintro _ hz ⟨rfl, hh⟩; (first | (refine hK1 _ ?_) | (refine ⟨rfl, hK1 _ ?_⟩)); clear hK1 K1; rw [hh]; clear hh hz) | (refine (h2).mono ?_; rintro _ hz ⟨rfl, hh⟩; (first | (refine hK1 _ ?_) | (refine ⟨rfl, hK1 _ ?_⟩)); clear hK1 K1; rw [hh]; clear hh hz)))
 simp only [Tryz.results250, go_sem, ↓reduceIte, reduceCtorEq, nA, nB, nC, nD, nE, nF]
 exact ⟨_, _, Weak.refl _, Hp.le.refl _, rfl, rfl⟩
theorem c_node (b k : Nat) (h : Hp) (hb : h.H b = some (bdO k)) (hT : h.T k = some (.buf 5 (rowB []))) : ACalls Tryz.prog 196 [.ptr b 0, .agg ndN] h (fun r h' => r = .v (.int .i64 0) ∧ h' = h5 h b k) := by
 have h1 := c_field b k h hb
 have h2 := fun h => c_said h
 have h3 := fun h => c_filtered s5 h
 have h4 := c_put b k h hb hT
 rw [fC_eq] at h1 h2
 unfold s5 at h3 h4
 unfold ndN ndC vS vI vB nl s0
 refine gE Tryz.func196 rfl (by kernel_rfl) 130 rfl fun c => ?_
 (repeat (first | refine gO rfl ?_ | ((first | refine gM zM2A ?_ | (with_reducible refine wM ?_ ?_) | ((with_reducible refine xS ?_); refine uD 10 zM2A zP12E zP12P 132 rfl (by kernel_rfl) ?_) | ((with_reducible refine xS ?_); refine uD 29 zM2A zP13E zP13P 132 rfl (by kernel_rfl) ?_) | ((with_reducible refine xR ?_); refine uE 33 zM2A zP14E zP14P 132 rfl (by kernel_rfl) ?_)) <;> ((try with_reducible intro K1 hK1); simp only [go_sem, ↓reduceIte, reduceCtorEq, nA, nB, nC, nD, nE, nF, Int.reduceBEq, Int.reduceTMod, Int.reduceTDiv, Int.reduceMul, Int.reduceBNe, Int.reduceLT, Int.reduceLE, Int.reduceAdd, Int.reduceSub, Int.reduceNeg, decide_true, decide_false, Bool.true_and, Bool.false_and, Bool.and_true, Bool.and_false, Bool.or_false, Bool.or_true, Bool.true_or, Bool.false_or, Bool.not_true, Bool.not_false, true_implies, false_implies, true_and, and_true, Int.reduceToNat] <;> and_intros <;> first | (apply hK1; clear hK1 K1) | (intros; first | omega | decide) | skip)) | (refine awp_cond (t := _) rfl (fun hq => ?_) (fun hq => ?_) <;> first | (exact absurd hq (by decide)) | (cases hq; done) | (clear hq)) | (refine awp_un 8 ?_) | (with_reducible exact rfl) | (with_reducible exact trivial) | ((with_reducible show uside _); first | exact True.intro | exact rfl) | ((with_reducible show opS _ _); exact True.intro) | (refine ⟨AV.v (.bool true), rfl, hK1 _ ?_⟩; clear hK1 K1) | (refine (h1).mono ?_; rintro _ hz ⟨rfl, hh⟩; (first | (refine hK1 _ ?_) | (refine ⟨rfl, hK1 _ ?_⟩)); clear hK1 K1; rw [hh]; clear hh hz) | (refine (h2 _).mono ?_; rintro _ hz ⟨rfl, hh⟩; (first | (refine hK1 _ ?_) | (refine ⟨rfl, hK1 _ ?_⟩)); clear hK1 K1; rw [hh]; clear hh hz) | (refine (h3 _).mono ?_; rintro _ hz ⟨rfl, hh⟩; (first | (refine hK1 _ ?_) | (refine ⟨rfl, hK1 _ ?_⟩)); clear hK1 K1; rw [hh]; clear hh hz) | (refine (h4).mono ?_; rintro _ hz ⟨rfl, hh⟩; (first | (refine hK1 _ ?_) | (refine ⟨rfl, hK1 _ ?_⟩)); clear hK1 K1; rw [hh]; clear hh hz)))
 simp only [Tryz.results196, go_sem, ↓reduceIte, reduceCtorEq, nA, nB, nC, nD, nE, nF]
 exact ⟨_, _, Weak.refl _, Hp.le.refl _, rfl, rfl⟩
theorem c_nodes (b k : Nat) (h : Hp) (hb : h.H b = some (bdO k)) (hT : h.T k = some (.buf 5 (rowB []))) : ACalls Tryz.prog 138 [.ptr b 0, .row 19 [ndN] none] h (fun r h' => r = .v (.int .i64 0) ∧ h' = h5 h b k) := by
 have h1 := c_node b k h hb hT
 unfold ndN ndC vS vI vB nl s0 at *
 refine gE Tryz.func138 rfl (by kernel_rfl) 19 rfl fun c => ?_
 (repeat (first | refine gO rfl ?_ | (refine gM zM28 fun K1 hK1 => ?_; simp only [go_sem, ↓reduceIte, reduceCtorEq, nA, nB, nC, nD, nE, nF, Int.reduceBEq, Int.reduceTMod, Int.reduceTDiv, Int.reduceMul, Int.reduceBNe, Int.reduceLT, Int.reduceLE, Int.reduceAdd, Int.reduceSub, Int.reduceNeg, decide_true, decide_false, Bool.true_and, Bool.false_and, Bool.and_true, Bool.and_false, Bool.or_false, Bool.or_true, Bool.true_or, Bool.false_or, Bool.not_true, Bool.not_false, true_implies, false_implies, true_and, and_true, Int.reduceToNat] <;> and_intros <;> first | (apply hK1; clear hK1 K1) | (intros; first | omega | decide) | skip) | (refine awp_cond (t := _) rfl (fun hq => ?_) (fun hq => ?_) <;> first | (exact absurd hq (by decide)) | (cases hq; done) | (clear hq)) | (refine awp_un 8 ?_) | (with_reducible exact rfl) | (with_reducible exact trivial) | ((with_reducible show uside _); first | exact True.intro | exact rfl) | ((with_reducible show opS _ _); exact True.intro) | (refine ⟨AV.v (.bool true), rfl, hK1 _ ?_⟩; clear hK1 K1) | (refine (h1).mono ?_; rintro _ hz ⟨rfl, hh⟩; (first | (refine hK1 _ ?_) | (refine ⟨rfl, hK1 _ ?_⟩)); clear hK1 K1; rw [hh]; clear hh hz)))
 simp only [Tryz.results138, go_sem, ↓reduceIte, reduceCtorEq, nA, nB, nC, nD, nE, nF]
 exact ⟨_, _, Weak.refl _, Hp.le.refl _, rfl, rfl⟩
section
variable {P : Program} {c : Cx} {Q : Exit → St → Prop}
def OpsL (P : Program) (c : Cx) (Q : Exit → St → Prop) : List Oper → St → Prop
 | [], s => Q .normal s
 | o :: r, s => o.guard = none ∧ Aop P c o s (OpsL P c Q r)
theorem awp_opsL {id : Nat} {ops : Array Oper} {s : St} (h : OpsL P c Q ops.toList s) : Awp P c (.region id ops false) Q s := by
 have hg : ∀ (l : List Oper) (s : St), OpsL P c Q l s → ∀ a w, In c s a w → wpList P ops (fun e a' w' => ∃ s', Q e s' ∧ In c s' a' w') l a w := by
  intro l
  induction l with
  | nil => intro s h a w hi; exact ⟨s, h, hi⟩
  | cons o r ih =>
   intro s h a w hi
   have hw : Region.wanted o (yielded ops a.tmps) = true := by simp [Region.wanted, h.1]
   unfold wpList
   rw [if_pos hw]
   exact .inl (h.2 a w hi _ _ fun s' a' w' hs hi' => ih s' hs a' w' hi')
 intro a w hi
 exact wp_region_list (hg _ s h a w hi)
end
theorem g_bind1 (h : Hp) : ACalls Tryz.prog 72 [.v (.string sT), .row 6 [fC] none] h (fun r h' => r = .tup [.v (.string s5), .v (.int .i64 0)]) := by
 have h1 := fun h => c_parse h
 have h2 := fun h => c_checkData h
 have h3 := fun b k h => c_nodes b k h
 unfold h5 bdO bdP at h3
 have hR : rowB [] = [] := rfl
 rw [hR] at h3
 generalize hfc : fC = cs at *
 generalize hnn : ([ndN] : List (List AV)) = nn at *
 refine gE Tryz.func72 rfl (by kernel_rfl) 37 rfl fun c => ?_
 (repeat (first | refine gO rfl ?_ | (refine gM zM2B fun K1 hK1 => ?_; simp only [go_sem, ↓reduceIte, reduceCtorEq, nA, nB, nC, nD, nE, nF, Int.reduceBEq, Int.reduceTMod, Int.reduceTDiv, Int.reduceMul, Int.reduceBNe, Int.reduceLT, Int.reduceLE, Int.reduceAdd, Int.reduceSub, Int.reduceNeg, decide_true, decide_false, Bool.true_and, Bool.false_and, Bool.and_true, Bool.and_false, Bool.or_false, Bool.or_true, Bool.true_or, Bool.false_or, Bool.not_true, Bool.not_false, true_implies, false_implies, true_and, and_true, Int.reduceToNat] <;> and_intros <;> first | (apply hK1; clear hK1 K1) | (intros; first | omega | decide) | skip) | (refine awp_cond (t := _) rfl (fun hq => ?_) (fun hq => ?_) <;> first | (exact absurd hq (by decide)) | (cases hq; done) | (clear hq)) | (refine awp_un 8 ?_) | (with_reducible exact rfl) | (with_reducible exact trivial) | ((with_reducible show uside _); first | exact True.intro | exact rfl) | ((with_reducible show opS _ _); exact True.intro) | (refine ⟨AV.v (.bool true), rfl, hK1 _ ?_⟩; clear hK1 K1)))
 refine (h1 _).mono ?_
 rintro _ ha rfl
 refine hK1 _ ?_; clear hK1 K1
 (repeat (first | refine gO rfl ?_ | (refine gM zM2B fun K1 hK1 => ?_; simp only [go_sem, ↓reduceIte, reduceCtorEq, nA, nB, nC, nD, nE, nF, Int.reduceBEq, Int.reduceTMod, Int.reduceTDiv, Int.reduceMul, Int.reduceBNe, Int.reduceLT, Int.reduceLE, Int.reduceAdd, Int.reduceSub, Int.reduceNeg, decide_true, decide_false, Bool.true_and, Bool.false_and, Bool.and_true, Bool.and_false, Bool.or_false, Bool.or_true, Bool.true_or, Bool.false_or, Bool.not_true, Bool.not_false, true_implies, false_implies, true_and, and_true, Int.reduceToNat] <;> and_intros <;> first | (apply hK1; clear hK1 K1) | (intros; first | omega | decide) | skip) | (refine awp_cond (t := _) rfl (fun hq => ?_) (fun hq => ?_) <;> first | (exact absurd hq (by decide)) | (cases hq; done) | (clear hq)) | (refine awp_un 8 ?_) | (with_reducible exact rfl) | (with_reducible exact trivial) | ((with_reducible show uside _); first | exact True.intro | exact rfl) | ((with_reducible show opS _ _); exact True.intro) | (refine ⟨AV.v (.bool true), rfl, hK1 _ ?_⟩; clear hK1 K1)))
 refine (h2 _).mono ?_
 rintro _ hz ⟨rfl, rfl⟩
 refine hK1 _ ?_; clear hK1 K1
 first | refine gO rfl ?_ | (refine gM zM2B fun K1 hK1 => ?_; simp only [go_sem, ↓reduceIte, reduceCtorEq, nA, nB, nC, nD, nE, nF] <;> and_intros <;> first | (apply hK1; clear hK1 K1) | (intros; first | omega | decide | (simp_all <;> omega)) | skip)
 first | refine gO rfl ?_ | (refine gM zM2B fun K1 hK1 => ?_; simp only [go_sem, ↓reduceIte, reduceCtorEq, nA, nB, nC, nD, nE, nF] <;> and_intros <;> first | (apply hK1; clear hK1 K1) | (intros; first | omega | decide | (simp_all <;> omega)) | skip)
 first | refine gO rfl ?_ | (refine gM zM2B fun K1 hK1 => ?_; simp only [go_sem, ↓reduceIte, reduceCtorEq, nA, nB, nC, nD, nE, nF] <;> and_intros <;> first | (apply hK1; clear hK1 K1) | (intros; first | omega | decide | (simp_all <;> omega)) | skip)
 first | refine gO rfl ?_ | (refine gM zM2B fun K1 hK1 => ?_; simp only [go_sem, ↓reduceIte, reduceCtorEq, nA, nB, nC, nD, nE, nF] <;> and_intros <;> first | (apply hK1; clear hK1 K1) | (intros; first | omega | decide | (simp_all <;> omega)) | skip)
 refine awp_cond (t := _) rfl (fun hq => absurd hq (by decide)) (fun hq => ?_)
 clear hq
 first | refine gO rfl ?_ | (refine gM zM2B fun K1 hK1 => ?_; simp only [go_sem, ↓reduceIte, reduceCtorEq, nA, nB, nC, nD, nE, nF] <;> and_intros <;> first | (apply hK1; clear hK1 K1) | (intros; first | omega | decide | (simp_all <;> omega)) | skip)
 refine awp_seq (awp_opsL ?_)
 refine ⟨rfl, (q_move (.inl rfl)).aop ⟨rfl, vEff_sound tyok (md := 0) ?_⟩⟩
 simp only [go_sem, ↓reduceIte, reduceCtorEq, Nat.reduceAdd, Nat.reduceSub, Nat.reduceMul, Nat.reduceLT, Nat.reduceLeDiff, Nat.reduceEqDiff, St.ev, St.put, eK]
 refine ⟨rfl, a_boxObj (cs := [.row 6 [cs] none, .v (.slice none 0 0), .v (.pointer none), .v (.slice none 0 0), .v (.int .i64 0)]) rfl ?_ (fun b hb => ⟨rfl, (q_move (.inr rfl)).aop ?_⟩)⟩
 ·simp only [go_sem, ↓reduceIte, reduceCtorEq, Nat.reduceAdd, Nat.reduceSub, Nat.reduceMul, Nat.reduceLT, Nat.reduceLeDiff, Nat.reduceEqDiff, St.ev, AV.cellsB]
  done
 simp only [go_sem, ↓reduceIte, reduceCtorEq, Nat.reduceAdd, Nat.reduceSub, Nat.reduceMul, Nat.reduceLT, Nat.reduceLeDiff, Nat.reduceEqDiff, St.ev, St.put, OpsL, thenQ]
 refine awp_ownBuf b 3 260 5 (upd_same _ _ _) rfl (fun k hk => ?_)
 simp only [List.set_cons_zero, List.set_cons_succ]
 (repeat (first | refine gO rfl ?_ | (refine gM zM2B fun K1 hK1 => ?_; simp only [go_sem, ↓reduceIte, reduceCtorEq, nA, nB, nC, nD, nE, nF, Int.reduceBEq, Int.reduceTMod, Int.reduceTDiv, Int.reduceMul, Int.reduceBNe, Int.reduceLT, Int.reduceLE, Int.reduceAdd, Int.reduceSub, Int.reduceNeg, decide_true, decide_false, Bool.true_and, Bool.false_and, Bool.and_true, Bool.and_false, Bool.or_false, Bool.or_true, Bool.true_or, Bool.false_or, Bool.not_true, Bool.not_false, true_implies, false_implies, true_and, and_true, Int.reduceToNat] <;> and_intros <;> first | (apply hK1; clear hK1 K1) | (intros; first | omega | decide) | skip) | (refine awp_cond (t := _) rfl (fun hq => ?_) (fun hq => ?_) <;> first | (exact absurd hq (by decide)) | (cases hq; done) | (clear hq)) | (refine awp_un 8 ?_) | (with_reducible exact rfl) | (with_reducible exact trivial) | ((with_reducible show uside _); first | exact True.intro | exact rfl) | ((with_reducible show opS _ _); exact True.intro) | (refine ⟨AV.v (.bool true), rfl, hK1 _ ?_⟩; clear hK1 K1)))
 refine (h3 b k _ (upd_same _ _ _) (upd_same _ _ _)).mono ?_
 rintro _ hx ⟨rfl, rfl⟩
 refine hK1 _ ?_; clear hK1 K1
 have h4 := fun D R X I h hb hT => g_strAt b k D R X I [53] h hb hT (by decide)
 (repeat (first | refine gO rfl ?_ | (refine gM zM2B fun K1 hK1 => ?_; simp only [go_sem, ↓reduceIte, reduceCtorEq, nA, nB, nC, nD, nE, nF, Int.reduceBEq, Int.reduceTMod, Int.reduceTDiv, Int.reduceMul, Int.reduceBNe, Int.reduceLT, Int.reduceLE, Int.reduceAdd, Int.reduceSub, Int.reduceNeg, decide_true, decide_false, Bool.true_and, Bool.false_and, Bool.and_true, Bool.and_false, Bool.or_false, Bool.or_true, Bool.true_or, Bool.false_or, Bool.not_true, Bool.not_false, true_implies, false_implies, true_and, and_true, Int.reduceToNat] <;> and_intros <;> first | (apply hK1; clear hK1 K1) | (intros; first | omega | decide) | skip) | (refine awp_cond (t := _) rfl (fun hq => ?_) (fun hq => ?_) <;> first | (exact absurd hq (by decide)) | (cases hq; done) | (clear hq)) | (refine awp_un 8 ?_) | (with_reducible exact rfl) | (with_reducible exact trivial) | ((with_reducible show uside _); first | exact True.intro | exact rfl) | ((with_reducible show opS _ _); exact True.intro) | (refine ⟨AV.v (.bool true), rfl, hK1 _ ?_⟩; clear hK1 K1)))
 refine (h4 _ _ _ _ _ (upd_same _ _ _) (upd_same _ _ _)).mono ?_
 rintro _ hx ⟨rfl, rfl⟩
 refine hK1 _ ?_; clear hK1 K1
 (repeat (first | refine gO rfl ?_ | (refine gM zM2B fun K1 hK1 => ?_; simp only [go_sem, ↓reduceIte, reduceCtorEq, nA, nB, nC, nD, nE, nF, Int.reduceBEq, Int.reduceTMod, Int.reduceTDiv, Int.reduceMul, Int.reduceBNe, Int.reduceLT, Int.reduceLE, Int.reduceAdd, Int.reduceSub, Int.reduceNeg, decide_true, decide_false, Bool.true_and, Bool.false_and, Bool.and_true, Bool.and_false, Bool.or_false, Bool.or_true, Bool.true_or, Bool.false_or, Bool.not_true, Bool.not_false, true_implies, false_implies, true_and, and_true, Int.reduceToNat] <;> and_intros <;> first | (apply hK1; clear hK1 K1) | (intros; first | omega | decide) | skip) | (refine awp_cond (t := _) rfl (fun hq => ?_) (fun hq => ?_) <;> first | (exact absurd hq (by decide)) | (cases hq; done) | (clear hq)) | (refine awp_un 8 ?_) | (with_reducible exact rfl) | (with_reducible exact trivial) | ((with_reducible show uside _); first | exact True.intro | exact rfl) | ((with_reducible show opS _ _); exact True.intro) | (refine ⟨AV.v (.bool true), rfl, hK1 _ ?_⟩; clear hK1 K1)))
 simp only [Tryz.results72, go_sem, ↓reduceIte, reduceCtorEq, nA, nB, nC, nD, nE, nF]
 exact ⟨_, _, Weak.refl _, Hp.le.refl _, rfl⟩
open Go
set_option linter.unusedVariables false
set_option linter.unusedSimpArgs false
section
variable {α : Type} (cf : α → α → Int)
def insR : List α → α → List α
  | [], x => [x]
  | y :: r, x => if cf x y < 0 then y :: insR r x else x :: y :: r
def insS (xs : List α) : List α := xs.foldl (insR cf) []
def sortI (xs : List α) : List α := (insS cf xs).reverse
theorem insS_snoc (xs : List α) (x : α) : insS cf (xs ++ [x]) = insR cf (insS cf xs) x := by simp [insS]
theorem insR_perm : ∀ (r : List α) (x : α), (insR cf r x).Perm (x :: r)
  | [], _ => List.Perm.refl _
  | y :: r, x => by
    unfold insR
    split
    · exact ((insR_perm r x).cons y).trans (List.Perm.swap x y r)
    · exact List.Perm.refl _
theorem foldI_perm : ∀ (xs r : List α), (xs.foldl (insR cf) r).Perm (r ++ xs)
  | [], r => by simp
  | x :: xs, r => by
    refine (foldI_perm xs (insR cf r x)).trans ?_
    exact ((insR_perm cf r x).append_right xs).trans List.perm_middle.symm
theorem insS_perm (xs : List α) : (insS cf xs).Perm xs := by simpa [insS] using foldI_perm cf xs []
theorem insS_len (xs : List α) : (insS cf xs).length = xs.length := (insS_perm cf xs).length_eq
theorem sortI_perm (xs : List α) : (sortI cf xs).Perm xs := (List.reverse_perm _).trans (insS_perm cf xs)
theorem sortI_len (xs : List α) : (sortI cf xs).length = xs.length := (sortI_perm cf xs).length_eq
end
open Go
set_option linter.unusedVariables false
set_option linter.unusedSimpArgs false
abbrev Kp := ByteArray × Int × Bool × Int × Int × Int
def encKp (x : Kp) : List AV := [.v (.string x.1), .v (.int .i64 x.2.1), .v (.bool x.2.2.1), .v (.int .i64 x.2.2.2.1), .v (.int .i64 x.2.2.2.2.1), .v (.int .i64 x.2.2.2.2.2)]
def cmpI (x y : Int) : Int := if x < y then -1 else if y < x then 1 else 0
def cmpK (rule : Int) (a b : Kp) : Int :=
  if (if rule = 2 then cmpI a.2.2.2.2.2 b.2.2.2.2.2 else if rule = 3 then cmpI a.2.2.2.1 b.2.2.2.1 else if rule = 4 then cmpI b.2.1 a.2.1 else 0) = 0 then cmpI a.2.2.2.2.1 b.2.2.2.2.1
  else if rule = 2 then cmpI a.2.2.2.2.2 b.2.2.2.2.2 else if rule = 3 then cmpI a.2.2.2.1 b.2.2.2.1 else if rule = 4 then cmpI b.2.1 a.2.1 else 0
def orderF (rule : Int) (K : Nat → Kp) (ps : List Nat) : List Nat := sortI (fun p q => cmpK rule (K p) (K q)) (ps.filter fun p => !(K p).2.2.1)
def overF (item : ByteArray) (K : Nat → Kp) : List Nat → Int → Int
  | [], o => o
  | p :: ps, o => overF item K ps (if (K p).1 = item then o else o + (K p).2.1)
def goF (item : ByteArray) (K : Nat → Kp) : List Nat → Int → List Nat × Int
  | [], o => ([], o)
  | p :: ps, o => if o ≤ 0 then ([], o) else if (K p).1 = item then goF item K ps o else (p :: (goF item K ps (o - (K p).2.1)).1, (goF item K ps (o - (K p).2.1)).2)
def goingF (item : ByteArray) (bytes room rule : Int) (K : Nat → Kp) (ps : List Nat) : List Nat × Int := goF item K (orderF rule K ps) (overF item K ps (bytes - room))
theorem orderF_mem {rule : Int} {K : Nat → Kp} {ps : List Nat} {p : Nat} (h : p ∈ orderF rule K ps) : p ∈ ps := (List.mem_filter.1 ((sortI_perm _ _).mem_iff.1 h)).1
theorem orderF_len (rule : Int) (K : Nat → Kp) (ps : List Nat) : (orderF rule K ps).length ≤ ps.length := by
  rw [orderF, sortI_len]; exact List.length_filter_le _ _
theorem goF_mem {item : ByteArray} {K : Nat → Kp} : ∀ {ps : List Nat} {o : Int} {p : Nat}, p ∈ (goF item K ps o).1 → p ∈ ps
  | [], _, _, h => by simp [goF] at h
  | q :: ps, o, p, h => by
    unfold goF at h
    split at h
    · simp at h
    · split at h
      · exact List.mem_cons_of_mem _ (goF_mem h)
      · rcases List.mem_cons.1 h with rfl | h
        · exact List.mem_cons_self
        · exact List.mem_cons_of_mem _ (goF_mem h)
theorem goF_len (item : ByteArray) (K : Nat → Kp) : ∀ (ps : List Nat) (o : Int), (goF item K ps o).1.length ≤ ps.length
  | [], _ => by simp [goF]
  | q :: ps, o => by
    unfold goF
    split
    · simp
    · split
      · have := goF_len item K ps o; simp only [List.length_cons]; omega
      · have := goF_len item K ps (o - (K q).2.1); simp only [List.length_cons]; omega
def stayF (gone ps : List Nat) : List Nat := ps.filter fun p => !gone.contains p
open Nat renaming reduceAdd → nA, reduceSub → nB, reduceMul → nC, reduceLT → nD, reduceLeDiff → nE, reduceEqDiff → nF, reduceMod → nG, reduceDiv → nH, reducePow → nI
set_option maxRecDepth 100000
set_option maxHeartbeats 8000000
def encR (p : Nat) : List AV := [.ptr p 0]
def encRV (p : Nat) : AV := .ptr p 0
def idxR (pr : Nat → Bool) (ps : List Nat) : Int := match ps.findIdx? pr with
 | some j => j
 | none => -1
theorem idxR_at {pr : Nat → Bool} {ps : List Nat} {j : Nat} (hj : j < ps.length) (hp : pr (ps.getD j default) = true) (hn : ∀ i, i < j → pr (ps.getD i default) = false) : idxR pr ps = j := by
 have e : ps.findIdx? pr = some j := by
  rw [List.findIdx?_eq_some_iff_getElem]
  refine ⟨hj, ?_, fun i hi => ?_⟩
  ·rwa [List.getD_eq_getElem?_getD, List.getElem?_eq_getElem hj] at hp
  ·have h9 := hn i hi
   rw [List.getD_eq_getElem?_getD, List.getElem?_eq_getElem (by omega)] at h9
   simpa using h9
 rw [idxR, e]
theorem idxR_no {pr : Nat → Bool} {ps : List Nat} (hn : ∀ i, i < ps.length → pr (ps.getD i default) = false) : idxR pr ps = -1 := by
 have e : ps.findIdx? pr = none := by
  rw [List.findIdx?_eq_none_iff]
  intro x hx
  obtain ⟨i, hi, rfl⟩ := List.getElem_of_mem hx
  have h9 := hn i hi
  rwa [List.getD_eq_getElem?_getD, List.getElem?_eq_getElem hi] at h9
 rw [idxR, e]
theorem g_idxK {f : Nat} {caps : List AV} (pr : Nat → Bool) (k : Nat) (ps : List Nat) (h : Hp) (hT : h.T k = some (.cont 1 (ps.map encR))) (hl : ps.length ≤ 100000)
  (hc : ∀ p ∈ ps, ACalls Tryz.prog f ([.ptr p 0] ++ caps) h (fun r h' => r = .v (.bool (pr p)) ∧ h' = h)) :
  ACalls Tryz.prog 188 [.arr 1 k ps.length, .fn f caps] h (fun r h' => r = .v (.int .i64 (idxR pr ps)) ∧ h' = h) := by
 have hml : (ps.map encR).length = ps.length := List.length_map _
 refine gE Tryz.func188 rfl (by kernel_rfl) 17 rfl fun c => ?_
 (repeat (first | refine gO rfl ?_ | (refine gR fun K1 hK1 => ?_; simp only [go_sem, ↓reduceIte, reduceCtorEq, nA, nB, nC, nD, nE, nF] <;> and_intros <;> first | (apply hK1; clear hK1 K1) | (intros; first | omega | decide | (simp_all <;> omega)) | skip)))
 refine awp_loopC (rl false [0, 2, 5, 2, 10]) 0 (fun g s => ∃ j : Nat, g + j = ps.length ∧ (∀ i, i < j → pr (ps.getD i default) = false) ∧
  s = ⟨((.arr 1 k ps.length) :: (.fn f caps) :: (jnk 5 ((.v (.int .i64 ps.length)) :: (.v (.int .i64 j)) :: (jnk 10 [])))), [], h⟩) ps.length ⟨0, by omega, fun i hi => by omega, rfl⟩ ?_
 rintro g _ ⟨j, hj, hn, rfl⟩
 (repeat (first | refine gO rfl ?_ | (refine gR fun K1 hK1 => ?_; simp only [go_sem, ↓reduceIte, reduceCtorEq, nA, nB, nC, nD, nE, nF] <;> and_intros <;> first | (apply hK1; clear hK1 K1) | (intros; first | omega | decide) | skip)))
 refine awp_cond (t := _) rfl (fun h1 => ?_) (fun h1 => ?_)
 ·simp only [decide_eq_true_eq] at h1
  have hjl : j < ps.length := by omega
  have gx : (ps.map encR).getD j [] = encR (ps.getD j default) := getD_enc encR ps j default hjl
  have hcc := hc (ps.getD j default) (by rw [List.getD_eq_getElem?_getD, List.getElem?_eq_getElem hjl]; exact List.getElem_mem _)
  obtain ⟨p, hp⟩ : ∃ p, ps.getD j default = p := ⟨_, rfl⟩
  rw [hp] at gx hcc
  (repeat (first | refine gO rfl ?_ | (refine gR fun K1 hK1 => ?_; simp only [go_sem, ↓reduceIte, reduceCtorEq, nA, nB, nC, nD, nE, nF, hT, hml, Int.toNat_natCast, gx, encR] <;> and_intros <;> first | (apply hK1; clear hK1 K1) | (intros; first | omega | decide) | skip)))
  refine hcc.mono ?_; rintro _ hz ⟨rfl, hh⟩; apply hK1; clear hK1 K1; rw [hh]; clear hh hz
  cases hb : pr p with
  | true =>
   (repeat (first | refine gO rfl ?_ | (refine gR fun K1 hK1 => ?_; simp only [go_sem, ↓reduceIte, reduceCtorEq, nA, nB, nC, nD, nE, nF] <;> and_intros <;> first | (apply hK1; clear hK1 K1) | (intros; first | omega | decide) | skip)))
   refine awp_cond (t := _) rfl (fun _ => ?_) (fun h9 => by cases h9)
   (repeat (first | refine gO rfl ?_ | (refine gR fun K1 hK1 => ?_; simp only [go_sem, ↓reduceIte, reduceCtorEq, nA, nB, nC, nD, nE, nF] <;> and_intros <;> first | (apply hK1; clear hK1 K1) | (intros; first | omega | decide) | skip)))
   simp only [Tryz.results188, go_sem, ↓reduceIte, reduceCtorEq, nA, nB, nC, nD, nE, nF]
   exact ⟨_, _, Weak.refl _, Hp.le.refl _, by rw [idxR_at hjl (by rw [hp]; exact hb) hn], rfl⟩
  | false =>
   (repeat (first | refine gO rfl ?_ | (refine gR fun K1 hK1 => ?_; simp only [go_sem, ↓reduceIte, reduceCtorEq, nA, nB, nC, nD, nE, nF] <;> and_intros <;> first | (apply hK1; clear hK1 K1) | (intros; first | omega | decide) | skip)))
   refine awp_cond (t := _) rfl (fun h9 => by cases h9) (fun _ => ?_)
   (repeat (first | refine gO rfl ?_ | (refine gR fun K1 hK1 => ?_; simp only [go_sem, ↓reduceIte, reduceCtorEq, nA, nB, nC, nD, nE, nF] <;> and_intros <;> first | (apply hK1; clear hK1 K1) | (intros; first | omega | decide) | skip)))
   refine ⟨g - 1, by omega, j + 1, by omega, fun i hi => ?_, rfl⟩
   rcases Nat.lt_succ_iff_lt_or_eq.1 hi with h9 | rfl
   ·exact hn i h9
   ·rw [hp]; exact hb
 ·simp only [decide_eq_false_iff_not] at h1
  (repeat (first | refine gO rfl ?_ | (refine gR fun K1 hK1 => ?_; simp only [go_sem, ↓reduceIte, reduceCtorEq, nA, nB, nC, nD, nE, nF] <;> and_intros <;> first | (apply hK1; clear hK1 K1) | (intros; first | omega | decide) | skip)))
  simp only [Tryz.results188, go_sem, ↓reduceIte, reduceCtorEq, nA, nB, nC, nD, nE, nF]
  exact ⟨_, _, Weak.refl _, Hp.le.refl _, by rw [idxR_no (fun i hi => hn i (by omega))], rfl⟩
end Go.Proofs.YtidkkmoiolffnaaGreatDoor
