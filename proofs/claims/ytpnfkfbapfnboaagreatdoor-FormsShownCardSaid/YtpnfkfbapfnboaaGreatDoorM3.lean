/- Best, VersionOf, what a player lacks, both ways. -/
import Derived.Test.YtpnfkfbapfnboaaGreatDoorM2
import Derived.Test.YtpnfkfbapfnboaaGreatDoorAvOwn
import Derived.Test.YtpnfkfbapfnboaaGreatDoorShelf
import Derived.Test.YtpnfkfbapfnboaaGreatDoorAvOld
namespace Go.Proofs.YtpnfkfbapfnboaaGreatDoor
open Go
set_option linter.unusedVariables false
set_option linter.unusedSimpArgs false
open Nat renaming reduceAdd → nA, reduceSub → nB, reduceMul → nC, reduceLT → nD, reduceLeDiff → nE, reduceEqDiff → nF, reduceMod → nG, reduceDiv → nH, reducePow → nI
set_option maxRecDepth 100000
set_option maxHeartbeats 8000000
abbrev zM30 : Option Tmp → Nat := mdL [(4, 1)]
abbrev zM31 : Option Tmp → Nat := mdL [(15, 1), (16, 1)]
abbrev zM32 : Option Tmp → Nat := mdL [(11, 1), (12, 1)]
abbrev zM33 : Option Tmp → Nat := mdL [(2, 1), (3, 1)]
abbrev zM34 : Option Tmp → Nat := mdL [(6, 2), (9, 1)]
abbrev zM35 : Option Tmp → Nat := mdL []
attribute [go_sem] zM30 zM31 zM32 zM33 zM34 zM35
theorem formsF_all : ∀ {l : List Fm}, formsF l = 0 → ∀ f ∈ l, formF f = 0
 | [], _, f, hf => by cases hf
 | x :: l, h, f, hf => by
  rw [formsF] at h
  by_cases hx : formF x = 0
  ·rw [if_pos hx] at h
   rcases List.mem_cons.1 hf with rfl | hf
   ·exact hx
   ·exact formsF_all h f hf
  ·rw [if_neg hx] at h; exact absurd h hx
theorem verF_forms {v : Vn} {p : Option Vn} (h : verF v p = 0) : formsF v.forms = 0 := by
 unfold verF at h
 split at h
 ·cases h
 ·split at h
  ·cases h
  ·split at h
   ·cases h
   ·split at h
    ·cases h
    ·exact h
theorem versL_forms : ∀ {l : List Vn} {p : Option Vn}, versL l p = 0 → ∀ v ∈ l, formsF v.forms = 0
 | [], _, _, v, hv => by cases hv
 | x :: l, p, h, v, hv => by
  rw [versL] at h
  by_cases hx : verF x p = 0
  ·rw [if_pos hx] at h
   rcases List.mem_cons.1 hv with rfl | hv
   ·exact verF_forms hx
   ·exact versL_forms h v hv
  ·rw [if_neg hx] at h; exact absurd h hx
theorem versF_forms {l : List Vn} (h : versF l = 0) : ∀ v ∈ l, formsF v.forms = 0 := by
 unfold versF at h
 split at h
 ·cases h
 ·split at h
  ·cases h
  ·exact versL_forms h
theorem assOne_forms {a : As} {p : Option ByteArray} (h : assOne a p = 0) : versF a.vs = 0 := by
 unfold assOne at h
 split at h
 ·cases h
 ·split at h
  ·cases h
  ·exact h
theorem assL_forms : ∀ {l : List As} {p : Option ByteArray}, assL l p = 0 → ∀ a ∈ l, versF a.vs = 0
 | [], _, _, a, ha => by cases ha
 | x :: l, p, h, a, ha => by
  rw [assL] at h
  by_cases hx : assOne x p = 0
  ·rw [if_pos hx] at h
   rcases List.mem_cons.1 ha with rfl | ha
   ·exact assOne_forms hx
   ·exact assL_forms h a ha
  ·rw [if_neg hx] at h; exact absurd h hx
theorem assF_forms {l : List As} (h : assF l = 0) : ∀ a ∈ l, versF a.vs = 0 := by
 unfold assF at h
 split at h
 ·cases h
 ·exact assL_forms h
theorem form_bytes {f : Fm} (h : formF f = 0) : 1 ≤ f.bytes ∧ f.bytes ≤ 1000000000000 := by
 unfold formF at h
 split at h
 ·split at h
  ·split at h
   ·rename_i h3
    unfold fitB at h3
    simp only [Bool.and_eq_true, decide_eq_true_eq] at h3
    exact h3.2
   ·cases h
  ·cases h
 ·cases h
theorem forms_at {a : As} {at0 : Int} (h : versF a.vs = 0) : ∀ f ∈ formsAt a at0, formF f = 0 := by
 intro f hf
 unfold formsAt at hf
 cases hv : verAt a.vs at0 with
 | none => rw [hv] at hf; cases hf
 | some v =>
  rw [hv] at hf
  refine formsF_all (versF_forms h v ?_) f hf
  unfold verAt at hv
  exact List.mem_reverse.1 (List.mem_of_find?_eq_some hv)
theorem lack_snoc (p : Ab) (at0 : Int) (a : As) : ∀ l : List As, lackL p at0 (l ++ [a]) = lackL p at0 l ++ (if bestF p (formsAt a at0) < 0 then [a.key] else [])
 | [] => by simp [lackL]
 | x :: l => by
  rw [List.cons_append, lackL, lackL, lack_snoc p at0 a l]
  split <;> simp
theorem room_snoc (p : Ab) (at0 : Int) (a : As) : ∀ l : List As, roomL p at0 (l ++ [a]) = roomL p at0 l + (if bestF p (formsAt a at0) < 0 then 0 else ((formsAt a at0).getD (bestF p (formsAt a at0)).toNat default).bytes)
 | [] => by simp [roomL]
 | x :: l => by
  rw [List.cons_append, roomL, roomL, room_snoc p at0 a l]; omega
theorem g_Best (p : Ab) (hp : AbOk p) (v : Vn) (hvo : VnOk v) (h : Hp) :
  ACalls Tryz.prog 19 [.agg (encAb p), .agg (encVn v)] h (fun r h' => r = (if ableF p = 0 then (if versF [v] = 0 then .tup [.v (.int .i64 (max (bestF p v.forms) 0)), .v (.bool (decide (0 ≤ bestF p v.forms))), .v (.int .i64 0)] else .tup [.v (.int .i64 0), .v (.bool false), .v (.int .i64 (versF [v]))]) else .tup [.v (.int .i64 0), .v (.bool false), .v (.int .i64 (ableF p))]) ∧ h' = h) := by
 have hA := fun h => g_ableFault p hp h
 have hV := fun h => g_versF [v] none (by simp) (fun x hx => by rw [List.mem_singleton.1 hx]; exact hvo) h
 have hall : versF [v] = 0 → ∀ f ∈ v.forms, FmIn f := fun h0 f hf => form_in (formsF_all (versF_forms h0 v (by simp)) f hf)
 obtain ⟨no, since, fs⟩ := v
 have hfl : fs.length ≤ 10 := hvo.len
 have hB := fun hin h => g_best p hp no since fs (by omega) hin h
 simp only [List.map_cons, List.map_nil, encVn] at hV ⊢
 simp only at hall
 obtain ⟨aF, haF⟩ : ∃ x, ableF p = x := ⟨_, rfl⟩
 obtain ⟨vF, hvF⟩ : ∃ x, versF [⟨no, since, fs⟩] = x := ⟨_, rfl⟩
 obtain ⟨bF, hbF⟩ : ∃ x, bestF p fs = x := ⟨_, rfl⟩
 have hbd := bestL_bd p fs fs.length
 rw [show bestL p fs fs.length = bF from hbF] at hbd
 rw [haF] at hA ⊢
 rw [hvF] at hV hall ⊢
 rw [hbF] at hB ⊢
 clear haF hvF hbF
 obtain ⟨cs, wide, high, rate, bytes⟩ := p
 simp only [encAb] at hA hB ⊢
 refine gE Tryz.func19 rfl (by kernel_rfl) 26 rfl fun c => ?_
 (repeat (first | refine gO rfl ?_ | (refine gR fun K1 hK1 => ?_; simp only [go_sem, ↓reduceIte, reduceCtorEq, nA, nB, nC, nD, nE, nF] <;> and_intros <;> first | (apply hK1; clear hK1 K1) | (intros; first | omega | decide) | skip)))
 refine (hA _).mono ?_; rintro _ hz ⟨rfl, hh⟩; apply hK1; clear hK1 K1; rw [hh]; clear hh hz
 by_cases ha : aF = 0
 case neg =>
  have hne : (aF != 0) = true := by simpa using ha
  (repeat (first | refine gO rfl ?_ | (refine gR fun K1 hK1 => ?_; simp only [go_sem, ↓reduceIte, reduceCtorEq, nA, nB, nC, nD, nE, nF] <;> and_intros <;> first | (apply hK1; clear hK1 K1) | (intros; first | omega | decide) | skip)))
  refine awp_cond (t := _) rfl (fun _ => ?_) (fun h9 => by rw [hne] at h9; cases h9)
  (repeat (first | refine gO rfl ?_ | (refine gR fun K1 hK1 => ?_; simp only [go_sem, ↓reduceIte, reduceCtorEq, nA, nB, nC, nD, nE, nF] <;> and_intros <;> first | (apply hK1; clear hK1 K1) | (intros; first | omega | decide) | skip)))
  simp only [Tryz.results19, go_sem, ↓reduceIte, reduceCtorEq, nA, nB, nC, nD, nE, nF]
  exact ⟨_, _, Weak.refl _, Hp.le.refl _, by rw [if_neg ha], rfl⟩
 subst ha
 (repeat (first | refine gO rfl ?_ | (refine gR fun K1 hK1 => ?_; simp only [go_sem, ↓reduceIte, reduceCtorEq, nA, nB, nC, nD, nE, nF] <;> and_intros <;> first | (apply hK1; clear hK1 K1) | (intros; first | omega | decide) | skip)))
 refine awp_cond (t := _) rfl (fun h9 => by cases h9) (fun _ => ?_)
 (repeat (first | refine gO rfl ?_ | (refine gR fun K1 hK1 => ?_; simp only [go_sem, ↓reduceIte, reduceCtorEq, nA, nB, nC, nD, nE, nF] <;> and_intros <;> first | (apply hK1; clear hK1 K1) | (intros; first | omega | decide) | skip)))
 refine (hV _).mono ?_; rintro _ hz ⟨rfl, hh⟩; apply hK1; clear hK1 K1; rw [hh]; clear hh hz
 by_cases ha : vF = 0
 case neg =>
  have hne : (vF != 0) = true := by simpa using ha
  (repeat (first | refine gO rfl ?_ | (refine gR fun K1 hK1 => ?_; simp only [go_sem, ↓reduceIte, reduceCtorEq, nA, nB, nC, nD, nE, nF] <;> and_intros <;> first | (apply hK1; clear hK1 K1) | (intros; first | omega | decide) | skip)))
  refine awp_cond (t := _) rfl (fun _ => ?_) (fun h9 => by rw [hne] at h9; cases h9)
  (repeat (first | refine gO rfl ?_ | (refine gR fun K1 hK1 => ?_; simp only [go_sem, ↓reduceIte, reduceCtorEq, nA, nB, nC, nD, nE, nF] <;> and_intros <;> first | (apply hK1; clear hK1 K1) | (intros; first | omega | decide) | skip)))
  simp only [Tryz.results19, go_sem, ↓reduceIte, reduceCtorEq, nA, nB, nC, nD, nE, nF]
  exact ⟨_, _, Weak.refl _, Hp.le.refl _, by simp [ha], rfl⟩
 subst ha
 (repeat (first | refine gO rfl ?_ | (refine gR fun K1 hK1 => ?_; simp only [go_sem, ↓reduceIte, reduceCtorEq, nA, nB, nC, nD, nE, nF] <;> and_intros <;> first | (apply hK1; clear hK1 K1) | (intros; first | omega | decide) | skip)))
 refine awp_cond (t := _) rfl (fun h9 => by cases h9) (fun _ => ?_)
 (repeat (first | refine gO rfl ?_ | (refine gR fun K1 hK1 => ?_; simp only [go_sem, ↓reduceIte, reduceCtorEq, nA, nB, nC, nD, nE, nF] <;> and_intros <;> first | (apply hK1; clear hK1 K1) | (intros; first | omega | decide) | skip)))
 refine (hB (hall rfl) _).mono ?_; rintro _ hz ⟨rfl, hh⟩; apply hK1; clear hK1 K1; rw [hh]; clear hh hz
 (repeat (first | refine gO rfl ?_ | (refine gR fun K1 hK1 => ?_; simp only [go_sem, ↓reduceIte, reduceCtorEq, nA, nB, nC, nD, nE, nF] <;> and_intros <;> first | (apply hK1; clear hK1 K1) | (intros; first | omega | decide) | skip)))
 simp only [Tryz.results19, go_sem, ↓reduceIte, reduceCtorEq, nA, nB, nC, nD, nE, nF]
 exact ⟨_, _, Weak.refl _, Hp.le.refl _, by simp, rfl⟩
theorem g_versionOf (a : As) (at0 : Int) (hl : a.vs.length ≤ 1000) (h : Hp) :
  ACalls Tryz.prog 37 [.agg (encAs a), .v (.int .i64 at0)] h (fun r h' => r = .tup [.agg (encVn ((verAt a.vs at0).getD default)), .v (.bool (verAt a.vs at0).isSome)] ∧ h' = h) := by
 obtain ⟨key, vs⟩ := a
 simp only at hl ⊢
 have hml : (vs.map encVn).length = vs.length := List.length_map _
 simp only [encAs]
 refine gE Tryz.func37 rfl (by kernel_rfl) 27 rfl fun c => ?_
 (repeat (first | refine gO rfl ?_ | (refine gM zM30 fun K1 hK1 => ?_; simp only [go_sem, ↓reduceIte, reduceCtorEq, nA, nB, nC, nD, nE, nF, hml] <;> and_intros <;> first | (apply hK1; clear hK1 K1) | (intros; first | omega | decide) | skip)))
 refine awp_loopC (rl false [1, 2, 1, 3, 22]) 1 (fun g s => ∃ i : Int, (g : Int) = i + 1 ∧ i < vs.length ∧ (∀ j (hj : j < vs.length), i < j → at0 < vs[j].since) ∧
  s = ⟨(AV.junk :: ((.v (.int .i64 at0)) :: (.ref [.v (.string key), .row 3 (vs.map encVn) none] 0) :: AV.junk :: ((.loc 0 0) :: (.v (.bool false)) :: (.v (.int .i64 i)) :: (jnk 22 [])))), [[.v (.int .i64 0), .v (.int .i64 0), .v (.slice none 0 0)]], h⟩) vs.length ⟨(vs.length : Int) - 1, by omega, by omega, fun j hj hji => by omega, rfl⟩ ?_
 rintro g _ ⟨i, hg, hil, hno, rfl⟩
 (repeat (first | refine gO rfl ?_ | (refine gM zM30 fun K1 hK1 => ?_; simp only [go_sem, ↓reduceIte, reduceCtorEq, nA, nB, nC, nD, nE, nF] <;> and_intros <;> first | (apply hK1; clear hK1 K1) | (intros; first | omega | decide) | skip)))
 refine awp_cond (t := _) rfl (fun h5 => ?_) (fun h5 => ?_)
 ·simp only [decide_eq_true_eq] at h5
  obtain ⟨j, rfl⟩ : ∃ j : Nat, i = j := ⟨i.toNat, by omega⟩
  have hjl : j < vs.length := by omega
  have gx : (vs.map encVn).getD j [] = encVn vs[j] := by rw [List.getD_eq_getElem?_getD, List.getElem?_map, List.getElem?_eq_getElem hjl]; rfl
  have hsome : vs[j].since ≤ at0 → verAt vs at0 = some vs[j] := fun hle => verAt_some hjl hle fun i2 hi2 hji => hno i2 hi2 (by omega)
  have hnext : ¬ vs[j].since ≤ at0 → ∀ j2 (hj : j2 < vs.length), (j : Int) - 1 < j2 → at0 < vs[j2].since := fun hn j2 hj2 hlt => by
   by_cases e : j2 = j
   ·subst e; omega
   ·exact hno j2 hj2 (by omega)
  generalize vs[j] = v at *
  obtain ⟨no, since, fs⟩ := v
  have gx2 : (vs.map encVn).getD j [] = [.v (.int .i64 no), .v (.int .i64 since), .row 7 (fs.map encFm) none] := gx
  clear gx
  simp only at hsome hnext
  (repeat (first | refine gO rfl ?_ | (refine gM zM30 fun K1 hK1 => ?_; simp only [go_sem, ↓reduceIte, reduceCtorEq, nA, nB, nC, nD, nE, nF, hml, Int.toNat_natCast, gx2] <;> and_intros <;> first | (apply hK1; clear hK1 K1) | (intros; first | omega | decide) | skip)))
  refine awp_cond (t := _) rfl (fun h6 => ?_) (fun h6 => ?_)
  ·simp only [decide_eq_true_eq] at h6
   (repeat (first | refine gO rfl ?_ | (refine gM zM30 fun K1 hK1 => ?_; simp only [go_sem, ↓reduceIte, reduceCtorEq, nA, nB, nC, nD, nE, nF, hml, Int.toNat_natCast, gx2] <;> and_intros <;> first | (apply hK1; clear hK1 K1) | (intros; first | omega | decide) | skip)))
   simp only [Tryz.results37, go_sem, ↓reduceIte, reduceCtorEq, nA, nB, nC, nD, nE, nF]
   exact ⟨_, _, Weak.refl _, Hp.le.refl _, by rw [hsome h6]; rfl, rfl⟩
  ·simp only [decide_eq_false_iff_not] at h6
   (repeat (first | refine gO rfl ?_ | (refine gM zM30 fun K1 hK1 => ?_; simp only [go_sem, ↓reduceIte, reduceCtorEq, nA, nB, nC, nD, nE, nF] <;> and_intros <;> first | (apply hK1; clear hK1 K1) | (intros; first | omega | decide) | skip)))
   exact ⟨g - 1, by omega, (j : Int) - 1, by omega, by omega, hnext h6, rfl⟩
 ·simp only [decide_eq_false_iff_not] at h5
  have hn : verAt vs at0 = none := verAt_none fun j hj => hno j hj (by omega)
  rw [hn]
  (repeat (first | refine gO rfl ?_ | (refine gM zM30 fun K1 hK1 => ?_; simp only [go_sem, ↓reduceIte, reduceCtorEq, nA, nB, nC, nD, nE, nF] <;> and_intros <;> first | (apply hK1; clear hK1 K1) | (intros; first | omega | decide) | skip)))
  simp only [Tryz.results37, go_sem, ↓reduceIte, reduceCtorEq, nA, nB, nC, nD, nE, nF]
  exact ⟨_, _, Weak.tup1 (Weak.agg (WL.cons (Weak.refl _) (WL.cons (Weak.refl _) (WL.cons (Weak.nil 7 0 0 ⟨rfl, rfl⟩) WL.nil)))) (Weak.refl _), Hp.le.refl _, rfl, rfl⟩
theorem Weak.tupA {a a' : AV} {xs : List AV} (ha : Weak a a') : Weak (.tup (a :: xs)) (.tup (a' :: xs)) := fun G v hr => by
 cases hr with
 | tup _ vs u hl hu hr =>
  refine .tup _ vs u (by simpa using hl) (fun j hj => hu j (by simpa using hj)) (fun j hj => ?_)
  rcases j with _ | j
  ·exact ha G _ (hr 0 (by simp))
  ·exact hr (j + 1) (by simpa using hj)
theorem forms_len {a : As} (h : AsOk a) (at0 : Int) : (formsAt a at0).length ≤ 10 := by
 unfold formsAt
 cases hv : verAt a.vs at0 with
 | none => simp
 | some v =>
  unfold verAt at hv
  exact (h.vs v (List.mem_reverse.1 (List.mem_of_find?_eq_some hv))).len
theorem best_some {p : Ab} {a : As} {at0 : Int} (h : 0 ≤ bestF p (formsAt a at0)) : (verAt a.vs at0).isSome = true := by
 unfold formsAt at h
 cases hv : verAt a.vs at0 with
 | none =>
  rw [hv] at h
  have h2 : bestF p [] = -1 := rfl
  simp only [h2] at h
  omega
 | some v => rfl
theorem le_tail {h : Hp} {kt : Nat} {x : Option TO} (hk : h.T kt = none) : Hp.le h ⟨h.H, upd h.T kt x⟩ :=
 ⟨fun _ => .inr rfl, fun t => by
  by_cases e : t = kt
  ·subst e; exact .inl hk
  ·exact .inr (upd_other _ _ e).symm⟩
theorem forms_getD (a : As) (at0 : Int) : ((verAt a.vs at0).getD default).forms = formsAt a at0 := by
 unfold formsAt
 cases verAt a.vs at0 <;> rfl
theorem g_stock (p : Ab) (hp : AbOk p) (l : List As) (at0 : Int) (hl : l.length ≤ 500) (hok : ∀ a ∈ l, AsOk a) (h : Hp) :
  ACalls Tryz.prog 69 [.agg (encAb p), .row 2 (l.map encAs) none, .v (.int .i64 at0)] h (fun r h' => r = (if ableF p = 0 then (if assF l = 0 then (if momF at0 = 0 then .tup [.row 1 ((lackL p at0 l).map encS) none, .v (.int .i64 (roomL p at0 l)), .v (.int .i64 0)] else .tup [.v (.slice none 0 0), .v (.int .i64 0), .v (.int .i64 (momF at0))]) else .tup [.v (.slice none 0 0), .v (.int .i64 0), .v (.int .i64 (assF l))]) else .tup [.v (.slice none 0 0), .v (.int .i64 0), .v (.int .i64 (ableF p))]) ∧ h' = h) := by
 have hml : (l.map encAs).length = l.length := List.length_map _
 have hB := fun no since fs hl hin h => g_best p hp no since fs hl hin h
 have hA := fun h => g_ableFault p hp h
 have hC := fun h => g_checkAssets l none hl hok h
 have hM := fun h => g_momentFault at0 h
 obtain ⟨aF, haF⟩ : ∃ x, ableF p = x := ⟨_, rfl⟩
 rw [haF] at hA ⊢
 clear haF
 have hpe : ∃ a b c d e, encAb p = [a, b, c, d, e] ∧ (cutLoc 0 a = a ∧ cutLoc 0 b = b ∧ cutLoc 0 c = c ∧ cutLoc 0 d = d ∧ cutLoc 0 e = e) := ⟨_, _, _, _, _, rfl, rfl, rfl, rfl, rfl, rfl⟩
 obtain ⟨pa, pb, pc, pd, pe, hpe, hcut⟩ := hpe
 rw [hpe] at hA hB ⊢
 clear hpe
 refine gE Tryz.func69 rfl (by kernel_rfl) 64 rfl fun c => ?_
 (repeat (first | refine gO rfl ?_ | (refine gM zM31 fun K1 hK1 => ?_; simp only [go_sem, ↓reduceIte, reduceCtorEq, nA, nB, nC, nD, nE, nF] <;> and_intros <;> first | (apply hK1; clear hK1 K1) | (intros; first | omega | decide) | skip)))
 refine (hA _).mono ?_; rintro _ hz ⟨rfl, hh⟩; apply hK1; clear hK1 K1; rw [hh]; clear hh hz
 by_cases ha : aF = 0
 case neg =>
  have hne : (aF != 0) = true := by simpa using ha
  (repeat (first | refine gO rfl ?_ | (refine gM zM31 fun K1 hK1 => ?_; simp only [go_sem, ↓reduceIte, reduceCtorEq, nA, nB, nC, nD, nE, nF] <;> and_intros <;> first | (apply hK1; clear hK1 K1) | (intros; first | omega | decide) | skip)))
  refine awp_cond (t := _) rfl (fun _ => ?_) (fun h9 => by rw [hne] at h9; cases h9)
  (repeat (first | refine gO rfl ?_ | (refine gM zM31 fun K1 hK1 => ?_; simp only [go_sem, ↓reduceIte, reduceCtorEq, nA, nB, nC, nD, nE, nF] <;> and_intros <;> first | (apply hK1; clear hK1 K1) | (intros; first | omega | decide) | skip)))
  simp only [Tryz.results69, go_sem, ↓reduceIte, reduceCtorEq, nA, nB, nC, nD, nE, nF]
  exact ⟨_, _, Weak.refl _, Hp.le.refl _, by simp [ha], rfl⟩
 subst ha
 (repeat (first | refine gO rfl ?_ | (refine gM zM31 fun K1 hK1 => ?_; simp only [go_sem, ↓reduceIte, reduceCtorEq, nA, nB, nC, nD, nE, nF] <;> and_intros <;> first | (apply hK1; clear hK1 K1) | (intros; first | omega | decide) | skip)))
 refine awp_cond (t := _) rfl (fun h9 => by cases h9) (fun _ => ?_)
 (repeat (first | refine gO rfl ?_ | (refine gM zM31 fun K1 hK1 => ?_; simp only [go_sem, ↓reduceIte, reduceCtorEq, nA, nB, nC, nD, nE, nF] <;> and_intros <;> first | (apply hK1; clear hK1 K1) | (intros; first | omega | decide) | skip)))
 refine (hC _).mono ?_; rintro _ hz ⟨rfl, hh⟩; apply hK1; clear hK1 K1; rw [hh]; clear hh hz
 by_cases h0 : assF l = 0
 case neg =>
  have hne : (assF l != 0) = true := by simpa using h0
  (repeat (first | refine gO rfl ?_ | (refine gM zM31 fun K1 hK1 => ?_; simp only [go_sem, ↓reduceIte, reduceCtorEq, nA, nB, nC, nD, nE, nF] <;> and_intros <;> first | (apply hK1; clear hK1 K1) | (intros; first | omega | decide) | skip)))
  refine awp_cond (t := _) rfl (fun _ => ?_) (fun h9 => by rw [hne] at h9; cases h9)
  (repeat (first | refine gO rfl ?_ | (refine gM zM31 fun K1 hK1 => ?_; simp only [go_sem, ↓reduceIte, reduceCtorEq, nA, nB, nC, nD, nE, nF] <;> and_intros <;> first | (apply hK1; clear hK1 K1) | (intros; first | omega | decide) | skip)))
  simp only [Tryz.results69, go_sem, ↓reduceIte, reduceCtorEq, nA, nB, nC, nD, nE, nF]
  exact ⟨_, _, Weak.refl _, Hp.le.refl _, by simp [h0], rfl⟩
 rw [h0]
 (repeat (first | refine gO rfl ?_ | (refine gM zM31 fun K1 hK1 => ?_; simp only [go_sem, ↓reduceIte, reduceCtorEq, nA, nB, nC, nD, nE, nF] <;> and_intros <;> first | (apply hK1; clear hK1 K1) | (intros; first | omega | decide) | skip)))
 refine awp_cond (t := _) rfl (fun h9 => by cases h9) (fun _ => ?_)
 (repeat (first | refine gO rfl ?_ | (refine gM zM31 fun K1 hK1 => ?_; simp only [go_sem, ↓reduceIte, reduceCtorEq, nA, nB, nC, nD, nE, nF] <;> and_intros <;> first | (apply hK1; clear hK1 K1) | (intros; first | omega | decide) | skip)))
 refine (hM _).mono ?_; rintro _ hz ⟨rfl, hh⟩; apply hK1; clear hK1 K1; rw [hh]; clear hh hz
 by_cases hm0 : momF at0 = 0
 case neg =>
  have hne : (momF at0 != 0) = true := by simpa using hm0
  (repeat (first | refine gO rfl ?_ | (refine gM zM31 fun K1 hK1 => ?_; simp only [go_sem, ↓reduceIte, reduceCtorEq, nA, nB, nC, nD, nE, nF] <;> and_intros <;> first | (apply hK1; clear hK1 K1) | (intros; first | omega | decide) | skip)))
  refine awp_cond (t := _) rfl (fun _ => ?_) (fun h9 => by rw [hne] at h9; cases h9)
  (repeat (first | refine gO rfl ?_ | (refine gM zM31 fun K1 hK1 => ?_; simp only [go_sem, ↓reduceIte, reduceCtorEq, nA, nB, nC, nD, nE, nF] <;> and_intros <;> first | (apply hK1; clear hK1 K1) | (intros; first | omega | decide) | skip)))
  simp only [Tryz.results69, go_sem, ↓reduceIte, reduceCtorEq, nA, nB, nC, nD, nE, nF]
  exact ⟨_, _, Weak.refl _, Hp.le.refl _, by simp [hm0], rfl⟩
 rw [hm0]
 (repeat (first | refine gO rfl ?_ | (refine gM zM31 fun K1 hK1 => ?_; simp only [go_sem, ↓reduceIte, reduceCtorEq, nA, nB, nC, nD, nE, nF] <;> and_intros <;> first | (apply hK1; clear hK1 K1) | (intros; first | omega | decide) | skip)))
 refine awp_cond (t := _) rfl (fun h9 => by cases h9) (fun _ => ?_)
 have hfo := assF_forms h0
 (repeat (first | refine gQ rfl ?_ | (refine gM zM31 fun K1 hK1 => ?_; simp only [go_sem, ↓reduceIte, reduceCtorEq, nA, nB, nC, nD, nE, nF] <;> and_intros <;> first | (apply hK1; clear hK1 K1) | (intros; first | omega | decide | (simp_all <;> omega)) | skip)))
 refine awp_own 12 1 rfl ⟨rfl, rfl⟩ (fun kt hkt => ?_)
 replace hkt : h.T kt = none := hkt
 (repeat (first | refine gO rfl ?_ | (refine gM zM31 fun K1 hK1 => ?_; simp only [go_sem, ↓reduceIte, reduceCtorEq, nA, nB, nC, nD, nE, nF, hml] <;> and_intros <;> first | (apply hK1; clear hK1 K1) | (intros; first | omega | decide) | skip)))
 refine awp_loopC (rl false [2, 2, 8, 2, 20, 3, 30]) 0 (fun g s => ∃ (j : Nat) (o : List (List AV)) (sm : Int), g + j = l.length ∧ o = (lackL p at0 (l.take j)).map encS ∧ sm = roomL p at0 (l.take j) ∧ 0 ≤ sm ∧ sm ≤ j * 1000000000000 ∧ o.length ≤ j ∧
  s = ⟨(AV.junk :: AV.junk :: ((.v (.int .i64 at0)) :: (.ref [pa, pb, pc, pd, pe] 0) :: (jnk 8 ((.row 1 o (some kt)) :: (.v (.int .i64 sm)) :: (jnk 20 ((.row 2 (l.map encAs) none) :: (.v (.int .i64 l.length)) :: (.v (.int .i64 j)) :: (jnk 30 []))))))), [], ⟨h.H, upd h.T kt (some (.tail o.length))⟩⟩) l.length ⟨0, [], 0, by omega, rfl, rfl, by omega, by omega, by simp, rfl⟩ ?_
 rintro g _ ⟨j, o, sm, hj, ho, hsm, hs0, hs1, hoj, rfl⟩
 (repeat (first | refine gO rfl ?_ | (refine gM zM31 fun K1 hK1 => ?_; simp only [go_sem, ↓reduceIte, reduceCtorEq, nA, nB, nC, nD, nE, nF] <;> and_intros <;> first | (apply hK1; clear hK1 K1) | (intros; first | omega | decide) | skip)))
 refine awp_cond (t := _) rfl (fun h5 => ?_) (fun h5 => ?_)
 ·simp only [decide_eq_true_eq] at h5
  have hjl : j < l.length := by omega
  have gx : (l.map encAs).getD j [] = encAs l[j] := by rw [List.getD_eq_getElem?_getD, List.getElem?_map, List.getElem?_eq_getElem hjl]; rfl
  have hao := hok _ (List.getElem_mem hjl)
  have hff := hfo _ (List.getElem_mem hjl)
  have htk : l.take (j + 1) = l.take j ++ [l[j]] := by rw [List.take_add_one, List.getElem?_eq_getElem hjl]; rfl
  have hl1 : lackL p at0 (l.take (j + 1)) = _ := (congrArg (lackL p at0) htk).trans (lack_snoc p at0 _ _)
  have hr1 : roomL p at0 (l.take (j + 1)) = _ := (congrArg (roomL p at0) htk).trans (room_snoc p at0 _ _)
  rw [← hsm] at hr1
  have hV := fun h => g_versionAt l[j] at0 (by have := hao.len; omega) h
  have hfa := forms_at (at0 := at0) hff
  have hgd := forms_getD l[j] at0
  have hfl := forms_len hao at0
  have hbs : 0 ≤ bestF p (formsAt l[j] at0) → (verAt l[j].vs at0).isSome = true := best_some
  generalize l[j] = a at *
  obtain ⟨key, vs⟩ := a
  have gx2 : (l.map encAs).getD j [] = [.v (.string key), .row 3 (vs.map encVn) none] := gx
  clear gx hao hff htk
  simp only [encAs] at hV
  generalize formsAt ⟨key, vs⟩ at0 = fs at *
  generalize hvd : (verAt vs at0).getD default = vv at *
  generalize (verAt vs at0).isSome = bb at *
  obtain ⟨vno, vsi, vfs⟩ := vv
  obtain rfl : vfs = fs := hgd
  clear hvd
  simp only [encVn] at hV
  have hvl : vfs.length ≤ 1000 := by omega
  have hBv := fun h => hB vno vsi vfs hvl (fun f hf => form_in (hfa f hf)) h
  have hbd := bestL_bd p vfs vfs.length
  rw [show bestL p vfs vfs.length = bestF p vfs from rfl] at hbd
  have gb : 0 ≤ bestF p vfs → (vfs.map encFm).getD (bestF p vfs).toNat [] = encFm (vfs.getD (bestF p vfs).toNat default) := fun hb => getD_enc encFm vfs (bestF p vfs).toNat default (by omega)
  have hby : 0 ≤ bestF p vfs → 1 ≤ (vfs.getD (bestF p vfs).toNat default).bytes ∧ (vfs.getD (bestF p vfs).toNat default).bytes ≤ 1000000000000 := fun hb => form_bytes (hfa _ (by rw [List.getD_eq_getElem?_getD, List.getElem?_eq_getElem (by omega)]; exact List.getElem_mem _))
  generalize bestF p vfs = b at *
  generalize vfs.getD b.toNat default = bf at *
  have hm2 : (vfs.map encFm).length = vfs.length := List.length_map _
  have hol : upd h.T kt (some (TO.tail o.length)) kt = some (.tail o.length) := upd_same _ _ _
  (repeat (first | refine gO rfl ?_ | (refine gM zM31 fun K1 hK1 => ?_; simp only [go_sem, ↓reduceIte, reduceCtorEq, nA, nB, nC, nD, nE, nF, hml, Int.toNat_natCast, gx2] <;> and_intros <;> first | (apply hK1; clear hK1 K1) | (intros; first | omega | decide) | skip)))
  refine (hV _).mono ?_; rintro _ hz ⟨rfl, hh⟩; apply hK1; clear hK1 K1; rw [hh]; clear hh hz
  (repeat (first | refine gO rfl ?_ | (refine gM zM31 fun K1 hK1 => ?_; simp only [go_sem, ↓reduceIte, reduceCtorEq, nA, nB, nC, nD, nE, nF] <;> and_intros <;> first | (apply hK1; clear hK1 K1) | (intros; first | omega | decide) | skip)))
  refine (hBv _).mono ?_; rintro _ hz ⟨rfl, hh⟩; apply hK1; clear hK1 K1; rw [hh]; clear hh hz
  (repeat (first | refine gO rfl ?_ | (refine gM zM31 fun K1 hK1 => ?_; simp only [go_sem, ↓reduceIte, reduceCtorEq, nA, nB, nC, nD, nE, nF] <;> and_intros <;> first | (apply hK1; clear hK1 K1) | (intros; first | omega | decide) | skip)))
  obtain ⟨b1, b2, b3, b4, b5, b6, b7⟩ := bf
  simp only [encFm] at gb
  simp only at hby hr1
  refine awp_cond (t := _) rfl (fun h6 => ?_) (fun h6 => ?_)
  ·simp only [decide_eq_true_eq] at h6
   rw [if_pos h6] at hl1 hr1
   (repeat (first | refine gO rfl ?_ | (refine gM zM31 fun K1 hK1 => ?_; simp only [go_sem, ↓reduceIte, reduceCtorEq, nA, nB, nC, nD, nE, nF, hol] <;> and_intros <;> first | (apply hK1; clear hK1 K1) | (intros; first | omega | decide) | skip)))
   exact ⟨g - 1, by omega, j + 1, o ++ [[.v (.string key)]], sm, by omega, by rw [hl1, ho, List.map_append]; rfl, by rw [hr1]; omega, by omega, by omega, by rw [List.length_append, List.length_singleton]; omega, by rw [List.length_append, List.length_singleton]; rfl⟩
  ·simp only [decide_eq_false_iff_not] at h6
   rw [if_neg h6] at hl1 hr1
   have gb2 := gb (by omega)
   have hby2 := hby (by omega)
   (repeat (first | refine gO rfl ?_ | (refine gM zM31 fun K1 hK1 => ?_; simp only [go_sem, ↓reduceIte, reduceCtorEq, nA, nB, nC, nD, nE, nF, gb2, hm2] <;> and_intros <;> first | (apply hK1; clear hK1 K1) | (intros; first | omega | decide) | skip)))
   exact ⟨g - 1, by omega, j + 1, o, sm + b7, by omega, by rw [hl1, ho]; simp, by rw [hr1], by omega, by omega, by omega, rfl⟩
 ·simp only [decide_eq_false_iff_not] at h5
  have hjl : j = l.length := by omega
  subst hjl
  rw [List.take_length] at ho hsm
  (repeat (first | refine gO rfl ?_ | (refine gM zM31 fun K1 hK1 => ?_; simp only [go_sem, ↓reduceIte, reduceCtorEq, nA, nB, nC, nD, nE, nF] <;> and_intros <;> first | (apply hK1; clear hK1 K1) | (intros; first | omega | decide) | skip)))
  simp only [Tryz.results69, go_sem, ↓reduceIte, reduceCtorEq, nA, nB, nC, nD, nE, nF]
  exact ⟨_, _, Weak.tupA (Weak.row _ _ _), le_tail hkt, by rw [ho, hsm], rfl⟩
theorem g_lackingOf (p : Ab) (hp : AbOk p) (l : List As) (at0 : Int) (hl : l.length ≤ 500) (hok : ∀ a ∈ l, AsOk a) (h0 : assF l = 0) (h : Hp) :
  ACalls Tryz.prog 26 [.agg (encAb p), .row 2 (l.map encAs) none, .v (.int .i64 at0)] h (fun r h' => r = .tup [.row 1 ((lackL p at0 l).map encS) none, .v (.int .i64 (roomL p at0 l))] ∧ h' = h) := by
 have hml : (l.map encAs).length = l.length := List.length_map _
 have hB := fun no since fs hl hin h => g_bestForm p hp no since fs hl hin h
 have hpe : ∃ a b c d e, encAb p = [a, b, c, d, e] ∧ (cutLoc 0 a = a ∧ cutLoc 0 b = b ∧ cutLoc 0 c = c ∧ cutLoc 0 d = d ∧ cutLoc 0 e = e) := ⟨_, _, _, _, _, rfl, rfl, rfl, rfl, rfl, rfl⟩
 obtain ⟨pa, pb, pc, pd, pe, hpe, hcut⟩ := hpe
 rw [hpe] at  hB ⊢
 clear hpe
 refine gE Tryz.func26 rfl (by kernel_rfl) 48 rfl fun c => ?_
 have hfo := assF_forms h0
 (repeat (first | refine gQ rfl ?_ | (refine gM zM32 fun K1 hK1 => ?_; simp only [go_sem, ↓reduceIte, reduceCtorEq, nA, nB, nC, nD, nE, nF] <;> and_intros <;> first | (apply hK1; clear hK1 K1) | (intros; first | omega | decide | (simp_all <;> omega)) | skip)))
 refine awp_own 8 1 rfl ⟨rfl, rfl⟩ (fun kt hkt => ?_)
 replace hkt : h.T kt = none := hkt
 (repeat (first | refine gO rfl ?_ | (refine gM zM32 fun K1 hK1 => ?_; simp only [go_sem, ↓reduceIte, reduceCtorEq, nA, nB, nC, nD, nE, nF, hml] <;> and_intros <;> first | (apply hK1; clear hK1 K1) | (intros; first | omega | decide) | skip)))
 refine awp_loopC (rl false [2, 2, 4, 2, 5, 3, 33]) 0 (fun g s => ∃ (j : Nat) (o : List (List AV)) (sm : Int), g + j = l.length ∧ o = (lackL p at0 (l.take j)).map encS ∧ sm = roomL p at0 (l.take j) ∧ 0 ≤ sm ∧ sm ≤ j * 1000000000000 ∧ o.length ≤ j ∧
  s = ⟨(AV.junk :: AV.junk :: ((.v (.int .i64 at0)) :: (.ref [pa, pb, pc, pd, pe] 0) :: (jnk 4 ((.row 1 o (some kt)) :: (.v (.int .i64 sm)) :: (jnk 5 ((.row 2 (l.map encAs) none) :: (.v (.int .i64 l.length)) :: (.v (.int .i64 j)) :: (jnk 33 []))))))), [], ⟨h.H, upd h.T kt (some (.tail o.length))⟩⟩) l.length ⟨0, [], 0, by omega, rfl, rfl, by omega, by omega, by simp, rfl⟩ ?_
 rintro g _ ⟨j, o, sm, hj, ho, hsm, hs0, hs1, hoj, rfl⟩
 (repeat (first | refine gO rfl ?_ | (refine gM zM32 fun K1 hK1 => ?_; simp only [go_sem, ↓reduceIte, reduceCtorEq, nA, nB, nC, nD, nE, nF] <;> and_intros <;> first | (apply hK1; clear hK1 K1) | (intros; first | omega | decide) | skip)))
 refine awp_cond (t := _) rfl (fun h5 => ?_) (fun h5 => ?_)
 ·simp only [decide_eq_true_eq] at h5
  have hjl : j < l.length := by omega
  have gx : (l.map encAs).getD j [] = encAs l[j] := by rw [List.getD_eq_getElem?_getD, List.getElem?_map, List.getElem?_eq_getElem hjl]; rfl
  have hao := hok _ (List.getElem_mem hjl)
  have hff := hfo _ (List.getElem_mem hjl)
  have htk : l.take (j + 1) = l.take j ++ [l[j]] := by rw [List.take_add_one, List.getElem?_eq_getElem hjl]; rfl
  have hl1 : lackL p at0 (l.take (j + 1)) = _ := (congrArg (lackL p at0) htk).trans (lack_snoc p at0 _ _)
  have hr1 : roomL p at0 (l.take (j + 1)) = _ := (congrArg (roomL p at0) htk).trans (room_snoc p at0 _ _)
  rw [← hsm] at hr1
  have hV := fun h => g_versionOf l[j] at0 (by have := hao.len; omega) h
  have hfa := forms_at (at0 := at0) hff
  have hgd := forms_getD l[j] at0
  have hfl := forms_len hao at0
  have hbs : 0 ≤ bestF p (formsAt l[j] at0) → (verAt l[j].vs at0).isSome = true := best_some
  generalize l[j] = a at *
  obtain ⟨key, vs⟩ := a
  have gx2 : (l.map encAs).getD j [] = [.v (.string key), .row 3 (vs.map encVn) none] := gx
  clear gx hao hff htk
  simp only [encAs] at hV
  generalize formsAt ⟨key, vs⟩ at0 = fs at *
  generalize hvd : (verAt vs at0).getD default = vv at *
  generalize (verAt vs at0).isSome = bb at *
  obtain ⟨vno, vsi, vfs⟩ := vv
  obtain rfl : vfs = fs := hgd
  clear hvd
  simp only [encVn] at hV
  have hvl : vfs.length ≤ 1000 := by omega
  have hBv := fun h => hB vno vsi vfs hvl (fun f hf => form_in (hfa f hf)) h
  have hbd := bestL_bd p vfs vfs.length
  rw [show bestL p vfs vfs.length = bestF p vfs from rfl] at hbd
  have gb : 0 ≤ bestF p vfs → (vfs.map encFm).getD (bestF p vfs).toNat [] = encFm (vfs.getD (bestF p vfs).toNat default) := fun hb => getD_enc encFm vfs (bestF p vfs).toNat default (by omega)
  have hby : 0 ≤ bestF p vfs → 1 ≤ (vfs.getD (bestF p vfs).toNat default).bytes ∧ (vfs.getD (bestF p vfs).toNat default).bytes ≤ 1000000000000 := fun hb => form_bytes (hfa _ (by rw [List.getD_eq_getElem?_getD, List.getElem?_eq_getElem (by omega)]; exact List.getElem_mem _))
  generalize bestF p vfs = b at *
  generalize vfs.getD b.toNat default = bf at *
  have hm2 : (vfs.map encFm).length = vfs.length := List.length_map _
  have hol : upd h.T kt (some (TO.tail o.length)) kt = some (.tail o.length) := upd_same _ _ _
  (repeat (first | refine gO rfl ?_ | (refine gM zM32 fun K1 hK1 => ?_; simp only [go_sem, ↓reduceIte, reduceCtorEq, nA, nB, nC, nD, nE, nF, hml, Int.toNat_natCast, gx2] <;> and_intros <;> first | (apply hK1; clear hK1 K1) | (intros; first | omega | decide) | skip)))
  refine (hV _).mono ?_; rintro _ hz ⟨rfl, hh⟩; apply hK1; clear hK1 K1; rw [hh]; clear hh hz
  (repeat (first | refine gO rfl ?_ | (refine gM zM32 fun K1 hK1 => ?_; simp only [go_sem, ↓reduceIte, reduceCtorEq, nA, nB, nC, nD, nE, nF] <;> and_intros <;> first | (apply hK1; clear hK1 K1) | (intros; first | omega | decide) | skip)))
  refine (hBv _).mono ?_; rintro _ hz ⟨rfl, hh⟩; apply hK1; clear hK1 K1; rw [hh]; clear hh hz
  obtain ⟨b1, b2, b3, b4, b5, b6, b7⟩ := bf
  simp only [encFm] at gb
  simp only at hby hr1
  by_cases h6 : b < 0
  ·have d6 : decide (0 ≤ b) = false := decide_eq_false (by omega)
   rw [if_pos h6] at hl1 hr1
   cases bb
   ·(repeat (first | refine gO rfl ?_ | (refine gM zM32 fun K1 hK1 => ?_; simp only [go_sem, ↓reduceIte, reduceCtorEq, nA, nB, nC, nD, nE, nF] <;> and_intros <;> first | (apply hK1; clear hK1 K1) | (intros; first | omega | decide) | skip)))
    refine awp_cond (t := _) rfl (fun h9 => by cases h9) (fun _ => ?_)
    (repeat (first | refine gO rfl ?_ | (refine gM zM32 fun K1 hK1 => ?_; simp only [go_sem, ↓reduceIte, reduceCtorEq, nA, nB, nC, nD, nE, nF, hol] <;> and_intros <;> first | (apply hK1; clear hK1 K1) | (intros; first | omega | decide) | skip)))
    exact ⟨g - 1, by omega, j + 1, o ++ [[.v (.string key)]], sm, by omega, by rw [hl1, ho, List.map_append]; rfl, by rw [hr1]; omega, by omega, by omega, by rw [List.length_append, List.length_singleton]; omega, by rw [List.length_append, List.length_singleton]; rfl⟩
   ·(repeat (first | refine gO rfl ?_ | (refine gM zM32 fun K1 hK1 => ?_; simp only [go_sem, ↓reduceIte, reduceCtorEq, nA, nB, nC, nD, nE, nF, d6] <;> and_intros <;> first | (apply hK1; clear hK1 K1) | (intros; first | omega | decide) | skip)))
    refine awp_cond (t := _) rfl (fun h9 => by cases h9) (fun _ => ?_)
    (repeat (first | refine gO rfl ?_ | (refine gM zM32 fun K1 hK1 => ?_; simp only [go_sem, ↓reduceIte, reduceCtorEq, nA, nB, nC, nD, nE, nF, hol] <;> and_intros <;> first | (apply hK1; clear hK1 K1) | (intros; first | omega | decide) | skip)))
    exact ⟨g - 1, by omega, j + 1, o ++ [[.v (.string key)]], sm, by omega, by rw [hl1, ho, List.map_append]; rfl, by rw [hr1]; omega, by omega, by omega, by rw [List.length_append, List.length_singleton]; omega, by rw [List.length_append, List.length_singleton]; rfl⟩
  ·have d6 : decide (0 ≤ b) = true := decide_eq_true (by omega)
   rw [if_neg h6] at hl1 hr1
   have gb2 := gb (by omega)
   have hby2 := hby (by omega)
   obtain rfl : bb = true := hbs (by omega)
   (repeat (first | refine gO rfl ?_ | (refine gM zM32 fun K1 hK1 => ?_; simp only [go_sem, ↓reduceIte, reduceCtorEq, nA, nB, nC, nD, nE, nF, d6] <;> and_intros <;> first | (apply hK1; clear hK1 K1) | (intros; first | omega | decide) | skip)))
   refine awp_cond (t := _) rfl (fun _ => ?_) (fun h9 => by cases h9)
   (repeat (first | refine gO rfl ?_ | (refine gM zM32 fun K1 hK1 => ?_; simp only [go_sem, ↓reduceIte, reduceCtorEq, nA, nB, nC, nD, nE, nF, gb2, hm2] <;> and_intros <;> first | (apply hK1; clear hK1 K1) | (intros; first | omega | decide) | skip)))
   exact ⟨g - 1, by omega, j + 1, o, sm + b7, by omega, by rw [hl1, ho]; simp, by rw [hr1], by omega, by omega, by omega, rfl⟩
 ·simp only [decide_eq_false_iff_not] at h5
  have hjl : j = l.length := by omega
  subst hjl
  rw [List.take_length] at ho hsm
  (repeat (first | refine gO rfl ?_ | (refine gM zM32 fun K1 hK1 => ?_; simp only [go_sem, ↓reduceIte, reduceCtorEq, nA, nB, nC, nD, nE, nF] <;> and_intros <;> first | (apply hK1; clear hK1 K1) | (intros; first | omega | decide) | skip)))
  simp only [Tryz.results26, go_sem, ↓reduceIte, reduceCtorEq, nA, nB, nC, nD, nE, nF]
  exact ⟨_, _, Weak.tupA (Weak.row _ _ _), le_tail hkt, by rw [ho, hsm], rfl⟩
def orI : List Int → Int
 | [] => 0
 | x :: l => if x = 0 then orI l else x
theorem orI_at (l : List Int) (j : Nat) (h : j < l.length) (h0 : ∀ i, i < j → l.getD i 0 = 0) (hn : l.getD j 0 ≠ 0) : orI l = l.getD j 0 := by
 induction l generalizing j with
 | nil => simp at h
 | cons x l ih =>
  cases j with
  | zero => rw [orI, if_neg (by simpa using hn)]; rfl
  | succ j =>
   have hx := h0 0 (by omega)
   simp only [List.getD_cons_zero] at hx
   rw [orI, if_pos hx, List.getD_cons_succ]
   exact ih j (by simpa using h) (fun i hi => by simpa using h0 (i + 1) (by omega)) (by simpa using hn)
theorem orI_zero (l : List Int) (h : ∀ i, i < l.length → l.getD i 0 = 0) : orI l = 0 := by
 induction l with
 | nil => rfl
 | cons x l ih =>
  have hx := h 0 (by simp)
  simp only [List.getD_cons_zero] at hx
  rw [orI, if_pos hx]
  exact ih fun i hi => by simpa using h (i + 1) (by simpa using hi)
theorem g_orG (l : List Int) (h : Hp) (hl : l.length ≤ 1000) : ACalls Tryz.prog 16 [.row 1 (l.map encI) none] h (fun r h' => r = .v (.int .i64 (orI l)) ∧ h' = h) := by
 refine gE Tryz.func16 rfl (by kernel_rfl) 17 rfl fun c => ?_
 (repeat (first | refine gO rfl ?_ | (refine gR fun K1 hK1 => ?_; simp only [go_sem, ↓reduceIte, reduceCtorEq, nA, nB, nC, nD, nE, nF] <;> and_intros <;> first | (apply hK1; clear hK1 K1) | (intros; first | omega | decide | (simp_all <;> omega)) | skip)))
 refine awp_loopC (rl false [3, 1, 2, 3, 9]) 0 (fun g s => ∃ j : Nat, g + j = l.length ∧ (∀ i, i < j → l.getD i 0 = 0) ∧
  s = ⟨((jnk 3 ((.v (.int .i64 0)) :: AV.junk :: AV.junk :: ((.row 1 (l.map encI) none) :: (.v (.int .i64 l.length)) :: (.v (.int .i64 j)) :: (jnk 9 []))))), [], h⟩) l.length ⟨0, by omega, by omega, rfl⟩ ?_
 rintro g _ ⟨j, hj, h0, rfl⟩
 (repeat (first | refine gO rfl ?_ | (refine gR fun K1 hK1 => ?_; simp only [go_sem, ↓reduceIte, reduceCtorEq, nA, nB, nC, nD, nE, nF] <;> and_intros <;> first | (apply hK1; clear hK1 K1) | (intros; first | omega | decide | (simp_all <;> omega)) | skip)))
 refine awp_cond (t := _) rfl (fun h3 => ?_) (fun h3 => ?_)
 ·simp only [decide_eq_true_eq] at h3
  have hjl : j < l.length := by omega
  have hgx : (l.map encI).getD j [] = [.v (.int .i64 (l.getD j 0))] := getD_enc encI l j 0 hjl
  have hat := orI_at l j hjl h0
  obtain ⟨x, hx⟩ : ∃ x, x = l.getD j 0 := ⟨_, rfl⟩
  rw [← hx] at hgx hat
  (repeat (first | refine gO rfl ?_ | (refine gR fun K1 hK1 => ?_; simp only [go_sem, ↓reduceIte, reduceCtorEq, nA, nB, nC, nD, nE, nF, Int.toNat_natCast, hgx] <;> and_intros <;> first | (apply hK1; clear hK1 K1) | (intros; first | omega | decide | (simp_all <;> omega)) | skip)))
  refine awp_cond (t := _) rfl (fun h4 => ?_) (fun h4 => ?_)
  ·have h4' : x ≠ 0 := by simpa using h4
   (repeat (first | refine gO rfl ?_ | (refine gR fun K1 hK1 => ?_; simp only [go_sem, ↓reduceIte, reduceCtorEq, nA, nB, nC, nD, nE, nF] <;> and_intros <;> first | (apply hK1; clear hK1 K1) | (intros; first | omega | decide | (simp_all <;> omega)) | skip)))
   simp only [Tryz.results16, go_sem, ↓reduceIte, reduceCtorEq, nA, nB, nC, nD, nE, nF]
   exact ⟨_, _, Weak.refl _, Hp.le.refl _, by rw [hat h4'], rfl⟩
  ·have h4' : x = 0 := by simpa using h4
   (repeat (first | refine gO rfl ?_ | (refine gR fun K1 hK1 => ?_; simp only [go_sem, ↓reduceIte, reduceCtorEq, nA, nB, nC, nD, nE, nF] <;> and_intros <;> first | (apply hK1; clear hK1 K1) | (intros; first | omega | decide | (simp_all <;> omega)) | skip)))
   exact ⟨g - 1, by omega, j + 1, by omega, fun i hi => by
    by_cases e : i = j
    ·rw [e, ← hx]; exact h4'
    ·exact h0 i (by omega), rfl⟩
 ·simp only [decide_eq_false_iff_not] at h3
  have hjl : j = l.length := by omega
  subst hjl
  (repeat (first | refine gO rfl ?_ | (refine gR fun K1 hK1 => ?_; simp only [go_sem, ↓reduceIte, reduceCtorEq, nA, nB, nC, nD, nE, nF] <;> and_intros <;> first | (apply hK1; clear hK1 K1) | (intros; first | omega | decide | (simp_all <;> omega)) | skip)))
  simp only [Tryz.results16, go_sem, ↓reduceIte, reduceCtorEq, nA, nB, nC, nD, nE, nF]
  exact ⟨_, _, Weak.refl _, Hp.le.refl _, by rw [orI_zero l h0], rfl⟩
abbrev zPGE : List Nat := [0, 2, 3, 4, 5]
abbrev zPGP : List (Nat × List Nat × List Nat) := [(1, [4], [7]), (6, [], []), (8, [], [9]), (10, [], [])]
abbrev zPHE : List Nat := [0, 1, 3, 4, 5, 6]
abbrev zPHP : List (Nat × List Nat × List Nat) := [(2, [5], [8]), (7, [], []), (9, [], [10]), (11, [], [])]
attribute [go_sem] zPGE zPGP zPHE zPHP
def lkF (p : Ab) (l : List As) (at0 : Int) : Int := if ableF p = 0 then (if assF l = 0 then momF at0 else assF l) else ableF p
theorem g_Lacking (p : Ab) (hp : AbOk p) (l : List As) (at0 : Int) (hl : l.length ≤ 500) (hok : ∀ a ∈ l, AsOk a) (h : Hp) :
  ACalls Tryz.prog 22 [.agg (encAb p), .row 2 (l.map encAs) none, .v (.int .i64 at0)] h (fun r h' => r = (if lkF p l at0 = 0 then .tup [.row 1 ((lackL p at0 l).map encS) none, .v (.int .i64 0)] else .tup [.v (.slice none 0 0), .v (.int .i64 (lkF p l at0))]) ∧ h' = h) := by
 have hS := g_stock p hp l at0 hl hok
 have hpe : ∃ a b c d e, encAb p = [a, b, c, d, e] := ⟨_, _, _, _, _, rfl⟩
 obtain ⟨pa, pb, pc, pd, pe, hpe⟩ := hpe
 rw [hpe] at hS ⊢
 unfold lkF
 refine gE Tryz.func22 rfl (by kernel_rfl) 18 rfl fun c => ?_
 (repeat (first | refine gO rfl ?_ | (refine gR fun K1 hK1 => ?_; simp only [go_sem, ↓reduceIte, reduceCtorEq, nA, nB, nC, nD, nE, nF] <;> and_intros <;> first | (apply hK1; clear hK1 K1) | (intros; first | omega | decide) | skip)))
 refine (hS _).mono ?_
 rintro _ h9 ⟨rfl, hh⟩
 apply hK1
 rw [hh]
 clear hK1 K1 hh hS hpe
 by_cases h1 : ableF p = 0
 ·rw [if_pos h1, if_pos h1]
  by_cases h2 : assF l = 0
  ·rw [if_pos h2, if_pos h2]
   by_cases h3 : momF at0 = 0
   ·rw [if_pos h3, if_pos h3]
    (repeat (first | refine gO rfl ?_ | (refine gR fun K1 hK1 => ?_; simp only [go_sem, ↓reduceIte, reduceCtorEq, nA, nB, nC, nD, nE, nF] <;> and_intros <;> first | (apply hK1; clear hK1 K1) | (intros; first | omega | decide) | skip)))
    simp only [Tryz.results22, go_sem, ↓reduceIte, reduceCtorEq, nA, nB, nC, nD, nE, nF]
    exact ⟨_, _, Weak.refl _, Hp.le.refl _, rfl, rfl⟩
   ·rw [if_neg h3, if_neg h3]
    (repeat (first | refine gO rfl ?_ | (refine gR fun K1 hK1 => ?_; simp only [go_sem, ↓reduceIte, reduceCtorEq, nA, nB, nC, nD, nE, nF] <;> and_intros <;> first | (apply hK1; clear hK1 K1) | (intros; first | omega | decide) | skip)))
    simp only [Tryz.results22, go_sem, ↓reduceIte, reduceCtorEq, nA, nB, nC, nD, nE, nF]
    exact ⟨_, _, Weak.refl _, Hp.le.refl _, rfl, rfl⟩
  ·rw [if_neg h2, if_neg h2, if_neg h2]
   (repeat (first | refine gO rfl ?_ | (refine gR fun K1 hK1 => ?_; simp only [go_sem, ↓reduceIte, reduceCtorEq, nA, nB, nC, nD, nE, nF] <;> and_intros <;> first | (apply hK1; clear hK1 K1) | (intros; first | omega | decide) | skip)))
   simp only [Tryz.results22, go_sem, ↓reduceIte, reduceCtorEq, nA, nB, nC, nD, nE, nF]
   exact ⟨_, _, Weak.refl _, Hp.le.refl _, rfl, rfl⟩
 ·rw [if_neg h1, if_neg h1, if_neg h1]
  (repeat (first | refine gO rfl ?_ | (refine gR fun K1 hK1 => ?_; simp only [go_sem, ↓reduceIte, reduceCtorEq, nA, nB, nC, nD, nE, nF] <;> and_intros <;> first | (apply hK1; clear hK1 K1) | (intros; first | omega | decide) | skip)))
  simp only [Tryz.results22, go_sem, ↓reduceIte, reduceCtorEq, nA, nB, nC, nD, nE, nF]
  exact ⟨_, _, Weak.refl _, Hp.le.refl _, rfl, rfl⟩
theorem g_Room (p : Ab) (hp : AbOk p) (l : List As) (at0 : Int) (hl : l.length ≤ 500) (hok : ∀ a ∈ l, AsOk a) (h : Hp) :
  ACalls Tryz.prog 23 [.agg (encAb p), .row 2 (l.map encAs) none, .v (.int .i64 at0)] h (fun r h' => r = .tup [.v (.int .i64 (if lkF p l at0 = 0 then roomL p at0 l else 0)), .v (.int .i64 (lkF p l at0))] ∧ h' = h) := by
 have hS := g_stock p hp l at0 hl hok
 have hpe : ∃ a b c d e, encAb p = [a, b, c, d, e] := ⟨_, _, _, _, _, rfl⟩
 obtain ⟨pa, pb, pc, pd, pe, hpe⟩ := hpe
 rw [hpe] at hS ⊢
 unfold lkF
 refine gE Tryz.func23 rfl (by kernel_rfl) 18 rfl fun c => ?_
 (repeat (first | refine gO rfl ?_ | (refine gR fun K1 hK1 => ?_; simp only [go_sem, ↓reduceIte, reduceCtorEq, nA, nB, nC, nD, nE, nF] <;> and_intros <;> first | (apply hK1; clear hK1 K1) | (intros; first | omega | decide) | skip)))
 refine (hS _).mono ?_
 rintro _ h9 ⟨rfl, hh⟩
 apply hK1
 rw [hh]
 clear hK1 K1 hh hS hpe
 by_cases h1 : ableF p = 0
 ·rw [if_pos h1, if_pos h1]
  by_cases h2 : assF l = 0
  ·rw [if_pos h2, if_pos h2]
   by_cases h3 : momF at0 = 0
   ·rw [if_pos h3, if_pos h3]
    (repeat (first | refine gO rfl ?_ | (refine gR fun K1 hK1 => ?_; simp only [go_sem, ↓reduceIte, reduceCtorEq, nA, nB, nC, nD, nE, nF] <;> and_intros <;> first | (apply hK1; clear hK1 K1) | (intros; first | omega | decide) | skip)))
    simp only [Tryz.results23, go_sem, ↓reduceIte, reduceCtorEq, nA, nB, nC, nD, nE, nF]
    exact ⟨_, _, Weak.refl _, Hp.le.refl _, by rw [h3], rfl⟩
   ·rw [if_neg h3, if_neg h3]
    (repeat (first | refine gO rfl ?_ | (refine gR fun K1 hK1 => ?_; simp only [go_sem, ↓reduceIte, reduceCtorEq, nA, nB, nC, nD, nE, nF] <;> and_intros <;> first | (apply hK1; clear hK1 K1) | (intros; first | omega | decide) | skip)))
    simp only [Tryz.results23, go_sem, ↓reduceIte, reduceCtorEq, nA, nB, nC, nD, nE, nF]
    exact ⟨_, _, Weak.refl _, Hp.le.refl _, rfl, rfl⟩
  ·rw [if_neg h2, if_neg h2, if_neg h2]
   (repeat (first | refine gO rfl ?_ | (refine gR fun K1 hK1 => ?_; simp only [go_sem, ↓reduceIte, reduceCtorEq, nA, nB, nC, nD, nE, nF] <;> and_intros <;> first | (apply hK1; clear hK1 K1) | (intros; first | omega | decide) | skip)))
   simp only [Tryz.results23, go_sem, ↓reduceIte, reduceCtorEq, nA, nB, nC, nD, nE, nF]
   exact ⟨_, _, Weak.refl _, Hp.le.refl _, rfl, rfl⟩
 ·rw [if_neg h1, if_neg h1, if_neg h1]
  (repeat (first | refine gO rfl ?_ | (refine gR fun K1 hK1 => ?_; simp only [go_sem, ↓reduceIte, reduceCtorEq, nA, nB, nC, nD, nE, nF] <;> and_intros <;> first | (apply hK1; clear hK1 K1) | (intros; first | omega | decide) | skip)))
  simp only [Tryz.results23, go_sem, ↓reduceIte, reduceCtorEq, nA, nB, nC, nD, nE, nF]
  exact ⟨_, _, Weak.refl _, Hp.le.refl _, rfl, rfl⟩
theorem g_rightForm (i : Nat) (l : List Int) (a : Int) (h : Hp) (hl : SOk l) (ha : 0 ≤ a ∧ a ≤ 100000) :
  ACalls Tryz.prog 13 [.ptr i 0] (h.st i l a) (fun r h' => ∃ (f : Fm) (a' : Int), FmOk f ∧ (a ≤ a' ∧ a' ≤ a + 10) ∧ r = .agg (encFm f) ∧ h' = h.st i l a') := by
 refine gE Tryz.func13 rfl (by kernel_rfl) 41 rfl fun c => ?_
 (repeat (first | refine gO rfl ?_ | (refine gM zM33 fun K1 hK1 => ?_; simp only [go_sem, ↓reduceIte, reduceCtorEq, nA, nB, nC, nD, nE, nF] <;> and_intros <;> first | (apply hK1; clear hK1 K1) | (intros; first | omega | decide) | skip)))
 refine (g_pick i l a [1, 1, 2, 2, 3, 4] none h hl (by omega) (by simp)).mono ?_; rintro _ _ ⟨kind, hkind, rfl, rfl⟩; apply hK1; clear hK1 K1
 (repeat (first | refine gO rfl ?_ | (refine gM zM33 fun K1 hK1 => ?_; simp only [go_sem, ↓reduceIte, reduceCtorEq, nA, nB, nC, nD, nE, nF] <;> and_intros <;> first | (apply hK1; clear hK1 K1) | (intros; first | omega | decide) | skip)))
 refine (g_some i l (a + 1) [⟨#[112, 110, 103]⟩, ⟨#[97, 118, 99]⟩, ⟨#[97, 118, 99]⟩, ⟨#[116, 120, 116]⟩] none _ hl (by omega) (by simp)).mono ?_; rintro _ _ ⟨codec, hcodec, rfl, rfl⟩; apply hK1; clear hK1 K1
 (repeat (first | refine gO rfl ?_ | (refine gM zM33 fun K1 hK1 => ?_; simp only [go_sem, ↓reduceIte, reduceCtorEq, nA, nB, nC, nD, nE, nF] <;> and_intros <;> first | (apply hK1; clear hK1 K1) | (intros; first | omega | decide) | skip)))
 refine (g_pick i l (a + 1 + 1) [1, 10, 100, 1000] none _ hl (by omega) (by simp)).mono ?_; rintro _ _ ⟨bytes, hbytes, rfl, rfl⟩; apply hK1; clear hK1 K1
 have hcs : codec.size ≤ 4 := by
  simp only [List.mem_cons, List.not_mem_nil, or_false] at hcodec
  rcases hcodec with rfl | rfl | rfl | rfl <;> decide
 have hkb : 1 ≤ kind ∧ kind ≤ 4 := by simp at hkind; omega
 have hbb : 1 ≤ bytes ∧ bytes ≤ 1000 := by simp at hbytes; omega
 clear hcodec hkind hbytes
 (repeat (first | refine gQ rfl ?_ | (refine gM zM33 fun K1 hK1 => ?_; simp only [go_sem, ↓reduceIte, reduceCtorEq, nA, nB, nC, nD, nE, nF] <;> and_intros <;> first | (apply hK1; clear hK1 K1) | (intros; first | omega | decide | (simp_all <;> omega)) | skip)))
 refine awp_seqJ (rl false [0, 1, 1, 2, 38]) 2 (fun s => ∃ w hh a' : Int, (0 ≤ w ∧ w ≤ 2000) ∧ (0 ≤ hh ∧ hh ≤ 2000) ∧ (a + 3 ≤ a' ∧ a' ≤ a + 5) ∧
  s = ⟨((.ptr i 0) :: AV.junk :: ((.loc 0 0) :: (.loc 1 0) :: (jnk 38 []))), [[.v (.int .i64 0), .v (.string ⟨#[]⟩), .v (.int .i64 0), .v (.int .i64 0), .v (.int .i64 0), .v (.int .i64 0), .v (.int .i64 0)], [.v (.int .i64 kind), .v (.string codec), .v (.int .i64 w), .v (.int .i64 hh), .v (.int .i64 0), .v (.int .i64 0), .v (.int .i64 bytes)]], h.st i l a'⟩) ?_ ?_
 ·(repeat (first | refine gO rfl ?_ | (refine gM zM33 fun K1 hK1 => ?_; simp only [go_sem, ↓reduceIte, reduceCtorEq, nA, nB, nC, nD, nE, nF] <;> and_intros <;> first | (apply hK1; clear hK1 K1) | (intros; first | omega | decide) | skip)))
  refine awp_cond (t := _) rfl (fun _ => ?_) (fun _ => ?_)
  ·(repeat (first | refine gO rfl ?_ | (refine gM zM33 fun K1 hK1 => ?_; simp only [go_sem, ↓reduceIte, reduceCtorEq, nA, nB, nC, nD, nE, nF] <;> and_intros <;> first | (apply hK1; clear hK1 K1) | (intros; first | omega | decide) | skip)))
   refine (g_pick i l (a + 1 + 1 + 1) [1, 100, 640, 1920] none h hl (by omega) (by simp)).mono ?_; rintro _ _ ⟨w, hw, rfl, rfl⟩; apply hK1; clear hK1 K1
   (repeat (first | refine gO rfl ?_ | (refine gM zM33 fun K1 hK1 => ?_; simp only [go_sem, ↓reduceIte, reduceCtorEq, nA, nB, nC, nD, nE, nF] <;> and_intros <;> first | (apply hK1; clear hK1 K1) | (intros; first | omega | decide) | skip)))
   refine (g_pick i l (a + 1 + 1 + 1 + 1) [1, 100, 480, 1080] none _ hl (by omega) (by simp)).mono ?_; rintro _ _ ⟨hh, hhh, rfl, rfl⟩; apply hK1; clear hK1 K1
   have hw2 : 1 ≤ w ∧ w ≤ 1920 := by simp at hw; omega
   have hh2 : 1 ≤ hh ∧ hh ≤ 1080 := by simp at hhh; omega
   (repeat (first | refine gO rfl ?_ | (refine gM zM33 fun K1 hK1 => ?_; simp only [go_sem, ↓reduceIte, reduceCtorEq, nA, nB, nC, nD, nE, nF] <;> and_intros <;> first | (apply hK1; clear hK1 K1) | (intros; first | omega | decide) | skip)))
   exact ⟨w, hh, _, by omega, by omega, by omega, rfl⟩
  ·(repeat (first | refine gO rfl ?_ | (refine gM zM33 fun K1 hK1 => ?_; simp only [go_sem, ↓reduceIte, reduceCtorEq, nA, nB, nC, nD, nE, nF] <;> and_intros <;> first | (apply hK1; clear hK1 K1) | (intros; first | omega | decide) | skip)))
   exact ⟨0, 0, _, by omega, by omega, by omega, rfl⟩
 rintro _ ⟨w, hh, a2, hw, hhh, ha2, rfl⟩
 (repeat (first | refine gQ rfl ?_ | (refine gM zM33 fun K1 hK1 => ?_; simp only [go_sem, ↓reduceIte, reduceCtorEq, nA, nB, nC, nD, nE, nF] <;> and_intros <;> first | (apply hK1; clear hK1 K1) | (intros; first | omega | decide | (simp_all <;> omega)) | skip)))
 refine awp_seqJ (rl false [0, 1, 1, 2, 38]) 2 (fun s => ∃ lo ra a' : Int, (0 ≤ lo ∧ lo ≤ 5000) ∧ (0 ≤ ra ∧ ra ≤ 500) ∧ (a + 3 ≤ a' ∧ a' ≤ a + 7) ∧
  s = ⟨((.ptr i 0) :: AV.junk :: ((.loc 0 0) :: (.loc 1 0) :: (jnk 38 []))), [[.v (.int .i64 0), .v (.string ⟨#[]⟩), .v (.int .i64 0), .v (.int .i64 0), .v (.int .i64 0), .v (.int .i64 0), .v (.int .i64 0)], [.v (.int .i64 kind), .v (.string codec), .v (.int .i64 w), .v (.int .i64 hh), .v (.int .i64 lo), .v (.int .i64 ra), .v (.int .i64 bytes)]], h.st i l a'⟩) ?_ ?_
 ·obtain ⟨k2, e2⟩ : ∃ b, (kind == 2) = b := ⟨_, rfl⟩
  obtain ⟨k3, e3⟩ : ∃ b, (kind == 3) = b := ⟨_, rfl⟩
  (repeat (first | refine gO rfl ?_ | (refine gM zM33 fun K1 hK1 => ?_; simp only [go_sem, ↓reduceIte, reduceCtorEq, nA, nB, nC, nD, nE, nF, e2, e3] <;> and_intros <;> first | (apply hK1; clear hK1 K1) | (intros; first | omega | decide) | skip)))
  refine awp_cond (t := _) rfl (fun _ => ?_) (fun _ => ?_)
  ·(repeat (first | refine gO rfl ?_ | (refine gM zM33 fun K1 hK1 => ?_; simp only [go_sem, ↓reduceIte, reduceCtorEq, nA, nB, nC, nD, nE, nF] <;> and_intros <;> first | (apply hK1; clear hK1 K1) | (intros; first | omega | decide) | skip)))
   refine (g_pick i l a2 [1, 5000] none h hl (by omega) (by simp)).mono ?_; rintro _ _ ⟨lo, hlo, rfl, rfl⟩; apply hK1; clear hK1 K1
   (repeat (first | refine gO rfl ?_ | (refine gM zM33 fun K1 hK1 => ?_; simp only [go_sem, ↓reduceIte, reduceCtorEq, nA, nB, nC, nD, nE, nF] <;> and_intros <;> first | (apply hK1; clear hK1 K1) | (intros; first | omega | decide) | skip)))
   refine (g_pick i l (a2 + 1) [1, 64, 500] none _ hl (by omega) (by simp)).mono ?_; rintro _ _ ⟨ra, hra, rfl, rfl⟩; apply hK1; clear hK1 K1
   have h1 : 1 ≤ lo ∧ lo ≤ 5000 := by simp at hlo; omega
   have h2 : 1 ≤ ra ∧ ra ≤ 500 := by simp at hra; omega
   (repeat (first | refine gO rfl ?_ | (refine gM zM33 fun K1 hK1 => ?_; simp only [go_sem, ↓reduceIte, reduceCtorEq, nA, nB, nC, nD, nE, nF] <;> and_intros <;> first | (apply hK1; clear hK1 K1) | (intros; first | omega | decide) | skip)))
   exact ⟨lo, ra, _, by omega, by omega, by omega, rfl⟩
  ·(repeat (first | refine gO rfl ?_ | (refine gM zM33 fun K1 hK1 => ?_; simp only [go_sem, ↓reduceIte, reduceCtorEq, nA, nB, nC, nD, nE, nF] <;> and_intros <;> first | (apply hK1; clear hK1 K1) | (intros; first | omega | decide) | skip)))
   exact ⟨0, 0, _, by omega, by omega, by omega, rfl⟩
 rintro _ ⟨lo, ra, a3, hlo, hra, ha3, rfl⟩
 (repeat (first | refine gO rfl ?_ | (refine gM zM33 fun K1 hK1 => ?_; simp only [go_sem, ↓reduceIte, reduceCtorEq, nA, nB, nC, nD, nE, nF] <;> and_intros <;> first | (apply hK1; clear hK1 K1) | (intros; first | omega | decide) | skip)))
 simp only [Tryz.results13, go_sem, ↓reduceIte, reduceCtorEq, nA, nB, nC, nD, nE, nF]
 refine ⟨_, _, Weak.refl _, Hp.le.refl _, ⟨kind, codec, w, hh, lo, ra, bytes⟩, a3, ⟨?_, hcs, ?_, ?_, ?_, ?_, ?_⟩, by omega, rfl, rfl⟩
 all_goals
  unfold NBi
  simp only
  omega
theorem g_form (i : Nat) (l : List Int) (a : Int) (h : Hp) (hl : SOk l) (ha : 0 ≤ a ∧ a ≤ 100000) :
  ACalls Tryz.prog 9 [.ptr i 0] (h.st i l a) (fun r h' => ∃ (f : Fm) (a' : Int), FmOk f ∧ (a ≤ a' ∧ a' ≤ a + 20) ∧ r = .agg (encFm f) ∧ h' = h.st i l a') := by
 refine gE Tryz.func9 rfl (by kernel_rfl) 47 rfl fun c => ?_
 (repeat (first | refine gO rfl ?_ | ((first | refine gM zM33 ?_ | (with_reducible refine wM ?_ ?_) | ((with_reducible refine xR ?_); refine uE 6 zM33 zPGE zPGP 48 rfl (by kernel_rfl) ?_) | ((with_reducible refine xR ?_); refine uE 8 zM33 zPHE zPHP 48 rfl (by kernel_rfl) ?_)) <;> ((try with_reducible intro K1 hK1); simp only [go_sem, ↓reduceIte, reduceCtorEq, nA, nB, nC, nD, nE, nF] <;> and_intros <;> first | (apply hK1; clear hK1 K1) | (intros; first | omega | decide) | skip))))
 refine (g_rightForm i l a h hl ha).mono ?_
 rintro _ _ ⟨f, a1, hf, ha1, rfl, rfl⟩
 refine hK1 _ ?_; clear hK1 K1
 obtain ⟨kind, codec, w, hh, lo, ra, bytes⟩ := f
 obtain ⟨q1, q2, q3, q4, q5, q6, q7⟩ := hf
 unfold NBi at q1 q3 q4 q5 q6 q7
 simp only at q1 q2 q3 q4 q5 q6 q7
 simp only [encFm]
 (repeat (first | refine gO rfl ?_ | ((first | refine gM zM33 ?_ | (with_reducible refine wM ?_ ?_) | ((with_reducible refine xR ?_); refine uE 6 zM33 zPGE zPGP 48 rfl (by kernel_rfl) ?_) | ((with_reducible refine xR ?_); refine uE 8 zM33 zPHE zPHP 48 rfl (by kernel_rfl) ?_)) <;> ((try with_reducible intro K1 hK1); simp only [go_sem, ↓reduceIte, reduceCtorEq, nA, nB, nC, nD, nE, nF] <;> and_intros <;> first | (apply hK1; clear hK1 K1) | (intros; first | omega | decide) | skip))))
 refine (g_flip i l a1 12 h hl (by omega) (by omega)).mono ?_; rintro _ _ ⟨b, rfl, rfl⟩; apply hK1; clear hK1 K1
 cases b
 case false =>
  (repeat (first | refine gO rfl ?_ | ((first | refine gM zM33 ?_ | (with_reducible refine wM ?_ ?_) | ((with_reducible refine xR ?_); refine uE 6 zM33 zPGE zPGP 48 rfl (by kernel_rfl) ?_) | ((with_reducible refine xR ?_); refine uE 8 zM33 zPHE zPHP 48 rfl (by kernel_rfl) ?_)) <;> ((try with_reducible intro K1 hK1); simp only [go_sem, ↓reduceIte, reduceCtorEq, nA, nB, nC, nD, nE, nF] <;> and_intros <;> first | (apply hK1; clear hK1 K1) | (intros; first | omega | decide) | skip))))
  refine awp_cond (t := _) rfl (fun h9 => by cases h9) (fun _ => ?_)
  have hcs2 := q2
  (repeat (first | refine gO rfl ?_ | ((first | refine gM zM33 ?_ | (with_reducible refine wM ?_ ?_) | ((with_reducible refine xR ?_); refine uE 6 zM33 zPGE zPGP 48 rfl (by kernel_rfl) ?_) | ((with_reducible refine xR ?_); refine uE 8 zM33 zPHE zPHP 48 rfl (by kernel_rfl) ?_)) <;> ((try with_reducible intro K1 hK1); simp only [go_sem, ↓reduceIte, reduceCtorEq, nA, nB, nC, nD, nE, nF] <;> and_intros <;> first | (apply hK1; clear hK1 K1) | (intros; first | omega | decide) | skip))))
  simp only [Tryz.results9, go_sem, ↓reduceIte, reduceCtorEq, nA, nB, nC, nD, nE, nF]
  refine ⟨_, _, Weak.refl _, Hp.le.refl _, ⟨kind, codec, w, hh, lo, ra, bytes⟩, a1 + 1, ⟨?_, ?_, ?_, ?_, ?_, ?_, ?_⟩, by omega, rfl, rfl⟩
  all_goals
   first
   | exact hcs2
   | (unfold NBi; simp only; omega)
 (repeat (first | refine gO rfl ?_ | ((first | refine gM zM33 ?_ | (with_reducible refine wM ?_ ?_) | ((with_reducible refine xR ?_); refine uE 6 zM33 zPGE zPGP 48 rfl (by kernel_rfl) ?_) | ((with_reducible refine xR ?_); refine uE 8 zM33 zPHE zPHP 48 rfl (by kernel_rfl) ?_)) <;> ((try with_reducible intro K1 hK1); simp only [go_sem, ↓reduceIte, reduceCtorEq, nA, nB, nC, nD, nE, nF] <;> and_intros <;> first | (apply hK1; clear hK1 K1) | (intros; first | omega | decide) | skip))))
 refine awp_cond (t := _) rfl (fun _ => ?_) (fun h9 => by cases h9)
 (repeat (first | refine gO rfl ?_ | ((first | refine gM zM33 ?_ | (with_reducible refine wM ?_ ?_) | ((with_reducible refine xR ?_); refine uE 6 zM33 zPGE zPGP 48 rfl (by kernel_rfl) ?_) | ((with_reducible refine xR ?_); refine uE 8 zM33 zPHE zPHP 48 rfl (by kernel_rfl) ?_)) <;> ((try with_reducible intro K1 hK1); simp only [go_sem, ↓reduceIte, reduceCtorEq, nA, nB, nC, nD, nE, nF] <;> and_intros <;> first | (apply hK1; clear hK1 K1) | (intros; first | omega | decide) | skip))))
 refine (g_next i l (a1 + 1) 4 h hl (by omega) (by omega)).mono ?_; rintro _ _ ⟨x, hx, rfl, rfl⟩; apply hK1; clear hK1 K1
 have hx4 : x = 0 ∨ x = 1 ∨ x = 2 ∨ x = 3 := by omega
 rcases hx4 with rfl | rfl | rfl | rfl
 ·(repeat (first | refine gO rfl ?_ | ((first | refine gM zM33 ?_ | (with_reducible refine wM ?_ ?_) | ((with_reducible refine xR ?_); refine uE 6 zM33 zPGE zPGP 48 rfl (by kernel_rfl) ?_) | ((with_reducible refine xR ?_); refine uE 8 zM33 zPHE zPHP 48 rfl (by kernel_rfl) ?_)) <;> ((try with_reducible intro K1 hK1); simp only [go_sem, ↓reduceIte, reduceCtorEq, nA, nB, nC, nD, nE, nF] <;> and_intros <;> first | (apply hK1; clear hK1 K1) | (intros; first | omega | decide) | skip))))
  refine awp_cond (t := _) rfl (fun _ => ?_) (fun h9 => by cases h9)
  (repeat (first | refine gO rfl ?_ | ((first | refine gM zM33 ?_ | (with_reducible refine wM ?_ ?_) | ((with_reducible refine xR ?_); refine uE 6 zM33 zPGE zPGP 48 rfl (by kernel_rfl) ?_) | ((with_reducible refine xR ?_); refine uE 8 zM33 zPHE zPHP 48 rfl (by kernel_rfl) ?_)) <;> ((try with_reducible intro K1 hK1); simp only [go_sem, ↓reduceIte, reduceCtorEq, nA, nB, nC, nD, nE, nF] <;> and_intros <;> first | (apply hK1; clear hK1 K1) | (intros; first | omega | decide) | skip))))
  refine (g_odd i l (a1 + 1 + 1) 1 4 h hl (by omega) (by omega) (by omega) (by omega)).mono ?_; rintro _ _ ⟨k2, a2, hk2, ha2, rfl, rfl⟩; apply hK1; clear hK1 K1
  (repeat (first | refine gO rfl ?_ | ((first | refine gM zM33 ?_ | (with_reducible refine wM ?_ ?_) | ((with_reducible refine xR ?_); refine uE 6 zM33 zPGE zPGP 48 rfl (by kernel_rfl) ?_) | ((with_reducible refine xR ?_); refine uE 8 zM33 zPHE zPHP 48 rfl (by kernel_rfl) ?_)) <;> ((try with_reducible intro K1 hK1); simp only [go_sem, ↓reduceIte, reduceCtorEq, nA, nB, nC, nD, nE, nF] <;> and_intros <;> first | (apply hK1; clear hK1 K1) | (intros; first | omega | decide) | skip))))
  all_goals try with_reducible rfl
  (repeat (first | refine gO rfl ?_ | ((first | refine gM zM33 ?_ | (with_reducible refine wM ?_ ?_) | ((with_reducible refine xR ?_); refine uE 6 zM33 zPGE zPGP 48 rfl (by kernel_rfl) ?_) | ((with_reducible refine xR ?_); refine uE 8 zM33 zPHE zPHP 48 rfl (by kernel_rfl) ?_)) <;> ((try with_reducible intro K1 hK1); simp only [go_sem, ↓reduceIte, reduceCtorEq, nA, nB, nC, nD, nE, nF] <;> and_intros <;> first | (apply hK1; clear hK1 K1) | (intros; first | omega | decide) | skip))))
  refine (g_some i l a2 [codec, ⟨#[]⟩, ⟨#[65]⟩] none h hl (by omega) (by simp)).mono ?_; rintro _ _ ⟨c2, hc2, rfl, rfl⟩; apply hK1; clear hK1 K1
  have hcs2 : c2.size ≤ 4 := by
   simp only [List.mem_cons, List.not_mem_nil, or_false] at hc2
   rcases hc2 with rfl | rfl | rfl
   ·exact q2
   ·decide
   ·decide
  clear hc2
  (repeat (first | refine gO rfl ?_ | ((first | refine gM zM33 ?_ | (with_reducible refine wM ?_ ?_) | ((with_reducible refine xR ?_); refine uE 6 zM33 zPGE zPGP 48 rfl (by kernel_rfl) ?_) | ((with_reducible refine xR ?_); refine uE 8 zM33 zPHE zPHP 48 rfl (by kernel_rfl) ?_)) <;> ((try with_reducible intro K1 hK1); simp only [go_sem, ↓reduceIte, reduceCtorEq, nA, nB, nC, nD, nE, nF] <;> and_intros <;> first | (apply hK1; clear hK1 K1) | (intros; first | omega | decide) | skip))))
  all_goals try with_reducible rfl
  (repeat (first | refine gO rfl ?_ | ((first | refine gM zM33 ?_ | (with_reducible refine wM ?_ ?_) | ((with_reducible refine xR ?_); refine uE 6 zM33 zPGE zPGP 48 rfl (by kernel_rfl) ?_) | ((with_reducible refine xR ?_); refine uE 8 zM33 zPHE zPHP 48 rfl (by kernel_rfl) ?_)) <;> ((try with_reducible intro K1 hK1); simp only [go_sem, ↓reduceIte, reduceCtorEq, nA, nB, nC, nD, nE, nF] <;> and_intros <;> first | (apply hK1; clear hK1 K1) | (intros; first | omega | decide) | skip))))
  simp only [Tryz.results9, go_sem, ↓reduceIte, reduceCtorEq, nA, nB, nC, nD, nE, nF]
  refine ⟨_, _, Weak.refl _, Hp.le.refl _, ⟨k2, c2, w, hh, lo, ra, bytes⟩, a2 + 1, ⟨?_, ?_, ?_, ?_, ?_, ?_, ?_⟩, by omega, rfl, rfl⟩
  all_goals
   first
   | exact hcs2
   | (unfold NBi; simp only; omega)
 ·(repeat (first | refine gO rfl ?_ | ((first | refine gM zM33 ?_ | (with_reducible refine wM ?_ ?_) | ((with_reducible refine xR ?_); refine uE 6 zM33 zPGE zPGP 48 rfl (by kernel_rfl) ?_) | ((with_reducible refine xR ?_); refine uE 8 zM33 zPHE zPHP 48 rfl (by kernel_rfl) ?_)) <;> ((try with_reducible intro K1 hK1); simp only [go_sem, ↓reduceIte, reduceCtorEq, nA, nB, nC, nD, nE, nF] <;> and_intros <;> first | (apply hK1; clear hK1 K1) | (intros; first | omega | decide) | skip))))
  refine awp_cond (t := _) rfl (fun h9 => by cases h9) (fun _ => ?_)
  (repeat (first | refine gO rfl ?_ | ((first | refine gM zM33 ?_ | (with_reducible refine wM ?_ ?_) | ((with_reducible refine xR ?_); refine uE 6 zM33 zPGE zPGP 48 rfl (by kernel_rfl) ?_) | ((with_reducible refine xR ?_); refine uE 8 zM33 zPHE zPHP 48 rfl (by kernel_rfl) ?_)) <;> ((try with_reducible intro K1 hK1); simp only [go_sem, ↓reduceIte, reduceCtorEq, nA, nB, nC, nD, nE, nF] <;> and_intros <;> first | (apply hK1; clear hK1 K1) | (intros; first | omega | decide) | skip))))
  refine awp_cond (t := _) rfl (fun _ => ?_) (fun h9 => by cases h9)
  (repeat (first | refine gO rfl ?_ | ((first | refine gM zM33 ?_ | (with_reducible refine wM ?_ ?_) | ((with_reducible refine xR ?_); refine uE 6 zM33 zPGE zPGP 48 rfl (by kernel_rfl) ?_) | ((with_reducible refine xR ?_); refine uE 8 zM33 zPHE zPHP 48 rfl (by kernel_rfl) ?_)) <;> ((try with_reducible intro K1 hK1); simp only [go_sem, ↓reduceIte, reduceCtorEq, nA, nB, nC, nD, nE, nF] <;> and_intros <;> first | (apply hK1; clear hK1 K1) | (intros; first | omega | decide) | skip))))
  refine (g_pick i l (a1 + 1 + 1) [0, 1, 100000, 100001] none h hl (by omega) (by simp)).mono ?_; rintro _ _ ⟨w2, hw2, rfl, rfl⟩; apply hK1; clear hK1 K1
  (repeat (first | refine gO rfl ?_ | ((first | refine gM zM33 ?_ | (with_reducible refine wM ?_ ?_) | ((with_reducible refine xR ?_); refine uE 6 zM33 zPGE zPGP 48 rfl (by kernel_rfl) ?_) | ((with_reducible refine xR ?_); refine uE 8 zM33 zPHE zPHP 48 rfl (by kernel_rfl) ?_)) <;> ((try with_reducible intro K1 hK1); simp only [go_sem, ↓reduceIte, reduceCtorEq, nA, nB, nC, nD, nE, nF] <;> and_intros <;> first | (apply hK1; clear hK1 K1) | (intros; first | omega | decide) | skip))))
  all_goals try with_reducible rfl
  (repeat (first | refine gO rfl ?_ | ((first | refine gM zM33 ?_ | (with_reducible refine wM ?_ ?_) | ((with_reducible refine xR ?_); refine uE 6 zM33 zPGE zPGP 48 rfl (by kernel_rfl) ?_) | ((with_reducible refine xR ?_); refine uE 8 zM33 zPHE zPHP 48 rfl (by kernel_rfl) ?_)) <;> ((try with_reducible intro K1 hK1); simp only [go_sem, ↓reduceIte, reduceCtorEq, nA, nB, nC, nD, nE, nF] <;> and_intros <;> first | (apply hK1; clear hK1 K1) | (intros; first | omega | decide) | skip))))
  refine (g_pick i l (a1 + 1 + 1 + 1) [0, hh] none h hl (by omega) (by simp)).mono ?_; rintro _ _ ⟨h2, hh2, rfl, rfl⟩; apply hK1; clear hK1 K1
  have u1 : 0 ≤ w2 ∧ w2 ≤ 100001 := by simp at hw2; omega
  have u2 : -5000000000000000 ≤ h2 ∧ h2 ≤ 5000000000000000 := by simp at hh2; omega
  have hcs2 := q2
  clear hw2 hh2
  (repeat (first | refine gO rfl ?_ | ((first | refine gM zM33 ?_ | (with_reducible refine wM ?_ ?_) | ((with_reducible refine xR ?_); refine uE 6 zM33 zPGE zPGP 48 rfl (by kernel_rfl) ?_) | ((with_reducible refine xR ?_); refine uE 8 zM33 zPHE zPHP 48 rfl (by kernel_rfl) ?_)) <;> ((try with_reducible intro K1 hK1); simp only [go_sem, ↓reduceIte, reduceCtorEq, nA, nB, nC, nD, nE, nF] <;> and_intros <;> first | (apply hK1; clear hK1 K1) | (intros; first | omega | decide) | skip))))
  all_goals try with_reducible rfl
  (repeat (first | refine gO rfl ?_ | ((first | refine gM zM33 ?_ | (with_reducible refine wM ?_ ?_) | ((with_reducible refine xR ?_); refine uE 6 zM33 zPGE zPGP 48 rfl (by kernel_rfl) ?_) | ((with_reducible refine xR ?_); refine uE 8 zM33 zPHE zPHP 48 rfl (by kernel_rfl) ?_)) <;> ((try with_reducible intro K1 hK1); simp only [go_sem, ↓reduceIte, reduceCtorEq, nA, nB, nC, nD, nE, nF] <;> and_intros <;> first | (apply hK1; clear hK1 K1) | (intros; first | omega | decide) | skip))))
  simp only [Tryz.results9, go_sem, ↓reduceIte, reduceCtorEq, nA, nB, nC, nD, nE, nF]
  refine ⟨_, _, Weak.refl _, Hp.le.refl _, ⟨kind, codec, w2, h2, lo, ra, bytes⟩, a1 + 1 + 1 + 1 + 1, ⟨?_, ?_, ?_, ?_, ?_, ?_, ?_⟩, by omega, rfl, rfl⟩
  all_goals
   first
   | exact hcs2
   | (unfold NBi; simp only; omega)
 ·(repeat (first | refine gO rfl ?_ | ((first | refine gM zM33 ?_ | (with_reducible refine wM ?_ ?_) | ((with_reducible refine xR ?_); refine uE 6 zM33 zPGE zPGP 48 rfl (by kernel_rfl) ?_) | ((with_reducible refine xR ?_); refine uE 8 zM33 zPHE zPHP 48 rfl (by kernel_rfl) ?_)) <;> ((try with_reducible intro K1 hK1); simp only [go_sem, ↓reduceIte, reduceCtorEq, nA, nB, nC, nD, nE, nF] <;> and_intros <;> first | (apply hK1; clear hK1 K1) | (intros; first | omega | decide) | skip))))
  refine awp_cond (t := _) rfl (fun h9 => by cases h9) (fun _ => ?_)
  (repeat (first | refine gO rfl ?_ | ((first | refine gM zM33 ?_ | (with_reducible refine wM ?_ ?_) | ((with_reducible refine xR ?_); refine uE 6 zM33 zPGE zPGP 48 rfl (by kernel_rfl) ?_) | ((with_reducible refine xR ?_); refine uE 8 zM33 zPHE zPHP 48 rfl (by kernel_rfl) ?_)) <;> ((try with_reducible intro K1 hK1); simp only [go_sem, ↓reduceIte, reduceCtorEq, nA, nB, nC, nD, nE, nF] <;> and_intros <;> first | (apply hK1; clear hK1 K1) | (intros; first | omega | decide) | skip))))
  refine awp_cond (t := _) rfl (fun h9 => by cases h9) (fun _ => ?_)
  (repeat (first | refine gO rfl ?_ | ((first | refine gM zM33 ?_ | (with_reducible refine wM ?_ ?_) | ((with_reducible refine xR ?_); refine uE 6 zM33 zPGE zPGP 48 rfl (by kernel_rfl) ?_) | ((with_reducible refine xR ?_); refine uE 8 zM33 zPHE zPHP 48 rfl (by kernel_rfl) ?_)) <;> ((try with_reducible intro K1 hK1); simp only [go_sem, ↓reduceIte, reduceCtorEq, nA, nB, nC, nD, nE, nF] <;> and_intros <;> first | (apply hK1; clear hK1 K1) | (intros; first | omega | decide) | skip))))
  refine awp_cond (t := _) rfl (fun _ => ?_) (fun h9 => by cases h9)
  (repeat (first | refine gO rfl ?_ | ((first | refine gM zM33 ?_ | (with_reducible refine wM ?_ ?_) | ((with_reducible refine xR ?_); refine uE 6 zM33 zPGE zPGP 48 rfl (by kernel_rfl) ?_) | ((with_reducible refine xR ?_); refine uE 8 zM33 zPHE zPHP 48 rfl (by kernel_rfl) ?_)) <;> ((try with_reducible intro K1 hK1); simp only [go_sem, ↓reduceIte, reduceCtorEq, nA, nB, nC, nD, nE, nF] <;> and_intros <;> first | (apply hK1; clear hK1 K1) | (intros; first | omega | decide) | skip))))
  refine (g_pick i l (a1 + 1 + 1) [0, 1, 86400001] none h hl (by omega) (by simp)).mono ?_; rintro _ _ ⟨w2, hw2, rfl, rfl⟩; apply hK1; clear hK1 K1
  (repeat (first | refine gO rfl ?_ | ((first | refine gM zM33 ?_ | (with_reducible refine wM ?_ ?_) | ((with_reducible refine xR ?_); refine uE 6 zM33 zPGE zPGP 48 rfl (by kernel_rfl) ?_) | ((with_reducible refine xR ?_); refine uE 8 zM33 zPHE zPHP 48 rfl (by kernel_rfl) ?_)) <;> ((try with_reducible intro K1 hK1); simp only [go_sem, ↓reduceIte, reduceCtorEq, nA, nB, nC, nD, nE, nF] <;> and_intros <;> first | (apply hK1; clear hK1 K1) | (intros; first | omega | decide) | skip))))
  refine (g_pick i l (a1 + 1 + 1 + 1) [0, 1000000, 1000001] none h hl (by omega) (by simp)).mono ?_; rintro _ _ ⟨h2, hh2, rfl, rfl⟩; apply hK1; clear hK1 K1
  have u1 : 0 ≤ w2 ∧ w2 ≤ 86400001 := by simp at hw2; omega
  have u2 : 0 ≤ h2 ∧ h2 ≤ 1000001 := by simp at hh2; omega
  have hcs2 := q2
  clear hw2 hh2
  (repeat (first | refine gO rfl ?_ | ((first | refine gM zM33 ?_ | (with_reducible refine wM ?_ ?_) | ((with_reducible refine xR ?_); refine uE 6 zM33 zPGE zPGP 48 rfl (by kernel_rfl) ?_) | ((with_reducible refine xR ?_); refine uE 8 zM33 zPHE zPHP 48 rfl (by kernel_rfl) ?_)) <;> ((try with_reducible intro K1 hK1); simp only [go_sem, ↓reduceIte, reduceCtorEq, nA, nB, nC, nD, nE, nF] <;> and_intros <;> first | (apply hK1; clear hK1 K1) | (intros; first | omega | decide) | skip))))
  simp only [Tryz.results9, go_sem, ↓reduceIte, reduceCtorEq, nA, nB, nC, nD, nE, nF]
  refine ⟨_, _, Weak.refl _, Hp.le.refl _, ⟨kind, codec, w, hh, w2, h2, bytes⟩, a1 + 1 + 1 + 1 + 1, ⟨?_, ?_, ?_, ?_, ?_, ?_, ?_⟩, by omega, rfl, rfl⟩
  all_goals
   first
   | exact hcs2
   | (unfold NBi; simp only; omega)
 ·(repeat (first | refine gO rfl ?_ | ((first | refine gM zM33 ?_ | (with_reducible refine wM ?_ ?_) | ((with_reducible refine xR ?_); refine uE 6 zM33 zPGE zPGP 48 rfl (by kernel_rfl) ?_) | ((with_reducible refine xR ?_); refine uE 8 zM33 zPHE zPHP 48 rfl (by kernel_rfl) ?_)) <;> ((try with_reducible intro K1 hK1); simp only [go_sem, ↓reduceIte, reduceCtorEq, nA, nB, nC, nD, nE, nF] <;> and_intros <;> first | (apply hK1; clear hK1 K1) | (intros; first | omega | decide) | skip))))
  refine awp_cond (t := _) rfl (fun h9 => by cases h9) (fun _ => ?_)
  (repeat (first | refine gO rfl ?_ | ((first | refine gM zM33 ?_ | (with_reducible refine wM ?_ ?_) | ((with_reducible refine xR ?_); refine uE 6 zM33 zPGE zPGP 48 rfl (by kernel_rfl) ?_) | ((with_reducible refine xR ?_); refine uE 8 zM33 zPHE zPHP 48 rfl (by kernel_rfl) ?_)) <;> ((try with_reducible intro K1 hK1); simp only [go_sem, ↓reduceIte, reduceCtorEq, nA, nB, nC, nD, nE, nF] <;> and_intros <;> first | (apply hK1; clear hK1 K1) | (intros; first | omega | decide) | skip))))
  refine awp_cond (t := _) rfl (fun h9 => by cases h9) (fun _ => ?_)
  (repeat (first | refine gO rfl ?_ | ((first | refine gM zM33 ?_ | (with_reducible refine wM ?_ ?_) | ((with_reducible refine xR ?_); refine uE 6 zM33 zPGE zPGP 48 rfl (by kernel_rfl) ?_) | ((with_reducible refine xR ?_); refine uE 8 zM33 zPHE zPHP 48 rfl (by kernel_rfl) ?_)) <;> ((try with_reducible intro K1 hK1); simp only [go_sem, ↓reduceIte, reduceCtorEq, nA, nB, nC, nD, nE, nF] <;> and_intros <;> first | (apply hK1; clear hK1 K1) | (intros; first | omega | decide) | skip))))
  refine awp_cond (t := _) rfl (fun h9 => by cases h9) (fun _ => ?_)
  (repeat (first | refine gO rfl ?_ | ((first | refine gM zM33 ?_ | (with_reducible refine wM ?_ ?_) | ((with_reducible refine xR ?_); refine uE 6 zM33 zPGE zPGP 48 rfl (by kernel_rfl) ?_) | ((with_reducible refine xR ?_); refine uE 8 zM33 zPHE zPHP 48 rfl (by kernel_rfl) ?_)) <;> ((try with_reducible intro K1 hK1); simp only [go_sem, ↓reduceIte, reduceCtorEq, nA, nB, nC, nD, nE, nF] <;> and_intros <;> first | (apply hK1; clear hK1 K1) | (intros; first | omega | decide) | skip))))
  refine (g_pick i l (a1 + 1 + 1) [0, 1000000000000, 1000000000001] none h hl (by omega) (by simp)).mono ?_; rintro _ _ ⟨w2, hw2, rfl, rfl⟩; apply hK1; clear hK1 K1
  have u1 : 0 ≤ w2 ∧ w2 ≤ 1000000000001 := by simp at hw2; omega
  have hcs2 := q2
  clear hw2
  (repeat (first | refine gO rfl ?_ | ((first | refine gM zM33 ?_ | (with_reducible refine wM ?_ ?_) | ((with_reducible refine xR ?_); refine uE 6 zM33 zPGE zPGP 48 rfl (by kernel_rfl) ?_) | ((with_reducible refine xR ?_); refine uE 8 zM33 zPHE zPHP 48 rfl (by kernel_rfl) ?_)) <;> ((try with_reducible intro K1 hK1); simp only [go_sem, ↓reduceIte, reduceCtorEq, nA, nB, nC, nD, nE, nF] <;> and_intros <;> first | (apply hK1; clear hK1 K1) | (intros; first | omega | decide) | skip))))
  simp only [Tryz.results9, go_sem, ↓reduceIte, reduceCtorEq, nA, nB, nC, nD, nE, nF]
  refine ⟨_, _, Weak.refl _, Hp.le.refl _, ⟨kind, codec, w, hh, lo, ra, w2⟩, a1 + 1 + 1 + 1, ⟨?_, ?_, ?_, ?_, ?_, ?_, ?_⟩, by omega, rfl, rfl⟩
  all_goals
   first
   | exact hcs2
   | (unfold NBi; simp only; omega)
abbrev zPIE : List Nat := [0, 2, 4, 5, 6, 7]
abbrev zPIP : List (Nat × List Nat × List Nat) := [(1, [5], [11]), (3, [5], []), (8, [5], [9]), (10, [], []), (12, [], [13]), (14, [], [15]), (16, [], [])]
attribute [go_sem] zPIE zPIP
theorem g_instant (i : Nat) (l : List Int) (a : Int) (h : Hp) (hl : SOk l) (ha : 0 ≤ a ∧ a ≤ 1000000) :
  ACalls Tryz.prog 11 [.ptr i 0] (h.st i l a) (fun r h' => ∃ x : Int, (-1 ≤ x ∧ x ≤ 345686400000) ∧ r = .v (.int .i64 x) ∧ h' = h.st i l (a + 3)) := by
 refine gE Tryz.func11 rfl (by kernel_rfl) 10 rfl fun c => ?_
 (repeat (first | refine gO rfl ?_ | (refine gR fun K1 hK1 => ?_; simp only [go_sem, ↓reduceIte, reduceCtorEq, nA, nB, nC, nD, nE, nF] <;> and_intros <;> first | (apply hK1; clear hK1 K1) | (intros; first | omega | decide) | skip)))
 refine (g_next i l a 150000 h hl (by omega) (by omega)).mono ?_; rintro _ _ ⟨y, hy, rfl, rfl⟩; apply hK1; clear hK1 K1
 (repeat (first | refine gO rfl ?_ | (refine gR fun K1 hK1 => ?_; simp only [go_sem, ↓reduceIte, reduceCtorEq, nA, nB, nC, nD, nE, nF] <;> and_intros <;> first | (apply hK1; clear hK1 K1) | (intros; first | omega | decide) | skip)))
 refine (g_pick i l (a + 1) [345686399999, -1, 345686400000] none h hl (by omega) (by simp)).mono ?_; rintro _ _ ⟨z, hz, rfl, rfl⟩; apply hK1; clear hK1 K1
 (repeat (first | refine gO rfl ?_ | (refine gR fun K1 hK1 => ?_; simp only [go_sem, ↓reduceIte, reduceCtorEq, nA, nB, nC, nD, nE, nF] <;> and_intros <;> first | (apply hK1; clear hK1 K1) | (intros; first | omega | decide) | skip)))
 refine (g_pick i l (a + 1 + 1) [0, 1, 5000, 10000, 20000, 59999, 60000, 61000, 120000, y, z] none h hl (by omega) (by simp)).mono ?_; rintro _ _ ⟨x, hx, rfl, rfl⟩; apply hK1; clear hK1 K1
 have hzb : -1 ≤ z ∧ z ≤ 345686400000 := by simp at hz; omega
 have hxb : -1 ≤ x ∧ x ≤ 345686400000 := by
  simp only [List.mem_cons, List.not_mem_nil, or_false] at hx
  omega
 clear hx hz
 (repeat (first | refine gO rfl ?_ | (refine gR fun K1 hK1 => ?_; simp only [go_sem, ↓reduceIte, reduceCtorEq, nA, nB, nC, nD, nE, nF] <;> and_intros <;> first | (apply hK1; clear hK1 K1) | (intros; first | omega | decide) | skip)))
 simp only [Tryz.results11, go_sem, ↓reduceIte, reduceCtorEq, nA, nB, nC, nD, nE, nF]
 exact ⟨_, _, Weak.refl _, Hp.le.refl _, x, hxb, rfl, by rw [show a + 1 + 1 + 1 = a + 3 by omega]⟩
def cdcs : List ByteArray := [⟨#[97, 118, 99]⟩, ⟨#[112, 110, 103]⟩, ⟨#[116, 120, 116]⟩]
theorem cdcs_sz : ∀ s ∈ cdcs, s.size ≤ 4 := by decide
theorem g_able (i : Nat) (l : List Int) (a : Int) (h : Hp) (hl : SOk l) (ha : 0 ≤ a ∧ a ≤ 100000) :
  ACalls Tryz.prog 8 [.ptr i 0] (h.st i l a) (fun r h' => ∃ (p : Ab) (a' : Int), AbOk p ∧ (a ≤ a' ∧ a' ≤ a + 20) ∧ r = .agg (encAb p) ∧ h' = h.st i l a') := by
 have hcd : [[AV.v (.string ⟨#[97, 118, 99]⟩)], [.v (.string ⟨#[112, 110, 103]⟩)], [.v (.string ⟨#[116, 120, 116]⟩)]] = cdcs.map encS := rfl
 refine gE Tryz.func8 rfl (by kernel_rfl) 51 rfl fun c => ?_
 (repeat (first | refine gO rfl ?_ | ((first | refine gM zM33 ?_ | (with_reducible refine wM ?_ ?_) | ((with_reducible refine xR ?_); refine uE 9 zM33 zPIE zPIP 52 rfl (by kernel_rfl) ?_)) <;> ((try with_reducible intro K1 hK1); simp only [go_sem, ↓reduceIte, reduceCtorEq, nA, nB, nC, nD, nE, nF] <;> and_intros <;> first | (apply hK1; clear hK1 K1) | (intros; first | omega | decide) | skip))))
 refine (g_pick i l a [100, 640, 1920] none h hl (by omega) (by simp)).mono ?_; rintro _ _ ⟨w, hw, rfl, rfl⟩; apply hK1; clear hK1 K1
 (repeat (first | refine gO rfl ?_ | ((first | refine gM zM33 ?_ | (with_reducible refine wM ?_ ?_) | ((with_reducible refine xR ?_); refine uE 9 zM33 zPIE zPIP 52 rfl (by kernel_rfl) ?_)) <;> ((try with_reducible intro K1 hK1); simp only [go_sem, ↓reduceIte, reduceCtorEq, nA, nB, nC, nD, nE, nF] <;> and_intros <;> first | (apply hK1; clear hK1 K1) | (intros; first | omega | decide) | skip))))
 refine (g_pick i l (a + 1) [100, 480, 1080] none h hl (by omega) (by simp)).mono ?_; rintro _ _ ⟨hh, hhh, rfl, rfl⟩; apply hK1; clear hK1 K1
 (repeat (first | refine gO rfl ?_ | ((first | refine gM zM33 ?_ | (with_reducible refine wM ?_ ?_) | ((with_reducible refine xR ?_); refine uE 9 zM33 zPIE zPIP 52 rfl (by kernel_rfl) ?_)) <;> ((try with_reducible intro K1 hK1); simp only [go_sem, ↓reduceIte, reduceCtorEq, nA, nB, nC, nD, nE, nF] <;> and_intros <;> first | (apply hK1; clear hK1 K1) | (intros; first | omega | decide) | skip))))
 refine (g_pick i l (a + 1 + 1) [0, 64, 500] none h hl (by omega) (by simp)).mono ?_; rintro _ _ ⟨ra, hra, rfl, rfl⟩; apply hK1; clear hK1 K1
 (repeat (first | refine gO rfl ?_ | ((first | refine gM zM33 ?_ | (with_reducible refine wM ?_ ?_) | ((with_reducible refine xR ?_); refine uE 9 zM33 zPIE zPIP 52 rfl (by kernel_rfl) ?_)) <;> ((try with_reducible intro K1 hK1); simp only [go_sem, ↓reduceIte, reduceCtorEq, nA, nB, nC, nD, nE, nF] <;> and_intros <;> first | (apply hK1; clear hK1 K1) | (intros; first | omega | decide) | skip))))
 refine (g_pick i l (a + 1 + 1 + 1) [50, 1000] none h hl (by omega) (by simp)).mono ?_; rintro _ _ ⟨by2, hby, rfl, rfl⟩; apply hK1; clear hK1 K1
 have u1 : 0 ≤ w ∧ w ≤ 1920 := by simp at hw; omega
 have u2 : 0 ≤ hh ∧ hh ≤ 1920 := by simp at hhh; omega
 have u3 : 0 ≤ ra ∧ ra ≤ 1920 := by simp at hra; omega
 have u4 : 0 ≤ by2 ∧ by2 ≤ 1920 := by simp at hby; omega
 clear hw hhh hra hby
 (repeat (first | refine gQ rfl ?_ | ((first | refine gM zM33 ?_ | (with_reducible refine wM ?_ ?_) | ((with_reducible refine xR ?_); refine uE 9 zM33 zPIE zPIP 52 rfl (by kernel_rfl) ?_)) <;> ((try with_reducible intro K1 hK1); simp only [go_sem, ↓reduceIte, reduceCtorEq, nA, nB, nC, nD, nE, nF] <;> and_intros <;> first | (apply hK1; clear hK1 K1) | (intros; first | omega | decide | (simp_all <;> omega)) | skip))))
 refine awp_ownLoc 1 0 1 rfl rfl (fun kt hkt => ?_)
 replace hkt : h.T kt = none := hkt
 (repeat (first | refine gO rfl ?_ | ((first | refine gM zM33 ?_ | (with_reducible refine wM ?_ ?_) | ((with_reducible refine xR ?_); refine uE 9 zM33 zPIE zPIP 52 rfl (by kernel_rfl) ?_)) <;> ((try with_reducible intro K1 hK1); simp only [go_sem, ↓reduceIte, reduceCtorEq, nA, nB, nC, nD, nE, nF] <;> and_intros <;> first | (apply hK1; clear hK1 K1) | (intros; first | omega | decide) | skip))))
 rw [hcd]
 refine awp_loopC (rl false [0, 1, 1, 2, 15, 3, 30]) 2 (fun g s => ∃ (j : Nat) (cs : List ByteArray) (a' : Int), g + j = 3 ∧ cs.length ≤ j ∧ (∀ s ∈ cs, s.size ≤ 4) ∧ (a ≤ a' ∧ a' ≤ a + 4 + j) ∧
  s = ⟨((.ptr i 0) :: AV.junk :: ((.loc 0 0) :: (.loc 1 0) :: (jnk 15 ((.row 1 (cdcs.map encS) none) :: (.v (.int .i64 (3 : Nat))) :: (.v (.int .i64 j)) :: (jnk 30 []))))), [[.v (.slice none 0 0), .v (.int .i64 0), .v (.int .i64 0), .v (.int .i64 0), .v (.int .i64 0)], [.row 1 (cs.map encS) (some kt), .v (.int .i64 w), .v (.int .i64 hh), .v (.int .i64 ra), .v (.int .i64 by2)]], Hp.st ⟨h.H, upd h.T kt (some (.tail cs.length))⟩ i l a'⟩) 3 ⟨0, [], _, by omega, by simp, by simp, by omega, rfl⟩ ?_
 rintro g _ ⟨j, cs, a', hj, hcl, hcs, ha', rfl⟩
 (repeat (first | refine gO rfl ?_ | ((first | refine gM zM33 ?_ | (with_reducible refine wM ?_ ?_) | ((with_reducible refine xR ?_); refine uE 9 zM33 zPIE zPIP 52 rfl (by kernel_rfl) ?_)) <;> ((try with_reducible intro K1 hK1); simp only [go_sem, ↓reduceIte, reduceCtorEq, nA, nB, nC, nD, nE, nF] <;> and_intros <;> first | (apply hK1; clear hK1 K1) | (intros; first | omega | decide) | skip))))
 refine awp_cond (t := _) rfl (fun h5 => ?_) (fun h5 => ?_)
 ·simp only [decide_eq_true_eq] at h5
  have hjl : j < cdcs.length := by show j < 3; omega
  have gx : (cdcs.map encS).getD j [] = encS (cdcs.getD j default) := getD_enc encS cdcs j default hjl
  have hsz : (cdcs.getD j default).size ≤ 4 := cdcs_sz _ (by rw [List.getD_eq_getElem?_getD, List.getElem?_eq_getElem hjl]; exact List.getElem_mem _)
  have hml : (cdcs.map encS).length = 3 := rfl
  generalize cdcs.getD j default = cd at *
  have hcm : (cs.map encS).length = cs.length := List.length_map _
  have hT : ∀ b, (Hp.st ⟨h.H, upd h.T kt (some (.tail cs.length))⟩ i l b).T kt = some (.tail cs.length) := fun b => upd_same _ _ _
  have hst : ∀ (c : Option TO) (b : Int), ({ H := (Hp.st ⟨h.H, upd h.T kt (some (.tail cs.length))⟩ i l b).H, T := upd (Hp.st ⟨h.H, upd h.T kt (some (.tail cs.length))⟩ i l b).T kt c } : Hp) = Hp.st ⟨h.H, upd h.T kt c⟩ i l b := fun c b => by
   show (⟨_, upd (upd h.T kt _) kt c⟩ : Hp) = _
   rw [upd_upd]; rfl
  (repeat (first | refine gO rfl ?_ | ((first | refine gM zM33 ?_ | (with_reducible refine wM ?_ ?_) | ((with_reducible refine xR ?_); refine uE 9 zM33 zPIE zPIP 52 rfl (by kernel_rfl) ?_)) <;> ((try with_reducible intro K1 hK1); simp only [go_sem, ↓reduceIte, reduceCtorEq, nA, nB, nC, nD, nE, nF, Int.toNat_natCast, gx, encS, hml] <;> and_intros <;> first | (apply hK1; clear hK1 K1) | (intros; first | omega | decide) | skip))))
  refine (g_flip i l a' 4 _ hl (by omega) (by omega)).mono ?_; rintro _ _ ⟨b, rfl, rfl⟩; apply hK1; clear hK1 K1
  cases b
  case true =>
   (repeat (first | refine gO rfl ?_ | ((first | refine gM zM33 ?_ | (with_reducible refine wM ?_ ?_) | ((with_reducible refine xR ?_); refine uE 9 zM33 zPIE zPIP 52 rfl (by kernel_rfl) ?_)) <;> ((try with_reducible intro K1 hK1); simp only [go_sem, ↓reduceIte, reduceCtorEq, nA, nB, nC, nD, nE, nF, Bool.not_true] <;> and_intros <;> first | (apply hK1; clear hK1 K1) | (intros; first | omega | decide) | skip))))
   refine awp_cond (t := _) rfl (fun h9 => by cases h9) (fun _ => ?_)
   (repeat (first | refine gO rfl ?_ | ((first | refine gM zM33 ?_ | (with_reducible refine wM ?_ ?_) | ((with_reducible refine xR ?_); refine uE 9 zM33 zPIE zPIP 52 rfl (by kernel_rfl) ?_)) <;> ((try with_reducible intro K1 hK1); simp only [go_sem, ↓reduceIte, reduceCtorEq, nA, nB, nC, nD, nE, nF] <;> and_intros <;> first | (apply hK1; clear hK1 K1) | (intros; first | omega | decide) | skip))))
   exact ⟨g - 1, by omega, j + 1, cs, _, by omega, by omega, hcs, by omega, rfl⟩
  (repeat (first | refine gO rfl ?_ | ((first | refine gM zM33 ?_ | (with_reducible refine wM ?_ ?_) | ((with_reducible refine xR ?_); refine uE 9 zM33 zPIE zPIP 52 rfl (by kernel_rfl) ?_)) <;> ((try with_reducible intro K1 hK1); simp only [go_sem, ↓reduceIte, reduceCtorEq, nA, nB, nC, nD, nE, nF, Bool.not_false] <;> and_intros <;> first | (apply hK1; clear hK1 K1) | (intros; first | omega | decide) | skip))))
  refine awp_cond (t := _) rfl (fun _ => ?_) (fun h9 => by cases h9)
  (repeat (first | refine gO rfl ?_ | ((first | refine gM zM33 ?_ | (with_reducible refine wM ?_ ?_) | ((with_reducible refine xR ?_); refine uE 9 zM33 zPIE zPIP 52 rfl (by kernel_rfl) ?_)) <;> ((try with_reducible intro K1 hK1); simp only [go_sem, ↓reduceIte, reduceCtorEq, nA, nB, nC, nD, nE, nF, hcm, hT] <;> and_intros <;> first | (apply hK1; clear hK1 K1) | (intros; first | omega | decide) | skip))))
  refine ⟨g - 1, by omega, j + 1, cs ++ [cd], _, by omega, by rw [List.length_append, List.length_singleton]; omega, fun s hs => ?_, (by omega : a ≤ a' + 1 ∧ a' + 1 ≤ a + 4 + ((j + 1 : Nat) : Int)), ?_⟩
  ·rcases List.mem_append.1 hs with hs | hs
   ·exact hcs s hs
   ·rw [List.mem_singleton.1 hs]; exact hsz
  ·rw [List.map_append, List.length_append, List.length_singleton, hst]
   rfl
 ·simp only [decide_eq_false_iff_not] at h5
  have hcm : (cs.map encS).length = cs.length := List.length_map _
  have hT : ∀ b, (Hp.st ⟨h.H, upd h.T kt (some (.tail cs.length))⟩ i l b).T kt = some (.tail cs.length) := fun b => upd_same _ _ _
  have hst : ∀ (c : Option TO) (b : Int), ({ H := (Hp.st ⟨h.H, upd h.T kt (some (.tail cs.length))⟩ i l b).H, T := upd (Hp.st ⟨h.H, upd h.T kt (some (.tail cs.length))⟩ i l b).T kt c } : Hp) = Hp.st ⟨h.H, upd h.T kt c⟩ i l b := fun c b => by
   show (⟨_, upd (upd h.T kt _) kt c⟩ : Hp) = _
   rw [upd_upd]; rfl
  (repeat (first | refine gO rfl ?_ | ((first | refine gM zM33 ?_ | (with_reducible refine wM ?_ ?_) | ((with_reducible refine xR ?_); refine uE 9 zM33 zPIE zPIP 52 rfl (by kernel_rfl) ?_)) <;> ((try with_reducible intro K1 hK1); simp only [go_sem, ↓reduceIte, reduceCtorEq, nA, nB, nC, nD, nE, nF] <;> and_intros <;> first | (apply hK1; clear hK1 K1) | (intros; first | omega | decide) | skip))))
  refine (g_flip i l a' 20 _ hl (by omega) (by omega)).mono ?_; rintro _ _ ⟨b, rfl, rfl⟩; apply hK1; clear hK1 K1
  cases b
  case false =>
   (repeat (first | refine gO rfl ?_ | ((first | refine gM zM33 ?_ | (with_reducible refine wM ?_ ?_) | ((with_reducible refine xR ?_); refine uE 9 zM33 zPIE zPIP 52 rfl (by kernel_rfl) ?_)) <;> ((try with_reducible intro K1 hK1); simp only [go_sem, ↓reduceIte, reduceCtorEq, nA, nB, nC, nD, nE, nF] <;> and_intros <;> first | (apply hK1; clear hK1 K1) | (intros; first | omega | decide) | skip))))
   refine awp_cond (t := _) rfl (fun h9 => by cases h9) (fun _ => ?_)
   (repeat (first | refine gO rfl ?_ | ((first | refine gM zM33 ?_ | (with_reducible refine wM ?_ ?_) | ((with_reducible refine xR ?_); refine uE 9 zM33 zPIE zPIP 52 rfl (by kernel_rfl) ?_)) <;> ((try with_reducible intro K1 hK1); simp only [go_sem, ↓reduceIte, reduceCtorEq, nA, nB, nC, nD, nE, nF] <;> and_intros <;> first | (apply hK1; clear hK1 K1) | (intros; first | omega | decide) | skip))))
   simp only [Tryz.results8, go_sem, ↓reduceIte, reduceCtorEq, nA, nB, nC, nD, nE, nF]
   refine ⟨_, _, Weak.agg (WL.cons (Weak.row _ _ _) (WL.cons (Weak.refl _) (WL.cons (Weak.refl _) (WL.cons (Weak.refl _) (WL.cons (Weak.refl _) WL.nil))))), le_st (fun t ht => upd_other _ _ (by rintro rfl; exact ht hkt)) i l _, ⟨cs, w, hh, ra, by2⟩, _, ⟨by show cs.length ≤ 4; omega, hcs, by unfold NBi; simp only; omega, by unfold NBi; simp only; omega, by unfold NBi; simp only; omega, by unfold NBi; simp only; omega⟩, by omega, rfl, rfl⟩
  (repeat (first | refine gO rfl ?_ | ((first | refine gM zM33 ?_ | (with_reducible refine wM ?_ ?_) | ((with_reducible refine xR ?_); refine uE 9 zM33 zPIE zPIP 52 rfl (by kernel_rfl) ?_)) <;> ((try with_reducible intro K1 hK1); simp only [go_sem, ↓reduceIte, reduceCtorEq, nA, nB, nC, nD, nE, nF] <;> and_intros <;> first | (apply hK1; clear hK1 K1) | (intros; first | omega | decide) | skip))))
  refine awp_cond (t := _) rfl (fun _ => ?_) (fun h9 => by cases h9)
  (repeat (first | refine gO rfl ?_ | ((first | refine gM zM33 ?_ | (with_reducible refine wM ?_ ?_) | ((with_reducible refine xR ?_); refine uE 9 zM33 zPIE zPIP 52 rfl (by kernel_rfl) ?_)) <;> ((try with_reducible intro K1 hK1); simp only [go_sem, ↓reduceIte, reduceCtorEq, nA, nB, nC, nD, nE, nF] <;> and_intros <;> first | (apply hK1; clear hK1 K1) | (intros; first | omega | decide) | skip))))
  refine (g_odd i l (a' + 1) 0 100000 _ hl (by omega) (by omega) (by omega) (by omega)).mono ?_; rintro _ _ ⟨w2, a2, hw2, ha2, rfl, rfl⟩; apply hK1; clear hK1 K1
  (repeat (first | refine gO rfl ?_ | ((first | refine gM zM33 ?_ | (with_reducible refine wM ?_ ?_) | ((with_reducible refine xR ?_); refine uE 9 zM33 zPIE zPIP 52 rfl (by kernel_rfl) ?_)) <;> ((try with_reducible intro K1 hK1); simp only [go_sem, ↓reduceIte, reduceCtorEq, nA, nB, nC, nD, nE, nF] <;> and_intros <;> first | (apply hK1; clear hK1 K1) | (intros; first | omega | decide) | skip))))
  all_goals try with_reducible rfl
  (repeat (first | refine gO rfl ?_ | ((first | refine gM zM33 ?_ | (with_reducible refine wM ?_ ?_) | ((with_reducible refine xR ?_); refine uE 9 zM33 zPIE zPIP 52 rfl (by kernel_rfl) ?_)) <;> ((try with_reducible intro K1 hK1); simp only [go_sem, ↓reduceIte, reduceCtorEq, nA, nB, nC, nD, nE, nF] <;> and_intros <;> first | (apply hK1; clear hK1 K1) | (intros; first | omega | decide) | skip))))
  refine (g_odd i l a2 0 1000000 _ hl (by omega) (by omega) (by omega) (by omega)).mono ?_; rintro _ _ ⟨r2, a3, hr2, ha3, rfl, rfl⟩; apply hK1; clear hK1 K1
  (repeat (first | refine gO rfl ?_ | ((first | refine gM zM33 ?_ | (with_reducible refine wM ?_ ?_) | ((with_reducible refine xR ?_); refine uE 9 zM33 zPIE zPIP 52 rfl (by kernel_rfl) ?_)) <;> ((try with_reducible intro K1 hK1); simp only [go_sem, ↓reduceIte, reduceCtorEq, nA, nB, nC, nD, nE, nF] <;> and_intros <;> first | (apply hK1; clear hK1 K1) | (intros; first | omega | decide) | skip))))
  all_goals try with_reducible rfl
  (repeat (first | refine gO rfl ?_ | ((first | refine gM zM33 ?_ | (with_reducible refine wM ?_ ?_) | ((with_reducible refine xR ?_); refine uE 9 zM33 zPIE zPIP 52 rfl (by kernel_rfl) ?_)) <;> ((try with_reducible intro K1 hK1); simp only [go_sem, ↓reduceIte, reduceCtorEq, nA, nB, nC, nD, nE, nF] <;> and_intros <;> first | (apply hK1; clear hK1 K1) | (intros; first | omega | decide) | skip))))
  refine (g_some i l a3 [⟨#[]⟩, ⟨#[97, 118, 99]⟩, ⟨#[122, 122]⟩] none _ hl (by omega) (by simp)).mono ?_; rintro _ _ ⟨c2, hc2, rfl, rfl⟩; apply hK1; clear hK1 K1
  have hsz : c2.size ≤ 4 := by
   simp only [List.mem_cons, List.not_mem_nil, or_false] at hc2
   rcases hc2 with rfl | rfl | rfl <;> decide
  clear hc2
  (repeat (first | refine gO rfl ?_ | ((first | refine gM zM33 ?_ | (with_reducible refine wM ?_ ?_) | ((with_reducible refine xR ?_); refine uE 9 zM33 zPIE zPIP 52 rfl (by kernel_rfl) ?_)) <;> ((try with_reducible intro K1 hK1); simp only [go_sem, ↓reduceIte, reduceCtorEq, nA, nB, nC, nD, nE, nF, hcm, hT] <;> and_intros <;> first | (apply hK1; clear hK1 K1) | (intros; first | omega | decide) | skip))))
  all_goals try with_reducible rfl
  (repeat (first | refine gO rfl ?_ | ((first | refine gM zM33 ?_ | (with_reducible refine wM ?_ ?_) | ((with_reducible refine xR ?_); refine uE 9 zM33 zPIE zPIP 52 rfl (by kernel_rfl) ?_)) <;> ((try with_reducible intro K1 hK1); simp only [go_sem, ↓reduceIte, reduceCtorEq, nA, nB, nC, nD, nE, nF, hcm, hT] <;> and_intros <;> first | (apply hK1; clear hK1 K1) | (intros; first | omega | decide) | skip))))
  simp only [Tryz.results8, go_sem, ↓reduceIte, reduceCtorEq, nA, nB, nC, nD, nE, nF]
  rw [hst]
  have hrow : cs.map encS ++ [[.v (.string c2)]] = (cs ++ [c2]).map encS := by rw [List.map_append]; rfl
  rw [hrow]
  refine ⟨_, _, Weak.agg (WL.cons (Weak.row _ _ _) (WL.cons (Weak.refl _) (WL.cons (Weak.refl _) (WL.cons (Weak.refl _) (WL.cons (Weak.refl _) WL.nil))))), le_st (fun t ht => upd_other _ _ (by rintro rfl; exact ht hkt)) i l _, ⟨cs ++ [c2], w2, hh, r2, by2⟩, _, ⟨by show (cs ++ [c2]).length ≤ 4; simp; omega, fun s hs => ?_, by unfold NBi; simp only; omega, by unfold NBi; simp only; omega, by unfold NBi; simp only; omega, by unfold NBi; simp only; omega⟩, by omega, rfl, rfl⟩
  rcases List.mem_append.1 hs with hs | hs
  ·exact hcs s hs
  ·rw [List.mem_singleton.1 hs]; exact hsz
abbrev zPJE : List Nat := [0, 1, 2]
abbrev zPJP : List (Nat × List Nat × List Nat) := [(3, [1], [4]), (5, [], [6]), (7, [], [])]
attribute [go_sem] zPJE zPJP
abbrev VD := Int × Int × List Fm × Nat
abbrev AD := ByteArray × Nat × List VD
def rowV (v : VD) : List AV := [.v (.int .i64 v.1), .v (.int .i64 v.2.1), .row 7 (v.2.2.1.map encFm) (some v.2.2.2)]
def rowA (d : AD) : List AV := [.v (.string d.1), .arr 3 d.2.1 d.2.2.length]
def VDok (v : VD) : Prop := (0 ≤ v.1 ∧ v.1 ≤ 100) ∧ (0 ≤ v.2.1 ∧ v.2.1 ≤ 1000) ∧ (1 ≤ v.2.2.1.length ∧ v.2.2.1.length ≤ 3) ∧ ∀ f ∈ v.2.2.1, FmOk f
def ADok (d : AD) : Prop := d.1.size ≤ 2 ∧ (1 ≤ d.2.2.length ∧ d.2.2.length ≤ 3) ∧ ∀ v ∈ d.2.2, VDok v
structure AstM (h0 : Hp) (i : Nat) (l : List Int) (a : Int) (ko : Nat) (D : List AD) (h : Hp) : Prop where
 st : h.H i = some (strm l a)
 hH : ∀ q, h0.H q ≠ none → q ≠ i → h.H q = h0.H q
 hT : ∀ t, h0.T t ≠ none → h.T t = h0.T t
 new : h0.T ko = none
 tko : h.T ko = some (.cont 2 (D.map rowA))
 tkv : ∀ d ∈ D, h0.T d.2.1 = none ∧ h.T d.2.1 = some (.cont 3 (d.2.2.map rowV)) ∧ ∀ v ∈ d.2.2, h0.T v.2.2.2 = none ∧ h.T v.2.2.2 = some (.tail v.2.2.1.length)
 ok : ∀ d ∈ D, ADok d
 nd : (D.map (·.2.1)).Nodup
theorem AstM.next {h0 : Hp} {i : Nat} {l : List Int} {a : Int} {ko : Nat} {D : List AD} {h : Hp} (m : AstM h0 i l a ko D h) (b : Int) : AstM h0 i l b ko D (h.st i l b) :=
 ⟨st_at _ _ _ _, fun q hq hqi => (upd_other _ _ hqi).trans (m.hH q hq hqi), m.hT, m.new, m.tko, m.tkv, m.ok, m.nd⟩
structure VsM (h2 : Hp) (i : Nat) (l : List Int) (a : Int) (pa kv : Nat) (key : ByteArray) (V : List VD) (h : Hp) : Prop where
 st : h.H i = some (strm l a)
 hp : h.H pa = some (.cells [.v (.string key), .arr 3 kv V.length])
 hH : ∀ q, h2.H q ≠ none → q ≠ i → h.H q = h2.H q
 hT : ∀ t, h2.T t ≠ none → h.T t = h2.T t
 pnew : h2.H pa = none
 new : h2.T kv = none
 tkv : h.T kv = some (.cont 3 (V.map rowV))
 tkf : ∀ v ∈ V, h2.T v.2.2.2 = none ∧ h.T v.2.2.2 = some (.tail v.2.2.1.length)
 ok : ∀ v ∈ V, VDok v
theorem VsM.next {h2 : Hp} {i : Nat} {l : List Int} {a : Int} {pa kv : Nat} {key : ByteArray} {V : List VD} {h : Hp} (m : VsM h2 i l a pa kv key V h) (hi : pa ≠ i) (b : Int) : VsM h2 i l b pa kv key V (h.st i l b) :=
 ⟨st_at _ _ _ _, (upd_other _ _ hi).trans m.hp, fun q hq hqi => (upd_other _ _ hqi).trans (m.hH q hq hqi), m.hT, m.pnew, m.new, m.tkv, m.tkf, m.ok⟩
def akeys : List ByteArray := [⟨#[105, 97]⟩, ⟨#[105, 98]⟩, ⟨#[105, 99]⟩, ⟨#[105, 100]⟩]
theorem akeys_sz : ∀ s ∈ akeys, s.size ≤ 2 := by decide
theorem g_rightAssets (i : Nat) (l : List Int) (a : Int) (h : Hp) (hl : SOk l) (ha : 0 ≤ a ∧ a ≤ 10000) :
  ACalls Tryz.prog 43 [.ptr i 0] (h.st i l a) (fun r h' => ∃ (ko : Nat) (D : List AD) (a' : Int), D.length ≤ 4 ∧ (a ≤ a' ∧ a' ≤ a + 440) ∧ AstM (h.st i l a) i l a' ko D h' ∧ r = .arr 2 ko D.length) := by
 have hak : [[AV.v (.string ⟨#[105, 97]⟩)], [.v (.string ⟨#[105, 98]⟩)], [.v (.string ⟨#[105, 99]⟩)], [.v (.string ⟨#[105, 100]⟩)]] = akeys.map encS := rfl
 refine gE Tryz.func43 rfl (by kernel_rfl) 65 rfl fun c => ?_
 (repeat (first | refine gQ rfl ?_ | ((first | refine gM zM34 ?_ | (with_reducible refine wM ?_ ?_) | ((with_reducible refine xR ?_); refine uE 13 zM34 zPJE zPJP 66 rfl (by kernel_rfl) ?_)) <;> ((try with_reducible intro K1 hK1); simp only [go_sem, ↓reduceIte, reduceCtorEq, nA, nB, nC, nD, nE, nF] <;> and_intros <;> first | (apply hK1; clear hK1 K1) | (intros; first | omega | decide | (simp_all <;> omega)) | skip))))
 refine awp_ownA 3 2 rfl ⟨rfl, rfl⟩ (fun ko hko => ?_)
 replace hko : h.T ko = none := hko
 (repeat (first | refine gO rfl ?_ | ((first | refine gM zM34 ?_ | (with_reducible refine wM ?_ ?_) | ((with_reducible refine xR ?_); refine uE 13 zM34 zPJE zPJP 66 rfl (by kernel_rfl) ?_)) <;> ((try with_reducible intro K1 hK1); simp only [go_sem, ↓reduceIte, reduceCtorEq, nA, nB, nC, nD, nE, nF] <;> and_intros <;> first | (apply hK1; clear hK1 K1) | (intros; first | omega | decide) | skip))))
 rw [hak]
 have M0 : AstM (h.st i l a) i l a ko [] ⟨(h.st i l a).H, upd (h.st i l a).T ko (some (.cont 2 []))⟩ :=
  ⟨st_at _ _ _ _, fun _ _ _ => rfl, fun t ht => upd_other _ _ (by rintro rfl; exact ht hko), hko, upd_same _ _ _, (fun d hd => by cases hd), (fun d hd => by cases hd), List.nodup_nil⟩
 refine awp_loopC (rl false [0, 1, 2, 1, 6, 3, 53]) 0 (fun g s => ∃ (j : Nat) (D : List AD) (a' : Int) (h' : Hp), g + j = 4 ∧ D.length ≤ j ∧ (a ≤ a' ∧ a' ≤ a + j * 110) ∧ AstM (h.st i l a) i l a' ko D h' ∧
  s = ⟨((.ptr i 0) :: AV.junk :: AV.junk :: ((.arr 2 ko D.length) :: (jnk 6 ((.row 1 (akeys.map encS) none) :: (.v (.int .i64 (4 : Nat))) :: (.v (.int .i64 j)) :: (jnk 53 []))))), [], h'⟩) 4 ⟨0, [], a, _, by omega, by simp, by omega, M0, rfl⟩ ?_
 clear M0
 rintro g _ ⟨j, D, a', h', hj, hDl, ha', M, rfl⟩
 (repeat (first | refine gO rfl ?_ | ((first | refine gM zM34 ?_ | (with_reducible refine wM ?_ ?_) | ((with_reducible refine xR ?_); refine uE 13 zM34 zPJE zPJP 66 rfl (by kernel_rfl) ?_)) <;> ((try with_reducible intro K1 hK1); simp only [go_sem, ↓reduceIte, reduceCtorEq, nA, nB, nC, nD, nE, nF] <;> and_intros <;> first | (apply hK1; clear hK1 K1) | (intros; first | omega | decide) | skip))))
 refine awp_cond (t := _) rfl (fun h5 => ?_) (fun h5 => ?_)
 ·simp only [decide_eq_true_eq] at h5
  have hjl : j < akeys.length := by show j < 4; omega
  have gx : (akeys.map encS).getD j [] = encS (akeys.getD j default) := getD_enc encS akeys j default hjl
  have hsz : (akeys.getD j default).size ≤ 2 := akeys_sz _ (by rw [List.getD_eq_getElem?_getD, List.getElem?_eq_getElem hjl]; exact List.getElem_mem _)
  have hml : (akeys.map encS).length = 4 := rfl
  generalize akeys.getD j default = key at *
  have e1 := st_of M.st
  rw [e1]
  clear e1
  (repeat (first | refine gO rfl ?_ | ((first | refine gM zM34 ?_ | (with_reducible refine wM ?_ ?_) | ((with_reducible refine xR ?_); refine uE 13 zM34 zPJE zPJP 66 rfl (by kernel_rfl) ?_)) <;> ((try with_reducible intro K1 hK1); simp only [go_sem, ↓reduceIte, reduceCtorEq, nA, nB, nC, nD, nE, nF, Int.toNat_natCast, gx, encS, hml] <;> and_intros <;> first | (apply hK1; clear hK1 K1) | (intros; first | omega | decide) | skip))))
  refine (g_flip i l a' 5 _ hl (by omega) (by omega)).mono ?_; rintro _ _ ⟨b, rfl, rfl⟩; apply hK1; clear hK1 K1
  have M2 := M.next (a' + 1)
  generalize h'.st i l (a' + 1) = h2 at *
  clear M
  cases b
  case true =>
   (repeat (first | refine gO rfl ?_ | ((first | refine gM zM34 ?_ | (with_reducible refine wM ?_ ?_) | ((with_reducible refine xR ?_); refine uE 13 zM34 zPJE zPJP 66 rfl (by kernel_rfl) ?_)) <;> ((try with_reducible intro K1 hK1); simp only [go_sem, ↓reduceIte, reduceCtorEq, nA, nB, nC, nD, nE, nF] <;> and_intros <;> first | (apply hK1; clear hK1 K1) | (intros; first | omega | decide) | skip))))
   refine awp_cond (t := _) rfl (fun _ => ?_) (fun h9 => by cases h9)
   (repeat (first | refine gO rfl ?_ | ((first | refine gM zM34 ?_ | (with_reducible refine wM ?_ ?_) | ((with_reducible refine xR ?_); refine uE 13 zM34 zPJE zPJP 66 rfl (by kernel_rfl) ?_)) <;> ((try with_reducible intro K1 hK1); simp only [go_sem, ↓reduceIte, reduceCtorEq, nA, nB, nC, nD, nE, nF] <;> and_intros <;> first | (apply hK1; clear hK1 K1) | (intros; first | omega | decide) | skip))))
   exact ⟨g - 1, by omega, j + 1, D, a' + 1, h2, by omega, by omega, by omega, M2, rfl⟩
  (repeat (first | refine gO rfl ?_ | ((first | refine gM zM34 ?_ | (with_reducible refine wM ?_ ?_) | ((with_reducible refine xR ?_); refine uE 13 zM34 zPJE zPJP 66 rfl (by kernel_rfl) ?_)) <;> ((try with_reducible intro K1 hK1); simp only [go_sem, ↓reduceIte, reduceCtorEq, nA, nB, nC, nD, nE, nF] <;> and_intros <;> first | (apply hK1; clear hK1 K1) | (intros; first | omega | decide) | skip))))
  refine awp_cond (t := _) rfl (fun h9 => by cases h9) (fun _ => ?_)
  (repeat (first | refine gO rfl ?_ | ((first | refine gM zM34 ?_ | (with_reducible refine wM ?_ ?_) | ((with_reducible refine xR ?_); refine uE 13 zM34 zPJE zPJP 66 rfl (by kernel_rfl) ?_)) <;> ((try with_reducible intro K1 hK1); simp only [go_sem, ↓reduceIte, reduceCtorEq, nA, nB, nC, nD, nE, nF] <;> and_intros <;> first | (apply hK1; clear hK1 K1) | (intros; first | omega | decide) | skip))))
  intro pa hpa
  refine hK1 _ ?_; clear hK1 K1
  replace hpa : h2.H pa = none := hpa
  refine awp_ownObj pa 1 3 (cs := [.v (.string key), .v (.slice none 0 0)]) (upd_same _ _ _) rfl (fun kv hkv => ?_)
  replace hkv : h2.T kv = none := hkv
  have hip : pa ≠ i := by rintro rfl; rw [M2.st] at hpa; cases hpa
  obtain ⟨h3, eh3⟩ : ∃ h3 : Hp, h3 = ⟨upd h2.H pa (some (.cells [.v (.string key), .arr 3 kv 0])), upd h2.T kv (some (.cont 3 []))⟩ := ⟨_, rfl⟩
  have q1 : h3.H i = some (strm l (a' + 1)) := by rw [eh3]; exact (upd_other _ _ hip.symm).trans M2.st
  have q2 : h3.H pa = some (.cells [.v (.string key), .arr 3 kv 0]) := by rw [eh3]; exact upd_same _ _ _
  have q3 : ∀ q, h2.H q ≠ none → q ≠ i → h3.H q = h2.H q := fun q hq _ => by rw [eh3]; exact upd_other _ _ (by rintro rfl; exact hq hpa)
  have q4 : h3.T kv = some (.cont 3 []) := by rw [eh3]; exact upd_same _ _ _
  have q5 : ∀ t, h2.T t ≠ none → h3.T t = h2.T t := fun t ht => by rw [eh3]; exact upd_other _ _ (by rintro rfl; exact ht hkv)
  refine awp_cut (rl false [0, 1, 2, 1, 1, 2, 3, 3, 53]) 0 (?_ : Awp _ _ _ _ ⟨((.ptr i 0) :: AV.junk :: AV.junk :: ((.arr 2 ko D.length) :: AV.junk :: ((.v (.string key)) :: (.ptr pa 0) :: (jnk 3 ((.row 1 (akeys.map encS) none) :: (.v (.int .i64 (4 : Nat))) :: (.v (.int .i64 j)) :: (jnk 53 [])))))), [], ⟨upd (upd h2.H pa (some (AO.cells [.v (.string key), .v (.slice none 0 0)]))) pa (some (.cells [.v (.string key), .arr 3 kv 0])), upd h2.T kv (some (.cont 3 []))⟩⟩)
  rw [upd_upd, ← eh3, st_of q1]
  have W0 : ∀ b, VsM h2 i l b pa kv key [] (h3.st i l b) := fun b => ⟨st_at _ _ _ _, (upd_other _ _ hip).trans q2, fun q hq hqi => (upd_other _ _ hqi).trans (q3 q hq hqi), q5, hpa, hkv, q4, (fun v hv => by cases hv), (fun v hv => by cases hv)⟩
  clear eh3 q1 q2 q3 q4 q5
  (repeat (first | refine gO rfl ?_ | ((first | refine gM zM34 ?_ | (with_reducible refine wM ?_ ?_) | ((with_reducible refine xR ?_); refine uE 13 zM34 zPJE zPJP 66 rfl (by kernel_rfl) ?_)) <;> ((try with_reducible intro K1 hK1); simp only [go_sem, ↓reduceIte, reduceCtorEq, nA, nB, nC, nD, nE, nF] <;> and_intros <;> first | (apply hK1; clear hK1 K1) | (intros; first | omega | decide) | skip))))
  refine (g_range i l (a' + 1) 1 2 h3 hl (by omega) (by omega) (by omega) (by omega)).mono ?_; rintro _ _ ⟨no0, hno0, rfl, rfl⟩; apply hK1; clear hK1 K1
  (repeat (first | refine gO rfl ?_ | ((first | refine gM zM34 ?_ | (with_reducible refine wM ?_ ?_) | ((with_reducible refine xR ?_); refine uE 13 zM34 zPJE zPJP 66 rfl (by kernel_rfl) ?_)) <;> ((try with_reducible intro K1 hK1); simp only [go_sem, ↓reduceIte, reduceCtorEq, nA, nB, nC, nD, nE, nF] <;> and_intros <;> first | (apply hK1; clear hK1 K1) | (intros; first | omega | decide) | skip))))
  refine (g_pick i l (a' + 1 + 1) [0, 0, 10] none h3 hl (by omega) (by simp)).mono ?_; rintro _ _ ⟨at0, hat0, rfl, rfl⟩; apply hK1; clear hK1 K1
  have hat1 : 0 ≤ at0 ∧ at0 ≤ 10 := by simp at hat0; omega
  clear hat0
  (repeat (first | refine gO rfl ?_ | ((first | refine gM zM34 ?_ | (with_reducible refine wM ?_ ?_) | ((with_reducible refine xR ?_); refine uE 13 zM34 zPJE zPJP 66 rfl (by kernel_rfl) ?_)) <;> ((try with_reducible intro K1 hK1); simp only [go_sem, ↓reduceIte, reduceCtorEq, nA, nB, nC, nD, nE, nF] <;> and_intros <;> first | (apply hK1; clear hK1 K1) | (intros; first | omega | decide) | skip))))
  refine (g_range i l (a' + 1 + 1 + 1) 1 3 h3 hl (by omega) (by omega) (by omega) (by omega)).mono ?_; rintro _ _ ⟨c0, hc0, rfl, rfl⟩; apply hK1; clear hK1 K1
  obtain ⟨cn, rfl⟩ : ∃ cn : Nat, c0 = (cn : Int) := ⟨c0.toNat, by omega⟩
  (repeat (first | refine gO rfl ?_ | ((first | refine gM zM34 ?_ | (with_reducible refine wM ?_ ?_) | ((with_reducible refine xR ?_); refine uE 13 zM34 zPJE zPJP 66 rfl (by kernel_rfl) ?_)) <;> ((try with_reducible intro K1 hK1); simp only [go_sem, ↓reduceIte, reduceCtorEq, nA, nB, nC, nD, nE, nF] <;> and_intros <;> first | (apply hK1; clear hK1 K1) | (intros; first | omega | decide) | skip))))
  have W1 := W0 (a' + 1 + 1 + 1 + 1)
  generalize h3.st i l (a' + 1 + 1 + 1 + 1) = h4 at *
  clear W0
  refine awp_loopC (rl false [0, 1, 2, 1, 2, 3, 1, 3, 13, 2, 38]) 0 (fun g s => ∃ (k : Nat) (V : List VD) (no at1 a4 : Int) (h5 : Hp), g + k = cn ∧ V.length = k ∧ (0 ≤ no ∧ no ≤ 2 + k * 2) ∧ (0 ≤ at1 ∧ at1 ≤ 10 + k * 50) ∧ (a' + 4 ≤ a4 ∧ a4 ≤ a' + 4 + k * 34) ∧ VsM h2 i l a4 pa kv key V h5 ∧
   s = ⟨((.ptr i 0) :: AV.junk :: AV.junk :: ((.arr 2 ko D.length) :: AV.junk :: AV.junk :: ((.ptr pa 0) :: (.v (.int .i64 no)) :: (.v (.int .i64 at1)) :: AV.junk :: ((.row 1 (akeys.map encS) none) :: (.v (.int .i64 (4 : Nat))) :: (.v (.int .i64 j)) :: (jnk 13 ((.v (.int .i64 cn)) :: (.v (.int .i64 k)) :: (jnk 38 []))))))), [], h5⟩) cn ⟨0, [], no0, at0, _, h4, by omega, rfl, by omega, by omega, by omega, W1, rfl⟩ ?_
  clear W1 hno0 hat1 no0 at0
  rintro g2 _ ⟨k, V, no, at1, a4, h5, hk, hVl, hno, hat, ha4, W, rfl⟩
  (repeat (first | refine gO rfl ?_ | ((first | refine gM zM34 ?_ | (with_reducible refine wM ?_ ?_) | ((with_reducible refine xR ?_); refine uE 13 zM34 zPJE zPJP 66 rfl (by kernel_rfl) ?_)) <;> ((try with_reducible intro K1 hK1); simp only [go_sem, ↓reduceIte, reduceCtorEq, nA, nB, nC, nD, nE, nF] <;> and_intros <;> first | (apply hK1; clear hK1 K1) | (intros; first | omega | decide) | skip))))
  refine awp_cond (t := _) rfl (fun h6 => ?_) (fun h6 => ?_)
  ·simp only [decide_eq_true_eq] at h6
   first | refine gO rfl ?_ | ((first | refine gM zM34 ?_ | (with_reducible refine wM ?_ ?_) | ((with_reducible refine xR ?_); refine uE 13 zM34 zPJE zPJP 66 rfl (by kernel_rfl) ?_)) <;> ((try with_reducible intro K1 hK1); simp only [go_sem, ↓reduceIte, reduceCtorEq, nA, nB, nC, nD, nE, nF] <;> and_intros <;> first | (apply hK1; clear hK1 K1) | (intros; first | omega | decide | (simp_all <;> omega)) | skip))
   first | refine gO rfl ?_ | ((first | refine gM zM34 ?_ | (with_reducible refine wM ?_ ?_) | ((with_reducible refine xR ?_); refine uE 13 zM34 zPJE zPJP 66 rfl (by kernel_rfl) ?_)) <;> ((try with_reducible intro K1 hK1); simp only [go_sem, ↓reduceIte, reduceCtorEq, nA, nB, nC, nD, nE, nF] <;> and_intros <;> first | (apply hK1; clear hK1 K1) | (intros; first | omega | decide | (simp_all <;> omega)) | skip))
   first | refine gO rfl ?_ | ((first | refine gM zM34 ?_ | (with_reducible refine wM ?_ ?_) | ((with_reducible refine xR ?_); refine uE 13 zM34 zPJE zPJP 66 rfl (by kernel_rfl) ?_)) <;> ((try with_reducible intro K1 hK1); simp only [go_sem, ↓reduceIte, reduceCtorEq, nA, nB, nC, nD, nE, nF] <;> and_intros <;> first | (apply hK1; clear hK1 K1) | (intros; first | omega | decide | (simp_all <;> omega)) | skip))
   first | refine gO rfl ?_ | ((first | refine gM zM34 ?_ | (with_reducible refine wM ?_ ?_) | ((with_reducible refine xR ?_); refine uE 13 zM34 zPJE zPJP 66 rfl (by kernel_rfl) ?_)) <;> ((try with_reducible intro K1 hK1); simp only [go_sem, ↓reduceIte, reduceCtorEq, nA, nB, nC, nD, nE, nF] <;> and_intros <;> first | (apply hK1; clear hK1 K1) | (intros; first | omega | decide | (simp_all <;> omega)) | skip))
   first | refine gO rfl ?_ | ((first | refine gM zM34 ?_ | (with_reducible refine wM ?_ ?_) | ((with_reducible refine xR ?_); refine uE 13 zM34 zPJE zPJP 66 rfl (by kernel_rfl) ?_)) <;> ((try with_reducible intro K1 hK1); simp only [go_sem, ↓reduceIte, reduceCtorEq, nA, nB, nC, nD, nE, nF] <;> and_intros <;> first | (apply hK1; clear hK1 K1) | (intros; first | omega | decide | (simp_all <;> omega)) | skip))
   (repeat (first | refine gQ rfl ?_ | ((first | refine gM zM34 ?_ | (with_reducible refine wM ?_ ?_) | ((with_reducible refine xR ?_); refine uE 13 zM34 zPJE zPJP 66 rfl (by kernel_rfl) ?_)) <;> ((try with_reducible intro K1 hK1); simp only [go_sem, ↓reduceIte, reduceCtorEq, nA, nB, nC, nD, nE, nF] <;> and_intros <;> first | (apply hK1; clear hK1 K1) | (intros; first | omega | decide | (simp_all <;> omega)) | skip))))
   refine awp_ownLoc 0 2 7 rfl rfl (fun kf hkf => ?_)
   replace hkf : h5.T kf = none := hkf
   simp only [List.set_cons_zero, List.set_cons_succ]
   rw [st_of W.st]
   (repeat (first | refine gO rfl ?_ | ((first | refine gM zM34 ?_ | (with_reducible refine wM ?_ ?_) | ((with_reducible refine xR ?_); refine uE 13 zM34 zPJE zPJP 66 rfl (by kernel_rfl) ?_)) <;> ((try with_reducible intro K1 hK1); simp only [go_sem, ↓reduceIte, reduceCtorEq, nA, nB, nC, nD, nE, nF] <;> and_intros <;> first | (apply hK1; clear hK1 K1) | (intros; first | omega | decide) | skip))))
   refine (g_range i l a4 1 3 ⟨h5.H, upd h5.T kf (some (.tail 0))⟩ hl (by omega) (by omega) (by omega) (by omega)).mono ?_; rintro _ _ ⟨f0, hf0, rfl, rfl⟩; apply hK1; clear hK1 K1
   obtain ⟨fn, rfl⟩ : ∃ fn : Nat, f0 = (fn : Int) := ⟨f0.toNat, by omega⟩
   (repeat (first | refine gO rfl ?_ | ((first | refine gM zM34 ?_ | (with_reducible refine wM ?_ ?_) | ((with_reducible refine xR ?_); refine uE 13 zM34 zPJE zPJP 66 rfl (by kernel_rfl) ?_)) <;> ((try with_reducible intro K1 hK1); simp only [go_sem, ↓reduceIte, reduceCtorEq, nA, nB, nC, nD, nE, nF] <;> and_intros <;> first | (apply hK1; clear hK1 K1) | (intros; first | omega | decide) | skip))))
   refine awp_loopC (rl false [0, 1, 2, 1, 2, 7, 13, 2, 5, 2, 31]) 1 (fun g s => ∃ (m : Nat) (fs : List Fm) (a5 : Int), g + m = fn ∧ fs.length = m ∧ (∀ f ∈ fs, FmOk f) ∧ (a4 + 1 ≤ a5 ∧ a5 ≤ a4 + 1 + m * 10) ∧
    s = ⟨((.ptr i 0) :: AV.junk :: AV.junk :: ((.arr 2 ko D.length) :: AV.junk :: AV.junk :: ((.ptr pa 0) :: (.v (.int .i64 no)) :: (.v (.int .i64 at1)) :: (.loc 0 0) :: (.row 1 (akeys.map encS) none) :: (.v (.int .i64 (4 : Nat))) :: (.v (.int .i64 j)) :: (jnk 13 ((.v (.int .i64 cn)) :: (.v (.int .i64 k)) :: (jnk 5 ((.v (.int .i64 fn)) :: (.v (.int .i64 m)) :: (jnk 31 [])))))))), [[.v (.int .i64 no), .v (.int .i64 at1), .row 7 (fs.map encFm) (some kf)]], Hp.st ⟨h5.H, upd h5.T kf (some (.tail fs.length))⟩ i l a5⟩) fn ⟨0, [], a4 + 1, by omega, rfl, (fun f hf => by cases hf), by omega, rfl⟩ ?_
   rintro g3 _ ⟨m, fs, a5, hm, hfl, hfs, ha5, rfl⟩
   (repeat (first | refine gO rfl ?_ | ((first | refine gM zM34 ?_ | (with_reducible refine wM ?_ ?_) | ((with_reducible refine xR ?_); refine uE 13 zM34 zPJE zPJP 66 rfl (by kernel_rfl) ?_)) <;> ((try with_reducible intro K1 hK1); simp only [go_sem, ↓reduceIte, reduceCtorEq, nA, nB, nC, nD, nE, nF] <;> and_intros <;> first | (apply hK1; clear hK1 K1) | (intros; first | omega | decide) | skip))))
   refine awp_cond (t := _) rfl (fun h7 => ?_) (fun h7 => ?_)
   ·simp only [decide_eq_true_eq] at h7
    (repeat (first | refine gO rfl ?_ | ((first | refine gM zM34 ?_ | (with_reducible refine wM ?_ ?_) | ((with_reducible refine xR ?_); refine uE 13 zM34 zPJE zPJP 66 rfl (by kernel_rfl) ?_)) <;> ((try with_reducible intro K1 hK1); simp only [go_sem, ↓reduceIte, reduceCtorEq, nA, nB, nC, nD, nE, nF] <;> and_intros <;> first | (apply hK1; clear hK1 K1) | (intros; first | omega | decide) | skip))))
    refine (g_rightForm i l a5 ⟨h5.H, upd h5.T kf (some (.tail fs.length))⟩ hl (by omega)).mono ?_; rintro _ _ ⟨fm, a6, hfm, ha6, rfl, rfl⟩; apply hK1; clear hK1 K1
    have hcm : (fs.map encFm).length = fs.length := List.length_map _
    have hT : ∀ b, (Hp.st ⟨h5.H, upd h5.T kf (some (.tail fs.length))⟩ i l b).T kf = some (.tail fs.length) := fun b => upd_same _ _ _
    have hst : ∀ (c : Option TO) (b : Int), ({ H := (Hp.st ⟨h5.H, upd h5.T kf (some (.tail fs.length))⟩ i l b).H, T := upd (Hp.st ⟨h5.H, upd h5.T kf (some (.tail fs.length))⟩ i l b).T kf c } : Hp) = Hp.st ⟨h5.H, upd h5.T kf c⟩ i l b := fun c b => by
     show (⟨_, upd (upd h5.T kf _) kf c⟩ : Hp) = _
     rw [upd_upd]; rfl
    simp only [encFm]
    (repeat (first | refine gO rfl ?_ | ((first | refine gM zM34 ?_ | (with_reducible refine wM ?_ ?_) | ((with_reducible refine xR ?_); refine uE 13 zM34 zPJE zPJP 66 rfl (by kernel_rfl) ?_)) <;> ((try with_reducible intro K1 hK1); simp only [go_sem, ↓reduceIte, reduceCtorEq, nA, nB, nC, nD, nE, nF, hcm, hT] <;> and_intros <;> first | (apply hK1; clear hK1 K1) | (intros; first | omega | decide) | skip))))
    all_goals try with_reducible rfl
    (repeat (first | refine gO rfl ?_ | ((first | refine gM zM34 ?_ | (with_reducible refine wM ?_ ?_) | ((with_reducible refine xR ?_); refine uE 13 zM34 zPJE zPJP 66 rfl (by kernel_rfl) ?_)) <;> ((try with_reducible intro K1 hK1); simp only [go_sem, ↓reduceIte, reduceCtorEq, nA, nB, nC, nD, nE, nF, hcm, hT] <;> and_intros <;> first | (apply hK1; clear hK1 K1) | (intros; first | omega | decide) | skip))))
    refine ⟨g3 - 1, by omega, m + 1, fs ++ [fm], a6, by omega, by rw [List.length_append, List.length_singleton, hfl], fun f hf => ?_, (by omega : a4 + 1 ≤ a6 ∧ a6 ≤ a4 + 1 + ((m + 1 : Nat) : Int) * 10), ?_⟩
    ·rcases List.mem_append.1 hf with hf | hf
     ·exact hfs f hf
     ·rw [List.mem_singleton.1 hf]; exact hfm
    ·rw [List.map_append, List.length_append, List.length_singleton, hst]
     rfl
   ·simp only [decide_eq_false_iff_not] at h7
    have hmf : m = fn := by omega
    subst hmf
    have hkv5 : h5.T kv ≠ none := by rw [W.tkv]; exact nofun
    have hkvf : kv ≠ kf := by rintro rfl; exact hkv5 hkf
    obtain ⟨h6, eh6⟩ : ∃ h6 : Hp, h6 = Hp.st ⟨h5.H, upd h5.T kf (some (.tail fs.length))⟩ i l a5 := ⟨_, rfl⟩
    have r1 : h6.H i = some (strm l a5) := by rw [eh6]; exact st_at _ _ _ _
    have r2 : h6.H pa = some (.cells [.v (.string key), .arr 3 kv V.length]) := by rw [eh6]; exact (upd_other _ _ hip).trans W.hp
    have r3 : ∀ q, h2.H q ≠ none → q ≠ i → h6.H q = h2.H q := fun q hq hqi => by rw [eh6]; exact (upd_other _ _ hqi).trans (W.hH q hq hqi)
    have r4 : h6.T kv = some (.cont 3 (V.map rowV)) := by rw [eh6]; exact (upd_other _ _ hkvf).trans W.tkv
    have r5 : h6.T kf = some (.tail fs.length) := by rw [eh6]; exact upd_same _ _ _
    have r6 : ∀ t, h5.T t ≠ none → h6.T t = h5.T t := fun t ht => by rw [eh6]; exact upd_other _ _ (by rintro rfl; exact ht hkf)
    rw [← eh6]
    clear eh6
    have hVm : (V.map rowV).length = V.length := List.length_map _
    (repeat (first | refine gO rfl ?_ | ((first | refine gM zM34 ?_ | (with_reducible refine wM ?_ ?_) | ((with_reducible refine xR ?_); refine uE 13 zM34 zPJE zPJP 66 rfl (by kernel_rfl) ?_)) <;> ((try with_reducible intro K1 hK1); simp only [go_sem, ↓reduceIte, reduceCtorEq, nA, nB, nC, nD, nE, nF, r2, r4, hVm] <;> and_intros <;> first | (apply hK1; clear hK1 K1) | (intros; first | omega | decide) | skip))))
    have hkvn : ∀ v ∈ V, v.2.2.2 ≠ kv := fun v hv e => by have := (W.tkf v hv).2; rw [e, W.tkv] at this; cases this
    have hkvk : kf ≠ kv := fun e => hkvf e.symm
    have hdn : VDok (no, at1, fs, kf) := ⟨by show 0 ≤ no ∧ no ≤ 100; omega, by show 0 ≤ at1 ∧ at1 ≤ 1000; omega, by show 1 ≤ fs.length ∧ fs.length ≤ 3; omega, hfs⟩
    obtain ⟨h7, eh7⟩ : ∃ h7 : Hp, h7 = ⟨upd h6.H pa (some (AO.cells [AV.v (Value.string key), AV.arr 3 kv (V.length + 1)])), upd h6.T kv (some (TO.cont 3 (List.map rowV V ++ [[.v (.int .i64 no), .v (.int .i64 at1), AV.row 7 (List.map encFm fs) (some kf)]])))⟩ := ⟨_, rfl⟩
    have W2 : VsM h2 i l a5 pa kv key (V ++ [(no, at1, fs, kf)]) h7 := ⟨by rw [eh7]; exact (upd_other _ _ hip.symm).trans r1, by rw [eh7, List.length_append]; exact upd_same _ _ _,
     fun q hq hqi => by rw [eh7]; exact (upd_other _ _ (by rintro rfl; exact hq W.pnew)).trans (r3 q hq hqi),
     fun t ht => by rw [eh7]; exact (upd_other _ _ (by rintro rfl; exact ht W.new)).trans ((r6 t (by rw [W.hT t ht]; exact ht)).trans (W.hT t ht)),
     W.pnew, W.new, by rw [eh7, List.map_append]; exact upd_same _ _ _,
     fun v hv => by
      rcases List.mem_append.1 hv with hv | hv
      ·refine ⟨(W.tkf v hv).1, ?_⟩
       rw [eh7]
       exact (upd_other _ _ (hkvn v hv)).trans ((r6 _ (by rw [(W.tkf v hv).2]; exact nofun)).trans (W.tkf v hv).2)
      ·rw [List.mem_singleton.1 hv]
       refine ⟨?_, ?_⟩
       ·show h2.T kf = none
        refine Classical.byContradiction fun hn => hn ?_
        rw [← W.hT kf hn]; exact hkf
       ·rw [eh7]
        exact (upd_other _ _ hkvk).trans r5,
     fun v hv => by
      rcases List.mem_append.1 hv with hv | hv
      ·exact W.ok v hv
      ·rw [List.mem_singleton.1 hv]; exact hdn⟩
    rw [← eh7, st_of W2.st]
    clear eh7 r1 r2 r3 r4 r5 r6 hdn hkvn W
    refine (g_range i l a5 1 2 h7 hl (by omega) (by omega) (by omega) (by omega)).mono ?_; rintro _ _ ⟨no1, hno1, rfl, rfl⟩; apply hK1; clear hK1 K1
    (repeat (first | refine gO rfl ?_ | ((first | refine gM zM34 ?_ | (with_reducible refine wM ?_ ?_) | ((with_reducible refine xR ?_); refine uE 13 zM34 zPJE zPJP 66 rfl (by kernel_rfl) ?_)) <;> ((try with_reducible intro K1 hK1); simp only [go_sem, ↓reduceIte, reduceCtorEq, nA, nB, nC, nD, nE, nF] <;> and_intros <;> first | (apply hK1; clear hK1 K1) | (intros; first | omega | decide) | skip))))
    refine (g_pick i l (a5 + 1) [1, 20, 50] none h7 hl (by omega) (by simp)).mono ?_; rintro _ _ ⟨at2, hat2, rfl, rfl⟩; apply hK1; clear hK1 K1
    have hat3 : 1 ≤ at2 ∧ at2 ≤ 50 := by simp at hat2; omega
    clear hat2
    (repeat (first | refine gO rfl ?_ | ((first | refine gM zM34 ?_ | (with_reducible refine wM ?_ ?_) | ((with_reducible refine xR ?_); refine uE 13 zM34 zPJE zPJP 66 rfl (by kernel_rfl) ?_)) <;> ((try with_reducible intro K1 hK1); simp only [go_sem, ↓reduceIte, reduceCtorEq, nA, nB, nC, nD, nE, nF] <;> and_intros <;> first | (apply hK1; clear hK1 K1) | (intros; first | omega | decide) | skip))))
    have W3 := W2.next hip (a5 + 1 + 1)
    generalize h7.st i l (a5 + 1 + 1) = h8 at *
    clear W2
    exact ⟨g2 - 1, by omega, k + 1, V ++ [(no, at1, fs, kf)], no + no1, at1 + at2, a5 + 1 + 1, h8, by omega, by rw [List.length_append, List.length_singleton, hVl], by omega, by omega, by omega, W3, rfl⟩
  ·simp only [decide_eq_false_iff_not] at h6
   have hkc : k = cn := by omega
   subst hkc
   have q6 := W.hp
   have q7 : h5.T ko = some (.cont 2 (D.map rowA)) := (W.hT ko (by rw [M2.tko]; exact nofun)).trans M2.tko
   have hDm : (D.map rowA).length = D.length := List.length_map _
   (repeat (first | refine gO rfl ?_ | ((first | refine gM zM34 ?_ | (with_reducible refine wM ?_ ?_) | ((with_reducible refine xR ?_); refine uE 13 zM34 zPJE zPJP 66 rfl (by kernel_rfl) ?_)) <;> ((try with_reducible intro K1 hK1); simp only [go_sem, ↓reduceIte, reduceCtorEq, nA, nB, nC, nD, nE, nF, q6, q7, hDm] <;> and_intros <;> first | (apply hK1; clear hK1 K1) | (intros; first | omega | decide) | skip))))
   have hkon : ko ≠ kv := by rintro rfl; rw [M2.tko] at hkv; cases hkv
   have hdd : ∀ d ∈ D, d.2.1 ≠ ko := fun d hd e => by have := (M2.tkv d hd).1; rw [e] at this; exact absurd (M2.tkv d hd).2.1 (by rw [e, M2.tko]; intro e2; injection e2 with e2; injection e2 with e2; cases e2)
   have M3 : AstM (h.st i l a) i l a4 ko (D ++ [(key, kv, V)]) ⟨h5.H, upd h5.T ko (some (TO.cont 2 (List.map rowA D ++ [[AV.v (Value.string key), AV.arr 3 kv V.length]])))⟩ := ⟨W.st,
    fun q hq hqi => by
     have e := M2.hH q hq hqi
     exact (W.hH q (by rw [e]; exact hq) hqi).trans e,
    fun t ht => by
     have e := M2.hT t ht
     exact (upd_other _ _ (by rintro rfl; exact ht M2.new)).trans ((W.hT t (by rw [e]; exact ht)).trans e),
    M2.new, by rw [List.map_append]; exact upd_same _ _ _,
    fun d hd => by
     rcases List.mem_append.1 hd with hd | hd
     ·obtain ⟨c1, c2, c3⟩ := M2.tkv d hd
      refine ⟨c1, (upd_other _ _ (hdd d hd)).trans ((W.hT _ (by rw [c2]; exact nofun)).trans c2), fun v hv => ?_⟩
      obtain ⟨c5, c4⟩ := c3 v hv
      refine ⟨c5, ?_⟩
      exact (upd_other _ _ (by intro e; rw [e, M2.tko] at c4; cases c4)).trans ((W.hT _ (by rw [c4]; exact nofun)).trans c4)
     ·rw [List.mem_singleton.1 hd]
      refine ⟨?_, (upd_other _ _ hkon.symm).trans W.tkv, fun v hv => ⟨?_, (upd_other _ _ ?_).trans (W.tkf v hv).2⟩⟩
      ·refine Classical.byContradiction fun hn => hn ?_
       rw [← M2.hT kv hn]; exact hkv
      ·refine Classical.byContradiction fun hn => hn ?_
       rw [← M2.hT _ hn]; exact (W.tkf v hv).1
      ·intro e; have h9 := (W.tkf v hv).1; rw [e, M2.tko] at h9; exact absurd h9 nofun,
    fun d hd => by
     rcases List.mem_append.1 hd with hd | hd
     ·exact M2.ok d hd
     ·rw [List.mem_singleton.1 hd]
      exact ⟨hsz, ⟨by show 1 ≤ V.length; omega, by show V.length ≤ 3; omega⟩, W.ok⟩,
    by
     rw [List.map_append]
     refine List.nodup_append.2 ⟨M2.nd, List.nodup_cons.2 ⟨by simp, List.nodup_nil⟩, fun x hx y hy e => ?_⟩
     obtain ⟨d, hd, rfl⟩ := List.mem_map.1 hx
     rw [List.mem_singleton.1 hy] at e
     have h9 := (M2.tkv d hd).2.1
     rw [show d.2.1 = kv from e, hkv] at h9
     exact absurd h9 nofun⟩
   exact ⟨g - 1, by omega, j + 1, D ++ [(key, kv, V)], a4, _, by omega, by rw [List.length_append, List.length_singleton]; omega, by omega, M3, by rw [List.length_append, List.length_singleton]; rfl⟩
 ·simp only [decide_eq_false_iff_not] at h5
  have hj4 : j = 4 := by omega
  subst hj4
  (repeat (first | refine gO rfl ?_ | ((first | refine gM zM34 ?_ | (with_reducible refine wM ?_ ?_) | ((with_reducible refine xR ?_); refine uE 13 zM34 zPJE zPJP 66 rfl (by kernel_rfl) ?_)) <;> ((try with_reducible intro K1 hK1); simp only [go_sem, ↓reduceIte, reduceCtorEq, nA, nB, nC, nD, nE, nF] <;> and_intros <;> first | (apply hK1; clear hK1 K1) | (intros; first | omega | decide) | skip))))
  simp only [Tryz.results43, go_sem, ↓reduceIte, reduceCtorEq, nA, nB, nC, nD, nE, nF]
  exact ⟨_, _, Weak.refl _, Hp.le.refl _, ko, D, a', by omega, by omega, M, rfl⟩
abbrev zPKE : List Nat := [0, 1, 2, 3, 4, 5, 6, 7, 8, 9]
abbrev zPKP : List (Nat × List Nat × List Nat) := [(10, [3], [11, 12])]
abbrev zPLE : List Nat := [0, 1, 2, 3, 4, 5]
abbrev zPLP : List (Nat × List Nat × List Nat) := [(6, [4], [7]), (8, [], [9, 10]), (11, [], [])]
attribute [go_sem] zPKE zPKP zPLE zPLP
structure AsT (h : Hp) (ko : Nat) (D : List AD) (T : Nat → Option TO) : Prop where
 hT : ∀ t, h.T t ≠ none → T t = h.T t
 new : h.T ko = none
 tko : T ko = some (.cont 2 (D.map rowA))
 tkv : ∀ d ∈ D, h.T d.2.1 = none ∧ T d.2.1 = some (.cont 3 (d.2.2.map rowV)) ∧ ∀ v ∈ d.2.2, h.T v.2.2.2 = none ∧ T v.2.2.2 = some (.tail v.2.2.1.length)
 ok : ∀ d ∈ D, ADok d
 nd : (D.map (·.2.1)).Nodup
theorem g_rightAssets2 (i : Nat) (l : List Int) (a : Int) (h : Hp) (hl : SOk l) (ha : 0 ≤ a ∧ a ≤ 10000) :
  ACalls Tryz.prog 43 [.ptr i 0] (h.st i l a) (fun r h' => ∃ (ko : Nat) (D : List AD) (a' : Int) (T : Nat → Option TO), D.length ≤ 4 ∧ (a ≤ a' ∧ a' ≤ a + 440) ∧ AsT h ko D T ∧ r = .arr 2 ko D.length ∧ h' = Hp.st ⟨h.H, T⟩ i l a') :=
 (g_rightAssets i l a h hl ha).gup fun r h' G w v ⟨ko, D, a', hD, ha', M, e⟩ hs hr => by
  have hle : Hp.le (Hp.st ⟨h.H, h'.T⟩ i l a') h' := ⟨fun q => by
    by_cases hq : q = i
    ·subst hq; right; rw [M.st]; exact st_at _ _ _ _
    ·by_cases h0 : h.H q = none
     ·left; exact (upd_other _ _ hq).trans h0
     ·right
      rw [M.hH q (by rw [show (h.st i l a).H q = h.H q from upd_other _ _ hq]; exact h0) hq]
      exact (upd_other _ _ hq).trans (upd_other _ _ hq).symm, fun t => .inr rfl⟩
  exact ⟨r, _, G, ⟨ko, D, a', h'.T, hD, ha', ⟨M.hT, M.new, M.tko, M.tkv, M.ok, M.nd⟩, e, rfl⟩, GLe.refl _, (Fr.refl _ _ _).less hle, hs.less hle, hr⟩
def F2 {α β : Type} (R : α → β → Prop) : List α → List β → Prop
 | [], [] => True
 | e :: E, x :: A => R e x ∧ F2 R E A
 | _, _ => False
theorem F2.map {α β γ : Type} {R : α → β → Prop} {f : γ → α} {g : γ → β} : ∀ (D : List γ), (∀ d ∈ D, R (f d) (g d)) → F2 R (D.map f) (D.map g)
 | [], _ => trivial
 | d :: D, h => ⟨h d List.mem_cons_self, F2.map D fun x hx => h x (List.mem_cons_of_mem _ hx)⟩
theorem F2.set {α β : Type} {R : α → β → Prop} {e : α} {x : β} (hr : R e x) : ∀ (E : List α) (A : List β) (j : Nat), F2 R E A → F2 R (E.set j e) (A.set j x)
 | [], [], _, _ => trivial
 | _ :: _, _ :: _, 0, h => ⟨hr, h.2⟩
 | _ :: E, _ :: A, j + 1, h => ⟨h.1, F2.set hr E A j h.2⟩
 | [], _ :: _, _, h => h.elim
 | _ :: _, [], _, h => h.elim
theorem F2.len {α β : Type} {R : α → β → Prop} : ∀ (E : List α) (A : List β), F2 R E A → E.length = A.length
 | [], [], _ => rfl
 | _ :: E, _ :: A, h => by rw [List.length_cons, List.length_cons, F2.len E A h.2]
 | [], _ :: _, h => h.elim
 | _ :: _, [], h => h.elim
theorem F2.get {α β : Type} {R : α → β → Prop} : ∀ (E : List α) (A : List β), F2 R E A → ∀ (j : Nat) (a : j < E.length) (b : j < A.length), R E[j] A[j]
 | [], [], _, j, a, _ => absurd a (Nat.not_lt_zero j)
 | _ :: _, _ :: _, h, 0, _, _ => h.1
 | _ :: E, _ :: A, h, j + 1, a, b => F2.get E A h.2 j (Nat.lt_of_succ_lt_succ a) (Nat.lt_of_succ_lt_succ b)
 | [], _ :: _, h, _, _, _ => h.elim
 | _ :: _, [], h, _, _, _ => h.elim
theorem F2.mono {α β : Type} {R S : α → β → Prop} (hm : ∀ e x, R e x → S e x) : ∀ (E : List α) (A : List β), F2 R E A → F2 S E A
 | [], [], _ => trivial
 | _ :: E, _ :: A, h => ⟨hm _ _ h.1, F2.mono hm E A h.2⟩
 | [], _ :: _, h => h.elim
 | _ :: _, [], h => h.elim
theorem RepL.ofz {G G' : Gh} {cs cs' : List AV} {us : List Value} (h : RepL G cs us) (hl : cs'.length = cs.length) (hr : ∀ j (a : j < cs.length) (b : j < cs'.length) x, Rep G cs[j] x → Rep G' cs'[j] x) : RepL G' cs' us :=
 ⟨by rw [h.1, hl], fun j a b => by
  obtain ⟨c1, c2⟩ := h.2 j (by omega) b
  exact ⟨hr j (by omega) a _ c1, c2⟩⟩
theorem F2.ofget {α β : Type} {R : α → β → Prop} : ∀ (E : List α) (A : List β), E.length = A.length → (∀ (j : Nat) (a : j < E.length) (b : j < A.length), R E[j] A[j]) → F2 R E A
 | [], [], _, _ => trivial
 | e :: E, x :: A, hl, h => ⟨h 0 (Nat.zero_lt_succ _) (Nat.zero_lt_succ _), F2.ofget E A (Nat.succ.inj hl) fun j a b => h (j + 1) (Nat.succ_lt_succ a) (Nat.succ_lt_succ b)⟩
 | [], _ :: _, hl, _ => by cases hl
 | _ :: _, [], hl, _ => by cases hl
theorem F2.flat {β : Type} {G G' : Gh} (z : Nat) (g : β → List AV) (E : List (List AV)) (A : List β) (hz : ∀ x, (g x).length = z) (h : F2 (fun e x => e.length = z ∧ ∀ us, RepL G e us → RepL G' (g x) us) E A) (us : List Value) (hu : RepL G E.flatten us) : RepL G' (A.map g).flatten us := by
 have hl := F2.len _ _ h
 refine RepL.flat (z := z) (by rw [List.length_map, hl]) (fun x hx => ?_) (fun i a b us hu => ?_) us hu
 ·obtain ⟨j, hj, rfl⟩ := List.mem_iff_getElem.1 hx
  exact (F2.get _ _ h j hj (by omega)).1
 ·rw [List.getElem_map]
  exact (F2.get _ _ h i a (by rw [List.length_map] at b; exact b)).2 us hu
def FzV (e : List AV) (v : Vn) : Prop := ∃ fv, e = [.v (.int .i64 v.no), .v (.int .i64 v.since), fv] ∧ ((∃ k, fv = .row 7 (v.forms.map encFm) k) ∨ fv = .v (.slice none 0 0) ∧ v.forms = [])
def FzA (h : Hp) (T : Nat → Option TO) (e : List AV) (x : As) : Prop := ∃ av, e = [.v (.string x.key), av] ∧ ((av = .v (.slice none 0 0) ∧ x.vs = []) ∨ ∃ kv E, av = .arr 3 kv E.length ∧ h.T kv = none ∧ T kv = some (.cont 3 E) ∧ F2 FzV E x.vs)
structure AsZ (h : Hp) (ko : Nat) (E : List (List AV)) (A : List As) (T : Nat → Option TO) : Prop where
 hT : ∀ t, h.T t ≠ none → T t = h.T t
 new : h.T ko = none
 tko : T ko = some (.cont 2 E)
 all : F2 (FzA h T) E A
 ok : ∀ x ∈ A, AsOk x
 len : A.length ≤ 4
theorem FzV.freeze {G G' : Gh} (hle : GLe G G') {e : List AV} {v : Vn} (h : FzV e v) : e.length = 3 ∧ ∀ us, RepL G e us → RepL G' (encVn v) us := by
 obtain ⟨fv, rfl, hf⟩ := h
 refine ⟨rfl, fun us hu => hu.ofz rfl fun j a b x hx => ?_⟩
 match j, a, b, hx with
 | 0, _, _, hx => exact hx.mono hle
 | 1, _, _, hx => exact hx.mono hle
 | 2, _, _, hx =>
  rcases hf with ⟨k, rfl⟩ | ⟨rfl, h0⟩
  ·exact Weak.row _ _ _ G' x (Rep.mono hle hx)
  ·show Rep G' (.row 7 (v.forms.map encFm) none) x
   rw [h0]
   exact Weak.nil 7 0 0 ⟨rfl, rfl⟩ G' x (Rep.mono hle hx)
theorem FzA.freeze {G G' : Gh} {h : Hp} {T : Nat → Option TO} (hle : GLe G G') (hf : Fzs T (fun k => h.T k = none) G G') {e : List AV} {x : As} (hx : FzA h T e x) : e.length = 2 ∧ ∀ us, RepL G e us → RepL G' (encAs x) us := by
 obtain ⟨av, rfl, ha⟩ := hx
 refine ⟨rfl, fun us hu => hu.ofz rfl fun j a b y hy => ?_⟩
 match j, a, b, hy with
 | 0, _, _, hy => exact Rep.mono hle hy
 | 1, _, _, hy =>
  show Rep G' (.row 3 (x.vs.map encVn) none) y
  rcases ha with ⟨rfl, h0⟩ | ⟨kv, E, rfl, hk, hT, h2⟩
  ·rw [h0]
   exact Weak.nil 3 0 0 ⟨rfl, rfl⟩ G' y (Rep.mono hle hy)
  ·refine hf kv 3 E y hk hT hy _ (by rw [List.length_map, F2.len _ _ h2]) (fun z hz => ?_) (F2.flat 3 encVn E x.vs (fun _ => rfl) (F2.mono (fun e x hx => hx.freeze hle) _ _ h2))
   obtain ⟨v, _, rfl⟩ := List.mem_map.1 hz
   rfl
def vnD (v : VD) : Vn := ⟨v.1, v.2.1, v.2.2.1⟩
def asD (d : AD) : As := ⟨d.1, d.2.2.map vnD⟩
theorem VDok.ok {v : VD} (h : VDok v) : VnOk (vnD v) := by
 obtain ⟨⟨h1, h2⟩, ⟨h3, h4⟩, ⟨h5, h6⟩, h7⟩ := h
 exact ⟨⟨by show _ ≤ v.1; omega, by show v.1 ≤ _; omega⟩, ⟨by show _ ≤ v.2.1; omega, by show v.2.1 ≤ _; omega⟩, by show v.2.2.1.length ≤ 10; omega, h7⟩
theorem ADok.ok {d : AD} (h : ADok d) : AsOk (asD d) := by
 obtain ⟨h1, ⟨h2, h3⟩, h4⟩ := h
 refine ⟨by show d.1.size ≤ 4; omega, by show (d.2.2.map vnD).length ≤ 10; rw [List.length_map]; omega, fun v hv => ?_⟩
 obtain ⟨w, hw, rfl⟩ := List.mem_map.1 hv
 exact (h4 w hw).ok
theorem rowV_fz (v : VD) : FzV (rowV v) (vnD v) := ⟨_, rfl, .inl ⟨_, rfl⟩⟩
theorem AsT.fz {h : Hp} {ko : Nat} {D : List AD} {T : Nat → Option TO} (M : AsT h ko D T) (d : AD) (hd : d ∈ D) : FzA h T (rowA d) (asD d) :=
 ⟨_, rfl, .inr ⟨d.2.1, d.2.2.map rowV, by rw [List.length_map], (M.tkv d hd).1, (M.tkv d hd).2.1, F2.map _ fun v _ => rowV_fz v⟩⟩
theorem AsT.asZ {h : Hp} {ko : Nat} {D : List AD} {T : Nat → Option TO} (M : AsT h ko D T) (hD : D.length ≤ 4) : AsZ h ko (D.map rowA) (D.map asD) T :=
 ⟨M.hT, M.new, M.tko, F2.map _ fun d hd => M.fz d hd, fun x hx => by
  obtain ⟨d, hd, rfl⟩ := List.mem_map.1 hx
  exact (M.ok d hd).ok, by rw [List.length_map]; exact hD⟩
theorem FzA.upd {h : Hp} {T T' : Nat → Option TO} {e : List AV} {x : As} (hx : FzA h T e x) (hT : ∀ k E, T k = some (.cont 3 E) → T' k = some (.cont 3 E)) : FzA h T' e x := by
 obtain ⟨av, he, ha⟩ := hx
 refine ⟨av, he, ?_⟩
 rcases ha with ha | ⟨kv, E, h1, h2, h3, h4⟩
 ·exact .inl ha
 ·exact .inr ⟨kv, E, h1, h2, hT _ _ h3, h4⟩
theorem AsT.setA {h : Hp} {ko : Nat} {D : List AD} {T : Nat → Option TO} (M : AsT h ko D T) (hD : D.length ≤ 4) (xn : Nat) (e : List AV) (x : As) (he : FzA h T e x) (hx : AsOk x) :
  AsZ h ko ((D.map rowA).set xn e) ((D.map asD).set xn x) (upd T ko (some (.cont 2 ((D.map rowA).set xn e)))) := by
 have hu : ∀ k E, T k = some (.cont 3 E) → upd T ko (some (.cont 2 ((D.map rowA).set xn e))) k = some (.cont 3 E) := fun k E hk => by
  rw [upd_other _ _ (by rintro rfl; rw [M.tko] at hk; injection hk with hk; injection hk with hk; cases hk)]; exact hk
 refine ⟨fun t ht => (upd_other _ _ (by rintro rfl; exact ht M.new)).trans (M.hT t ht), M.new, upd_same _ _ _, F2.set (he.upd hu) _ _ _ (F2.map _ fun d hd => (M.fz d hd).upd hu), fun y hy => ?_, by rw [List.length_set, List.length_map]; exact hD⟩
 rcases List.mem_or_eq_of_mem_set hy with hy | rfl
 ·obtain ⟨d, hd, rfl⟩ := List.mem_map.1 hy
  exact (M.ok d hd).ok
 ·exact hx
theorem nodup_at {α β : Type} (f : α → β) : ∀ (D : List α), (D.map f).Nodup → ∀ (i j : Nat) (a : i < D.length) (b : j < D.length), f D[i] = f D[j] → i = j
 | [], _, i, _, a, _, _ => absurd a (Nat.not_lt_zero i)
 | _ :: _, _, 0, 0, _, _, _ => rfl
 | _ :: D, h, 0, j + 1, _, b, e => absurd (List.mem_map.2 ⟨D[j]'(Nat.lt_of_succ_lt_succ b), List.getElem_mem _, e.symm⟩) (List.nodup_cons.1 h).1
 | _ :: D, h, i + 1, 0, a, _, e => absurd (List.mem_map.2 ⟨D[i]'(Nat.lt_of_succ_lt_succ a), List.getElem_mem _, e⟩) (List.nodup_cons.1 h).1
 | _ :: D, h, i + 1, j + 1, a, b, e => congrArg (· + 1) (nodup_at f D (List.nodup_cons.1 h).2 i j (Nat.lt_of_succ_lt_succ a) (Nat.lt_of_succ_lt_succ b) e)
theorem AsT.setV {h : Hp} {ko : Nat} {D : List AD} {T T1 : Nat → Option TO} (M : AsT h ko D T) (hD : D.length ≤ 4) (h1 : ∀ t z E, T t = some (.cont z E) → T1 t = some (.cont z E)) (h2 : ∀ t, h.T t ≠ none → T1 t = T t) (xn : Nat) (hxn : xn < D.length) (key : ByteArray) (kv : Nat) (V : List VD) (hd : D[xn] = (key, kv, V))
  (yn : Nat) (e : List AV) (v : Vn) (he : FzV e v) (hv : VnOk v) :
  AsZ h ko (D.map rowA) ((D.map asD).set xn ⟨key, (V.map vnD).set yn v⟩) (upd T1 kv (some (.cont 3 ((V.map rowV).set yn e)))) := by
 have hm := List.getElem_mem hxn
 rw [hd] at hm
 have hk := M.tkv _ hm
 have hok := M.ok _ hm
 refine ⟨fun t ht => (upd_other _ _ (by rintro rfl; exact ht hk.1)).trans ((h2 t ht).trans (M.hT t ht)), M.new, (upd_other _ _ ?_).trans (h1 _ _ _ M.tko), ?_, fun y hy => ?_, by rw [List.length_set, List.length_map]; exact hD⟩
 ·rintro rfl
  have h9 := hk.2.1
  rw [M.tko] at h9
  injection h9 with h9; injection h9 with h9; cases h9
 ·refine F2.ofget _ _ (by rw [List.length_map, List.length_set, List.length_map]) fun j a b => ?_
  rw [List.length_map] at a
  rw [List.getElem_map, List.getElem_set]
  by_cases hj : xn = j
  ·subst hj
   rw [if_pos rfl, hd]
   exact ⟨_, rfl, .inr ⟨kv, (V.map rowV).set yn e, by rw [List.length_set, List.length_map], hk.1, upd_same _ _ _, F2.set he _ _ _ (F2.map _ fun w _ => rowV_fz w)⟩⟩
  ·rw [if_neg hj, List.getElem_map]
   have hn : D[j].2.1 ≠ kv := fun e9 => by
    exact hj (nodup_at (fun d : AD => d.2.1) D M.nd xn j hxn a (by show D[xn].2.1 = D[j].2.1; rw [hd]; exact e9.symm))
   have hjm := List.getElem_mem a
   exact ⟨_, rfl, .inr ⟨D[j].2.1, D[j].2.2.map rowV, congrArg _ (List.length_map _).symm, (M.tkv _ hjm).1, (upd_other _ _ hn).trans (h1 _ _ _ (M.tkv _ hjm).2.1), F2.map _ fun w _ => rowV_fz w⟩⟩
 ·rcases List.mem_or_eq_of_mem_set hy with hy | rfl
  ·obtain ⟨d, hd, rfl⟩ := List.mem_map.1 hy
   exact (M.ok d hd).ok
  ·have h3 : (asD (key, kv, V)).vs = V.map vnD := rfl
   have h4 := hok.ok
   refine ⟨h4.key, by show ((V.map vnD).set yn v).length ≤ 10; rw [List.length_set]; exact h4.len, fun w hw => ?_⟩
   rcases List.mem_or_eq_of_mem_set hw with hw | rfl
   ·exact h4.vs w hw
   ·exact hv
def flawk : List ByteArray := [⟨#[]⟩, ⟨#[105, 97]⟩, ⟨#[122, 122]⟩, ⟨#[65]⟩]
theorem flawk_sz : ∀ s ∈ flawk, s.size ≤ 2 := by decide
theorem g_assets0 (i : Nat) (l : List Int) (a : Int) (h : Hp) (hl : SOk l) (ha : 0 ≤ a ∧ a ≤ 10000) :
  ACalls Tryz.prog 10 [.ptr i 0] (h.st i l a) (fun r h' => ∃ (ko : Nat) (E : List (List AV)) (A : List As) (a' : Int) (T : Nat → Option TO), (a ≤ a' ∧ a' ≤ a + 500) ∧ AsZ h ko E A T ∧ r = .arr 2 ko E.length ∧ h' = Hp.st ⟨h.H, T⟩ i l a') := by
 have hak : [[AV.v (.string ⟨#[]⟩)], [.v (.string ⟨#[105, 97]⟩)], [.v (.string ⟨#[122, 122]⟩)], [.v (.string ⟨#[65]⟩)]] = flawk.map encS := rfl
 refine gE Tryz.func10 rfl (by kernel_rfl) 76 rfl fun c => ?_
 (repeat (first | refine gO rfl ?_ | ((first | refine gR ?_ | (with_reducible refine wM ?_ ?_) | ((with_reducible refine xS ?_); refine uD 4 zM35 zPKE zPKP 77 rfl (by kernel_rfl) ?_) | ((with_reducible refine xR ?_); refine uE 12 zM35 zPLE zPLP 77 rfl (by kernel_rfl) ?_)) <;> ((try with_reducible intro K1 hK1); simp only [go_sem, ↓reduceIte, reduceCtorEq, nA, nB, nC, nD, nE, nF] <;> and_intros <;> first | (apply hK1; clear hK1 K1) | (intros; first | omega | decide) | skip))))
 refine (g_rightAssets2 i l a h hl ha).mono ?_; rintro _ _ ⟨ko, D, a', T, hD, ha', M, rfl, rfl⟩; apply hK1; clear hK1 K1
 by_cases hD0 : D.length = 0
 ·have d0 : decide ((0 : Int) < (D.length : Int)) = false := decide_eq_false (by omega)
  (repeat (first | refine gO rfl ?_ | ((first | refine gR ?_ | (with_reducible refine wM ?_ ?_) | ((with_reducible refine xS ?_); refine uD 4 zM35 zPKE zPKP 77 rfl (by kernel_rfl) ?_) | ((with_reducible refine xR ?_); refine uE 12 zM35 zPLE zPLP 77 rfl (by kernel_rfl) ?_)) <;> ((try with_reducible intro K1 hK1); simp only [go_sem, ↓reduceIte, reduceCtorEq, nA, nB, nC, nD, nE, nF, d0] <;> and_intros <;> first | (apply hK1; clear hK1 K1) | (intros; first | omega | decide) | skip))))
  refine awp_cond (t := _) rfl (fun h9 => by cases h9) (fun _ => ?_)
  (repeat (first | refine gO rfl ?_ | ((first | refine gR ?_ | (with_reducible refine wM ?_ ?_) | ((with_reducible refine xS ?_); refine uD 4 zM35 zPKE zPKP 77 rfl (by kernel_rfl) ?_) | ((with_reducible refine xR ?_); refine uE 12 zM35 zPLE zPLP 77 rfl (by kernel_rfl) ?_)) <;> ((try with_reducible intro K1 hK1); simp only [go_sem, ↓reduceIte, reduceCtorEq, nA, nB, nC, nD, nE, nF] <;> and_intros <;> first | (apply hK1; clear hK1 K1) | (intros; first | omega | decide) | skip))))
  simp only [Tryz.results10, go_sem, ↓reduceIte, reduceCtorEq, nA, nB, nC, nD, nE, nF]
  exact ⟨_, _, Weak.refl _, Hp.le.refl _, ko, _, _, a', T, by omega, M.asZ hD, by rw [List.length_map], rfl⟩
 have d0 : decide ((0 : Int) < (D.length : Int)) = true := decide_eq_true (by omega)
 (repeat (first | refine gO rfl ?_ | ((first | refine gR ?_ | (with_reducible refine wM ?_ ?_) | ((with_reducible refine xS ?_); refine uD 4 zM35 zPKE zPKP 77 rfl (by kernel_rfl) ?_) | ((with_reducible refine xR ?_); refine uE 12 zM35 zPLE zPLP 77 rfl (by kernel_rfl) ?_)) <;> ((try with_reducible intro K1 hK1); simp only [go_sem, ↓reduceIte, reduceCtorEq, nA, nB, nC, nD, nE, nF, d0] <;> and_intros <;> first | (apply hK1; clear hK1 K1) | (intros; first | omega | decide) | skip))))
 ·refine (g_flip i l a' 10 ⟨h.H, T⟩ hl (by omega) (by omega)).mono ?_
  rintro _ _ ⟨b, rfl, rfl⟩
  refine ⟨rfl, ?_⟩
  apply hK1; clear hK1 K1
  (repeat (first | refine gO rfl ?_ | ((first | refine gR ?_ | (with_reducible refine wM ?_ ?_) | ((with_reducible refine xS ?_); refine uD 4 zM35 zPKE zPKP 77 rfl (by kernel_rfl) ?_) | ((with_reducible refine xR ?_); refine uE 12 zM35 zPLE zPLP 77 rfl (by kernel_rfl) ?_)) <;> ((try with_reducible intro K1 hK1); simp only [go_sem, ↓reduceIte, reduceCtorEq, nA, nB, nC, nD, nE, nF] <;> and_intros <;> first | (apply hK1; clear hK1 K1) | (intros; first | omega | decide) | skip))))
  cases b
  ·refine awp_cond (t := _) rfl (fun h9 => by cases h9) (fun _ => ?_)
   (repeat (first | refine gO rfl ?_ | ((first | refine gR ?_ | (with_reducible refine wM ?_ ?_) | ((with_reducible refine xS ?_); refine uD 4 zM35 zPKE zPKP 77 rfl (by kernel_rfl) ?_) | ((with_reducible refine xR ?_); refine uE 12 zM35 zPLE zPLP 77 rfl (by kernel_rfl) ?_)) <;> ((try with_reducible intro K1 hK1); simp only [go_sem, ↓reduceIte, reduceCtorEq, nA, nB, nC, nD, nE, nF] <;> and_intros <;> first | (apply hK1; clear hK1 K1) | (intros; first | omega | decide) | skip))))
   simp only [Tryz.results10, go_sem, ↓reduceIte, reduceCtorEq, nA, nB, nC, nD, nE, nF]
   exact ⟨_, _, Weak.refl _, Hp.le.refl _, ko, _, _, a' + 1, T, by omega, M.asZ hD, by rw [List.length_map], rfl⟩
  refine awp_join (rl false [3, 1, 73]) 0 (fun s => ∃ (E : List (List AV)) (A : List As) (a2 : Int) (T2 : Nat → Option TO), (a' ≤ a2 ∧ a2 ≤ a' + 40) ∧ AsZ h ko E A T2 ∧
   s = ⟨((jnk 3 ((.arr 2 ko E.length) :: (jnk 73 [])))), [], Hp.st ⟨h.H, T2⟩ i l a2⟩) ?_ ?_
  rotate_left
  ·rintro _ ⟨E, A, a2, T2, ha2, Z, rfl⟩
   (repeat (first | refine gO rfl ?_ | ((first | refine gR ?_ | (with_reducible refine wM ?_ ?_) | ((with_reducible refine xS ?_); refine uD 4 zM35 zPKE zPKP 77 rfl (by kernel_rfl) ?_) | ((with_reducible refine xR ?_); refine uE 12 zM35 zPLE zPLP 77 rfl (by kernel_rfl) ?_)) <;> ((try with_reducible intro K1 hK1); simp only [go_sem, ↓reduceIte, reduceCtorEq, nA, nB, nC, nD, nE, nF] <;> and_intros <;> first | (apply hK1; clear hK1 K1) | (intros; first | omega | decide) | skip))))
   simp only [Tryz.results10, go_sem, ↓reduceIte, reduceCtorEq, nA, nB, nC, nD, nE, nF]
   exact ⟨_, _, Weak.refl _, Hp.le.refl _, ko, E, A, a2, T2, by omega, Z, rfl, rfl⟩
  refine awp_cond (t := _) rfl (fun _ => ?_) (fun h9 => by cases h9)
  (repeat (first | refine gO rfl ?_ | ((first | refine gR ?_ | (with_reducible refine wM ?_ ?_) | ((with_reducible refine xS ?_); refine uD 4 zM35 zPKE zPKP 77 rfl (by kernel_rfl) ?_) | ((with_reducible refine xR ?_); refine uE 12 zM35 zPLE zPLP 77 rfl (by kernel_rfl) ?_)) <;> ((try with_reducible intro K1 hK1); simp only [go_sem, ↓reduceIte, reduceCtorEq, nA, nB, nC, nD, nE, nF] <;> and_intros <;> first | (apply hK1; clear hK1 K1) | (intros; first | omega | decide) | skip))))
  refine (g_next i l (a' + 1) D.length ⟨h.H, T⟩ hl (by omega) (by omega)).mono ?_; rintro _ _ ⟨x0, hx0, rfl, rfl⟩; apply hK1; clear hK1 K1
  obtain ⟨xn, rfl⟩ : ∃ xn : Nat, x0 = (xn : Int) := ⟨x0.toNat, by omega⟩
  have hxn : xn < D.length := by omega
  clear hx0
  have e1 : ∀ b, (Hp.st ⟨h.H, T⟩ i l b).T ko = some (.cont 2 (D.map rowA)) := fun _ => M.tko
  have hdm := List.getElem_mem hxn
  have gx : (D.map rowA).getD xn [] = rowA D[xn] := by rw [List.getD_eq_getElem?_getD, List.getElem?_map, List.getElem?_eq_getElem hxn]; rfl
  generalize hdx : D[xn] = d at *
  obtain ⟨key, kv, V⟩ := d
  have e2 : ∀ b, (Hp.st ⟨h.H, T⟩ i l b).T kv = some (.cont 3 (V.map rowV)) := fun _ => (M.tkv _ hdm).2.1
  replace gx : (D.map rowA).getD xn [] = [.v (.string key), .arr 3 kv V.length] := gx
  have hDm : (D.map rowA).length = D.length := List.length_map _
  have hVm : (V.map rowV).length = V.length := List.length_map _
  (repeat (first | refine gO rfl ?_ | ((first | refine gR ?_ | (with_reducible refine wM ?_ ?_) | ((with_reducible refine xS ?_); refine uD 4 zM35 zPKE zPKP 77 rfl (by kernel_rfl) ?_) | ((with_reducible refine xR ?_); refine uE 12 zM35 zPLE zPLP 77 rfl (by kernel_rfl) ?_)) <;> ((try with_reducible intro K1 hK1); simp only [go_sem, ↓reduceIte, reduceCtorEq, nA, nB, nC, nD, nE, nF, e1, e2, gx, hDm, hVm, Int.toNat_natCast] <;> and_intros <;> first | (apply hK1; clear hK1 K1) | (intros; first | omega | decide) | skip))))
  have hdo := M.ok _ hdm
  have hVl : 1 ≤ V.length ∧ V.length ≤ 3 := hdo.2.1
  refine (g_next i l (a' + 1 + 1) V.length ⟨h.H, T⟩ hl (by omega) (by omega)).mono ?_; rintro _ _ ⟨y0, hy0, rfl, rfl⟩; apply hK1; clear hK1 K1
  obtain ⟨yn, rfl⟩ : ∃ yn : Nat, y0 = (yn : Int) := ⟨y0.toNat, by omega⟩
  have hyn : yn < V.length := by omega
  clear hy0
  have hvm := List.getElem_mem hyn
  have gy : (V.map rowV).getD yn [] = rowV V[yn] := by rw [List.getD_eq_getElem?_getD, List.getElem?_map, List.getElem?_eq_getElem hyn]; rfl
  generalize hvx : V[yn] = v at *
  obtain ⟨no, at1, fs, kf⟩ := v
  replace gy : (V.map rowV).getD yn [] = [.v (.int .i64 no), .v (.int .i64 at1), .row 7 (fs.map encFm) (some kf)] := gy
  have e3 : ∀ b, (Hp.st ⟨h.H, T⟩ i l b).T kf = some (.tail fs.length) := fun _ => ((M.tkv _ hdm).2.2 _ hvm).2
  have hfm : (fs.map encFm).length = fs.length := List.length_map _
  have hvo : VDok (no, at1, fs, kf) := hdo.2.2 _ hvm
  have hfl : fs.length ≤ 3 := hvo.2.2.1.2
  (repeat (first | refine gO rfl ?_ | ((first | refine gR ?_ | (with_reducible refine wM ?_ ?_) | ((with_reducible refine xS ?_); refine uD 4 zM35 zPKE zPKP 77 rfl (by kernel_rfl) ?_) | ((with_reducible refine xR ?_); refine uE 12 zM35 zPLE zPLP 77 rfl (by kernel_rfl) ?_)) <;> ((try with_reducible intro K1 hK1); simp only [go_sem, ↓reduceIte, reduceCtorEq, nA, nB, nC, nD, nE, nF, e1, e2, gx, hDm, hVm, Int.toNat_natCast] <;> and_intros <;> first | (apply hK1; clear hK1 K1) | (intros; first | omega | decide) | skip))))
  all_goals try with_reducible rfl
  (repeat (first | refine gO rfl ?_ | ((first | refine gR ?_ | (with_reducible refine wM ?_ ?_) | ((with_reducible refine xS ?_); refine uD 4 zM35 zPKE zPKP 77 rfl (by kernel_rfl) ?_) | ((with_reducible refine xR ?_); refine uE 12 zM35 zPLE zPLP 77 rfl (by kernel_rfl) ?_)) <;> ((try with_reducible intro K1 hK1); simp only [go_sem, ↓reduceIte, reduceCtorEq, nA, nB, nC, nD, nE, nF, e1, e2, gx, hDm, hVm, Int.toNat_natCast] <;> and_intros <;> first | (apply hK1; clear hK1 K1) | (intros; first | omega | decide) | skip))))
  refine (g_next i l (a' + 1 + 1 + 1) 5 ⟨h.H, T⟩ hl (by omega) (by omega)).mono ?_; rintro _ _ ⟨sw, hsw, rfl, rfl⟩; apply hK1; clear hK1 K1
  have h5 : sw = 0 ∨ sw = 1 ∨ sw = 2 ∨ sw = 3 ∨ sw = 4 := by omega
  clear hsw
  have gz : ∀ e : List AV, ((V.map rowV).set yn e).getD yn [] = e := fun e => by
   rw [List.getD_eq_getElem?_getD, List.getElem?_set_self (by rw [hVm]; exact hyn)]; rfl
  have hsl : ∀ e : List AV, ((D.map rowA).set xn e).length = D.length := fun e => by rw [List.length_set, hDm]
  have haz := M.fz _ hdm
  have hao := hdo.ok
  have hvz : VnOk (vnD (no, at1, fs, kf)) := hvo.ok
  have hT0 : ∀ t, h.T t ≠ none → t ≠ kf := fun t ht => by rintro rfl; exact ht ((M.tkv _ hdm).2.2 _ hvm).1
  have hT1 : ∀ t z E, T t = some (.cont z E) → t ≠ kf := fun t z E ht => by
   rintro rfl
   rw [((M.tkv _ hdm).2.2 _ hvm).2] at ht
   injection ht with ht; cases ht
  have hkvk : kf ≠ kv := fun e => hT1 kv _ _ (M.tkv _ hdm).2.1 e.symm
  have hku : ∀ b c, upd (Hp.st ⟨h.H, T⟩ i l b).T kf c kv = some (.cont 3 (V.map rowV)) := fun b c => (upd_other _ _ hkvk.symm).trans (e2 b)
  rcases h5 with rfl | rfl | rfl | rfl | rfl
  ·(repeat (first | refine gO rfl ?_ | ((first | refine gR ?_ | (with_reducible refine wM ?_ ?_) | ((with_reducible refine xS ?_); refine uD 4 zM35 zPKE zPKP 77 rfl (by kernel_rfl) ?_) | ((with_reducible refine xR ?_); refine uE 12 zM35 zPLE zPLP 77 rfl (by kernel_rfl) ?_)) <;> ((try with_reducible intro K1 hK1); simp only [go_sem, ↓reduceIte, reduceCtorEq, nA, nB, nC, nD, nE, nF] <;> and_intros <;> first | (apply hK1; clear hK1 K1) | (intros; first | omega | decide) | skip))))
   refine awp_cond (t := _) rfl (fun _ => ?_) (fun h9 => by cases h9)
   (repeat (first | refine gO rfl ?_ | ((first | refine gR ?_ | (with_reducible refine wM ?_ ?_) | ((with_reducible refine xS ?_); refine uD 4 zM35 zPKE zPKP 77 rfl (by kernel_rfl) ?_) | ((with_reducible refine xR ?_); refine uE 12 zM35 zPLE zPLP 77 rfl (by kernel_rfl) ?_)) <;> ((try with_reducible intro K1 hK1); simp only [go_sem, ↓reduceIte, reduceCtorEq, nA, nB, nC, nD, nE, nF] <;> and_intros <;> first | (apply hK1; clear hK1 K1) | (intros; first | omega | decide) | skip))))
   rw [hak]
   refine (g_some i l (a' + 1 + 1 + 1 + 1) flawk none ⟨h.H, T⟩ hl (by omega) (by decide)).mono ?_; rintro _ _ ⟨k2, hk2, rfl, rfl⟩; apply hK1; clear hK1 K1
   (repeat (first | refine gO rfl ?_ | ((first | refine gR ?_ | (with_reducible refine wM ?_ ?_) | ((with_reducible refine xS ?_); refine uD 4 zM35 zPKE zPKP 77 rfl (by kernel_rfl) ?_) | ((with_reducible refine xR ?_); refine uE 12 zM35 zPLE zPLP 77 rfl (by kernel_rfl) ?_)) <;> ((try with_reducible intro K1 hK1); simp only [go_sem, ↓reduceIte, reduceCtorEq, nA, nB, nC, nD, nE, nF, e1, e2, gx, hDm, hVm, Int.toNat_natCast] <;> and_intros <;> first | (apply hK1; clear hK1 K1) | (intros; first | omega | decide) | skip))))
   exact ⟨(D.map rowA).set xn [.v (.string k2), .arr 3 kv V.length], (D.map asD).set xn ⟨k2, V.map vnD⟩, a' + 1 + 1 + 1 + 1 + 1, upd T ko (some (.cont 2 ((D.map rowA).set xn [.v (.string k2), .arr 3 kv V.length]))), by omega,
    M.setA hD xn _ _ ⟨_, rfl, .inr ⟨kv, V.map rowV, congrArg _ hVm.symm, (M.tkv _ hdm).1, (M.tkv _ hdm).2.1, F2.map _ fun w _ => rowV_fz w⟩⟩ ⟨Nat.le_trans (flawk_sz _ hk2) (by decide), hao.len, hao.vs⟩, by rw [hsl]; rfl⟩
  ·(repeat (first | refine gO rfl ?_ | ((first | refine gR ?_ | (with_reducible refine wM ?_ ?_) | ((with_reducible refine xS ?_); refine uD 4 zM35 zPKE zPKP 77 rfl (by kernel_rfl) ?_) | ((with_reducible refine xR ?_); refine uE 12 zM35 zPLE zPLP 77 rfl (by kernel_rfl) ?_)) <;> ((try with_reducible intro K1 hK1); simp only [go_sem, ↓reduceIte, reduceCtorEq, nA, nB, nC, nD, nE, nF] <;> and_intros <;> first | (apply hK1; clear hK1 K1) | (intros; first | omega | decide) | skip))))
   refine awp_cond (t := _) rfl (fun h9 => by cases h9) (fun _ => ?_)
   (repeat (first | refine gO rfl ?_ | ((first | refine gR ?_ | (with_reducible refine wM ?_ ?_) | ((with_reducible refine xS ?_); refine uD 4 zM35 zPKE zPKP 77 rfl (by kernel_rfl) ?_) | ((with_reducible refine xR ?_); refine uE 12 zM35 zPLE zPLP 77 rfl (by kernel_rfl) ?_)) <;> ((try with_reducible intro K1 hK1); simp only [go_sem, ↓reduceIte, reduceCtorEq, nA, nB, nC, nD, nE, nF] <;> and_intros <;> first | (apply hK1; clear hK1 K1) | (intros; first | omega | decide) | skip))))
   refine awp_cond (t := _) rfl (fun _ => ?_) (fun h9 => by cases h9)
   (repeat (first | refine gO rfl ?_ | ((first | refine gR ?_ | (with_reducible refine wM ?_ ?_) | ((with_reducible refine xS ?_); refine uD 4 zM35 zPKE zPKP 77 rfl (by kernel_rfl) ?_) | ((with_reducible refine xR ?_); refine uE 12 zM35 zPLE zPLP 77 rfl (by kernel_rfl) ?_)) <;> ((try with_reducible intro K1 hK1); simp only [go_sem, ↓reduceIte, reduceCtorEq, nA, nB, nC, nD, nE, nF] <;> and_intros <;> first | (apply hK1; clear hK1 K1) | (intros; first | omega | decide) | skip))))
   refine (g_odd i l (a' + 1 + 1 + 1 + 1) 1 9 ⟨h.H, T⟩ hl (by omega) (by omega) (by omega) (by omega)).mono ?_; rintro _ _ ⟨n2, a3, hn2, ha3, rfl, rfl⟩; apply hK1; clear hK1 K1
   (repeat (first | refine gO rfl ?_ | ((first | refine gR ?_ | (with_reducible refine wM ?_ ?_) | ((with_reducible refine xS ?_); refine uD 4 zM35 zPKE zPKP 77 rfl (by kernel_rfl) ?_) | ((with_reducible refine xR ?_); refine uE 12 zM35 zPLE zPLP 77 rfl (by kernel_rfl) ?_)) <;> ((try with_reducible intro K1 hK1); simp only [go_sem, ↓reduceIte, reduceCtorEq, nA, nB, nC, nD, nE, nF] <;> and_intros <;> first | (apply hK1; clear hK1 K1) | (intros; first | omega | decide) | skip))))
   refine (g_odd i l a3 0 100 ⟨h.H, T⟩ hl (by omega) (by omega) (by omega) (by omega)).mono ?_; rintro _ _ ⟨f2, a4, hf2, ha4, rfl, rfl⟩; apply hK1; clear hK1 K1
   (repeat (first | refine gO rfl ?_ | ((first | refine gR ?_ | (with_reducible refine wM ?_ ?_) | ((with_reducible refine xS ?_); refine uD 4 zM35 zPKE zPKP 77 rfl (by kernel_rfl) ?_) | ((with_reducible refine xR ?_); refine uE 12 zM35 zPLE zPLP 77 rfl (by kernel_rfl) ?_)) <;> ((try with_reducible intro K1 hK1); simp only [go_sem, ↓reduceIte, reduceCtorEq, nA, nB, nC, nD, nE, nF, e1, e2, gx, gy, hDm, hVm, Int.toNat_natCast] <;> and_intros <;> first | (apply hK1; clear hK1 K1) | (intros; first | omega | decide) | skip))))
   exact ⟨D.map rowA, (D.map asD).set xn ⟨key, (V.map vnD).set yn ⟨n2, f2, fs⟩⟩, a4, upd T kv (some (.cont 3 ((V.map rowV).set yn [.v (.int .i64 n2), .v (.int .i64 f2), .row 7 (fs.map encFm) (some kf)]))), by omega,
    M.setV hD (fun _ _ _ e => e) (fun _ _ => rfl) xn hxn key kv V hdx yn _ ⟨n2, f2, fs⟩ ⟨_, rfl, .inl ⟨_, rfl⟩⟩ ⟨hn2, hf2, hvz.len, hvz.forms⟩, by
     rw [List.set_set, gz, hDm]
     rfl⟩
  ·(repeat (first | refine gO rfl ?_ | ((first | refine gR ?_ | (with_reducible refine wM ?_ ?_) | ((with_reducible refine xS ?_); refine uD 4 zM35 zPKE zPKP 77 rfl (by kernel_rfl) ?_) | ((with_reducible refine xR ?_); refine uE 12 zM35 zPLE zPLP 77 rfl (by kernel_rfl) ?_)) <;> ((try with_reducible intro K1 hK1); simp only [go_sem, ↓reduceIte, reduceCtorEq, nA, nB, nC, nD, nE, nF] <;> and_intros <;> first | (apply hK1; clear hK1 K1) | (intros; first | omega | decide) | skip))))
   refine awp_cond (t := _) rfl (fun h9 => by cases h9) (fun _ => ?_)
   (repeat (first | refine gO rfl ?_ | ((first | refine gR ?_ | (with_reducible refine wM ?_ ?_) | ((with_reducible refine xS ?_); refine uD 4 zM35 zPKE zPKP 77 rfl (by kernel_rfl) ?_) | ((with_reducible refine xR ?_); refine uE 12 zM35 zPLE zPLP 77 rfl (by kernel_rfl) ?_)) <;> ((try with_reducible intro K1 hK1); simp only [go_sem, ↓reduceIte, reduceCtorEq, nA, nB, nC, nD, nE, nF] <;> and_intros <;> first | (apply hK1; clear hK1 K1) | (intros; first | omega | decide) | skip))))
   refine awp_cond (t := _) rfl (fun h9 => by cases h9) (fun _ => ?_)
   (repeat (first | refine gO rfl ?_ | ((first | refine gR ?_ | (with_reducible refine wM ?_ ?_) | ((with_reducible refine xS ?_); refine uD 4 zM35 zPKE zPKP 77 rfl (by kernel_rfl) ?_) | ((with_reducible refine xR ?_); refine uE 12 zM35 zPLE zPLP 77 rfl (by kernel_rfl) ?_)) <;> ((try with_reducible intro K1 hK1); simp only [go_sem, ↓reduceIte, reduceCtorEq, nA, nB, nC, nD, nE, nF] <;> and_intros <;> first | (apply hK1; clear hK1 K1) | (intros; first | omega | decide) | skip))))
   refine awp_cond (t := _) rfl (fun _ => ?_) (fun h9 => by cases h9)
   (repeat (first | refine gO rfl ?_ | ((first | refine gR ?_ | (with_reducible refine wM ?_ ?_) | ((with_reducible refine xS ?_); refine uD 4 zM35 zPKE zPKP 77 rfl (by kernel_rfl) ?_) | ((with_reducible refine xR ?_); refine uE 12 zM35 zPLE zPLP 77 rfl (by kernel_rfl) ?_)) <;> ((try with_reducible intro K1 hK1); simp only [go_sem, ↓reduceIte, reduceCtorEq, nA, nB, nC, nD, nE, nF, e1, e2, gx, gy, hDm, hVm, Int.toNat_natCast] <;> and_intros <;> first | (apply hK1; clear hK1 K1) | (intros; first | omega | decide) | skip))))
   refine (g_form i l (a' + 1 + 1 + 1 + 1) ⟨h.H, T⟩ hl (by omega)).mono ?_; rintro _ _ ⟨fm, a3, hfm9, ha3, rfl, rfl⟩; apply hK1; clear hK1 K1
   simp only [encFm]
   (repeat (first | refine gO rfl ?_ | ((first | refine gR ?_ | (with_reducible refine wM ?_ ?_) | ((with_reducible refine xS ?_); refine uD 4 zM35 zPKE zPKP 77 rfl (by kernel_rfl) ?_) | ((with_reducible refine xR ?_); refine uE 12 zM35 zPLE zPLP 77 rfl (by kernel_rfl) ?_)) <;> ((try with_reducible intro K1 hK1); simp only [go_sem, ↓reduceIte, reduceCtorEq, nA, nB, nC, nD, nE, nF, e1, e2, e3, gx, gy, hDm, hVm, hfm, hku, Int.toNat_natCast] <;> and_intros <;> first | (apply hK1; clear hK1 K1) | (intros; first | omega | decide) | skip))))
   all_goals try with_reducible rfl
   (repeat (first | refine gO rfl ?_ | ((first | refine gR ?_ | (with_reducible refine wM ?_ ?_) | ((with_reducible refine xS ?_); refine uD 4 zM35 zPKE zPKP 77 rfl (by kernel_rfl) ?_) | ((with_reducible refine xR ?_); refine uE 12 zM35 zPLE zPLP 77 rfl (by kernel_rfl) ?_)) <;> ((try with_reducible intro K1 hK1); simp only [go_sem, ↓reduceIte, reduceCtorEq, nA, nB, nC, nD, nE, nF, e1, e2, e3, gx, gy, hDm, hVm, hfm, hku, Int.toNat_natCast] <;> and_intros <;> first | (apply hK1; clear hK1 K1) | (intros; first | omega | decide) | skip))))
   exact ⟨D.map rowA, (D.map asD).set xn ⟨key, (V.map vnD).set yn ⟨no, at1, fs ++ [fm]⟩⟩, a3, upd (upd T kf (some (.tail (fs.length + 1)))) kv (some (.cont 3 ((V.map rowV).set yn [.v (.int .i64 no), .v (.int .i64 at1), .row 7 ((fs ++ [fm]).map encFm) (some kf)]))), by omega,
    M.setV hD (fun t z E e => (upd_other _ _ (hT1 t z E e)).trans e) (fun t ht => upd_other _ _ (hT0 t ht)) xn hxn key kv V hdx yn _ ⟨no, at1, fs ++ [fm]⟩ ⟨_, rfl, .inl ⟨_, rfl⟩⟩ ⟨hvz.no, hvz.since, by show (fs ++ [fm]).length ≤ 10; rw [List.length_append, List.length_singleton]; omega, fun f hf => by
     rcases List.mem_append.1 hf with hf | hf
     ·exact hvz.forms f hf
     ·rw [List.mem_singleton.1 hf]; exact hfm9⟩, by
     rw [hDm, List.map_append]
     rfl⟩
  ·(repeat (first | refine gO rfl ?_ | ((first | refine gR ?_ | (with_reducible refine wM ?_ ?_) | ((with_reducible refine xS ?_); refine uD 4 zM35 zPKE zPKP 77 rfl (by kernel_rfl) ?_) | ((with_reducible refine xR ?_); refine uE 12 zM35 zPLE zPLP 77 rfl (by kernel_rfl) ?_)) <;> ((try with_reducible intro K1 hK1); simp only [go_sem, ↓reduceIte, reduceCtorEq, nA, nB, nC, nD, nE, nF] <;> and_intros <;> first | (apply hK1; clear hK1 K1) | (intros; first | omega | decide) | skip))))
   refine awp_cond (t := _) rfl (fun h9 => by cases h9) (fun _ => ?_)
   (repeat (first | refine gO rfl ?_ | ((first | refine gR ?_ | (with_reducible refine wM ?_ ?_) | ((with_reducible refine xS ?_); refine uD 4 zM35 zPKE zPKP 77 rfl (by kernel_rfl) ?_) | ((with_reducible refine xR ?_); refine uE 12 zM35 zPLE zPLP 77 rfl (by kernel_rfl) ?_)) <;> ((try with_reducible intro K1 hK1); simp only [go_sem, ↓reduceIte, reduceCtorEq, nA, nB, nC, nD, nE, nF] <;> and_intros <;> first | (apply hK1; clear hK1 K1) | (intros; first | omega | decide) | skip))))
   refine awp_cond (t := _) rfl (fun h9 => by cases h9) (fun _ => ?_)
   (repeat (first | refine gO rfl ?_ | ((first | refine gR ?_ | (with_reducible refine wM ?_ ?_) | ((with_reducible refine xS ?_); refine uD 4 zM35 zPKE zPKP 77 rfl (by kernel_rfl) ?_) | ((with_reducible refine xR ?_); refine uE 12 zM35 zPLE zPLP 77 rfl (by kernel_rfl) ?_)) <;> ((try with_reducible intro K1 hK1); simp only [go_sem, ↓reduceIte, reduceCtorEq, nA, nB, nC, nD, nE, nF] <;> and_intros <;> first | (apply hK1; clear hK1 K1) | (intros; first | omega | decide) | skip))))
   refine awp_cond (t := _) rfl (fun h9 => by cases h9) (fun _ => ?_)
   (repeat (first | refine gO rfl ?_ | ((first | refine gR ?_ | (with_reducible refine wM ?_ ?_) | ((with_reducible refine xS ?_); refine uD 4 zM35 zPKE zPKP 77 rfl (by kernel_rfl) ?_) | ((with_reducible refine xR ?_); refine uE 12 zM35 zPLE zPLP 77 rfl (by kernel_rfl) ?_)) <;> ((try with_reducible intro K1 hK1); simp only [go_sem, ↓reduceIte, reduceCtorEq, nA, nB, nC, nD, nE, nF] <;> and_intros <;> first | (apply hK1; clear hK1 K1) | (intros; first | omega | decide) | skip))))
   refine awp_cond (t := _) rfl (fun _ => ?_) (fun h9 => by cases h9)
   (repeat (first | refine gO rfl ?_ | ((first | refine gR ?_ | (with_reducible refine wM ?_ ?_) | ((with_reducible refine xS ?_); refine uD 4 zM35 zPKE zPKP 77 rfl (by kernel_rfl) ?_) | ((with_reducible refine xR ?_); refine uE 12 zM35 zPLE zPLP 77 rfl (by kernel_rfl) ?_)) <;> ((try with_reducible intro K1 hK1); simp only [go_sem, ↓reduceIte, reduceCtorEq, nA, nB, nC, nD, nE, nF, e1, e2, gx, gy, hDm, hVm, Int.toNat_natCast] <;> and_intros <;> first | (apply hK1; clear hK1 K1) | (intros; first | omega | decide) | skip))))
   exact ⟨D.map rowA, (D.map asD).set xn ⟨key, (V.map vnD).set yn ⟨no, at1, []⟩⟩, a' + 1 + 1 + 1 + 1, upd T kv (some (.cont 3 ((V.map rowV).set yn [.v (.int .i64 no), .v (.int .i64 at1), .v (.slice none 0 0)]))), by omega,
    M.setV hD (fun _ _ _ e => e) (fun _ _ => rfl) xn hxn key kv V hdx yn _ ⟨no, at1, []⟩ ⟨_, rfl, .inr ⟨rfl, rfl⟩⟩ ⟨hvz.no, hvz.since, Nat.zero_le _, fun _ hf => absurd hf List.not_mem_nil⟩, by
     rw [hDm]
     rfl⟩
  ·(repeat (first | refine gO rfl ?_ | ((first | refine gR ?_ | (with_reducible refine wM ?_ ?_) | ((with_reducible refine xS ?_); refine uD 4 zM35 zPKE zPKP 77 rfl (by kernel_rfl) ?_) | ((with_reducible refine xR ?_); refine uE 12 zM35 zPLE zPLP 77 rfl (by kernel_rfl) ?_)) <;> ((try with_reducible intro K1 hK1); simp only [go_sem, ↓reduceIte, reduceCtorEq, nA, nB, nC, nD, nE, nF] <;> and_intros <;> first | (apply hK1; clear hK1 K1) | (intros; first | omega | decide) | skip))))
   refine awp_cond (t := _) rfl (fun h9 => by cases h9) (fun _ => ?_)
   (repeat (first | refine gO rfl ?_ | ((first | refine gR ?_ | (with_reducible refine wM ?_ ?_) | ((with_reducible refine xS ?_); refine uD 4 zM35 zPKE zPKP 77 rfl (by kernel_rfl) ?_) | ((with_reducible refine xR ?_); refine uE 12 zM35 zPLE zPLP 77 rfl (by kernel_rfl) ?_)) <;> ((try with_reducible intro K1 hK1); simp only [go_sem, ↓reduceIte, reduceCtorEq, nA, nB, nC, nD, nE, nF] <;> and_intros <;> first | (apply hK1; clear hK1 K1) | (intros; first | omega | decide) | skip))))
   refine awp_cond (t := _) rfl (fun h9 => by cases h9) (fun _ => ?_)
   (repeat (first | refine gO rfl ?_ | ((first | refine gR ?_ | (with_reducible refine wM ?_ ?_) | ((with_reducible refine xS ?_); refine uD 4 zM35 zPKE zPKP 77 rfl (by kernel_rfl) ?_) | ((with_reducible refine xR ?_); refine uE 12 zM35 zPLE zPLP 77 rfl (by kernel_rfl) ?_)) <;> ((try with_reducible intro K1 hK1); simp only [go_sem, ↓reduceIte, reduceCtorEq, nA, nB, nC, nD, nE, nF] <;> and_intros <;> first | (apply hK1; clear hK1 K1) | (intros; first | omega | decide) | skip))))
   refine awp_cond (t := _) rfl (fun h9 => by cases h9) (fun _ => ?_)
   (repeat (first | refine gO rfl ?_ | ((first | refine gR ?_ | (with_reducible refine wM ?_ ?_) | ((with_reducible refine xS ?_); refine uD 4 zM35 zPKE zPKP 77 rfl (by kernel_rfl) ?_) | ((with_reducible refine xR ?_); refine uE 12 zM35 zPLE zPLP 77 rfl (by kernel_rfl) ?_)) <;> ((try with_reducible intro K1 hK1); simp only [go_sem, ↓reduceIte, reduceCtorEq, nA, nB, nC, nD, nE, nF] <;> and_intros <;> first | (apply hK1; clear hK1 K1) | (intros; first | omega | decide) | skip))))
   refine awp_cond (t := _) rfl (fun h9 => by cases h9) (fun _ => ?_)
   (repeat (first | refine gO rfl ?_ | ((first | refine gR ?_ | (with_reducible refine wM ?_ ?_) | ((with_reducible refine xS ?_); refine uD 4 zM35 zPKE zPKP 77 rfl (by kernel_rfl) ?_) | ((with_reducible refine xR ?_); refine uE 12 zM35 zPLE zPLP 77 rfl (by kernel_rfl) ?_)) <;> ((try with_reducible intro K1 hK1); simp only [go_sem, ↓reduceIte, reduceCtorEq, nA, nB, nC, nD, nE, nF, e1, e2, gx, gy, hDm, hVm, Int.toNat_natCast] <;> and_intros <;> first | (apply hK1; clear hK1 K1) | (intros; first | omega | decide) | skip))))
   exact ⟨(D.map rowA).set xn [.v (.string key), .v (.slice none 0 0)], (D.map asD).set xn ⟨key, []⟩, a' + 1 + 1 + 1 + 1, upd T ko (some (.cont 2 ((D.map rowA).set xn [.v (.string key), .v (.slice none 0 0)]))), by omega,
    M.setA hD xn _ _ ⟨_, rfl, .inl ⟨rfl, rfl⟩⟩ ⟨hao.key, Nat.zero_le _, fun _ hf => absurd hf List.not_mem_nil⟩, by rw [hsl]; rfl⟩
 ·exact fun h9 => h9.elim
theorem g_assets (i : Nat) (l : List Int) (a : Int) (h : Hp) (hl : SOk l) (ha : 0 ≤ a ∧ a ≤ 10000) :
  ACalls Tryz.prog 10 [.ptr i 0] (h.st i l a) (fun r h' => ∃ (A : List As) (a' : Int), (a ≤ a' ∧ a' ≤ a + 500) ∧ (∀ x ∈ A, AsOk x) ∧ A.length ≤ 4 ∧ r = .row 2 (A.map encAs) none ∧ h' = h.st i l a') := by
 refine (g_assets0 i l a h hl ha).gup ?_
 rintro _ _ G w v ⟨ko, E, A, a', T, ha', Z, rfl, rfl⟩ hs hr
 obtain ⟨G', hle, hfr, hs2, hf⟩ := hs.freeze (h2 := h.st i l a') (fun k => h.T k = none) rfl (fun k hk => hk) (fun k hk => (Z.hT k hk).symm)
 refine ⟨_, _, G', ⟨A, a', ha', Z.ok, Z.len, rfl, rfl⟩, hle, hfr, hs2, ?_⟩
 refine hf ko 2 E v Z.new Z.tko hr _ (by rw [List.length_map, F2.len _ _ Z.all]) (fun z hz => ?_) (F2.flat 2 encAs E A (fun _ => rfl) (F2.mono (fun e x hx => hx.freeze hle hf) _ _ Z.all))
 obtain ⟨x, _, rfl⟩ := List.mem_map.1 hz
 rfl
abbrev zPME : List Nat := [0, 1, 2, 3, 4, 5, 6, 7, 8, 9, 10, 11, 12, 13]
abbrev zPMP : List (Nat × List Nat × List Nat) := [(14, [], [15, 16])]
abbrev zPNE : List Nat := [0, 1, 2, 3, 4, 5, 6, 7, 8, 9, 10, 11, 12, 13, 14]
abbrev zPNP : List (Nat × List Nat × List Nat) := [(15, [], [16]), (17, [], [])]
abbrev zPOE : List Nat := [0, 1, 2, 3, 4, 5, 6, 7, 8, 9, 10, 11, 12]
abbrev zPOP : List (Nat × List Nat × List Nat) := [(13, [], [14, 15, 16])]
attribute [go_sem] zPME zPMP zPNE zPNP zPOE zPOP
theorem getD_mid {α : Type} (A : List α) (x : α) (B : List α) (d : α) : (A ++ x :: B).getD A.length d = x := by
 rw [List.getD_eq_getElem?_getD, List.getElem?_append_right (Nat.le_refl _), Nat.sub_self]; rfl
theorem set_mid {α : Type} (A : List α) (x y : α) (B : List α) : (A ++ x :: B).set A.length y = A ++ y :: B := by
 rw [List.set_append_right _ _ (Nat.le_refl _), Nat.sub_self]; rfl
theorem g_insK {f : Nat} {caps : List AV} (cf : Nat → Nat → Int) (k : Nat) (xs : List Nat) (h : Hp) (hT : h.T k = some (.cont 1 (xs.map encR))) (hl : xs.length ≤ 1000)
  (hc : ∀ x ∈ xs, ∀ y ∈ xs, ∀ T', ACalls Tryz.prog f (caps ++ [encRV x, encRV y]) ⟨h.H, T'⟩ (fun r h' => r = .v (.int .i64 (cf x y)) ∧ h' = ⟨h.H, T'⟩)) :
  ACalls Tryz.prog 399 [.arr 1 k xs.length, .v (.int .i64 0), .v (.int .i64 xs.length), .bfn f caps] h (fun r h' => r = .tup [] ∧ h' = ⟨h.H, upd h.T k (some (.cont 1 ((sortI cf xs).map encR)))⟩) := by
 refine gE Tryz.func399 rfl (by kernel_rfl) 49 rfl fun c => ?_
 (repeat (first | refine gO rfl ?_ | ((first | refine gR ?_ | (with_reducible refine wM ?_ ?_) | ((with_reducible refine xS ?_); refine uD 4 zM35 zPME zPMP 53 rfl (by kernel_rfl) ?_) | ((with_reducible refine xR ?_); refine uE 6 zM35 zPNE zPNP 53 rfl (by kernel_rfl) ?_)) <;> ((try with_reducible intro K1 hK1); simp only [go_sem, ↓reduceIte, reduceCtorEq, nA, nB, nC, nD, nE, nF] <;> and_intros <;> first | (apply hK1; clear hK1 K1) | (intros; first | omega | decide | (simp_all <;> omega)) | skip))))
 refine awp_loopC (rl false [0, 4, 4, 1, 44]) 0 (fun g s => ∃ i : Nat, 1 ≤ i ∧ g + i = xs.length + 1 ∧
  s = ⟨((.arr 1 k xs.length) :: (.v (.int .i64 0)) :: (.v (.int .i64 xs.length)) :: (.bfn f caps) :: (jnk 4 ((.v (.int .i64 i)) :: (jnk 44 [])))), [], ⟨h.H, upd h.T k (some (.cont 1 (((insS cf (xs.take i)).reverse ++ xs.drop i).map encR)))⟩⟩) xs.length
  ⟨1, by omega, by omega, ?_⟩ ?_
 ·have e1 : (insS cf (xs.take 1)).reverse ++ xs.drop 1 = xs := by cases xs <;> simp [insS, insR]
  have e2 : upd h.T k (some (TO.cont 1 (xs.map encR))) = h.T := by
   funext q
   by_cases e : q = k
   ·rw [e, upd_same, hT]
   ·rw [upd_other _ _ e]
  rw [e1, e2]; rfl
 rintro g _ ⟨i, hi1, hi, rfl⟩
 (repeat (first | refine gO rfl ?_ | ((first | refine gR ?_ | (with_reducible refine wM ?_ ?_) | ((with_reducible refine xS ?_); refine uD 4 zM35 zPME zPMP 53 rfl (by kernel_rfl) ?_) | ((with_reducible refine xR ?_); refine uE 6 zM35 zPNE zPNP 53 rfl (by kernel_rfl) ?_)) <;> ((try with_reducible intro K1 hK1); simp only [go_sem, ↓reduceIte, reduceCtorEq, nA, nB, nC, nD, nE, nF] <;> and_intros <;> first | (apply hK1; clear hK1 K1) | (intros; first | omega | decide | (simp_all <;> omega)) | skip))))
 refine awp_cond (t := _) rfl (fun h1 => ?_) (fun h1 => ?_)
 ·simp only [decide_eq_true_eq] at h1
  have hil : i < xs.length := by omega
  have hdr : xs.drop i = xs.getD i default :: xs.drop (i + 1) := drop_at' xs i default hil
  have htk : xs.take (i + 1) = xs.take i ++ [xs.getD i default] := take_at' xs i default hil
  have hxm : xs.getD i default ∈ xs := by
   rw [List.getD_eq_getElem?_getD, List.getElem?_eq_getElem hil]; exact List.getElem_mem _
  have hpl : (insS cf (xs.take i)).length = i := by rw [insS_len, List.length_take]; omega
  have hpm : ∀ z ∈ (insS cf (xs.take i)).reverse, z ∈ xs := fun z hz => List.mem_of_mem_take ((insS_perm cf (xs.take i)).mem_iff.1 (List.mem_reverse.1 hz))
  have hin : insS cf (xs.take (i + 1)) = insR cf (insS cf (xs.take i)) (xs.getD i default) := by rw [htk, insS_snoc]
  rw [hdr]
  generalize xs.getD i default = x at hxm hin ⊢
  generalize insS cf (xs.take i) = R at hpl hpm hin ⊢
  generalize hrs : xs.drop (i + 1) = rest
  clear hdr htk
  (repeat (first | refine gO rfl ?_ | ((first | refine gR ?_ | (with_reducible refine wM ?_ ?_) | ((with_reducible refine xS ?_); refine uD 4 zM35 zPME zPMP 53 rfl (by kernel_rfl) ?_) | ((with_reducible refine xR ?_); refine uE 6 zM35 zPNE zPNP 53 rfl (by kernel_rfl) ?_)) <;> ((try with_reducible intro K1 hK1); simp only [go_sem, ↓reduceIte, reduceCtorEq, nA, nB, nC, nD, nE, nF] <;> and_intros <;> first | (apply hK1; clear hK1 K1) | (intros; first | omega | decide | (simp_all <;> omega)) | skip))))
  refine awp_loopC (rl false [0, 4, 4, 2, 43]) 0 (fun g2 s => ∃ (A B : List Nat), g2 = A.length ∧ insR cf R x = B.reverse ++ insR cf A.reverse x ∧ A.length + B.length = i ∧ (∀ z ∈ A, z ∈ xs) ∧
   s = ⟨((.arr 1 k xs.length) :: (.v (.int .i64 0)) :: (.v (.int .i64 xs.length)) :: (.bfn f caps) :: (jnk 4 ((.v (.int .i64 i)) :: (.v (.int .i64 A.length)) :: (jnk 43 [])))), [], ⟨h.H, upd h.T k (some (.cont 1 ((A ++ x :: (B ++ rest)).map encR)))⟩⟩) i
   ⟨R.reverse, [], by rw [List.length_reverse, hpl], by rw [List.reverse_reverse]; rfl, by rw [List.length_reverse, hpl]; rfl, hpm, by rw [List.length_reverse, hpl]; rfl⟩ ?_
  rintro g2 _ ⟨A, B, rfl, hR, hAB, hA, rfl⟩
  have hTq : ∀ X, upd h.T k (some (TO.cont 1 X)) k = some (.cont 1 X) := fun X => upd_same _ _ _
  have hcl : ((A ++ x :: (B ++ rest)).map encR).length = xs.length := by
   have h9 := congrArg List.length hrs
   rw [List.length_drop] at h9
   simp; omega
  by_cases h0 : A.length = 0
  ·have hd0 : decide (0 < (A.length : Int)) = false := by simp [h0]
   have hA0 : A = [] := List.eq_nil_of_length_eq_zero h0
   clear hc
   have gz : ((A ++ x :: (B ++ rest)).map encR).getD 0 [] = encR x := by rw [hA0]; rfl
   have i0 : ((A.length : Int)).toNat = 0 := by rw [Int.toNat_natCast]; exact h0
   have i1 : ((A.length : Int) - 1).toNat = 0 := by omega
   (repeat (first | refine gO rfl ?_ | ((first | refine gR ?_ | (with_reducible refine wM ?_ ?_) | ((with_reducible refine xS ?_); refine uD 4 zM35 zPME zPMP 53 rfl (by kernel_rfl) ?_) | ((with_reducible refine xR ?_); refine uE 6 zM35 zPNE zPNP 53 rfl (by kernel_rfl) ?_)) <;> ((try with_reducible intro K1 hK1); simp only [go_sem, ↓reduceIte, reduceCtorEq, nA, nB, nC, nD, nE, nF, hd0, hTq, hcl, i0, i1, gz, encR] <;> and_intros <;> first | (apply hK1; clear hK1 K1) | (intros; first | omega | decide | (simp_all <;> omega)) | skip))))
   refine ⟨.v (.bool false), rfl, hK1 _ ?_⟩; clear hK1 K1
   (repeat (first | refine gO rfl ?_ | ((first | refine gR ?_ | (with_reducible refine wM ?_ ?_) | ((with_reducible refine xS ?_); refine uD 4 zM35 zPME zPMP 53 rfl (by kernel_rfl) ?_) | ((with_reducible refine xR ?_); refine uE 6 zM35 zPNE zPNP 53 rfl (by kernel_rfl) ?_)) <;> ((try with_reducible intro K1 hK1); simp only [go_sem, ↓reduceIte, reduceCtorEq, nA, nB, nC, nD, nE, nF, hd0] <;> and_intros <;> first | (apply hK1; clear hK1 K1) | (intros; first | omega | decide | (simp_all <;> omega)) | skip))))
   refine awp_cond (t := _) rfl (fun h9 => by cases h9) (fun _ => ?_)
   (repeat (first | refine gO rfl ?_ | ((first | refine gR ?_ | (with_reducible refine wM ?_ ?_) | ((with_reducible refine xS ?_); refine uD 4 zM35 zPME zPMP 53 rfl (by kernel_rfl) ?_) | ((with_reducible refine xR ?_); refine uE 6 zM35 zPNE zPNP 53 rfl (by kernel_rfl) ?_)) <;> ((try with_reducible intro K1 hK1); simp only [go_sem, ↓reduceIte, reduceCtorEq, nA, nB, nC, nD, nE, nF] <;> and_intros <;> first | (apply hK1; clear hK1 K1) | (intros; first | omega | decide | (simp_all <;> omega)) | skip))))
   refine ⟨g - 1, by omega, i + 1, by omega, by omega, ?_⟩
   subst hA0
   have e3 : (insS cf (xs.take (i + 1))).reverse ++ xs.drop (i + 1) = x :: (B ++ rest) := by rw [hin, hR, hrs]; simp [insR]
   rw [e3]; rfl
  ·obtain ⟨A', y, rfl⟩ : ∃ A' y, A = A' ++ [y] := by
    rcases List.eq_nil_or_concat A with rfl | ⟨A', y, e⟩
    ·exact absurd rfl h0
    ·exact ⟨A', y, by rw [e, List.concat_eq_append]⟩
   have hd0 : decide (0 < ((A' ++ [y]).length : Int)) = true := by simp
   have hti : (((A' ++ [y]).length : Int) - 1).toNat = A'.length := by simp
   have hy : y ∈ xs := hA y (by simp)
   have gx : (((A' ++ [y]) ++ x :: (B ++ rest)).map encR).getD (A' ++ [y]).length [] = encR x := by
    rw [List.map_append, List.map_cons]
    have := getD_mid ((A' ++ [y]).map encR) (encR x) ((B ++ rest).map encR) []
    rwa [List.length_map] at this
   have gy : (((A' ++ [y]) ++ x :: (B ++ rest)).map encR).getD A'.length [] = encR y := by
    rw [List.append_assoc, List.map_append, List.singleton_append, List.map_cons]
    have := getD_mid (A'.map encR) (encR y) ((x :: (B ++ rest)).map encR) []
    rwa [List.length_map] at this
   have hcc := fun T' => hc x hxm y hy T'
   have hlt : (A' ++ [y]).length < xs.length := by omega
   have hlt2 : A'.length < xs.length := by simp at hlt; omega
   generalize hct : ((A' ++ [y]) ++ x :: (B ++ rest)).map encR = ct at *
   (repeat (first | refine gO rfl ?_ | ((first | refine gR ?_ | (with_reducible refine wM ?_ ?_) | ((with_reducible refine xS ?_); refine uD 4 zM35 zPME zPMP 53 rfl (by kernel_rfl) ?_) | ((with_reducible refine xR ?_); refine uE 6 zM35 zPNE zPNP 53 rfl (by kernel_rfl) ?_)) <;> ((try with_reducible intro K1 hK1); simp only [go_sem, ↓reduceIte, reduceCtorEq, nA, nB, nC, nD, nE, nF, hd0, hTq, hcl, Int.toNat_natCast, hti, gx, gy, encR] <;> and_intros <;> first | (apply hK1; clear hK1 K1) | (intros; first | omega | decide) | skip))))
   rotate_left 1
   ·rintro ⟨⟩
   refine (hcc _).mono ?_; rintro _ hz ⟨rfl, hh⟩; refine ⟨rfl, hK1 _ ?_⟩; clear hK1 K1; rw [hh]; clear hh hz
   (repeat (first | refine gO rfl ?_ | ((first | refine gR ?_ | (with_reducible refine wM ?_ ?_) | ((with_reducible refine xS ?_); refine uD 4 zM35 zPME zPMP 53 rfl (by kernel_rfl) ?_) | ((with_reducible refine xR ?_); refine uE 6 zM35 zPNE zPNP 53 rfl (by kernel_rfl) ?_)) <;> ((try with_reducible intro K1 hK1); simp only [go_sem, ↓reduceIte, reduceCtorEq, nA, nB, nC, nD, nE, nF, hd0] <;> and_intros <;> first | (apply hK1; clear hK1 K1) | (intros; first | omega | decide) | skip))))
   refine awp_cond (t := _) rfl (fun h9 => ?_) (fun h9 => ?_)
   ·have h8 : cf x y < 0 := by simpa using h9
    have hs9 : ((A' ++ [y]).length : Int) - 1 = A'.length := by simp
    have e4 : (ct.set (A' ++ [y]).length (encR y)).set A'.length (encR x) = (A' ++ x :: (y :: B ++ rest)).map encR := by
     have h5 := set_mid ((A' ++ [y]).map encR) (encR x) (encR y) ((B ++ rest).map encR)
     have h6 := set_mid (A'.map encR) (encR y) (encR x) ((encR y) :: (B ++ rest).map encR)
     rw [List.length_map] at h5 h6
     rw [← hct, List.map_append, List.map_cons, h5, List.map_append, List.append_assoc]
     rw [show [y].map encR ++ encR y :: (B ++ rest).map encR = encR y :: (encR y :: (B ++ rest).map encR) from rfl, h6]
     simp
    have g3 : (ct.set (A' ++ [y]).length (encR y)).getD A'.length [] = encR y := by
     have h5 := set_mid ((A' ++ [y]).map encR) (encR x) (encR y) ((B ++ rest).map encR)
     have h6 := getD_mid (A'.map encR) (encR y) ((encR y) :: (B ++ rest).map encR) []
     rw [List.length_map] at h5 h6
     rw [← hct, List.map_append, List.map_cons, h5, List.map_append, List.append_assoc]
     exact h6
    have hcl2 : (ct.set (A' ++ [y]).length (encR y)).length = xs.length := by rw [List.length_set, hcl]
    simp only [encR] at e4 g3 hcl2
    (repeat (first | refine gO rfl ?_ | ((first | refine gR ?_ | (with_reducible refine wM ?_ ?_) | ((with_reducible refine xS ?_); refine uD 4 zM35 zPME zPMP 53 rfl (by kernel_rfl) ?_) | ((with_reducible refine xR ?_); refine uE 6 zM35 zPNE zPNP 53 rfl (by kernel_rfl) ?_)) <;> ((try with_reducible intro K1 hK1); simp only [go_sem, ↓reduceIte, reduceCtorEq, nA, nB, nC, nD, nE, nF, hTq, hcl, hcl2, Int.toNat_natCast, hti, gx, gy, encR, upd_upd] <;> and_intros <;> first | (apply hK1; clear hK1 K1) | (intros; first | omega | decide) | skip))))
    refine ⟨A'.length, by simp, A', y :: B, rfl, ?_, ?_, fun z hz => hA z (List.mem_append_left _ hz), ?_⟩
    ·rw [hR, List.reverse_append, List.reverse_singleton, List.singleton_append, insR, if_pos h8]; simp
    ·simp at hAB ⊢; omega
    ·simp only [g3, List.drop_succ_cons, List.drop_zero, e4, hs9]
     rfl
   ·have h8 : ¬ cf x y < 0 := by simpa using h9
    (repeat (first | refine gO rfl ?_ | ((first | refine gR ?_ | (with_reducible refine wM ?_ ?_) | ((with_reducible refine xS ?_); refine uD 4 zM35 zPME zPMP 53 rfl (by kernel_rfl) ?_) | ((with_reducible refine xR ?_); refine uE 6 zM35 zPNE zPNP 53 rfl (by kernel_rfl) ?_)) <;> ((try with_reducible intro K1 hK1); simp only [go_sem, ↓reduceIte, reduceCtorEq, nA, nB, nC, nD, nE, nF] <;> and_intros <;> first | (apply hK1; clear hK1 K1) | (intros; first | omega | decide) | skip))))
    refine ⟨g - 1, by omega, i + 1, by omega, by omega, ?_⟩
    have e3 : (insS cf (xs.take (i + 1))).reverse ++ xs.drop (i + 1) = (A' ++ [y]) ++ x :: (B ++ rest) := by rw [hin, hR, hrs]; simp [insR, h8]
    rw [e3, hct]; rfl
 ·simp only [decide_eq_false_iff_not] at h1
  have e1 : (insS cf (xs.take i)).reverse ++ xs.drop i = sortI cf xs := by
   rw [List.drop_eq_nil_of_le (by omega), List.take_of_length_le (by omega), List.append_nil]; rfl
  rw [e1]
  (repeat (first | refine gO rfl ?_ | ((first | refine gR ?_ | (with_reducible refine wM ?_ ?_) | ((with_reducible refine xS ?_); refine uD 4 zM35 zPME zPMP 53 rfl (by kernel_rfl) ?_) | ((with_reducible refine xR ?_); refine uE 6 zM35 zPNE zPNP 53 rfl (by kernel_rfl) ?_)) <;> ((try with_reducible intro K1 hK1); simp only [go_sem, ↓reduceIte, reduceCtorEq, nA, nB, nC, nD, nE, nF] <;> and_intros <;> first | (apply hK1; clear hK1 K1) | (intros; first | omega | decide | (simp_all <;> omega)) | skip))))
  simp only [Tryz.results399, go_sem, ↓reduceIte, reduceCtorEq, nA, nB, nC, nD, nE, nF]
  exact ⟨_, _, Weak.refl _, Hp.le.refl _, rfl, rfl⟩
theorem g_pdqK {f : Nat} {caps : List AV} (cf : Nat → Nat → Int) (k : Nat) (xs : List Nat) (lim : Int) (h : Hp) (hT : h.T k = some (.cont 1 (xs.map encR))) (hl : xs.length ≤ 12)
  (hc : ∀ x ∈ xs, ∀ y ∈ xs, ∀ T', ACalls Tryz.prog f (caps ++ [encRV x, encRV y]) ⟨h.H, T'⟩ (fun r h' => r = .v (.int .i64 (cf x y)) ∧ h' = ⟨h.H, T'⟩)) :
  ACalls Tryz.prog 368 [.arr 1 k xs.length, .v (.int .i64 0), .v (.int .i64 xs.length), .v (.int .i64 lim), .bfn f caps] h (fun r h' => r = .tup [] ∧ h' = ⟨h.H, upd h.T k (some (.cont 1 ((sortI cf xs).map encR)))⟩) := by
 have hd0 : decide (((xs.length : Int) - 0) ≤ 12) = true := by simp; omega
 have hi := g_insK cf k xs h hT (by omega) hc
 clear hc
 refine gE Tryz.func368 rfl (by kernel_rfl) 143 rfl fun c => ?_
 (repeat (first | refine gO rfl ?_ | ((first | refine gR ?_ | (with_reducible refine wM ?_ ?_) | ((with_reducible refine xS ?_); refine uD 17 zM35 zPOE zPOP 148 rfl (by kernel_rfl) ?_)) <;> ((try with_reducible intro K1 hK1); simp only [go_sem, ↓reduceIte, reduceCtorEq, nA, nB, nC, nD, nE, nF] <;> and_intros <;> first | (apply hK1; clear hK1 K1) | (intros; first | omega | decide | (simp_all <;> omega)) | skip))))
 refine awp_loopC (rl false [0, 5, 5, 2, 136]) 0 (fun g s => s = ⟨((.arr 1 k xs.length) :: (.v (.int .i64 0)) :: (.v (.int .i64 xs.length)) :: (.v (.int .i64 lim)) :: (.bfn f caps) :: (jnk 5 ((.v (.bool true)) :: (.v (.bool true)) :: (jnk 136 [])))), [], h⟩) 1 rfl ?_
 rintro g _ rfl
 (repeat (first | refine gO rfl ?_ | ((first | refine gR ?_ | (with_reducible refine wM ?_ ?_) | ((with_reducible refine xS ?_); refine uD 17 zM35 zPOE zPOP 148 rfl (by kernel_rfl) ?_)) <;> ((try with_reducible intro K1 hK1); simp only [go_sem, ↓reduceIte, reduceCtorEq, nA, nB, nC, nD, nE, nF] <;> and_intros <;> first | (apply hK1; clear hK1 K1) | (intros; first | omega | decide) | skip))))
 refine awp_cond (t := _) rfl (fun _ => ?_) (fun h9 => by rw [hd0] at h9; cases h9)
 (repeat (first | refine gO rfl ?_ | ((first | refine gR ?_ | (with_reducible refine wM ?_ ?_) | ((with_reducible refine xS ?_); refine uD 17 zM35 zPOE zPOP 148 rfl (by kernel_rfl) ?_)) <;> ((try with_reducible intro K1 hK1); simp only [go_sem, ↓reduceIte, reduceCtorEq, nA, nB, nC, nD, nE, nF] <;> and_intros <;> first | (apply hK1; clear hK1 K1) | (intros; first | omega | decide) | skip))))
 refine hi.mono ?_
 rintro _ h2 ⟨rfl, rfl⟩
 refine hK1 _ ?_; clear hK1 K1
 (repeat (first | refine gO rfl ?_ | ((first | refine gR ?_ | (with_reducible refine wM ?_ ?_) | ((with_reducible refine xS ?_); refine uD 17 zM35 zPOE zPOP 148 rfl (by kernel_rfl) ?_)) <;> ((try with_reducible intro K1 hK1); simp only [go_sem, ↓reduceIte, reduceCtorEq, nA, nB, nC, nD, nE, nF] <;> and_intros <;> first | (apply hK1; clear hK1 K1) | (intros; first | omega | decide) | skip))))
 simp only [Tryz.results368, go_sem, ↓reduceIte, reduceCtorEq, nA, nB, nC, nD, nE, nF]
 exact ⟨_, _, Weak.refl _, Hp.le.refl _, rfl, rfl⟩
theorem g_bitsLen (n : Nat) (h : Hp) (hn : n ≤ 1000000) : ACalls Tryz.prog 146 [.v (.int .u64 n)] h (fun r h' => ∃ m : Int, r = .v (.int .i64 m) ∧ h' = h) := by
 refine acalls_mk (by kernel_rfl) fun G w vs hs hv ha => ?_
 have r0 := ha 0 (by simp)
 have hvs : vs = #[vs.getD 0 undef] := by
  have hv1 : vs.size = 1 := hv
  apply Array.ext (by simpa using hv1)
  intro j hj hj'
  simp only [List.size_toArray, List.length_cons, List.length_nil] at hj'
  obtain rfl : j = 0 := by omega
  simp [Array.getD, hv1]
 rw [hvs]
 generalize vs.getD 0 undef = v at r0
 simp only [List.getElem_cons_zero] at r0
 cases r0
 refine (Tryz.bits_Len n w (by omega) (by omega)).mono ?_
 rintro e w' ⟨rfl, rfl⟩
 exact ⟨_, rfl, _, h, G, ⟨_, rfl, rfl⟩, GLe.refl _, Fr.refl _ _ _, hs, .v _ rfl⟩
theorem g_srtK {f : Nat} {caps : List AV} (cf : Nat → Nat → Int) (k : Nat) (xs : List Nat) (h : Hp) (hT : h.T k = some (.cont 1 (xs.map encR))) (hl : xs.length ≤ 12)
  (hc : ∀ x ∈ xs, ∀ y ∈ xs, ∀ T', ACalls Tryz.prog f (caps ++ [encRV x, encRV y]) ⟨h.H, T'⟩ (fun r h' => r = .v (.int .i64 (cf x y)) ∧ h' = ⟨h.H, T'⟩)) :
  ACalls Tryz.prog 306 [.arr 1 k xs.length, .bfn f caps] h (fun r h' => r = .tup [] ∧ h' = ⟨h.H, upd h.T k (some (.cont 1 ((sortI cf xs).map encR)))⟩) := by
 have hwr : IntKind.u64.wrap (xs.length : Int) = xs.length := by simp [IntKind.wrap, IntKind.bits, IntKind.signed]; omega
 have hp := fun lim => g_pdqK cf k xs lim h hT hl hc
 have hbl := g_bitsLen xs.length h (by omega)
 clear hc
 refine gE Tryz.func306 rfl (by kernel_rfl) 12 rfl fun c => ?_
 (repeat (first | refine gO rfl ?_ | (refine gR fun K1 hK1 => ?_; simp only [go_sem, ↓reduceIte, reduceCtorEq, nA, nB, nC, nD, nE, nF, hwr] <;> and_intros <;> first | (apply hK1; clear hK1 K1) | (intros; first | omega | decide) | skip)))
 refine hbl.mono ?_
 rintro _ h2 ⟨n, rfl, rfl⟩
 refine hK1 _ ?_; clear hK1 K1
 (repeat (first | refine gO rfl ?_ | (refine gR fun K1 hK1 => ?_; simp only [go_sem, ↓reduceIte, reduceCtorEq, nA, nB, nC, nD, nE, nF] <;> and_intros <;> first | (apply hK1; clear hK1 K1) | (intros; first | omega | decide) | skip)))
 refine (hp _).mono ?_
 rintro _ h3 ⟨rfl, rfl⟩
 refine hK1 _ ?_; clear hK1 K1
 (repeat (first | refine gO rfl ?_ | (refine gR fun K1 hK1 => ?_; simp only [go_sem, ↓reduceIte, reduceCtorEq, nA, nB, nC, nD, nE, nF] <;> and_intros <;> first | (apply hK1; clear hK1 K1) | (intros; first | omega | decide) | skip)))
 simp only [Tryz.results306, go_sem, ↓reduceIte, reduceCtorEq, nA, nB, nC, nD, nE, nF]
 exact ⟨_, _, Weak.refl _, Hp.le.refl _, rfl, rfl⟩
theorem g_order {K : Nat → Kp} {ci k : Nat} {room rule now : Int} {ps : List Nat} {h : Hp} (hC : h.H ci = some (.cells (encCa room rule now k ps.length))) (hT : h.T k = some (.cont 1 (ps.map encR))) (hl : ps.length ≤ 12) (hK : CacheH h K ps) :
  ACalls Tryz.prog 241 [.ptr ci 0] h (fun r h' => ∃ q, r = .arr 1 q (orderF rule K ps).length ∧ h'.H = h.H ∧ h'.T q = some (.cont 1 ((orderF rule K ps).map encR)) ∧ h.T q = none ∧ ∀ t, h.T t ≠ none → h'.T t = h.T t) := by
 have hcl := g_cloneK k ps h hT (by omega)
 refine gE Tryz.func241 rfl (by kernel_rfl) 14 rfl fun c => ?_
 (repeat (first | refine gO rfl ?_ | (refine gR fun K1 hK1 => ?_; simp only [go_sem, ↓reduceIte, reduceCtorEq, nA, nB, nC, nD, nE, nF, hC, encCa] <;> and_intros <;> first | (apply hK1; clear hK1 K1) | (intros; first | omega | decide | (simp_all <;> omega)) | skip)))
 refine hcl.mono ?_
 rintro _ _ ⟨q, rfl, hq, rfl⟩
 refine hK1 _ ?_; clear hK1 K1
 have hqk : k ≠ q := by rintro rfl; rw [hT] at hq; cases hq
 have hde := g_delK (caps := []) (fun p => (K p).2.2.1) q ps ⟨h.H, upd h.T q (some (.cont 1 (ps.map encR)))⟩ (upd_same _ _ _) (by omega) (fun p hp T' => g_order1 (h := ⟨h.H, T'⟩) (hK p hp))
 (repeat (first | refine gO rfl ?_ | (refine gR fun K1 hK1 => ?_; simp only [go_sem, ↓reduceIte, reduceCtorEq, nA, nB, nC, nD, nE, nF] <;> and_intros <;> first | (apply hK1; clear hK1 K1) | (intros; first | omega | decide) | skip)))
 refine hde.mono ?_
 rintro _ ⟨H2, T2⟩ ⟨q1, rfl, hH, hT1, hoth⟩
 simp only at hH hT1
 subst hH
 refine hK1 _ ?_; clear hK1 K1
 have hf1 : (ps.filter fun p => !(K p).2.2.1).length ≤ 12 := Nat.le_trans (List.length_filter_le _ _) hl
 have hsr := g_srtK (caps := [.ptr ci 0]) (fun p q => cmpK rule (K p) (K q)) q1 (ps.filter fun p => !(K p).2.2.1) ⟨h.H, T2⟩ hT1 hf1 (fun a ha b hb T' => g_compK (h := ⟨h.H, T'⟩) hC (hK a (List.mem_filter.1 ha).1) (hK b (List.mem_filter.1 hb).1))
 (repeat (first | refine gO rfl ?_ | (refine gR fun K1 hK1 => ?_; simp only [go_sem, ↓reduceIte, reduceCtorEq, nA, nB, nC, nD, nE, nF] <;> and_intros <;> first | (apply hK1; clear hK1 K1) | (intros; first | omega | decide) | skip)))
 refine hsr.mono ?_
 rintro _ _ ⟨rfl, rfl⟩
 refine hK1 _ ?_; clear hK1 K1
 (repeat (first | refine gO rfl ?_ | (refine gR fun K1 hK1 => ?_; simp only [go_sem, ↓reduceIte, reduceCtorEq, nA, nB, nC, nD, nE, nF] <;> and_intros <;> first | (apply hK1; clear hK1 K1) | (intros; first | omega | decide) | skip)))
 simp only [Tryz.results241, go_sem, ↓reduceIte, reduceCtorEq, nA, nB, nC, nD, nE, nF]
 refine ⟨_, _, Weak.refl _, Hp.le.refl _, q1, ?_, rfl, upd_same _ _ _, ?_, ?_⟩
 ·rw [orderF, sortI_len]
 ·by_cases e : q1 = q
  ·rw [e]; exact hq
  ·cases e9 : h.T q1 with
   | none => rfl
   | some o =>
    have := (hoth q1 e (by simp only [upd_other _ _ e, e9]; simp)).1
    exact absurd rfl this
 ·intro t ht
  have htq : t ≠ q := by rintro rfl; exact ht hq
  have h9 := hoth t htq (by simp only [upd_other _ _ htq]; exact ht)
  show upd T2 q1 _ t = _
  rw [upd_other _ _ h9.1]
  refine h9.2.trans ?_
  exact upd_other _ _ htq
theorem g_going {K : Nat → Kp} {ci k : Nat} {room rule now bytes : Int} {item : ByteArray} {ps : List Nat} {h : Hp} (hC : h.H ci = some (.cells (encCa room rule now k ps.length))) (hT : h.T k = some (.cont 1 (ps.map encR))) (hl : ps.length ≤ 12) (hK : CacheH h K ps)
  (hB : ∀ p ∈ ps, 0 ≤ (K p).2.1 ∧ (K p).2.1 ≤ 1000000000000) (hr : 0 ≤ room ∧ room ≤ 1000000000000) (hb : 0 ≤ bytes ∧ bytes ≤ 1000000000000) :
  ACalls Tryz.prog 186 [.ptr ci 0, .v (.string item), .v (.int .i64 bytes)] h (fun r h' => ∃ kt, r = .tup [.row 1 ((goingF item bytes room rule K ps).1.map encR) (some kt), .v (.bool (decide ((goingF item bytes room rule K ps).2 ≤ 0)))] ∧ h'.H = h.H ∧ ∀ t, h.T t ≠ none → h'.T t = h.T t) := by
 have hml : (ps.map encR).length = ps.length := List.length_map _
 refine gE Tryz.func186 rfl (by kernel_rfl) 68 rfl fun c => ?_
 (repeat (first | refine gO rfl ?_ | (refine gR fun K1 hK1 => ?_; simp only [go_sem, ↓reduceIte, reduceCtorEq, nA, nB, nC, nD, nE, nF, hC, encCa] <;> and_intros <;> first | (apply hK1; clear hK1 K1) | (intros; first | omega | decide | (simp_all <;> omega)) | skip)))
 refine awp_loopC (rl false [0, 3, 5, 1, 14, 3, 45]) 0 (fun g s => ∃ (j : Nat) (o : Int), g + j = ps.length ∧ overF item K (ps.drop j) o = overF item K ps (bytes - room) ∧ -1000000000000 ≤ o ∧ o ≤ 1000000000000 + j * 1000000000000 ∧
  s = ⟨((.ptr ci 0) :: (.v (.string item)) :: (.v (.int .i64 bytes)) :: (jnk 5 ((.v (.int .i64 o)) :: (jnk 14 ((.arr 1 k ps.length) :: (.v (.int .i64 ps.length)) :: (.v (.int .i64 j)) :: (jnk 45 [])))))), [], h⟩) ps.length ⟨0, bytes - room, by omega, by rw [List.drop_zero], by omega, by omega, rfl⟩ ?_
 rintro g _ ⟨j, o, hj, ho, ho1, ho2, rfl⟩
 (repeat (first | refine gO rfl ?_ | (refine gR fun K1 hK1 => ?_; simp only [go_sem, ↓reduceIte, reduceCtorEq, nA, nB, nC, nD, nE, nF] <;> and_intros <;> first | (apply hK1; clear hK1 K1) | (intros; first | omega | decide) | skip)))
 refine awp_cond (t := _) rfl (fun h1 => ?_) (fun h1 => ?_)
 ·simp only [decide_eq_true_eq] at h1
  have hjl : j < ps.length := by omega
  have gx : (ps.map encR).getD j [] = encR (ps.getD j default) := getD_enc encR ps j default hjl
  have hdj := drop_at' ps j default hjl
  have hpm : ps.getD j default ∈ ps := by rw [List.getD_eq_getElem?_getD, List.getElem?_eq_getElem hjl]; exact List.getElem_mem _
  obtain ⟨p, hp⟩ : ∃ p, ps.getD j default = p := ⟨_, rfl⟩
  rw [hp] at gx hdj hpm
  have hhp := hK p hpm
  have hbp := hB p hpm
  obtain ⟨o9, ho9⟩ : ∃ o9, overF item K ps (bytes - room) = o9 := ⟨_, rfl⟩
  rw [ho9] at ho ⊢
  rw [hdj, overF] at ho
  generalize K p = x at *
  obtain ⟨ke, by1, pi, ca, la, ma⟩ := x
  simp only at ho hbp
  (repeat (first | refine gO rfl ?_ | (refine gR fun K1 hK1 => ?_; simp only [go_sem, ↓reduceIte, reduceCtorEq, nA, nB, nC, nD, nE, nF, hT, hml, Int.toNat_natCast, gx, encR, hhp, encKp] <;> and_intros <;> first | (apply hK1; clear hK1 K1) | (intros; first | omega | decide) | skip)))
  by_cases e : ke = item
  ·refine awp_cond (t := _) rfl (fun h9 => absurd h9 (by rw [e]; simp [ba_beq])) (fun _ => ?_)
   rw [if_pos e] at ho
   (repeat (first | refine gO rfl ?_ | (refine gR fun K1 hK1 => ?_; simp only [go_sem, ↓reduceIte, reduceCtorEq, nA, nB, nC, nD, nE, nF] <;> and_intros <;> first | (apply hK1; clear hK1 K1) | (intros; first | omega | decide) | skip)))
   exact ⟨g - 1, by omega, j + 1, o, by omega, ho, ho1, by omega, rfl⟩
  ·refine awp_cond (t := _) rfl (fun _ => ?_) (fun h9 => absurd (by simpa [ba_beq] using h9) e)
   rw [if_neg e] at ho
   (repeat (first | refine gO rfl ?_ | (refine gR fun K1 hK1 => ?_; simp only [go_sem, ↓reduceIte, reduceCtorEq, nA, nB, nC, nD, nE, nF, hhp, encKp] <;> and_intros <;> first | (apply hK1; clear hK1 K1) | (intros; first | omega | decide) | skip)))
   exact ⟨g - 1, by omega, j + 1, o + by1, by omega, ho, by omega, by omega, rfl⟩
 ·simp only [decide_eq_false_iff_not] at h1
  have hjl : j = ps.length := by omega
  subst hjl
  rw [List.drop_length] at ho
  simp only [overF] at ho
  (repeat refine gO rfl ?_)
  refine awp_seq ?_
  refine awp_AL ?_
  refine AL.cons rfl (Quiet.aop (q_move (.inr rfl)) ?_)
  refine AL.nil ?_
  refine awp_own 11 1 rfl ⟨rfl, rfl⟩ (fun kt hkt => ?_)
  refine awp_cut (rl false [0, 3, 5, 1, 2, 1, 59]) 0 (?_ : Awp _ _ _ _ ⟨((.ptr ci 0) :: (.v (.string item)) :: (.v (.int .i64 bytes)) :: (jnk 5 ((.v (.int .i64 o)) :: AV.junk :: AV.junk :: ((.row 1 [] (some kt)) :: (jnk 59 []))))), [], ⟨h.H, upd h.T kt (some (.tail 0))⟩⟩)
  have hkt' : h.T kt = none := hkt
  have hkk : k ≠ kt := by rintro rfl; rw [hT] at hkt'; cases hkt'
  have hor := g_order (K := K) (rule := rule) (h := ⟨h.H, upd h.T kt (some (.tail 0))⟩) hC ((upd_other _ _ hkk).trans hT) hl hK
  (repeat (first | refine gO rfl ?_ | (refine gR fun K1 hK1 => ?_; simp only [go_sem, ↓reduceIte, reduceCtorEq, nA, nB, nC, nD, nE, nF] <;> and_intros <;> first | (apply hK1; clear hK1 K1) | (intros; first | omega | decide) | skip)))
  refine hor.mono ?_
  rintro _ ⟨H2, T2⟩ ⟨q, rfl, hH, hT2, hq, hoth⟩
  simp only at hH hT2
  subst hH
  refine hK1 _ ?_; clear hK1 K1 hor
  have hqkt : q ≠ kt := by
   intro e
   have hq' : upd h.T kt (some (.tail 0)) q = none := hq
   rw [e, upd_same] at hq'; cases hq'
  have hT2k : T2 kt = some (.tail 0) := by
   have := hoth kt (by show upd h.T kt _ kt ≠ none; rw [upd_same]; simp)
   exact this.trans (upd_same _ _ _)
  have hold : ∀ t, h.T t ≠ none → T2 t = h.T t ∧ t ≠ kt := fun t ht => by
   have htk : t ≠ kt := by rintro rfl; exact ht hkt'
   have := hoth t (by show upd h.T kt _ t ≠ none; rw [upd_other _ _ htk]; exact ht)
   exact ⟨this.trans (upd_other _ _ htk), htk⟩
  have hom : ∀ p ∈ orderF rule K ps, p ∈ ps := fun p hp => orderF_mem hp
  have hol := orderF_len rule K ps
  unfold goingF
  rw [← ho]
  generalize orderF rule K ps = ord at *
  generalize hG : goF item K ord o = G
  have hol2 : (ord.map encR).length = ord.length := List.length_map _
  clear hoth
  (repeat (first | refine gO rfl ?_ | (refine gR fun K1 hK1 => ?_; simp only [go_sem, ↓reduceIte, reduceCtorEq, nA, nB, nC, nD, nE, nF] <;> and_intros <;> first | (apply hK1; clear hK1 K1) | (intros; first | omega | decide) | skip)))
  refine awp_loopC (rl false [0, 3, 5, 1, 2, 1, 31, 3, 25]) 0 (fun g s => ∃ (j : Nat) (o : Int) (acc : List Nat), g + j = ord.length ∧ acc ++ (goF item K (ord.drop j) o).1 = G.1 ∧ (goF item K (ord.drop j) o).2 = G.2 ∧ acc.length ≤ j ∧ -1000000000000 ≤ o ∧ o ≤ 100000000000000 ∧
   s = ⟨((.ptr ci 0) :: (.v (.string item)) :: (.v (.int .i64 bytes)) :: (jnk 5 ((.v (.int .i64 o)) :: AV.junk :: AV.junk :: ((.row 1 (acc.map encR) (some kt)) :: (jnk 31 ((.arr 1 q ord.length) :: (.v (.int .i64 ord.length)) :: (.v (.int .i64 j)) :: (jnk 25 []))))))), [], ⟨h.H, upd T2 kt (some (.tail acc.length))⟩⟩) ord.length ⟨0, o, [], by omega, by rw [List.drop_zero, hG]; rfl, by rw [List.drop_zero, hG], Nat.le_refl _, ho1, by omega, ?_⟩ ?_
  ·have e2 : upd T2 kt (some (TO.tail ([] : List Nat).length)) = T2 := by
    funext t
    by_cases e : t = kt
    ·rw [e, upd_same, hT2k]; rfl
    ·rw [upd_other _ _ e]
   rw [e2]; rfl
  rintro g _ ⟨j, o2, acc, hj, hg1, hg2, hac, hb1, hb2, rfl⟩
  (repeat (first | refine gO rfl ?_ | (refine gR fun K1 hK1 => ?_; simp only [go_sem, ↓reduceIte, reduceCtorEq, nA, nB, nC, nD, nE, nF] <;> and_intros <;> first | (apply hK1; clear hK1 K1) | (intros; first | omega | decide) | skip)))
  refine awp_cond (t := _) rfl (fun h1 => ?_) (fun h1 => ?_)
  ·simp only [decide_eq_true_eq] at h1
   have hjl : j < ord.length := by omega
   have gx : (ord.map encR).getD j [] = encR (ord.getD j default) := getD_enc encR ord j default hjl
   have hdj := drop_at' ord j default hjl
   have hpm : ord.getD j default ∈ ord := by rw [List.getD_eq_getElem?_getD, List.getElem?_eq_getElem hjl]; exact List.getElem_mem _
   obtain ⟨p, hp⟩ : ∃ p, ord.getD j default = p := ⟨_, rfl⟩
   rw [hp] at gx hdj hpm
   have hhp := hK p (hom p hpm)
   have hbp := hB p (hom p hpm)
   have htq : upd T2 kt (some (TO.tail acc.length)) q = some (.cont 1 (ord.map encR)) := (upd_other _ _ hqkt).trans hT2
   have htk2 : upd T2 kt (some (TO.tail acc.length)) kt = some (.tail acc.length) := upd_same _ _ _
   rw [hdj, goF] at hg1 hg2
   generalize K p = x at *
   obtain ⟨ke, by1, pi, ca, la, ma⟩ := x
   simp only at hg1 hg2 hbp
   (repeat (first | refine gO rfl ?_ | (refine gR fun K1 hK1 => ?_; simp only [go_sem, ↓reduceIte, reduceCtorEq, nA, nB, nC, nD, nE, nF, htq, hol2, Int.toNat_natCast, gx, encR] <;> and_intros <;> first | (apply hK1; clear hK1 K1) | (intros; first | omega | decide) | skip)))
   refine awp_cond (t := _) rfl (fun h2 => ?_) (fun h2 => ?_)
   ·simp only [decide_eq_true_eq] at h2
    rw [if_pos h2] at hg1 hg2
    simp only at hg1 hg2
    (repeat (first | refine gO rfl ?_ | (refine gR fun K1 hK1 => ?_; simp only [go_sem, ↓reduceIte, reduceCtorEq, nA, nB, nC, nD, nE, nF] <;> and_intros <;> first | (apply hK1; clear hK1 K1) | (intros; first | omega | decide) | skip)))
    simp only [Tryz.results186, go_sem, ↓reduceIte, reduceCtorEq, nA, nB, nC, nD, nE, nF]
    refine ⟨_, _, Weak.refl _, Hp.le.refl _, kt, by rw [← hg1, ← hg2, List.append_nil], rfl, fun t ht => ?_⟩
    exact (upd_other _ _ (hold t ht).2).trans (hold t ht).1
   ·simp only [decide_eq_false_iff_not] at h2
    rw [if_neg h2] at hg1 hg2
    (repeat (first | refine gO rfl ?_ | (refine gR fun K1 hK1 => ?_; simp only [go_sem, ↓reduceIte, reduceCtorEq, nA, nB, nC, nD, nE, nF, hhp, encKp] <;> and_intros <;> first | (apply hK1; clear hK1 K1) | (intros; first | omega | decide) | skip)))
    by_cases e : ke = item
    ·refine awp_cond (t := _) rfl (fun h9 => absurd h9 (by rw [e]; simp [ba_beq])) (fun _ => ?_)
     rw [if_pos e] at hg1 hg2
     (repeat (first | refine gO rfl ?_ | (refine gR fun K1 hK1 => ?_; simp only [go_sem, ↓reduceIte, reduceCtorEq, nA, nB, nC, nD, nE, nF] <;> and_intros <;> first | (apply hK1; clear hK1 K1) | (intros; first | omega | decide) | skip)))
     exact ⟨g - 1, by omega, j + 1, o2, acc, by omega, hg1, hg2, by omega, hb1, hb2, rfl⟩
    ·refine awp_cond (t := _) rfl (fun _ => ?_) (fun h9 => absurd (by simpa [ba_beq] using h9) e)
     rw [if_neg e] at hg1 hg2
     (repeat (first | refine gO rfl ?_ | (refine gR fun K1 hK1 => ?_; simp only [go_sem, ↓reduceIte, reduceCtorEq, nA, nB, nC, nD, nE, nF, hhp, encKp, htk2, List.length_map] <;> and_intros <;> first | (apply hK1; clear hK1 K1) | (intros; first | omega | decide) | skip)))
     refine ⟨g - 1, by omega, j + 1, o2 - by1, acc ++ [p], by omega, by rw [List.append_assoc]; exact hg1, hg2, by rw [List.length_append, List.length_singleton]; omega, by omega, by omega, ?_⟩
     rw [List.map_append, List.length_append]
     rfl
  ·simp only [decide_eq_false_iff_not] at h1
   have hjl : j = ord.length := by omega
   subst hjl
   rw [List.drop_length, goF] at hg1 hg2
   simp only at hg1 hg2
   (repeat (first | refine gO rfl ?_ | (refine gR fun K1 hK1 => ?_; simp only [go_sem, ↓reduceIte, reduceCtorEq, nA, nB, nC, nD, nE, nF] <;> and_intros <;> first | (apply hK1; clear hK1 K1) | (intros; first | omega | decide) | skip)))
   simp only [Tryz.results186, go_sem, ↓reduceIte, reduceCtorEq, nA, nB, nC, nD, nE, nF]
   refine ⟨_, _, Weak.refl _, Hp.le.refl _, kt, by rw [← hg1, ← hg2, List.append_nil], rfl, fun t ht => ?_⟩
   exact (upd_other _ _ (hold t ht).2).trans (hold t ht).1
end Go.Proofs.YtpnfkfbapfnboaaGreatDoor
