/- loop.Passes and signref1.PassesOf. -/
import Derived.Test.YtoleejecmefogaaDoorM4
import Derived.Test.YtoleejecmefogaaDoorShelf
import Derived.Deep.DeepCutAuto
import Derived.Deep.LoopGhost
namespace Go.Proofs.YtoleejecmefogaaDoor
open Go
set_option linter.unusedVariables false
set_option linter.unusedSimpArgs false
set_option maxRecDepth 100000
set_option maxHeartbeats 8000000
theorem firstNZ_all : ∀ (l : List Int), firstNZ l = 0 → ∀ x ∈ l, x = 0
  | [], _, x, hx => by simp at hx
  | y :: l, h, x, hx => by
    simp only [firstNZ] at h
    split at h
    · rename_i h0
      rcases List.mem_cons.1 hx with rfl | hx
      · exact h0
      · exact firstNZ_all l h x hx
    · rename_i h0; exact absurd h h0
theorem vl_of : ∀ (d : Nat) (t : LT), LC d t → partF t = 0 → VL d t
  | 0, _, h, _ => h.elim
  | d + 1, .mk kind item long many kids shares, hb, hp => by
    obtain ⟨b1, b2, b3, b4, b5, b6, b7, b8⟩ := hb
    rw [partF_eq] at hp
    by_cases h1 : outB kind 1 5
    · rw [if_pos h1] at hp; omega
    rw [if_neg h1] at hp
    by_cases h2 : formB kind item long many kids.length shares.length
    · rw [if_pos h2] at hp; omega
    rw [if_neg h2] at hp
    by_cases h3 : (kind == 1 && !keyB item) = true
    · rw [if_pos h3] at hp; omega
    rw [if_neg h3] at hp
    by_cases h4 : (kind == 1 && outB long 1 3600000) = true
    · rw [if_pos h4] at hp; omega
    rw [if_neg h4] at hp
    by_cases h5 : (kind == 5 && outB many 1 100) = true
    · rw [if_pos h5] at hp; omega
    rw [if_neg h5] at hp
    by_cases h6 : shares.any (fun n => outB n 1 1000)
    · rw [if_pos h6] at hp; omega
    rw [if_neg h6] at hp
    have hk := firstNZ_all _ hp
    simp only [outB, Bool.or_eq_true, decide_eq_true_eq, not_or, Int.not_lt] at h1
    simp only [formB, Bool.or_eq_true, Bool.and_eq_true, beq_iff_eq, bne_iff_ne, ne_eq, not_or, not_and, Decidable.not_not] at h2
    simp only [outB, Bool.and_eq_true, beq_iff_eq, Bool.or_eq_true, decide_eq_true_eq, not_and, not_or, Int.not_lt] at h5
    obtain ⟨⟨⟨⟨⟨⟨g1, g2⟩, g3⟩, g4⟩, g5⟩, g6⟩, g7⟩ := h2
    refine ⟨by omega, fun h => List.eq_nil_of_length_eq_zero (by have := g1 h; omega), fun h hn => by subst hn; exact g3 h rfl, fun h => ⟨by have := g2 h; omega, (h5 h).1, (h5 h).2⟩, fun h => by have := g4 h; omega, fun n hn => ?_, ⟨b5, b6⟩, fun k hkm => vl_of d k (b8 k hkm) (hk _ (List.mem_map.2 ⟨k, hkm, rfl⟩))⟩
    have h7 : outB n 1 1000 = false := by
      cases e : outB n 1 1000 with
      | false => rfl
      | true => exact absurd (List.any_eq_true.2 ⟨n, hn, e⟩) h6
    simp only [outB, Bool.or_eq_false_iff, decide_eq_false_iff_not, Int.not_lt] at h7
    exact h7
theorem psb0 : ∀ (d : Nat) (t : LT), PSB d t (ps0 t) 0
  | 0, _ => trivial
  | d + 1, .mk kind item long many kids shares => by
    rw [ps0_eq]
    refine ⟨by omega, fun x hx => ?_, fun j hj => ?_⟩
    · obtain ⟨_, _, rfl⟩ := List.mem_map.1 hx; omega
    · have e : (kids.map ps0).getD j default = ps0 (kids.getD j default) := by
        rw [List.getD_eq_getElem?_getD, List.getD_eq_getElem?_getD, List.getElem?_map, List.getElem?_eq_getElem hj]; rfl
      rw [e]; exact psb0 d _
/-- So many passes. -/
def passesU (d : Nat) (t : LT) : Nat → PS × List (ByteArray × Int)
  | 0 => (ps0 t, [])
  | n + 1 => ((passU d t (passesU d t n).1).1, (passesU d t n).2 ++ (passU d t (passesU d t n).1).2)
theorem passesU_mono (d : Nat) (t : LT) : ∀ {m n : Nat}, m ≤ n → (passesU d t m).2.length ≤ (passesU d t n).2.length
  | m, 0, h => by obtain rfl : m = 0 := by omega
                  exact Nat.le_refl _
  | m, n + 1, h => by
    by_cases e : m = n + 1
    · rw [e]; exact Nat.le_refl _
    · have := passesU_mono d t (m := m) (n := n) (by omega)
      simp only [passesU, List.length_append]; omega
def wantX (d : Nat) (t : LT) (n : Nat) : AV := if (passesU d t n).2.length ≤ 5000 then .row 2 ((passesU d t n).2.map encStep) none else .row 2 [] none
def wantE (d : Nat) (t : LT) (n : Nat) : Int := if (passesU d t n).2.length ≤ 5000 then 0 else 2
theorem FrP.le {a : AT} {o k : Nat} {h h1 h2 : Hp} (f : FrP a o k h1 h2) (ha : ∀ i ∈ idsT a, h.H i = none) (hc : ∀ c ∈ toksT a, h.T c = none) (ho : h.H o = none) (hk : h.T k = none) (k1 : ∀ i, h.H i ≠ none → h1.H i = h.H i) (k2 : ∀ c, h.T c ≠ none → h1.T c = h.T c) : Hp.le h h2 :=
  ⟨fun i => by
    by_cases e : h.H i = none
    · exact .inl e
    · exact .inr ((f.1 i (fun hi => e (ha i hi)) (fun hi => e (by rw [hi]; exact ho))).trans (k1 i e)).symm, fun c => by
    by_cases e : h.T c = none
    · exact .inl e
    · exact .inr ((f.2 c (fun hi => e (hc c hi)) (fun hi => e (by rw [hi]; exact hk))).trans (k2 c e)).symm⟩
theorem g_passesOf (d : Nat) (t : LT) (many : Int) (h : Hp) (hv : VL d t) (hb : LC d t) (hm : 0 ≤ many ∧ many ≤ 5000) :
    ACalls Tryd.prog 11 [.agg (encL t), .v (.int .i64 many)] h (fun r _ => r = .tup [wantX d t many.toNat, .v (.int .i64 (wantE d t many.toNat))]) := by
  have hlen := encL_len t
  have htk : List.take 6 (encL t) = encL t := List.take_of_length_le (Nat.le_of_eq hlen)
  refine acalls_of tyok Tryd.func11 rfl (by kernel_rfl) fun c => ?_; simp only [Tryd.ntmps11, List.length_cons, List.length_nil, Nat.reduceAdd, Nat.reduceSub, jnk_rep, List.cons_append, List.nil_append]
  (repeat (first | (with_reducible first | refine wB ?_ | refine wN ?_) | ((with_reducible refine wI ?_); refine wN ?_) | ((with_reducible first | refine uS (mdL [(6, 2)]) ?_ | refine uR (mdL [(6, 2)]) ?_ | refine wG ?_) <;> ((try with_reducible intro K1 hK1); simp only [go_sem, ↓reduceIte, reduceCtorEq, Nat.reduceAdd, Nat.reduceSub, Nat.reduceMul, Nat.reduceLT, Nat.reduceLeDiff, Nat.reduceEqDiff, hlen, htk]; (try and_intros); all_goals first | (refine hK1 _ ?_; clear hK1 K1) | (intros; first | (with_reducible trivial) | omega | (simp_all <;> omega)) | skip)) | (with_reducible first | refine zS ?_ | refine zN ?_ | refine zX ?_ | refine zE ?_ | refine zF ?_ | refine zO (by decide) ?_ | refine zB ?_)))
  intro o ho
  refine hK1 _ ?_; clear hK1 K1
  refine vRem_nil ?_
  refine awp_ownPtr (cs := [.v (.slice none 0 0)]) o 0 2 (upd_same _ _ _) rfl (fun k hk => ?_)
  simp only [List.set_cons_zero, upd_upd]
  replace hk : h.T k = none := hk
  (repeat (first | (with_reducible first | refine wB ?_ | refine wN ?_) | ((with_reducible refine wI ?_); refine wN ?_) | ((with_reducible first | refine uS (mdL [(6, 2)]) ?_ | refine uR (mdL [(6, 2)]) ?_ | refine wG ?_) <;> ((try with_reducible intro K1 hK1); simp only [go_sem, ↓reduceIte, reduceCtorEq, Nat.reduceAdd, Nat.reduceSub, Nat.reduceMul, Nat.reduceLT, Nat.reduceLeDiff, Nat.reduceEqDiff, hlen, htk]; (try and_intros); all_goals first | (refine hK1 _ ?_; clear hK1 K1) | (intros; first | (with_reducible trivial) | omega | (simp_all <;> omega)) | skip)) | (with_reducible first | refine zS ?_ | refine zN ?_ | refine zX ?_ | refine zE ?_ | refine zF ?_ | refine zO (by decide) ?_ | refine zB ?_)))
  refine (g_newRunner d t _ hb).mono ?_
  rintro _ h1 ⟨a, rfl, hR, hS, hn1, hn2, hk1, hk2⟩
  refine hK1 _ ?_; clear hK1 K1
  have hoa : o ∉ idsT a := fun hx => by have := hn1 o hx; rw [show (_ : Hp).H o = _ from upd_same h.H o _] at this; cases this
  have hH1 : h1.H o = some (.cells [.row 2 [] (some k)]) := (hk1 o (by rw [show (_ : Hp).H o = _ from upd_same h.H o _]; simp)).trans (upd_same _ _ _)
  have hT1 : h1.T k = some (.tail 0) := (hk2 k (by rw [show (_ : Hp).T k = _ from upd_same h.T k _]; simp)).trans (upd_same _ _ _)
  have hO1 : OutAt h1 o k [] [] := ⟨hH1, hT1⟩
  (repeat (first | (with_reducible first | refine wB ?_ | refine wN ?_) | ((with_reducible refine wI ?_); refine wN ?_) | ((with_reducible first | refine uS (mdL [(6, 2)]) ?_ | refine uR (mdL [(6, 2)]) ?_ | refine wG ?_) <;> ((try with_reducible intro K1 hK1); simp only [go_sem, ↓reduceIte, reduceCtorEq, Nat.reduceAdd, Nat.reduceSub, Nat.reduceMul, Nat.reduceLT, Nat.reduceLeDiff, Nat.reduceEqDiff]; (try and_intros); all_goals first | (refine hK1 _ ?_; clear hK1 K1) | (intros; first | (with_reducible trivial) | omega | (simp_all <;> omega)) | skip)) | (with_reducible first | refine zS ?_ | refine zN ?_ | refine zX ?_ | refine zE ?_ | refine zF ?_ | refine zO (by decide) ?_ | refine zB ?_)))
  refine awp_seq ?_
  (repeat (first | (with_reducible first | refine wB ?_ | refine wN ?_) | ((with_reducible refine wI ?_); refine wN ?_) | ((with_reducible first | refine uS (mdL [(6, 2)]) ?_ | refine uR (mdL [(6, 2)]) ?_ | refine wG ?_) <;> ((try with_reducible intro K1 hK1); simp only [go_sem, ↓reduceIte, reduceCtorEq, Nat.reduceAdd, Nat.reduceSub, Nat.reduceMul, Nat.reduceLT, Nat.reduceLeDiff, Nat.reduceEqDiff]; (try and_intros); all_goals first | (refine hK1 _ ?_; clear hK1 K1) | (intros; first | (with_reducible trivial) | omega | (simp_all <;> omega)) | skip)) | (with_reducible first | refine wQ ?_ | refine zS ?_ | refine zN ?_ | refine zX ?_ | refine zE ?_ | refine zF ?_ | refine zO (by decide) ?_ | refine zB ?_)))
  refine awp_loopC (rl false [6, 2, 2, 2, 6]) 0 (fun g s => ∃ (j : Nat) (h2 : Hp), g + j = many.toNat ∧ RAt XR h2 d t a (passesU d t j).1 ∧ OutAt h2 o k [] (passesU d t j).2 ∧ PSB d t (passesU d t j).1 (passesU d t j).2.length ∧ (passesU d t j).2.length ≤ 5000 ∧
    s = ⟨((jnk 6 ((.ptr o 0) :: (.ptr a.id 0) :: AV.junk :: AV.junk :: ((.v (.int .i64 many)) :: (.v (.int .i64 j)) :: (jnk 6 []))))), [], h2⟩) many.toNat ⟨0, h1, by omega, hR, hO1, psb0 d t, by simp [passesU], rfl⟩ ?_
  rintro g _ ⟨j, h2, hj, hR2, hO2, hB2, hl2, rfl⟩
  (repeat (first | (with_reducible first | refine wB ?_ | refine wN ?_) | ((with_reducible refine wI ?_); refine wN ?_) | ((with_reducible first | refine uS (mdL [(6, 2)]) ?_ | refine uR (mdL [(6, 2)]) ?_ | refine wG ?_) <;> ((try with_reducible intro K1 hK1); simp only [go_sem, ↓reduceIte, reduceCtorEq, Nat.reduceAdd, Nat.reduceSub, Nat.reduceMul, Nat.reduceLT, Nat.reduceLeDiff, Nat.reduceEqDiff]; (try and_intros); all_goals first | (refine hK1 _ ?_; clear hK1 K1) | (intros; first | (with_reducible trivial) | omega | (simp_all <;> omega)) | skip)) | (with_reducible first | refine wQ ?_ | refine zS ?_ | refine zN ?_ | refine zX ?_ | refine zE ?_ | refine zF ?_ | refine zO (by decide) ?_ | refine zB ?_)))
  refine awp_cond (t := _) rfl (fun h3 => ?_) (fun h3 => ?_)
  · simp only [decide_eq_true_eq] at h3
    have hjm : j + 1 ≤ many.toNat := by omega
    (repeat (first | (with_reducible first | refine wB ?_ | refine wN ?_) | ((with_reducible refine wI ?_); refine wN ?_) | ((with_reducible first | refine uS (mdL [(6, 2)]) ?_ | refine uR (mdL [(6, 2)]) ?_ | refine wG ?_) <;> ((try with_reducible intro K1 hK1); simp only [go_sem, ↓reduceIte, reduceCtorEq, Nat.reduceAdd, Nat.reduceSub, Nat.reduceMul, Nat.reduceLT, Nat.reduceLeDiff, Nat.reduceEqDiff]; (try and_intros); all_goals first | (refine hK1 _ ?_; clear hK1 K1) | (intros; first | (with_reducible trivial) | omega | (simp_all <;> omega)) | skip)) | (with_reducible first | refine wQ ?_ | refine zS ?_ | refine zN ?_ | refine zX ?_ | refine zE ?_ | refine zF ?_ | refine zO (by decide) ?_ | refine zB ?_)))
    refine (g_passR d t a _ h2 o k _ hv hR2 hS hB2 hO2 hoa hl2).mono ?_
    intro r h4 hres
    unfold PRes at hres
    have hpo := passU_ok d t (passesU d t j).1 (passesU d t j).2.length hv hR2.fits (by omega) hB2
    have e5 : (passesU d t (j + 1)).2.length = (passesU d t j).2.length + (passU d t (passesU d t j).1).2.length := by simp only [passesU, List.length_append]
    split at hres
    · rename_i hle
      obtain ⟨rfl, hR4, hO4, _⟩ := hres
      refine hK1 _ ?_; clear hK1 K1
      (repeat (first | (with_reducible first | refine wB ?_ | refine wN ?_) | ((with_reducible refine wI ?_); refine wN ?_) | ((with_reducible first | refine uS (mdL [(6, 2)]) ?_ | refine uR (mdL [(6, 2)]) ?_ | refine wG ?_) <;> ((try with_reducible intro K1 hK1); simp only [go_sem, ↓reduceIte, reduceCtorEq, Nat.reduceAdd, Nat.reduceSub, Nat.reduceMul, Nat.reduceLT, Nat.reduceLeDiff, Nat.reduceEqDiff]; (try and_intros); all_goals first | (refine hK1 _ ?_; clear hK1 K1) | (intros; first | (with_reducible trivial) | omega | (simp_all <;> omega)) | skip)) | (with_reducible first | refine wQ ?_ | refine zS ?_ | refine zN ?_ | refine zX ?_ | refine zE ?_ | refine zF ?_ | refine zO (by decide) ?_ | refine zB ?_)))
      refine awp_cond (t := _) rfl (fun h => by cases h) (fun _ => ?_)
      (repeat (first | (with_reducible first | refine wB ?_ | refine wN ?_) | ((with_reducible refine wI ?_); refine wN ?_) | ((with_reducible first | refine uS (mdL [(6, 2)]) ?_ | refine uR (mdL [(6, 2)]) ?_ | refine wG ?_) <;> ((try with_reducible intro K1 hK1); simp only [go_sem, ↓reduceIte, reduceCtorEq, Nat.reduceAdd, Nat.reduceSub, Nat.reduceMul, Nat.reduceLT, Nat.reduceLeDiff, Nat.reduceEqDiff]; (try and_intros); all_goals first | (refine hK1 _ ?_; clear hK1 K1) | (intros; first | (with_reducible trivial) | omega | (simp_all <;> omega)) | skip)) | (with_reducible first | refine wQ ?_ | refine zS ?_ | refine zN ?_ | refine zX ?_ | refine zE ?_ | refine zF ?_ | refine zO (by decide) ?_ | refine zB ?_)))
      exact ⟨g - 1, by omega, j + 1, h4, by omega, hR4, hO4, by rw [e5]; exact_mod_cast hpo.2.1, by omega, rfl⟩
    · rename_i hle
      subst hres
      refine hK1 _ ?_; clear hK1 K1
      (repeat (first | (with_reducible first | refine wB ?_ | refine wN ?_) | ((with_reducible refine wI ?_); refine wN ?_) | ((with_reducible first | refine uS (mdL [(6, 2)]) ?_ | refine uR (mdL [(6, 2)]) ?_ | refine wG ?_) <;> ((try with_reducible intro K1 hK1); simp only [go_sem, ↓reduceIte, reduceCtorEq, Nat.reduceAdd, Nat.reduceSub, Nat.reduceMul, Nat.reduceLT, Nat.reduceLeDiff, Nat.reduceEqDiff]; (try and_intros); all_goals first | (refine hK1 _ ?_; clear hK1 K1) | (intros; first | (with_reducible trivial) | omega | (simp_all <;> omega)) | skip)) | (with_reducible first | refine wQ ?_ | refine zS ?_ | refine zN ?_ | refine zX ?_ | refine zE ?_ | refine zF ?_ | refine zO (by decide) ?_ | refine zB ?_)))
      refine awp_cond (t := _) rfl (fun _ => ?_) (fun h => by cases h)
      (repeat (first | (with_reducible first | refine wB ?_ | refine wN ?_) | ((with_reducible refine wI ?_); refine wN ?_) | ((with_reducible first | refine uS (mdL [(6, 2)]) ?_ | refine uR (mdL [(6, 2)]) ?_ | refine wG ?_) <;> ((try with_reducible intro K1 hK1); simp only [go_sem, ↓reduceIte, reduceCtorEq, Nat.reduceAdd, Nat.reduceSub, Nat.reduceMul, Nat.reduceLT, Nat.reduceLeDiff, Nat.reduceEqDiff]; (try and_intros); all_goals first | (refine hK1 _ ?_; clear hK1 K1) | (intros; first | (with_reducible trivial) | omega | (simp_all <;> omega)) | skip)) | (with_reducible first | refine wQ ?_ | refine zS ?_ | refine zN ?_ | refine zX ?_ | refine zE ?_ | refine zF ?_ | refine zO (by decide) ?_ | refine zB ?_)))
      refine zR ?_; (repeat (with_reducible first | refine zT ?_ | refine zU ?_)); simp only [Tryd.results11, go_sem, ↓reduceIte, reduceCtorEq, Nat.reduceAdd, Nat.reduceSub, Nat.reduceMul, Nat.reduceLT, Nat.reduceLeDiff, Nat.reduceEqDiff]
      have hmo := passesU_mono d t hjm
      refine ⟨_, _, Weak.tup1 (Weak.nil 2 0 0 ⟨rfl, rfl⟩) (Weak.refl _), Hp.le.refl _, ?_⟩
      rw [wantX, wantE, if_neg (by omega), if_neg (by omega)]
  · simp only [decide_eq_false_iff_not] at h3
    have hjm : j = many.toNat := by omega
    subst hjm
    have hO20 : h2.H o = some (.cells [.row 2 ((passesU d t many.toNat).2.map encStep) (some k)]) := hO2.1
    (repeat (first | (with_reducible first | refine wB ?_ | refine wN ?_) | ((with_reducible refine wI ?_); refine wN ?_) | ((with_reducible first | refine uS (mdL [(6, 2)]) ?_ | refine uR (mdL [(6, 2)]) ?_ | refine wG ?_) <;> ((try with_reducible intro K1 hK1); simp only [go_sem, ↓reduceIte, reduceCtorEq, Nat.reduceAdd, Nat.reduceSub, Nat.reduceMul, Nat.reduceLT, Nat.reduceLeDiff, Nat.reduceEqDiff, hO20]; (try and_intros); all_goals first | (refine hK1 _ ?_; clear hK1 K1) | (intros; first | (with_reducible trivial) | omega | (simp_all <;> omega)) | skip)) | (with_reducible first | refine wQ ?_ | refine zS ?_ | refine zN ?_ | refine zX ?_ | refine zE ?_ | refine zF ?_ | refine zO (by decide) ?_ | refine zB ?_)))
    refine zR ?_; (repeat (with_reducible first | refine zT ?_ | refine zU ?_)); simp only [Tryd.results11, go_sem, ↓reduceIte, reduceCtorEq, Nat.reduceAdd, Nat.reduceSub, Nat.reduceMul, Nat.reduceLT, Nat.reduceLeDiff, Nat.reduceEqDiff]
    refine ⟨_, _, Weak.tup1 (Weak.row _ _ _) (Weak.refl _), Hp.le.refl _, ?_⟩
    rw [wantX, wantE, if_pos hl2, if_pos hl2]
theorem g_passes (d : Nat) (t : LT) (many : Int) (h : Hp) (hb : LC d t) (hd : d ≤ 28) (hmb : NB many) :
    ACalls Tryd.prog 8 [.agg (encL t), .v (.int .i64 many)] h (fun r _ => r = .tup [if faultF t = 0 ∧ 0 ≤ many ∧ many ≤ 5000 then wantX d t many.toNat else .row 2 [] none, .v (.int .i64 (if faultF t = 0 then if 0 ≤ many ∧ many ≤ 5000 then wantE d t many.toNat else 1 else faultF t))]) := by
  have hlen := encL_len t
  have htk : List.take 6 (encL t) = encL t := List.take_of_length_le (Nat.le_of_eq hlen)
  refine acalls_of tyok Tryd.func8 rfl (by kernel_rfl) fun c => ?_; simp only [Tryd.ntmps8, List.length_cons, List.length_nil, Nat.reduceAdd, Nat.reduceSub, jnk_rep, List.cons_append, List.nil_append]
  (repeat (first | (with_reducible first | refine wB ?_ | refine wN ?_) | ((with_reducible refine wI ?_); refine wN ?_) | ((with_reducible first | refine uS (mdL [(19, 2)]) ?_ | refine uR (mdL [(19, 2)]) ?_ | refine wG ?_) <;> ((try with_reducible intro K1 hK1); simp only [go_sem, ↓reduceIte, reduceCtorEq, Nat.reduceAdd, Nat.reduceSub, Nat.reduceMul, Nat.reduceLT, Nat.reduceLeDiff, Nat.reduceEqDiff, hlen, htk]; (try and_intros); all_goals first | (refine hK1 _ ?_; clear hK1 K1) | (intros; first | (with_reducible trivial) | omega | (simp_all <;> omega)) | skip)) | (with_reducible first | refine wQ ?_ | refine zS ?_ | refine zN ?_ | refine zX ?_ | refine zE ?_ | refine zF ?_ | refine zO (by decide) ?_ | refine zB ?_)))
  refine (g_check7 d t h hb hd).mono ?_; rintro _ hz ⟨rfl, hh⟩; refine hK1 _ ?_; clear hK1 K1; rw [hh]; clear hh hz
  (repeat (first | (with_reducible first | refine wB ?_ | refine wN ?_) | ((with_reducible refine wI ?_); refine wN ?_) | ((with_reducible first | refine uS (mdL [(19, 2)]) ?_ | refine uR (mdL [(19, 2)]) ?_ | refine wG ?_) <;> ((try with_reducible intro K1 hK1); simp only [go_sem, ↓reduceIte, reduceCtorEq, Nat.reduceAdd, Nat.reduceSub, Nat.reduceMul, Nat.reduceLT, Nat.reduceLeDiff, Nat.reduceEqDiff, hlen, htk]; (try and_intros); all_goals first | (refine hK1 _ ?_; clear hK1 K1) | (intros; first | (with_reducible trivial) | omega | (simp_all <;> omega)) | skip)) | (with_reducible first | refine wQ ?_ | refine zS ?_ | refine zN ?_ | refine zX ?_ | refine zE ?_ | refine zF ?_ | refine zO (by decide) ?_ | refine zB ?_)))
  refine awp_cond (t := _) rfl (fun h3 => ?_) (fun h3 => ?_)
  · (repeat (first | (with_reducible first | refine wB ?_ | refine wN ?_) | ((with_reducible refine wI ?_); refine wN ?_) | ((with_reducible first | refine uS (mdL [(19, 2)]) ?_ | refine uR (mdL [(19, 2)]) ?_ | refine wG ?_) <;> ((try with_reducible intro K1 hK1); simp only [go_sem, ↓reduceIte, reduceCtorEq, Nat.reduceAdd, Nat.reduceSub, Nat.reduceMul, Nat.reduceLT, Nat.reduceLeDiff, Nat.reduceEqDiff]; (try and_intros); all_goals first | (refine hK1 _ ?_; clear hK1 K1) | (intros; first | (with_reducible trivial) | omega | (simp_all <;> omega)) | skip)) | (with_reducible first | refine wQ ?_ | refine zS ?_ | refine zN ?_ | refine zX ?_ | refine zE ?_ | refine zF ?_ | refine zO (by decide) ?_ | refine zB ?_)))
    refine zR ?_; (repeat (with_reducible first | refine zT ?_ | refine zU ?_)); simp only [Tryd.results8, go_sem, ↓reduceIte, reduceCtorEq, Nat.reduceAdd, Nat.reduceSub, Nat.reduceMul, Nat.reduceLT, Nat.reduceLeDiff, Nat.reduceEqDiff]
    have h3' : faultF t ≠ 0 := by simpa using h3
    refine ⟨_, _, Weak.tup1 (Weak.nil 2 0 0 ⟨rfl, rfl⟩) (Weak.refl _), Hp.le.refl _, ?_⟩
    rw [if_neg (fun h => h3' h.1), if_neg h3']
  have h3' : faultF t = 0 := by simpa using h3
  have hv : VL d t := vl_of d t hb (by unfold faultF at h3'; split at h3'; cases h3'; exact h3')
  (repeat (first | (with_reducible first | refine wB ?_ | refine wN ?_) | ((with_reducible refine wI ?_); refine wN ?_) | ((with_reducible first | refine uS (mdL [(19, 2)]) ?_ | refine uR (mdL [(19, 2)]) ?_ | refine wG ?_) <;> ((try with_reducible intro K1 hK1); simp only [go_sem, ↓reduceIte, reduceCtorEq, Nat.reduceAdd, Nat.reduceSub, Nat.reduceMul, Nat.reduceLT, Nat.reduceLeDiff, Nat.reduceEqDiff]; (try and_intros); all_goals first | (refine hK1 _ ?_; clear hK1 K1) | (intros; first | (with_reducible trivial) | omega | (simp_all <;> omega)) | skip)) | (with_reducible first | refine wQ ?_ | refine zS ?_ | refine zN ?_ | refine zX ?_ | refine zE ?_ | refine zF ?_ | refine zO (by decide) ?_ | refine zB ?_)))
  refine (a_outside many 0 5000 h).mono ?_; rintro _ hz ⟨rfl, hh⟩; refine hK1 _ ?_; clear hK1 K1; rw [hh]; clear hh hz
  (repeat (first | (with_reducible first | refine wB ?_ | refine wN ?_) | ((with_reducible refine wI ?_); refine wN ?_) | ((with_reducible first | refine uS (mdL [(19, 2)]) ?_ | refine uR (mdL [(19, 2)]) ?_ | refine wG ?_) <;> ((try with_reducible intro K1 hK1); simp only [go_sem, ↓reduceIte, reduceCtorEq, Nat.reduceAdd, Nat.reduceSub, Nat.reduceMul, Nat.reduceLT, Nat.reduceLeDiff, Nat.reduceEqDiff]; (try and_intros); all_goals first | (refine hK1 _ ?_; clear hK1 K1) | (intros; first | (with_reducible trivial) | omega | (simp_all <;> omega)) | skip)) | (with_reducible first | refine wQ ?_ | refine zS ?_ | refine zN ?_ | refine zX ?_ | refine zE ?_ | refine zF ?_ | refine zO (by decide) ?_ | refine zB ?_)))
  refine awp_cond (t := _) rfl (fun h4 => ?_) (fun h4 => ?_)
  · (repeat (first | (with_reducible first | refine wB ?_ | refine wN ?_) | ((with_reducible refine wI ?_); refine wN ?_) | ((with_reducible first | refine uS (mdL [(19, 2)]) ?_ | refine uR (mdL [(19, 2)]) ?_ | refine wG ?_) <;> ((try with_reducible intro K1 hK1); simp only [go_sem, ↓reduceIte, reduceCtorEq, Nat.reduceAdd, Nat.reduceSub, Nat.reduceMul, Nat.reduceLT, Nat.reduceLeDiff, Nat.reduceEqDiff]; (try and_intros); all_goals first | (refine hK1 _ ?_; clear hK1 K1) | (intros; first | (with_reducible trivial) | omega | (simp_all <;> omega)) | skip)) | (with_reducible first | refine wQ ?_ | refine zS ?_ | refine zN ?_ | refine zX ?_ | refine zE ?_ | refine zF ?_ | refine zO (by decide) ?_ | refine zB ?_)))
    refine zR ?_; (repeat (with_reducible first | refine zT ?_ | refine zU ?_)); simp only [Tryd.results8, go_sem, ↓reduceIte, reduceCtorEq, Nat.reduceAdd, Nat.reduceSub, Nat.reduceMul, Nat.reduceLT, Nat.reduceLeDiff, Nat.reduceEqDiff]
    have h4' : ¬ (0 ≤ many ∧ many ≤ 5000) := by simp at h4; omega
    refine ⟨_, _, Weak.tup1 (Weak.nil 2 0 0 ⟨rfl, rfl⟩) (Weak.refl _), Hp.le.refl _, ?_⟩
    rw [if_neg (fun h => h4' h.2), if_pos h3', if_neg h4']
  have h4' : 0 ≤ many ∧ many ≤ 5000 := by simp at h4; omega
  (repeat (first | (with_reducible first | refine wB ?_ | refine wN ?_) | ((with_reducible refine wI ?_); refine wN ?_) | ((with_reducible first | refine uS (mdL [(19, 2)]) ?_ | refine uR (mdL [(19, 2)]) ?_ | refine wG ?_) <;> ((try with_reducible intro K1 hK1); simp only [go_sem, ↓reduceIte, reduceCtorEq, Nat.reduceAdd, Nat.reduceSub, Nat.reduceMul, Nat.reduceLT, Nat.reduceLeDiff, Nat.reduceEqDiff, hlen, htk]; (try and_intros); all_goals first | (refine hK1 _ ?_; clear hK1 K1) | (intros; first | (with_reducible trivial) | omega | (simp_all <;> omega)) | skip)) | (with_reducible first | refine zS ?_ | refine zN ?_ | refine zX ?_ | refine zE ?_ | refine zF ?_ | refine zO (by decide) ?_ | refine zB ?_)))
  refine (g_newPart d t h hb).mono ?_
  rintro _ h1 ⟨a, rfl, hR, hS, hn1, hn2, hk1, hk2⟩
  refine hK1 _ ?_; clear hK1 K1
  first | (with_reducible first | refine wB ?_ | refine wN ?_) | ((with_reducible refine wI ?_); refine wN ?_) | ((with_reducible first | refine uS (mdL [(19, 2)]) ?_ | refine uR (mdL [(19, 2)]) ?_ | refine wG ?_) <;> ((try with_reducible intro K1 hK1); simp only [go_sem, ↓reduceIte, reduceCtorEq, Nat.reduceAdd, Nat.reduceSub, Nat.reduceMul, Nat.reduceLT, Nat.reduceLeDiff, Nat.reduceEqDiff]; (try and_intros); all_goals first | (refine hK1 _ ?_; clear hK1 K1) | (intros; first | (with_reducible trivial) | omega | (simp_all <;> omega)) | skip))
  intro o ho
  refine hK1 _ ?_; clear hK1 K1
  refine vRem_nil ?_
  refine awp_ownPtr (cs := [.v (.slice none 0 0), .v (.int .i64 5000)]) o 0 2 (upd_same _ _ _) rfl (fun k hk => ?_)
  simp only [List.set_cons_zero, upd_upd]
  replace hk : h1.T k = none := hk
  replace ho : h1.H o = none := ho
  have hoa : o ∉ idsT a := fun hx => hR.ne.1 o hx ho
  have hka : k ∉ toksT a := fun hx => hR.ne.2 k hx hk
  (repeat (first | (with_reducible first | refine wB ?_ | refine wN ?_) | ((with_reducible refine wI ?_); refine wN ?_) | ((with_reducible first | refine uS (mdL [(19, 2)]) ?_ | refine uR (mdL [(19, 2)]) ?_ | refine wG ?_) <;> ((try with_reducible intro K1 hK1); simp only [go_sem, ↓reduceIte, reduceCtorEq, Nat.reduceAdd, Nat.reduceSub, Nat.reduceMul, Nat.reduceLT, Nat.reduceLeDiff, Nat.reduceEqDiff]; (try and_intros); all_goals first | (refine hK1 _ ?_; clear hK1 K1) | (intros; first | (with_reducible trivial) | omega | (simp_all <;> omega)) | skip)) | (with_reducible first | refine zS ?_ | refine zN ?_ | refine zX ?_ | refine zE ?_ | refine zF ?_ | refine zO (by decide) ?_ | refine zB ?_)))
  refine awp_seq ?_
  (repeat (first | (with_reducible first | refine wB ?_ | refine wN ?_) | ((with_reducible refine wI ?_); refine wN ?_) | ((with_reducible first | refine uS (mdL [(19, 2)]) ?_ | refine uR (mdL [(19, 2)]) ?_ | refine wG ?_) <;> ((try with_reducible intro K1 hK1); simp only [go_sem, ↓reduceIte, reduceCtorEq, Nat.reduceAdd, Nat.reduceSub, Nat.reduceMul, Nat.reduceLT, Nat.reduceLeDiff, Nat.reduceEqDiff]; (try and_intros); all_goals first | (refine hK1 _ ?_; clear hK1 K1) | (intros; first | (with_reducible trivial) | omega | (simp_all <;> omega)) | skip)) | (with_reducible first | refine wQ ?_ | refine zS ?_ | refine zN ?_ | refine zX ?_ | refine zE ?_ | refine zF ?_ | refine zO (by decide) ?_ | refine zB ?_)))
  refine awp_loopC (rl false [7, 2, 11, 2, 11]) 0 (fun g s => ∃ (j : Nat) (h2 : Hp) (s' : PS) (out : List (ByteArray × Int)), g + j = many.toNat ∧ RAt XP h2 d t a s' ∧ OutAt h2 o k oEx out ∧ PSB d t s' out.length ∧ out.length ≤ 5001 ∧ ((passesU d t j).2.length ≤ 5000 → s' = (passesU d t j).1 ∧ out = (passesU d t j).2) ∧ (5000 < (passesU d t j).2.length → out.length = 5001) ∧
    s = ⟨((jnk 7 ((.ptr a.id 0) :: (.ptr o 0) :: (jnk 11 ((.v (.int .i64 many)) :: (.v (.int .i64 j)) :: (jnk 11 [])))))), [], h2⟩) many.toNat ⟨0, _, ps0 t, [], by omega, hR.frame (fun x hx => upd_other _ _ (fun e => by subst e; exact hoa hx)) (fun x hx => upd_other _ _ (fun e => by subst e; exact hka hx)), ⟨upd_same _ _ _, upd_same _ _ _⟩, psb0 d t, by simp, fun _ => ⟨rfl, rfl⟩, fun h => by simp [passesU] at h, rfl⟩ ?_
  rintro g _ ⟨j, h2, s', out, hj, hR2, hO2, hB2, hl2, he, ho5, rfl⟩
  (repeat (first | (with_reducible first | refine wB ?_ | refine wN ?_) | ((with_reducible refine wI ?_); refine wN ?_) | ((with_reducible first | refine uS (mdL [(19, 2)]) ?_ | refine uR (mdL [(19, 2)]) ?_ | refine wG ?_) <;> ((try with_reducible intro K1 hK1); simp only [go_sem, ↓reduceIte, reduceCtorEq, Nat.reduceAdd, Nat.reduceSub, Nat.reduceMul, Nat.reduceLT, Nat.reduceLeDiff, Nat.reduceEqDiff]; (try and_intros); all_goals first | (refine hK1 _ ?_; clear hK1 K1) | (intros; first | (with_reducible trivial) | omega | (simp_all <;> omega)) | skip)) | (with_reducible first | refine wQ ?_ | refine zS ?_ | refine zN ?_ | refine zX ?_ | refine zE ?_ | refine zF ?_ | refine zO (by decide) ?_ | refine zB ?_)))
  refine awp_cond (t := _) rfl (fun h5 => ?_) (fun h5 => ?_)
  · simp only [decide_eq_true_eq] at h5
    (repeat (first | (with_reducible first | refine wB ?_ | refine wN ?_) | ((with_reducible refine wI ?_); refine wN ?_) | ((with_reducible first | refine uS (mdL [(19, 2)]) ?_ | refine uR (mdL [(19, 2)]) ?_ | refine wG ?_) <;> ((try with_reducible intro K1 hK1); simp only [go_sem, ↓reduceIte, reduceCtorEq, Nat.reduceAdd, Nat.reduceSub, Nat.reduceMul, Nat.reduceLT, Nat.reduceLeDiff, Nat.reduceEqDiff]; (try and_intros); all_goals first | (refine hK1 _ ?_; clear hK1 K1) | (intros; first | (with_reducible trivial) | omega | (simp_all <;> omega)) | skip)) | (with_reducible first | refine wQ ?_ | refine zS ?_ | refine zN ?_ | refine zX ?_ | refine zE ?_ | refine zF ?_ | refine zO (by decide) ?_ | refine zB ?_)))
    refine (g_passP d t a s' h2 o k out hv hR2 hS hB2 hO2 hoa hl2).mono ?_
    rintro r h6 ⟨rfl, s2, out2, hR6, hO6, _, q1, q2, q3⟩
    have e5 : (passesU d t (j + 1)).2.length = (passesU d t j).2.length + (passU d t (passesU d t j).1).2.length := by simp only [passesU, List.length_append]
    refine hK1 _ ?_; clear hK1 K1
    (repeat (first | (with_reducible first | refine wB ?_ | refine wN ?_) | ((with_reducible refine wI ?_); refine wN ?_) | ((with_reducible first | refine uS (mdL [(19, 2)]) ?_ | refine uR (mdL [(19, 2)]) ?_ | refine wG ?_) <;> ((try with_reducible intro K1 hK1); simp only [go_sem, ↓reduceIte, reduceCtorEq, Nat.reduceAdd, Nat.reduceSub, Nat.reduceMul, Nat.reduceLT, Nat.reduceLeDiff, Nat.reduceEqDiff]; (try and_intros); all_goals first | (refine hK1 _ ?_; clear hK1 K1) | (intros; first | (with_reducible trivial) | omega | (simp_all <;> omega)) | skip)) | (with_reducible first | refine wQ ?_ | refine zS ?_ | refine zN ?_ | refine zX ?_ | refine zE ?_ | refine zF ?_ | refine zO (by decide) ?_ | refine zB ?_)))
    have hpo := passU_ok d t s' out.length hv hR2.fits (by omega) hB2
    by_cases hf : 5000 < out.length
    · obtain ⟨rfl, rfl⟩ := q1 hf
      refine ⟨g - 1, by omega, j + 1, h6, _, _, by omega, hR6, hO6, hB2, hl2, fun h => ?_, fun h => by omega, rfl⟩
      have := he (by omega)
      rw [this.2] at hf
      omega
    · have hex : (passesU d t j).2.length ≤ 5000 := by
        by_cases hx : (passesU d t j).2.length ≤ 5000
        · exact hx
        · have := ho5 (by omega); omega
      obtain ⟨rfl, rfl⟩ := he hex
      by_cases hle : (passesU d t j).2.length + (passU d t (passesU d t j).1).2.length ≤ 5000
      · obtain ⟨rfl, rfl⟩ := q2 hex hle
        exact ⟨g - 1, by omega, j + 1, h6, _, _, by omega, hR6, hO6, by rw [List.length_append]; exact_mod_cast hpo.2.1, by rw [List.length_append]; omega, fun _ => ⟨rfl, rfl⟩, fun h => by omega, rfl⟩
      · obtain ⟨p1, p2⟩ := q3 hex (by omega)
        exact ⟨g - 1, by omega, j + 1, h6, s2, out2, by omega, hR6, hO6, by rw [p1]; exact p2, by omega, fun h => by omega, fun _ => p1, rfl⟩
  · simp only [decide_eq_false_iff_not] at h5
    have hjm : j = many.toNat := by omega
    subst hjm
    (repeat (first | (with_reducible first | refine wB ?_ | refine wN ?_) | ((with_reducible refine wI ?_); refine wN ?_) | ((with_reducible first | refine uS (mdL [(19, 2)]) ?_ | refine uR (mdL [(19, 2)]) ?_ | refine wG ?_) <;> ((try with_reducible intro K1 hK1); simp only [go_sem, ↓reduceIte, reduceCtorEq, Nat.reduceAdd, Nat.reduceSub, Nat.reduceMul, Nat.reduceLT, Nat.reduceLeDiff, Nat.reduceEqDiff]; (try and_intros); all_goals first | (refine hK1 _ ?_; clear hK1 K1) | (intros; first | (with_reducible trivial) | omega | (simp_all <;> omega)) | skip)) | (with_reducible first | refine wQ ?_ | refine zS ?_ | refine zN ?_ | refine zX ?_ | refine zE ?_ | refine zF ?_ | refine zO (by decide) ?_ | refine zB ?_)))
    refine (g_full28 o k h2 out hO2).mono ?_; rintro _ hz ⟨rfl, hh⟩; refine hK1 _ ?_; clear hK1 K1; rw [hh]; clear hh hz
    (repeat (first | (with_reducible first | refine wB ?_ | refine wN ?_) | ((with_reducible refine wI ?_); refine wN ?_) | ((with_reducible first | refine uS (mdL [(19, 2)]) ?_ | refine uR (mdL [(19, 2)]) ?_ | refine wG ?_) <;> ((try with_reducible intro K1 hK1); simp only [go_sem, ↓reduceIte, reduceCtorEq, Nat.reduceAdd, Nat.reduceSub, Nat.reduceMul, Nat.reduceLT, Nat.reduceLeDiff, Nat.reduceEqDiff]; (try and_intros); all_goals first | (refine hK1 _ ?_; clear hK1 K1) | (intros; first | (with_reducible trivial) | omega | (simp_all <;> omega)) | skip)) | (with_reducible first | refine wQ ?_ | refine zS ?_ | refine zN ?_ | refine zX ?_ | refine zE ?_ | refine zF ?_ | refine zO (by decide) ?_ | refine zB ?_)))
    refine awp_cond (t := _) rfl (fun h6 => ?_) (fun h6 => ?_)
    · simp only [decide_eq_true_eq] at h6
      (repeat (first | (with_reducible first | refine wB ?_ | refine wN ?_) | ((with_reducible refine wI ?_); refine wN ?_) | ((with_reducible first | refine uS (mdL [(19, 2)]) ?_ | refine uR (mdL [(19, 2)]) ?_ | refine wG ?_) <;> ((try with_reducible intro K1 hK1); simp only [go_sem, ↓reduceIte, reduceCtorEq, Nat.reduceAdd, Nat.reduceSub, Nat.reduceMul, Nat.reduceLT, Nat.reduceLeDiff, Nat.reduceEqDiff]; (try and_intros); all_goals first | (refine hK1 _ ?_; clear hK1 K1) | (intros; first | (with_reducible trivial) | omega | (simp_all <;> omega)) | skip)) | (with_reducible first | refine wQ ?_ | refine zS ?_ | refine zN ?_ | refine zX ?_ | refine zE ?_ | refine zF ?_ | refine zO (by decide) ?_ | refine zB ?_)))
      refine zR ?_; (repeat (with_reducible first | refine zT ?_ | refine zU ?_)); simp only [Tryd.results8, go_sem, ↓reduceIte, reduceCtorEq, Nat.reduceAdd, Nat.reduceSub, Nat.reduceMul, Nat.reduceLT, Nat.reduceLeDiff, Nat.reduceEqDiff]
      refine ⟨_, _, Weak.tup1 (Weak.nil 2 0 0 ⟨rfl, rfl⟩) (Weak.refl _), Hp.le.refl _, ?_⟩
      have hbig : ¬ (passesU d t many.toNat).2.length ≤ 5000 := fun hx => by have := (he hx).2; rw [this] at h6; omega
      rw [if_pos ⟨h3', h4'⟩, if_pos h3', if_pos h4', wantX, wantE, if_neg hbig, if_neg hbig]
    · simp only [decide_eq_false_iff_not] at h6
      have hO20 : h2.H o = some (.cells [.row 2 (out.map encStep) (some k), .v (.int .i64 5000)]) := hO2.1
      (repeat (first | (with_reducible first | refine wB ?_ | refine wN ?_) | ((with_reducible refine wI ?_); refine wN ?_) | ((with_reducible first | refine uS (mdL [(19, 2)]) ?_ | refine uR (mdL [(19, 2)]) ?_ | refine wG ?_) <;> ((try with_reducible intro K1 hK1); simp only [go_sem, ↓reduceIte, reduceCtorEq, Nat.reduceAdd, Nat.reduceSub, Nat.reduceMul, Nat.reduceLT, Nat.reduceLeDiff, Nat.reduceEqDiff, hO20]; (try and_intros); all_goals first | (refine hK1 _ ?_; clear hK1 K1) | (intros; first | (with_reducible trivial) | omega | (simp_all <;> omega)) | skip)) | (with_reducible first | refine wQ ?_ | refine zS ?_ | refine zN ?_ | refine zX ?_ | refine zE ?_ | refine zF ?_ | refine zO (by decide) ?_ | refine zB ?_)))
      refine zR ?_; (repeat (with_reducible first | refine zT ?_ | refine zU ?_)); simp only [Tryd.results8, go_sem, ↓reduceIte, reduceCtorEq, Nat.reduceAdd, Nat.reduceSub, Nat.reduceMul, Nat.reduceLT, Nat.reduceLeDiff, Nat.reduceEqDiff]
      refine ⟨_, _, Weak.tup1 (Weak.row _ _ _) (Weak.refl _), Hp.le.refl _, ?_⟩
      have hsm : (passesU d t many.toNat).2.length ≤ 5000 := by
        by_cases hx : (passesU d t many.toNat).2.length ≤ 5000
        · exact hx
        · have := ho5 (by omega); omega
      rw [if_pos ⟨h3', h4'⟩, if_pos h3', if_pos h4', wantX, wantE, if_pos hsm, if_pos hsm, (he hsm).2]
end Go.Proofs.YtoleejecmefogaaDoor
/- slices.Equal at steps: two rows of the same cells. -/
namespace Go.Proofs.YtoleejecmefogaaDoor
open Go.RowKit
set_option linter.unusedVariables false
set_option linter.unusedSimpArgs false
def EqSRel (n : Nat) (w : World) (g : Nat) (i : Value) (wr : World) : Prop := ∃ k : Nat, k + g = n ∧ i = .int .i64 k ∧ ∃ q, wr = w.drewN q
set_option maxRecDepth 100000 in
set_option maxHeartbeats 1000000 in
theorem equalS_same (g o g' o' n c c' : Nat) (s : Nat → ByteArray) (v : Nat → Int) (w : World) (hn : n ≤ 1000000000)
    (h1 : ∀ k, k < n → w.cell? ⟨g, o + k * 2, none⟩ = some (.string (s k)) ∧ w.cell? ⟨g, o + k * 2 + 1, none⟩ = some (.int .i64 (v k))) (h2 : ∀ k, k < n → w.cell? ⟨g', o' + k * 2, none⟩ = some (.string (s k)) ∧ w.cell? ⟨g', o' + k * 2 + 1, none⟩ = some (.int .i64 (v k))) :
    Calls Tryd.prog 12 #[.slice (some ⟨g, o, none⟩) n c, .slice (some ⟨g', o', none⟩) n c'] w fun e w' => e = .returned (.bool true) ∧ ∃ q, w' = w.drewN q := by
  have H1 := Lib.hid h1
  have H2 := Lib.hid h2
  clear h1 h2
  go_enter Tryd.func12, Tryd.ntmps12
  go_wp2_with fail
  go_loopg [13, 5] n (fun gg i _ wr => EqSRel n w gg i wr)
  case atStart => exact ⟨0, by omega, rfl, 0, rfl⟩
  case round =>
    obtain ⟨k, hk, rfl, q, rfl⟩ := hrel
    by_cases hg : gk = 0
    · obtain rfl : k = n := by omega
      clear hk hg
      go_wp2_with fail
      go_ret
      exact ⟨rfl, _, rfl⟩
    · have hlt : k < n := by omega
      obtain ⟨c0, c1⟩ := H1.out k hlt
      obtain ⟨d0, d1⟩ := H2.out k hlt
      generalize s k = s1 at *
      generalize v k = v1 at *
      have HK := Lib.hid hk
      have hgk : gk ≠ 0 := hg
      clear hk hg
      have hlt' : (k : Int) < (n : Int) := by omega
      go_wp2_with fail
      go_quiet (fail)
      go_wp2_with fail
      go_roundg (gk - 1)
      case measure => omega
      case rel => exact ⟨k + 1, by have := HK.out; omega, by go_num, _, rfl⟩
set_option maxRecDepth 100000 in
theorem equalS_nil (a a' : Option Addr) (c c' : Nat) (w : World) :
    Calls Tryd.prog 12 #[.slice a 0 c, .slice a' 0 c'] w fun e w' => e = .returned (.bool true) ∧ ∃ q, w' = w.drewN q := by
  go_enter Tryd.func12, Tryd.ntmps12
  go_wp2_with fail
  go_loopg [13, 5] 0 (fun gg i _ wr => EqSRel 0 w gg i wr)
  case atStart => exact ⟨0, by omega, rfl, 0, rfl⟩
  case round =>
    obtain ⟨k, hk, rfl, q, rfl⟩ := hrel
    obtain rfl : k = 0 := by omega
    go_wp2_with fail
    go_ret
    exact ⟨rfl, _, rfl⟩
end Go.Proofs.YtoleejecmefogaaDoor
/- slices.Equal at steps, cmp.Or: told in trees. -/
namespace Go.Proofs.YtoleejecmefogaaDoor
open Go
set_option linter.unusedVariables false
set_option linter.unusedSimpArgs false
set_option maxRecDepth 100000
set_option maxHeartbeats 8000000
theorem rep_v_inv {G : Gh} {x y : Value} (h : Rep G (.v x) y) : y = x := by cases h; rfl
theorem rep_row2 {G : Gh} {xs : List (ByteArray × Int)} {v : Value} (h : Rep G (.row 2 (xs.map encStep) none) v) : (xs = [] ∧ ∃ a c, v = .slice a 0 c) ∨ ∃ g o c, v = .slice (some ⟨g, o, none⟩) xs.length c ∧
    ∀ k, k < xs.length → G.val g (o + k * 2) = some (.string (xs.getD k default).1) ∧ G.val g (o + k * 2 + 1) = some (.int .i64 (xs.getD k default).2) := by
  generalize hx : xs.map encStep = ys at h
  cases h with
  | nil => exact .inl ⟨by simpa using hx, none, 0, rfl⟩
  | nilA _ a => exact .inl ⟨by simpa using hx, a, 0, rfl⟩
  | row _ _ _ g o n c u hn hc hz hu hr h1 ht =>
    have hnx : n = xs.length := by rw [← hn, ← hx, List.length_map]
    subst hnx
    refine .inr ⟨g, o, c, rfl, fun k hk => ?_⟩
    have hfl := flatten_len hz
    have hzk : ys[k]? = some (encStep (xs.getD k default)) := by rw [← hx, List.getElem?_map, List.getD_eq_getElem?_getD, List.getElem?_eq_getElem hk]; rfl
    have hky : k < ys.length := by omega
    have hkey : ∀ j, j < 2 → ∀ a, (encStep (xs.getD k default))[j]? = some (.v a) → G.val g (o + (k * 2 + j)) = some a := fun j hj a ha => by
      have hlt : k * 2 + j < ys.flatten.length := by rw [hfl]; omega
      have e1 := flatten_at hz hky hj
      rw [show ys[k] = encStep (xs.getD k default) by rw [List.getElem?_eq_getElem hky] at hzk; simpa using hzk, ha, List.getElem?_eq_getElem hlt] at e1
      have e2 := hr (k * 2 + j) hlt
      rw [Option.some.inj e1] at e2
      rw [hu (k * 2 + j) (by omega), rep_v_inv e2]
    exact ⟨hkey 0 (by omega) _ rfl, by rw [Nat.add_assoc]; exact hkey 1 (by omega) _ rfl⟩
theorem drewN_ok (w : World) : ∀ n, (w.drewN n).heap = w.heap ∧ (w.drewN n).os = w.os ∧ (w.drewN n).tape = w.tape ∧ (w.drewN n).output = w.output := fun n => ⟨rfl, rfl, rfl, rfl⟩
theorem g_equal12 (xs : List (ByteArray × Int)) (h : Hp) (hl : xs.length ≤ 1000000000) : ACalls Tryd.prog 12 [.row 2 (xs.map encStep) none, .row 2 (xs.map encStep) none] h (fun r h' => r = .v (.bool true) ∧ h' = h) := by
  refine ⟨by kernel_rfl, fun G w vs hs hv ha => ?_⟩
  have h0 := ha 0 (by simp)
  have h1 := ha 1 (by simp)
  have hvs : vs = #[vs.getD 0 undef, vs.getD 1 undef] := by
    have hv2 : vs.size = 2 := hv
    apply Array.ext (by simpa using hv2)
    intro j hj hj'
    simp only [List.size_toArray, List.length_cons, List.length_nil] at hj'
    match j, hj' with
    | 0, _ => simp [Array.getD, hv2]
    | 1, _ => simp [Array.getD, hv2]
    | j + 2, h => omega
  rw [hvs]
  generalize vs.getD 0 undef = v0 at *
  generalize vs.getD 1 undef = v1 at *
  have fin : ∀ e w', (e = .returned (.bool true) ∧ ∃ q, w' = w.drewN q) → ∃ r h' G' v, e = Ending.returned v ∧ (r = AV.v (.bool true) ∧ h' = h) ∧ GLe G G' ∧ Fr G h w G' h' w' ∧ HSim G' h' w' ∧ Rep G' r v := by
    rintro _ _ ⟨rfl, q, rfl⟩
    exact ⟨_, h, G, _, rfl, ⟨rfl, rfl⟩, GLe.refl _, Fr.below (Fr.refl _ _ _) (fun _ _ => rfl) rfl rfl rfl (Nat.le_refl _), hs.below (fun _ _ => rfl), .v _ rfl⟩
  rcases rep_row2 h0 with ⟨hx, a, c, rfl⟩ | ⟨g, o, c, rfl, hc⟩
  · rcases rep_row2 h1 with ⟨_, a', c', rfl⟩ | ⟨g', o', c', rfl, hc'⟩
    · exact (equalS_nil a a' c c' w).mono fin
    · subst hx
      exact (equalS_nil a (some ⟨g', o', none⟩) c c' w).mono fin
  · rcases rep_row2 h1 with ⟨hx, a', c', rfl⟩ | ⟨g', o', c', rfl, hc'⟩
    · subst hx
      exact (equalS_nil (some ⟨g, o, none⟩) a' c c' w).mono fin
    · exact (equalS_same g o g' o' xs.length c c' (fun k => (xs.getD k default).1) (fun k => (xs.getD k default).2) w hl (fun k hk => ⟨hs.val _ _ _ (hc k hk).1, hs.val _ _ _ (hc k hk).2⟩) (fun k hk => ⟨hs.val _ _ _ (hc' k hk).1, hs.val _ _ _ (hc' k hk).2⟩)).mono fin
theorem g_or9 (a b : Int) (h : Hp) : ACalls Tryd.prog 9 [.row 1 [[.v (.int .i64 a)], [.v (.int .i64 b)]] none] h (fun r h' => r = .v (.int .i64 (if a = 0 then b else a)) ∧ h' = h) := by
  refine acalls_of tyok Tryd.func9 rfl (by kernel_rfl) fun c => ?_; simp only [Tryd.ntmps9, List.length_cons, List.length_nil, Nat.reduceAdd, Nat.reduceSub, jnk_rep, List.cons_append, List.nil_append]
  (repeat (first | (with_reducible first | refine wB ?_ | refine wN ?_) | ((with_reducible refine wI ?_); refine wN ?_) | ((with_reducible first | refine kS ?_ | refine kR ?_ | refine wG ?_) <;> ((try with_reducible intro K1 hK1); simp only [go_sem, ↓reduceIte, reduceCtorEq, Nat.reduceAdd, Nat.reduceSub, Nat.reduceMul, Nat.reduceLT, Nat.reduceLeDiff, Nat.reduceEqDiff]; (try and_intros); all_goals first | (refine hK1 _ ?_; clear hK1 K1) | (intros; first | (with_reducible trivial) | omega | (simp_all <;> omega)) | skip)) | (with_reducible first | refine wQ ?_ | refine zS ?_ | refine zN ?_ | refine zX ?_ | refine zE ?_ | refine zF ?_ | refine zO (by decide) ?_ | refine zB ?_)))
  refine awp_loopC (rl false [3, 1, 2, 3, 9]) 0 (fun g s => ∃ j : Nat, g + j = 2 ∧ (1 ≤ j → a = 0) ∧ (2 ≤ j → b = 0) ∧ s = ⟨((jnk 3 ((.v (.int .i64 0)) :: AV.junk :: AV.junk :: ((.row 1 [[.v (.int .i64 a)], [.v (.int .i64 b)]] none) :: (.v (.int .i64 2)) :: (.v (.int .i64 j)) :: (jnk 9 []))))), [], h⟩) 2 ⟨0, by omega, fun h => by omega, fun h => by omega, rfl⟩ ?_
  rintro g _ ⟨j, hj, h1, h2, rfl⟩
  (repeat (first | (with_reducible first | refine wB ?_ | refine wN ?_) | ((with_reducible refine wI ?_); refine wN ?_) | ((with_reducible first | refine kS ?_ | refine kR ?_ | refine wG ?_) <;> ((try with_reducible intro K1 hK1); simp only [go_sem, ↓reduceIte, reduceCtorEq, Nat.reduceAdd, Nat.reduceSub, Nat.reduceMul, Nat.reduceLT, Nat.reduceLeDiff, Nat.reduceEqDiff]; (try and_intros); all_goals first | (refine hK1 _ ?_; clear hK1 K1) | (intros; first | (with_reducible trivial) | omega | (simp_all <;> omega)) | skip)) | (with_reducible first | refine wQ ?_ | refine zS ?_ | refine zN ?_ | refine zX ?_ | refine zE ?_ | refine zF ?_ | refine zO (by decide) ?_ | refine zB ?_)))
  refine awp_cond (t := _) rfl (fun h3 => ?_) (fun h3 => ?_)
  · simp only [decide_eq_true_eq] at h3
    obtain ⟨x, hx, hgx⟩ : ∃ x : Int, (j = 0 ∧ x = a ∨ j = 1 ∧ x = b) ∧ List.getD [[AV.v (.int .i64 a)], [.v (.int .i64 b)]] j [] = [.v (.int .i64 x)] := by
      rcases (show j = 0 ∨ j = 1 by omega) with rfl | rfl
      · exact ⟨a, .inl ⟨rfl, rfl⟩, rfl⟩
      · exact ⟨b, .inr ⟨rfl, rfl⟩, rfl⟩
    (repeat (first | (with_reducible first | refine wB ?_ | refine wN ?_) | ((with_reducible refine wI ?_); refine wN ?_) | ((with_reducible first | refine kS ?_ | refine kR ?_ | refine wG ?_) <;> ((try with_reducible intro K1 hK1); simp only [go_sem, ↓reduceIte, reduceCtorEq, Nat.reduceAdd, Nat.reduceSub, Nat.reduceMul, Nat.reduceLT, Nat.reduceLeDiff, Nat.reduceEqDiff, Int.toNat_natCast, hgx]; (try and_intros); all_goals first | (refine hK1 _ ?_; clear hK1 K1) | (intros; first | (with_reducible trivial) | omega | (simp_all <;> omega)) | skip)) | (with_reducible first | refine wQ ?_ | refine zS ?_ | refine zN ?_ | refine zX ?_ | refine zE ?_ | refine zF ?_ | refine zO (by decide) ?_ | refine zB ?_)))
    refine awp_cond (t := _) rfl (fun h4 => ?_) (fun h4 => ?_)
    · have h4' : x ≠ 0 := by simpa using h4
      (repeat (first | (with_reducible first | refine wB ?_ | refine wN ?_) | ((with_reducible refine wI ?_); refine wN ?_) | ((with_reducible first | refine kS ?_ | refine kR ?_ | refine wG ?_) <;> ((try with_reducible intro K1 hK1); simp only [go_sem, ↓reduceIte, reduceCtorEq, Nat.reduceAdd, Nat.reduceSub, Nat.reduceMul, Nat.reduceLT, Nat.reduceLeDiff, Nat.reduceEqDiff]; (try and_intros); all_goals first | (refine hK1 _ ?_; clear hK1 K1) | (intros; first | (with_reducible trivial) | omega | (simp_all <;> omega)) | skip)) | (with_reducible first | refine wQ ?_ | refine zS ?_ | refine zN ?_ | refine zX ?_ | refine zE ?_ | refine zF ?_ | refine zO (by decide) ?_ | refine zB ?_)))
      refine zR ?_; (repeat (with_reducible first | refine zT ?_ | refine zU ?_)); simp only [Tryd.results9, go_sem, ↓reduceIte, reduceCtorEq, Nat.reduceAdd, Nat.reduceSub, Nat.reduceMul, Nat.reduceLT, Nat.reduceLeDiff, Nat.reduceEqDiff]
      refine ⟨_, _, Weak.refl _, Hp.le.refl _, ?_, rfl⟩
      rcases hx with ⟨rfl, rfl⟩ | ⟨rfl, rfl⟩
      · rw [if_neg h4']
      · rw [if_pos (h1 (by omega))]
    · have h4' : x = 0 := by simpa using h4
      (repeat (first | (with_reducible first | refine wB ?_ | refine wN ?_) | ((with_reducible refine wI ?_); refine wN ?_) | ((with_reducible first | refine kS ?_ | refine kR ?_ | refine wG ?_) <;> ((try with_reducible intro K1 hK1); simp only [go_sem, ↓reduceIte, reduceCtorEq, Nat.reduceAdd, Nat.reduceSub, Nat.reduceMul, Nat.reduceLT, Nat.reduceLeDiff, Nat.reduceEqDiff]; (try and_intros); all_goals first | (refine hK1 _ ?_; clear hK1 K1) | (intros; first | (with_reducible trivial) | omega | (simp_all <;> omega)) | skip)) | (with_reducible first | refine wQ ?_ | refine zS ?_ | refine zN ?_ | refine zX ?_ | refine zE ?_ | refine zF ?_ | refine zO (by decide) ?_ | refine zB ?_)))
      refine ⟨g - 1, by omega, j + 1, by omega, fun _ => ?_, fun h => ?_, rfl⟩
      · rcases hx with ⟨rfl, rfl⟩ | ⟨rfl, rfl⟩
        · exact h4'
        · exact h1 (by omega)
      · rcases hx with ⟨rfl, rfl⟩ | ⟨rfl, rfl⟩
        · omega
        · exact h4'
  · simp only [decide_eq_false_iff_not] at h3
    (repeat (first | (with_reducible first | refine wB ?_ | refine wN ?_) | ((with_reducible refine wI ?_); refine wN ?_) | ((with_reducible first | refine kS ?_ | refine kR ?_ | refine wG ?_) <;> ((try with_reducible intro K1 hK1); simp only [go_sem, ↓reduceIte, reduceCtorEq, Nat.reduceAdd, Nat.reduceSub, Nat.reduceMul, Nat.reduceLT, Nat.reduceLeDiff, Nat.reduceEqDiff]; (try and_intros); all_goals first | (refine hK1 _ ?_; clear hK1 K1) | (intros; first | (with_reducible trivial) | omega | (simp_all <;> omega)) | skip)) | (with_reducible first | refine wQ ?_ | refine zS ?_ | refine zN ?_ | refine zX ?_ | refine zE ?_ | refine zF ?_ | refine zO (by decide) ?_ | refine zB ?_)))
    refine zR ?_; (repeat (with_reducible first | refine zT ?_ | refine zU ?_)); simp only [Tryd.results9, go_sem, ↓reduceIte, reduceCtorEq, Nat.reduceAdd, Nat.reduceSub, Nat.reduceMul, Nat.reduceLT, Nat.reduceLeDiff, Nat.reduceEqDiff]
    refine ⟨_, _, Weak.refl _, Hp.le.refl _, ?_, rfl⟩
    rw [if_pos (h1 (by omega)), h2 (by omega)]
end Go.Proofs.YtoleejecmefogaaDoor
/- loop.part.begins, where there is no LoopShare. -/
namespace Go.Proofs.YtoleejecmefogaaDoor
open Go
set_option linter.unusedVariables false
set_option linter.unusedSimpArgs false
set_option maxRecDepth 100000
set_option maxHeartbeats 8000000
/-- slices.IndexFunc and ContainsFunc at parts. -/
theorem g_index74 (fid : Nat) (xs : List AT) (K : AV) (hK : kidsC xs K) (hl : xs.length ≤ 100000) (I P : Nat → Hp → Prop) (h : Hp) (h0 : I 0 h)
    (step : ∀ j h, j < xs.length → I j h → ACalls Tryd.prog fid [.ptr (xs.getD j default).id 0] h (fun r h' => ∃ b, r = .v (.bool b) ∧ (b = true → P j h') ∧ (b = false → I (j + 1) h'))) :
    ACalls Tryd.prog 74 [K, .fn fid []] h (fun r h' => (∃ j : Nat, j < xs.length ∧ r = .v (.int .i64 j) ∧ P j h') ∨ r = .v (.int .i64 (-1)) ∧ I xs.length h') := by
  rcases hK with ⟨rfl, rfl⟩ | ⟨tk, rfl⟩
  · refine acalls_of tyok Tryd.func74 rfl (by kernel_rfl) fun c => ?_; simp only [Tryd.ntmps74, List.length_cons, List.length_nil, Nat.reduceAdd, Nat.reduceSub, jnk_rep, List.cons_append, List.nil_append]
    (repeat (first | (with_reducible first | refine wB ?_ | refine wN ?_) | ((with_reducible refine wI ?_); refine wN ?_) | ((with_reducible first | refine kS ?_ | refine kR ?_ | refine wG ?_) <;> ((try with_reducible intro K1 hK1); simp only [go_sem, ↓reduceIte, reduceCtorEq, Nat.reduceAdd, Nat.reduceSub, Nat.reduceMul, Nat.reduceLT, Nat.reduceLeDiff, Nat.reduceEqDiff]; (try and_intros); all_goals first | (refine hK1 _ ?_; clear hK1 K1) | (intros; first | (with_reducible trivial) | omega | (simp_all <;> omega)) | skip)) | (with_reducible first | refine wQ ?_ | refine zS ?_ | refine zN ?_ | refine zX ?_ | refine zE ?_ | refine zF ?_ | refine zO (by decide) ?_ | refine zB ?_)))
    refine awp_loopC (rl false [7, 2, 10]) 0 (fun g s => s = ⟨((jnk 7 ((.v (.int .i64 0)) :: (.v (.int .i64 0)) :: (jnk 10 [])))), [], h⟩) 0 rfl ?_
    rintro g _ rfl
    (repeat (first | (with_reducible first | refine wB ?_ | refine wN ?_) | ((with_reducible refine wI ?_); refine wN ?_) | ((with_reducible first | refine kS ?_ | refine kR ?_ | refine wG ?_) <;> ((try with_reducible intro K1 hK1); simp only [go_sem, ↓reduceIte, reduceCtorEq, Nat.reduceAdd, Nat.reduceSub, Nat.reduceMul, Nat.reduceLT, Nat.reduceLeDiff, Nat.reduceEqDiff]; (try and_intros); all_goals first | (refine hK1 _ ?_; clear hK1 K1) | (intros; first | (with_reducible trivial) | omega | (simp_all <;> omega)) | skip)) | (with_reducible first | refine wQ ?_ | refine zS ?_ | refine zN ?_ | refine zX ?_ | refine zE ?_ | refine zF ?_ | refine zO (by decide) ?_ | refine zB ?_)))
    refine awp_cond (t := _) rfl (fun h1 => by cases h1) (fun h1 => ?_)
    (repeat (first | (with_reducible first | refine wB ?_ | refine wN ?_) | ((with_reducible refine wI ?_); refine wN ?_) | ((with_reducible first | refine kS ?_ | refine kR ?_ | refine wG ?_) <;> ((try with_reducible intro K1 hK1); simp only [go_sem, ↓reduceIte, reduceCtorEq, Nat.reduceAdd, Nat.reduceSub, Nat.reduceMul, Nat.reduceLT, Nat.reduceLeDiff, Nat.reduceEqDiff]; (try and_intros); all_goals first | (refine hK1 _ ?_; clear hK1 K1) | (intros; first | (with_reducible trivial) | omega | (simp_all <;> omega)) | skip)) | (with_reducible first | refine wQ ?_ | refine zS ?_ | refine zN ?_ | refine zX ?_ | refine zE ?_ | refine zF ?_ | refine zO (by decide) ?_ | refine zB ?_)))
    refine zR ?_; (repeat (with_reducible first | refine zT ?_ | refine zU ?_)); simp only [Tryd.results74, go_sem, ↓reduceIte, reduceCtorEq, Nat.reduceAdd, Nat.reduceSub, Nat.reduceMul, Nat.reduceLT, Nat.reduceLeDiff, Nat.reduceEqDiff]
    exact ⟨_, _, Weak.refl _, Hp.le.refl _, .inr ⟨rfl, h0⟩⟩
  · refine acalls_of tyok Tryd.func74 rfl (by kernel_rfl) fun c => ?_; simp only [Tryd.ntmps74, List.length_cons, List.length_nil, Nat.reduceAdd, Nat.reduceSub, jnk_rep, List.cons_append, List.nil_append]
    (repeat (first | (with_reducible first | refine wB ?_ | refine wN ?_) | ((with_reducible refine wI ?_); refine wN ?_) | ((with_reducible first | refine kS ?_ | refine kR ?_ | refine wG ?_) <;> ((try with_reducible intro K1 hK1); simp only [go_sem, ↓reduceIte, reduceCtorEq, Nat.reduceAdd, Nat.reduceSub, Nat.reduceMul, Nat.reduceLT, Nat.reduceLeDiff, Nat.reduceEqDiff]; (try and_intros); all_goals first | (refine hK1 _ ?_; clear hK1 K1) | (intros; first | (with_reducible trivial) | omega | (simp_all <;> omega)) | skip)) | (with_reducible first | refine wQ ?_ | refine zS ?_ | refine zN ?_ | refine zX ?_ | refine zE ?_ | refine zF ?_ | refine zO (by decide) ?_ | refine zB ?_)))
    refine awp_loopC (rl false [0, 2, 5, 2, 10]) 0 (fun g s => ∃ (j : Nat) (h' : Hp), g + j = xs.length ∧ I j h' ∧ s = ⟨((.row 1 (xs.map fun a => [.ptr a.id 0]) tk) :: (.fn fid []) :: (jnk 5 ((.v (.int .i64 xs.length)) :: (.v (.int .i64 j)) :: (jnk 10 [])))), [], h'⟩) xs.length ⟨0, h, by omega, h0, rfl⟩ ?_
    rintro g _ ⟨j, h', hj, hI, rfl⟩
    (repeat (first | (with_reducible first | refine wB ?_ | refine wN ?_) | ((with_reducible refine wI ?_); refine wN ?_) | ((with_reducible first | refine kS ?_ | refine kR ?_ | refine wG ?_) <;> ((try with_reducible intro K1 hK1); simp only [go_sem, ↓reduceIte, reduceCtorEq, Nat.reduceAdd, Nat.reduceSub, Nat.reduceMul, Nat.reduceLT, Nat.reduceLeDiff, Nat.reduceEqDiff]; (try and_intros); all_goals first | (refine hK1 _ ?_; clear hK1 K1) | (intros; first | (with_reducible trivial) | omega | (simp_all <;> omega)) | skip)) | (with_reducible first | refine wQ ?_ | refine zS ?_ | refine zN ?_ | refine zX ?_ | refine zE ?_ | refine zF ?_ | refine zO (by decide) ?_ | refine zB ?_)))
    refine awp_cond (t := _) rfl (fun h1 => ?_) (fun h1 => ?_)
    · simp only [decide_eq_true_eq] at h1
      have hjk : j < xs.length := by omega
      have hg : (xs.map fun a : AT => [AV.ptr a.id 0]).getD j [] = [.ptr (xs.getD j default).id 0] := getD_enc (fun a : AT => [AV.ptr a.id 0]) xs j default hjk
      have st := step j h' hjk hI
      (repeat (first | (with_reducible first | refine wB ?_ | refine wN ?_) | ((with_reducible refine wI ?_); refine wN ?_) | ((with_reducible first | refine kS ?_ | refine kR ?_ | refine wG ?_) <;> ((try with_reducible intro K1 hK1); simp only [go_sem, ↓reduceIte, reduceCtorEq, Nat.reduceAdd, Nat.reduceSub, Nat.reduceMul, Nat.reduceLT, Nat.reduceLeDiff, Nat.reduceEqDiff, Int.toNat_natCast, hg]; (try and_intros); all_goals first | (refine hK1 _ ?_; clear hK1 K1) | (intros; first | (with_reducible trivial) | omega | (simp_all <;> omega)) | skip)) | (with_reducible first | refine wQ ?_ | refine zS ?_ | refine zN ?_ | refine zX ?_ | refine zE ?_ | refine zF ?_ | refine zO (by decide) ?_ | refine zB ?_)))
      refine st.mono ?_; rintro _ _ ⟨b, rfl, hb1, hb2⟩; refine hK1 _ ?_; clear hK1 K1
      (repeat (first | (with_reducible first | refine wB ?_ | refine wN ?_) | ((with_reducible refine wI ?_); refine wN ?_) | ((with_reducible first | refine kS ?_ | refine kR ?_ | refine wG ?_) <;> ((try with_reducible intro K1 hK1); simp only [go_sem, ↓reduceIte, reduceCtorEq, Nat.reduceAdd, Nat.reduceSub, Nat.reduceMul, Nat.reduceLT, Nat.reduceLeDiff, Nat.reduceEqDiff]; (try and_intros); all_goals first | (refine hK1 _ ?_; clear hK1 K1) | (intros; first | (with_reducible trivial) | omega | (simp_all <;> omega)) | skip)) | (with_reducible first | refine wQ ?_ | refine zS ?_ | refine zN ?_ | refine zX ?_ | refine zE ?_ | refine zF ?_ | refine zO (by decide) ?_ | refine zB ?_)))
      refine awp_cond (t := _) rfl (fun h2 => ?_) (fun h2 => ?_)
      · (repeat (first | (with_reducible first | refine wB ?_ | refine wN ?_) | ((with_reducible refine wI ?_); refine wN ?_) | ((with_reducible first | refine kS ?_ | refine kR ?_ | refine wG ?_) <;> ((try with_reducible intro K1 hK1); simp only [go_sem, ↓reduceIte, reduceCtorEq, Nat.reduceAdd, Nat.reduceSub, Nat.reduceMul, Nat.reduceLT, Nat.reduceLeDiff, Nat.reduceEqDiff]; (try and_intros); all_goals first | (refine hK1 _ ?_; clear hK1 K1) | (intros; first | (with_reducible trivial) | omega | (simp_all <;> omega)) | skip)) | (with_reducible first | refine wQ ?_ | refine zS ?_ | refine zN ?_ | refine zX ?_ | refine zE ?_ | refine zF ?_ | refine zO (by decide) ?_ | refine zB ?_)))
        refine zR ?_; (repeat (with_reducible first | refine zT ?_ | refine zU ?_)); simp only [Tryd.results74, go_sem, ↓reduceIte, reduceCtorEq, Nat.reduceAdd, Nat.reduceSub, Nat.reduceMul, Nat.reduceLT, Nat.reduceLeDiff, Nat.reduceEqDiff]
        exact ⟨_, _, Weak.refl _, Hp.le.refl _, .inl ⟨j, hjk, rfl, hb1 h2⟩⟩
      · (repeat (first | (with_reducible first | refine wB ?_ | refine wN ?_) | ((with_reducible refine wI ?_); refine wN ?_) | ((with_reducible first | refine kS ?_ | refine kR ?_ | refine wG ?_) <;> ((try with_reducible intro K1 hK1); simp only [go_sem, ↓reduceIte, reduceCtorEq, Nat.reduceAdd, Nat.reduceSub, Nat.reduceMul, Nat.reduceLT, Nat.reduceLeDiff, Nat.reduceEqDiff]; (try and_intros); all_goals first | (refine hK1 _ ?_; clear hK1 K1) | (intros; first | (with_reducible trivial) | omega | (simp_all <;> omega)) | skip)) | (with_reducible first | refine wQ ?_ | refine zS ?_ | refine zN ?_ | refine zX ?_ | refine zE ?_ | refine zF ?_ | refine zO (by decide) ?_ | refine zB ?_)))
        exact ⟨g - 1, by omega, j + 1, _, by omega, hb2 h2, rfl⟩
    · simp only [decide_eq_false_iff_not] at h1
      have hjk : j = xs.length := by omega
      subst hjk
      (repeat (first | (with_reducible first | refine wB ?_ | refine wN ?_) | ((with_reducible refine wI ?_); refine wN ?_) | ((with_reducible first | refine kS ?_ | refine kR ?_ | refine wG ?_) <;> ((try with_reducible intro K1 hK1); simp only [go_sem, ↓reduceIte, reduceCtorEq, Nat.reduceAdd, Nat.reduceSub, Nat.reduceMul, Nat.reduceLT, Nat.reduceLeDiff, Nat.reduceEqDiff]; (try and_intros); all_goals first | (refine hK1 _ ?_; clear hK1 K1) | (intros; first | (with_reducible trivial) | omega | (simp_all <;> omega)) | skip)) | (with_reducible first | refine wQ ?_ | refine zS ?_ | refine zN ?_ | refine zX ?_ | refine zE ?_ | refine zF ?_ | refine zO (by decide) ?_ | refine zB ?_)))
      refine zR ?_; (repeat (with_reducible first | refine zT ?_ | refine zU ?_)); simp only [Tryd.results74, go_sem, ↓reduceIte, reduceCtorEq, Nat.reduceAdd, Nat.reduceSub, Nat.reduceMul, Nat.reduceLT, Nat.reduceLeDiff, Nat.reduceEqDiff]
      exact ⟨_, _, Weak.refl _, Hp.le.refl _, .inr ⟨rfl, hI⟩⟩
theorem g_contains68 (fid : Nat) (xs : List AT) (K : AV) (hK : kidsC xs K) (hl : xs.length ≤ 100000) (I P : Nat → Hp → Prop) (h : Hp) (h0 : I 0 h)
    (step : ∀ j h, j < xs.length → I j h → ACalls Tryd.prog fid [.ptr (xs.getD j default).id 0] h (fun r h' => ∃ b, r = .v (.bool b) ∧ (b = true → P j h') ∧ (b = false → I (j + 1) h'))) :
    ACalls Tryd.prog 68 [K, .fn fid []] h (fun r h' => (∃ j : Nat, j < xs.length ∧ r = .v (.bool true) ∧ P j h') ∨ r = .v (.bool false) ∧ I xs.length h') := by
  have hi := g_index74 fid xs K hK hl I P h h0 step
  have o3 : OneV K := by rcases hK with ⟨_, rfl⟩ | ⟨tk, rfl⟩ <;> exact ⟨rfl, rfl, rfl, rfl, rfl⟩
  obtain ⟨w1, w2, w3, w4, w5⟩ := o3
  unfold uside at w1; unfold unw at w2; unfold AV.noLoc at w3; unfold isOpt at w4; simp only [AV.cellsB, Value.oneCell'] at w5
  refine acalls_of tyok Tryd.func68 rfl (by kernel_rfl) fun c => ?_; simp only [Tryd.ntmps68, List.length_cons, List.length_nil, Nat.reduceAdd, Nat.reduceSub, jnk_rep, List.cons_append, List.nil_append]
  (repeat (first | (with_reducible first | refine wB ?_ | refine wN ?_) | ((with_reducible refine wI ?_); refine wN ?_) | ((with_reducible first | refine kS ?_ | refine kR ?_ | refine wG ?_) <;> ((try with_reducible intro K1 hK1); simp only [go_sem, ↓reduceIte, reduceCtorEq, Nat.reduceAdd, Nat.reduceSub, Nat.reduceMul, Nat.reduceLT, Nat.reduceLeDiff, Nat.reduceEqDiff, w1, w2, w3, w4, w5]; (try and_intros); all_goals first | (refine hK1 _ ?_; clear hK1 K1) | (intros; first | (with_reducible trivial) | omega | (simp_all <;> omega)) | skip)) | (with_reducible first | refine wQ ?_ | refine zS ?_ | refine zN ?_)))
  refine hi.mono ?_
  rintro _ h' (⟨j, hj, rfl, hp⟩ | ⟨rfl, hi⟩)
  · refine hK1 _ ?_; clear hK1 K1
    (repeat (first | (with_reducible first | refine wB ?_ | refine wN ?_) | ((with_reducible refine wI ?_); refine wN ?_) | ((with_reducible first | refine kS ?_ | refine kR ?_ | refine wG ?_) <;> ((try with_reducible intro K1 hK1); simp only [go_sem, ↓reduceIte, reduceCtorEq, Nat.reduceAdd, Nat.reduceSub, Nat.reduceMul, Nat.reduceLT, Nat.reduceLeDiff, Nat.reduceEqDiff]; (try and_intros); all_goals first | (refine hK1 _ ?_; clear hK1 K1) | (intros; first | (with_reducible trivial) | omega | (simp_all <;> omega)) | skip)) | (with_reducible first | refine wQ ?_ | refine zS ?_ | refine zN ?_)))
    refine zR ?_; (repeat (with_reducible first | refine zT ?_ | refine zU ?_)); simp only [Tryd.results68, go_sem, ↓reduceIte, reduceCtorEq, Nat.reduceAdd, Nat.reduceSub, Nat.reduceMul, Nat.reduceLT, Nat.reduceLeDiff, Nat.reduceEqDiff]
    exact ⟨_, _, Weak.refl _, Hp.le.refl _, .inl ⟨j, hj, by simp, hp⟩⟩
  · refine hK1 _ ?_; clear hK1 K1
    (repeat (first | (with_reducible first | refine wB ?_ | refine wN ?_) | ((with_reducible refine wI ?_); refine wN ?_) | ((with_reducible first | refine kS ?_ | refine kR ?_ | refine wG ?_) <;> ((try with_reducible intro K1 hK1); simp only [go_sem, ↓reduceIte, reduceCtorEq, Nat.reduceAdd, Nat.reduceSub, Nat.reduceMul, Nat.reduceLT, Nat.reduceLeDiff, Nat.reduceEqDiff]; (try and_intros); all_goals first | (refine hK1 _ ?_; clear hK1 K1) | (intros; first | (with_reducible trivial) | omega | (simp_all <;> omega)) | skip)) | (with_reducible first | refine wQ ?_ | refine zS ?_ | refine zN ?_)))
    refine zR ?_; (repeat (with_reducible first | refine zT ?_ | refine zU ?_)); simp only [Tryd.results68, go_sem, ↓reduceIte, reduceCtorEq, Nat.reduceAdd, Nat.reduceSub, Nat.reduceMul, Nat.reduceLT, Nat.reduceLeDiff, Nat.reduceEqDiff]
    exact ⟨_, _, Weak.refl _, Hp.le.refl _, .inr ⟨by simp, hi⟩⟩
/-- All is as at the beginning. -/
def homeF : Nat → LT → PS → Bool
  | 0, _, _ => true
  | d + 1, .mk kind _ _ _ kids _, .mk p _ ks => (p.tmod (if kind = 3 then (kids.length : Int) else 1) == 0) && (List.range kids.length).all fun j => homeF d (kids.getD j default) (ks.getD j default)
/-- No LoopShare. -/
def N4 : Nat → LT → Prop
  | 0, _ => True
  | d + 1, .mk kind _ _ _ kids _ => kind ≠ 4 ∧ ∀ k ∈ kids, N4 d k
theorem g_begins61 : ∀ (d : Nat) (t : LT) (a : AT) (s : PS) (h : Hp), VL d t → N4 d t → RAt XP h d t a s → PSB d t s 100000 → ACalls Tryd.prog 61 [.ptr a.id 0] h (fun r h' => r = .v (.bool (homeF d t s)) ∧ h' = h)
  | 0, _, _, _, _, hv, _, _, _ => hv.elim
  | d + 1, .mk kind item long many kids shares, .mk i c0 az, .mk p cs ks, h0, hv, hn, hR, hB => by
    obtain ⟨v1, v2, v3, v4, v5, v6, v7, v8⟩ := id hv
    obtain ⟨n1, n2⟩ := id hn
    obtain ⟨⟨K, hH, hK⟩, hT, ⟨l1, l2, l3, l4⟩, hkids⟩ := id hR
    obtain ⟨c1, c2, c3⟩ := id hB
    have hH0 : h0.H i = some (.cells [.v (.int .i64 kind), .v (.string item), .v (.int .i64 long), .v (.int .i64 many), .row 6 (kids.map encL) none, .row 1 (shares.map encI) none, K, .v (.int .i64 p), .arr 1 c0 kids.length, .v (.int .i64 shares.sum)]) := hH
    have o3 : OneV K := by rcases hK with ⟨_, rfl⟩ | ⟨tk, rfl⟩ <;> exact ⟨rfl, rfl, rfl, rfl, rfl⟩
    obtain ⟨w1, w2, w3, w4, w5⟩ := o3
    unfold uside at w1; unfold unw at w2; unfold AV.noLoc at w3; unfold isOpt at w4; simp only [AV.cellsB, Value.oneCell'] at w5
    have e4 : (kind == 4) = false := by simp; exact n1
    have hclo : ∀ j, j < az.length → ACalls Tryd.prog 69 [.ptr (az.getD j default).id 0] h0 (fun r h' => r = .v (.bool (!homeF d (kids.getD j default) (ks.getD j default))) ∧ h' = h0) := fun j hj => by
      refine acalls_of tyok Tryd.func69 rfl (by kernel_rfl) fun c => ?_; simp only [Tryd.ntmps69, List.length_cons, List.length_nil, Nat.reduceAdd, Nat.reduceSub, jnk_rep, List.cons_append, List.nil_append]
      (repeat (first | (with_reducible first | refine wB ?_ | refine wN ?_) | ((with_reducible refine wI ?_); refine wN ?_) | ((with_reducible first | refine kS ?_ | refine kR ?_ | refine wG ?_) <;> ((try with_reducible intro K1 hK1); simp only [go_sem, ↓reduceIte, reduceCtorEq, Nat.reduceAdd, Nat.reduceSub, Nat.reduceMul, Nat.reduceLT, Nat.reduceLeDiff, Nat.reduceEqDiff]; (try and_intros); all_goals first | (refine hK1 _ ?_; clear hK1 K1) | (intros; first | (with_reducible trivial) | omega | (simp_all <;> omega)) | skip)) | (with_reducible first | refine wQ ?_ | refine zS ?_ | refine zN ?_)))
      refine (g_begins61 d _ _ _ h0 (v8 _ (getD_mem' kids j default (by omega))) (n2 _ (getD_mem' kids j default (by omega))) (hkids j (by omega)) (c3 j (by omega))).mono ?_; rintro _ hz ⟨rfl, hh⟩; refine hK1 _ ?_; clear hK1 K1; rw [hh]; clear hh hz
      (repeat (first | (with_reducible first | refine wB ?_ | refine wN ?_) | ((with_reducible refine wI ?_); refine wN ?_) | ((with_reducible first | refine kS ?_ | refine kR ?_ | refine wG ?_) <;> ((try with_reducible intro K1 hK1); simp only [go_sem, ↓reduceIte, reduceCtorEq, Nat.reduceAdd, Nat.reduceSub, Nat.reduceMul, Nat.reduceLT, Nat.reduceLeDiff, Nat.reduceEqDiff]; (try and_intros); all_goals first | (refine hK1 _ ?_; clear hK1 K1) | (intros; first | (with_reducible trivial) | omega | (simp_all <;> omega)) | skip)) | (with_reducible first | refine wQ ?_ | refine zS ?_ | refine zN ?_)))
      refine zR ?_; (repeat (with_reducible first | refine zT ?_ | refine zU ?_)); simp only [Tryd.results69, go_sem, ↓reduceIte, reduceCtorEq, Nat.reduceAdd, Nat.reduceSub, Nat.reduceMul, Nat.reduceLT, Nat.reduceLeDiff, Nat.reduceEqDiff]
      exact ⟨_, _, Weak.refl _, Hp.le.refl _, rfl, rfl⟩
    have hcon := g_contains68 69 az K hK (by omega) (fun j h' => h' = h0 ∧ ∀ l, l < j → homeF d (kids.getD l default) (ks.getD l default) = true) (fun j h' => h' = h0 ∧ homeF d (kids.getD j default) (ks.getD j default) = false) h0 ⟨rfl, fun l hl => by omega⟩
      (fun j h' hj ⟨e, hI⟩ => by
        rw [e]
        refine (hclo j hj).mono ?_
        rintro _ h2 ⟨rfl, e2⟩
        refine ⟨_, rfl, fun hb => ⟨e2, by simpa using hb⟩, fun hb => ⟨e2, fun l hl => ?_⟩⟩
        by_cases hlj : l = j
        · rw [hlj]; simpa using hb
        · exact hI l (by omega))
    show ACalls Tryd.prog 61 [.ptr i 0] h0 _
    refine acalls_of tyok Tryd.func61 rfl (by kernel_rfl) fun c => ?_; simp only [Tryd.ntmps61, List.length_cons, List.length_nil, Nat.reduceAdd, Nat.reduceSub, jnk_rep, List.cons_append, List.nil_append]
    (repeat (first | (with_reducible first | refine wB ?_ | refine wN ?_ | refine wT ?_) | ((with_reducible refine wI ?_); refine wN ?_) | ((first | (with_reducible first | refine kS ?_ | refine kR ?_ | refine wG ?_ | refine wH ?_ | refine wM ?_ ?_) | ((with_reducible refine xR ?_); refine uE 6 (mdL []) [0, 1, 2, 3, 4, 5, 6, 7, 8] [(9, [3], [10, 11])] 44 rfl (by kernel_rfl) ?_)) <;> ((try with_reducible intro K1 hK1); simp only [go_sem, ↓reduceIte, reduceCtorEq, Nat.reduceAdd, Nat.reduceSub, Nat.reduceMul, Nat.reduceLT, Nat.reduceLeDiff, Nat.reduceEqDiff, hH0]; (try and_intros); all_goals first | (refine hK1 _ ?_; clear hK1 K1) | (intros; first | (with_reducible trivial) | omega | (simp_all <;> omega)) | skip)) | (with_reducible first | refine zS ?_ | refine zN ?_ | refine zB ?_)))
    refine awp_seq ?_
    refine awp_join (rl false [0, 1, 2, 1, 40]) 0 (fun s => s = ⟨((.ptr i 0) :: AV.junk :: AV.junk :: ((.v (.int .i64 (if kind = 3 then (kids.length : Int) else 1))) :: (jnk 40 []))), [], h0⟩) ?_ ?_
    · by_cases h3 : kind = 3
      · have e3 : (kind == 3) = true := by simp; exact h3
        obtain ⟨tk, rfl⟩ : ∃ tk, K = .row 1 (az.map fun a => [.ptr a.id 0]) tk := by
          rcases hK with ⟨rfl, _⟩ | h9
          · simp at l3; exact absurd (List.eq_nil_of_length_eq_zero l3.symm) (v3 (by omega))
          · exact h9
        (repeat (first | (with_reducible first | refine wB ?_ | refine wN ?_ | refine wT ?_) | ((with_reducible refine wI ?_); refine wN ?_) | ((first | (with_reducible first | refine kS ?_ | refine kR ?_ | refine wG ?_ | refine wH ?_ | refine wM ?_ ?_) | ((with_reducible refine xR ?_); refine uE 6 (mdL []) [0, 1, 2, 3, 4, 5, 6, 7, 8] [(9, [3], [10, 11])] 44 rfl (by kernel_rfl) ?_)) <;> ((try with_reducible intro K1 hK1); simp only [go_sem, ↓reduceIte, reduceCtorEq, Nat.reduceAdd, Nat.reduceSub, Nat.reduceMul, Nat.reduceLT, Nat.reduceLeDiff, Nat.reduceEqDiff, hH0, e3, e4]; (try and_intros); all_goals first | (refine hK1 _ ?_; clear hK1 K1) | (intros; first | (with_reducible trivial) | omega | (simp_all <;> omega)) | skip)) | (with_reducible first | refine wQ ?_ | refine zS ?_ | refine zN ?_ | refine zB ?_)))
        refine awp_cond (t := _) rfl (fun _ => ?_) (fun h => by cases h)
        (repeat (first | (with_reducible first | refine wB ?_ | refine wN ?_ | refine wT ?_) | ((with_reducible refine wI ?_); refine wN ?_) | ((first | (with_reducible first | refine kS ?_ | refine kR ?_ | refine wG ?_ | refine wH ?_ | refine wM ?_ ?_) | ((with_reducible refine xR ?_); refine uE 6 (mdL []) [0, 1, 2, 3, 4, 5, 6, 7, 8] [(9, [3], [10, 11])] 44 rfl (by kernel_rfl) ?_)) <;> ((try with_reducible intro K1 hK1); simp only [go_sem, ↓reduceIte, reduceCtorEq, Nat.reduceAdd, Nat.reduceSub, Nat.reduceMul, Nat.reduceLT, Nat.reduceLeDiff, Nat.reduceEqDiff, hH0, l3]; (try and_intros); all_goals first | (refine hK1 _ ?_; clear hK1 K1) | (intros; first | (with_reducible trivial) | omega | (simp_all <;> omega)) | skip)) | (with_reducible first | refine wQ ?_ | refine zS ?_ | refine zN ?_ | refine zB ?_)))
        rw [if_pos h3]; rfl
      · have e3 : (kind == 3) = false := by simp; exact h3
        (repeat (first | (with_reducible first | refine wB ?_ | refine wN ?_ | refine wT ?_) | ((with_reducible refine wI ?_); refine wN ?_) | ((first | (with_reducible first | refine kS ?_ | refine kR ?_ | refine wG ?_ | refine wH ?_ | refine wM ?_ ?_) | ((with_reducible refine xR ?_); refine uE 6 (mdL []) [0, 1, 2, 3, 4, 5, 6, 7, 8] [(9, [3], [10, 11])] 44 rfl (by kernel_rfl) ?_)) <;> ((try with_reducible intro K1 hK1); simp only [go_sem, ↓reduceIte, reduceCtorEq, Nat.reduceAdd, Nat.reduceSub, Nat.reduceMul, Nat.reduceLT, Nat.reduceLeDiff, Nat.reduceEqDiff, hH0, e3, e4]; (try and_intros); all_goals first | (refine hK1 _ ?_; clear hK1 K1) | (intros; first | (with_reducible trivial) | omega | (simp_all <;> omega)) | skip)) | (with_reducible first | refine wQ ?_ | refine zS ?_ | refine zN ?_ | refine zB ?_)))
        refine awp_cond (t := _) rfl (fun h => by cases h) (fun _ => ?_)
        (repeat (first | (with_reducible first | refine wB ?_ | refine wN ?_ | refine wT ?_) | ((with_reducible refine wI ?_); refine wN ?_) | ((first | (with_reducible first | refine kS ?_ | refine kR ?_ | refine wG ?_ | refine wH ?_ | refine wM ?_ ?_) | ((with_reducible refine xR ?_); refine uE 6 (mdL []) [0, 1, 2, 3, 4, 5, 6, 7, 8] [(9, [3], [10, 11])] 44 rfl (by kernel_rfl) ?_)) <;> ((try with_reducible intro K1 hK1); simp only [go_sem, ↓reduceIte, reduceCtorEq, Nat.reduceAdd, Nat.reduceSub, Nat.reduceMul, Nat.reduceLT, Nat.reduceLeDiff, Nat.reduceEqDiff, hH0, e3, e4]; (try and_intros); all_goals first | (refine hK1 _ ?_; clear hK1 K1) | (intros; first | (with_reducible trivial) | omega | (simp_all <;> omega)) | skip)) | (with_reducible first | refine wQ ?_ | refine zS ?_ | refine zN ?_ | refine zB ?_)))
        refine awp_cond (t := _) rfl (fun h => by cases h) (fun _ => ?_)
        (repeat (first | (with_reducible first | refine wB ?_ | refine wN ?_ | refine wT ?_) | ((with_reducible refine wI ?_); refine wN ?_) | ((first | (with_reducible first | refine kS ?_ | refine kR ?_ | refine wG ?_ | refine wH ?_ | refine wM ?_ ?_) | ((with_reducible refine xR ?_); refine uE 6 (mdL []) [0, 1, 2, 3, 4, 5, 6, 7, 8] [(9, [3], [10, 11])] 44 rfl (by kernel_rfl) ?_)) <;> ((try with_reducible intro K1 hK1); simp only [go_sem, ↓reduceIte, reduceCtorEq, Nat.reduceAdd, Nat.reduceSub, Nat.reduceMul, Nat.reduceLT, Nat.reduceLeDiff, Nat.reduceEqDiff]; (try and_intros); all_goals first | (refine hK1 _ ?_; clear hK1 K1) | (intros; first | (with_reducible trivial) | omega | (simp_all <;> omega)) | skip)) | (with_reducible first | refine wQ ?_ | refine zS ?_ | refine zN ?_ | refine zB ?_)))
        rw [if_neg h3]; rfl
    · rintro _ rfl
      have hev : (if kind = 3 then (kids.length : Int) else 1) ≠ 0 := by
        split
        · have := List.length_pos_iff.2 (v3 (by omega)); omega
        · omega
      have hF : homeF (d + 1) (.mk kind item long many kids shares) (.mk p cs ks) = ((p.tmod (if kind = 3 then (kids.length : Int) else 1) == 0) && (List.range kids.length).all fun j => homeF d (kids.getD j default) (ks.getD j default)) := rfl
      generalize (if kind = 3 then (kids.length : Int) else 1) = ev at *
      rcases hb : (p.tmod ev == 0) with _ | _
      · (repeat (first | (with_reducible first | refine wB ?_ | refine wN ?_ | refine wT ?_) | ((with_reducible refine wI ?_); refine wN ?_) | ((first | (with_reducible first | refine kS ?_ | refine kR ?_ | refine wG ?_ | refine wH ?_ | refine wM ?_ ?_) | ((with_reducible refine xR ?_); refine uE 6 (mdL []) [0, 1, 2, 3, 4, 5, 6, 7, 8] [(9, [3], [10, 11])] 44 rfl (by kernel_rfl) ?_)) <;> ((try with_reducible intro K1 hK1); simp only [go_sem, ↓reduceIte, reduceCtorEq, Nat.reduceAdd, Nat.reduceSub, Nat.reduceMul, Nat.reduceLT, Nat.reduceLeDiff, Nat.reduceEqDiff, hH0, w1, w2, w3, w4, w5, hb]; (try and_intros); all_goals first | (refine hK1 _ ?_; clear hK1 K1) | (intros; first | (with_reducible trivial) | omega | (simp_all <;> omega)) | skip)) | (with_reducible first | refine wQ ?_ | refine zS ?_ | refine zN ?_ | refine zB ?_)))
        refine ⟨.v (.bool false), rfl, True.intro, hK1 _ ?_⟩; clear hK1 K1
        (repeat (first | (with_reducible first | refine wB ?_ | refine wN ?_ | refine wT ?_) | ((with_reducible refine wI ?_); refine wN ?_) | ((first | (with_reducible first | refine kS ?_ | refine kR ?_ | refine wG ?_ | refine wH ?_ | refine wM ?_ ?_) | ((with_reducible refine xR ?_); refine uE 6 (mdL []) [0, 1, 2, 3, 4, 5, 6, 7, 8] [(9, [3], [10, 11])] 44 rfl (by kernel_rfl) ?_)) <;> ((try with_reducible intro K1 hK1); simp only [go_sem, ↓reduceIte, reduceCtorEq, Nat.reduceAdd, Nat.reduceSub, Nat.reduceMul, Nat.reduceLT, Nat.reduceLeDiff, Nat.reduceEqDiff, hH0, w1, w2, w3, w4, w5, hb]; (try and_intros); all_goals first | (refine hK1 _ ?_; clear hK1 K1) | (intros; first | (with_reducible trivial) | omega | (simp_all <;> omega)) | skip)) | (with_reducible first | refine wQ ?_ | refine zS ?_ | refine zN ?_ | refine zB ?_)))
        refine zR ?_; (repeat (with_reducible first | refine zT ?_ | refine zU ?_)); simp only [Tryd.results61, go_sem, ↓reduceIte, reduceCtorEq, Nat.reduceAdd, Nat.reduceSub, Nat.reduceMul, Nat.reduceLT, Nat.reduceLeDiff, Nat.reduceEqDiff]
        exact ⟨_, _, Weak.refl _, Hp.le.refl _, by rw [hF, hb]; rfl, rfl⟩
      · (repeat (first | (with_reducible first | refine wB ?_ | refine wN ?_ | refine wT ?_) | ((with_reducible refine wI ?_); refine wN ?_) | ((first | (with_reducible first | refine kS ?_ | refine kR ?_ | refine wG ?_ | refine wH ?_ | refine wM ?_ ?_) | ((with_reducible refine xR ?_); refine uE 6 (mdL []) [0, 1, 2, 3, 4, 5, 6, 7, 8] [(9, [3], [10, 11])] 44 rfl (by kernel_rfl) ?_)) <;> ((try with_reducible intro K1 hK1); simp only [go_sem, ↓reduceIte, reduceCtorEq, Nat.reduceAdd, Nat.reduceSub, Nat.reduceMul, Nat.reduceLT, Nat.reduceLeDiff, Nat.reduceEqDiff, hH0, w1, w2, w3, w4, w5, hb]; (try and_intros); all_goals first | (refine hK1 _ ?_; clear hK1 K1) | (intros; first | (with_reducible trivial) | omega | (simp_all <;> omega)) | skip)) | (with_reducible first | refine wQ ?_ | refine zS ?_ | refine zN ?_ | refine zB ?_)))
        refine hcon.mono ?_
        rintro _ h2 (⟨j, hj, rfl, rfl, hP⟩ | ⟨rfl, rfl, hI⟩)
        · refine ⟨rfl, hK1 _ ?_⟩; clear hK1 K1
          (repeat (first | (with_reducible first | refine wB ?_ | refine wN ?_ | refine wT ?_) | ((with_reducible refine wI ?_); refine wN ?_) | ((first | (with_reducible first | refine kS ?_ | refine kR ?_ | refine wG ?_ | refine wH ?_ | refine wM ?_ ?_) | ((with_reducible refine xR ?_); refine uE 6 (mdL []) [0, 1, 2, 3, 4, 5, 6, 7, 8] [(9, [3], [10, 11])] 44 rfl (by kernel_rfl) ?_)) <;> ((try with_reducible intro K1 hK1); simp only [go_sem, ↓reduceIte, reduceCtorEq, Nat.reduceAdd, Nat.reduceSub, Nat.reduceMul, Nat.reduceLT, Nat.reduceLeDiff, Nat.reduceEqDiff, hH0, w1, w2, w3, w4, w5, hb]; (try and_intros); all_goals first | (refine hK1 _ ?_; clear hK1 K1) | (intros; first | (with_reducible trivial) | omega | (simp_all <;> omega)) | skip)) | (with_reducible first | refine wQ ?_ | refine zS ?_ | refine zN ?_ | refine zB ?_)))
          refine zR ?_; (repeat (with_reducible first | refine zT ?_ | refine zU ?_)); simp only [Tryd.results61, go_sem, ↓reduceIte, reduceCtorEq, Nat.reduceAdd, Nat.reduceSub, Nat.reduceMul, Nat.reduceLT, Nat.reduceLeDiff, Nat.reduceEqDiff]
          refine ⟨_, _, Weak.refl _, Hp.le.refl _, ?_, rfl⟩
          rw [hF, hb, Bool.true_and]
          have : (List.range kids.length).all (fun j => homeF d (kids.getD j default) (ks.getD j default)) = false := by
            rw [List.all_eq_false]
            exact ⟨j, by simp; omega, by rw [hP]; simp⟩
          rw [this]
        · refine ⟨rfl, hK1 _ ?_⟩; clear hK1 K1
          (repeat (first | (with_reducible first | refine wB ?_ | refine wN ?_ | refine wT ?_) | ((with_reducible refine wI ?_); refine wN ?_) | ((first | (with_reducible first | refine kS ?_ | refine kR ?_ | refine wG ?_ | refine wH ?_ | refine wM ?_ ?_) | ((with_reducible refine xR ?_); refine uE 6 (mdL []) [0, 1, 2, 3, 4, 5, 6, 7, 8] [(9, [3], [10, 11])] 44 rfl (by kernel_rfl) ?_)) <;> ((try with_reducible intro K1 hK1); simp only [go_sem, ↓reduceIte, reduceCtorEq, Nat.reduceAdd, Nat.reduceSub, Nat.reduceMul, Nat.reduceLT, Nat.reduceLeDiff, Nat.reduceEqDiff, hH0, w1, w2, w3, w4, w5, hb]; (try and_intros); all_goals first | (refine hK1 _ ?_; clear hK1 K1) | (intros; first | (with_reducible trivial) | omega | (simp_all <;> omega)) | skip)) | (with_reducible first | refine wQ ?_ | refine zS ?_ | refine zN ?_ | refine zB ?_)))
          refine zR ?_; (repeat (with_reducible first | refine zT ?_ | refine zU ?_)); simp only [Tryd.results61, go_sem, ↓reduceIte, reduceCtorEq, Nat.reduceAdd, Nat.reduceSub, Nat.reduceMul, Nat.reduceLT, Nat.reduceLeDiff, Nat.reduceEqDiff]
          refine ⟨_, _, Weak.refl _, Hp.le.refl _, ?_, rfl⟩
          rw [hF, hb, Bool.true_and]
          have : (List.range kids.length).all (fun j => homeF d (kids.getD j default) (ks.getD j default)) = true := by
            rw [List.all_eq_true]
            exact fun j hj => hI j (by simp at hj; omega)
          rw [this]
end Go.Proofs.YtoleejecmefogaaDoor
/- loop.roundOf, loop.Round of a right loop that comes round; looped. -/
namespace Go.Proofs.YtoleejecmefogaaDoor
open Go
set_option linter.unusedVariables false
set_option linter.unusedSimpArgs false
set_option maxRecDepth 100000
set_option maxHeartbeats 8000000
theorem passesU_ok (d : Nat) (t : LT) (hv : VL d t) (hf : Fits d t (ps0 t)) : ∀ n, PSB d t (passesU d t n).1 (passesU d t n).2.length ∧ Fits d t (passesU d t n).1
  | 0 => ⟨psb0 d t, hf⟩
  | n + 1 => by
    obtain ⟨h1, h2⟩ := passesU_ok d t hv hf n
    obtain ⟨q1, q2, q3⟩ := passU_ok d t _ _ hv h2 (by omega) h1
    exact ⟨by simp only [passesU, List.length_append]; exact_mod_cast q2, q3⟩
def roundC (n : Nat) (xs : List (ByteArray × Int)) : List AV := [.v (.int .i64 n), .row 2 (xs.map encStep) none, .v (.int .i64 (xs.map (·.2)).sum)]
theorem g_round52 (d : Nat) (t : LT) (h : Hp) (N : Nat) (hb : LC d t) (hv : VL d t) (h4 : N4 d t) (hN : 1 ≤ N ∧ N ≤ 5000) (hl : (passesU d t N).2.length ≤ 5000) (hh : homeF d t (passesU d t N).1 = true) (hn : ∀ n, 1 ≤ n → n < N → homeF d t (passesU d t n).1 = false)
    (hlong : ∀ x ∈ (passesU d t N).2, 0 ≤ x.2 ∧ x.2 ≤ 10000000) : ACalls Tryd.prog 52 [.agg (encL t)] h (fun r _ => r = .tup [.agg (roundC N (passesU d t N).2), .v (.int .i64 0)]) := by
  have hlen := encL_len t
  have htk : List.take 6 (encL t) = encL t := List.take_of_length_le (Nat.le_of_eq hlen)
  refine acalls_of tyok Tryd.func52 rfl (by kernel_rfl) fun c => ?_; simp only [Tryd.ntmps52, List.length_cons, List.length_nil, Nat.reduceAdd, Nat.reduceSub, jnk_rep, List.cons_append, List.nil_append]
  (repeat (first | (with_reducible first | refine wB ?_ | refine wN ?_) | ((with_reducible refine wI ?_); refine wN ?_) | ((with_reducible first | refine uS (mdL [(2, 1), (6, 1), (8, 1), (12, 2)]) ?_ | refine uR (mdL [(2, 1), (6, 1), (8, 1), (12, 2)]) ?_ | refine wG ?_) <;> ((try with_reducible intro K1 hK1); simp only [go_sem, ↓reduceIte, reduceCtorEq, Nat.reduceAdd, Nat.reduceSub, Nat.reduceMul, Nat.reduceLT, Nat.reduceLeDiff, Nat.reduceEqDiff, hlen, htk]; (try and_intros); all_goals first | (refine hK1 _ ?_; clear hK1 K1) | (intros; first | (with_reducible trivial) | omega | (simp_all <;> omega)) | skip)) | (with_reducible first | refine zS ?_ | refine zN ?_ | refine zX ?_ | refine zE ?_ | refine zF ?_ | refine zO (by decide) ?_ | refine zB ?_)))
  refine (g_newPart d t h hb).mono ?_
  rintro _ h1 ⟨a, rfl, hR, hS, hn1, hn2, hk1, hk2⟩
  refine hK1 _ ?_; clear hK1 K1
  first | (with_reducible first | refine wB ?_ | refine wN ?_) | ((with_reducible refine wI ?_); refine wN ?_) | ((with_reducible first | refine uS (mdL [(2, 1), (6, 1), (8, 1), (12, 2)]) ?_ | refine uR (mdL [(2, 1), (6, 1), (8, 1), (12, 2)]) ?_ | refine wG ?_) <;> ((try with_reducible intro K1 hK1); simp only [go_sem, ↓reduceIte, reduceCtorEq, Nat.reduceAdd, Nat.reduceSub, Nat.reduceMul, Nat.reduceLT, Nat.reduceLeDiff, Nat.reduceEqDiff]; (try and_intros); all_goals first | (refine hK1 _ ?_; clear hK1 K1) | (intros; first | (with_reducible trivial) | omega | (simp_all <;> omega)) | skip))
  intro o ho
  refine hK1 _ ?_; clear hK1 K1
  refine vRem_nil ?_
  refine awp_ownPtr (cs := [.v (.slice none 0 0), .v (.int .i64 5000)]) o 0 2 (upd_same _ _ _) rfl (fun k hk => ?_)
  simp only [List.set_cons_zero, upd_upd]
  replace hk : h1.T k = none := hk
  replace ho : h1.H o = none := ho
  have hoa : o ∉ idsT a := fun hx => hR.ne.1 o hx ho
  have hka : k ∉ toksT a := fun hx => hR.ne.2 k hx hk
  have hok := passesU_ok d t hv hR.fits
  (repeat (first | (with_reducible first | refine wB ?_ | refine wN ?_) | ((with_reducible refine wI ?_); refine wN ?_) | ((with_reducible first | refine uS (mdL [(2, 1), (6, 1), (8, 1), (12, 2)]) ?_ | refine uR (mdL [(2, 1), (6, 1), (8, 1), (12, 2)]) ?_ | refine wG ?_) <;> ((try with_reducible intro K1 hK1); simp only [go_sem, ↓reduceIte, reduceCtorEq, Nat.reduceAdd, Nat.reduceSub, Nat.reduceMul, Nat.reduceLT, Nat.reduceLeDiff, Nat.reduceEqDiff]; (try and_intros); all_goals first | (refine hK1 _ ?_; clear hK1 K1) | (intros; first | (with_reducible trivial) | omega | (simp_all <;> omega)) | skip)) | (with_reducible first | refine zS ?_ | refine zN ?_ | refine zX ?_ | refine zE ?_ | refine zF ?_ | refine zO (by decide) ?_ | refine zB ?_)))
  refine awp_seq ?_
  refine awp_block ?_
  refine awp_loopC (rl false [2, 1, 1, 3, 50]) 2 (fun g s => ∃ (j : Nat) (h2 : Hp), g + j = N ∧ RAt XP h2 d t a (passesU d t j).1 ∧ OutAt h2 o k oEx (passesU d t j).2 ∧
    s = ⟨(AV.junk :: AV.junk :: ((.loc 0 0) :: AV.junk :: ((.ptr a.id 0) :: (.ptr o 0) :: (.loc 1 0) :: (jnk 50 [])))), [[.v (.int .i64 0), .v (.slice none 0 0), .v (.int .i64 0)], [.v (.int .i64 j), .v (.slice none 0 0), .v (.int .i64 0)]], h2⟩) N ⟨0, _, by omega, hR.frame (fun x hx => upd_other _ _ (fun e => by subst e; exact hoa hx)) (fun x hx => upd_other _ _ (fun e => by subst e; exact hka hx)), ⟨upd_same _ _ _, upd_same _ _ _⟩, rfl⟩ ?_
  rintro g _ ⟨j, h2, hj, hR2, hO2, rfl⟩
  have hlj : (passesU d t j).2.length ≤ 5000 := Nat.le_trans (passesU_mono d t (by omega)) hl
  (repeat (first | (with_reducible first | refine wB ?_ | refine wN ?_) | ((with_reducible refine wI ?_); refine wN ?_) | ((with_reducible first | refine uS (mdL [(2, 1), (6, 1), (8, 1), (12, 2)]) ?_ | refine uR (mdL [(2, 1), (6, 1), (8, 1), (12, 2)]) ?_ | refine wG ?_) <;> ((try with_reducible intro K1 hK1); simp only [go_sem, ↓reduceIte, reduceCtorEq, Nat.reduceAdd, Nat.reduceSub, Nat.reduceMul, Nat.reduceLT, Nat.reduceLeDiff, Nat.reduceEqDiff]; (try and_intros); all_goals first | (refine hK1 _ ?_; clear hK1 K1) | (intros; first | (with_reducible trivial) | omega | (simp_all <;> omega)) | skip)) | (with_reducible first | refine zS ?_ | refine zN ?_ | refine zX ?_ | refine zE ?_ | refine zF ?_ | refine zO (by decide) ?_ | refine zB ?_)))
  refine awp_seq ?_
  refine awp_join (rl false [2, 1, 1, 3, 50]) 2 (fun s => j < N ∧ s = ⟨(AV.junk :: AV.junk :: ((.loc 0 0) :: AV.junk :: ((.ptr a.id 0) :: (.ptr o 0) :: (.loc 1 0) :: (jnk 50 [])))), [[.v (.int .i64 0), .v (.slice none 0 0), .v (.int .i64 0)], [.v (.int .i64 j), .v (.slice none 0 0), .v (.int .i64 0)]], h2⟩) ?_ ?_
  · by_cases hj0 : j = 0
    · have e0 : ((j : Int) == 0) = true := by simp; omega
      (repeat (first | (with_reducible first | refine wB ?_ | refine wN ?_) | ((with_reducible refine wI ?_); refine wN ?_) | ((with_reducible first | refine uS (mdL [(2, 1), (6, 1), (8, 1), (12, 2)]) ?_ | refine uR (mdL [(2, 1), (6, 1), (8, 1), (12, 2)]) ?_ | refine wG ?_) <;> ((try with_reducible intro K1 hK1); simp only [go_sem, ↓reduceIte, reduceCtorEq, Nat.reduceAdd, Nat.reduceSub, Nat.reduceMul, Nat.reduceLT, Nat.reduceLeDiff, Nat.reduceEqDiff, e0]; (try and_intros); all_goals first | (refine hK1 _ ?_; clear hK1 K1) | (intros; first | (with_reducible trivial) | omega | (simp_all <;> omega)) | skip)) | (with_reducible first | refine wQ ?_ | refine zS ?_ | refine zN ?_ | refine zX ?_ | refine zE ?_ | refine zF ?_ | refine zO (by decide) ?_ | refine zB ?_)))
      refine ⟨.v (.bool true), rfl, hK1 _ ?_⟩; clear hK1 K1
      (repeat (first | (with_reducible first | refine wB ?_ | refine wN ?_) | ((with_reducible refine wI ?_); refine wN ?_) | ((with_reducible first | refine uS (mdL [(2, 1), (6, 1), (8, 1), (12, 2)]) ?_ | refine uR (mdL [(2, 1), (6, 1), (8, 1), (12, 2)]) ?_ | refine wG ?_) <;> ((try with_reducible intro K1 hK1); simp only [go_sem, ↓reduceIte, reduceCtorEq, Nat.reduceAdd, Nat.reduceSub, Nat.reduceMul, Nat.reduceLT, Nat.reduceLeDiff, Nat.reduceEqDiff, e0]; (try and_intros); all_goals first | (refine hK1 _ ?_; clear hK1 K1) | (intros; first | (with_reducible trivial) | omega | (simp_all <;> omega)) | skip)) | (with_reducible first | refine wQ ?_ | refine zS ?_ | refine zN ?_ | refine zX ?_ | refine zE ?_ | refine zF ?_ | refine zO (by decide) ?_ | refine zB ?_)))
      refine awp_cond (t := _) rfl (fun _ => ?_) (fun h => by cases h)
      (repeat (first | (with_reducible first | refine wB ?_ | refine wN ?_) | ((with_reducible refine wI ?_); refine wN ?_) | ((with_reducible first | refine uS (mdL [(2, 1), (6, 1), (8, 1), (12, 2)]) ?_ | refine uR (mdL [(2, 1), (6, 1), (8, 1), (12, 2)]) ?_ | refine wG ?_) <;> ((try with_reducible intro K1 hK1); simp only [go_sem, ↓reduceIte, reduceCtorEq, Nat.reduceAdd, Nat.reduceSub, Nat.reduceMul, Nat.reduceLT, Nat.reduceLeDiff, Nat.reduceEqDiff]; (try and_intros); all_goals first | (refine hK1 _ ?_; clear hK1 K1) | (intros; first | (with_reducible trivial) | omega | (simp_all <;> omega)) | skip)) | (with_reducible first | refine wQ ?_ | refine zS ?_ | refine zN ?_ | refine zX ?_ | refine zE ?_ | refine zF ?_ | refine zO (by decide) ?_ | refine zB ?_)))
      exact ⟨by omega, rfl⟩
    · have e0 : ((j : Int) == 0) = false := by simp; omega
      (repeat (first | (with_reducible first | refine wB ?_ | refine wN ?_) | ((with_reducible refine wI ?_); refine wN ?_) | ((with_reducible first | refine uS (mdL [(2, 1), (6, 1), (8, 1), (12, 2)]) ?_ | refine uR (mdL [(2, 1), (6, 1), (8, 1), (12, 2)]) ?_ | refine wG ?_) <;> ((try with_reducible intro K1 hK1); simp only [go_sem, ↓reduceIte, reduceCtorEq, Nat.reduceAdd, Nat.reduceSub, Nat.reduceMul, Nat.reduceLT, Nat.reduceLeDiff, Nat.reduceEqDiff, e0]; (try and_intros); all_goals first | (refine hK1 _ ?_; clear hK1 K1) | (intros; first | (with_reducible trivial) | omega | (simp_all <;> omega)) | skip)) | (with_reducible first | refine wQ ?_ | refine zS ?_ | refine zN ?_ | refine zX ?_ | refine zE ?_ | refine zF ?_ | refine zO (by decide) ?_ | refine zB ?_)))
      refine (g_begins61 d t a _ h2 hv h4 hR2 ((hok j).1.mono (by omega))).mono ?_; rintro _ hz ⟨rfl, hh⟩; refine ⟨rfl, hK1 _ ?_⟩; clear hK1 K1; rw [hh]; clear hh hz
      (repeat (first | (with_reducible first | refine wB ?_ | refine wN ?_) | ((with_reducible refine wI ?_); refine wN ?_) | ((with_reducible first | refine uS (mdL [(2, 1), (6, 1), (8, 1), (12, 2)]) ?_ | refine uR (mdL [(2, 1), (6, 1), (8, 1), (12, 2)]) ?_ | refine wG ?_) <;> ((try with_reducible intro K1 hK1); simp only [go_sem, ↓reduceIte, reduceCtorEq, Nat.reduceAdd, Nat.reduceSub, Nat.reduceMul, Nat.reduceLT, Nat.reduceLeDiff, Nat.reduceEqDiff, e0]; (try and_intros); all_goals first | (refine hK1 _ ?_; clear hK1 K1) | (intros; first | (with_reducible trivial) | omega | (simp_all <;> omega)) | skip)) | (with_reducible first | refine wQ ?_ | refine zS ?_ | refine zN ?_ | refine zX ?_ | refine zE ?_ | refine zF ?_ | refine zO (by decide) ?_ | refine zB ?_)))
      by_cases hjN : j = N
      · have eh : homeF d t (passesU d t j).1 = true := by rw [hjN]; exact hh
        refine awp_cond (t := _) rfl (fun h => by simp [eh] at h) (fun _ => ?_)
        have hO20 : h2.H o = some (.cells [.row 2 ((passesU d t j).2.map encStep) (some k), .v (.int .i64 5000)]) := hO2.1
        subst hjN
        generalize (passesU d t j).2 = xs at *
        (repeat (first | (with_reducible first | refine wB ?_ | refine wN ?_) | ((with_reducible refine wI ?_); refine wN ?_) | ((with_reducible first | refine uS (mdL [(2, 1), (6, 1), (8, 1), (12, 2)]) ?_ | refine uR (mdL [(2, 1), (6, 1), (8, 1), (12, 2)]) ?_ | refine wG ?_) <;> ((try with_reducible intro K1 hK1); simp only [go_sem, ↓reduceIte, reduceCtorEq, Nat.reduceAdd, Nat.reduceSub, Nat.reduceMul, Nat.reduceLT, Nat.reduceLeDiff, Nat.reduceEqDiff, hO20]; (try and_intros); all_goals first | (refine hK1 _ ?_; clear hK1 K1) | (intros; first | (with_reducible trivial) | omega | (simp_all <;> omega)) | skip)) | (with_reducible first | refine zS ?_ | refine zN ?_ | refine zX ?_ | refine zE ?_ | refine zF ?_ | refine zO (by decide) ?_ | refine zB ?_)))
        refine awp_seq ?_
        (repeat (first | (with_reducible first | refine wB ?_ | refine wN ?_) | ((with_reducible refine wI ?_); refine wN ?_) | ((with_reducible first | refine uS (mdL [(2, 1), (6, 1), (8, 1), (12, 2)]) ?_ | refine uR (mdL [(2, 1), (6, 1), (8, 1), (12, 2)]) ?_ | refine wG ?_) <;> ((try with_reducible intro K1 hK1); simp only [go_sem, ↓reduceIte, reduceCtorEq, Nat.reduceAdd, Nat.reduceSub, Nat.reduceMul, Nat.reduceLT, Nat.reduceLeDiff, Nat.reduceEqDiff]; (try and_intros); all_goals first | (refine hK1 _ ?_; clear hK1 K1) | (intros; first | (with_reducible trivial) | omega | (simp_all <;> omega)) | skip)) | (with_reducible first | refine wQ ?_ | refine zS ?_ | refine zN ?_ | refine zX ?_ | refine zE ?_ | refine zF ?_ | refine zO (by decide) ?_ | refine zB ?_)))
        refine awp_loopC (rl false [2, 1, 3, 1, 36, 3, 11]) 2 (fun g s => ∃ m : Nat, g + m = xs.length ∧ s = ⟨(AV.junk :: AV.junk :: ((.loc 0 0) :: (jnk 3 ((.loc 1 0) :: (jnk 36 ((.row 2 (xs.map encStep) (some k)) :: (.v (.int .i64 xs.length)) :: (.v (.int .i64 m)) :: (jnk 11 []))))))),
          [[.v (.int .i64 0), .v (.slice none 0 0), .v (.int .i64 0)], [.v (.int .i64 j), .row 2 (xs.map encStep) (some k), .v (.int .i64 ((xs.map (·.2)).take m).sum)]], h2⟩) xs.length ⟨0, by omega, rfl⟩ ?_
        rintro g2 _ ⟨m, hm, rfl⟩
        have hsb : 0 ≤ ((xs.map (·.2)).take m).sum ∧ ((xs.map (·.2)).take m).sum ≤ 5000 * 10000000 := by
          have h9 := sum_bd (fun x : ByteArray × Int => x.2) 10000000 (by omega) (xs.take m) fun x hx => hlong x (List.mem_of_mem_take hx)
          rw [← List.map_take]
          have h10 : ((xs.take m).length : Int) ≤ 5000 := by simp; omega
          omega
        (repeat (first | (with_reducible first | refine wB ?_ | refine wN ?_) | ((with_reducible refine wI ?_); refine wN ?_) | ((with_reducible first | refine uS (mdL [(2, 1), (6, 1), (8, 1), (12, 2)]) ?_ | refine uR (mdL [(2, 1), (6, 1), (8, 1), (12, 2)]) ?_ | refine wG ?_) <;> ((try with_reducible intro K1 hK1); simp only [go_sem, ↓reduceIte, reduceCtorEq, Nat.reduceAdd, Nat.reduceSub, Nat.reduceMul, Nat.reduceLT, Nat.reduceLeDiff, Nat.reduceEqDiff]; (try and_intros); all_goals first | (refine hK1 _ ?_; clear hK1 K1) | (intros; first | (with_reducible trivial) | omega | (simp_all <;> omega)) | skip)) | (with_reducible first | refine wQ ?_ | refine zS ?_ | refine zN ?_ | refine zX ?_ | refine zE ?_ | refine zF ?_ | refine zO (by decide) ?_ | refine zB ?_)))
        refine awp_cond (t := _) rfl (fun h9 => ?_) (fun h9 => ?_)
        · simp only [decide_eq_true_eq] at h9
          have hmx : m < xs.length := by omega
          have hgx : (xs.map encStep).getD m [] = encStep (xs.getD m default) := getD_enc encStep xs m default hmx
          have hxb := hlong _ (getD_mem' xs m default hmx)
          have e9 : ((xs.map (·.2)).take (m + 1)).sum = ((xs.map (·.2)).take m).sum + (xs.getD m default).2 := by
            rw [sum_take_succ _ _ (by simpa using hmx)]
            congr 1
            rw [List.getD_eq_getElem?_getD, List.getD_eq_getElem?_getD, List.getElem?_map, List.getElem?_eq_getElem hmx]; rfl
          generalize xs.getD m default = y at hgx hxb e9
          (repeat (first | (with_reducible first | refine wB ?_ | refine wN ?_) | ((with_reducible refine wI ?_); refine wN ?_) | ((with_reducible first | refine uS (mdL [(2, 1), (6, 1), (8, 1), (12, 2)]) ?_ | refine uR (mdL [(2, 1), (6, 1), (8, 1), (12, 2)]) ?_ | refine wG ?_) <;> ((try with_reducible intro K1 hK1); simp only [go_sem, ↓reduceIte, reduceCtorEq, Nat.reduceAdd, Nat.reduceSub, Nat.reduceMul, Nat.reduceLT, Nat.reduceLeDiff, Nat.reduceEqDiff, Int.toNat_natCast, hgx, encStep]; (try and_intros); all_goals first | (refine hK1 _ ?_; clear hK1 K1) | (intros; first | (with_reducible trivial) | omega | (simp_all <;> omega)) | skip)) | (with_reducible first | refine wQ ?_ | refine zS ?_ | refine zN ?_ | refine zX ?_ | refine zE ?_ | refine zF ?_ | refine zO (by decide) ?_ | refine zB ?_)))
          refine ⟨g2 - 1, by omega, m + 1, by omega, ?_⟩
          rw [e9]; rfl
        · simp only [decide_eq_false_iff_not] at h9
          have hmx : m = xs.length := by omega
          rw [List.take_of_length_le (by simp; omega)] at hsb ⊢
          (repeat (first | (with_reducible first | refine wB ?_ | refine wN ?_) | ((with_reducible refine wI ?_); refine wN ?_) | ((with_reducible first | refine uS (mdL [(2, 1), (6, 1), (8, 1), (12, 2)]) ?_ | refine uR (mdL [(2, 1), (6, 1), (8, 1), (12, 2)]) ?_ | refine wG ?_) <;> ((try with_reducible intro K1 hK1); simp only [go_sem, ↓reduceIte, reduceCtorEq, Nat.reduceAdd, Nat.reduceSub, Nat.reduceMul, Nat.reduceLT, Nat.reduceLeDiff, Nat.reduceEqDiff]; (try and_intros); all_goals first | (refine hK1 _ ?_; clear hK1 K1) | (intros; first | (with_reducible trivial) | omega | (simp_all <;> omega)) | skip)) | (with_reducible first | refine wQ ?_ | refine zS ?_ | refine zN ?_ | refine zX ?_ | refine zE ?_ | refine zF ?_ | refine zO (by decide) ?_ | refine zB ?_)))
          refine zR ?_; (repeat (with_reducible first | refine zT ?_ | refine zU ?_)); simp only [Tryd.results52, go_sem, ↓reduceIte, reduceCtorEq, Nat.reduceAdd, Nat.reduceSub, Nat.reduceMul, Nat.reduceLT, Nat.reduceLeDiff, Nat.reduceEqDiff]
          refine ⟨_, _, Weak.tup1 (Weak.agg (.cons (Weak.refl _) (.cons (Weak.row _ _ _) (.cons (Weak.refl _) .nil)))) (Weak.refl _), Hp.le.refl _, rfl⟩
      · have eh : homeF d t (passesU d t j).1 = false := hn j (by omega) (by omega)
        refine awp_cond (t := _) rfl (fun _ => ?_) (fun h => by simp [eh] at h)
        (repeat (first | (with_reducible first | refine wB ?_ | refine wN ?_) | ((with_reducible refine wI ?_); refine wN ?_) | ((with_reducible first | refine uS (mdL [(2, 1), (6, 1), (8, 1), (12, 2)]) ?_ | refine uR (mdL [(2, 1), (6, 1), (8, 1), (12, 2)]) ?_ | refine wG ?_) <;> ((try with_reducible intro K1 hK1); simp only [go_sem, ↓reduceIte, reduceCtorEq, Nat.reduceAdd, Nat.reduceSub, Nat.reduceMul, Nat.reduceLT, Nat.reduceLeDiff, Nat.reduceEqDiff]; (try and_intros); all_goals first | (refine hK1 _ ?_; clear hK1 K1) | (intros; first | (with_reducible trivial) | omega | (simp_all <;> omega)) | skip)) | (with_reducible first | refine wQ ?_ | refine zS ?_ | refine zN ?_ | refine zX ?_ | refine zE ?_ | refine zF ?_ | refine zO (by decide) ?_ | refine zB ?_)))
        exact ⟨by omega, rfl⟩
  · rintro _ ⟨hjN, rfl⟩
    (repeat (first | (with_reducible first | refine wB ?_ | refine wN ?_) | ((with_reducible refine wI ?_); refine wN ?_) | ((with_reducible first | refine uS (mdL [(2, 1), (6, 1), (8, 1), (12, 2)]) ?_ | refine uR (mdL [(2, 1), (6, 1), (8, 1), (12, 2)]) ?_ | refine wG ?_) <;> ((try with_reducible intro K1 hK1); simp only [go_sem, ↓reduceIte, reduceCtorEq, Nat.reduceAdd, Nat.reduceSub, Nat.reduceMul, Nat.reduceLT, Nat.reduceLeDiff, Nat.reduceEqDiff]; (try and_intros); all_goals first | (refine hK1 _ ?_; clear hK1 K1) | (intros; first | (with_reducible trivial) | omega | (simp_all <;> omega)) | skip)) | (with_reducible first | refine wQ ?_ | refine zS ?_ | refine zN ?_ | refine zX ?_ | refine zE ?_ | refine zF ?_ | refine zO (by decide) ?_ | refine zB ?_)))
    refine (g_passP d t a _ h2 o k _ hv hR2 hS (hok j).1 hO2 hoa (by omega)).mono ?_
    rintro r h6 ⟨rfl, s2, out2, hR6, hO6, _, q1, q2, q3⟩
    have e5 : (passesU d t (j + 1)).2.length = (passesU d t j).2.length + (passU d t (passesU d t j).1).2.length := by simp only [passesU, List.length_append]
    have hl6 : (passesU d t (j + 1)).2.length ≤ 5000 := Nat.le_trans (passesU_mono d t (by omega)) hl
    obtain ⟨rfl, rfl⟩ := q2 hlj (by omega)
    refine hK1 _ ?_; clear hK1 K1
    (repeat (first | (with_reducible first | refine wB ?_ | refine wN ?_) | ((with_reducible refine wI ?_); refine wN ?_) | ((with_reducible first | refine uS (mdL [(2, 1), (6, 1), (8, 1), (12, 2)]) ?_ | refine uR (mdL [(2, 1), (6, 1), (8, 1), (12, 2)]) ?_ | refine wG ?_) <;> ((try with_reducible intro K1 hK1); simp only [go_sem, ↓reduceIte, reduceCtorEq, Nat.reduceAdd, Nat.reduceSub, Nat.reduceMul, Nat.reduceLT, Nat.reduceLeDiff, Nat.reduceEqDiff]; (try and_intros); all_goals first | (refine hK1 _ ?_; clear hK1 K1) | (intros; first | (with_reducible trivial) | omega | (simp_all <;> omega)) | skip)) | (with_reducible first | refine wQ ?_ | refine zS ?_ | refine zN ?_ | refine zX ?_ | refine zE ?_ | refine zF ?_ | refine zO (by decide) ?_ | refine zB ?_)))
    refine (g_full28 o k h6 _ hO6).mono ?_; rintro _ hz ⟨rfl, hh⟩; refine hK1 _ ?_; clear hK1 K1; rw [hh]; clear hh hz
    have hnf : decide ((5000 : Int) < ((passesU d t j).2 ++ (passU d t (passesU d t j).1).2).length) = false := by simp only [decide_eq_false_iff_not, List.length_append]; omega
    have hnf2 : decide ((5000 : Int) < (j : Int) + 1) = false := by simp only [decide_eq_false_iff_not]; omega
    (repeat (first | (with_reducible first | refine wB ?_ | refine wN ?_) | ((with_reducible refine wI ?_); refine wN ?_) | ((with_reducible first | refine uS (mdL [(2, 1), (6, 1), (8, 1), (12, 2)]) ?_ | refine uR (mdL [(2, 1), (6, 1), (8, 1), (12, 2)]) ?_ | refine wG ?_) <;> ((try with_reducible intro K1 hK1); simp only [go_sem, ↓reduceIte, reduceCtorEq, Nat.reduceAdd, Nat.reduceSub, Nat.reduceMul, Nat.reduceLT, Nat.reduceLeDiff, Nat.reduceEqDiff, hnf, hnf2]; (try and_intros); all_goals first | (refine hK1 _ ?_; clear hK1 K1) | (intros; first | (with_reducible trivial) | omega | (simp_all <;> omega)) | skip)) | (with_reducible first | refine wQ ?_ | refine zS ?_ | refine zN ?_ | refine zX ?_ | refine zE ?_ | refine zF ?_ | refine zO (by decide) ?_ | refine zB ?_)))
    refine awp_cond (t := _) rfl (fun h => by cases h) (fun _ => ?_)
    (repeat (first | (with_reducible first | refine wB ?_ | refine wN ?_) | ((with_reducible refine wI ?_); refine wN ?_) | ((with_reducible first | refine uS (mdL [(2, 1), (6, 1), (8, 1), (12, 2)]) ?_ | refine uR (mdL [(2, 1), (6, 1), (8, 1), (12, 2)]) ?_ | refine wG ?_) <;> ((try with_reducible intro K1 hK1); simp only [go_sem, ↓reduceIte, reduceCtorEq, Nat.reduceAdd, Nat.reduceSub, Nat.reduceMul, Nat.reduceLT, Nat.reduceLeDiff, Nat.reduceEqDiff]; (try and_intros); all_goals first | (refine hK1 _ ?_; clear hK1 K1) | (intros; first | (with_reducible trivial) | omega | (simp_all <;> omega)) | skip)) | (with_reducible first | refine wQ ?_ | refine zS ?_ | refine zN ?_ | refine zX ?_ | refine zE ?_ | refine zF ?_ | refine zO (by decide) ?_ | refine zB ?_)))
    exact ⟨g - 1, by omega, j + 1, h6, by omega, hR6, hO6, rfl⟩
theorem g_checked47 (d : Nat) (t : LT) (h : Hp) (N : Nat) (hb : LC d t) (hd : d ≤ 28) (hf : faultF t = 0) (h4 : N4 d t) (hN : 1 ≤ N ∧ N ≤ 5000) (hl : (passesU d t N).2.length ≤ 5000) (hh : homeF d t (passesU d t N).1 = true) (hn : ∀ n, 1 ≤ n → n < N → homeF d t (passesU d t n).1 = false)
    (hlong : ∀ x ∈ (passesU d t N).2, 0 ≤ x.2 ∧ x.2 ≤ 10000000) : ACalls Tryd.prog 47 [.agg (encL t)] h (fun r _ => r = .tup [.agg (roundC N (passesU d t N).2), .v (.int .i64 0)]) := by
  have hlen := encL_len t
  have htk : List.take 6 (encL t) = encL t := List.take_of_length_le (Nat.le_of_eq hlen)
  have hv : VL d t := vl_of d t hb (by unfold faultF at hf; split at hf; cases hf; exact hf)
  refine acalls_of tyok Tryd.func47 rfl (by kernel_rfl) fun c => ?_; simp only [Tryd.ntmps47, List.length_cons, List.length_nil, Nat.reduceAdd, Nat.reduceSub, jnk_rep, List.cons_append, List.nil_append]
  (repeat (first | (with_reducible first | refine wB ?_ | refine wN ?_) | ((with_reducible refine wI ?_); refine wN ?_) | ((with_reducible first | refine uS (mdL [(2, 1)]) ?_ | refine uR (mdL [(2, 1)]) ?_ | refine wG ?_) <;> ((try with_reducible intro K1 hK1); simp only [go_sem, ↓reduceIte, reduceCtorEq, Nat.reduceAdd, Nat.reduceSub, Nat.reduceMul, Nat.reduceLT, Nat.reduceLeDiff, Nat.reduceEqDiff, hlen, htk]; (try and_intros); all_goals first | (refine hK1 _ ?_; clear hK1 K1) | (intros; first | (with_reducible trivial) | omega | (simp_all <;> omega)) | skip)) | (with_reducible first | refine wQ ?_ | refine zS ?_ | refine zN ?_)))
  refine (g_check7 d t h hb hd).mono ?_; rintro _ hz ⟨rfl, hh⟩; refine hK1 _ ?_; clear hK1 K1; rw [hh]; clear hh hz
  (repeat (first | (with_reducible first | refine wB ?_ | refine wN ?_) | ((with_reducible refine wI ?_); refine wN ?_) | ((with_reducible first | refine uS (mdL [(2, 1)]) ?_ | refine uR (mdL [(2, 1)]) ?_ | refine wG ?_) <;> ((try with_reducible intro K1 hK1); simp only [go_sem, ↓reduceIte, reduceCtorEq, Nat.reduceAdd, Nat.reduceSub, Nat.reduceMul, Nat.reduceLT, Nat.reduceLeDiff, Nat.reduceEqDiff, hlen, htk, hf]; (try and_intros); all_goals first | (refine hK1 _ ?_; clear hK1 K1) | (intros; first | (with_reducible trivial) | omega | (simp_all <;> omega)) | skip)) | (with_reducible first | refine wQ ?_ | refine zS ?_ | refine zN ?_)))
  refine awp_cond (t := _) rfl (fun h9 => by simp [hf] at h9) (fun _ => ?_)
  (repeat (first | (with_reducible first | refine wB ?_ | refine wN ?_) | ((with_reducible refine wI ?_); refine wN ?_) | ((with_reducible first | refine uS (mdL [(2, 1)]) ?_ | refine uR (mdL [(2, 1)]) ?_ | refine wG ?_) <;> ((try with_reducible intro K1 hK1); simp only [go_sem, ↓reduceIte, reduceCtorEq, Nat.reduceAdd, Nat.reduceSub, Nat.reduceMul, Nat.reduceLT, Nat.reduceLeDiff, Nat.reduceEqDiff, hlen, htk]; (try and_intros); all_goals first | (refine hK1 _ ?_; clear hK1 K1) | (intros; first | (with_reducible trivial) | omega | (simp_all <;> omega)) | skip)) | (with_reducible first | refine wQ ?_ | refine zS ?_ | refine zN ?_)))
  refine (g_round52 d t h N hb hv h4 hN hl hh hn hlong).mono ?_
  rintro _ h2 rfl
  refine hK1 _ ?_; clear hK1 K1
  (repeat (first | (with_reducible first | refine wB ?_ | refine wN ?_) | ((with_reducible refine wI ?_); refine wN ?_) | ((with_reducible first | refine uS (mdL [(2, 1)]) ?_ | refine uR (mdL [(2, 1)]) ?_ | refine wG ?_) <;> ((try with_reducible intro K1 hK1); simp only [go_sem, ↓reduceIte, reduceCtorEq, Nat.reduceAdd, Nat.reduceSub, Nat.reduceMul, Nat.reduceLT, Nat.reduceLeDiff, Nat.reduceEqDiff, roundC]; (try and_intros); all_goals first | (refine hK1 _ ?_; clear hK1 K1) | (intros; first | (with_reducible trivial) | omega | (simp_all <;> omega)) | skip)) | (with_reducible first | refine wQ ?_ | refine zS ?_ | refine zN ?_)))
  refine zR ?_; (repeat (with_reducible first | refine zT ?_ | refine zU ?_)); simp only [Tryd.results47, go_sem, ↓reduceIte, reduceCtorEq, Nat.reduceAdd, Nat.reduceSub, Nat.reduceMul, Nat.reduceLT, Nat.reduceLeDiff, Nat.reduceEqDiff]
  exact ⟨_, _, Weak.refl _, Hp.le.refl _, rfl⟩
theorem g_round31 (d : Nat) (t : LT) (h : Hp) (N : Nat) (hb : LC d t) (hd : d ≤ 28) (hf : faultF t = 0) (h4 : N4 d t) (hN : 1 ≤ N ∧ N ≤ 5000) (hl : (passesU d t N).2.length ≤ 5000) (hh : homeF d t (passesU d t N).1 = true) (hn : ∀ n, 1 ≤ n → n < N → homeF d t (passesU d t n).1 = false)
    (hlong : ∀ x ∈ (passesU d t N).2, 0 ≤ x.2 ∧ x.2 ≤ 10000000) : ACalls Tryd.prog 31 [.agg (encL t)] h (fun r _ => r = .tup [.v (.int .i64 N), .v (.int .i64 (passesU d t N).2.length), .v (.int .i64 ((passesU d t N).2.map (·.2)).sum), .v (.int .i64 0)]) := by
  have hlen := encL_len t
  have htk : List.take 6 (encL t) = encL t := List.take_of_length_le (Nat.le_of_eq hlen)
  refine acalls_of tyok Tryd.func31 rfl (by kernel_rfl) fun c => ?_; simp only [Tryd.ntmps31, List.length_cons, List.length_nil, Nat.reduceAdd, Nat.reduceSub, jnk_rep, List.cons_append, List.nil_append]
  (repeat (first | (with_reducible first | refine wB ?_ | refine wN ?_ | refine wT ?_) | ((with_reducible refine wI ?_); refine wN ?_) | ((first | (with_reducible first | refine uS (mdL [(6, 1)]) ?_ | refine uR (mdL [(6, 1)]) ?_ | refine wG ?_ | refine wH ?_ | refine wM ?_ ?_) | ((with_reducible refine xS ?_); refine uD 4 (mdL [(6, 1)]) [0, 1, 2, 3, 4, 5, 6, 7, 8, 9, 10] [] 22 rfl (by kernel_rfl) ?_)) <;> ((try with_reducible intro K1 hK1); simp only [go_sem, ↓reduceIte, reduceCtorEq, Nat.reduceAdd, Nat.reduceSub, Nat.reduceMul, Nat.reduceLT, Nat.reduceLeDiff, Nat.reduceEqDiff, hlen, htk]; (try and_intros); all_goals first | (refine hK1 _ ?_; clear hK1 K1) | (intros; first | (with_reducible trivial) | omega | (simp_all <;> omega)) | skip)) | (with_reducible first | refine wQ ?_ | refine zS ?_ | refine zN ?_)))
  refine (g_checked47 d t h N hb hd hf h4 hN hl hh hn hlong).mono ?_
  rintro _ h2 rfl
  refine hK1 _ ?_; clear hK1 K1
  (repeat (first | (with_reducible first | refine wB ?_ | refine wN ?_ | refine wT ?_) | ((with_reducible refine wI ?_); refine wN ?_) | ((first | (with_reducible first | refine uS (mdL [(6, 1)]) ?_ | refine uR (mdL [(6, 1)]) ?_ | refine wG ?_ | refine wH ?_ | refine wM ?_ ?_) | ((with_reducible refine xS ?_); refine uD 4 (mdL [(6, 1)]) [0, 1, 2, 3, 4, 5, 6, 7, 8, 9, 10] [] 22 rfl (by kernel_rfl) ?_)) <;> ((try with_reducible intro K1 hK1); simp only [go_sem, ↓reduceIte, reduceCtorEq, Nat.reduceAdd, Nat.reduceSub, Nat.reduceMul, Nat.reduceLT, Nat.reduceLeDiff, Nat.reduceEqDiff, roundC]; (try and_intros); all_goals first | (refine hK1 _ ?_; clear hK1 K1) | (intros; first | (with_reducible trivial) | omega | (simp_all <;> omega)) | skip)) | (with_reducible first | refine wQ ?_ | refine zS ?_ | refine zN ?_)))
  refine awp_cond (t := _) rfl (fun h9 => by cases h9) (fun _ => ?_)
  (repeat (first | (with_reducible first | refine wB ?_ | refine wN ?_ | refine wT ?_) | ((with_reducible refine wI ?_); refine wN ?_) | ((first | (with_reducible first | refine uS (mdL [(6, 1)]) ?_ | refine uR (mdL [(6, 1)]) ?_ | refine wG ?_ | refine wH ?_ | refine wM ?_ ?_) | ((with_reducible refine xS ?_); refine uD 4 (mdL [(6, 1)]) [0, 1, 2, 3, 4, 5, 6, 7, 8, 9, 10] [] 22 rfl (by kernel_rfl) ?_)) <;> ((try with_reducible intro K1 hK1); simp only [go_sem, ↓reduceIte, reduceCtorEq, Nat.reduceAdd, Nat.reduceSub, Nat.reduceMul, Nat.reduceLT, Nat.reduceLeDiff, Nat.reduceEqDiff, roundC]; (try and_intros); all_goals first | (refine hK1 _ ?_; clear hK1 K1) | (intros; first | (with_reducible trivial) | omega | (simp_all <;> omega)) | skip)) | (with_reducible first | refine wQ ?_ | refine zS ?_ | refine zN ?_)))
  refine zR ?_; (repeat (with_reducible first | refine zT ?_ | refine zU ?_)); simp only [Tryd.results31, go_sem, ↓reduceIte, reduceCtorEq, Nat.reduceAdd, Nat.reduceSub, Nat.reduceMul, Nat.reduceLT, Nat.reduceLeDiff, Nat.reduceEqDiff]
  exact ⟨_, _, Weak.refl _, Hp.le.refl _, rfl⟩
end Go.Proofs.YtoleejecmefogaaDoor
/- signlaw1.looped: package loop plays. -/
namespace Go.Proofs.YtoleejecmefogaaDoor
open Go
set_option linter.unusedVariables false
set_option linter.unusedSimpArgs false
set_option maxRecDepth 100000
set_option maxHeartbeats 8000000
theorem encX_weakL : ∀ (d : Nat) (t : LT), LC d t → ∀ (G : Gh) (us : List Value), RepL G (encX t) us → RepL G (encL t) us
  | 0, _, h => h.elim
  | d + 1, .mk kind item long many kids shares, hb => fun G us hu => by
    obtain ⟨b1, b2, b3, b4, b5, b6, b7, b8⟩ := hb
    rw [encX_eq] at hu
    rw [encL_eq]
    refine hu.of6 (fun _ h => h) (fun _ h => h) (fun _ h => h) (fun _ h => h) (fun x h => ?_) (fun x h => ?_)
    · have hz : ∀ y ∈ kids.map encX, y.length = 6 := fun y hy => by obtain ⟨t, _, rfl⟩ := List.mem_map.1 hy; exact encX_len t
      have hz' : ∀ y ∈ kids.map encL, y.length = 6 := fun y hy => by obtain ⟨t, _, rfl⟩ := List.mem_map.1 hy; exact encL_len t
      have key : Rep G (.row 6 (kids.map encX) none) x := by
        cases kids with
        | nil => exact Weak.nil 6 0 0 ⟨rfl, rfl⟩ G x h
        | cons y ys => exact h
      refine key.rowFlat (GLe.refl G) (by simp) hz' (RepL.flat (by simp) hz fun i a b us2 h2 => ?_)
      simp only [List.length_map] at a
      simp only [List.getElem_map] at h2 ⊢
      exact encX_weakL d _ (b8 _ (List.getElem_mem _)) G us2 h2
    · cases shares with
      | nil => exact Weak.nil 1 0 0 ⟨rfl, rfl⟩ G x h
      | cons y ys => exact h
theorem encX_weak (d : Nat) (t : LT) (hb : LC d t) : Weak (.agg (encX t)) (.agg (encL t)) := fun G v hr => by
  obtain ⟨vs, rfl, hvs⟩ := RepL.of_agg hr
  exact (encX_weakL d t hb G vs hvs).agg
def tA : LT := .mk 1 ⟨#[97]⟩ 5 0 [] []
def tB : LT := .mk 1 ⟨#[98]⟩ 7 0 [] []
def tL : LT := .mk 3 ⟨#[]⟩ 0 0 [tA, tB] []
theorem g_looped13 (h : Hp) : ACalls Tryd.prog 13 [] h (fun r _ => r = .v (.bool true)) := by
  have hLC : LC 2 tL := by
    refine ⟨by unfold NB; omega, by decide, by unfold NB; omega, by unfold NB; omega, by decide, by decide, by simp, fun k hk => ?_⟩
    simp only [List.mem_cons, List.not_mem_nil, or_false] at hk
    rcases hk with rfl | rfl
    · exact ⟨by unfold NB; omega, by decide, by unfold NB; omega, by unfold NB; omega, by decide, by decide, by simp, by simp⟩
    · exact ⟨by unfold NB; omega, by decide, by unfold NB; omega, by unfold NB; omega, by decide, by decide, by simp, by simp⟩
  have hf : faultF tL = 0 := by
    have h1 : manyF tL = 3 := by simp [tL, tA, tB, manyF_eq]
    have h2 : deepF tL = 2 := by simp [tL, tA, tB, deepF_eq]; rfl
    have ha : partF tA = 0 := by rw [tA, partF_eq]; rfl
    have hb : partF tB = 0 := by rw [tB, partF_eq]; rfl
    have h3 : partF tL = 0 := by
      rw [tL, partF_eq, List.map_cons, List.map_cons, List.map_nil, ha, hb]; rfl
    rw [faultF, h1, h2, h3]; rfl
  have hn4 : N4 2 tL := ⟨by decide, fun k hk => by
    simp only [List.mem_cons, List.not_mem_nil, or_false] at hk
    rcases hk with rfl | rfl
    · exact ⟨by decide, by simp⟩
    · exact ⟨by decide, by simp⟩⟩
  have hps0 : ps0 tL = .mk 0 [0, 0] [.mk 0 [] [], .mk 0 [] []] := by simp [tL, tA, tB, ps0_eq]
  have hp1 : passesU 2 tL 1 = (.mk 1 [1, 0] [.mk 1 [] [], .mk 0 [] []], [(⟨#[97]⟩, 5)]) := by
    show ((passU 2 tL (ps0 tL)).1, [] ++ (passU 2 tL (ps0 tL)).2) = _
    rw [hps0]; rfl
  have hp2 : passesU 2 tL 2 = (.mk 2 [1, 1] [.mk 1 [] [], .mk 1 [] []], [(⟨#[97]⟩, 5), (⟨#[98]⟩, 7)]) := by
    show ((passU 2 tL (passesU 2 tL 1).1).1, (passesU 2 tL 1).2 ++ (passU 2 tL (passesU 2 tL 1).1).2) = _
    rw [hp1]; rfl
  have hp := g_round31 2 tL h 2 hLC (by omega) hf hn4 (by omega) (by rw [hp2]; simp) (by rw [hp2]; rfl) (fun n h1 h2 => by
    have e : n = 1 := by omega
    rw [e, hp1]; rfl) (fun x hx => by
    rw [hp2] at hx
    simp only [List.mem_cons, List.not_mem_nil, or_false] at hx
    rcases hx with rfl | rfl <;> simp)
  rw [hp2] at hp
  have hpX := hp.weakArgs (args' := [.agg (encX tL)]) rfl (fun j a b => by
    simp only [List.length_cons, List.length_nil, Nat.zero_add, Nat.lt_one_iff] at a
    subst a
    exact encX_weak 2 tL hLC)
  have he : encX tL = [.v (.int .i64 3), .v (.string ⟨#[]⟩), .v (.int .i64 0), .v (.int .i64 0), .row 6 [[.v (.int .i64 1), .v (.string ⟨#[97]⟩), .v (.int .i64 5), .v (.int .i64 0), .v (.slice none 0 0), .v (.slice none 0 0)], [.v (.int .i64 1), .v (.string ⟨#[98]⟩), .v (.int .i64 7), .v (.int .i64 0), .v (.slice none 0 0), .v (.slice none 0 0)]] none, .v (.slice none 0 0)] := by
    simp [tL, tA, tB, encX_eq, nilOr]
  rw [he] at hpX
  refine acalls_of tyok Tryd.func13 rfl (by kernel_rfl) fun c => ?_; simp only [Tryd.ntmps13, List.length_cons, List.length_nil, Nat.reduceAdd, Nat.reduceSub, jnk_rep, List.cons_append, List.nil_append]
  (repeat (first | (with_reducible first | refine wB ?_ | refine wN ?_) | ((with_reducible refine wI ?_); refine wN ?_) | ((with_reducible first | refine uS (mdL [(1, 1)]) ?_ | refine uR (mdL [(1, 1)]) ?_ | refine wG ?_) <;> ((try with_reducible intro K1 hK1); simp only [go_sem, ↓reduceIte, reduceCtorEq, Nat.reduceAdd, Nat.reduceSub, Nat.reduceMul, Nat.reduceLT, Nat.reduceLeDiff, Nat.reduceEqDiff]; (try and_intros); all_goals first | (refine hK1 _ ?_; clear hK1 K1) | (intros; first | (with_reducible trivial) | omega | (simp_all <;> omega)) | skip)) | (with_reducible first | refine wQ ?_ | refine zS ?_ | refine zN ?_)))
  refine hpX.mono ?_
  rintro _ h2 rfl
  refine hK1 _ ?_; clear hK1 K1
  (repeat (first | (with_reducible first | refine wB ?_ | refine wN ?_) | ((with_reducible refine wI ?_); refine wN ?_) | ((with_reducible first | refine uS (mdL [(1, 1)]) ?_ | refine uR (mdL [(1, 1)]) ?_ | refine wG ?_) <;> ((try with_reducible intro K1 hK1); simp only [go_sem, ↓reduceIte, reduceCtorEq, Nat.reduceAdd, Nat.reduceSub, Nat.reduceMul, Nat.reduceLT, Nat.reduceLeDiff, Nat.reduceEqDiff]; (try and_intros); all_goals first | (refine hK1 _ ?_; clear hK1 K1) | (intros; first | (with_reducible trivial) | omega | (simp_all <;> omega)) | skip)) | (with_reducible first | refine wQ ?_ | refine zS ?_ | refine zN ?_)))
  refine zR ?_; (repeat (with_reducible first | refine zT ?_ | refine zU ?_)); simp only [Tryd.results13, go_sem, ↓reduceIte, reduceCtorEq, Nat.reduceAdd, Nat.reduceSub, Nat.reduceMul, Nat.reduceLT, Nat.reduceLeDiff, Nat.reduceEqDiff]
  exact ⟨_, _, Weak.refl _, Hp.le.refl _, by simp⟩
end Go.Proofs.YtoleejecmefogaaDoor
/- slices.Clone of shares and of kids. -/
namespace Go.Proofs.YtoleejecmefogaaDoor
open Go
set_option linter.unusedVariables false
set_option linter.unusedSimpArgs false
set_option maxRecDepth 100000
theorem g_cloneNil32 (h : Hp) : ACalls Tryd.prog 32 [.v (.slice none 0 0)] h (fun r h' => r = .v (.slice none 0 0) ∧ h' = h) := by
  refine acalls_of tyok Tryd.func32 rfl (by kernel_rfl) fun c => ?_; simp only [Tryd.ntmps32, List.length_cons, List.length_nil, Nat.reduceAdd, Nat.reduceSub, jnk_rep, List.cons_append, List.nil_append]
  (repeat (first | (with_reducible first | refine wB ?_ | refine wN ?_) | ((with_reducible refine wI ?_); refine wN ?_) | ((with_reducible first | refine uS (mdL [(5, 2)]) ?_ | refine uR (mdL [(5, 2)]) ?_ | refine wG ?_) <;> ((try with_reducible intro K1 hK1); simp only [go_sem, ↓reduceIte, reduceCtorEq, Nat.reduceAdd, Nat.reduceSub, Nat.reduceMul, Nat.reduceLT, Nat.reduceLeDiff, Nat.reduceEqDiff]; (try and_intros); all_goals first | (refine hK1 _ ?_; clear hK1 K1) | (intros; first | (with_reducible trivial) | omega | (simp_all <;> omega)) | skip)) | (with_reducible first | refine wQ ?_ | refine zS ?_ | refine zN ?_)))
  refine awp_cond (t := _) rfl (fun _ => ?_) (fun h1 => by cases h1)
  (repeat (first | (with_reducible first | refine wB ?_ | refine wN ?_) | ((with_reducible refine wI ?_); refine wN ?_) | ((with_reducible first | refine uS (mdL [(5, 2)]) ?_ | refine uR (mdL [(5, 2)]) ?_ | refine wG ?_) <;> ((try with_reducible intro K1 hK1); simp only [go_sem, ↓reduceIte, reduceCtorEq, Nat.reduceAdd, Nat.reduceSub, Nat.reduceMul, Nat.reduceLT, Nat.reduceLeDiff, Nat.reduceEqDiff]; (try and_intros); all_goals first | (refine hK1 _ ?_; clear hK1 K1) | (intros; first | (with_reducible trivial) | omega | (simp_all <;> omega)) | skip)) | (with_reducible first | refine wQ ?_ | refine zS ?_ | refine zN ?_)))
  refine zR ?_; (repeat (with_reducible first | refine zT ?_ | refine zU ?_)); simp only [Tryd.results32, go_sem, ↓reduceIte, reduceCtorEq, Nat.reduceAdd, Nat.reduceSub, Nat.reduceMul, Nat.reduceLT, Nat.reduceLeDiff, Nat.reduceEqDiff]
  exact ⟨_, _, Weak.refl _, Hp.le.refl _, rfl, rfl⟩
theorem g_clone32 (x : List AV) (xs : List (List AV)) (k : Option Nat) (h : Hp) (hb : xs.length ≤ 1000) : ACalls Tryd.prog 32 [.row 1 (x :: xs) k] h (fun r h' => ∃ q, h.T q = none ∧ r = .row 1 (x :: xs) (some q) ∧ h' = { h with T := upd h.T q (some (.tail (xs.length + 1))) }) := by
  refine acalls_of tyok Tryd.func32 rfl (by kernel_rfl) fun c => ?_; simp only [Tryd.ntmps32, List.length_cons, List.length_nil, Nat.reduceAdd, Nat.reduceSub, jnk_rep, List.cons_append, List.nil_append]
  (repeat (first | (with_reducible first | refine wB ?_ | refine wN ?_) | ((with_reducible refine wI ?_); refine wN ?_) | ((with_reducible first | refine uS (mdL [(5, 2)]) ?_ | refine uR (mdL [(5, 2)]) ?_ | refine wG ?_) <;> ((try with_reducible intro K1 hK1); simp only [go_sem, ↓reduceIte, reduceCtorEq, Nat.reduceAdd, Nat.reduceSub, Nat.reduceMul, Nat.reduceLT, Nat.reduceLeDiff, Nat.reduceEqDiff]; (try and_intros); all_goals first | (refine hK1 _ ?_; clear hK1 K1) | (intros; first | (with_reducible trivial) | omega | (simp_all <;> omega)) | skip)) | (with_reducible first | refine wQ ?_ | refine zS ?_ | refine zN ?_)))
  refine awp_cond (t := _) rfl (fun h1 => by cases h1) (fun _ => ?_)
  (repeat (first | (with_reducible first | refine wB ?_ | refine wN ?_) | ((with_reducible refine wI ?_); refine wN ?_) | ((with_reducible first | refine uS (mdL [(5, 2)]) ?_ | refine uR (mdL [(5, 2)]) ?_ | refine wG ?_) <;> ((try with_reducible intro K1 hK1); simp only [go_sem, ↓reduceIte, reduceCtorEq, Nat.reduceAdd, Nat.reduceSub, Nat.reduceMul, Nat.reduceLT, Nat.reduceLeDiff, Nat.reduceEqDiff]; (try and_intros); all_goals first | (refine hK1 _ ?_; clear hK1 K1) | (intros; first | (with_reducible trivial) | omega | (simp_all <;> omega)) | skip)) | (with_reducible first | refine wQ ?_ | refine zS ?_ | refine zN ?_)))
  intro q hq
  and_intros <;> first | (refine hK1 _ ?_; clear hK1 K1) | exact .inl trivial | exact True.intro | omega
  (repeat (first | (with_reducible first | refine wB ?_ | refine wN ?_) | ((with_reducible refine wI ?_); refine wN ?_) | ((with_reducible first | refine uS (mdL [(5, 2)]) ?_ | refine uR (mdL [(5, 2)]) ?_ | refine wG ?_) <;> ((try with_reducible intro K1 hK1); simp only [go_sem, ↓reduceIte, reduceCtorEq, Nat.reduceAdd, Nat.reduceSub, Nat.reduceMul, Nat.reduceLT, Nat.reduceLeDiff, Nat.reduceEqDiff]; (try and_intros); all_goals first | (refine hK1 _ ?_; clear hK1 K1) | (intros; first | (with_reducible trivial) | omega | (simp_all <;> omega)) | skip)) | (with_reducible first | refine wQ ?_ | refine zS ?_ | refine zN ?_)))
  refine zR ?_; (repeat (with_reducible first | refine zT ?_ | refine zU ?_)); simp only [Tryd.results32, go_sem, ↓reduceIte, reduceCtorEq, Nat.reduceAdd, Nat.reduceSub, Nat.reduceMul, Nat.reduceLT, Nat.reduceLeDiff, Nat.reduceEqDiff]
  exact ⟨_, _, Weak.refl _, Hp.le.refl _, q, hq, rfl, rfl⟩
theorem g_cloneNil33 (h : Hp) : ACalls Tryd.prog 33 [.v (.slice none 0 0)] h (fun r h' => r = .v (.slice none 0 0) ∧ h' = h) := by
  refine acalls_of tyok Tryd.func33 rfl (by kernel_rfl) fun c => ?_; simp only [Tryd.ntmps33, List.length_cons, List.length_nil, Nat.reduceAdd, Nat.reduceSub, jnk_rep, List.cons_append, List.nil_append]
  (repeat (first | (with_reducible first | refine wB ?_ | refine wN ?_) | ((with_reducible refine wI ?_); refine wN ?_) | ((with_reducible first | refine uS (mdL [(5, 1)]) ?_ | refine uR (mdL [(5, 1)]) ?_ | refine wG ?_) <;> ((try with_reducible intro K1 hK1); simp only [go_sem, ↓reduceIte, reduceCtorEq, Nat.reduceAdd, Nat.reduceSub, Nat.reduceMul, Nat.reduceLT, Nat.reduceLeDiff, Nat.reduceEqDiff]; (try and_intros); all_goals first | (refine hK1 _ ?_; clear hK1 K1) | (intros; first | (with_reducible trivial) | omega | (simp_all <;> omega)) | skip)) | (with_reducible first | refine wQ ?_ | refine zS ?_ | refine zN ?_)))
  refine awp_cond (t := _) rfl (fun _ => ?_) (fun h1 => by cases h1)
  (repeat (first | (with_reducible first | refine wB ?_ | refine wN ?_) | ((with_reducible refine wI ?_); refine wN ?_) | ((with_reducible first | refine uS (mdL [(5, 1)]) ?_ | refine uR (mdL [(5, 1)]) ?_ | refine wG ?_) <;> ((try with_reducible intro K1 hK1); simp only [go_sem, ↓reduceIte, reduceCtorEq, Nat.reduceAdd, Nat.reduceSub, Nat.reduceMul, Nat.reduceLT, Nat.reduceLeDiff, Nat.reduceEqDiff]; (try and_intros); all_goals first | (refine hK1 _ ?_; clear hK1 K1) | (intros; first | (with_reducible trivial) | omega | (simp_all <;> omega)) | skip)) | (with_reducible first | refine wQ ?_ | refine zS ?_ | refine zN ?_)))
  refine zR ?_; (repeat (with_reducible first | refine zT ?_ | refine zU ?_)); simp only [Tryd.results33, go_sem, ↓reduceIte, reduceCtorEq, Nat.reduceAdd, Nat.reduceSub, Nat.reduceMul, Nat.reduceLT, Nat.reduceLeDiff, Nat.reduceEqDiff]
  exact ⟨_, _, Weak.refl _, Hp.le.refl _, rfl, rfl⟩
theorem g_clone33 (x : List AV) (xs : List (List AV)) (k : Option Nat) (h : Hp) (hb : xs.length ≤ 1000) : ACalls Tryd.prog 33 [.row 6 (x :: xs) k] h (fun r h' => ∃ q, h.T q = none ∧ r = .arr 6 q (xs.length + 1) ∧ h' = { h with T := upd h.T q (some (.cont 6 (x :: xs))) }) := by
  refine acalls_of tyok Tryd.func33 rfl (by kernel_rfl) fun c => ?_; simp only [Tryd.ntmps33, List.length_cons, List.length_nil, Nat.reduceAdd, Nat.reduceSub, jnk_rep, List.cons_append, List.nil_append]
  (repeat (first | (with_reducible first | refine wB ?_ | refine wN ?_) | ((with_reducible refine wI ?_); refine wN ?_) | ((with_reducible first | refine uS (mdL [(5, 1)]) ?_ | refine uR (mdL [(5, 1)]) ?_ | refine wG ?_) <;> ((try with_reducible intro K1 hK1); simp only [go_sem, ↓reduceIte, reduceCtorEq, Nat.reduceAdd, Nat.reduceSub, Nat.reduceMul, Nat.reduceLT, Nat.reduceLeDiff, Nat.reduceEqDiff]; (try and_intros); all_goals first | (refine hK1 _ ?_; clear hK1 K1) | (intros; first | (with_reducible trivial) | omega | (simp_all <;> omega)) | skip)) | (with_reducible first | refine wQ ?_ | refine zS ?_ | refine zN ?_)))
  refine awp_cond (t := _) rfl (fun h1 => by cases h1) (fun _ => ?_)
  (repeat (first | (with_reducible first | refine wB ?_ | refine wN ?_) | ((with_reducible refine wI ?_); refine wN ?_) | ((with_reducible first | refine uS (mdL [(5, 1)]) ?_ | refine uR (mdL [(5, 1)]) ?_ | refine wG ?_) <;> ((try with_reducible intro K1 hK1); simp only [go_sem, ↓reduceIte, reduceCtorEq, Nat.reduceAdd, Nat.reduceSub, Nat.reduceMul, Nat.reduceLT, Nat.reduceLeDiff, Nat.reduceEqDiff]; (try and_intros); all_goals first | (refine hK1 _ ?_; clear hK1 K1) | (intros; first | (with_reducible trivial) | omega | (simp_all <;> omega)) | skip)) | (with_reducible first | refine wQ ?_ | refine zS ?_ | refine zN ?_)))
  intro q hq
  and_intros <;> first | (refine hK1 _ ?_; clear hK1 K1) | exact .inl trivial | exact True.intro | omega
  (repeat (first | (with_reducible first | refine wB ?_ | refine wN ?_) | ((with_reducible refine wI ?_); refine wN ?_) | ((with_reducible first | refine uS (mdL [(5, 1)]) ?_ | refine uR (mdL [(5, 1)]) ?_ | refine wG ?_) <;> ((try with_reducible intro K1 hK1); simp only [go_sem, ↓reduceIte, reduceCtorEq, Nat.reduceAdd, Nat.reduceSub, Nat.reduceMul, Nat.reduceLT, Nat.reduceLeDiff, Nat.reduceEqDiff]; (try and_intros); all_goals first | (refine hK1 _ ?_; clear hK1 K1) | (intros; first | (with_reducible trivial) | omega | (simp_all <;> omega)) | skip)) | (with_reducible first | refine wQ ?_ | refine zS ?_ | refine zN ?_)))
  refine zR ?_; (repeat (with_reducible first | refine zT ?_ | refine zU ?_)); simp only [Tryd.results33, go_sem, ↓reduceIte, reduceCtorEq, Nat.reduceAdd, Nat.reduceSub, Nat.reduceMul, Nat.reduceLT, Nat.reduceLeDiff, Nat.reduceEqDiff]
  exact ⟨_, _, Weak.refl _, Hp.le.refl _, q, hq, rfl, rfl⟩
theorem g_cloneS (xs : List Int) (h : Hp) (hb : xs.length ≤ 1000) : ACalls Tryd.prog 32 [nilOr 1 (xs.map encI)] h (fun r h' => ∃ T', (∀ k, h.T k ≠ none → T' k = h.T k) ∧ h' = ⟨h.H, T'⟩ ∧
    (r = .v (.slice none 0 0) ∨ ∃ k, h.T k = none ∧ r = .row 1 (xs.map encI) (some k) ∧ T' k = some (.tail xs.length))) := by
  cases xs with
  | nil => exact (g_cloneNil32 h).mono fun r h' ⟨e, e'⟩ => ⟨h.T, fun _ _ => rfl, e', .inl e⟩
  | cons x xs =>
    refine (g_clone32 (encI x) (xs.map encI) none h (by simp at hb ⊢; omega)).mono ?_
    rintro r h' ⟨q, hq, rfl, rfl⟩
    exact ⟨_, fun k hk => upd_other _ _ (fun e => hk (e ▸ hq)), rfl, .inr ⟨q, hq, rfl, by rw [upd_same]; simp⟩⟩
theorem g_cloneK (ts : List LT) (h : Hp) (hb : ts.length ≤ 1000) : ACalls Tryd.prog 33 [nilOr 6 (ts.map encX)] h (fun r h' => ts = [] ∧ r = .v (.slice none 0 0) ∧ h' = h ∨ ∃ q, ts ≠ [] ∧ h.T q = none ∧ r = .arr 6 q ts.length ∧ h' = { h with T := upd h.T q (some (.cont 6 (ts.map encX))) }) := by
  cases ts with
  | nil => exact (g_cloneNil33 h).mono fun r h' ⟨e, e'⟩ => .inl ⟨rfl, e, e'⟩
  | cons x xs =>
    refine (g_clone33 (encX x) (xs.map encX) none h (by simp at hb ⊢; omega)).mono ?_
    rintro r h' ⟨q, hq, rfl, rfl⟩
    exact .inr ⟨q, by simp, hq, by simp, rfl⟩
end Go.Proofs.YtoleejecmefogaaDoor
/- signmake.copied: a loop in memory of its own. -/
namespace Go.Proofs.YtoleejecmefogaaDoor
open Go
set_option linter.unusedVariables false
set_option linter.unusedSimpArgs false
set_option maxRecDepth 100000
set_option maxHeartbeats 8000000
theorem splice_all {α : Type} {xs ys : List α} (h : xs.length = ys.length) : splice xs 0 ys = ys := by simp [splice, h]
def CopI (d : Nat) (kind : Int) (item : ByteArray) (long many : Int) (kids : List LT) (shares : List Int) (r : AV) (q : Nat) (h : Hp) (g : Nat) (s : St) : Prop :=
  ∃ (j : Nat) (T2 : Nat → Option TO) (css : List (List AV)), g + j = kids.length ∧ css.length = kids.length ∧ T2 q = some (.cont 6 css) ∧ (∀ i, i < j → OLd true T2 (fun k => h.T k = none ∧ k ≠ q) d (css.getD i [])) ∧ (∀ i, j ≤ i → i < kids.length → css.getD i [] = encX (kids.getD i default)) ∧
    (∀ k, h.T k ≠ none → T2 k = h.T k) ∧ (r = .v (.slice none 0 0) ∨ ∃ k, h.T k = none ∧ r = .row 1 (shares.map encI) (some k) ∧ T2 k = some (.tail shares.length)) ∧
    s = ⟨(AV.junk :: ((.loc 0 0) :: (.loc 1 0) :: (jnk 11 ((.v (.int .i64 kids.length)) :: (.v (.int .i64 j)) :: (jnk 14 []))))),
      [[.v (.int .i64 kind), .v (.string item), .v (.int .i64 long), .v (.int .i64 many), .arr 6 q kids.length, r], [.v (.int .i64 0), .v (.string { data := #[] }), .v (.int .i64 0), .v (.int .i64 0), .v (.slice none 0 0), .v (.slice none 0 0)]], ⟨h.H, T2⟩⟩
theorem g_copied : ∀ (d : Nat) (t : LT) (h : Hp), LB d t → ACalls Tryd.prog 14 [.agg (encX t)] h (fun r h' => ∃ cs T', OLd true T' (fun k => h.T k = none) d cs ∧ (∀ k, h.T k ≠ none → T' k = h.T k) ∧ r = .agg cs ∧ h' = ⟨h.H, T'⟩)
  | 0, _, _, hb => hb.elim
  | d + 1, .mk kind item long many kids shares, h, hb => by
    obtain ⟨b1, b2, b3, b4, b5, b6, b7, b8⟩ := hb
    rw [encX_eq]
    have o1 := nilOr_one 1 (shares.map encI)
    have o2 := nilOr_one 6 (kids.map encX)
    obtain ⟨u1, u2, u3, u4, u5⟩ := o1
    unfold uside at u1; unfold unw at u2; unfold AV.noLoc at u3; unfold isOpt at u4; simp only [AV.cellsB, Value.oneCell'] at u5
    obtain ⟨v1, v2, v3, v4, v5⟩ := o2
    unfold uside at v1; unfold unw at v2; unfold AV.noLoc at v3; unfold isOpt at v4; simp only [AV.cellsB, Value.oneCell'] at v5
    refine acalls_of tyok Tryd.func14 rfl (by kernel_rfl) fun c => ?_; simp only [Tryd.ntmps14, List.length_cons, List.length_nil, Nat.reduceAdd, Nat.reduceSub, jnk_rep, List.cons_append, List.nil_append]
    (repeat (first | (with_reducible first | refine wB ?_ | refine wN ?_ | refine wT ?_) | ((with_reducible refine wI ?_); refine wN ?_) | ((first | (with_reducible first | refine uS (mdL [(1, 1), (2, 1)]) ?_ | refine uR (mdL [(1, 1), (2, 1)]) ?_ | refine wG ?_ | refine wH ?_ | refine wM ?_ ?_) | ((with_reducible refine xR ?_); refine uE 6 (mdL [(1, 1), (2, 1)]) [0, 1, 2, 3, 4, 5, 6, 7] [(8, [1], [9]), (10, [], [])] 30 rfl (by kernel_rfl) ?_)) <;> ((try with_reducible intro K1 hK1); simp only [go_sem, ↓reduceIte, reduceCtorEq, Nat.reduceAdd, Nat.reduceSub, Nat.reduceMul, Nat.reduceLT, Nat.reduceLeDiff, Nat.reduceEqDiff, u1, u2, u3, u4, u5, v1, v2, v3, v4, v5]; (try and_intros); all_goals first | (refine hK1 _ ?_; clear hK1 K1) | (intros; first | (with_reducible trivial) | omega | (simp_all <;> omega)) | skip)) | (with_reducible first | refine wQ ?_ | refine zS ?_ | refine zN ?_ | refine zX ?_ | refine zE ?_ | refine zF ?_ | refine zO (by decide) ?_ | refine zB ?_)))
    refine (g_cloneS shares _ (by omega)).mono ?_
    rintro r _ ⟨T1, hT1, rfl, hS⟩
    have o3 : OneV r := by rcases hS with rfl | ⟨k, _, rfl, _⟩ <;> exact ⟨rfl, rfl, rfl, rfl, rfl⟩
    obtain ⟨w1, w2, w3, w4, w5⟩ := o3
    unfold uside at w1; unfold unw at w2; unfold AV.noLoc at w3; unfold isOpt at w4; simp only [AV.cellsB, Value.oneCell'] at w5
    refine hK1 _ ?_; clear hK1 K1
    (repeat (first | (with_reducible first | refine wB ?_ | refine wN ?_ | refine wT ?_) | ((with_reducible refine wI ?_); refine wN ?_) | ((first | (with_reducible first | refine uS (mdL [(1, 1), (2, 1)]) ?_ | refine uR (mdL [(1, 1), (2, 1)]) ?_ | refine wG ?_ | refine wH ?_ | refine wM ?_ ?_) | ((with_reducible refine xR ?_); refine uE 6 (mdL [(1, 1), (2, 1)]) [0, 1, 2, 3, 4, 5, 6, 7] [(8, [1], [9]), (10, [], [])] 30 rfl (by kernel_rfl) ?_)) <;> ((try with_reducible intro K1 hK1); simp only [go_sem, ↓reduceIte, reduceCtorEq, Nat.reduceAdd, Nat.reduceSub, Nat.reduceMul, Nat.reduceLT, Nat.reduceLeDiff, Nat.reduceEqDiff, u1, u2, u3, u4, u5, v1, v2, v3, v4, v5, w1, w2, w3, w4, w5]; (try and_intros); all_goals first | (refine hK1 _ ?_; clear hK1 K1) | (intros; first | (with_reducible trivial) | omega | (simp_all <;> omega)) | skip)) | (with_reducible first | refine wQ ?_ | refine zS ?_ | refine zN ?_ | refine zX ?_ | refine zE ?_ | refine zF ?_ | refine zO (by decide) ?_ | refine zB ?_)))
    refine (g_cloneK kids _ (by omega)).mono ?_
    rintro r2 _ (⟨hk0, rfl, rfl⟩ | ⟨q, hq0, hq, rfl, rfl⟩)
    · refine hK1 _ ?_; clear hK1 K1
      (repeat (first | (with_reducible first | refine wB ?_ | refine wN ?_ | refine wT ?_) | ((with_reducible refine wI ?_); refine wN ?_) | ((first | (with_reducible first | refine uS (mdL [(1, 1), (2, 1)]) ?_ | refine uR (mdL [(1, 1), (2, 1)]) ?_ | refine wG ?_ | refine wH ?_ | refine wM ?_ ?_) | ((with_reducible refine xR ?_); refine uE 6 (mdL [(1, 1), (2, 1)]) [0, 1, 2, 3, 4, 5, 6, 7] [(8, [1], [9]), (10, [], [])] 30 rfl (by kernel_rfl) ?_)) <;> ((try with_reducible intro K1 hK1); simp only [go_sem, ↓reduceIte, reduceCtorEq, Nat.reduceAdd, Nat.reduceSub, Nat.reduceMul, Nat.reduceLT, Nat.reduceLeDiff, Nat.reduceEqDiff, u1, u2, u3, u4, u5, v1, v2, v3, v4, v5, w1, w2, w3, w4, w5]; (try and_intros); all_goals first | (refine hK1 _ ?_; clear hK1 K1) | (intros; first | (with_reducible trivial) | omega | (simp_all <;> omega)) | skip)) | (with_reducible first | refine wQ ?_ | refine zS ?_ | refine zN ?_ | refine zX ?_ | refine zE ?_ | refine zF ?_ | refine zO (by decide) ?_ | refine zB ?_)))
      refine awp_loopC (rl false [1, 2, 11, 2, 14]) 2 (fun g s => s = ⟨(AV.junk :: ((.loc 0 0) :: (.loc 1 0) :: (jnk 11 ((.v (.int .i64 0)) :: (.v (.int .i64 0)) :: (jnk 14 []))))),
        [[.v (.int .i64 kind), .v (.string item), .v (.int .i64 long), .v (.int .i64 many), .v (.slice none 0 0), r], [.v (.int .i64 0), .v (.string { data := #[] }), .v (.int .i64 0), .v (.int .i64 0), .v (.slice none 0 0), .v (.slice none 0 0)]], ⟨h.H, T1⟩⟩) 0 rfl ?_
      rintro n _ rfl
      (repeat (first | (with_reducible first | refine wB ?_ | refine wN ?_ | refine wT ?_) | ((with_reducible refine wI ?_); refine wN ?_) | ((first | (with_reducible first | refine uS (mdL [(1, 1), (2, 1)]) ?_ | refine uR (mdL [(1, 1), (2, 1)]) ?_ | refine wG ?_ | refine wH ?_ | refine wM ?_ ?_) | ((with_reducible refine xR ?_); refine uE 6 (mdL [(1, 1), (2, 1)]) [0, 1, 2, 3, 4, 5, 6, 7] [(8, [1], [9]), (10, [], [])] 30 rfl (by kernel_rfl) ?_)) <;> ((try with_reducible intro K1 hK1); simp only [go_sem, ↓reduceIte, reduceCtorEq, Nat.reduceAdd, Nat.reduceSub, Nat.reduceMul, Nat.reduceLT, Nat.reduceLeDiff, Nat.reduceEqDiff, u1, u2, u3, u4, u5, v1, v2, v3, v4, v5, w1, w2, w3, w4, w5]; (try and_intros); all_goals first | (refine hK1 _ ?_; clear hK1 K1) | (intros; first | (with_reducible trivial) | omega | (simp_all <;> omega)) | skip)) | (with_reducible first | refine wQ ?_ | refine zS ?_ | refine zN ?_ | refine zX ?_ | refine zE ?_ | refine zF ?_ | refine zO (by decide) ?_ | refine zB ?_)))
      refine awp_cond (t := _) rfl (fun h1 => by cases h1) (fun _ => ?_)
      (repeat (first | (with_reducible first | refine wB ?_ | refine wN ?_ | refine wT ?_) | ((with_reducible refine wI ?_); refine wN ?_) | ((first | (with_reducible first | refine uS (mdL [(1, 1), (2, 1)]) ?_ | refine uR (mdL [(1, 1), (2, 1)]) ?_ | refine wG ?_ | refine wH ?_ | refine wM ?_ ?_) | ((with_reducible refine xR ?_); refine uE 6 (mdL [(1, 1), (2, 1)]) [0, 1, 2, 3, 4, 5, 6, 7] [(8, [1], [9]), (10, [], [])] 30 rfl (by kernel_rfl) ?_)) <;> ((try with_reducible intro K1 hK1); simp only [go_sem, ↓reduceIte, reduceCtorEq, Nat.reduceAdd, Nat.reduceSub, Nat.reduceMul, Nat.reduceLT, Nat.reduceLeDiff, Nat.reduceEqDiff, u1, u2, u3, u4, u5, v1, v2, v3, v4, v5, w1, w2, w3, w4, w5]; (try and_intros); all_goals first | (refine hK1 _ ?_; clear hK1 K1) | (intros; first | (with_reducible trivial) | omega | (simp_all <;> omega)) | skip)) | (with_reducible first | refine wQ ?_ | refine zS ?_ | refine zN ?_ | refine zX ?_ | refine zE ?_ | refine zF ?_ | refine zO (by decide) ?_ | refine zB ?_)))
      refine zR ?_; (repeat (with_reducible first | refine zT ?_ | refine zU ?_)); simp only [Tryd.results14, go_sem, ↓reduceIte, reduceCtorEq, Nat.reduceAdd, Nat.reduceSub, Nat.reduceMul, Nat.reduceLT, Nat.reduceLeDiff, Nat.reduceEqDiff, u1, u2, u3, u4, u5, v1, v2, v3, v4, v5, w1, w2, w3, w4, w5]
      refine ⟨_, _, Weak.refl _, Hp.le.refl _, _, T1, ⟨kind, item, long, many, .v (.slice none 0 0), r, rfl, ⟨b1, b2, b3, b4⟩, .inl rfl, ?_⟩, hT1, rfl, rfl⟩
      rcases hS with e | ⟨k, hk, e, hk2⟩
      · exact .inl e
      · exact .inr ⟨shares, k, e, by omega, b7, fun _ => ⟨hk, hk2, b6⟩⟩
    · refine hK1 _ ?_; clear hK1 K1
      have hq : T1 q = none := hq
      (repeat (first | (with_reducible first | refine wB ?_ | refine wN ?_ | refine wT ?_) | ((with_reducible refine wI ?_); refine wN ?_) | ((first | (with_reducible first | refine uS (mdL [(1, 1), (2, 1)]) ?_ | refine uR (mdL [(1, 1), (2, 1)]) ?_ | refine wG ?_ | refine wH ?_ | refine wM ?_ ?_) | ((with_reducible refine xR ?_); refine uE 6 (mdL [(1, 1), (2, 1)]) [0, 1, 2, 3, 4, 5, 6, 7] [(8, [1], [9]), (10, [], [])] 30 rfl (by kernel_rfl) ?_)) <;> ((try with_reducible intro K1 hK1); simp only [go_sem, ↓reduceIte, reduceCtorEq, Nat.reduceAdd, Nat.reduceSub, Nat.reduceMul, Nat.reduceLT, Nat.reduceLeDiff, Nat.reduceEqDiff, u1, u2, u3, u4, u5, v1, v2, v3, v4, v5, w1, w2, w3, w4, w5]; (try and_intros); all_goals first | (refine hK1 _ ?_; clear hK1 K1) | (intros; first | (with_reducible trivial) | omega | (simp_all <;> omega)) | skip)) | (with_reducible first | refine wQ ?_ | refine zS ?_ | refine zN ?_ | refine zX ?_ | refine zE ?_ | refine zF ?_ | refine zO (by decide) ?_ | refine zB ?_)))
      refine awp_loopC (rl false [1, 2, 11, 2, 14]) 2 (fun g s => CopI d kind item long many kids shares r q h g s) kids.length ⟨0, upd T1 q (some (.cont 6 (kids.map encX))), kids.map encX, by omega, by simp, upd_same _ _ _, fun i hi => by omega, fun i _ hi => getD_encX hi, fun k hk => ?_, ?_, rfl⟩ ?_
      · have hkq : k ≠ q := fun e => by subst e; rw [hT1 k hk] at hq; exact hk hq
        rw [upd_other _ _ hkq]; exact hT1 k hk
      · rcases hS with e | ⟨k, hk, e, hk2⟩
        · exact .inl e
        · have hkq : k ≠ q := fun e => by subst e; rw [hk2] at hq; cases hq
          exact .inr ⟨k, hk, e, by rw [upd_other _ _ hkq]; exact hk2⟩
      have hq' : h.T q = none := by
        cases e : h.T q with
        | none => rfl
        | some x => have := hT1 q (by rw [e]; simp); rw [hq, e] at this; cases this
      rintro n _ ⟨j, T2, css, hnj, hcl, hTq, hdone, hrest, hTT, hS2, rfl⟩
      (repeat (first | (with_reducible first | refine wB ?_ | refine wN ?_ | refine wT ?_) | ((with_reducible refine wI ?_); refine wN ?_) | ((first | (with_reducible first | refine uS (mdL [(1, 1), (2, 1)]) ?_ | refine uR (mdL [(1, 1), (2, 1)]) ?_ | refine wG ?_ | refine wH ?_ | refine wM ?_ ?_) | ((with_reducible refine xR ?_); refine uE 6 (mdL [(1, 1), (2, 1)]) [0, 1, 2, 3, 4, 5, 6, 7] [(8, [1], [9]), (10, [], [])] 30 rfl (by kernel_rfl) ?_)) <;> ((try with_reducible intro K1 hK1); simp only [go_sem, ↓reduceIte, reduceCtorEq, Nat.reduceAdd, Nat.reduceSub, Nat.reduceMul, Nat.reduceLT, Nat.reduceLeDiff, Nat.reduceEqDiff, u1, u2, u3, u4, u5, v1, v2, v3, v4, v5, w1, w2, w3, w4, w5]; (try and_intros); all_goals first | (refine hK1 _ ?_; clear hK1 K1) | (intros; first | (with_reducible trivial) | omega | (simp_all <;> omega)) | skip)) | (with_reducible first | refine wQ ?_ | refine zS ?_ | refine zN ?_ | refine zX ?_ | refine zE ?_ | refine zF ?_ | refine zO (by decide) ?_ | refine zB ?_)))
      refine awp_cond (t := _) rfl (fun h1 => ?_) (fun h1 => ?_)
      · simp only [decide_eq_true_eq] at h1
        have hj : j < kids.length := by omega
        have hg := hrest j (Nat.le_refl _) hj
        have hm : kids.getD j default ∈ kids := by
          rw [List.getD_eq_getElem?_getD, List.getElem?_eq_getElem hj]; exact List.getElem_mem _
        generalize kids.getD j default = t2 at hg hm
        have hlen := encX_len t2
        have htk : List.take 6 (encX t2) = encX t2 := List.take_of_length_le (Nat.le_of_eq hlen)
        (repeat (first | (with_reducible first | refine wB ?_ | refine wN ?_ | refine wT ?_) | ((with_reducible refine wI ?_); refine wN ?_) | ((first | (with_reducible first | refine uS (mdL [(1, 1), (2, 1)]) ?_ | refine uR (mdL [(1, 1), (2, 1)]) ?_ | refine wG ?_ | refine wH ?_ | refine wM ?_ ?_) | ((with_reducible refine xR ?_); refine uE 6 (mdL [(1, 1), (2, 1)]) [0, 1, 2, 3, 4, 5, 6, 7] [(8, [1], [9]), (10, [], [])] 30 rfl (by kernel_rfl) ?_)) <;> ((try with_reducible intro K1 hK1); simp only [go_sem, ↓reduceIte, reduceCtorEq, Nat.reduceAdd, Nat.reduceSub, Nat.reduceMul, Nat.reduceLT, Nat.reduceLeDiff, Nat.reduceEqDiff, u1, u2, u3, u4, u5, v1, v2, v3, v4, v5, w1, w2, w3, w4, w5, hTq, hcl, Int.toNat_natCast, hg, hlen, htk]; (try and_intros); all_goals first | (refine hK1 _ ?_; clear hK1 K1) | (intros; first | (with_reducible trivial) | omega | (simp_all <;> omega)) | skip)) | (with_reducible first | refine wQ ?_ | refine zS ?_ | refine zN ?_ | refine zX ?_ | refine zE ?_ | refine zF ?_ | refine zO (by decide) ?_ | refine zB ?_)))
        refine (g_copied d t2 ⟨h.H, T2⟩ (b8 t2 hm)).mono ?_
        rintro _ _ ⟨cs, T3, hcs, hT3, rfl, rfl⟩
        refine hK1 _ ?_; clear hK1 K1
        replace hcs : OLd true T3 (fun k => T2 k = none) d cs := hcs
        replace hT3 : ∀ k, T2 k ≠ none → T3 k = T2 k := hT3
        have hT3q : T3 q = some (.cont 6 css) := by rw [hT3 q (by rw [hTq]; simp)]; exact hTq
        have hcsl := hcs.len
        have hdr : List.drop 6 (encX t2) = [] := List.drop_of_length_le (Nat.le_of_eq hlen)
        (repeat (first | (with_reducible first | refine wB ?_ | refine wN ?_ | refine wT ?_) | ((with_reducible refine wI ?_); refine wN ?_) | ((first | (with_reducible first | refine uS (mdL [(1, 1), (2, 1)]) ?_ | refine uR (mdL [(1, 1), (2, 1)]) ?_ | refine wG ?_ | refine wH ?_ | refine wM ?_ ?_) | ((with_reducible refine xR ?_); refine uE 6 (mdL [(1, 1), (2, 1)]) [0, 1, 2, 3, 4, 5, 6, 7] [(8, [1], [9]), (10, [], [])] 30 rfl (by kernel_rfl) ?_)) <;> ((try with_reducible intro K1 hK1); simp only [go_sem, ↓reduceIte, reduceCtorEq, Nat.reduceAdd, Nat.reduceSub, Nat.reduceMul, Nat.reduceLT, Nat.reduceLeDiff, Nat.reduceEqDiff, u1, u2, u3, u4, u5, v1, v2, v3, v4, v5, w1, w2, w3, w4, w5, hT3q, hcl, Int.toNat_natCast, hg, hlen, htk, hdr, hcsl]; (try and_intros); all_goals first | (refine hK1 _ ?_; clear hK1 K1) | (intros; first | (with_reducible trivial) | omega | (simp_all <;> omega)) | skip)) | (with_reducible first | refine wQ ?_ | refine zS ?_ | refine zN ?_ | refine zX ?_ | refine zE ?_ | refine zF ?_ | refine zO (by decide) ?_ | refine zB ?_)))
        refine ⟨n - 1, by omega, j + 1, upd T3 q (some (.cont 6 (css.set j cs))), css.set j cs, by omega, by simpa using hcl, upd_same _ _ _, fun i hi => ?_, fun i hi hi2 => ?_, fun k hk => ?_, ?_, ?_⟩
        · have hkeep : ∀ k, T2 k ≠ none → k ≠ q → upd T3 q (some (.cont 6 (css.set j cs))) k = T2 k := fun k hk hkq => by rw [upd_other _ _ hkq]; exact hT3 k hk
          by_cases hij : i = j
          · subst hij
            rw [List.getD_eq_getElem?_getD, List.getElem?_set_self (by omega)]
            refine (hcs.keep (T' := upd T3 q (some (.cont 6 (css.set i cs)))) (fun k hk _ => upd_other _ _ fun e => by subst e; rw [hTq] at hk; cases hk) (fun _ k m hk => by
              by_cases hkq : k = q
              · subst hkq; rw [hT3q] at hk; cases hk
              · rw [upd_other _ _ hkq]; exact hk)).more fun k hk => ⟨?_, fun e => by subst e; rw [hTq] at hk; cases hk⟩
            cases e : h.T k with
            | none => rfl
            | some x => have := hTT k (by rw [e]; simp); rw [hk, e] at this; cases this
          · rw [List.getD_eq_getElem?_getD, List.getElem?_set_ne (by omega), ← List.getD_eq_getElem?_getD]
            refine (hdone i (by omega)).keep (fun k hk ⟨x, hk2⟩ => hkeep k (by rw [hk2]; simp) hk.2) (fun _ k m hk => ?_)
            by_cases hkq : k = q
            · subst hkq; rw [hTq] at hk; cases hk
            · rw [hkeep k (by rw [hk]; simp) hkq]; exact hk
        · rw [List.getD_eq_getElem?_getD, List.getElem?_set_ne (by omega), ← List.getD_eq_getElem?_getD]
          exact hrest i (by omega) hi2
        · have hkq : k ≠ q := fun e => by subst e; exact hk hq'
          rw [upd_other _ _ hkq, hT3 k (by rw [hTT k hk]; exact hk)]; exact hTT k hk
        · rcases hS2 with e | ⟨k, hk, e, hk2⟩
          · exact .inl e
          · have hkq : k ≠ q := fun e => by subst e; rw [hk2] at hTq; cases hTq
            exact .inr ⟨k, hk, e, by rw [upd_other _ _ hkq, hT3 k (by rw [hk2]; simp)]; exact hk2⟩
        · rfl
      · (repeat (first | (with_reducible first | refine wB ?_ | refine wN ?_ | refine wT ?_) | ((with_reducible refine wI ?_); refine wN ?_) | ((first | (with_reducible first | refine uS (mdL [(1, 1), (2, 1)]) ?_ | refine uR (mdL [(1, 1), (2, 1)]) ?_ | refine wG ?_ | refine wH ?_ | refine wM ?_ ?_) | ((with_reducible refine xR ?_); refine uE 6 (mdL [(1, 1), (2, 1)]) [0, 1, 2, 3, 4, 5, 6, 7] [(8, [1], [9]), (10, [], [])] 30 rfl (by kernel_rfl) ?_)) <;> ((try with_reducible intro K1 hK1); simp only [go_sem, ↓reduceIte, reduceCtorEq, Nat.reduceAdd, Nat.reduceSub, Nat.reduceMul, Nat.reduceLT, Nat.reduceLeDiff, Nat.reduceEqDiff, u1, u2, u3, u4, u5, v1, v2, v3, v4, v5, w1, w2, w3, w4, w5]; (try and_intros); all_goals first | (refine hK1 _ ?_; clear hK1 K1) | (intros; first | (with_reducible trivial) | omega | (simp_all <;> omega)) | skip)) | (with_reducible first | refine wQ ?_ | refine zS ?_ | refine zN ?_ | refine zX ?_ | refine zE ?_ | refine zF ?_ | refine zO (by decide) ?_ | refine zB ?_)))
        refine zR ?_; (repeat (with_reducible first | refine zT ?_ | refine zU ?_)); simp only [Tryd.results14, go_sem, ↓reduceIte, reduceCtorEq, Nat.reduceAdd, Nat.reduceSub, Nat.reduceMul, Nat.reduceLT, Nat.reduceLeDiff, Nat.reduceEqDiff, u1, u2, u3, u4, u5, v1, v2, v3, v4, v5, w1, w2, w3, w4, w5]
        simp only [decide_eq_false_iff_not] at h1
        have hj : j = kids.length := by omega
        subst hj
        refine ⟨_, _, Weak.refl _, Hp.le.refl _, _, T2, ⟨kind, item, long, many, .arr 6 q kids.length, r, rfl, ⟨b1, b2, b3, b4⟩, .inr (.inl ⟨q, css, hq', hTq, by rw [hcl], by rw [hcl]; exact List.length_pos_iff.2 hq0, by omega, fun c hc => ?_⟩), ?_⟩, hTT, rfl, rfl⟩
        · obtain ⟨i, hi, rfl⟩ := List.getElem_of_mem hc
          have := hdone i (by omega)
          rw [List.getD_eq_getElem?_getD, List.getElem?_eq_getElem hi] at this
          exact this.more fun k hk => hk.1
        · rcases hS2 with e | ⟨k, hk, e, hk2⟩
          · exact .inl e
          · exact .inr ⟨shares, k, e, by omega, b7, fun _ => ⟨hk, hk2, b6⟩⟩
end Go.Proofs.YtoleejecmefogaaDoor
