/- The numbers that a stream hands out. -/
import Derived.Test.YtoleejecmefogaaDoorAvRun
import Derived.Test.YtoleejecmefogaaDoorAvTy
import Derived.Test.YtoleejecmefogaaDoorAvFz
namespace Go.Proofs.YtoleejecmefogaaDoor
open Go
set_option linter.unusedVariables false
set_option linter.unusedSimpArgs false
set_option maxRecDepth 100000
theorem a_outside (x lo hi : Int) (h : Hp) : ACalls Tryd.prog 25 [.v (.int .i64 x), .v (.int .i64 lo), .v (.int .i64 hi)] h (fun r h' => r = .v (.bool (decide (x < lo) || decide (hi < x))) ∧ h' = h) := by
  refine acalls_of tyok Tryd.func25 rfl (by kernel_rfl) fun c => ?_; simp only [Tryd.ntmps25, List.length_cons, List.length_nil, Nat.reduceAdd, Nat.reduceSub, jnk_rep, List.cons_append, List.nil_append]
  (repeat (first | (with_reducible first | refine wB ?_ | refine wN ?_) | ((with_reducible refine wI ?_); refine wN ?_) | ((with_reducible first | refine kS ?_ | refine kR ?_ | refine wG ?_) <;> ((try with_reducible intro K1 hK1); simp only [go_sem, ↓reduceIte, reduceCtorEq, Nat.reduceAdd, Nat.reduceSub, Nat.reduceMul, Nat.reduceLT, Nat.reduceLeDiff, Nat.reduceEqDiff]; (try and_intros); all_goals first | (refine hK1 _ ?_; clear hK1 K1) | (intros; first | (with_reducible trivial) | omega | (simp_all <;> omega)) | skip)) | (with_reducible first | refine wQ ?_ | refine zS ?_ | refine zN ?_)))
  refine zR ?_; (repeat (with_reducible first | refine zT ?_ | refine zU ?_)); simp only [Tryd.results25, go_sem, ↓reduceIte, reduceCtorEq, Nat.reduceAdd, Nat.reduceSub, Nat.reduceMul, Nat.reduceLT, Nat.reduceLeDiff, Nat.reduceEqDiff]
  exact ⟨_, _, Weak.refl _, Hp.le.refl _, rfl, rfl⟩
def belowV (x n : Int) : Int := if n < 1 then 0 else x % n
theorem a_below (x n : Int) (h : Hp) (hx : -9223372036854775808 ≤ x ∧ x ≤ 9223372036854775807) (hn : n ≤ 9000000000000000000) : ACalls Tryd.prog 36 [.v (.int .i64 x), .v (.int .i64 n)] h (fun r h' => r = .v (.int .i64 (belowV x n)) ∧ h' = h) := by
  refine acalls_of tyok Tryd.func36 rfl (by kernel_rfl) fun c => ?_; simp only [Tryd.ntmps36, List.length_cons, List.length_nil, Nat.reduceAdd, Nat.reduceSub, jnk_rep, List.cons_append, List.nil_append]
  (repeat (first | (with_reducible first | refine wB ?_ | refine wN ?_) | ((with_reducible refine wI ?_); refine wN ?_) | ((with_reducible first | refine kS ?_ | refine kR ?_ | refine wG ?_) <;> ((try with_reducible intro K1 hK1); simp only [go_sem, ↓reduceIte, reduceCtorEq, Nat.reduceAdd, Nat.reduceSub, Nat.reduceMul, Nat.reduceLT, Nat.reduceLeDiff, Nat.reduceEqDiff]; (try and_intros); all_goals first | (refine hK1 _ ?_; clear hK1 K1) | (intros; first | (with_reducible trivial) | omega | (simp_all <;> omega)) | skip)) | (with_reducible first | refine wQ ?_ | refine zS ?_ | refine zN ?_)))
  refine awp_cond (t := _) rfl (fun h1 => ?_) (fun h1 => ?_)
  · (repeat (first | (with_reducible first | refine wB ?_ | refine wN ?_) | ((with_reducible refine wI ?_); refine wN ?_) | ((with_reducible first | refine kS ?_ | refine kR ?_ | refine wG ?_) <;> ((try with_reducible intro K1 hK1); simp only [go_sem, ↓reduceIte, reduceCtorEq, Nat.reduceAdd, Nat.reduceSub, Nat.reduceMul, Nat.reduceLT, Nat.reduceLeDiff, Nat.reduceEqDiff]; (try and_intros); all_goals first | (refine hK1 _ ?_; clear hK1 K1) | (intros; first | (with_reducible trivial) | omega | (simp_all <;> omega)) | skip)) | (with_reducible first | refine wQ ?_ | refine zS ?_ | refine zN ?_)))
    refine zR ?_; (repeat (with_reducible first | refine zT ?_ | refine zU ?_)); simp only [Tryd.results36, go_sem, ↓reduceIte, reduceCtorEq, Nat.reduceAdd, Nat.reduceSub, Nat.reduceMul, Nat.reduceLT, Nat.reduceLeDiff, Nat.reduceEqDiff]
    exact ⟨_, _, Weak.refl _, Hp.le.refl _, by simp only [belowV]; rw [if_pos (by simpa using h1)], rfl⟩
  · have h2 : 1 ≤ n := by simpa using h1
    (repeat (first | (with_reducible first | refine wB ?_ | refine wN ?_) | ((with_reducible refine wI ?_); refine wN ?_) | ((with_reducible first | refine kS ?_ | refine kR ?_ | refine wG ?_) <;> ((try with_reducible intro K1 hK1); simp only [go_sem, ↓reduceIte, reduceCtorEq, Nat.reduceAdd, Nat.reduceSub, Nat.reduceMul, Nat.reduceLT, Nat.reduceLeDiff, Nat.reduceEqDiff]; (try and_intros); all_goals first | (refine hK1 _ ?_; clear hK1 K1) | (intros; first | (with_reducible trivial) | omega | (simp_all <;> omega)) | skip)) | (with_reducible first | refine wQ ?_ | refine zS ?_ | refine zN ?_)))
    have e1 : x.tmod n = if 0 ≤ x ∨ n ∣ x then x % n else x % n - n := by rw [Int.tmod_eq_emod]; split <;> omega
    have m0 := Int.emod_nonneg x (show n ≠ 0 by omega)
    have m1 := Int.emod_lt_of_pos x (show 0 < n by omega)
    refine awp_cond (t := _) rfl (fun h3 => ?_) (fun h3 => ?_)
    · (repeat (first | (with_reducible first | refine wB ?_ | refine wN ?_) | ((with_reducible refine wI ?_); refine wN ?_) | ((with_reducible first | refine kS ?_ | refine kR ?_ | refine wG ?_) <;> ((try with_reducible intro K1 hK1); simp only [go_sem, ↓reduceIte, reduceCtorEq, Nat.reduceAdd, Nat.reduceSub, Nat.reduceMul, Nat.reduceLT, Nat.reduceLeDiff, Nat.reduceEqDiff]; (try and_intros); all_goals first | (refine hK1 _ ?_; clear hK1 K1) | (intros; first | (with_reducible trivial) | omega | (simp_all <;> omega)) | skip)) | (with_reducible first | refine wQ ?_ | refine zS ?_ | refine zN ?_)))
      refine zR ?_; (repeat (with_reducible first | refine zT ?_ | refine zU ?_)); simp only [Tryd.results36, go_sem, ↓reduceIte, reduceCtorEq, Nat.reduceAdd, Nat.reduceSub, Nat.reduceMul, Nat.reduceLT, Nat.reduceLeDiff, Nat.reduceEqDiff]
      exact ⟨_, _, Weak.refl _, Hp.le.refl _, by
        simp only [decide_eq_true_eq] at h3
        simp only [belowV]; rw [if_neg (by omega)]
        congr 3; rw [e1] at h3 ⊢; split at h3 <;> simp_all <;> omega, rfl⟩
    · (repeat (first | (with_reducible first | refine wB ?_ | refine wN ?_) | ((with_reducible refine wI ?_); refine wN ?_) | ((with_reducible first | refine kS ?_ | refine kR ?_ | refine wG ?_) <;> ((try with_reducible intro K1 hK1); simp only [go_sem, ↓reduceIte, reduceCtorEq, Nat.reduceAdd, Nat.reduceSub, Nat.reduceMul, Nat.reduceLT, Nat.reduceLeDiff, Nat.reduceEqDiff]; (try and_intros); all_goals first | (refine hK1 _ ?_; clear hK1 K1) | (intros; first | (with_reducible trivial) | omega | (simp_all <;> omega)) | skip)) | (with_reducible first | refine wQ ?_ | refine zS ?_ | refine zN ?_)))
      refine zR ?_; (repeat (with_reducible first | refine zT ?_ | refine zU ?_)); simp only [Tryd.results36, go_sem, ↓reduceIte, reduceCtorEq, Nat.reduceAdd, Nat.reduceSub, Nat.reduceMul, Nat.reduceLT, Nat.reduceLeDiff, Nat.reduceEqDiff]
      exact ⟨_, _, Weak.refl _, Hp.le.refl _, by
        simp only [decide_eq_false_iff_not] at h3
        simp only [belowV]; rw [if_neg (by omega)]
        congr 3; rw [e1] at h3 ⊢; split at h3 <;> simp_all <;> omega, rfl⟩
theorem belowV_bd {x n : Int} (hn : 1 ≤ n) : 0 ≤ belowV x n ∧ belowV x n < n := by
  unfold belowV; rw [if_neg (by omega)]
  exact ⟨Int.emod_nonneg x (by omega), Int.emod_lt_of_pos x (by omega)⟩
def encI (x : Int) : List AV := [.v (.int .i64 x)]
def rowI (l : List Int) : AV := .row 1 (l.map encI) none
/-- A stream of the numbers l, of which a have been handed out. -/
def strm (l : List Int) (a : Int) : AO := .cells [rowI l, .v (.int .i64 a)]
def nextV (l : List Int) (a n : Int) : Int := if l.length = 0 then belowV ((a + 1) * 7919) n else belowV (belowV (l.getD (a % l.length).toNat 0) 1073741824 + (a / l.length) * (7919 + a % l.length)) n
theorem a_next (i : Nat) (l : List Int) (a n : Int) (h : Hp) (hi : h.H i = some (strm l a)) (ha : 0 ≤ a ∧ a ≤ 1000000000) (hn : n ≤ 9000000000000000000) (hl : l.length ≤ 9223372036854775807) (hv : ∀ x ∈ l, -9223372036854775808 ≤ x ∧ x ≤ 9223372036854775807) :
    ACalls Tryd.prog 18 [.ptr i 0, .v (.int .i64 n)] h (fun r h' => r = .v (.int .i64 (nextV l a n)) ∧ h' = { h with H := upd h.H i (some (strm l (a + 1))) }) := by
  refine acalls_of tyok Tryd.func18 rfl (by kernel_rfl) fun c => ?_; simp only [Tryd.ntmps18, List.length_cons, List.length_nil, Nat.reduceAdd, Nat.reduceSub, jnk_rep, List.cons_append, List.nil_append]
  (repeat (first | (with_reducible first | refine wB ?_ | refine wN ?_ | refine wT ?_) | ((with_reducible refine wI ?_); refine wN ?_) | ((first | (with_reducible first | refine kS ?_ | refine kR ?_ | refine wG ?_ | refine wH ?_ | refine wM ?_ ?_) | ((with_reducible refine xS ?_); refine uD 4 (mdL []) [0, 1, 2, 3, 4, 5, 6, 7, 8, 9, 10, 11] [] 64 rfl (by kernel_rfl) ?_) | ((with_reducible refine xS ?_); refine uD 5 (mdL []) [0, 1, 2, 3, 4, 5, 6, 7, 8, 9, 10, 11] [] 64 rfl (by kernel_rfl) ?_)) <;> ((try with_reducible intro K1 hK1); simp only [go_sem, ↓reduceIte, reduceCtorEq, Nat.reduceAdd, Nat.reduceSub, Nat.reduceMul, Nat.reduceLT, Nat.reduceLeDiff, Nat.reduceEqDiff, hi, strm, rowI]; (try and_intros); all_goals first | (refine hK1 _ ?_; clear hK1 K1) | (intros; first | (with_reducible trivial) | omega | (simp_all <;> omega)) | skip)) | (with_reducible first | refine wQ ?_ | refine zS ?_ | refine zN ?_)))
  refine awp_cond (t := _) rfl (fun h1 => ?_) (fun h1 => ?_)
  · have h0 : l.length = 0 := by simpa using h1
    (repeat (first | (with_reducible first | refine wB ?_ | refine wN ?_ | refine wT ?_) | ((with_reducible refine wI ?_); refine wN ?_) | ((first | (with_reducible first | refine kS ?_ | refine kR ?_ | refine wG ?_ | refine wH ?_ | refine wM ?_ ?_) | ((with_reducible refine xS ?_); refine uD 4 (mdL []) [0, 1, 2, 3, 4, 5, 6, 7, 8, 9, 10, 11] [] 64 rfl (by kernel_rfl) ?_) | ((with_reducible refine xS ?_); refine uD 5 (mdL []) [0, 1, 2, 3, 4, 5, 6, 7, 8, 9, 10, 11] [] 64 rfl (by kernel_rfl) ?_)) <;> ((try with_reducible intro K1 hK1); simp only [go_sem, ↓reduceIte, reduceCtorEq, Nat.reduceAdd, Nat.reduceSub, Nat.reduceMul, Nat.reduceLT, Nat.reduceLeDiff, Nat.reduceEqDiff]; (try and_intros); all_goals first | (refine hK1 _ ?_; clear hK1 K1) | (intros; first | (with_reducible trivial) | omega | (simp_all <;> omega)) | skip)) | (with_reducible first | refine wQ ?_ | refine zS ?_ | refine zN ?_)))
    refine (a_below ((a + 1) * 7919) n _ (by omega) hn).mono ?_; rintro _ _ ⟨rfl, rfl⟩; refine hK1 _ ?_; clear hK1 K1
    (repeat (first | (with_reducible first | refine wB ?_ | refine wN ?_ | refine wT ?_) | ((with_reducible refine wI ?_); refine wN ?_) | ((first | (with_reducible first | refine kS ?_ | refine kR ?_ | refine wG ?_ | refine wH ?_ | refine wM ?_ ?_) | ((with_reducible refine xS ?_); refine uD 4 (mdL []) [0, 1, 2, 3, 4, 5, 6, 7, 8, 9, 10, 11] [] 64 rfl (by kernel_rfl) ?_) | ((with_reducible refine xS ?_); refine uD 5 (mdL []) [0, 1, 2, 3, 4, 5, 6, 7, 8, 9, 10, 11] [] 64 rfl (by kernel_rfl) ?_)) <;> ((try with_reducible intro K1 hK1); simp only [go_sem, ↓reduceIte, reduceCtorEq, Nat.reduceAdd, Nat.reduceSub, Nat.reduceMul, Nat.reduceLT, Nat.reduceLeDiff, Nat.reduceEqDiff]; (try and_intros); all_goals first | (refine hK1 _ ?_; clear hK1 K1) | (intros; first | (with_reducible trivial) | omega | (simp_all <;> omega)) | skip)) | (with_reducible first | refine wQ ?_ | refine zS ?_ | refine zN ?_)))
    refine zR ?_; (repeat (with_reducible first | refine zT ?_ | refine zU ?_)); simp only [Tryd.results18, go_sem, ↓reduceIte, reduceCtorEq, Nat.reduceAdd, Nat.reduceSub, Nat.reduceMul, Nat.reduceLT, Nat.reduceLeDiff, Nat.reduceEqDiff]
    exact ⟨_, _, Weak.refl _, Hp.le.refl _, by simp only [nextV]; rw [if_pos h0], rfl⟩
  · have h0 : l.length ≠ 0 := by simpa using h1
    have hq : a.tdiv l.length = a / l.length := Int.tdiv_eq_ediv_of_nonneg ha.1
    have hr : a.tmod l.length = a % l.length := Int.tmod_eq_emod_of_nonneg ha.1
    have q0 : 0 ≤ a / (l.length : Int) := Int.ediv_nonneg ha.1 (by omega)
    have q1 : a / (l.length : Int) ≤ a := Int.ediv_le_self _ ha.1
    have r0 := Int.emod_nonneg a (show (l.length : Int) ≠ 0 by omega)
    have r1 := Int.emod_lt_of_pos a (show (0 : Int) < l.length by omega)
    have r2 : a % (l.length : Int) ≤ a := by
      have := Int.emod_add_mul_ediv a l.length
      have := Int.mul_nonneg (show (0 : Int) ≤ l.length by omega) q0
      omega
    have hg := getD_enc encI l (a % (l.length : Int)).toNat 0 (by omega)
    have hx : -9223372036854775808 ≤ l.getD (a % (l.length : Int)).toNat 0 ∧ l.getD (a % (l.length : Int)).toNat 0 ≤ 9223372036854775807 := by
      rw [List.getD_eq_getElem?_getD, List.getElem?_eq_getElem (show (a % (l.length : Int)).toNat < l.length by omega)]
      exact hv _ (List.getElem_mem _)
    have hm0 : 0 ≤ a / (l.length : Int) * (7919 + a % l.length) := Int.mul_nonneg q0 (by omega)
    have hm1 : a / (l.length : Int) * (7919 + a % l.length) ≤ 7920 * a := by
      have e1 : a / (l.length : Int) * (7919 + a % l.length) = 7919 * (a / l.length) + a / l.length * (a % l.length) := by rw [Int.mul_add, Int.mul_comm _ 7919]
      have e2 : a / (l.length : Int) * (a % l.length) ≤ a / l.length * l.length := Int.mul_le_mul_of_nonneg_left (by omega) q0
      have e3 : a / (l.length : Int) * l.length ≤ a := Int.ediv_mul_le a (by omega)
      omega
    have hb := belowV_bd (x := l.getD (a % (l.length : Int)).toNat 0) (n := 1073741824) (by omega)
    (repeat (first | (with_reducible first | refine wB ?_ | refine wN ?_ | refine wT ?_) | ((with_reducible refine wI ?_); refine wN ?_) | ((first | (with_reducible first | refine kS ?_ | refine kR ?_ | refine wG ?_ | refine wH ?_ | refine wM ?_ ?_) | ((with_reducible refine xS ?_); refine uD 4 (mdL []) [0, 1, 2, 3, 4, 5, 6, 7, 8, 9, 10, 11] [] 64 rfl (by kernel_rfl) ?_) | ((with_reducible refine xS ?_); refine uD 5 (mdL []) [0, 1, 2, 3, 4, 5, 6, 7, 8, 9, 10, 11] [] 64 rfl (by kernel_rfl) ?_)) <;> ((try with_reducible intro K1 hK1); simp only [go_sem, ↓reduceIte, reduceCtorEq, Nat.reduceAdd, Nat.reduceSub, Nat.reduceMul, Nat.reduceLT, Nat.reduceLeDiff, Nat.reduceEqDiff, hq, hr, hg, encI]; (try and_intros); all_goals first | (refine hK1 _ ?_; clear hK1 K1) | (intros; first | (with_reducible trivial) | omega | (simp_all <;> omega)) | skip)) | (with_reducible first | refine wQ ?_ | refine zS ?_ | refine zN ?_)))
    refine (a_below _ _ _ hx (by omega)).mono ?_; rintro _ _ ⟨rfl, rfl⟩; refine hK1 _ ?_; clear hK1 K1
    (repeat (first | (with_reducible first | refine wB ?_ | refine wN ?_ | refine wT ?_) | ((with_reducible refine wI ?_); refine wN ?_) | ((first | (with_reducible first | refine kS ?_ | refine kR ?_ | refine wG ?_ | refine wH ?_ | refine wM ?_ ?_) | ((with_reducible refine xS ?_); refine uD 4 (mdL []) [0, 1, 2, 3, 4, 5, 6, 7, 8, 9, 10, 11] [] 64 rfl (by kernel_rfl) ?_) | ((with_reducible refine xS ?_); refine uD 5 (mdL []) [0, 1, 2, 3, 4, 5, 6, 7, 8, 9, 10, 11] [] 64 rfl (by kernel_rfl) ?_)) <;> ((try with_reducible intro K1 hK1); simp only [go_sem, ↓reduceIte, reduceCtorEq, Nat.reduceAdd, Nat.reduceSub, Nat.reduceMul, Nat.reduceLT, Nat.reduceLeDiff, Nat.reduceEqDiff]; (try and_intros); all_goals first | (refine hK1 _ ?_; clear hK1 K1) | (intros; first | (with_reducible trivial) | omega | (simp_all <;> omega)) | skip)) | (with_reducible first | refine wQ ?_ | refine zS ?_ | refine zN ?_)))
    refine (a_below _ _ _ (by omega) hn).mono ?_; rintro _ _ ⟨rfl, rfl⟩; refine hK1 _ ?_; clear hK1 K1
    (repeat (first | (with_reducible first | refine wB ?_ | refine wN ?_ | refine wT ?_) | ((with_reducible refine wI ?_); refine wN ?_) | ((first | (with_reducible first | refine kS ?_ | refine kR ?_ | refine wG ?_ | refine wH ?_ | refine wM ?_ ?_) | ((with_reducible refine xS ?_); refine uD 4 (mdL []) [0, 1, 2, 3, 4, 5, 6, 7, 8, 9, 10, 11] [] 64 rfl (by kernel_rfl) ?_) | ((with_reducible refine xS ?_); refine uD 5 (mdL []) [0, 1, 2, 3, 4, 5, 6, 7, 8, 9, 10, 11] [] 64 rfl (by kernel_rfl) ?_)) <;> ((try with_reducible intro K1 hK1); simp only [go_sem, ↓reduceIte, reduceCtorEq, Nat.reduceAdd, Nat.reduceSub, Nat.reduceMul, Nat.reduceLT, Nat.reduceLeDiff, Nat.reduceEqDiff]; (try and_intros); all_goals first | (refine hK1 _ ?_; clear hK1 K1) | (intros; first | (with_reducible trivial) | omega | (simp_all <;> omega)) | skip)) | (with_reducible first | refine wQ ?_ | refine zS ?_ | refine zN ?_)))
    refine zR ?_; (repeat (with_reducible first | refine zT ?_ | refine zU ?_)); simp only [Tryd.results18, go_sem, ↓reduceIte, reduceCtorEq, Nat.reduceAdd, Nat.reduceSub, Nat.reduceMul, Nat.reduceLT, Nat.reduceLeDiff, Nat.reduceEqDiff]
    exact ⟨_, _, Weak.refl _, Hp.le.refl _, by simp only [nextV]; rw [if_neg h0], rfl⟩
end Go.Proofs.YtoleejecmefogaaDoor
/- Makers of numbers and of strings out of a stream. -/
namespace Go.Proofs.YtoleejecmefogaaDoor
open Go
set_option linter.unusedVariables false
set_option linter.unusedSimpArgs false
set_option maxRecDepth 100000
def SOk (l : List Int) : Prop := l.length ≤ 9223372036854775807 ∧ ∀ x ∈ l, -9223372036854775808 ≤ x ∧ x ≤ 9223372036854775807
/-- The heap, the stream i at a. -/
def Hp.st (h : Hp) (i : Nat) (l : List Int) (a : Int) : Hp := { h with H := upd h.H i (some (strm l a)) }
theorem st_at (h : Hp) (i : Nat) (l : List Int) (a : Int) : (h.st i l a).H i = some (strm l a) := upd_same _ _ _
theorem st_st (h : Hp) (i : Nat) (l : List Int) (a b : Int) : (h.st i l a).st i l b = h.st i l b := by
  simp only [Hp.st]
  congr 1
  exact upd_upd _ _ _ _
theorem st_T (h : Hp) (i : Nat) (l : List Int) (a : Int) : (h.st i l a).T = h.T := rfl
theorem st_of {h : Hp} {i : Nat} {l : List Int} {a : Int} (e : h.H i = some (strm l a)) : h = h.st i l a := by
  cases h with
  | mk H T =>
    simp only [Hp.st]
    congr 1
    funext j
    by_cases hj : j = i
    · subst hj; rw [upd_same]; exact e
    · rw [upd_other _ _ hj]
theorem nextV_bd {l : List Int} {a n : Int} (hn : 1 ≤ n) : 0 ≤ nextV l a n ∧ nextV l a n < n := by
  unfold nextV; split <;> exact belowV_bd hn
theorem g_next (i : Nat) (l : List Int) (a n : Int) (h : Hp) (hl : SOk l) (ha : 0 ≤ a ∧ a ≤ 1000000000) (hn : 1 ≤ n ∧ n ≤ 9000000000000000000) :
    ACalls Tryd.prog 18 [.ptr i 0, .v (.int .i64 n)] (h.st i l a) (fun r h' => ∃ x : Int, (0 ≤ x ∧ x < n) ∧ r = .v (.int .i64 x) ∧ h' = h.st i l (a + 1)) :=
  (a_next i l a n (h.st i l a) (st_at _ _ _ _) ha hn.2 hl.1 hl.2).mono fun r h' ⟨e, e2⟩ => ⟨nextV l a n, nextV_bd hn.1, e, e2.trans (st_st _ _ _ _ _)⟩
theorem g_flip (i : Nat) (l : List Int) (a n : Int) (h : Hp) (hl : SOk l) (ha : 0 ≤ a ∧ a ≤ 1000000000) (hn : 1 ≤ n ∧ n ≤ 9000000000000000000) :
    ACalls Tryd.prog 16 [.ptr i 0, .v (.int .i64 n)] (h.st i l a) (fun r h' => ∃ b : Bool, r = .v (.bool b) ∧ h' = h.st i l (a + 1)) := by
  refine acalls_of tyok Tryd.func16 rfl (by kernel_rfl) fun c => ?_; simp only [Tryd.ntmps16, List.length_cons, List.length_nil, Nat.reduceAdd, Nat.reduceSub, jnk_rep, List.cons_append, List.nil_append]
  (repeat (first | (with_reducible first | refine wB ?_ | refine wN ?_) | ((with_reducible refine wI ?_); refine wN ?_) | ((with_reducible first | refine kS ?_ | refine kR ?_ | refine wG ?_) <;> ((try with_reducible intro K1 hK1); simp only [go_sem, ↓reduceIte, reduceCtorEq, Nat.reduceAdd, Nat.reduceSub, Nat.reduceMul, Nat.reduceLT, Nat.reduceLeDiff, Nat.reduceEqDiff]; (try and_intros); all_goals first | (refine hK1 _ ?_; clear hK1 K1) | (intros; first | (with_reducible trivial) | omega | (simp_all <;> omega)) | skip)) | (with_reducible first | refine wQ ?_ | refine zS ?_ | refine zN ?_)))
  refine (g_next i l a n h hl ha hn).mono ?_; rintro _ _ ⟨x, hx, rfl, rfl⟩; refine hK1 _ ?_; clear hK1 K1
  (repeat (first | (with_reducible first | refine wB ?_ | refine wN ?_) | ((with_reducible refine wI ?_); refine wN ?_) | ((with_reducible first | refine kS ?_ | refine kR ?_ | refine wG ?_) <;> ((try with_reducible intro K1 hK1); simp only [go_sem, ↓reduceIte, reduceCtorEq, Nat.reduceAdd, Nat.reduceSub, Nat.reduceMul, Nat.reduceLT, Nat.reduceLeDiff, Nat.reduceEqDiff]; (try and_intros); all_goals first | (refine hK1 _ ?_; clear hK1 K1) | (intros; first | (with_reducible trivial) | omega | (simp_all <;> omega)) | skip)) | (with_reducible first | refine wQ ?_ | refine zS ?_ | refine zN ?_)))
  refine zR ?_; (repeat (with_reducible first | refine zT ?_ | refine zU ?_)); simp only [Tryd.results16, go_sem, ↓reduceIte, reduceCtorEq, Nat.reduceAdd, Nat.reduceSub, Nat.reduceMul, Nat.reduceLT, Nat.reduceLeDiff, Nat.reduceEqDiff]
  exact ⟨_, _, Weak.refl _, Hp.le.refl _, _, rfl, rfl⟩
theorem g_range (i : Nat) (l : List Int) (a lo hi : Int) (h : Hp) (hl : SOk l) (ha : 0 ≤ a ∧ a ≤ 1000000000) (h1 : -4000000000000000000 ≤ lo) (h2 : lo ≤ hi) (h3 : hi ≤ 4000000000000000000) :
    ACalls Tryd.prog 35 [.ptr i 0, .v (.int .i64 lo), .v (.int .i64 hi)] (h.st i l a) (fun r h' => ∃ x : Int, (lo ≤ x ∧ x ≤ hi) ∧ r = .v (.int .i64 x) ∧ h' = h.st i l (a + 1)) := by
  refine acalls_of tyok Tryd.func35 rfl (by kernel_rfl) fun c => ?_; simp only [Tryd.ntmps35, List.length_cons, List.length_nil, Nat.reduceAdd, Nat.reduceSub, jnk_rep, List.cons_append, List.nil_append]
  (repeat (first | (with_reducible first | refine wB ?_ | refine wN ?_) | ((with_reducible refine wI ?_); refine wN ?_) | ((with_reducible first | refine kS ?_ | refine kR ?_ | refine wG ?_) <;> ((try with_reducible intro K1 hK1); simp only [go_sem, ↓reduceIte, reduceCtorEq, Nat.reduceAdd, Nat.reduceSub, Nat.reduceMul, Nat.reduceLT, Nat.reduceLeDiff, Nat.reduceEqDiff]; (try and_intros); all_goals first | (refine hK1 _ ?_; clear hK1 K1) | (intros; first | (with_reducible trivial) | omega | (simp_all <;> omega)) | skip)) | (with_reducible first | refine wQ ?_ | refine zS ?_ | refine zN ?_)))
  refine awp_cond (t := _) rfl (fun h4 => ?_) (fun h4 => ?_)
  · exfalso; simp only [decide_eq_true_eq] at h4; omega
  · (repeat (first | (with_reducible first | refine wB ?_ | refine wN ?_) | ((with_reducible refine wI ?_); refine wN ?_) | ((with_reducible first | refine kS ?_ | refine kR ?_ | refine wG ?_) <;> ((try with_reducible intro K1 hK1); simp only [go_sem, ↓reduceIte, reduceCtorEq, Nat.reduceAdd, Nat.reduceSub, Nat.reduceMul, Nat.reduceLT, Nat.reduceLeDiff, Nat.reduceEqDiff]; (try and_intros); all_goals first | (refine hK1 _ ?_; clear hK1 K1) | (intros; first | (with_reducible trivial) | omega | (simp_all <;> omega)) | skip)) | (with_reducible first | refine wQ ?_ | refine zS ?_ | refine zN ?_)))
    refine (g_next i l a (hi - lo + 1) h hl ha (by omega)).mono ?_; rintro _ _ ⟨x, hx, rfl, rfl⟩; refine hK1 _ ?_; clear hK1 K1
    (repeat (first | (with_reducible first | refine wB ?_ | refine wN ?_) | ((with_reducible refine wI ?_); refine wN ?_) | ((with_reducible first | refine kS ?_ | refine kR ?_ | refine wG ?_) <;> ((try with_reducible intro K1 hK1); simp only [go_sem, ↓reduceIte, reduceCtorEq, Nat.reduceAdd, Nat.reduceSub, Nat.reduceMul, Nat.reduceLT, Nat.reduceLeDiff, Nat.reduceEqDiff]; (try and_intros); all_goals first | (refine hK1 _ ?_; clear hK1 K1) | (intros; first | (with_reducible trivial) | omega | (simp_all <;> omega)) | skip)) | (with_reducible first | refine wQ ?_ | refine zS ?_ | refine zN ?_)))
    refine zR ?_; (repeat (with_reducible first | refine zT ?_ | refine zU ?_)); simp only [Tryd.results35, go_sem, ↓reduceIte, reduceCtorEq, Nat.reduceAdd, Nat.reduceSub, Nat.reduceMul, Nat.reduceLT, Nat.reduceLeDiff, Nat.reduceEqDiff]
    exact ⟨_, _, Weak.refl _, Hp.le.refl _, lo + x, by omega, rfl, rfl⟩
theorem getD_mem {l : List Int} {x : Int} (h : 0 ≤ x ∧ x < l.length) : l.getD x.toNat 0 ∈ l := by
  rw [List.getD_eq_getElem?_getD, List.getElem?_eq_getElem (show x.toNat < l.length by omega)]
  exact List.getElem_mem _
theorem g_pick (i : Nat) (l : List Int) (a : Int) (ps : List Int) (k : Option Nat) (h : Hp) (hl : SOk l) (ha : 0 ≤ a ∧ a ≤ 1000000000) (hp : 1 ≤ ps.length ∧ ps.length ≤ 100) :
    ACalls Tryd.prog 5 [.ptr i 0, .row 1 (ps.map encI) k] (h.st i l a) (fun r h' => ∃ x ∈ ps, r = .v (.int .i64 x) ∧ h' = h.st i l (a + 1)) := by
  refine acalls_of tyok Tryd.func5 rfl (by kernel_rfl) fun c => ?_; simp only [Tryd.ntmps5, List.length_cons, List.length_nil, Nat.reduceAdd, Nat.reduceSub, jnk_rep, List.cons_append, List.nil_append]
  (repeat (first | (with_reducible first | refine wB ?_ | refine wN ?_) | ((with_reducible refine wI ?_); refine wN ?_) | ((with_reducible first | refine kS ?_ | refine kR ?_ | refine wG ?_) <;> ((try with_reducible intro K1 hK1); simp only [go_sem, ↓reduceIte, reduceCtorEq, Nat.reduceAdd, Nat.reduceSub, Nat.reduceMul, Nat.reduceLT, Nat.reduceLeDiff, Nat.reduceEqDiff]; (try and_intros); all_goals first | (refine hK1 _ ?_; clear hK1 K1) | (intros; first | (with_reducible trivial) | omega | (simp_all <;> omega)) | skip)) | (with_reducible first | refine wQ ?_ | refine zS ?_ | refine zN ?_)))
  refine (g_next i l a ps.length h hl ha (by omega)).mono ?_; rintro _ _ ⟨x, hx, rfl, rfl⟩; refine hK1 _ ?_; clear hK1 K1
  have hg := getD_enc encI ps x.toNat 0 (by omega)
  (repeat (first | (with_reducible first | refine wB ?_ | refine wN ?_) | ((with_reducible refine wI ?_); refine wN ?_) | ((with_reducible first | refine kS ?_ | refine kR ?_ | refine wG ?_) <;> ((try with_reducible intro K1 hK1); simp only [go_sem, ↓reduceIte, reduceCtorEq, Nat.reduceAdd, Nat.reduceSub, Nat.reduceMul, Nat.reduceLT, Nat.reduceLeDiff, Nat.reduceEqDiff, hg, encI]; (try and_intros); all_goals first | (refine hK1 _ ?_; clear hK1 K1) | (intros; first | (with_reducible trivial) | omega | (simp_all <;> omega)) | skip)) | (with_reducible first | refine wQ ?_ | refine zS ?_ | refine zN ?_)))
  refine zR ?_; (repeat (with_reducible first | refine zT ?_ | refine zU ?_)); simp only [Tryd.results5, go_sem, ↓reduceIte, reduceCtorEq, Nat.reduceAdd, Nat.reduceSub, Nat.reduceMul, Nat.reduceLT, Nat.reduceLeDiff, Nat.reduceEqDiff]
  exact ⟨_, _, Weak.refl _, Hp.le.refl _, _, getD_mem hx, rfl, rfl⟩
def encS (x : ByteArray) : List AV := [.v (.string x)]
theorem getD_memS {l : List ByteArray} {x : Int} (h : 0 ≤ x ∧ x < l.length) (d : ByteArray) : l.getD x.toNat d ∈ l := by
  rw [List.getD_eq_getElem?_getD, List.getElem?_eq_getElem (show x.toNat < l.length by omega)]
  exact List.getElem_mem _
theorem g_some (i : Nat) (l : List Int) (a : Int) (ps : List ByteArray) (k : Option Nat) (h : Hp) (hl : SOk l) (ha : 0 ≤ a ∧ a ≤ 1000000000) (hp : 1 ≤ ps.length ∧ ps.length ≤ 100) :
    ACalls Tryd.prog 20 [.ptr i 0, .row 1 (ps.map encS) k] (h.st i l a) (fun r h' => ∃ x ∈ ps, r = .v (.string x) ∧ h' = h.st i l (a + 1)) := by
  refine acalls_of tyok Tryd.func20 rfl (by kernel_rfl) fun c => ?_; simp only [Tryd.ntmps20, List.length_cons, List.length_nil, Nat.reduceAdd, Nat.reduceSub, jnk_rep, List.cons_append, List.nil_append]
  (repeat (first | (with_reducible first | refine wB ?_ | refine wN ?_) | ((with_reducible refine wI ?_); refine wN ?_) | ((with_reducible first | refine kS ?_ | refine kR ?_ | refine wG ?_) <;> ((try with_reducible intro K1 hK1); simp only [go_sem, ↓reduceIte, reduceCtorEq, Nat.reduceAdd, Nat.reduceSub, Nat.reduceMul, Nat.reduceLT, Nat.reduceLeDiff, Nat.reduceEqDiff]; (try and_intros); all_goals first | (refine hK1 _ ?_; clear hK1 K1) | (intros; first | (with_reducible trivial) | omega | (simp_all <;> omega)) | skip)) | (with_reducible first | refine wQ ?_ | refine zS ?_ | refine zN ?_)))
  refine (g_next i l a ps.length h hl ha (by omega)).mono ?_; rintro _ _ ⟨x, hx, rfl, rfl⟩; refine hK1 _ ?_; clear hK1 K1
  have hg := getD_enc encS ps x.toNat default (by omega)
  (repeat (first | (with_reducible first | refine wB ?_ | refine wN ?_) | ((with_reducible refine wI ?_); refine wN ?_) | ((with_reducible first | refine kS ?_ | refine kR ?_ | refine wG ?_) <;> ((try with_reducible intro K1 hK1); simp only [go_sem, ↓reduceIte, reduceCtorEq, Nat.reduceAdd, Nat.reduceSub, Nat.reduceMul, Nat.reduceLT, Nat.reduceLeDiff, Nat.reduceEqDiff, hg, encS]; (try and_intros); all_goals first | (refine hK1 _ ?_; clear hK1 K1) | (intros; first | (with_reducible trivial) | omega | (simp_all <;> omega)) | skip)) | (with_reducible first | refine wQ ?_ | refine zS ?_ | refine zN ?_)))
  refine zR ?_; (repeat (with_reducible first | refine zT ?_ | refine zU ?_)); simp only [Tryd.results20, go_sem, ↓reduceIte, reduceCtorEq, Nat.reduceAdd, Nat.reduceSub, Nat.reduceMul, Nat.reduceLT, Nat.reduceLeDiff, Nat.reduceEqDiff]
  exact ⟨_, _, Weak.refl _, Hp.le.refl _, _, getD_memS hx _, rfl, rfl⟩
theorem g_odd (i : Nat) (l : List Int) (a lo hi : Int) (h : Hp) (hl : SOk l) (ha : 0 ≤ a ∧ a ≤ 900000000) (h1 : -4000000000000000 ≤ lo) (h2 : lo ≤ hi) (h3 : hi ≤ 4000000000000000) :
    ACalls Tryd.prog 19 [.ptr i 0, .v (.int .i64 lo), .v (.int .i64 hi)] (h.st i l a) (fun r h' => ∃ x a' : Int, (-5000000000000000 ≤ x ∧ x ≤ 5000000000000000) ∧ (a ≤ a' ∧ a' ≤ a + 2) ∧ r = .v (.int .i64 x) ∧ h' = h.st i l a') := by
  refine acalls_of tyok Tryd.func19 rfl (by kernel_rfl) fun c => ?_; simp only [Tryd.ntmps19, List.length_cons, List.length_nil, Nat.reduceAdd, Nat.reduceSub, jnk_rep, List.cons_append, List.nil_append]
  (repeat (first | (with_reducible first | refine wB ?_ | refine wN ?_) | ((with_reducible refine wI ?_); refine wN ?_) | ((with_reducible first | refine kS ?_ | refine kR ?_ | refine wG ?_) <;> ((try with_reducible intro K1 hK1); simp only [go_sem, ↓reduceIte, reduceCtorEq, Nat.reduceAdd, Nat.reduceSub, Nat.reduceMul, Nat.reduceLT, Nat.reduceLeDiff, Nat.reduceEqDiff]; (try and_intros); all_goals first | (refine hK1 _ ?_; clear hK1 K1) | (intros; first | (with_reducible trivial) | omega | (simp_all <;> omega)) | skip)) | (with_reducible first | refine wQ ?_ | refine zS ?_ | refine zN ?_)))
  refine (g_flip i l a 12 h hl (by omega) (by omega)).mono ?_; rintro _ _ ⟨b, rfl, rfl⟩; refine hK1 _ ?_; clear hK1 K1
  (repeat (first | (with_reducible first | refine wB ?_ | refine wN ?_) | ((with_reducible refine wI ?_); refine wN ?_) | ((with_reducible first | refine kS ?_ | refine kR ?_ | refine wG ?_) <;> ((try with_reducible intro K1 hK1); simp only [go_sem, ↓reduceIte, reduceCtorEq, Nat.reduceAdd, Nat.reduceSub, Nat.reduceMul, Nat.reduceLT, Nat.reduceLeDiff, Nat.reduceEqDiff]; (try and_intros); all_goals first | (refine hK1 _ ?_; clear hK1 K1) | (intros; first | (with_reducible trivial) | omega | (simp_all <;> omega)) | skip)) | (with_reducible first | refine wQ ?_ | refine zS ?_ | refine zN ?_)))
  refine awp_cond (t := _) rfl (fun h4 => ?_) (fun h4 => ?_)
  · (repeat (first | (with_reducible first | refine wB ?_ | refine wN ?_) | ((with_reducible refine wI ?_); refine wN ?_) | ((with_reducible first | refine kS ?_ | refine kR ?_ | refine wG ?_) <;> ((try with_reducible intro K1 hK1); simp only [go_sem, ↓reduceIte, reduceCtorEq, Nat.reduceAdd, Nat.reduceSub, Nat.reduceMul, Nat.reduceLT, Nat.reduceLeDiff, Nat.reduceEqDiff]; (try and_intros); all_goals first | (refine hK1 _ ?_; clear hK1 K1) | (intros; first | (with_reducible trivial) | omega | (simp_all <;> omega)) | skip)) | (with_reducible first | refine wQ ?_ | refine zS ?_ | refine zN ?_)))
    refine (g_pick i l (a + 1) [lo - 1, hi + 1, lo, hi, -1099511627776, 1099511627776] none h hl (by omega) (by simp)).mono ?_; rintro _ _ ⟨x, hx, rfl, rfl⟩; refine hK1 _ ?_; clear hK1 K1
    (repeat (first | (with_reducible first | refine wB ?_ | refine wN ?_) | ((with_reducible refine wI ?_); refine wN ?_) | ((with_reducible first | refine kS ?_ | refine kR ?_ | refine wG ?_) <;> ((try with_reducible intro K1 hK1); simp only [go_sem, ↓reduceIte, reduceCtorEq, Nat.reduceAdd, Nat.reduceSub, Nat.reduceMul, Nat.reduceLT, Nat.reduceLeDiff, Nat.reduceEqDiff]; (try and_intros); all_goals first | (refine hK1 _ ?_; clear hK1 K1) | (intros; first | (with_reducible trivial) | omega | (simp_all <;> omega)) | skip)) | (with_reducible first | refine wQ ?_ | refine zS ?_ | refine zN ?_)))
    refine zR ?_; (repeat (with_reducible first | refine zT ?_ | refine zU ?_)); simp only [Tryd.results19, go_sem, ↓reduceIte, reduceCtorEq, Nat.reduceAdd, Nat.reduceSub, Nat.reduceMul, Nat.reduceLT, Nat.reduceLeDiff, Nat.reduceEqDiff]
    exact ⟨_, _, Weak.refl _, Hp.le.refl _, x, a + 1 + 1, by simp at hx; omega, by omega, rfl, rfl⟩
  · (repeat (first | (with_reducible first | refine wB ?_ | refine wN ?_) | ((with_reducible refine wI ?_); refine wN ?_) | ((with_reducible first | refine kS ?_ | refine kR ?_ | refine wG ?_) <;> ((try with_reducible intro K1 hK1); simp only [go_sem, ↓reduceIte, reduceCtorEq, Nat.reduceAdd, Nat.reduceSub, Nat.reduceMul, Nat.reduceLT, Nat.reduceLeDiff, Nat.reduceEqDiff]; (try and_intros); all_goals first | (refine hK1 _ ?_; clear hK1 K1) | (intros; first | (with_reducible trivial) | omega | (simp_all <;> omega)) | skip)) | (with_reducible first | refine wQ ?_ | refine zS ?_ | refine zN ?_)))
    refine (g_range i l (a + 1) lo hi h hl (by omega) (by omega) h2 (by omega)).mono ?_; rintro _ _ ⟨x, hx, rfl, rfl⟩; refine hK1 _ ?_; clear hK1 K1
    (repeat (first | (with_reducible first | refine wB ?_ | refine wN ?_) | ((with_reducible refine wI ?_); refine wN ?_) | ((with_reducible first | refine kS ?_ | refine kR ?_ | refine wG ?_) <;> ((try with_reducible intro K1 hK1); simp only [go_sem, ↓reduceIte, reduceCtorEq, Nat.reduceAdd, Nat.reduceSub, Nat.reduceMul, Nat.reduceLT, Nat.reduceLeDiff, Nat.reduceEqDiff]; (try and_intros); all_goals first | (refine hK1 _ ?_; clear hK1 K1) | (intros; first | (with_reducible trivial) | omega | (simp_all <;> omega)) | skip)) | (with_reducible first | refine wQ ?_ | refine zS ?_ | refine zN ?_)))
    refine zR ?_; (repeat (with_reducible first | refine zT ?_ | refine zU ?_)); simp only [Tryd.results19, go_sem, ↓reduceIte, reduceCtorEq, Nat.reduceAdd, Nat.reduceSub, Nat.reduceMul, Nat.reduceLT, Nat.reduceLeDiff, Nat.reduceEqDiff]
    exact ⟨_, _, Weak.refl _, Hp.le.refl _, x, a + 1 + 1, by omega, by omega, rfl, rfl⟩
end Go.Proofs.YtoleejecmefogaaDoor
/- Loops as trees. -/
namespace Go.Proofs.YtoleejecmefogaaDoor
open Go
set_option linter.unusedVariables false
set_option linter.unusedSimpArgs false
set_option maxRecDepth 100000
inductive LT where
  | mk (kind : Int) (item : ByteArray) (long many : Int) (kids : List LT) (shares : List Int)
instance : Inhabited LT := ⟨.mk 0 default 0 0 [] []⟩
def nilOr (z : Nat) : List (List AV) → AV
  | [] => .v (.slice none 0 0)
  | x :: xs => .row z (x :: xs) none
/-- A loop's cells; what is empty is nil. -/
def encX : LT → List AV
  | .mk kind item long many kids shares => [.v (.int .i64 kind), .v (.string item), .v (.int .i64 long), .v (.int .i64 many), nilOr 6 (kids.map encX), nilOr 1 (shares.map encI)]
/-- A loop's cells; what is empty may be nil. -/
def encL : LT → List AV
  | .mk kind item long many kids shares => [.v (.int .i64 kind), .v (.string item), .v (.int .i64 long), .v (.int .i64 many), .row 6 (kids.map encL) none, .row 1 (shares.map encI) none]
theorem encX_eq (kind : Int) (item : ByteArray) (long many : Int) (kids : List LT) (shares : List Int) : encX (.mk kind item long many kids shares) = [.v (.int .i64 kind), .v (.string item), .v (.int .i64 long), .v (.int .i64 many), nilOr 6 (kids.map encX), nilOr 1 (shares.map encI)] := by rw [encX]
theorem encL_eq (kind : Int) (item : ByteArray) (long many : Int) (kids : List LT) (shares : List Int) : encL (.mk kind item long many kids shares) = [.v (.int .i64 kind), .v (.string item), .v (.int .i64 long), .v (.int .i64 many), .row 6 (kids.map encL) none, .row 1 (shares.map encI) none] := by rw [encL]
theorem encX_len (t : LT) : (encX t).length = 6 := by cases t; rw [encX_eq]; rfl
theorem encL_len (t : LT) : (encL t).length = 6 := by cases t; rw [encL_eq]; rfl
def WL (cs ds : List AV) : Prop := cs.length = ds.length ∧ ∀ j, Weak (cs.getD j .junk) (ds.getD j .junk)
theorem WL.nil : WL [] [] := ⟨rfl, fun _ => Weak.refl _⟩
theorem WL.cons {a b : AV} {cs ds : List AV} (h : Weak a b) (k : WL cs ds) : WL (a :: cs) (b :: ds) := ⟨by simp [k.1], fun j => by
  cases j with
  | zero => exact h
  | succ j => exact k.2 j⟩
theorem Weak.agg {cs ds : List AV} (h : WL cs ds) : Weak (.agg cs) (.agg ds) := fun G v hr => by
  cases hr with
  | agg _ vs u hl hu hr h1 =>
    refine .agg _ vs u (by rw [hl, h.1]) (fun j hj => hu j (by rw [h.1]; exact hj)) (fun j hj => ?_) (fun j hj => h1 j (by rw [h.1]; exact hj))
    have hj' : j < cs.length := by rw [h.1]; exact hj
    have := h.2 j G _ (by rw [List.getD_eq_getElem?_getD, List.getElem?_eq_getElem hj']; exact hr j hj')
    rwa [List.getD_eq_getElem?_getD, List.getElem?_eq_getElem hj] at this
theorem le_st {h : Hp} {T2 : Nat → Option TO} (hT : ∀ k, h.T k ≠ none → T2 k = h.T k) (i : Nat) (l : List Int) (a : Int) : Hp.le (h.st i l a) (Hp.st ⟨h.H, T2⟩ i l a) :=
  ⟨fun _ => .inr rfl, fun k => by
    by_cases hk : h.T k = none
    · exact .inl hk
    · exact .inr (hT k hk).symm⟩
theorem getD_encX {l : List LT} {k : Nat} (h : k < l.length) : (l.map encX).getD k [] = encX (l.getD k default) := getD_enc encX l k default h
def NB (x : Int) : Prop := -5000000000000000 ≤ x ∧ x ≤ 5000000000000000
/-- A small loop, of depth d at most. -/
def LB : Nat → LT → Prop
  | 0, _ => False
  | d + 1, .mk kind item long many kids shares => NB kind ∧ item.size ≤ 2 ∧ NB long ∧ NB many ∧ kids.length ≤ 3 ∧ shares.length ≤ 4 ∧ (∀ x ∈ shares, NB x) ∧ ∀ k ∈ kids, LB d k
theorem LB.mono : ∀ {d e : Nat} {t : LT}, LB d t → d ≤ e → LB e t
  | 0, _, _, h, _ => h.elim
  | d + 1, 0, _, _, h => by omega
  | d + 1, e + 1, .mk .., h, hd => ⟨h.1, h.2.1, h.2.2.1, h.2.2.2.1, h.2.2.2.2.1, h.2.2.2.2.2.1, h.2.2.2.2.2.2.1, fun k hk => (h.2.2.2.2.2.2.2 k hk).mono (by omega)⟩
end Go.Proofs.YtoleejecmefogaaDoor
/- Loops of a maker's own: they may be written, until they are done. -/
namespace Go.Proofs.YtoleejecmefogaaDoor
open Go
set_option linter.unusedVariables false
set_option linter.unusedSimpArgs false
set_option maxRecDepth 100000
/-- A value of one cell that is no object of a frame's own. -/
def OneV (r : AV) : Prop := uside r = True ∧ unw r = r ∧ r.noLoc = true ∧ isOpt r = false ∧ r.cellsB = some [r]
theorem nilOr_one (z : Nat) (xs : List (List AV)) : OneV (nilOr z xs) := by cases xs <;> exact ⟨rfl, rfl, rfl, rfl, rfl⟩
/-- Cells of a loop whose kids lie in written arrays; b: its shares may be appended to. -/
def OLd (b : Bool) (T : Nat → Option TO) (S : Nat → Prop) : Nat → List AV → Prop
  | 0, _ => False
  | d + 1, cs => ∃ (kind : Int) (item : ByteArray) (long many : Int) (K Sh : AV), cs = [.v (.int .i64 kind), .v (.string item), .v (.int .i64 long), .v (.int .i64 many), K, Sh] ∧
      (NB kind ∧ item.size ≤ 2 ∧ NB long ∧ NB many) ∧
      (K = .v (.slice none 0 0) ∨ (∃ q css, S q ∧ T q = some (.cont 6 css) ∧ K = .arr 6 q css.length ∧ 0 < css.length ∧ css.length ≤ 3 ∧ ∀ c ∈ css, OLd b T S d c) ∨ (b = false ∧ ∃ css, K = .row 6 css none ∧ css.length ≤ 3 ∧ ∀ c ∈ css, OLd b T S d c)) ∧
      (Sh = .v (.slice none 0 0) ∨ ∃ (xs : List Int) (k : Nat), Sh = .row 1 (xs.map encI) (some k) ∧ xs.length ≤ 5 ∧ (∀ x ∈ xs, NB x) ∧ (b = true → S k ∧ T k = some (.tail xs.length) ∧ xs.length ≤ 4))
theorem OLd.len {b : Bool} {T : Nat → Option TO} {S : Nat → Prop} {d : Nat} {cs : List AV} (h : OLd b T S d cs) : cs.length = 6 := by
  cases d with
  | zero => exact h.elim
  | succ d => obtain ⟨_, _, _, _, _, _, rfl, _⟩ := h; rfl
theorem OLd.keep {b : Bool} {T T' : Nat → Option TO} {S : Nat → Prop} (hT : ∀ k, S k → (∃ x, T k = some (.cont 6 x)) → T' k = T k) (hs : b = true → ∀ k n, T k = some (.tail n) → T' k = some (.tail n)) : ∀ {d : Nat} {cs : List AV}, OLd b T S d cs → OLd b T' S d cs
  | 0, _, h => h.elim
  | d + 1, cs, ⟨kind, item, long, many, K, Sh, e, h1, h2, h3⟩ => by
    refine ⟨kind, item, long, many, K, Sh, e, h1, ?_, ?_⟩
    · rcases h2 with h2 | ⟨q, css, hq, hTq, hK, hp, hl, hc⟩ | ⟨hbf, css, hK, hl, hc⟩
      · exact .inl h2
      · exact .inr (.inl ⟨q, css, hq, by rw [hT q hq ⟨css, hTq⟩]; exact hTq, hK, hp, hl, fun c hc' => (hc c hc').keep hT hs⟩)
      · exact .inr (.inr ⟨hbf, css, hK, hl, fun c hc' => (hc c hc').keep hT hs⟩)
    · rcases h3 with h3 | ⟨xs, k, h3, hl, hx, hb⟩
      · exact .inl h3
      · exact .inr ⟨xs, k, h3, hl, hx, fun hb' => ⟨(hb hb').1, hs hb' k _ (hb hb').2.1, (hb hb').2.2⟩⟩
theorem OLd.more {b : Bool} {T : Nat → Option TO} {S S' : Nat → Prop} (hS : ∀ k, S k → S' k) : ∀ {d : Nat} {cs : List AV}, OLd b T S d cs → OLd b T S' d cs
  | 0, _, h => h.elim
  | d + 1, cs, ⟨kind, item, long, many, K, Sh, e, h1, h2, h3⟩ => by
    have h3' : Sh = .v (.slice none 0 0) ∨ ∃ (xs : List Int) (k : Nat), Sh = .row 1 (xs.map encI) (some k) ∧ xs.length ≤ 5 ∧ (∀ x ∈ xs, NB x) ∧ (b = true → S' k ∧ T k = some (.tail xs.length) ∧ xs.length ≤ 4) := by
      rcases h3 with h3 | ⟨xs, k, h3, h4, h5, h6⟩
      · exact .inl h3
      · exact .inr ⟨xs, k, h3, h4, h5, fun hb => ⟨hS k (h6 hb).1, (h6 hb).2⟩⟩
    refine ⟨kind, item, long, many, K, Sh, e, h1, ?_, h3'⟩
    rcases h2 with h2 | ⟨q, css, hq, hTq, hK, hp, hl, hc⟩ | ⟨hbf, css, hK, hl, hc⟩
    · exact .inl h2
    · exact .inr (.inl ⟨q, css, hS q hq, hTq, hK, hp, hl, fun c hc' => (hc c hc').more hS⟩)
    · exact .inr (.inr ⟨hbf, css, hK, hl, fun c hc' => (hc c hc').more hS⟩)
theorem OLd.up {b : Bool} {T : Nat → Option TO} {S : Nat → Prop} : ∀ {d e : Nat} {cs : List AV}, d ≤ e → OLd b T S d cs → OLd b T S e cs
  | 0, _, _, _, h => h.elim
  | d + 1, 0, _, he, _ => by omega
  | d + 1, e + 1, cs, he, ⟨kind, item, long, many, K, Sh, e', h1, h2, h3⟩ => by
    refine ⟨kind, item, long, many, K, Sh, e', h1, ?_, h3⟩
    rcases h2 with h2 | ⟨q, css, hq, hTq, hK, hp, hl, hc⟩ | ⟨hbf, css, hK, hl, hc⟩
    · exact .inl h2
    · exact .inr (.inl ⟨q, css, hq, hTq, hK, hp, hl, fun c hc' => (hc c hc').up (by omega)⟩)
    · exact .inr (.inr ⟨hbf, css, hK, hl, fun c hc' => (hc c hc').up (by omega)⟩)
theorem OLd.weaken {T : Nat → Option TO} {S : Nat → Prop} : ∀ {d : Nat} {cs : List AV}, OLd true T S d cs → OLd false T S d cs
  | 0, _, h => h.elim
  | d + 1, cs, ⟨kind, item, long, many, K, Sh, e, h1, h2, h3⟩ => by
    refine ⟨kind, item, long, many, K, Sh, e, h1, ?_, ?_⟩
    · rcases h2 with h2 | ⟨q, css, hq, hTq, hK, hp, hl, hc⟩ | ⟨hbf, css, hK, hl, hc⟩
      · exact .inl h2
      · exact .inr (.inl ⟨q, css, hq, hTq, hK, hp, hl, fun c hc' => (hc c hc').weaken⟩)
      · cases hbf --.inr (.inr ⟨hbf, css, hK, hl, fun c hc' => (hc c hc').weaken⟩)
    · rcases h3 with h3 | ⟨xs, k, h3, hl, hx, hb⟩
      · exact .inl h3
      · exact .inr ⟨xs, k, h3, hl, hx, fun hb' => by cases hb'⟩
/-- A write to one element of an array, by which what was owned stays so. -/
theorem OLd.write {T T' : Nat → Option TO} {S : Nat → Prop} {q : Nat} {css : List (List AV)} {j : Nat} {c' : List AV} (hq : T q = some (.cont 6 css)) (hq' : T' q = some (.cont 6 (css.set j c'))) (hT : ∀ k, S k → k ≠ q → T' k = T k)
    (hc : ∀ e, OLd false T' S e (css.getD j []) → OLd false T' S e c') : ∀ {d : Nat} {cs : List AV}, OLd false T S d cs → OLd false T' S d cs
  | 0, _, h => h.elim
  | d + 1, cs, ⟨kind, item, long, many, K, Sh, e, h1, h2, h3⟩ => by
    refine ⟨kind, item, long, many, K, Sh, e, h1, ?_, ?_⟩
    · rcases h2 with h2 | ⟨p, dss, hp, hTp, hK, hpos, hl, hcs⟩ | ⟨hbf, dss, hK, hl, hcs⟩
      · exact .inl h2
      · by_cases hpq : p = q
        · subst hpq
          rw [hq] at hTp
          cases hTp
          refine .inr (.inl ⟨p, _, hp, hq', by rw [List.length_set]; exact hK, by rw [List.length_set]; exact hpos, by rw [List.length_set]; exact hl, fun c hcm => ?_⟩)
          rcases List.mem_or_eq_of_mem_set hcm with h | h
          · exact (hcs c h).write hq hq' hT hc
          · subst h
            by_cases hj : j < css.length
            · have hm : css.getD j [] ∈ css := by rw [List.getD_eq_getElem?_getD, List.getElem?_eq_getElem hj]; exact List.getElem_mem _
              exact hc _ ((hcs _ hm).write hq hq' hT hc)
            · rw [List.set_eq_of_length_le (by omega)] at hcm
              exact (hcs _ hcm).write hq hq' hT hc
        · exact .inr (.inl ⟨p, dss, hp, by rw [hT p hp hpq]; exact hTp, hK, hpos, hl, fun c hc' => (hcs c hc').write hq hq' hT hc⟩)
      · exact .inr (.inr ⟨hbf, dss, hK, hl, fun c hc' => (hcs c hc').write hq hq' hT hc⟩)
    · rcases h3 with h3 | ⟨xs, k, h3, hl, hx, hb⟩
      · exact .inl h3
      · exact .inr ⟨xs, k, h3, hl, hx, fun hb' => by cases hb'⟩
theorem RepL.of6 {G G' : Gh} {a b c d e f a' b' c' d' e' f' : AV} {us : List Value} (h : RepL G [a, b, c, d, e, f] us) (h0 : ∀ x, Rep G a x → Rep G' a' x) (h1 : ∀ x, Rep G b x → Rep G' b' x) (h2 : ∀ x, Rep G c x → Rep G' c' x) (h3 : ∀ x, Rep G d x → Rep G' d' x)
    (h4 : ∀ x, Rep G e x → Rep G' e' x) (h5 : ∀ x, Rep G f x → Rep G' f' x) : RepL G' [a', b', c', d', e', f'] us := by
  refine ⟨h.1, fun j hj hj' => ⟨?_, (h.2 j hj hj').2⟩⟩
  have h9 := (h.2 j hj hj').1
  match j, hj with
  | 0, _ => exact h0 _ h9
  | 1, _ => exact h1 _ h9
  | 2, _ => exact h2 _ h9
  | 3, _ => exact h3 _ h9
  | 4, _ => exact h4 _ h9
  | 5, _ => exact h5 _ h9
  | j + 6, hj => simp at hj; omega
/-- A small loop, as Loop gives it. -/
def LC : Nat → LT → Prop
  | 0, _ => False
  | d + 1, .mk kind item long many kids shares => NB kind ∧ item.size ≤ 2 ∧ NB long ∧ NB many ∧ kids.length ≤ 3 ∧ shares.length ≤ 5 ∧ (∀ x ∈ shares, NB x) ∧ ∀ k ∈ kids, LC d k
theorem LC.mono : ∀ {d e : Nat} {t : LT}, LC d t → d ≤ e → LC e t
  | 0, _, _, h, _ => h.elim
  | d + 1, 0, _, _, h => by omega
  | d + 1, e + 1, .mk .., h, hd => ⟨h.1, h.2.1, h.2.2.1, h.2.2.2.1, h.2.2.2.2.1, h.2.2.2.2.2.1, h.2.2.2.2.2.2.1, fun k hk => (h.2.2.2.2.2.2.2 k hk).mono (by omega)⟩
theorem LB.lc : ∀ {d : Nat} {t : LT}, LB d t → LC d t
  | 0, _, h => h.elim
  | d + 1, .mk .., h => ⟨h.1, h.2.1, h.2.2.1, h.2.2.2.1, h.2.2.2.2.1, by have := h.2.2.2.2.2.1; omega, h.2.2.2.2.2.2.1, fun k hk => (h.2.2.2.2.2.2.2 k hk).lc⟩
/-- All elements frozen: a list of trees. -/
theorem OLd.list {b : Bool} {T : Nat → Option TO} {S : Nat → Prop} {G G' : Gh} {d : Nat} (ih : ∀ cs, OLd b T S d cs → ∃ t, LC d t ∧ ∀ us, RepL G cs us → RepL G' (encL t) us) : ∀ (css : List (List AV)) (_ : ∀ c ∈ css, OLd b T S d c),
    ∃ ts : List LT, ts.length = css.length ∧ (∀ t ∈ ts, LC d t) ∧ ∀ us, RepL G css.flatten us → RepL G' (ts.map encL).flatten us
  | [], _ => ⟨[], rfl, by simp, fun us h => by cases us with | nil => exact RepL.nil _ | cons => have := h.1; simp at this⟩
  | c :: css, h => by
    obtain ⟨t, ht, hr⟩ := ih c (h c (by simp))
    obtain ⟨ts, hl, hts, hrs⟩ := OLd.list ih css fun c hc => h c (by simp [hc])
    refine ⟨t :: ts, by simp [hl], by simpa using ⟨ht, hts⟩, fun us hu => ?_⟩
    have h1 := hu.take c.length
    have h2 := hu.drop c.length
    simp only [List.flatten_cons, List.take_left, List.drop_left] at h1 h2
    have := (hr _ h1).append (hrs _ h2)
    rw [List.take_append_drop] at this
    exact this
theorem OLd.freeze {b : Bool} {T : Nat → Option TO} {S : Nat → Prop} {G G' : Gh} (hle : GLe G G') (hf : Fzs T S G G') : ∀ (d : Nat) (cs : List AV), OLd b T S d cs → ∃ t, LC d t ∧ ∀ us, RepL G cs us → RepL G' (encL t) us
  | 0, _, h => h.elim
  | d + 1, cs, ⟨kind, item, long, many, K, Sh, e, ⟨b1, b2, b3, b4⟩, h2, h3⟩ => by
    subst e
    have hK : ∃ ts : List LT, ts.length ≤ 3 ∧ (∀ t ∈ ts, LC d t) ∧ ∀ x, Rep G K x → Rep G' (.row 6 (ts.map encL) none) x := by
      have hz : ∀ ts : List LT, ∀ y ∈ ts.map encL, y.length = 6 := fun ts y hy => by
        obtain ⟨t, _, rfl⟩ := List.mem_map.1 hy
        exact encL_len t
      rcases h2 with rfl | ⟨q, css, hq, hT, rfl, _, hl, hc⟩ | ⟨_, css, rfl, hl, hc⟩
      · exact ⟨[], by simp, by simp, fun x hx => Weak.nil 6 0 0 ⟨rfl, rfl⟩ G' x (hx.mono hle)⟩
      · obtain ⟨ts, htl, htb, hts⟩ := OLd.list (OLd.freeze hle hf d) css hc
        exact ⟨ts, by omega, htb, fun x hx => hf q 6 css x hq hT hx _ (by simpa using htl) (hz ts) hts⟩
      · obtain ⟨ts, htl, htb, hts⟩ := OLd.list (OLd.freeze hle hf d) css hc
        exact ⟨ts, by omega, htb, fun x hx => hx.rowFlat hle (by simpa using htl) (hz ts) hts⟩
    have hS : ∃ xs : List Int, xs.length ≤ 5 ∧ (∀ x ∈ xs, NB x) ∧ ∀ x, Rep G Sh x → Rep G' (.row 1 (xs.map encI) none) x := by
      rcases h3 with rfl | ⟨xs, k, rfl, hl, hx, _⟩
      · exact ⟨[], by simp, by simp, fun x hx => Weak.nil 1 0 0 ⟨rfl, rfl⟩ G' x (hx.mono hle)⟩
      · exact ⟨xs, hl, hx, fun x hx => Weak.row _ _ _ G' x (hx.mono hle)⟩
    obtain ⟨ts, hl, htb, hts⟩ := hK
    obtain ⟨xs, hxl, hxb, hxs⟩ := hS
    refine ⟨.mk kind item long many ts xs, ⟨b1, b2, b3, b4, hl, hxl, hxb, htb⟩, fun us hu => ?_⟩
    rw [encL_eq]
    exact hu.of6 (fun x hx => hx.mono hle) (fun x hx => hx.mono hle) (fun x hx => hx.mono hle) (fun x hx => hx.mono hle) hts hxs
end Go.Proofs.YtoleejecmefogaaDoor
/- Loops that are played: their state, and where it lies. -/
namespace Go.Proofs.YtoleejecmefogaaDoor
open Go
set_option linter.unusedVariables false
set_option linter.unusedSimpArgs false
set_option maxRecDepth 100000
inductive AT where
  | mk (i c : Nat) (kids : List AT)
instance : Inhabited AT := ⟨.mk 0 0 []⟩
inductive PS where
  | mk (had : Int) (of : List Int) (kids : List PS)
instance : Inhabited PS := ⟨.mk 0 [] []⟩
def AT.id : AT → Nat
  | .mk i _ _ => i
def idsT : AT → List Nat
  | .mk i _ ks => i :: (ks.map idsT).flatten
def toksT : AT → List Nat
  | .mk _ c ks => c :: (ks.map toksT).flatten
theorem idsT_eq (i c : Nat) (ks : List AT) : idsT (.mk i c ks) = i :: (ks.map idsT).flatten := by rw [idsT]
theorem toksT_eq (i c : Nat) (ks : List AT) : toksT (.mk i c ks) = c :: (ks.map toksT).flatten := by rw [toksT]
theorem idsT_kid {i c : Nat} {ks : List AT} {j : Nat} (h : j < ks.length) {x : Nat} (hx : x ∈ idsT (ks.getD j default)) : x ∈ idsT (.mk i c ks) := by
  rw [idsT_eq]
  refine List.mem_cons_of_mem _ (List.mem_flatten.2 ⟨_, List.mem_map.2 ⟨_, ?_, rfl⟩, hx⟩)
  rw [List.getD_eq_getElem?_getD, List.getElem?_eq_getElem h]; exact List.getElem_mem _
theorem toksT_kid {i c : Nat} {ks : List AT} {j : Nat} (h : j < ks.length) {x : Nat} (hx : x ∈ toksT (ks.getD j default)) : x ∈ toksT (.mk i c ks) := by
  rw [toksT_eq]
  refine List.mem_cons_of_mem _ (List.mem_flatten.2 ⟨_, List.mem_map.2 ⟨_, ?_, rfl⟩, hx⟩)
  rw [List.getD_eq_getElem?_getD, List.getElem?_eq_getElem h]; exact List.getElem_mem _
/-- Parts lie apart. -/
def Sep : Nat → AT → Prop
  | 0, _ => False
  | d + 1, .mk i c az => ∀ j, j < az.length → (i ∉ idsT (az.getD j default) ∧ c ∉ toksT (az.getD j default) ∧ Sep d (az.getD j default)) ∧
      ∀ l, l < az.length → l ≠ j → (∀ x ∈ idsT (az.getD j default), x ∉ idsT (az.getD l default)) ∧ (∀ x ∈ toksT (az.getD j default), x ∉ toksT (az.getD l default))
/-- What a player's memory holds besides: cells behind the counts; what the counts are. -/
structure RK where
  ex : LT → List AV
  cf : Int → List Int → List Int
def kidsC (az : List AT) (K : AV) : Prop := az = [] ∧ K = .v (.slice none 0 0) ∨ ∃ tk, K = .row 1 (az.map fun a => [.ptr a.id 0]) tk
def RAt (X : RK) (h : Hp) : Nat → LT → AT → PS → Prop
  | 0, _, _, _ => False
  | d + 1, .mk kind item long many kids shares, .mk i c az, .mk p cs ks =>
    (∃ K, h.H i = some (.cells ([.v (.int .i64 kind), .v (.string item), .v (.int .i64 long), .v (.int .i64 many), .row 6 (kids.map encL) none, .row 1 (shares.map encI) none, K, .v (.int .i64 p), .arr 1 c kids.length] ++ X.ex (.mk kind item long many kids shares))) ∧ kidsC az K) ∧
    h.T c = some (.cont 1 ((X.cf kind cs).map encI)) ∧ ((X.cf kind cs).length = kids.length ∧ cs.length = kids.length ∧ az.length = kids.length ∧ ks.length = kids.length) ∧
    ∀ j, j < kids.length → RAt X h d (kids.getD j default) (az.getD j default) (ks.getD j default)
theorem RAt.frame {X : RK} {h h' : Hp} : ∀ {d : Nat} {t : LT} {a : AT} {s : PS}, RAt X h d t a s → (∀ i ∈ idsT a, h'.H i = h.H i) → (∀ c ∈ toksT a, h'.T c = h.T c) → RAt X h' d t a s
  | 0, _, _, _, h, _, _ => h.elim
  | d + 1, .mk kind item long many kids shares, .mk i c az, .mk p cs ks, ⟨⟨K, h1, hK⟩, h2, h3, h4⟩, hi, hc =>
    ⟨⟨K, by rw [hi i (by rw [idsT_eq]; simp)]; exact h1, hK⟩, by rw [hc c (by rw [toksT_eq]; simp)]; exact h2, h3, fun j hj =>
      (h4 j hj).frame (fun x hx => hi x (idsT_kid (by omega) hx)) (fun x hx => hc x (toksT_kid (by omega) hx))⟩
/-- No count is above n. -/
def PSB : Nat → LT → PS → Int → Prop
  | 0, _, _, _ => True
  | d + 1, .mk _ _ _ _ kids _, .mk p cs ks, n => (0 ≤ p ∧ p ≤ n) ∧ (∀ x ∈ cs, 0 ≤ x ∧ x ≤ n) ∧ ∀ j, j < kids.length → PSB d (kids.getD j default) (ks.getD j default) n
theorem PSB.mono {n m : Int} (hnm : n ≤ m) : ∀ {d : Nat} {t : LT} {s : PS}, PSB d t s n → PSB d t s m
  | 0, _, _, _ => trivial
  | d + 1, .mk .., .mk p cs ks, ⟨h1, h2, h3⟩ => ⟨by omega, fun x hx => by have := h2 x hx; omega, fun j hj => (h3 j hj).mono hnm⟩
def ps0 : LT → PS
  | .mk _ _ _ _ kids _ => .mk 0 (kids.map fun _ => 0) (kids.map ps0)
theorem ps0_eq (kind : Int) (item : ByteArray) (long many : Int) (kids : List LT) (shares : List Int) : ps0 (.mk kind item long many kids shares) = .mk 0 (kids.map fun _ => 0) (kids.map ps0) := by rw [ps0]
/-- Which kid a LoopShare plays: the first of those that are furthest behind. -/
def bestTo (f : Nat → Int) : Nat → Nat
  | 0 => 0
  | j + 1 => if f j > f (bestTo f j) then j else bestTo f j
theorem bestTo_lt (f : Nat → Int) : ∀ n, 0 < n → bestTo f n < n
  | 0, h => by omega
  | n + 1, _ => by
    simp only [bestTo]
    split
    · omega
    · cases n with
      | zero => simp [bestTo]
      | succ n => have := bestTo_lt f (n + 1) (by omega); omega
def shareV (shares : List Int) (p : Int) (cs : List Int) (j : Nat) : Int := shares.getD j 0 * (p + 1) - cs.getD j 0 * shares.sum
def nextF (shares : List Int) (p : Int) (cs : List Int) : Nat := bestTo (shareV shares p cs) shares.length
def idxL (kind p many : Int) (nk nx : Nat) : List Nat :=
  if kind = 1 then [] else if kind = 2 then List.range nk else if kind = 3 then [(p.tmod nk).toNat] else if kind = 4 then [nx] else List.replicate many.toNat 0
def stepU (f : LT → PS → PS × List (ByteArray × Int)) (kids : List LT) (a : (List Int × List PS) × List (ByteArray × Int)) (i : Nat) : (List Int × List PS) × List (ByteArray × Int) :=
  ((a.1.1.set i (a.1.1.getD i 0 + 1), a.1.2.set i (f (kids.getD i default) (a.1.2.getD i default)).1), a.2 ++ (f (kids.getD i default) (a.1.2.getD i default)).2)
/-- A pass, and what it plays. -/
def passU : Nat → LT → PS → PS × List (ByteArray × Int)
  | 0, _, s => (s, [])
  | d + 1, .mk kind item long many kids shares, .mk p cs ks =>
    let r := (idxL kind p many kids.length (nextF shares p cs)).foldl (stepU (passU d) kids) ((cs, ks), if kind = 1 then [(item, long)] else [])
    (.mk (p + 1) r.1.1 r.1.2, r.2)
theorem passU_succ (d : Nat) (kind : Int) (item : ByteArray) (long many : Int) (kids : List LT) (shares : List Int) (p : Int) (cs : List Int) (ks : List PS) : passU (d + 1) (.mk kind item long many kids shares) (.mk p cs ks) =
    (.mk (p + 1) ((idxL kind p many kids.length (nextF shares p cs)).foldl (stepU (passU d) kids) ((cs, ks), if kind = 1 then [(item, long)] else [])).1.1 ((idxL kind p many kids.length (nextF shares p cs)).foldl (stepU (passU d) kids) ((cs, ks), if kind = 1 then [(item, long)] else [])).1.2, ((idxL kind p many kids.length (nextF shares p cs)).foldl (stepU (passU d) kids) ((cs, ks), if kind = 1 then [(item, long)] else [])).2) := rfl
/-- A right loop. -/
def VL : Nat → LT → Prop
  | 0, _ => False
  | d + 1, .mk kind _ _ many kids shares => (1 ≤ kind ∧ kind ≤ 5) ∧ (kind = 1 → kids = []) ∧ (kind ≠ 1 → kids ≠ []) ∧ (kind = 5 → kids.length = 1 ∧ 1 ≤ many ∧ many ≤ 100) ∧ (kind = 4 → shares.length = kids.length) ∧ (∀ n ∈ shares, 1 ≤ n ∧ n ≤ 1000) ∧
      (kids.length ≤ 3 ∧ shares.length ≤ 5) ∧ ∀ k ∈ kids, VL d k
def encStep (x : ByteArray × Int) : List AV := [.v (.string x.1), .v (.int .i64 x.2)]
def OutAt (h : Hp) (o k : Nat) (ex : List AV) (xs : List (ByteArray × Int)) : Prop := h.H o = some (.cells (.row 2 (xs.map encStep) (some k) :: ex)) ∧ h.T k = some (.tail xs.length)
section
variable {P : Program} {c : Cx} {Q : Exit → St → Prop} {s : St}
/-- A slot's value told more weakly. -/
theorem awp_weakS (t : Nat) {a a' : AV} {x : Code} (ht : s.sl.getD t .junk = a) (hn : a.noLoc = true) (hw : Weak a a') (h : Awp P c x Q { s with sl := s.sl.set t a' }) : Awp P c x Q s := by
  rintro ac w ⟨G, L, sm, hg, hf, hL⟩
  refine h ac w ⟨G, L, ⟨sm.hs, by simpa using sm.sz, fun u hu => ?_, sm.df, sm.ls⟩, hg, hf, hL⟩
  have hu' : u < s.sl.length := by simpa using hu
  have h1 := sm.sl u hu'
  simp only [List.getElem_set]
  split
  · rename_i e
    subst e
    rw [List.getD_eq_getElem?_getD, List.getElem?_eq_getElem hu'] at ht
    simp only [Option.getD_some] at ht
    rw [ht] at h1
    exact RepT.of (hw _ _ (h1.base hn))
  · exact h1
/-- A slot's written array is done. -/
theorem awp_frz (t k z : Nat) {xs : List (List AV)} {x : Code} (ht : s.sl.getD t .junk = .arr z k xs.length) (hT : s.h.T k = some (.cont z xs)) (hz : ∀ y ∈ xs, y.length = z) (h : Awp P c x Q { s with sl := s.sl.set t (.row z xs none), h := { s.h with T := upd s.h.T k none } }) : Awp P c x Q s := by
  rintro ac w ⟨G, L, sm, hg, hf, hL⟩
  obtain ⟨G', hle, hfr, hs2, hfz⟩ := sm.hs.freeze (h2 := { s.h with T := upd s.h.T k none }) (fun j => j = k) rfl (fun j hj => by subst hj; exact upd_same _ _ _) (fun j hj => upd_other _ _ hj)
  refine h ac w ⟨G', L, ⟨hs2, by simpa using sm.sz, fun u hu => ?_, sm.df, sm.ls.fr hle hfr⟩, hg.trans hle, hf.trans hfr, hL⟩
  have hu' : u < s.sl.length := by simpa using hu
  have h1 := sm.sl u hu'
  simp only [List.getElem_set]
  split
  · rename_i e
    subst e
    rw [List.getD_eq_getElem?_getD, List.getElem?_eq_getElem hu'] at ht
    simp only [Option.getD_some] at ht
    rw [ht] at h1
    exact RepT.of (hfz k z xs _ rfl hT (h1.base rfl) xs rfl hz fun us hus => hus.mono hle)
  · exact h1.mono hle
/-- A cell of a shared object that is nil may get the right to append. -/
theorem awp_ownPtr (o i z : Nat) {x : Code} {cs : List AV} (hj : s.h.H o = some (.cells cs)) (hi : cs[i]? = some (.v (.slice none 0 0))) (h : ∀ k, s.h.T k = none → Awp P c x Q { s with h := { H := upd s.h.H o (some (.cells (cs.set i (.row z [] (some k))))), T := upd s.h.T k (some (.tail 0)) } }) : Awp P c x Q s := by
  rintro a w ⟨G, L, sm, hg, hf, hL⟩
  obtain ⟨hT, s1, g1, f1⟩ := sm.newTok (o := .tail 0) (.inl rfl)
  obtain ⟨b, ob, hb, hw, hr, hv⟩ := s1.hs.obj o _ hj
  obtain ⟨vs, E, rfl, hrl⟩ := hr
  have hil : i < cs.length := (List.getElem?_eq_some_iff.1 hi).1
  obtain ⟨s2, f2⟩ := s1.setObj (i := o) (g := b) (x := .cells cs) (y := .cells (cs.set i (.row z [] (some G.nx)))) hj hb (fun _ _ => rfl) hw ⟨vs, E, rfl, by
    refine ⟨by simpa using hrl.1, fun q hq hq' => ?_⟩
    have hq2 : q < cs.length := by simpa using hq
    simp only [List.length_set] at hq'
    have h3 := hrl.2 q hq2 hq'
    simp only [List.length_set]
    refine ⟨?_, h3.2⟩
    simp only [List.getElem_set]
    split
    · rename_i eiq
      subst eiq
      have h4 := h3.1
      rw [show cs[i] = AV.v (.slice none 0 0) by rw [List.getElem?_eq_getElem hq2] at hi; simpa using hi] at h4
      have hv := (RepT.of (L := []) h4).v_inv
      rw [hv]
      refine .nil z _ ⟨by simp [Gh.newTk], ?_⟩
      have : G.newTk.tl G.nx = some none := upd_same _ _ _
      rw [this]
      exact ⟨rfl, none, rfl⟩
    · exact h3.1⟩ rfl rfl rfl (Nat.le_refl _)
  exact h G.nx hT a w ⟨G.newTk, L, s2, hg.trans g1, (hf.trans f1).trans f2, hL⟩
end
end Go.Proofs.YtoleejecmefogaaDoor
/- signref1.size: how many parts a loop has, and how deep it is. -/
namespace Go.Proofs.YtoleejecmefogaaDoor
open Go
set_option linter.unusedVariables false
set_option linter.unusedSimpArgs false
set_option maxRecDepth 100000
set_option maxHeartbeats 8000000
def manyF : LT → Int
  | .mk _ _ _ _ kids _ => (kids.map manyF).sum + 1
def deepF : LT → Int
  | .mk _ _ _ _ kids _ => (kids.map deepF).foldl max 0 + 1
theorem manyF_eq (kind : Int) (item : ByteArray) (long many : Int) (kids : List LT) (shares : List Int) : manyF (.mk kind item long many kids shares) = (kids.map manyF).sum + 1 := by rw [manyF]
theorem deepF_eq (kind : Int) (item : ByteArray) (long many : Int) (kids : List LT) (shares : List Int) : deepF (.mk kind item long many kids shares) = (kids.map deepF).foldl max 0 + 1 := by rw [deepF]
theorem sum_bd {α : Type} (f : α → Int) (b : Int) (hb : 0 ≤ b) : ∀ (l : List α), (∀ x ∈ l, 0 ≤ f x ∧ f x ≤ b) → 0 ≤ (l.map f).sum ∧ (l.map f).sum ≤ l.length * b
  | [], _ => by simp
  | x :: l, h => by
    have h1 := h x (by simp)
    have h2 := sum_bd f b hb l fun y hy => h y (by simp [hy])
    have e : ((l.length + 1 : Nat) : Int) * b = l.length * b + b := by rw [show ((l.length + 1 : Nat) : Int) = l.length + 1 by omega, Int.add_mul, Int.one_mul]
    simp only [List.map_cons, List.sum_cons, List.length_cons, e]
    omega
theorem max_bd {α : Type} (f : α → Int) (b : Int) : ∀ (l : List α) (a : Int), a ≤ b → (∀ x ∈ l, f x ≤ b) → a ≤ (l.map f).foldl max a ∧ (l.map f).foldl max a ≤ b
  | [], a, ha, _ => by simp; omega
  | x :: l, a, ha, h => by
    have h1 := h x (by simp)
    have h2 := max_bd f b l (max a (f x)) (by omega) fun y hy => h y (by simp [hy])
    simp only [List.map_cons, List.foldl_cons]
    omega
theorem size_bd : ∀ (d : Nat) (t : LT), LC d t → (1 ≤ manyF t ∧ manyF t ≤ 4 ^ d) ∧ 1 ≤ deepF t ∧ deepF t ≤ d
  | 0, _, h => h.elim
  | d + 1, .mk kind item long many kids shares, h => by
    obtain ⟨_, _, _, _, hk, _, _, hkk⟩ := h
    have h1 := sum_bd manyF (4 ^ d) (Int.le_of_lt (Int.pow_pos (by decide))) kids fun x hx => by have := (size_bd d x (hkk x hx)).1; omega
    have h2 := max_bd deepF d kids 0 (by omega) fun x hx => (size_bd d x (hkk x hx)).2.2
    have h3 : (kids.length : Int) * 4 ^ d ≤ 3 * 4 ^ d := Int.mul_le_mul_of_nonneg_right (by omega) (Int.le_of_lt (Int.pow_pos (by decide)))
    have h4 : (1 : Int) ≤ 4 ^ d := Int.pow_pos (by decide)
    rw [manyF_eq, deepF_eq]
    refine ⟨⟨by omega, ?_⟩, by omega, by omega⟩
    rw [Int.pow_succ]; omega
theorem take_succ_map {α : Type} {β : Type} [Inhabited α] (f : α → β) (l : List α) (j : Nat) (h : j < l.length) : (l.take (j + 1)).map f = (l.take j).map f ++ [f (l.getD j default)] := by
  rw [List.take_add_one, List.getD_eq_getElem?_getD, List.getElem?_eq_getElem h]; simp only [List.map_append, Option.toList_some, List.map_cons, List.map_nil, Option.getD_some]
theorem getD_mem' {α : Type} (l : List α) (j : Nat) (d : α) (h : j < l.length) : l.getD j d ∈ l := by
  rw [List.getD_eq_getElem?_getD, List.getElem?_eq_getElem h]; exact List.getElem_mem _
def SizeI (kids : List LT) (h : Hp) (g : Nat) (s : St) : Prop :=
  ∃ j : Nat, g + j = kids.length ∧ s = ⟨(AV.junk :: AV.junk :: ((.v (.int .i64 ((kids.take j).map manyF).sum)) :: (.v (.int .i64 (((kids.take j).map deepF).foldl max 0))) :: (jnk 5 ((.row 6 (kids.map encL) none) :: (.v (.int .i64 kids.length)) :: (.v (.int .i64 j)) :: (jnk 19 []))))), [], h⟩
theorem g_size : ∀ (d : Nat) (t : LT) (h : Hp), LC d t → d ≤ 28 → ACalls Tryd.prog 21 [.agg (encL t)] h (fun r h' => r = .tup [.v (.int .i64 (manyF t)), .v (.int .i64 (deepF t))] ∧ h' = h)
  | 0, _, _, hb, _ => hb.elim
  | d + 1, t, h, hb, hd => by
    cases t with
    | mk kind item long many kids shares =>
    have hb0 := hb
    obtain ⟨b1, b2, b3, b4, b5, b6, b7, b8⟩ := hb
    have hlen0 := encL_len (.mk kind item long many kids shares)
    have hbd : ∀ x ∈ kids, (0 ≤ manyF x ∧ manyF x ≤ 4 ^ d) ∧ deepF x ≤ d := fun x hx => by have := size_bd d x (b8 x hx); omega
    have h4 : (4 : Int) ^ d ≤ 4 ^ 27 := by
      have := Nat.pow_le_pow_right (n := 4) (by decide) (show d ≤ 27 by omega)
      exact_mod_cast this
    have hsum : ∀ j, 0 ≤ ((kids.take j).map manyF).sum ∧ ((kids.take j).map manyF).sum ≤ 3 * 4 ^ 27 := fun j => by
      have h1 := sum_bd manyF (4 ^ d) (Int.le_of_lt (Int.pow_pos (by decide))) (kids.take j) fun x hx => (hbd x (List.mem_of_mem_take hx)).1
      have h3 : ((kids.take j).length : Int) * 4 ^ d ≤ 3 * 4 ^ d := Int.mul_le_mul_of_nonneg_right (by simp; omega) (Int.le_of_lt (Int.pow_pos (by decide)))
      omega
    have hmax : ∀ j, 0 ≤ ((kids.take j).map deepF).foldl max 0 ∧ ((kids.take j).map deepF).foldl max 0 ≤ 100 := fun j => by
      have h1 := max_bd deepF d (kids.take j) 0 (by omega) fun x hx => (hbd x (List.mem_of_mem_take hx)).2
      omega
    refine acalls_of tyok Tryd.func21 rfl (by kernel_rfl) fun c => ?_; simp only [Tryd.ntmps21, List.length_cons, List.length_nil, Nat.reduceAdd, Nat.reduceSub, jnk_rep, List.cons_append, List.nil_append]
    rw [encL_eq]
    (repeat (first | (with_reducible first | refine wB ?_ | refine wN ?_) | ((with_reducible refine wI ?_); refine wN ?_) | ((with_reducible first | refine uS (mdL [(5, 1)]) ?_ | refine uR (mdL [(5, 1)]) ?_ | refine wG ?_) <;> ((try with_reducible intro K1 hK1); simp only [go_sem, ↓reduceIte, reduceCtorEq, Nat.reduceAdd, Nat.reduceSub, Nat.reduceMul, Nat.reduceLT, Nat.reduceLeDiff, Nat.reduceEqDiff]; (try and_intros); all_goals first | (refine hK1 _ ?_; clear hK1 K1) | (intros; first | (with_reducible trivial) | omega | (simp_all <;> omega)) | skip)) | (with_reducible first | refine wQ ?_ | refine zS ?_ | refine zN ?_ | refine zX ?_ | refine zE ?_ | refine zF ?_ | refine zO (by decide) ?_ | refine zB ?_)))
    refine awp_loopC (rl false [2, 2, 5, 3, 19]) 0 (fun g s => SizeI kids h g s) kids.length ⟨0, by omega, rfl⟩ ?_
    rintro g _ ⟨j, hj, rfl⟩
    have hs := hsum j
    have hm := hmax j
    (repeat (first | (with_reducible first | refine wB ?_ | refine wN ?_) | ((with_reducible refine wI ?_); refine wN ?_) | ((with_reducible first | refine uS (mdL [(5, 1)]) ?_ | refine uR (mdL [(5, 1)]) ?_ | refine wG ?_) <;> ((try with_reducible intro K1 hK1); simp only [go_sem, ↓reduceIte, reduceCtorEq, Nat.reduceAdd, Nat.reduceSub, Nat.reduceMul, Nat.reduceLT, Nat.reduceLeDiff, Nat.reduceEqDiff]; (try and_intros); all_goals first | (refine hK1 _ ?_; clear hK1 K1) | (intros; first | (with_reducible trivial) | omega | (simp_all <;> omega)) | skip)) | (with_reducible first | refine wQ ?_ | refine zS ?_ | refine zN ?_ | refine zX ?_ | refine zE ?_ | refine zF ?_ | refine zO (by decide) ?_ | refine zB ?_)))
    refine awp_cond (t := _) rfl (fun h1 => ?_) (fun h1 => ?_)
    · simp only [decide_eq_true_eq] at h1
      have hjk : j < kids.length := by omega
      have hg : (kids.map encL).getD j [] = encL (kids.getD j default) := getD_enc encL kids j default hjk
      have hmem := getD_mem' kids j default hjk
      have e1 := take_succ_map manyF kids j hjk
      have e2 := take_succ_map deepF kids j hjk
      have hbx := hbd _ hmem
      have hbt := b8 _ hmem
      generalize kids.getD j default = t2 at hg hmem e1 e2 hbx hbt
      have hlen := encL_len t2
      have htk : List.take 6 (encL t2) = encL t2 := List.take_of_length_le (Nat.le_of_eq hlen)
      have hdr : List.drop 6 (encL t2) = [] := List.drop_of_length_le (Nat.le_of_eq hlen)
      (repeat (first | (with_reducible first | refine wB ?_ | refine wN ?_) | ((with_reducible refine wI ?_); refine wN ?_) | ((with_reducible first | refine uS (mdL [(5, 1)]) ?_ | refine uR (mdL [(5, 1)]) ?_ | refine wG ?_) <;> ((try with_reducible intro K1 hK1); simp only [go_sem, ↓reduceIte, reduceCtorEq, Nat.reduceAdd, Nat.reduceSub, Nat.reduceMul, Nat.reduceLT, Nat.reduceLeDiff, Nat.reduceEqDiff, Int.toNat_natCast, hg, hlen, htk, hdr]; (try and_intros); all_goals first | (refine hK1 _ ?_; clear hK1 K1) | (intros; first | (with_reducible trivial) | omega | (simp_all <;> omega)) | skip)) | (with_reducible first | refine wQ ?_ | refine zS ?_ | refine zN ?_ | refine zX ?_ | refine zE ?_ | refine zF ?_ | refine zO (by decide) ?_ | refine zB ?_)))
      refine (g_size d t2 h hbt (by omega)).mono ?_; rintro _ _ ⟨rfl, rfl⟩; refine hK1 _ ?_; clear hK1 K1
      (repeat (first | (with_reducible first | refine wB ?_ | refine wN ?_) | ((with_reducible refine wI ?_); refine wN ?_) | ((with_reducible first | refine uS (mdL [(5, 1)]) ?_ | refine uR (mdL [(5, 1)]) ?_ | refine wG ?_) <;> ((try with_reducible intro K1 hK1); simp only [go_sem, ↓reduceIte, reduceCtorEq, Nat.reduceAdd, Nat.reduceSub, Nat.reduceMul, Nat.reduceLT, Nat.reduceLeDiff, Nat.reduceEqDiff]; (try and_intros); all_goals first | (refine hK1 _ ?_; clear hK1 K1) | (intros; first | (with_reducible trivial) | omega | (simp_all <;> omega)) | skip)) | (with_reducible first | refine wQ ?_ | refine zS ?_ | refine zN ?_ | refine zX ?_ | refine zE ?_ | refine zF ?_ | refine zO (by decide) ?_ | refine zB ?_)))
      refine ⟨g - 1, by omega, j + 1, by omega, ?_⟩
      rw [e1, e2, List.sum_append, List.foldl_append]
      simp only [List.sum_cons, List.sum_nil, List.foldl_cons, List.foldl_nil, Int.add_zero]
      rfl
    · simp only [decide_eq_false_iff_not] at h1
      have hjk : j = kids.length := by omega
      subst hjk
      simp only [List.take_length] at hs hm ⊢
      (repeat (first | (with_reducible first | refine wB ?_ | refine wN ?_) | ((with_reducible refine wI ?_); refine wN ?_) | ((with_reducible first | refine uS (mdL [(5, 1)]) ?_ | refine uR (mdL [(5, 1)]) ?_ | refine wG ?_) <;> ((try with_reducible intro K1 hK1); simp only [go_sem, ↓reduceIte, reduceCtorEq, Nat.reduceAdd, Nat.reduceSub, Nat.reduceMul, Nat.reduceLT, Nat.reduceLeDiff, Nat.reduceEqDiff]; (try and_intros); all_goals first | (refine hK1 _ ?_; clear hK1 K1) | (intros; first | (with_reducible trivial) | omega | (simp_all <;> omega)) | skip)) | (with_reducible first | refine wQ ?_ | refine zS ?_ | refine zN ?_ | refine zX ?_ | refine zE ?_ | refine zF ?_ | refine zO (by decide) ?_ | refine zB ?_)))
      refine zR ?_; (repeat (with_reducible first | refine zT ?_ | refine zU ?_)); simp only [Tryd.results21, go_sem, ↓reduceIte, reduceCtorEq, Nat.reduceAdd, Nat.reduceSub, Nat.reduceMul, Nat.reduceLT, Nat.reduceLeDiff, Nat.reduceEqDiff]
      exact ⟨_, _, Weak.refl _, Hp.le.refl _, by rw [manyF_eq, deepF_eq], rfl⟩
end Go.Proofs.YtoleejecmefogaaDoor
/- signref1.newRunner. -/
namespace Go.Proofs.YtoleejecmefogaaDoor
open Go
set_option linter.unusedVariables false
set_option linter.unusedSimpArgs false
set_option maxRecDepth 100000
set_option maxHeartbeats 8000000
theorem mem_idsT {i c : Nat} {az : List AT} {x : Nat} (h : x ∈ idsT (.mk i c az)) : x = i ∨ ∃ j, j < az.length ∧ x ∈ idsT (az.getD j default) := by
  rw [idsT_eq] at h
  rcases List.mem_cons.1 h with h | h
  · exact .inl h
  · obtain ⟨l, hl, hx⟩ := List.mem_flatten.1 h
    obtain ⟨a, ha, rfl⟩ := List.mem_map.1 hl
    obtain ⟨j, hj, rfl⟩ := List.getElem_of_mem ha
    exact .inr ⟨j, hj, by rw [List.getD_eq_getElem?_getD, List.getElem?_eq_getElem hj]; exact hx⟩
theorem mem_toksT {i c : Nat} {az : List AT} {x : Nat} (h : x ∈ toksT (.mk i c az)) : x = c ∨ ∃ j, j < az.length ∧ x ∈ toksT (az.getD j default) := by
  rw [toksT_eq] at h
  rcases List.mem_cons.1 h with h | h
  · exact .inl h
  · obtain ⟨l, hl, hx⟩ := List.mem_flatten.1 h
    obtain ⟨a, ha, rfl⟩ := List.mem_map.1 hl
    obtain ⟨j, hj, rfl⟩ := List.getElem_of_mem ha
    exact .inr ⟨j, hj, by rw [List.getD_eq_getElem?_getD, List.getElem?_eq_getElem hj]; exact hx⟩
theorem RAt.ne {X : RK} {h : Hp} : ∀ {d : Nat} {t : LT} {a : AT} {s : PS}, RAt X h d t a s → (∀ i ∈ idsT a, h.H i ≠ none) ∧ (∀ c ∈ toksT a, h.T c ≠ none)
  | 0, _, _, _, h => h.elim
  | d + 1, .mk kind item long many kids shares, .mk i c az, .mk p cs ks, ⟨⟨K, h1, hK⟩, h2, h3, h4⟩ => by
    refine ⟨fun x hx => ?_, fun x hx => ?_⟩
    · rcases mem_idsT hx with rfl | ⟨j, hj, hx⟩
      · rw [h1]; simp
      · exact (h4 j (by omega)).ne.1 x hx
    · rcases mem_toksT hx with rfl | ⟨j, hj, hx⟩
      · rw [h2]; simp
      · exact (h4 j (by omega)).ne.2 x hx
theorem RAt.cont {X : RK} {h : Hp} : ∀ {d : Nat} {t : LT} {a : AT} {s : PS}, RAt X h d t a s → ∀ c ∈ toksT a, ∃ xs, h.T c = some (.cont 1 xs)
  | 0, _, _, _, h => h.elim
  | d + 1, .mk kind item long many kids shares, .mk i c az, .mk p cs ks, ⟨_, h2, h3, h4⟩ => fun x hx => by
    rcases mem_toksT hx with rfl | ⟨j, hj, hx⟩
    · exact ⟨_, h2⟩
    · exact (h4 j (by omega)).cont x hx
def XR : RK := ⟨fun _ => [], fun _ cs => cs⟩
def cells9 (kind : Int) (item : ByteArray) (long many : Int) (kids : List LT) (shares : List Int) (K : AV) (p : Int) (c : Nat) : List AV :=
  [.v (.int .i64 kind), .v (.string item), .v (.int .i64 long), .v (.int .i64 many), .row 6 (kids.map encL) none, .row 1 (shares.map encI) none, K, .v (.int .i64 p), .arr 1 c kids.length]
/-- The kids that are made so far. -/
def NewI (X : RK) (d : Nat) (kids : List LT) (h : Hp) (i c : Nat) (az : List AT) (h' : Hp) : Prop :=
  (∀ l, l < az.length → RAt X h' d (kids.getD l default) (az.getD l default) (ps0 (kids.getD l default)) ∧ (i ∉ idsT (az.getD l default) ∧ c ∉ toksT (az.getD l default) ∧ Sep d (az.getD l default)) ∧
    (∀ x ∈ idsT (az.getD l default), h.H x = none) ∧ (∀ x ∈ toksT (az.getD l default), h.T x = none)) ∧
  (∀ j l, j < az.length → l < az.length → l ≠ j → (∀ x ∈ idsT (az.getD j default), x ∉ idsT (az.getD l default)) ∧ (∀ x ∈ toksT (az.getD j default), x ∉ toksT (az.getD l default))) ∧
  (∀ x, h.H x ≠ none → h'.H x = h.H x) ∧ (∀ x, h.T x ≠ none → h'.T x = h.T x)
def kidsK (h : Hp) (az : List AT) (K : AV) (T : Nat → Option TO) : Prop := az = [] ∧ K = .v (.slice none 0 0) ∨ ∃ tk, az ≠ [] ∧ K = .row 1 (az.map fun a => [.ptr a.id 0]) (some tk) ∧ T tk = some (.tail az.length) ∧ h.T tk = none
def NewR (X : RK) (d : Nat) (t : LT) (h : Hp) (r : AV) (h' : Hp) : Prop :=
  ∃ a, r = .ptr a.id 0 ∧ RAt X h' d t a (ps0 t) ∧ Sep d a ∧ (∀ i ∈ idsT a, h.H i = none) ∧ (∀ c ∈ toksT a, h.T c = none) ∧ (∀ i, h.H i ≠ none → h'.H i = h.H i) ∧ (∀ k, h.T k ≠ none → h'.T k = h.T k)
theorem getD_snoc {α : Type} (l : List α) (x d : α) (j : Nat) : (l ++ [x]).getD j d = if j = l.length then x else l.getD j d := by
  simp only [List.getD_eq_getElem?_getD]
  split
  · rename_i h; subst h; simp
  · rename_i h
    by_cases hj : j < l.length
    · rw [List.getElem?_append_left hj]
    · rw [List.getElem?_eq_none (by simp; omega), List.getElem?_eq_none (by omega)]
/-- One more kid. -/
theorem NewI.more {X : RK} {d : Nat} {kids : List LT} {h h1 h2 : Hp} {i c : Nat} {az : List AT} (hI : NewI X d kids h i c az h1) (hi0 : h.H i = none) (hi : h1.H i ≠ none) (hc : h1.T c ≠ none) {a : AT}
    (hR : RAt X h2 d (kids.getD az.length default) a (ps0 (kids.getD az.length default))) (hS : Sep d a) (hn1 : ∀ x ∈ idsT a, h1.H x = none) (hn2 : ∀ x ∈ toksT a, h1.T x = none) (hk1 : ∀ x, h1.H x ≠ none → x ≠ i → h2.H x = h1.H x) (hk2 : ∀ x xs, h1.T x = some (.cont 1 xs) → h2.T x = h1.T x) (hk3 : ∀ x, h.T x ≠ none → h2.T x = h.T x) : NewI X d kids h i c (az ++ [a]) h2 := by
  obtain ⟨g1, g2, g3, g4⟩ := hI
  have o1 : ∀ x, h1.H x = none → h.H x = none := fun x hx => by
    cases e : h.H x with
    | none => rfl
    | some y => have := g3 x (by rw [e]; simp); rw [hx, e] at this; cases this
  have o2 : ∀ x, h1.T x = none → h.T x = none := fun x hx => by
    cases e : h.T x with
    | none => rfl
    | some y => have := g4 x (by rw [e]; simp); rw [hx, e] at this; cases this
  refine ⟨fun l hl => ?_, fun j l hj hl hne => ?_, fun x hx => (hk1 x (by rw [g3 x hx]; exact hx) (fun e => by subst e; exact hx hi0)).trans (g3 x hx), hk3⟩
  · rw [getD_snoc]
    split
    · rename_i e
      subst e
      exact ⟨hR, ⟨fun hx => hi (hn1 _ hx), fun hx => hc (hn2 _ hx), hS⟩, fun x hx => o1 x (hn1 x hx), fun x hx => o2 x (hn2 x hx)⟩
    · rename_i e
      obtain ⟨f1, f2, f3, f4⟩ := g1 l (by simp at hl; omega)
      exact ⟨f1.frame (fun x hx => hk1 x (f1.ne.1 x hx) (fun e => by subst e; exact f2.1 hx)) (fun x hx => let ⟨xs, e⟩ := f1.cont x hx; hk2 x xs e), f2, f3, f4⟩
  · simp only [List.length_append, List.length_cons, List.length_nil] at hj hl
    rw [getD_snoc, getD_snoc]
    split <;> split
    · omega
    · have f1 := (g1 l (by omega)).1
      exact ⟨fun x hx hx2 => f1.ne.1 x hx2 (hn1 x hx), fun x hx hx2 => f1.ne.2 x hx2 (hn2 x hx)⟩
    · have f1 := (g1 j (by omega)).1
      exact ⟨fun x hx hx2 => f1.ne.1 x hx (hn1 x hx2), fun x hx hx2 => f1.ne.2 x hx (hn2 x hx2)⟩
    · exact g2 j l (by omega) (by omega) hne
def NewRI (d : Nat) (kind : Int) (item : ByteArray) (long many : Int) (kids : List LT) (shares : List Int) (h : Hp) (i c : Nat) (g : Nat) (s : St) : Prop :=
  ∃ (az : List AT) (K : AV) (h' : Hp), g + az.length = kids.length ∧ NewI XR d kids h i c az h' ∧ kidsK h az K h'.T ∧ h'.H i = some (.cells (cells9 kind item long many kids shares K 0 c)) ∧ h'.T c = some (.cont 1 ((kids.map fun _ => (0 : Int)).map encI)) ∧
    s = ⟨((jnk 3 ((.ptr i 0) :: (jnk 10 ((.row 6 (kids.map encL) none) :: (.v (.int .i64 kids.length)) :: (.v (.int .i64 az.length)) :: (jnk 16 [])))))), [], h'⟩
theorem g_newRunner : ∀ (d : Nat) (t : LT) (h : Hp), LC d t → ACalls Tryd.prog 29 [.agg (encL t)] h (NewR XR d t h)
  | 0, _, _, hb => hb.elim
  | d + 1, .mk kind item long many kids shares, h, hb => by
    obtain ⟨b1, b2, b3, b4, b5, b6, b7, b8⟩ := id hb
    simp only [encL_eq]
    refine acalls_of tyok Tryd.func29 rfl (by kernel_rfl) fun c => ?_; simp only [Tryd.ntmps29, List.length_cons, List.length_nil, Nat.reduceAdd, Nat.reduceSub, jnk_rep, List.cons_append, List.nil_append]
    (repeat (first | (with_reducible first | refine wB ?_ | refine wN ?_ | refine wT ?_) | ((with_reducible refine wI ?_); refine wN ?_) | ((first | (with_reducible first | refine uS (mdL [(5, 1), (12, 2)]) ?_ | refine uR (mdL [(5, 1), (12, 2)]) ?_ | refine wG ?_ | refine wH ?_ | refine wM ?_ ?_) | ((with_reducible refine xS ?_); refine uD 1 (mdL [(5, 1), (12, 2)]) [0, 1, 2, 3] [(4, [0], [5]), (6, [], [7])] 33 rfl (by kernel_rfl) ?_) | ((with_reducible refine xR ?_); refine uE 5 (mdL [(5, 1), (12, 2)]) [0, 1, 2, 3, 4, 5] [(6, [4], [7]), (8, [], [9, 10]), (11, [], [])] 33 rfl (by kernel_rfl) ?_)) <;> ((try with_reducible intro K1 hK1); simp only [go_sem, ↓reduceIte, reduceCtorEq, Nat.reduceAdd, Nat.reduceSub, Nat.reduceMul, Nat.reduceLT, Nat.reduceLeDiff, Nat.reduceEqDiff, Int.toNat_natCast]; (try and_intros); all_goals first | (refine hK1 _ ?_; clear hK1 K1) | (intros; first | (with_reducible trivial) | omega | (simp_all <;> omega)) | skip)) | (with_reducible first | refine wQ ?_ | refine zS ?_ | refine zN ?_ | refine zX ?_ | refine zE ?_ | refine zF ?_ | refine zO (by decide) ?_ | refine zB ?_)))
    intro c0 hc0
    refine hK1 _ ?_; clear hK1 K1
    (repeat (first | (with_reducible first | refine wB ?_ | refine wN ?_ | refine wT ?_) | ((with_reducible refine wI ?_); refine wN ?_) | ((first | (with_reducible first | refine uS (mdL [(5, 1), (12, 2)]) ?_ | refine uR (mdL [(5, 1), (12, 2)]) ?_ | refine wG ?_ | refine wH ?_ | refine wM ?_ ?_) | ((with_reducible refine xS ?_); refine uD 1 (mdL [(5, 1), (12, 2)]) [0, 1, 2, 3] [(4, [0], [5]), (6, [], [7])] 33 rfl (by kernel_rfl) ?_) | ((with_reducible refine xR ?_); refine uE 5 (mdL [(5, 1), (12, 2)]) [0, 1, 2, 3, 4, 5] [(6, [4], [7]), (8, [], [9, 10]), (11, [], [])] 33 rfl (by kernel_rfl) ?_)) <;> ((try with_reducible intro K1 hK1); simp only [go_sem, ↓reduceIte, reduceCtorEq, Nat.reduceAdd, Nat.reduceSub, Nat.reduceMul, Nat.reduceLT, Nat.reduceLeDiff, Nat.reduceEqDiff, Int.toNat_natCast]; (try and_intros); all_goals first | (refine hK1 _ ?_; clear hK1 K1) | (intros; first | (with_reducible trivial) | omega | (simp_all <;> omega)) | skip)) | (with_reducible first | refine wQ ?_ | refine zS ?_ | refine zN ?_ | refine zX ?_ | refine zE ?_ | refine zF ?_ | refine zO (by decide) ?_ | refine zB ?_)))
    intro i hi
    refine hK1 _ ?_; clear hK1 K1
    (repeat (first | (with_reducible first | refine wB ?_ | refine wN ?_ | refine wT ?_) | ((with_reducible refine wI ?_); refine wN ?_) | ((first | (with_reducible first | refine uS (mdL [(5, 1), (12, 2)]) ?_ | refine uR (mdL [(5, 1), (12, 2)]) ?_ | refine wG ?_ | refine wH ?_ | refine wM ?_ ?_) | ((with_reducible refine xS ?_); refine uD 1 (mdL [(5, 1), (12, 2)]) [0, 1, 2, 3] [(4, [0], [5]), (6, [], [7])] 33 rfl (by kernel_rfl) ?_) | ((with_reducible refine xR ?_); refine uE 5 (mdL [(5, 1), (12, 2)]) [0, 1, 2, 3, 4, 5] [(6, [4], [7]), (8, [], [9, 10]), (11, [], [])] 33 rfl (by kernel_rfl) ?_)) <;> ((try with_reducible intro K1 hK1); simp only [go_sem, ↓reduceIte, reduceCtorEq, Nat.reduceAdd, Nat.reduceSub, Nat.reduceMul, Nat.reduceLT, Nat.reduceLeDiff, Nat.reduceEqDiff, Int.toNat_natCast]; (try and_intros); all_goals first | (refine hK1 _ ?_; clear hK1 K1) | (intros; first | (with_reducible trivial) | omega | (simp_all <;> omega)) | skip)) | (with_reducible first | refine wQ ?_ | refine zS ?_ | refine zN ?_ | refine zX ?_ | refine zE ?_ | refine zF ?_ | refine zO (by decide) ?_ | refine zB ?_)))
    have hrep : List.replicate kids.length [AV.v (.int .i64 0)] = (kids.map fun _ => (0 : Int)).map encI := by
      rw [List.map_map, ← List.map_const]; rfl
    refine awp_loopC (rl false [3, 1, 10, 3, 16]) 0 (fun g s => NewRI d kind item long many kids shares h i c0 g s) kids.length ⟨[], _, _, by simp, ⟨fun l hl => by simp at hl, fun j l hj => by simp at hj, fun x hx => upd_other _ _ (fun e => by subst e; exact hx hi), fun x hx => upd_other _ _ (fun e => by subst e; exact hx hc0)⟩, .inl ⟨rfl, rfl⟩, upd_same _ _ _, by rw [← hrep]; exact upd_same _ _ _, rfl⟩ ?_
    rintro g _ ⟨az, K, h', hg, hI, hK, hH, hT, rfl⟩
    have hH0 : h'.H i = some (.cells [.v (.int .i64 kind), .v (.string item), .v (.int .i64 long), .v (.int .i64 many), .row 6 (kids.map encL) none, .row 1 (shares.map encI) none, K, .v (.int .i64 0), .arr 1 c0 kids.length]) := hH
    (repeat (first | (with_reducible first | refine wB ?_ | refine wN ?_ | refine wT ?_) | ((with_reducible refine wI ?_); refine wN ?_) | ((first | (with_reducible first | refine uS (mdL [(5, 1), (12, 2)]) ?_ | refine uR (mdL [(5, 1), (12, 2)]) ?_ | refine wG ?_ | refine wH ?_ | refine wM ?_ ?_) | ((with_reducible refine xS ?_); refine uD 1 (mdL [(5, 1), (12, 2)]) [0, 1, 2, 3] [(4, [0], [5]), (6, [], [7])] 33 rfl (by kernel_rfl) ?_) | ((with_reducible refine xR ?_); refine uE 5 (mdL [(5, 1), (12, 2)]) [0, 1, 2, 3, 4, 5] [(6, [4], [7]), (8, [], [9, 10]), (11, [], [])] 33 rfl (by kernel_rfl) ?_)) <;> ((try with_reducible intro K1 hK1); simp only [go_sem, ↓reduceIte, reduceCtorEq, Nat.reduceAdd, Nat.reduceSub, Nat.reduceMul, Nat.reduceLT, Nat.reduceLeDiff, Nat.reduceEqDiff]; (try and_intros); all_goals first | (refine hK1 _ ?_; clear hK1 K1) | (intros; first | (with_reducible trivial) | omega | (simp_all <;> omega)) | skip)) | (with_reducible first | refine wQ ?_ | refine zS ?_ | refine zN ?_ | refine zX ?_ | refine zE ?_ | refine zF ?_ | refine zO (by decide) ?_ | refine zB ?_)))
    refine awp_cond (t := _) rfl (fun h6 => ?_) (fun h6 => ?_)
    · simp only [decide_eq_true_eq] at h6
      have hjk : az.length < kids.length := by omega
      have hge : (kids.map encL).getD az.length [] = encL (kids.getD az.length default) := getD_enc encL kids az.length default hjk
      have hmem := getD_mem' kids az.length default hjk
      have hbt := b8 _ hmem
      have hlen := encL_len (kids.getD az.length default)
      have htk : List.take 6 (encL (kids.getD az.length default)) = encL (kids.getD az.length default) := List.take_of_length_le (Nat.le_of_eq hlen)
      have hdr : List.drop 6 (encL (kids.getD az.length default)) = [] := List.drop_of_length_le (Nat.le_of_eq hlen)
      obtain ⟨jn, hjn⟩ : ∃ jn, az.length = jn := ⟨_, rfl⟩
      rw [hjn] at hjk hge hmem hbt hlen htk hdr h6 hg ⊢
      rcases hK with ⟨rfl, rfl⟩ | ⟨tk, hne, rfl, htkT, htk0⟩
      · (repeat (first | (with_reducible first | refine wB ?_ | refine wN ?_ | refine wT ?_) | ((with_reducible refine wI ?_); refine wN ?_) | ((first | (with_reducible first | refine uS (mdL [(5, 1), (12, 2)]) ?_ | refine uR (mdL [(5, 1), (12, 2)]) ?_ | refine wG ?_ | refine wH ?_ | refine wM ?_ ?_) | ((with_reducible refine xS ?_); refine uD 1 (mdL [(5, 1), (12, 2)]) [0, 1, 2, 3] [(4, [0], [5]), (6, [], [7])] 33 rfl (by kernel_rfl) ?_) | ((with_reducible refine xR ?_); refine uE 5 (mdL [(5, 1), (12, 2)]) [0, 1, 2, 3, 4, 5] [(6, [4], [7]), (8, [], [9, 10]), (11, [], [])] 33 rfl (by kernel_rfl) ?_)) <;> ((try with_reducible intro K1 hK1); simp only [go_sem, ↓reduceIte, reduceCtorEq, Nat.reduceAdd, Nat.reduceSub, Nat.reduceMul, Nat.reduceLT, Nat.reduceLeDiff, Nat.reduceEqDiff, Int.toNat_natCast, hge, hlen, htk, hdr, hH0]; (try and_intros); all_goals first | (refine hK1 _ ?_; clear hK1 K1) | (intros; first | (with_reducible trivial) | omega | (simp_all <;> omega)) | skip)) | (with_reducible first | refine wQ ?_ | refine zS ?_ | refine zN ?_ | refine zX ?_ | refine zE ?_ | refine zF ?_ | refine zO (by decide) ?_ | refine zB ?_)))
        refine (g_newRunner d (kids.getD jn default) h' hbt).mono ?_
        rintro _ h2 ⟨a, rfl, hR, hS, hn1, hn2, hk1, hk2⟩
        have hH2 := (hk1 i (by rw [hH0]; simp)).trans hH0
        have hT2 := (hk2 c0 (by rw [hT]; simp)).trans hT
        refine hK1 _ ?_; clear hK1 K1
        (repeat (first | (with_reducible first | refine wB ?_ | refine wN ?_ | refine wT ?_) | ((with_reducible refine wI ?_); refine wN ?_) | ((first | (with_reducible first | refine uS (mdL [(5, 1), (12, 2)]) ?_ | refine uR (mdL [(5, 1), (12, 2)]) ?_ | refine wG ?_ | refine wH ?_ | refine wM ?_ ?_) | ((with_reducible refine xS ?_); refine uD 1 (mdL [(5, 1), (12, 2)]) [0, 1, 2, 3] [(4, [0], [5]), (6, [], [7])] 33 rfl (by kernel_rfl) ?_) | ((with_reducible refine xR ?_); refine uE 5 (mdL [(5, 1), (12, 2)]) [0, 1, 2, 3, 4, 5] [(6, [4], [7]), (8, [], [9, 10]), (11, [], [])] 33 rfl (by kernel_rfl) ?_)) <;> ((try with_reducible intro K1 hK1); simp only [go_sem, ↓reduceIte, reduceCtorEq, Nat.reduceAdd, Nat.reduceSub, Nat.reduceMul, Nat.reduceLT, Nat.reduceLeDiff, Nat.reduceEqDiff, Int.toNat_natCast, hge, hlen, htk, hdr, hH2]; (try and_intros); all_goals first | (refine hK1 _ ?_; clear hK1 K1) | (intros; first | (with_reducible trivial) | omega | (simp_all <;> omega)) | skip)) | (with_reducible first | refine wQ ?_ | refine zS ?_ | refine zN ?_ | refine zX ?_ | refine zE ?_ | refine zF ?_ | refine zO (by decide) ?_ | refine zB ?_)))
        intro tk htkn
        refine hK1 _ ?_; clear hK1 K1
        replace htkn : h2.T tk = none := htkn
        (repeat (first | (with_reducible first | refine wB ?_ | refine wN ?_ | refine wT ?_) | ((with_reducible refine wI ?_); refine wN ?_) | ((first | (with_reducible first | refine uS (mdL [(5, 1), (12, 2)]) ?_ | refine uR (mdL [(5, 1), (12, 2)]) ?_ | refine wG ?_ | refine wH ?_ | refine wM ?_ ?_) | ((with_reducible refine xS ?_); refine uD 1 (mdL [(5, 1), (12, 2)]) [0, 1, 2, 3] [(4, [0], [5]), (6, [], [7])] 33 rfl (by kernel_rfl) ?_) | ((with_reducible refine xR ?_); refine uE 5 (mdL [(5, 1), (12, 2)]) [0, 1, 2, 3, 4, 5] [(6, [4], [7]), (8, [], [9, 10]), (11, [], [])] 33 rfl (by kernel_rfl) ?_)) <;> ((try with_reducible intro K1 hK1); simp only [go_sem, ↓reduceIte, reduceCtorEq, Nat.reduceAdd, Nat.reduceSub, Nat.reduceMul, Nat.reduceLT, Nat.reduceLeDiff, Nat.reduceEqDiff, Int.toNat_natCast, hge, hlen, htk, hdr, hH2]; (try and_intros); all_goals first | (refine hK1 _ ?_; clear hK1 K1) | (intros; first | (with_reducible trivial) | omega | (simp_all <;> omega)) | skip)) | (with_reducible first | refine wQ ?_ | refine zS ?_ | refine zN ?_ | refine zX ?_ | refine zE ?_ | refine zF ?_ | refine zO (by decide) ?_ | refine zB ?_)))
        have htk1 : h'.T tk = none := Classical.byContradiction fun hn => by have := hk2 tk hn; rw [htkn] at this; exact hn this.symm
        have htk0 : h.T tk = none := Classical.byContradiction fun hn => by have := hI.2.2.2 tk hn; rw [htk1] at this; exact hn this.symm
        have hfr : ∀ (Y : AO) (n : Nat) (tk : Nat), (∀ xs, h2.T tk ≠ some (.cont 1 xs)) → RAt XR { H := upd h2.H i (some Y), T := upd h2.T tk (some (.tail n)) } d (kids.getD jn default) a (ps0 (kids.getD jn default)) := fun Y n tk htk => hR.frame (fun x hx => upd_other _ _ (fun e => by subst e; exact absurd (hn1 _ hx) (by rw [hH0]; simp))) (fun x hx => upd_other _ _ (fun e => by subst e; obtain ⟨xs, e2⟩ := hR.cont _ hx; exact htk xs e2))
        refine ⟨g - 1, by omega, ([] : List AT) ++ [a], .row 1 ((([] : List AT) ++ [a]).map fun a => [.ptr a.id 0]) (some tk), { H := upd h2.H i (some (.cells (cells9 kind item long many kids shares (.row 1 ((([] : List AT) ++ [a]).map fun a => [.ptr a.id 0]) (some tk)) 0 c0))), T := upd h2.T tk (some (.tail 1)) }, by simp at hjn hg ⊢; omega, NewI.more (c := c0) (az := ([] : List AT)) hI hi (by rw [hH0]; simp) (by rw [hT]; simp) (by rw [hjn]; exact hfr _ 1 tk (fun xs e => by rw [htkn] at e; cases e)) hS hn1 hn2 (fun x hx hxi => (upd_other _ _ hxi).trans (hk1 x hx)) (fun x xs hx => (upd_other _ _ (fun e => by subst e; exact (by have := hk2 _ (show h'.T _ ≠ none by rw [hx]; simp); rw [hx, htkn] at this; cases this))).trans (hk2 x (by rw [hx]; simp))) (fun x hx => (upd_other _ _ (fun e => by subst e; exact hx htk0)).trans ((hk2 x (by rw [hI.2.2.2 x hx]; exact hx)).trans (hI.2.2.2 x hx))),
          .inr ⟨tk, by simp, rfl, by rw [show (([] : List AT) ++ [a]).length = 1 from rfl]; exact upd_same _ _ _, htk0⟩, upd_same _ _ _, (upd_other _ _ (fun e => by subst e; exact (by rw [hT2] at htkn; cases htkn))).trans hT2, by subst hjn; rfl⟩
      · (repeat (first | (with_reducible first | refine wB ?_ | refine wN ?_ | refine wT ?_) | ((with_reducible refine wI ?_); refine wN ?_) | ((first | (with_reducible first | refine uS (mdL [(5, 1), (12, 2)]) ?_ | refine uR (mdL [(5, 1), (12, 2)]) ?_ | refine wG ?_ | refine wH ?_ | refine wM ?_ ?_) | ((with_reducible refine xS ?_); refine uD 1 (mdL [(5, 1), (12, 2)]) [0, 1, 2, 3] [(4, [0], [5]), (6, [], [7])] 33 rfl (by kernel_rfl) ?_) | ((with_reducible refine xR ?_); refine uE 5 (mdL [(5, 1), (12, 2)]) [0, 1, 2, 3, 4, 5] [(6, [4], [7]), (8, [], [9, 10]), (11, [], [])] 33 rfl (by kernel_rfl) ?_)) <;> ((try with_reducible intro K1 hK1); simp only [go_sem, ↓reduceIte, reduceCtorEq, Nat.reduceAdd, Nat.reduceSub, Nat.reduceMul, Nat.reduceLT, Nat.reduceLeDiff, Nat.reduceEqDiff, Int.toNat_natCast, hge, hlen, htk, hdr, hH0]; (try and_intros); all_goals first | (refine hK1 _ ?_; clear hK1 K1) | (intros; first | (with_reducible trivial) | omega | (simp_all <;> omega)) | skip)) | (with_reducible first | refine wQ ?_ | refine zS ?_ | refine zN ?_ | refine zX ?_ | refine zE ?_ | refine zF ?_ | refine zO (by decide) ?_ | refine zB ?_)))
        refine (g_newRunner d (kids.getD jn default) h' hbt).mono ?_
        rintro _ h2 ⟨a, rfl, hR, hS, hn1, hn2, hk1, hk2⟩
        have hH2 := (hk1 i (by rw [hH0]; simp)).trans hH0
        have hT2 := (hk2 c0 (by rw [hT]; simp)).trans hT
        refine hK1 _ ?_; clear hK1 K1
        have htk2 := (hk2 tk (by rw [htkT]; simp)).trans htkT
        (repeat (first | (with_reducible first | refine wB ?_ | refine wN ?_ | refine wT ?_) | ((with_reducible refine wI ?_); refine wN ?_) | ((first | (with_reducible first | refine uS (mdL [(5, 1), (12, 2)]) ?_ | refine uR (mdL [(5, 1), (12, 2)]) ?_ | refine wG ?_ | refine wH ?_ | refine wM ?_ ?_) | ((with_reducible refine xS ?_); refine uD 1 (mdL [(5, 1), (12, 2)]) [0, 1, 2, 3] [(4, [0], [5]), (6, [], [7])] 33 rfl (by kernel_rfl) ?_) | ((with_reducible refine xR ?_); refine uE 5 (mdL [(5, 1), (12, 2)]) [0, 1, 2, 3, 4, 5] [(6, [4], [7]), (8, [], [9, 10]), (11, [], [])] 33 rfl (by kernel_rfl) ?_)) <;> ((try with_reducible intro K1 hK1); simp only [go_sem, ↓reduceIte, reduceCtorEq, Nat.reduceAdd, Nat.reduceSub, Nat.reduceMul, Nat.reduceLT, Nat.reduceLeDiff, Nat.reduceEqDiff, Int.toNat_natCast, hge, hlen, htk, hdr, hH2, htk2]; (try and_intros); all_goals first | (refine hK1 _ ?_; clear hK1 K1) | (intros; first | (with_reducible trivial) | omega | (simp_all <;> omega)) | skip)) | (with_reducible first | refine wQ ?_ | refine zS ?_ | refine zN ?_ | refine zX ?_ | refine zE ?_ | refine zF ?_ | refine zO (by decide) ?_ | refine zB ?_)))
        have hfr : ∀ (Y : AO) (n : Nat) (tk : Nat), (∀ xs, h2.T tk ≠ some (.cont 1 xs)) → RAt XR { H := upd h2.H i (some Y), T := upd h2.T tk (some (.tail n)) } d (kids.getD jn default) a (ps0 (kids.getD jn default)) := fun Y n tk htk => hR.frame (fun x hx => upd_other _ _ (fun e => by subst e; exact absurd (hn1 _ hx) (by rw [hH0]; simp))) (fun x hx => upd_other _ _ (fun e => by subst e; obtain ⟨xs, e2⟩ := hR.cont _ hx; exact htk xs e2))
        have hrow : az.map (fun a : AT => [AV.ptr a.id 0]) ++ [[AV.ptr a.id 0]] = (az ++ [a]).map (fun a : AT => [AV.ptr a.id 0]) := by simp
        rw [hrow]
        refine ⟨g - 1, by omega, az ++ [a], .row 1 ((az ++ [a]).map fun a => [.ptr a.id 0]) (some tk), { H := upd h2.H i (some (.cells (cells9 kind item long many kids shares (.row 1 ((az ++ [a]).map fun a => [.ptr a.id 0]) (some tk)) 0 c0))), T := upd h2.T tk (some (.tail (az.length + 1))) }, by simp at hjn hg ⊢; omega, NewI.more (c := c0) (az := az) hI hi (by rw [hH0]; simp) (by rw [hT]; simp) (by rw [hjn]; exact hfr _ (jn + 1) tk (fun xs e => by rw [htk2] at e; cases e)) hS hn1 hn2 (fun x hx hxi => (upd_other _ _ hxi).trans (hk1 x hx)) (fun x xs hx => (upd_other _ _ (fun e => by subst e; exact (by rw [htkT] at hx; cases hx))).trans (hk2 x (by rw [hx]; simp))) (fun x hx => (upd_other _ _ (fun e => by subst e; exact hx htk0)).trans ((hk2 x (by rw [hI.2.2.2 x hx]; exact hx)).trans (hI.2.2.2 x hx))),
          .inr ⟨tk, by simp, rfl, by rw [show (az ++ [a]).length = az.length + 1 by simp]; exact upd_same _ _ _, htk0⟩, upd_same _ _ _, (upd_other _ _ (fun e => by subst e; exact (by rw [hT2] at htk2; cases htk2))).trans hT2, by rw [show ((az ++ [a]).length : Int) = (jn : Int) + 1 by simp; omega]; rfl⟩
    · simp only [decide_eq_false_iff_not] at h6
      have hjk : az.length = kids.length := by omega
      (repeat (first | (with_reducible first | refine wB ?_ | refine wN ?_ | refine wT ?_) | ((with_reducible refine wI ?_); refine wN ?_) | ((first | (with_reducible first | refine uS (mdL [(5, 1), (12, 2)]) ?_ | refine uR (mdL [(5, 1), (12, 2)]) ?_ | refine wG ?_ | refine wH ?_ | refine wM ?_ ?_) | ((with_reducible refine xS ?_); refine uD 1 (mdL [(5, 1), (12, 2)]) [0, 1, 2, 3] [(4, [0], [5]), (6, [], [7])] 33 rfl (by kernel_rfl) ?_) | ((with_reducible refine xR ?_); refine uE 5 (mdL [(5, 1), (12, 2)]) [0, 1, 2, 3, 4, 5] [(6, [4], [7]), (8, [], [9, 10]), (11, [], [])] 33 rfl (by kernel_rfl) ?_)) <;> ((try with_reducible intro K1 hK1); simp only [go_sem, ↓reduceIte, reduceCtorEq, Nat.reduceAdd, Nat.reduceSub, Nat.reduceMul, Nat.reduceLT, Nat.reduceLeDiff, Nat.reduceEqDiff]; (try and_intros); all_goals first | (refine hK1 _ ?_; clear hK1 K1) | (intros; first | (with_reducible trivial) | omega | (simp_all <;> omega)) | skip)) | (with_reducible first | refine wQ ?_ | refine zS ?_ | refine zN ?_ | refine zX ?_ | refine zE ?_ | refine zF ?_ | refine zO (by decide) ?_ | refine zB ?_)))
      refine zR ?_; (repeat (with_reducible first | refine zT ?_ | refine zU ?_)); simp only [Tryd.results29, go_sem, ↓reduceIte, reduceCtorEq, Nat.reduceAdd, Nat.reduceSub, Nat.reduceMul, Nat.reduceLT, Nat.reduceLeDiff, Nat.reduceEqDiff]
      obtain ⟨g1, g2, g3, g4⟩ := hI
      refine ⟨_, _, Weak.refl _, Hp.le.refl _, .mk i c0 az, rfl, ?_, ?_, ?_, ?_, g3, g4⟩
      · rw [ps0_eq]
        refine ⟨⟨K, hH, ?_⟩, hT, by simp [XR]; omega, fun j hj => ?_⟩
        · rcases hK with ⟨rfl, rfl⟩ | ⟨tk, _, rfl, _, _⟩
          · exact .inl ⟨rfl, rfl⟩
          · exact .inr ⟨some tk, rfl⟩
        · have e : (kids.map ps0).getD j default = ps0 (kids.getD j default) := by
            rw [List.getD_eq_getElem?_getD, List.getD_eq_getElem?_getD, List.getElem?_map, List.getElem?_eq_getElem hj]; rfl
          rw [e]; exact (g1 j (by omega)).1
      · exact fun j hj => ⟨(g1 j hj).2.1, fun l hl hne => g2 j l hj hl hne⟩
      · intro x hx
        rcases mem_idsT hx with rfl | ⟨j, hj, hx⟩
        · exact hi
        · exact (g1 j hj).2.2.1 x hx
      · intro x hx
        rcases mem_toksT hx with rfl | ⟨j, hj, hx⟩
        · exact hc0
        · exact (g1 j hj).2.2.2 x hx
end Go.Proofs.YtoleejecmefogaaDoor
/- loop.newPart. -/
namespace Go.Proofs.YtoleejecmefogaaDoor
open Go
set_option linter.unusedVariables false
set_option linter.unusedSimpArgs false
set_option maxRecDepth 100000
set_option maxHeartbeats 8000000
def XP : RK := ⟨fun t => match t with | .mk _ _ _ _ _ shares => [.v (.int .i64 shares.sum)], fun kind cs => if kind = 4 then cs else List.replicate cs.length 0⟩
theorem upd_self {α : Type} {f : Nat → Option α} {i : Nat} {x : Option α} (h : f i = x) : upd f i x = f := by
  funext j
  by_cases hj : j = i
  · subst hj; rw [upd_same, h]
  · rw [upd_other _ _ hj]
theorem sum_nb : ∀ (l : List Int), (∀ x ∈ l, NB x) → -(l.length * 5000000000000000) ≤ l.sum ∧ l.sum ≤ l.length * 5000000000000000
  | [], _ => by simp
  | x :: l, h => by
    have h1 := h x (by simp)
    have h2 := sum_nb l fun y hy => h y (by simp [hy])
    unfold NB at h1
    simp only [List.sum_cons, List.length_cons]
    omega
def NewPI (d : Nat) (kind : Int) (item : ByteArray) (long many : Int) (kids : List LT) (shares : List Int) (h : Hp) (i c : Nat) (g : Nat) (s : St) : Prop :=
  ∃ (az : List AT) (K : AV) (h' : Hp), g + az.length = kids.length ∧ NewI XP d kids h i c az h' ∧ kidsK h az K h'.T ∧ h'.H i = some (.cells (cells9 kind item long many kids shares K 0 c ++ [.v (.int .i64 0)])) ∧ h'.T c = some (.cont 1 ((kids.map fun _ => (0 : Int)).map encI)) ∧
    s = ⟨(AV.junk :: ((.ref [.v (.int .i64 kind), .v (.string item), .v (.int .i64 long), .v (.int .i64 many), .row 6 (kids.map encL) none, .row 1 (shares.map encI) none] 0) :: AV.junk :: ((.ptr i 0) :: (jnk 12 ((.row 6 (kids.map encL) none) :: (.v (.int .i64 kids.length)) :: (.v (.int .i64 az.length)) :: (jnk 32 [])))))), [], h'⟩
theorem g_newPart : ∀ (d : Nat) (t : LT) (h : Hp), LC d t → ACalls Tryd.prog 26 [.agg (encL t)] h (NewR XP d t h)
  | 0, _, _, hb => hb.elim
  | d + 1, .mk kind item long many kids shares, h, hb => by
    obtain ⟨b1, b2, b3, b4, b5, b6, b7, b8⟩ := id hb
    simp only [encL_eq]
    refine acalls_of tyok Tryd.func26 rfl (by kernel_rfl) fun c => ?_; simp only [Tryd.ntmps26, List.length_cons, List.length_nil, Nat.reduceAdd, Nat.reduceSub, jnk_rep, List.cons_append, List.nil_append]
    (repeat (first | (with_reducible first | refine wB ?_ | refine wN ?_ | refine wT ?_) | ((with_reducible refine wI ?_); refine wN ?_) | ((first | (with_reducible first | refine uS (mdL [(5, 1), (14, 2)]) ?_ | refine uR (mdL [(5, 1), (14, 2)]) ?_ | refine wG ?_ | refine wH ?_ | refine wM ?_ ?_) | ((with_reducible refine xS ?_); refine uD 1 (mdL [(5, 1), (14, 2)]) [0, 1, 2, 3] [(4, [0], [5]), (6, [], [7])] 51 rfl (by kernel_rfl) ?_) | ((with_reducible refine xR ?_); refine uE 5 (mdL [(5, 1), (14, 2)]) [0, 1, 2, 3, 4, 5] [(6, [4], [7]), (8, [], [9, 10]), (11, [], [])] 51 rfl (by kernel_rfl) ?_)) <;> ((try with_reducible intro K1 hK1); simp only [go_sem, ↓reduceIte, reduceCtorEq, Nat.reduceAdd, Nat.reduceSub, Nat.reduceMul, Nat.reduceLT, Nat.reduceLeDiff, Nat.reduceEqDiff, Int.toNat_natCast]; (try and_intros); all_goals first | (refine hK1 _ ?_; clear hK1 K1) | (intros; first | (with_reducible trivial) | omega | (simp_all <;> omega)) | skip)) | (with_reducible first | refine wQ ?_ | refine zS ?_ | refine zN ?_ | refine zX ?_ | refine zE ?_ | refine zF ?_ | refine zO (by decide) ?_ | refine zB ?_)))
    intro c0 hc0
    refine hK1 _ ?_; clear hK1 K1
    (repeat (first | (with_reducible first | refine wB ?_ | refine wN ?_ | refine wT ?_) | ((with_reducible refine wI ?_); refine wN ?_) | ((first | (with_reducible first | refine uS (mdL [(5, 1), (14, 2)]) ?_ | refine uR (mdL [(5, 1), (14, 2)]) ?_ | refine wG ?_ | refine wH ?_ | refine wM ?_ ?_) | ((with_reducible refine xS ?_); refine uD 1 (mdL [(5, 1), (14, 2)]) [0, 1, 2, 3] [(4, [0], [5]), (6, [], [7])] 51 rfl (by kernel_rfl) ?_) | ((with_reducible refine xR ?_); refine uE 5 (mdL [(5, 1), (14, 2)]) [0, 1, 2, 3, 4, 5] [(6, [4], [7]), (8, [], [9, 10]), (11, [], [])] 51 rfl (by kernel_rfl) ?_)) <;> ((try with_reducible intro K1 hK1); simp only [go_sem, ↓reduceIte, reduceCtorEq, Nat.reduceAdd, Nat.reduceSub, Nat.reduceMul, Nat.reduceLT, Nat.reduceLeDiff, Nat.reduceEqDiff, Int.toNat_natCast]; (try and_intros); all_goals first | (refine hK1 _ ?_; clear hK1 K1) | (intros; first | (with_reducible trivial) | omega | (simp_all <;> omega)) | skip)) | (with_reducible first | refine wQ ?_ | refine zS ?_ | refine zN ?_ | refine zX ?_ | refine zE ?_ | refine zF ?_ | refine zO (by decide) ?_ | refine zB ?_)))
    intro i hi
    refine hK1 _ ?_; clear hK1 K1
    (repeat (first | (with_reducible first | refine wB ?_ | refine wN ?_ | refine wT ?_) | ((with_reducible refine wI ?_); refine wN ?_) | ((first | (with_reducible first | refine uS (mdL [(5, 1), (14, 2)]) ?_ | refine uR (mdL [(5, 1), (14, 2)]) ?_ | refine wG ?_ | refine wH ?_ | refine wM ?_ ?_) | ((with_reducible refine xS ?_); refine uD 1 (mdL [(5, 1), (14, 2)]) [0, 1, 2, 3] [(4, [0], [5]), (6, [], [7])] 51 rfl (by kernel_rfl) ?_) | ((with_reducible refine xR ?_); refine uE 5 (mdL [(5, 1), (14, 2)]) [0, 1, 2, 3, 4, 5] [(6, [4], [7]), (8, [], [9, 10]), (11, [], [])] 51 rfl (by kernel_rfl) ?_)) <;> ((try with_reducible intro K1 hK1); simp only [go_sem, ↓reduceIte, reduceCtorEq, Nat.reduceAdd, Nat.reduceSub, Nat.reduceMul, Nat.reduceLT, Nat.reduceLeDiff, Nat.reduceEqDiff, Int.toNat_natCast]; (try and_intros); all_goals first | (refine hK1 _ ?_; clear hK1 K1) | (intros; first | (with_reducible trivial) | omega | (simp_all <;> omega)) | skip)) | (with_reducible first | refine wQ ?_ | refine zS ?_ | refine zN ?_ | refine zX ?_ | refine zE ?_ | refine zF ?_ | refine zO (by decide) ?_ | refine zB ?_)))
    have hrep : List.replicate kids.length [AV.v (.int .i64 0)] = (kids.map fun _ => (0 : Int)).map encI := by
      rw [List.map_map, ← List.map_const]; rfl
    refine awp_loopC (rl false [1, 1, 1, 1, 12, 3, 32]) 0 (fun g s => NewPI d kind item long many kids shares h i c0 g s) kids.length ⟨[], _, _, by simp, ⟨fun l hl => by simp at hl, fun j l hj => by simp at hj, fun x hx => upd_other _ _ (fun e => by subst e; exact hx hi), fun x hx => upd_other _ _ (fun e => by subst e; exact hx hc0)⟩, .inl ⟨rfl, rfl⟩, upd_same _ _ _, by rw [← hrep]; exact upd_same _ _ _, rfl⟩ ?_
    rintro g _ ⟨az, K, h', hg, hI, hK, hH, hT, rfl⟩
    have hH0 : h'.H i = some (.cells [.v (.int .i64 kind), .v (.string item), .v (.int .i64 long), .v (.int .i64 many), .row 6 (kids.map encL) none, .row 1 (shares.map encI) none, K, .v (.int .i64 0), .arr 1 c0 kids.length, .v (.int .i64 0)]) := hH
    (repeat (first | (with_reducible first | refine wB ?_ | refine wN ?_ | refine wT ?_) | ((with_reducible refine wI ?_); refine wN ?_) | ((first | (with_reducible first | refine uS (mdL [(5, 1), (14, 2)]) ?_ | refine uR (mdL [(5, 1), (14, 2)]) ?_ | refine wG ?_ | refine wH ?_ | refine wM ?_ ?_) | ((with_reducible refine xS ?_); refine uD 1 (mdL [(5, 1), (14, 2)]) [0, 1, 2, 3] [(4, [0], [5]), (6, [], [7])] 51 rfl (by kernel_rfl) ?_) | ((with_reducible refine xR ?_); refine uE 5 (mdL [(5, 1), (14, 2)]) [0, 1, 2, 3, 4, 5] [(6, [4], [7]), (8, [], [9, 10]), (11, [], [])] 51 rfl (by kernel_rfl) ?_)) <;> ((try with_reducible intro K1 hK1); simp only [go_sem, ↓reduceIte, reduceCtorEq, Nat.reduceAdd, Nat.reduceSub, Nat.reduceMul, Nat.reduceLT, Nat.reduceLeDiff, Nat.reduceEqDiff]; (try and_intros); all_goals first | (refine hK1 _ ?_; clear hK1 K1) | (intros; first | (with_reducible trivial) | omega | (simp_all <;> omega)) | skip)) | (with_reducible first | refine wQ ?_ | refine zS ?_ | refine zN ?_ | refine zX ?_ | refine zE ?_ | refine zF ?_ | refine zO (by decide) ?_ | refine zB ?_)))
    refine awp_cond (t := _) rfl (fun h6 => ?_) (fun h6 => ?_)
    · simp only [decide_eq_true_eq] at h6
      have hjk : az.length < kids.length := by omega
      have hge : (kids.map encL).getD az.length [] = encL (kids.getD az.length default) := getD_enc encL kids az.length default hjk
      have hmem := getD_mem' kids az.length default hjk
      have hbt := b8 _ hmem
      have hlen := encL_len (kids.getD az.length default)
      have htk : List.take 6 (encL (kids.getD az.length default)) = encL (kids.getD az.length default) := List.take_of_length_le (Nat.le_of_eq hlen)
      have hdr : List.drop 6 (encL (kids.getD az.length default)) = [] := List.drop_of_length_le (Nat.le_of_eq hlen)
      obtain ⟨jn, hjn⟩ : ∃ jn, az.length = jn := ⟨_, rfl⟩
      rw [hjn] at hjk hge hmem hbt hlen htk hdr h6 hg ⊢
      rcases hK with ⟨rfl, rfl⟩ | ⟨tk, hne, rfl, htkT, htk0⟩
      · (repeat (first | (with_reducible first | refine wB ?_ | refine wN ?_ | refine wT ?_) | ((with_reducible refine wI ?_); refine wN ?_) | ((first | (with_reducible first | refine uS (mdL [(5, 1), (14, 2)]) ?_ | refine uR (mdL [(5, 1), (14, 2)]) ?_ | refine wG ?_ | refine wH ?_ | refine wM ?_ ?_) | ((with_reducible refine xS ?_); refine uD 1 (mdL [(5, 1), (14, 2)]) [0, 1, 2, 3] [(4, [0], [5]), (6, [], [7])] 51 rfl (by kernel_rfl) ?_) | ((with_reducible refine xR ?_); refine uE 5 (mdL [(5, 1), (14, 2)]) [0, 1, 2, 3, 4, 5] [(6, [4], [7]), (8, [], [9, 10]), (11, [], [])] 51 rfl (by kernel_rfl) ?_)) <;> ((try with_reducible intro K1 hK1); simp only [go_sem, ↓reduceIte, reduceCtorEq, Nat.reduceAdd, Nat.reduceSub, Nat.reduceMul, Nat.reduceLT, Nat.reduceLeDiff, Nat.reduceEqDiff, Int.toNat_natCast, hge, hlen, htk, hdr, hH0]; (try and_intros); all_goals first | (refine hK1 _ ?_; clear hK1 K1) | (intros; first | (with_reducible trivial) | omega | (simp_all <;> omega)) | skip)) | (with_reducible first | refine wQ ?_ | refine zS ?_ | refine zN ?_ | refine zX ?_ | refine zE ?_ | refine zF ?_ | refine zO (by decide) ?_ | refine zB ?_)))
        refine (g_newPart d (kids.getD jn default) h' hbt).mono ?_
        rintro _ h2 ⟨a, rfl, hR, hS, hn1, hn2, hk1, hk2⟩
        have hH2 := (hk1 i (by rw [hH0]; simp)).trans hH0
        have hT2 := (hk2 c0 (by rw [hT]; simp)).trans hT
        refine hK1 _ ?_; clear hK1 K1
        (repeat (first | (with_reducible first | refine wB ?_ | refine wN ?_ | refine wT ?_) | ((with_reducible refine wI ?_); refine wN ?_) | ((first | (with_reducible first | refine uS (mdL [(5, 1), (14, 2)]) ?_ | refine uR (mdL [(5, 1), (14, 2)]) ?_ | refine wG ?_ | refine wH ?_ | refine wM ?_ ?_) | ((with_reducible refine xS ?_); refine uD 1 (mdL [(5, 1), (14, 2)]) [0, 1, 2, 3] [(4, [0], [5]), (6, [], [7])] 51 rfl (by kernel_rfl) ?_) | ((with_reducible refine xR ?_); refine uE 5 (mdL [(5, 1), (14, 2)]) [0, 1, 2, 3, 4, 5] [(6, [4], [7]), (8, [], [9, 10]), (11, [], [])] 51 rfl (by kernel_rfl) ?_)) <;> ((try with_reducible intro K1 hK1); simp only [go_sem, ↓reduceIte, reduceCtorEq, Nat.reduceAdd, Nat.reduceSub, Nat.reduceMul, Nat.reduceLT, Nat.reduceLeDiff, Nat.reduceEqDiff, Int.toNat_natCast, hge, hlen, htk, hdr, hH2]; (try and_intros); all_goals first | (refine hK1 _ ?_; clear hK1 K1) | (intros; first | (with_reducible trivial) | omega | (simp_all <;> omega)) | skip)) | (with_reducible first | refine wQ ?_ | refine zS ?_ | refine zN ?_ | refine zX ?_ | refine zE ?_ | refine zF ?_ | refine zO (by decide) ?_ | refine zB ?_)))
        intro tk htkn
        refine hK1 _ ?_; clear hK1 K1
        replace htkn : h2.T tk = none := htkn
        (repeat (first | (with_reducible first | refine wB ?_ | refine wN ?_ | refine wT ?_) | ((with_reducible refine wI ?_); refine wN ?_) | ((first | (with_reducible first | refine uS (mdL [(5, 1), (14, 2)]) ?_ | refine uR (mdL [(5, 1), (14, 2)]) ?_ | refine wG ?_ | refine wH ?_ | refine wM ?_ ?_) | ((with_reducible refine xS ?_); refine uD 1 (mdL [(5, 1), (14, 2)]) [0, 1, 2, 3] [(4, [0], [5]), (6, [], [7])] 51 rfl (by kernel_rfl) ?_) | ((with_reducible refine xR ?_); refine uE 5 (mdL [(5, 1), (14, 2)]) [0, 1, 2, 3, 4, 5] [(6, [4], [7]), (8, [], [9, 10]), (11, [], [])] 51 rfl (by kernel_rfl) ?_)) <;> ((try with_reducible intro K1 hK1); simp only [go_sem, ↓reduceIte, reduceCtorEq, Nat.reduceAdd, Nat.reduceSub, Nat.reduceMul, Nat.reduceLT, Nat.reduceLeDiff, Nat.reduceEqDiff, Int.toNat_natCast, hge, hlen, htk, hdr, hH2]; (try and_intros); all_goals first | (refine hK1 _ ?_; clear hK1 K1) | (intros; first | (with_reducible trivial) | omega | (simp_all <;> omega)) | skip)) | (with_reducible first | refine wQ ?_ | refine zS ?_ | refine zN ?_ | refine zX ?_ | refine zE ?_ | refine zF ?_ | refine zO (by decide) ?_ | refine zB ?_)))
        have htk1 : h'.T tk = none := Classical.byContradiction fun hn => by have := hk2 tk hn; rw [htkn] at this; exact hn this.symm
        have htk0 : h.T tk = none := Classical.byContradiction fun hn => by have := hI.2.2.2 tk hn; rw [htk1] at this; exact hn this.symm
        have hfr : ∀ (Y : AO) (n : Nat) (tk : Nat), (∀ xs, h2.T tk ≠ some (.cont 1 xs)) → RAt XP { H := upd h2.H i (some Y), T := upd h2.T tk (some (.tail n)) } d (kids.getD jn default) a (ps0 (kids.getD jn default)) := fun Y n tk htk => hR.frame (fun x hx => upd_other _ _ (fun e => by subst e; exact absurd (hn1 _ hx) (by rw [hH0]; simp))) (fun x hx => upd_other _ _ (fun e => by subst e; obtain ⟨xs, e2⟩ := hR.cont _ hx; exact htk xs e2))
        refine ⟨g - 1, by omega, ([] : List AT) ++ [a], .row 1 ((([] : List AT) ++ [a]).map fun a => [.ptr a.id 0]) (some tk), { H := upd h2.H i (some (.cells (cells9 kind item long many kids shares (.row 1 ((([] : List AT) ++ [a]).map fun a => [.ptr a.id 0]) (some tk)) 0 c0 ++ [.v (.int .i64 0)]))), T := upd h2.T tk (some (.tail 1)) }, by simp at hjn hg ⊢; omega, NewI.more (c := c0) (az := ([] : List AT)) hI hi (by rw [hH0]; simp) (by rw [hT]; simp) (by rw [hjn]; exact hfr _ 1 tk (fun xs e => by rw [htkn] at e; cases e)) hS hn1 hn2 (fun x hx hxi => (upd_other _ _ hxi).trans (hk1 x hx)) (fun x xs hx => (upd_other _ _ (fun e => by subst e; exact (by have := hk2 _ (show h'.T _ ≠ none by rw [hx]; simp); rw [hx, htkn] at this; cases this))).trans (hk2 x (by rw [hx]; simp))) (fun x hx => (upd_other _ _ (fun e => by subst e; exact hx htk0)).trans ((hk2 x (by rw [hI.2.2.2 x hx]; exact hx)).trans (hI.2.2.2 x hx))),
          .inr ⟨tk, by simp, rfl, by rw [show (([] : List AT) ++ [a]).length = 1 from rfl]; exact upd_same _ _ _, htk0⟩, upd_same _ _ _, (upd_other _ _ (fun e => by subst e; exact (by rw [hT2] at htkn; cases htkn))).trans hT2, by subst hjn; rfl⟩
      · (repeat (first | (with_reducible first | refine wB ?_ | refine wN ?_ | refine wT ?_) | ((with_reducible refine wI ?_); refine wN ?_) | ((first | (with_reducible first | refine uS (mdL [(5, 1), (14, 2)]) ?_ | refine uR (mdL [(5, 1), (14, 2)]) ?_ | refine wG ?_ | refine wH ?_ | refine wM ?_ ?_) | ((with_reducible refine xS ?_); refine uD 1 (mdL [(5, 1), (14, 2)]) [0, 1, 2, 3] [(4, [0], [5]), (6, [], [7])] 51 rfl (by kernel_rfl) ?_) | ((with_reducible refine xR ?_); refine uE 5 (mdL [(5, 1), (14, 2)]) [0, 1, 2, 3, 4, 5] [(6, [4], [7]), (8, [], [9, 10]), (11, [], [])] 51 rfl (by kernel_rfl) ?_)) <;> ((try with_reducible intro K1 hK1); simp only [go_sem, ↓reduceIte, reduceCtorEq, Nat.reduceAdd, Nat.reduceSub, Nat.reduceMul, Nat.reduceLT, Nat.reduceLeDiff, Nat.reduceEqDiff, Int.toNat_natCast, hge, hlen, htk, hdr, hH0]; (try and_intros); all_goals first | (refine hK1 _ ?_; clear hK1 K1) | (intros; first | (with_reducible trivial) | omega | (simp_all <;> omega)) | skip)) | (with_reducible first | refine wQ ?_ | refine zS ?_ | refine zN ?_ | refine zX ?_ | refine zE ?_ | refine zF ?_ | refine zO (by decide) ?_ | refine zB ?_)))
        refine (g_newPart d (kids.getD jn default) h' hbt).mono ?_
        rintro _ h2 ⟨a, rfl, hR, hS, hn1, hn2, hk1, hk2⟩
        have hH2 := (hk1 i (by rw [hH0]; simp)).trans hH0
        have hT2 := (hk2 c0 (by rw [hT]; simp)).trans hT
        refine hK1 _ ?_; clear hK1 K1
        have htk2 := (hk2 tk (by rw [htkT]; simp)).trans htkT
        (repeat (first | (with_reducible first | refine wB ?_ | refine wN ?_ | refine wT ?_) | ((with_reducible refine wI ?_); refine wN ?_) | ((first | (with_reducible first | refine uS (mdL [(5, 1), (14, 2)]) ?_ | refine uR (mdL [(5, 1), (14, 2)]) ?_ | refine wG ?_ | refine wH ?_ | refine wM ?_ ?_) | ((with_reducible refine xS ?_); refine uD 1 (mdL [(5, 1), (14, 2)]) [0, 1, 2, 3] [(4, [0], [5]), (6, [], [7])] 51 rfl (by kernel_rfl) ?_) | ((with_reducible refine xR ?_); refine uE 5 (mdL [(5, 1), (14, 2)]) [0, 1, 2, 3, 4, 5] [(6, [4], [7]), (8, [], [9, 10]), (11, [], [])] 51 rfl (by kernel_rfl) ?_)) <;> ((try with_reducible intro K1 hK1); simp only [go_sem, ↓reduceIte, reduceCtorEq, Nat.reduceAdd, Nat.reduceSub, Nat.reduceMul, Nat.reduceLT, Nat.reduceLeDiff, Nat.reduceEqDiff, Int.toNat_natCast, hge, hlen, htk, hdr, hH2, htk2]; (try and_intros); all_goals first | (refine hK1 _ ?_; clear hK1 K1) | (intros; first | (with_reducible trivial) | omega | (simp_all <;> omega)) | skip)) | (with_reducible first | refine wQ ?_ | refine zS ?_ | refine zN ?_ | refine zX ?_ | refine zE ?_ | refine zF ?_ | refine zO (by decide) ?_ | refine zB ?_)))
        have hfr : ∀ (Y : AO) (n : Nat) (tk : Nat), (∀ xs, h2.T tk ≠ some (.cont 1 xs)) → RAt XP { H := upd h2.H i (some Y), T := upd h2.T tk (some (.tail n)) } d (kids.getD jn default) a (ps0 (kids.getD jn default)) := fun Y n tk htk => hR.frame (fun x hx => upd_other _ _ (fun e => by subst e; exact absurd (hn1 _ hx) (by rw [hH0]; simp))) (fun x hx => upd_other _ _ (fun e => by subst e; obtain ⟨xs, e2⟩ := hR.cont _ hx; exact htk xs e2))
        have hrow : az.map (fun a : AT => [AV.ptr a.id 0]) ++ [[AV.ptr a.id 0]] = (az ++ [a]).map (fun a : AT => [AV.ptr a.id 0]) := by simp
        rw [hrow]
        refine ⟨g - 1, by omega, az ++ [a], .row 1 ((az ++ [a]).map fun a => [.ptr a.id 0]) (some tk), { H := upd h2.H i (some (.cells (cells9 kind item long many kids shares (.row 1 ((az ++ [a]).map fun a => [.ptr a.id 0]) (some tk)) 0 c0 ++ [.v (.int .i64 0)]))), T := upd h2.T tk (some (.tail (az.length + 1))) }, by simp at hjn hg ⊢; omega, NewI.more (c := c0) (az := az) hI hi (by rw [hH0]; simp) (by rw [hT]; simp) (by rw [hjn]; exact hfr _ (jn + 1) tk (fun xs e => by rw [htk2] at e; cases e)) hS hn1 hn2 (fun x hx hxi => (upd_other _ _ hxi).trans (hk1 x hx)) (fun x xs hx => (upd_other _ _ (fun e => by subst e; exact (by rw [htkT] at hx; cases hx))).trans (hk2 x (by rw [hx]; simp))) (fun x hx => (upd_other _ _ (fun e => by subst e; exact hx htk0)).trans ((hk2 x (by rw [hI.2.2.2 x hx]; exact hx)).trans (hI.2.2.2 x hx))),
          .inr ⟨tk, by simp, rfl, by rw [show (az ++ [a]).length = az.length + 1 by simp]; exact upd_same _ _ _, htk0⟩, upd_same _ _ _, (upd_other _ _ (fun e => by subst e; exact (by rw [hT2] at htk2; cases htk2))).trans hT2, by rw [show ((az ++ [a]).length : Int) = (jn : Int) + 1 by simp; omega]; rfl⟩
    · simp only [decide_eq_false_iff_not] at h6
      have hjk : az.length = kids.length := by omega
      have hK' : kidsC az K := by
        rcases hK with ⟨rfl, rfl⟩ | ⟨tk, _, rfl, _, _⟩
        · exact .inl ⟨rfl, rfl⟩
        · exact .inr ⟨some tk, rfl⟩
      clear hK hH0
      (repeat (first | (with_reducible first | refine wB ?_ | refine wN ?_ | refine wT ?_) | ((with_reducible refine wI ?_); refine wN ?_) | ((first | (with_reducible first | refine uS (mdL [(5, 1), (14, 2)]) ?_ | refine uR (mdL [(5, 1), (14, 2)]) ?_ | refine wG ?_ | refine wH ?_ | refine wM ?_ ?_) | ((with_reducible refine xS ?_); refine uD 1 (mdL [(5, 1), (14, 2)]) [0, 1, 2, 3] [(4, [0], [5]), (6, [], [7])] 51 rfl (by kernel_rfl) ?_) | ((with_reducible refine xR ?_); refine uE 5 (mdL [(5, 1), (14, 2)]) [0, 1, 2, 3, 4, 5] [(6, [4], [7]), (8, [], [9, 10]), (11, [], [])] 51 rfl (by kernel_rfl) ?_)) <;> ((try with_reducible intro K1 hK1); simp only [go_sem, ↓reduceIte, reduceCtorEq, Nat.reduceAdd, Nat.reduceSub, Nat.reduceMul, Nat.reduceLT, Nat.reduceLeDiff, Nat.reduceEqDiff]; (try and_intros); all_goals first | (refine hK1 _ ?_; clear hK1 K1) | (intros; first | (with_reducible trivial) | omega | (simp_all <;> omega)) | skip)) | (with_reducible first | refine zS ?_ | refine zN ?_ | refine zX ?_ | refine zE ?_ | refine zF ?_ | refine zO (by decide) ?_ | refine zB ?_)))
      refine awp_seq ?_
      (repeat (first | (with_reducible first | refine wB ?_ | refine wN ?_ | refine wT ?_) | ((with_reducible refine wI ?_); refine wN ?_) | ((first | (with_reducible first | refine uS (mdL [(5, 1), (14, 2)]) ?_ | refine uR (mdL [(5, 1), (14, 2)]) ?_ | refine wG ?_ | refine wH ?_ | refine wM ?_ ?_) | ((with_reducible refine xS ?_); refine uD 1 (mdL [(5, 1), (14, 2)]) [0, 1, 2, 3] [(4, [0], [5]), (6, [], [7])] 51 rfl (by kernel_rfl) ?_) | ((with_reducible refine xR ?_); refine uE 5 (mdL [(5, 1), (14, 2)]) [0, 1, 2, 3, 4, 5] [(6, [4], [7]), (8, [], [9, 10]), (11, [], [])] 51 rfl (by kernel_rfl) ?_)) <;> ((try with_reducible intro K1 hK1); simp only [go_sem, ↓reduceIte, reduceCtorEq, Nat.reduceAdd, Nat.reduceSub, Nat.reduceMul, Nat.reduceLT, Nat.reduceLeDiff, Nat.reduceEqDiff]; (try and_intros); all_goals first | (refine hK1 _ ?_; clear hK1 K1) | (intros; first | (with_reducible trivial) | omega | (simp_all <;> omega)) | skip)) | (with_reducible first | refine wQ ?_ | refine zS ?_ | refine zN ?_ | refine zX ?_ | refine zE ?_ | refine zF ?_ | refine zO (by decide) ?_ | refine zB ?_)))
      refine awp_loopC (rl false [3, 1, 31, 3, 13]) 0 (fun g s => ∃ j : Nat, g + j = shares.length ∧ s = ⟨((jnk 3 ((.ptr i 0) :: (jnk 31 ((.row 1 (shares.map encI) none) :: (.v (.int .i64 shares.length)) :: (.v (.int .i64 j)) :: (jnk 13 [])))))), [],
        { H := upd h'.H i (some (.cells (cells9 kind item long many kids shares K 0 c0 ++ [.v (.int .i64 (shares.take j).sum)]))), T := h'.T }⟩) shares.length ⟨0, by omega, ?_⟩ ?_
      · have e0 : ({ H := upd h'.H i (some (.cells (cells9 kind item long many kids shares K 0 c0 ++ [.v (.int .i64 (shares.take 0).sum)]))), T := h'.T } : Hp) = h' := by
          show (⟨upd h'.H i (some (.cells (cells9 kind item long many kids shares K 0 c0 ++ [.v (.int .i64 0)]))), h'.T⟩ : Hp) = h'
          rw [upd_self hH]
        rw [e0]; rfl
      rintro g _ ⟨j, hj, rfl⟩
      have hnb := sum_nb (shares.take j) fun x hx => b7 x (List.mem_of_mem_take hx)
      have hjl : (shares.take j).length ≤ 5 := by simp; omega
      have hH1 : (upd h'.H i (some (AO.cells (cells9 kind item long many kids shares K 0 c0 ++ [.v (.int .i64 (shares.take j).sum)])))) i = some (.cells [.v (.int .i64 kind), .v (.string item), .v (.int .i64 long), .v (.int .i64 many), .row 6 (kids.map encL) none, .row 1 (shares.map encI) none, K, .v (.int .i64 0), .arr 1 c0 kids.length, .v (.int .i64 (shares.take j).sum)]) := upd_same _ _ _
      (repeat (first | (with_reducible first | refine wB ?_ | refine wN ?_ | refine wT ?_) | ((with_reducible refine wI ?_); refine wN ?_) | ((first | (with_reducible first | refine uS (mdL [(5, 1), (14, 2)]) ?_ | refine uR (mdL [(5, 1), (14, 2)]) ?_ | refine wG ?_ | refine wH ?_ | refine wM ?_ ?_) | ((with_reducible refine xS ?_); refine uD 1 (mdL [(5, 1), (14, 2)]) [0, 1, 2, 3] [(4, [0], [5]), (6, [], [7])] 51 rfl (by kernel_rfl) ?_) | ((with_reducible refine xR ?_); refine uE 5 (mdL [(5, 1), (14, 2)]) [0, 1, 2, 3, 4, 5] [(6, [4], [7]), (8, [], [9, 10]), (11, [], [])] 51 rfl (by kernel_rfl) ?_)) <;> ((try with_reducible intro K1 hK1); simp only [go_sem, ↓reduceIte, reduceCtorEq, Nat.reduceAdd, Nat.reduceSub, Nat.reduceMul, Nat.reduceLT, Nat.reduceLeDiff, Nat.reduceEqDiff]; (try and_intros); all_goals first | (refine hK1 _ ?_; clear hK1 K1) | (intros; first | (with_reducible trivial) | omega | (simp_all <;> omega)) | skip)) | (with_reducible first | refine wQ ?_ | refine zS ?_ | refine zN ?_ | refine zX ?_ | refine zE ?_ | refine zF ?_ | refine zO (by decide) ?_ | refine zB ?_)))
      refine awp_cond (t := _) rfl (fun h7 => ?_) (fun h7 => ?_)
      · simp only [decide_eq_true_eq] at h7
        have hjs : j < shares.length := by omega
        have hgs : (shares.map encI).getD j [] = encI (shares.getD j 0) := getD_enc encI shares j 0 hjs
        have hms := b7 _ (getD_mem' shares j 0 hjs)
        have e1 : (shares.take (j + 1)).sum = (shares.take j).sum + shares.getD j 0 := by
          rw [List.take_add_one, List.getD_eq_getElem?_getD, List.getElem?_eq_getElem hjs, List.sum_append]; simp only [Option.toList_some, List.sum_cons, List.sum_nil, Option.getD_some]; omega
        have hb2 : NB (shares.getD j 0) := hms
        unfold NB at hb2
        (repeat (first | (with_reducible first | refine wB ?_ | refine wN ?_ | refine wT ?_) | ((with_reducible refine wI ?_); refine wN ?_) | ((first | (with_reducible first | refine uS (mdL [(5, 1), (14, 2)]) ?_ | refine uR (mdL [(5, 1), (14, 2)]) ?_ | refine wG ?_ | refine wH ?_ | refine wM ?_ ?_) | ((with_reducible refine xS ?_); refine uD 1 (mdL [(5, 1), (14, 2)]) [0, 1, 2, 3] [(4, [0], [5]), (6, [], [7])] 51 rfl (by kernel_rfl) ?_) | ((with_reducible refine xR ?_); refine uE 5 (mdL [(5, 1), (14, 2)]) [0, 1, 2, 3, 4, 5] [(6, [4], [7]), (8, [], [9, 10]), (11, [], [])] 51 rfl (by kernel_rfl) ?_)) <;> ((try with_reducible intro K1 hK1); simp only [go_sem, ↓reduceIte, reduceCtorEq, Nat.reduceAdd, Nat.reduceSub, Nat.reduceMul, Nat.reduceLT, Nat.reduceLeDiff, Nat.reduceEqDiff, Int.toNat_natCast, hgs, encI, cells9]; (try and_intros); all_goals first | (refine hK1 _ ?_; clear hK1 K1) | (intros; first | (with_reducible trivial) | omega | (simp_all <;> omega)) | skip)) | (with_reducible first | refine wQ ?_ | refine zS ?_ | refine zN ?_ | refine zX ?_ | refine zE ?_ | refine zF ?_ | refine zO (by decide) ?_ | refine zB ?_)))
        refine ⟨g - 1, by omega, j + 1, by omega, ?_⟩
        rw [e1]; rfl
      · simp only [decide_eq_false_iff_not] at h7
        have hjs : j = shares.length := by omega
        subst hjs
        rw [List.take_length]
        (repeat (first | (with_reducible first | refine wB ?_ | refine wN ?_ | refine wT ?_) | ((with_reducible refine wI ?_); refine wN ?_) | ((first | (with_reducible first | refine uS (mdL [(5, 1), (14, 2)]) ?_ | refine uR (mdL [(5, 1), (14, 2)]) ?_ | refine wG ?_ | refine wH ?_ | refine wM ?_ ?_) | ((with_reducible refine xS ?_); refine uD 1 (mdL [(5, 1), (14, 2)]) [0, 1, 2, 3] [(4, [0], [5]), (6, [], [7])] 51 rfl (by kernel_rfl) ?_) | ((with_reducible refine xR ?_); refine uE 5 (mdL [(5, 1), (14, 2)]) [0, 1, 2, 3, 4, 5] [(6, [4], [7]), (8, [], [9, 10]), (11, [], [])] 51 rfl (by kernel_rfl) ?_)) <;> ((try with_reducible intro K1 hK1); simp only [go_sem, ↓reduceIte, reduceCtorEq, Nat.reduceAdd, Nat.reduceSub, Nat.reduceMul, Nat.reduceLT, Nat.reduceLeDiff, Nat.reduceEqDiff]; (try and_intros); all_goals first | (refine hK1 _ ?_; clear hK1 K1) | (intros; first | (with_reducible trivial) | omega | (simp_all <;> omega)) | skip)) | (with_reducible first | refine wQ ?_ | refine zS ?_ | refine zN ?_ | refine zX ?_ | refine zE ?_ | refine zF ?_ | refine zO (by decide) ?_ | refine zB ?_)))
        refine zR ?_; (repeat (with_reducible first | refine zT ?_ | refine zU ?_)); simp only [Tryd.results26, go_sem, ↓reduceIte, reduceCtorEq, Nat.reduceAdd, Nat.reduceSub, Nat.reduceMul, Nat.reduceLT, Nat.reduceLeDiff, Nat.reduceEqDiff]
        obtain ⟨g1, g2, g3, g4⟩ := hI
        refine ⟨_, _, Weak.refl _, Hp.le.refl _, .mk i c0 az, rfl, ?_, ?_, ?_, ?_, fun x hx => (upd_other _ _ (fun e => by subst e; exact hx hi)).trans (g3 x hx), g4⟩
        · rw [ps0_eq]
          have hcf : XP.cf kind (kids.map fun _ => (0 : Int)) = kids.map fun _ => (0 : Int) := by
            simp only [XP]
            split
            · rfl
            · rw [List.length_map, ← List.map_const]; rfl
          refine ⟨⟨K, upd_same _ _ _, hK'⟩, by rw [hcf]; exact hT, by rw [hcf]; simp; omega, fun j hj => ?_⟩
          have e : (kids.map ps0).getD j default = ps0 (kids.getD j default) := by
            rw [List.getD_eq_getElem?_getD, List.getD_eq_getElem?_getD, List.getElem?_map, List.getElem?_eq_getElem hj]; rfl
          rw [e]
          exact (g1 j (by omega)).1.frame (fun x hx => upd_other _ _ (fun e => by subst e; exact (g1 j (by omega)).2.1.1 hx)) (fun _ _ => rfl)
        · exact fun j hj => ⟨(g1 j hj).2.1, fun l hl hne => g2 j l hj hl hne⟩
        · intro x hx
          rcases mem_idsT hx with rfl | ⟨j, hj, hx⟩
          · exact hi
          · exact (g1 j hj).2.2.1 x hx
        · intro x hx
          rcases mem_toksT hx with rfl | ⟨j, hj, hx⟩
          · exact hc0
          · exact (g1 j hj).2.2.2 x hx
end Go.Proofs.YtoleejecmefogaaDoor
/- Which kid a LoopShare plays, both ways. -/
namespace Go.Proofs.YtoleejecmefogaaDoor
open Go
set_option linter.unusedVariables false
set_option linter.unusedSimpArgs false
set_option maxRecDepth 100000
set_option maxHeartbeats 8000000
theorem mul_bd {a b A B : Int} (ha : 0 ≤ a ∧ a ≤ A) (hb : 0 ≤ b ∧ b ≤ B) : 0 ≤ a * b ∧ a * b ≤ A * B :=
  ⟨Int.mul_nonneg ha.1 hb.1, Int.mul_le_mul ha.2 hb.2 hb.1 (by omega)⟩
theorem sum_take_succ (l : List Int) (j : Nat) (h : j < l.length) : (l.take (j + 1)).sum = (l.take j).sum + l.getD j 0 := by
  rw [List.take_add_one, List.getD_eq_getElem?_getD, List.getElem?_eq_getElem h, List.sum_append]; simp only [Option.toList_some, List.sum_cons, List.sum_nil, Option.getD_some]; omega
theorem sum_01 : ∀ (l : List Int), (∀ x ∈ l, 1 ≤ x ∧ x ≤ 1000) → 0 ≤ l.sum ∧ l.sum ≤ l.length * 1000
  | [], _ => by simp
  | x :: l, h => by
    have h1 := h x (by simp)
    have h2 := sum_01 l fun y hy => h y (by simp [hy])
    simp only [List.sum_cons, List.length_cons]
    omega
theorem g_next46 (kind : Int) (item : ByteArray) (long many : Int) (kr : AV) (shares : List Int) (K : AV) (p : Int) (i c0 : Nat) (cs : List Int) (h : Hp) (hH : h.H i = some (.cells [.v (.int .i64 kind), .v (.string item), .v (.int .i64 long), .v (.int .i64 many), kr, .row 1 (shares.map encI) none, K, .v (.int .i64 p), .arr 1 c0 shares.length]))
    (hT : h.T c0 = some (.cont 1 (cs.map encI))) (hl : cs.length = shares.length) (hl2 : shares.length ≤ 5) (hs : ∀ x ∈ shares, 1 ≤ x ∧ x ≤ 1000) (hp : 0 ≤ p ∧ p ≤ 1000000) (hc : ∀ x ∈ cs, 0 ≤ x ∧ x ≤ 1000000) :
    ACalls Tryd.prog 46 [.ptr i 0] h (fun r h' => r = .v (.int .i64 (nextF shares p cs)) ∧ h' = h) := by
  refine acalls_of tyok Tryd.func46 rfl (by kernel_rfl) fun c => ?_; simp only [Tryd.ntmps46, List.length_cons, List.length_nil, Nat.reduceAdd, Nat.reduceSub, jnk_rep, List.cons_append, List.nil_append]
  (repeat (first | (with_reducible first | refine wB ?_ | refine wN ?_ | refine wT ?_) | ((with_reducible refine wI ?_); refine wN ?_) | ((first | ((with_reducible refine yS ?_); refine awp_keep 37778931862959175098861 100 (kS ?_)) | ((with_reducible refine yR ?_); refine awp_keep 37778931862959175098861 100 (kR ?_)) | (with_reducible first | refine wG ?_ | refine wH ?_ | refine wM ?_ ?_) | ((with_reducible refine xS ?_); refine awp_keep 37778931862959175098861 100 (uD 11 (mdL []) [0, 1, 2, 3, 4, 5, 6, 7, 8, 9, 10, 11, 12, 13, 14, 15, 16, 17, 18, 19, 20, 21, 22, 23, 24, 25, 26, 27, 28, 29, 30, 31, 32, 33, 34, 35, 36, 37, 38, 39, 40, 41] [] 79 rfl (by kernel_rfl) ?_))) <;> ((try with_reducible intro K1 hK1); simp only [go_sem, ↓reduceIte, reduceCtorEq, Nat.reduceAdd, Nat.reduceSub, Nat.reduceMul, Nat.reduceLT, Nat.reduceLeDiff, Nat.reduceEqDiff, hH, Nat.reduceMod, Nat.reduceDiv, Nat.reducePow]; (try and_intros); all_goals first | (refine hK1 _ ?_; clear hK1 K1) | (intros; first | (with_reducible trivial) | omega | (simp_all <;> omega)) | skip)) | (with_reducible first | refine zS ?_ | refine zN ?_ | refine zX ?_ | refine zE ?_ | refine zF ?_ | refine zO (by decide) ?_ | refine zB ?_)))
  refine awp_seq ?_
  (repeat (first | (with_reducible first | refine wB ?_ | refine wN ?_ | refine wT ?_) | ((with_reducible refine wI ?_); refine wN ?_) | ((first | ((with_reducible refine yS ?_); refine awp_keep 37778931862959175098861 100 (kS ?_)) | ((with_reducible refine yR ?_); refine awp_keep 37778931862959175098861 100 (kR ?_)) | (with_reducible first | refine wG ?_ | refine wH ?_ | refine wM ?_ ?_) | ((with_reducible refine xS ?_); refine awp_keep 37778931862959175098861 100 (uD 11 (mdL []) [0, 1, 2, 3, 4, 5, 6, 7, 8, 9, 10, 11, 12, 13, 14, 15, 16, 17, 18, 19, 20, 21, 22, 23, 24, 25, 26, 27, 28, 29, 30, 31, 32, 33, 34, 35, 36, 37, 38, 39, 40, 41] [] 79 rfl (by kernel_rfl) ?_))) <;> ((try with_reducible intro K1 hK1); simp only [go_sem, ↓reduceIte, reduceCtorEq, Nat.reduceAdd, Nat.reduceSub, Nat.reduceMul, Nat.reduceLT, Nat.reduceLeDiff, Nat.reduceEqDiff, hH, Nat.reduceMod, Nat.reduceDiv, Nat.reducePow]; (try and_intros); all_goals first | (refine hK1 _ ?_; clear hK1 K1) | (intros; first | (with_reducible trivial) | omega | (simp_all <;> omega)) | skip)) | (with_reducible first | refine wQ ?_ | refine zS ?_ | refine zN ?_ | refine zX ?_ | refine zE ?_ | refine zF ?_ | refine zO (by decide) ?_ | refine zB ?_)))
  refine awp_loopC (rl false [0, 1, 2, 1, 9, 3, 63]) 0 (fun g s => ∃ j : Nat, g + j = shares.length ∧ s = ⟨((.ptr i 0) :: AV.junk :: AV.junk :: ((.v (.int .i64 (shares.take j).sum)) :: (jnk 9 ((.row 1 (shares.map encI) none) :: (.v (.int .i64 shares.length)) :: (.v (.int .i64 j)) :: (jnk 63 []))))), [], h⟩) shares.length ⟨0, by omega, rfl⟩ ?_
  rintro g _ ⟨j, hj, rfl⟩
  have hsj := sum_01 (shares.take j) fun x hx => hs x (List.mem_of_mem_take hx)
  have hjl : (shares.take j).length ≤ 5 := by simp; omega
  (repeat (first | (with_reducible first | refine wB ?_ | refine wN ?_ | refine wT ?_) | ((with_reducible refine wI ?_); refine wN ?_) | ((first | ((with_reducible refine yS ?_); refine awp_keep 37778931862959175098861 100 (kS ?_)) | ((with_reducible refine yR ?_); refine awp_keep 37778931862959175098861 100 (kR ?_)) | (with_reducible first | refine wG ?_ | refine wH ?_ | refine wM ?_ ?_) | ((with_reducible refine xS ?_); refine awp_keep 37778931862959175098861 100 (uD 11 (mdL []) [0, 1, 2, 3, 4, 5, 6, 7, 8, 9, 10, 11, 12, 13, 14, 15, 16, 17, 18, 19, 20, 21, 22, 23, 24, 25, 26, 27, 28, 29, 30, 31, 32, 33, 34, 35, 36, 37, 38, 39, 40, 41] [] 79 rfl (by kernel_rfl) ?_))) <;> ((try with_reducible intro K1 hK1); simp only [go_sem, ↓reduceIte, reduceCtorEq, Nat.reduceAdd, Nat.reduceSub, Nat.reduceMul, Nat.reduceLT, Nat.reduceLeDiff, Nat.reduceEqDiff, hH, Nat.reduceMod, Nat.reduceDiv, Nat.reducePow]; (try and_intros); all_goals first | (refine hK1 _ ?_; clear hK1 K1) | (intros; first | (with_reducible trivial) | omega | (simp_all <;> omega)) | skip)) | (with_reducible first | refine wQ ?_ | refine zS ?_ | refine zN ?_ | refine zX ?_ | refine zE ?_ | refine zF ?_ | refine zO (by decide) ?_ | refine zB ?_)))
  refine awp_cond (t := _) rfl (fun h1 => ?_) (fun h1 => ?_)
  · simp only [decide_eq_true_eq] at h1
    have hjs : j < shares.length := by omega
    have hg : (shares.map encI).getD j [] = encI (shares.getD j 0) := getD_enc encI shares j 0 hjs
    have e1 := sum_take_succ shares j hjs
    have hb := hs _ (getD_mem' shares j 0 hjs)
    generalize shares.getD j 0 = x at hg e1 hb
    (repeat (first | (with_reducible first | refine wB ?_ | refine wN ?_ | refine wT ?_) | ((with_reducible refine wI ?_); refine wN ?_) | ((first | ((with_reducible refine yS ?_); refine awp_keep 37778931862959175098861 100 (kS ?_)) | ((with_reducible refine yR ?_); refine awp_keep 37778931862959175098861 100 (kR ?_)) | (with_reducible first | refine wG ?_ | refine wH ?_ | refine wM ?_ ?_) | ((with_reducible refine xS ?_); refine awp_keep 37778931862959175098861 100 (uD 11 (mdL []) [0, 1, 2, 3, 4, 5, 6, 7, 8, 9, 10, 11, 12, 13, 14, 15, 16, 17, 18, 19, 20, 21, 22, 23, 24, 25, 26, 27, 28, 29, 30, 31, 32, 33, 34, 35, 36, 37, 38, 39, 40, 41] [] 79 rfl (by kernel_rfl) ?_))) <;> ((try with_reducible intro K1 hK1); simp only [go_sem, ↓reduceIte, reduceCtorEq, Nat.reduceAdd, Nat.reduceSub, Nat.reduceMul, Nat.reduceLT, Nat.reduceLeDiff, Nat.reduceEqDiff, Int.toNat_natCast, hg, encI, Nat.reduceMod, Nat.reduceDiv, Nat.reducePow]; (try and_intros); all_goals first | (refine hK1 _ ?_; clear hK1 K1) | (intros; first | (with_reducible trivial) | omega | (simp_all <;> omega)) | skip)) | (with_reducible first | refine wQ ?_ | refine zS ?_ | refine zN ?_ | refine zX ?_ | refine zE ?_ | refine zF ?_ | refine zO (by decide) ?_ | refine zB ?_)))
    exact ⟨g - 1, by omega, j + 1, by omega, by rw [e1]; rfl⟩
  · simp only [decide_eq_false_iff_not] at h1
    have hjs : j = shares.length := by omega
    subst hjs
    rw [List.take_length] at hsj ⊢
    clear h1 hjl hj
    (repeat (first | (with_reducible first | refine wB ?_ | refine wN ?_ | refine wT ?_) | ((with_reducible refine wI ?_); refine wN ?_) | ((first | ((with_reducible refine yS ?_); refine awp_keep 37778931862959175098861 100 (kS ?_)) | ((with_reducible refine yR ?_); refine awp_keep 37778931862959175098861 100 (kR ?_)) | (with_reducible first | refine wG ?_ | refine wH ?_ | refine wM ?_ ?_) | ((with_reducible refine xS ?_); refine awp_keep 37778931862959175098861 100 (uD 11 (mdL []) [0, 1, 2, 3, 4, 5, 6, 7, 8, 9, 10, 11, 12, 13, 14, 15, 16, 17, 18, 19, 20, 21, 22, 23, 24, 25, 26, 27, 28, 29, 30, 31, 32, 33, 34, 35, 36, 37, 38, 39, 40, 41] [] 79 rfl (by kernel_rfl) ?_))) <;> ((try with_reducible intro K1 hK1); simp only [go_sem, ↓reduceIte, reduceCtorEq, Nat.reduceAdd, Nat.reduceSub, Nat.reduceMul, Nat.reduceLT, Nat.reduceLeDiff, Nat.reduceEqDiff, hH, Nat.reduceMod, Nat.reduceDiv, Nat.reducePow]; (try and_intros); all_goals first | (refine hK1 _ ?_; clear hK1 K1) | (intros; first | (with_reducible trivial) | omega | (simp_all <;> omega)) | skip)) | (with_reducible first | refine zS ?_ | refine zN ?_ | refine zX ?_ | refine zE ?_ | refine zF ?_ | refine zO (by decide) ?_ | refine zB ?_)))
    refine awp_seq ?_
    (repeat (first | (with_reducible first | refine wB ?_ | refine wN ?_ | refine wT ?_) | ((with_reducible refine wI ?_); refine wN ?_) | ((first | ((with_reducible refine yS ?_); refine awp_keep 37778931862959175098861 100 (kS ?_)) | ((with_reducible refine yR ?_); refine awp_keep 37778931862959175098861 100 (kR ?_)) | (with_reducible first | refine wG ?_ | refine wH ?_ | refine wM ?_ ?_) | ((with_reducible refine xS ?_); refine awp_keep 37778931862959175098861 100 (uD 11 (mdL []) [0, 1, 2, 3, 4, 5, 6, 7, 8, 9, 10, 11, 12, 13, 14, 15, 16, 17, 18, 19, 20, 21, 22, 23, 24, 25, 26, 27, 28, 29, 30, 31, 32, 33, 34, 35, 36, 37, 38, 39, 40, 41] [] 79 rfl (by kernel_rfl) ?_))) <;> ((try with_reducible intro K1 hK1); simp only [go_sem, ↓reduceIte, reduceCtorEq, Nat.reduceAdd, Nat.reduceSub, Nat.reduceMul, Nat.reduceLT, Nat.reduceLeDiff, Nat.reduceEqDiff, hH, Nat.reduceMod, Nat.reduceDiv, Nat.reducePow]; (try and_intros); all_goals first | (refine hK1 _ ?_; clear hK1 K1) | (intros; first | (with_reducible trivial) | omega | (simp_all <;> omega)) | skip)) | (with_reducible first | refine wQ ?_ | refine zS ?_ | refine zN ?_ | refine zX ?_ | refine zE ?_ | refine zF ?_ | refine zO (by decide) ?_ | refine zB ?_)))
    refine awp_loopC (rl false [0, 1, 2, 1, 2, 1, 20, 3, 49]) 0 (fun g s => ∃ j : Nat, g + j = shares.length ∧ s = ⟨((.ptr i 0) :: AV.junk :: AV.junk :: ((.v (.int .i64 shares.sum)) :: AV.junk :: AV.junk :: ((.v (.int .i64 (bestTo (shareV shares p cs) j))) :: (jnk 20 ((.row 1 (shares.map encI) none) :: (.v (.int .i64 shares.length)) :: (.v (.int .i64 j)) :: (jnk 49 [])))))), [], h⟩) shares.length ⟨0, by omega, rfl⟩ ?_
    rintro g _ ⟨j, hj, rfl⟩
    (repeat (first | (with_reducible first | refine wB ?_ | refine wN ?_ | refine wT ?_) | ((with_reducible refine wI ?_); refine wN ?_) | ((first | ((with_reducible refine yS ?_); refine awp_keep 37778931862959175098861 100 (kS ?_)) | ((with_reducible refine yR ?_); refine awp_keep 37778931862959175098861 100 (kR ?_)) | (with_reducible first | refine wG ?_ | refine wH ?_ | refine wM ?_ ?_) | ((with_reducible refine xS ?_); refine awp_keep 37778931862959175098861 100 (uD 11 (mdL []) [0, 1, 2, 3, 4, 5, 6, 7, 8, 9, 10, 11, 12, 13, 14, 15, 16, 17, 18, 19, 20, 21, 22, 23, 24, 25, 26, 27, 28, 29, 30, 31, 32, 33, 34, 35, 36, 37, 38, 39, 40, 41] [] 79 rfl (by kernel_rfl) ?_))) <;> ((try with_reducible intro K1 hK1); simp only [go_sem, ↓reduceIte, reduceCtorEq, Nat.reduceAdd, Nat.reduceSub, Nat.reduceMul, Nat.reduceLT, Nat.reduceLeDiff, Nat.reduceEqDiff, hH, Nat.reduceMod, Nat.reduceDiv, Nat.reducePow]; (try and_intros); all_goals first | (refine hK1 _ ?_; clear hK1 K1) | (intros; first | (with_reducible trivial) | omega | (simp_all <;> omega)) | skip)) | (with_reducible first | refine wQ ?_ | refine zS ?_ | refine zN ?_ | refine zX ?_ | refine zE ?_ | refine zF ?_ | refine zO (by decide) ?_ | refine zB ?_)))
    refine awp_cond (t := _) rfl (fun h1 => ?_) (fun h1 => ?_)
    · simp only [decide_eq_true_eq] at h1
      have hjs : j < shares.length := by omega
      have hbl : bestTo (shareV shares p cs) j < shares.length := by
        cases j with
        | zero => exact hjs
        | succ j => have := bestTo_lt (shareV shares p cs) (j + 1) (by omega); omega
      have e2 : bestTo (shareV shares p cs) (j + 1) = if shareV shares p cs j > shareV shares p cs (bestTo (shareV shares p cs) j) then j else bestTo (shareV shares p cs) j := rfl
      generalize bestTo (shareV shares p cs) j = b at *
      have e2t : shareV shares p cs b < shareV shares p cs j → bestTo (shareV shares p cs) (j + 1) = j := fun h => by rw [e2, if_pos h]
      have e2f : ¬ shareV shares p cs b < shareV shares p cs j → bestTo (shareV shares p cs) (j + 1) = b := fun h => by rw [e2, if_neg h]
      clear e2
      have hg : (shares.map encI).getD j [] = encI (shares.getD j 0) := getD_enc encI shares j 0 hjs
      have hgb : (shares.map encI).getD b [] = encI (shares.getD b 0) := getD_enc encI shares b 0 hbl
      have hcj : (cs.map encI).getD j [] = encI (cs.getD j 0) := getD_enc encI cs j 0 (by omega)
      have hcb : (cs.map encI).getD b [] = encI (cs.getD b 0) := getD_enc encI cs b 0 (by omega)
      have b1 := hs _ (getD_mem' shares j 0 hjs)
      have b2 := hs _ (getD_mem' shares b 0 hbl)
      have b3 := hc _ (getD_mem' cs j 0 (by omega))
      have b4 := hc _ (getD_mem' cs b 0 (by omega))
      have hss := sum_01 shares hs
      have m1 := mul_bd (a := shares.getD j 0) (b := p + 1) (A := 1000) (B := 1000001) (by omega) (by omega)
      have m2 := mul_bd (a := shares.getD b 0) (b := p + 1) (A := 1000) (B := 1000001) (by omega) (by omega)
      have m3 := mul_bd (a := cs.getD j 0) (b := shares.sum) (A := 1000000) (B := 5000) (by omega) (by omega)
      have m4 := mul_bd (a := cs.getD b 0) (b := shares.sum) (A := 1000000) (B := 5000) (by omega) (by omega)
      (repeat (first | (with_reducible first | refine wB ?_ | refine wN ?_ | refine wT ?_) | ((with_reducible refine wI ?_); refine wN ?_) | ((first | ((with_reducible refine yS ?_); refine awp_keep 37778931862959175098861 100 (kS ?_)) | ((with_reducible refine yR ?_); refine awp_keep 37778931862959175098861 100 (kR ?_)) | (with_reducible first | refine wG ?_ | refine wH ?_ | refine wM ?_ ?_) | ((with_reducible refine xS ?_); refine awp_keep 37778931862959175098861 100 (uD 11 (mdL []) [0, 1, 2, 3, 4, 5, 6, 7, 8, 9, 10, 11, 12, 13, 14, 15, 16, 17, 18, 19, 20, 21, 22, 23, 24, 25, 26, 27, 28, 29, 30, 31, 32, 33, 34, 35, 36, 37, 38, 39, 40, 41] [] 79 rfl (by kernel_rfl) ?_))) <;> ((try with_reducible intro K1 hK1); simp only [go_sem, ↓reduceIte, reduceCtorEq, Nat.reduceAdd, Nat.reduceSub, Nat.reduceMul, Nat.reduceLT, Nat.reduceLeDiff, Nat.reduceEqDiff, hH, hT, hl, Int.toNat_natCast, hg, hgb, hcj, hcb, encI, Nat.reduceMod, Nat.reduceDiv, Nat.reducePow]; (try and_intros); all_goals first | (refine hK1 _ ?_; clear hK1 K1) | (intros; first | (with_reducible trivial) | omega | (simp_all <;> omega)) | skip)) | (with_reducible first | refine wQ ?_ | refine zS ?_ | refine zN ?_ | refine zX ?_ | refine zE ?_ | refine zF ?_ | refine zO (by decide) ?_ | refine zB ?_)))
      refine awp_cond (t := _) rfl (fun h2 => ?_) (fun h2 => ?_)
      · (repeat (first | (with_reducible first | refine wB ?_ | refine wN ?_ | refine wT ?_) | ((with_reducible refine wI ?_); refine wN ?_) | ((first | ((with_reducible refine yS ?_); refine awp_keep 37778931862959175098861 100 (kS ?_)) | ((with_reducible refine yR ?_); refine awp_keep 37778931862959175098861 100 (kR ?_)) | (with_reducible first | refine wG ?_ | refine wH ?_ | refine wM ?_ ?_) | ((with_reducible refine xS ?_); refine awp_keep 37778931862959175098861 100 (uD 11 (mdL []) [0, 1, 2, 3, 4, 5, 6, 7, 8, 9, 10, 11, 12, 13, 14, 15, 16, 17, 18, 19, 20, 21, 22, 23, 24, 25, 26, 27, 28, 29, 30, 31, 32, 33, 34, 35, 36, 37, 38, 39, 40, 41] [] 79 rfl (by kernel_rfl) ?_))) <;> ((try with_reducible intro K1 hK1); simp only [go_sem, ↓reduceIte, reduceCtorEq, Nat.reduceAdd, Nat.reduceSub, Nat.reduceMul, Nat.reduceLT, Nat.reduceLeDiff, Nat.reduceEqDiff, Nat.reduceMod, Nat.reduceDiv, Nat.reducePow]; (try and_intros); all_goals first | (refine hK1 _ ?_; clear hK1 K1) | (intros; first | (with_reducible trivial) | omega | (simp_all <;> omega)) | skip)) | (with_reducible first | refine wQ ?_ | refine zS ?_ | refine zN ?_ | refine zX ?_ | refine zE ?_ | refine zF ?_ | refine zO (by decide) ?_ | refine zB ?_)))
        refine ⟨g - 1, by omega, j + 1, by omega, ?_⟩
        simp only [decide_eq_true_eq] at h2
        rw [e2t h2]; rfl
      · (repeat (first | (with_reducible first | refine wB ?_ | refine wN ?_ | refine wT ?_) | ((with_reducible refine wI ?_); refine wN ?_) | ((first | ((with_reducible refine yS ?_); refine awp_keep 37778931862959175098861 100 (kS ?_)) | ((with_reducible refine yR ?_); refine awp_keep 37778931862959175098861 100 (kR ?_)) | (with_reducible first | refine wG ?_ | refine wH ?_ | refine wM ?_ ?_) | ((with_reducible refine xS ?_); refine awp_keep 37778931862959175098861 100 (uD 11 (mdL []) [0, 1, 2, 3, 4, 5, 6, 7, 8, 9, 10, 11, 12, 13, 14, 15, 16, 17, 18, 19, 20, 21, 22, 23, 24, 25, 26, 27, 28, 29, 30, 31, 32, 33, 34, 35, 36, 37, 38, 39, 40, 41] [] 79 rfl (by kernel_rfl) ?_))) <;> ((try with_reducible intro K1 hK1); simp only [go_sem, ↓reduceIte, reduceCtorEq, Nat.reduceAdd, Nat.reduceSub, Nat.reduceMul, Nat.reduceLT, Nat.reduceLeDiff, Nat.reduceEqDiff, Nat.reduceMod, Nat.reduceDiv, Nat.reducePow]; (try and_intros); all_goals first | (refine hK1 _ ?_; clear hK1 K1) | (intros; first | (with_reducible trivial) | omega | (simp_all <;> omega)) | skip)) | (with_reducible first | refine wQ ?_ | refine zS ?_ | refine zN ?_ | refine zX ?_ | refine zE ?_ | refine zF ?_ | refine zO (by decide) ?_ | refine zB ?_)))
        refine ⟨g - 1, by omega, j + 1, by omega, ?_⟩
        simp only [decide_eq_false_iff_not] at h2
        rw [e2f h2]; rfl
    · simp only [decide_eq_false_iff_not] at h1
      have hjs : j = shares.length := by omega
      subst hjs
      (repeat (first | (with_reducible first | refine wB ?_ | refine wN ?_ | refine wT ?_) | ((with_reducible refine wI ?_); refine wN ?_) | ((first | ((with_reducible refine yS ?_); refine awp_keep 37778931862959175098861 100 (kS ?_)) | ((with_reducible refine yR ?_); refine awp_keep 37778931862959175098861 100 (kR ?_)) | (with_reducible first | refine wG ?_ | refine wH ?_ | refine wM ?_ ?_) | ((with_reducible refine xS ?_); refine awp_keep 37778931862959175098861 100 (uD 11 (mdL []) [0, 1, 2, 3, 4, 5, 6, 7, 8, 9, 10, 11, 12, 13, 14, 15, 16, 17, 18, 19, 20, 21, 22, 23, 24, 25, 26, 27, 28, 29, 30, 31, 32, 33, 34, 35, 36, 37, 38, 39, 40, 41] [] 79 rfl (by kernel_rfl) ?_))) <;> ((try with_reducible intro K1 hK1); simp only [go_sem, ↓reduceIte, reduceCtorEq, Nat.reduceAdd, Nat.reduceSub, Nat.reduceMul, Nat.reduceLT, Nat.reduceLeDiff, Nat.reduceEqDiff, Nat.reduceMod, Nat.reduceDiv, Nat.reducePow]; (try and_intros); all_goals first | (refine hK1 _ ?_; clear hK1 K1) | (intros; first | (with_reducible trivial) | omega | (simp_all <;> omega)) | skip)) | (with_reducible first | refine wQ ?_ | refine zS ?_ | refine zN ?_ | refine zX ?_ | refine zE ?_ | refine zF ?_ | refine zO (by decide) ?_ | refine zB ?_)))
      refine zR ?_; (repeat (with_reducible first | refine zT ?_ | refine zU ?_)); simp only [Tryd.results46, go_sem, ↓reduceIte, reduceCtorEq, Nat.reduceAdd, Nat.reduceSub, Nat.reduceMul, Nat.reduceLT, Nat.reduceLeDiff, Nat.reduceEqDiff]
      exact ⟨_, _, Weak.refl _, Hp.le.refl _, rfl, rfl⟩
end Go.Proofs.YtoleejecmefogaaDoor
