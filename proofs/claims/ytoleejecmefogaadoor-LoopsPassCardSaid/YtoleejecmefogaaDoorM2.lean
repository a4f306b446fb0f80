/- loop.part.behind: the same kid as runner.next. -/
import Derived.Test.YtoleejecmefogaaDoorM1
namespace Go.Proofs.YtoleejecmefogaaDoor
open Go
set_option linter.unusedVariables false
set_option linter.unusedSimpArgs false
set_option maxRecDepth 100000
set_option maxHeartbeats 8000000
theorem g_behind45 (kind : Int) (item : ByteArray) (long many : Int) (kr : AV) (shares : List Int) (K : AV) (p : Int) (i c0 : Nat) (cs : List Int) (h : Hp) (hH : h.H i = some (.cells [.v (.int .i64 kind), .v (.string item), .v (.int .i64 long), .v (.int .i64 many), kr, .row 1 (shares.map encI) none, K, .v (.int .i64 p), .arr 1 c0 shares.length, .v (.int .i64 shares.sum)]))
    (hT : h.T c0 = some (.cont 1 (cs.map encI))) (hl : cs.length = shares.length) (hl2 : shares.length ≤ 5) (hs : ∀ x ∈ shares, 1 ≤ x ∧ x ≤ 1000) (hp : 0 ≤ p ∧ p ≤ 1000000) (hc : ∀ x ∈ cs, 0 ≤ x ∧ x ≤ 1000000) :
    ACalls Tryd.prog 45 [.ptr i 0] h (fun r h' => r = .v (.int .i64 (nextF shares p cs)) ∧ h' = h) := by
  refine acalls_of tyok Tryd.func45 rfl (by kernel_rfl) fun c => ?_; simp only [Tryd.ntmps45, List.length_cons, List.length_nil, Nat.reduceAdd, Nat.reduceSub, jnk_rep, List.cons_append, List.nil_append]
  (repeat (first | (with_reducible first | refine wB ?_ | refine wN ?_ | refine wT ?_) | ((with_reducible refine wI ?_); refine wN ?_) | ((first | ((with_reducible refine yS ?_); refine awp_keep 35184372150525 100 (kS ?_)) | ((with_reducible refine yR ?_); refine awp_keep 35184372150525 100 (kR ?_)) | (with_reducible first | refine wG ?_ | refine wH ?_ | refine wM ?_ ?_) | ((with_reducible refine xS ?_); refine awp_keep 35184372150525 100 (uD 5 (mdL []) [0, 1, 2, 3, 4, 5, 6, 7, 8, 9, 10, 11, 12, 13, 14, 15, 16, 17, 18, 19, 20] [] 50 rfl (by kernel_rfl) ?_))) <;> ((try with_reducible intro K1 hK1); simp only [go_sem, ↓reduceIte, reduceCtorEq, Nat.reduceAdd, Nat.reduceSub, Nat.reduceMul, Nat.reduceLT, Nat.reduceLeDiff, Nat.reduceEqDiff, hH, Nat.reduceMod, Nat.reduceDiv, Nat.reducePow]; (try and_intros); all_goals first | (refine hK1 _ ?_; clear hK1 K1) | (intros; first | (with_reducible trivial) | omega | (simp_all <;> omega)) | skip)) | (with_reducible first | refine zS ?_ | refine zN ?_ | refine zX ?_ | refine zE ?_ | refine zF ?_ | refine zO (by decide) ?_ | refine zB ?_)))
  refine awp_seq ?_
  (repeat (first | (with_reducible first | refine wB ?_ | refine wN ?_ | refine wT ?_) | ((with_reducible refine wI ?_); refine wN ?_) | ((first | ((with_reducible refine yS ?_); refine awp_keep 35184372150525 100 (kS ?_)) | ((with_reducible refine yR ?_); refine awp_keep 35184372150525 100 (kR ?_)) | (with_reducible first | refine wG ?_ | refine wH ?_ | refine wM ?_ ?_) | ((with_reducible refine xS ?_); refine awp_keep 35184372150525 100 (uD 5 (mdL []) [0, 1, 2, 3, 4, 5, 6, 7, 8, 9, 10, 11, 12, 13, 14, 15, 16, 17, 18, 19, 20] [] 50 rfl (by kernel_rfl) ?_))) <;> ((try with_reducible intro K1 hK1); simp only [go_sem, ↓reduceIte, reduceCtorEq, Nat.reduceAdd, Nat.reduceSub, Nat.reduceMul, Nat.reduceLT, Nat.reduceLeDiff, Nat.reduceEqDiff, hH, Nat.reduceMod, Nat.reduceDiv, Nat.reducePow]; (try and_intros); all_goals first | (refine hK1 _ ?_; clear hK1 K1) | (intros; first | (with_reducible trivial) | omega | (simp_all <;> omega)) | skip)) | (with_reducible first | refine wQ ?_ | refine zS ?_ | refine zN ?_ | refine zX ?_ | refine zE ?_ | refine zF ?_ | refine zO (by decide) ?_ | refine zB ?_)))
  refine awp_loopC (rl false [0, 1, 2, 2, 7, 3, 35]) 0 (fun g s => ∃ (j : Nat) (m : Int), g + j = shares.length ∧ (j ≠ 0 → m = shareV shares p cs (bestTo (shareV shares p cs) j)) ∧ (-10000000000 ≤ m ∧ m ≤ 10000000000) ∧
    s = ⟨((.ptr i 0) :: AV.junk :: AV.junk :: ((.v (.int .i64 (bestTo (shareV shares p cs) j))) :: (.v (.int .i64 m)) :: (jnk 7 ((.row 1 (shares.map encI) none) :: (.v (.int .i64 shares.length)) :: (.v (.int .i64 j)) :: (jnk 35 []))))), [], h⟩) shares.length ⟨0, 0, by omega, fun h => absurd rfl h, by omega, rfl⟩ ?_
  rintro g _ ⟨j, m, hj, hm, hmb, rfl⟩
  (repeat (first | (with_reducible first | refine wB ?_ | refine wN ?_ | refine wT ?_) | ((with_reducible refine wI ?_); refine wN ?_) | ((first | ((with_reducible refine yS ?_); refine awp_keep 35184372150525 100 (kS ?_)) | ((with_reducible refine yR ?_); refine awp_keep 35184372150525 100 (kR ?_)) | (with_reducible first | refine wG ?_ | refine wH ?_ | refine wM ?_ ?_) | ((with_reducible refine xS ?_); refine awp_keep 35184372150525 100 (uD 5 (mdL []) [0, 1, 2, 3, 4, 5, 6, 7, 8, 9, 10, 11, 12, 13, 14, 15, 16, 17, 18, 19, 20] [] 50 rfl (by kernel_rfl) ?_))) <;> ((try with_reducible intro K1 hK1); simp only [go_sem, ↓reduceIte, reduceCtorEq, Nat.reduceAdd, Nat.reduceSub, Nat.reduceMul, Nat.reduceLT, Nat.reduceLeDiff, Nat.reduceEqDiff, hH, Nat.reduceMod, Nat.reduceDiv, Nat.reducePow]; (try and_intros); all_goals first | (refine hK1 _ ?_; clear hK1 K1) | (intros; first | (with_reducible trivial) | omega | (simp_all <;> omega)) | skip)) | (with_reducible first | refine wQ ?_ | refine zS ?_ | refine zN ?_ | refine zX ?_ | refine zE ?_ | refine zF ?_ | refine zO (by decide) ?_ | refine zB ?_)))
  refine awp_cond (t := _) rfl (fun h1 => ?_) (fun h1 => ?_)
  · simp only [decide_eq_true_eq] at h1
    have hjs : j < shares.length := by omega
    have e2 : bestTo (shareV shares p cs) (j + 1) = if shareV shares p cs j > shareV shares p cs (bestTo (shareV shares p cs) j) then j else bestTo (shareV shares p cs) j := rfl
    have e0 : j = 0 → bestTo (shareV shares p cs) (j + 1) = j := fun h => by subst h; simp [bestTo]
    have e2t : j ≠ 0 → m < shareV shares p cs j → bestTo (shareV shares p cs) (j + 1) = j := fun h0 h => by rw [e2, if_pos (by rw [hm h0] at h; exact h)]
    have e2f : j ≠ 0 → ¬ m < shareV shares p cs j → bestTo (shareV shares p cs) (j + 1) = bestTo (shareV shares p cs) j := fun h0 h => by rw [e2, if_neg (by rw [hm h0] at h; exact h)]
    clear e2
    have hg : (shares.map encI).getD j [] = encI (shares.getD j 0) := getD_enc encI shares j 0 hjs
    have hcj : (cs.map encI).getD j [] = encI (cs.getD j 0) := getD_enc encI cs j 0 (by omega)
    have b1 := hs _ (getD_mem' shares j 0 hjs)
    have b3 := hc _ (getD_mem' cs j 0 (by omega))
    have hss := sum_01 shares hs
    have m1 := mul_bd (a := shares.getD j 0) (b := p + 1) (A := 1000) (B := 1000001) (by omega) (by omega)
    have m3 := mul_bd (a := cs.getD j 0) (b := shares.sum) (A := 1000000) (B := 5000) (by omega) (by omega)
    have hv : shareV shares p cs j = shares.getD j 0 * (p + 1) - cs.getD j 0 * shares.sum := rfl
    (repeat (first | (with_reducible first | refine wB ?_ | refine wN ?_ | refine wT ?_) | ((with_reducible refine wI ?_); refine wN ?_) | ((first | ((with_reducible refine yS ?_); refine awp_keep 35184372150525 100 (kS ?_)) | ((with_reducible refine yR ?_); refine awp_keep 35184372150525 100 (kR ?_)) | (with_reducible first | refine wG ?_ | refine wH ?_ | refine wM ?_ ?_) | ((with_reducible refine xS ?_); refine awp_keep 35184372150525 100 (uD 5 (mdL []) [0, 1, 2, 3, 4, 5, 6, 7, 8, 9, 10, 11, 12, 13, 14, 15, 16, 17, 18, 19, 20] [] 50 rfl (by kernel_rfl) ?_))) <;> ((try with_reducible intro K1 hK1); simp only [go_sem, ↓reduceIte, reduceCtorEq, Nat.reduceAdd, Nat.reduceSub, Nat.reduceMul, Nat.reduceLT, Nat.reduceLeDiff, Nat.reduceEqDiff, hH, hT, hl, Int.toNat_natCast, hg, hcj, encI, Nat.reduceMod, Nat.reduceDiv, Nat.reducePow]; (try and_intros); all_goals first | (refine hK1 _ ?_; clear hK1 K1) | (intros; first | (with_reducible trivial) | omega | (simp_all <;> omega)) | skip)) | (with_reducible first | refine wQ ?_ | refine zS ?_ | refine zN ?_ | refine zX ?_ | refine zE ?_ | refine zF ?_ | refine zO (by decide) ?_ | refine zB ?_)))
    refine awp_cond (t := _) rfl (fun h2 => ?_) (fun h2 => ?_)
    · (repeat (first | (with_reducible first | refine wB ?_ | refine wN ?_ | refine wT ?_) | ((with_reducible refine wI ?_); refine wN ?_) | ((first | ((with_reducible refine yS ?_); refine awp_keep 35184372150525 100 (kS ?_)) | ((with_reducible refine yR ?_); refine awp_keep 35184372150525 100 (kR ?_)) | (with_reducible first | refine wG ?_ | refine wH ?_ | refine wM ?_ ?_) | ((with_reducible refine xS ?_); refine awp_keep 35184372150525 100 (uD 5 (mdL []) [0, 1, 2, 3, 4, 5, 6, 7, 8, 9, 10, 11, 12, 13, 14, 15, 16, 17, 18, 19, 20] [] 50 rfl (by kernel_rfl) ?_))) <;> ((try with_reducible intro K1 hK1); simp only [go_sem, ↓reduceIte, reduceCtorEq, Nat.reduceAdd, Nat.reduceSub, Nat.reduceMul, Nat.reduceLT, Nat.reduceLeDiff, Nat.reduceEqDiff, Nat.reduceMod, Nat.reduceDiv, Nat.reducePow]; (try and_intros); all_goals first | (refine hK1 _ ?_; clear hK1 K1) | (intros; first | (with_reducible trivial) | omega | (simp_all <;> omega)) | skip)) | (with_reducible first | refine wQ ?_ | refine zS ?_ | refine zN ?_ | refine zX ?_ | refine zE ?_ | refine zF ?_ | refine zO (by decide) ?_ | refine zB ?_)))
      have e3 : bestTo (shareV shares p cs) (j + 1) = j := by
        simp only [Bool.or_eq_true, beq_iff_eq, decide_eq_true_eq] at h2
        by_cases h0 : j = 0
        · exact e0 h0
        · exact e2t h0 (by rw [hv]; omega)
      exact ⟨g - 1, by omega, j + 1, shares.getD j 0 * (p + 1) - cs.getD j 0 * shares.sum, by omega, fun _ => by rw [e3, hv], by omega, by rw [e3]; rfl⟩
    · (repeat (first | (with_reducible first | refine wB ?_ | refine wN ?_ | refine wT ?_) | ((with_reducible refine wI ?_); refine wN ?_) | ((first | ((with_reducible refine yS ?_); refine awp_keep 35184372150525 100 (kS ?_)) | ((with_reducible refine yR ?_); refine awp_keep 35184372150525 100 (kR ?_)) | (with_reducible first | refine wG ?_ | refine wH ?_ | refine wM ?_ ?_) | ((with_reducible refine xS ?_); refine awp_keep 35184372150525 100 (uD 5 (mdL []) [0, 1, 2, 3, 4, 5, 6, 7, 8, 9, 10, 11, 12, 13, 14, 15, 16, 17, 18, 19, 20] [] 50 rfl (by kernel_rfl) ?_))) <;> ((try with_reducible intro K1 hK1); simp only [go_sem, ↓reduceIte, reduceCtorEq, Nat.reduceAdd, Nat.reduceSub, Nat.reduceMul, Nat.reduceLT, Nat.reduceLeDiff, Nat.reduceEqDiff, Nat.reduceMod, Nat.reduceDiv, Nat.reducePow]; (try and_intros); all_goals first | (refine hK1 _ ?_; clear hK1 K1) | (intros; first | (with_reducible trivial) | omega | (simp_all <;> omega)) | skip)) | (with_reducible first | refine wQ ?_ | refine zS ?_ | refine zN ?_ | refine zX ?_ | refine zE ?_ | refine zF ?_ | refine zO (by decide) ?_ | refine zB ?_)))
      simp only [Bool.or_eq_false_iff, beq_eq_false_iff_ne, decide_eq_false_iff_not] at h2
      have h0 : j ≠ 0 := by omega
      have e3 := e2f h0 (by rw [hv]; omega)
      exact ⟨g - 1, by omega, j + 1, m, by omega, fun _ => by rw [e3]; exact hm h0, by omega, by rw [e3]; rfl⟩
  · simp only [decide_eq_false_iff_not] at h1
    have hjs : j = shares.length := by omega
    subst hjs
    (repeat (first | (with_reducible first | refine wB ?_ | refine wN ?_ | refine wT ?_) | ((with_reducible refine wI ?_); refine wN ?_) | ((first | ((with_reducible refine yS ?_); refine awp_keep 35184372150525 100 (kS ?_)) | ((with_reducible refine yR ?_); refine awp_keep 35184372150525 100 (kR ?_)) | (with_reducible first | refine wG ?_ | refine wH ?_ | refine wM ?_ ?_) | ((with_reducible refine xS ?_); refine awp_keep 35184372150525 100 (uD 5 (mdL []) [0, 1, 2, 3, 4, 5, 6, 7, 8, 9, 10, 11, 12, 13, 14, 15, 16, 17, 18, 19, 20] [] 50 rfl (by kernel_rfl) ?_))) <;> ((try with_reducible intro K1 hK1); simp only [go_sem, ↓reduceIte, reduceCtorEq, Nat.reduceAdd, Nat.reduceSub, Nat.reduceMul, Nat.reduceLT, Nat.reduceLeDiff, Nat.reduceEqDiff, Nat.reduceMod, Nat.reduceDiv, Nat.reducePow]; (try and_intros); all_goals first | (refine hK1 _ ?_; clear hK1 K1) | (intros; first | (with_reducible trivial) | omega | (simp_all <;> omega)) | skip)) | (with_reducible first | refine wQ ?_ | refine zS ?_ | refine zN ?_ | refine zX ?_ | refine zE ?_ | refine zF ?_ | refine zO (by decide) ?_ | refine zB ?_)))
    refine zR ?_; (repeat (with_reducible first | refine zT ?_ | refine zU ?_)); simp only [Tryd.results45, go_sem, ↓reduceIte, reduceCtorEq, Nat.reduceAdd, Nat.reduceSub, Nat.reduceMul, Nat.reduceLT, Nat.reduceLeDiff, Nat.reduceEqDiff]
    exact ⟨_, _, Weak.refl _, Hp.le.refl _, rfl, rfl⟩
theorem g_full28 (o k : Nat) (h : Hp) (xs : List (ByteArray × Int)) (hO : OutAt h o k [.v (.int .i64 5000)] xs) : ACalls Tryd.prog 28 [.ptr o 0] h (fun r h' => r = .v (.bool (decide (5000 < (xs.length : Int)))) ∧ h' = h) := by
  have hH : h.H o = some (.cells [.row 2 (xs.map encStep) (some k), .v (.int .i64 5000)]) := hO.1
  refine acalls_of tyok Tryd.func28 rfl (by kernel_rfl) fun c => ?_; simp only [Tryd.ntmps28, List.length_cons, List.length_nil, Nat.reduceAdd, Nat.reduceSub, jnk_rep, List.cons_append, List.nil_append]
  (repeat (first | (with_reducible first | refine wB ?_ | refine wN ?_ | refine wT ?_) | ((with_reducible refine wI ?_); refine wN ?_) | ((first | (with_reducible first | refine kS ?_ | refine kR ?_ | refine wG ?_ | refine wH ?_ | refine wM ?_ ?_) | ((with_reducible refine xS ?_); refine uD 1 (mdL []) [0, 1, 2, 3, 4, 5, 6, 7, 8, 9, 10] [] 13 rfl (by kernel_rfl) ?_)) <;> ((try with_reducible intro K1 hK1); simp only [go_sem, ↓reduceIte, reduceCtorEq, Nat.reduceAdd, Nat.reduceSub, Nat.reduceMul, Nat.reduceLT, Nat.reduceLeDiff, Nat.reduceEqDiff, hH]; (try and_intros); all_goals first | (refine hK1 _ ?_; clear hK1 K1) | (intros; first | (with_reducible trivial) | omega | (simp_all <;> omega)) | skip)) | (with_reducible first | refine wQ ?_ | refine zS ?_ | refine zN ?_)))
  refine zR ?_; (repeat (with_reducible first | refine zT ?_ | refine zU ?_)); simp only [Tryd.results28, go_sem, ↓reduceIte, reduceCtorEq, Nat.reduceAdd, Nat.reduceSub, Nat.reduceMul, Nat.reduceLT, Nat.reduceLeDiff, Nat.reduceEqDiff]
  exact ⟨_, _, Weak.refl _, Hp.le.refl _, rfl, rfl⟩
end Go.Proofs.YtoleejecmefogaaDoor
/- Passes: what is kept of memory, and the plain law of counts. -/
namespace Go.Proofs.YtoleejecmefogaaDoor
open Go
set_option linter.unusedVariables false
set_option linter.unusedSimpArgs false
set_option maxRecDepth 100000
/-- What a pass may turn. -/
def FrP (a : AT) (o k : Nat) (h h' : Hp) : Prop := (∀ i, i ∉ idsT a → i ≠ o → h'.H i = h.H i) ∧ (∀ c, c ∉ toksT a → c ≠ k → h'.T c = h.T c)
theorem FrP.trans {a : AT} {o k : Nat} {h h1 h2 : Hp} (f : FrP a o k h h1) (g : FrP a o k h1 h2) : FrP a o k h h2 :=
  ⟨fun i x y => (g.1 i x y).trans (f.1 i x y), fun i x y => (g.2 i x y).trans (f.2 i x y)⟩
theorem FrP.kid {i c : Nat} {az : List AT} {j : Nat} {o k : Nat} {h h' : Hp} (hj : j < az.length) (f : FrP (az.getD j default) o k h h') : FrP (.mk i c az) o k h h' :=
  ⟨fun x hx ho => f.1 x (fun h => hx (idsT_kid hj h)) ho, fun x hx ho => f.2 x (fun h => hx (toksT_kid hj h)) ho⟩
theorem getD_setS {α : Type} (l : List α) (j : Nat) (x d : α) (h : j < l.length) : (l.set j x).getD j d = x := by rw [List.getD_eq_getElem?_getD, List.getElem?_set_self h]; rfl
theorem getD_setN {α : Type} (l : List α) (j i : Nat) (x d : α) (h : j ≠ i) : (l.set j x).getD i d = l.getD i d := by rw [List.getD_eq_getElem?_getD, List.getElem?_set_ne h, ← List.getD_eq_getElem?_getD]
/-- A kid that was played. -/
theorem RAt.kid {X : RK} {h h' : Hp} {d : Nat} {kind : Int} {item : ByteArray} {long many : Int} {kids : List LT} {shares : List Int} {i c : Nat} {az : List AT} {p : Int} {cs : List Int} {ks : List PS}
    (hR : RAt X h (d + 1) (.mk kind item long many kids shares) (.mk i c az) (.mk p cs ks)) (hS : Sep (d + 1) (.mk i c az)) {o k : Nat} (ho : o ∉ idsT (.mk i c az)) (hk : k ∉ toksT (.mk i c az)) {j : Nat} (hj : j < kids.length) {s' : PS}
    (hj' : RAt X h' d (kids.getD j default) (az.getD j default) s') (hf : FrP (az.getD j default) o k h h') : RAt X h' (d + 1) (.mk kind item long many kids shares) (.mk i c az) (.mk p cs (ks.set j s')) := by
  obtain ⟨⟨K, h1, hK⟩, h2, ⟨l1, l2, l3, l4⟩, h4⟩ := hR
  have hjz : j < az.length := by omega
  have hSj := hS j hjz
  refine ⟨⟨K, (hf.1 i hSj.1.1 (fun e => ho (by rw [idsT_eq, e]; simp))).trans h1, hK⟩, (hf.2 c hSj.1.2.1 (fun e => hk (by rw [toksT_eq, e]; simp))).trans h2, ⟨l1, l2, l3, by simpa using l4⟩, fun l hl => ?_⟩
  by_cases hlj : j = l
  · subst hlj
    rw [getD_setS _ _ _ _ (by omega)]
    exact hj'
  · rw [getD_setN _ _ _ _ _ hlj]
    have hd := hSj.2 l (by omega) (fun e => hlj e.symm)
    exact (h4 l hl).frame (fun x hx => hf.1 x (fun hx2 => hd.1 x hx2 hx) (fun e => ho (by rw [← e]; exact idsT_kid (by omega) hx))) (fun x hx => hf.2 x (fun hx2 => hd.2 x hx2 hx) (fun e => hk (by rw [← e]; exact toksT_kid (by omega) hx)))
theorem RAt.tokNe {X : RK} {h : Hp} {d : Nat} {t : LT} {a : AT} {s : PS} (hR : RAt X h d t a s) {k n : Nat} (hk : h.T k = some (.tail n)) : k ∉ toksT a := fun hx => by
  obtain ⟨xs, e⟩ := hR.cont k hx
  rw [hk] at e; cases e
/-- What is known of a fold's state: no count above n. -/
def FOk (d : Nat) (kids : List LT) (n : Int) (a : List Int × List PS) : Prop :=
  (a.1.length = kids.length ∧ a.2.length = kids.length) ∧ (∀ x ∈ a.1, 0 ≤ x ∧ x ≤ n) ∧ ∀ j, j < kids.length → PSB d (kids.getD j default) (a.2.getD j default) n
theorem mem_set_or {l : List Int} {j : Nat} {v x : Int} (h : x ∈ l.set j v) : x ∈ l ∨ x = v := List.mem_or_eq_of_mem_set h
theorem stepU_ok {d : Nat} {f : LT → PS → PS × List (ByteArray × Int)} {kids : List LT} {n : Int} {a : (List Int × List PS) × List (ByteArray × Int)} (hf : FOk d kids n a.1) {i : Nat} (hi : i < kids.length) {m : Nat}
    (hm : (f (kids.getD i default) (a.1.2.getD i default)).2.length = m) (hm1 : 1 ≤ m) (hp : PSB d (kids.getD i default) (f (kids.getD i default) (a.1.2.getD i default)).1 (n + m)) : FOk d kids (n + m) (stepU f kids a i).1 ∧ (stepU f kids a i).2.length = a.2.length + m := by
  obtain ⟨⟨l1, l2⟩, h1, h2⟩ := hf
  refine ⟨⟨⟨by simp [stepU, l1], by simp [stepU, l2]⟩, fun x hx => ?_, fun j hj => ?_⟩, by simp only [stepU, List.length_append, hm]⟩
  · rcases mem_set_or hx with h | h
    · have := h1 x h; omega
    · have := h1 _ (getD_mem' a.1.1 i 0 (by omega)); omega
  · simp only [stepU]
    by_cases hij : i = j
    · subst hij; rw [getD_setS _ _ _ _ (by omega)]; exact hp
    · rw [getD_setN _ _ _ _ _ hij]; exact (h2 j hj).mono (by omega)
theorem idxL_lt {kind p many : Int} {nk nx : Nat} (hk : 1 ≤ kind ∧ kind ≤ 5) (hn : kind ≠ 1 → 0 < nk) (hx : kind = 4 → nx < nk) (hp : 0 ≤ p) : ∀ i ∈ idxL kind p many nk nx, i < nk := by
  intro i hi
  unfold idxL at hi
  split at hi
  · simp at hi
  · rename_i h1
    have h0 := hn h1
    split at hi
    · simpa using hi
    · split at hi
      · simp only [List.mem_singleton] at hi
        subst hi
        have := Int.tmod_lt_of_pos p (show (0 : Int) < nk by omega)
        have := Int.tmod_nonneg (nk : Int) hp
        omega
      · split at hi
        · simp only [List.mem_singleton] at hi; subst hi; exact hx (by assumption)
        · have := (List.mem_replicate.1 hi).2; omega
theorem idxL_ne {kind p many : Int} {nk nx : Nat} (hk : 1 ≤ kind ∧ kind ≤ 5) (h1 : kind ≠ 1) (hn : 0 < nk) (hm : kind = 5 → 1 ≤ many) : idxL kind p many nk nx ≠ [] := by
  unfold idxL
  rw [if_neg h1]
  split
  · intro h; have := congrArg List.length h; simp at this; omega
  · split
    · simp
    · split
      · simp
      · intro h; have := congrArg List.length h; simp at this; have := hm (by omega); omega
/-- The lengths of a state are the loop's. -/
def Fits : Nat → LT → PS → Prop
  | 0, _, _ => False
  | d + 1, .mk _ _ _ _ kids _, .mk _ cs ks => (cs.length = kids.length ∧ ks.length = kids.length) ∧ ∀ j, j < kids.length → Fits d (kids.getD j default) (ks.getD j default)
theorem RAt.fits {X : RK} {h : Hp} : ∀ {d : Nat} {t : LT} {a : AT} {s : PS}, RAt X h d t a s → Fits d t s
  | 0, _, _, _, h => h.elim
  | d + 1, .mk .., .mk .., .mk .., ⟨_, _, h3, h4⟩ => ⟨⟨h3.2.1, h3.2.2.2⟩, fun j hj => (h4 j hj).fits⟩
/-- A pass of a right loop plays at least one step, and no count grows by more. -/
theorem passU_ok : ∀ (d : Nat) (t : LT) (s : PS) (n : Int), VL d t → Fits d t s → 0 ≤ n → PSB d t s n → 1 ≤ (passU d t s).2.length ∧ PSB d t (passU d t s).1 (n + (passU d t s).2.length) ∧ Fits d t (passU d t s).1
  | 0, _, _, _, h, _, _, _ => h.elim
  | d + 1, .mk kind item long many kids shares, .mk p cs ks, n, hv, hft, hn, hb => by
    obtain ⟨v1, v2, v3, v4, v5, v6, v7, v8⟩ := hv
    obtain ⟨⟨f1, f2⟩, f3⟩ := hft
    obtain ⟨c1, c2, c3⟩ := hb
    rw [passU_succ]
    have hnk : kind ≠ 1 → 0 < kids.length := fun h => List.length_pos_iff.2 (v3 h)
    have hidx := idxL_lt (many := many) (nx := nextF shares p cs) v1 hnk (fun h4 => by rw [← v5 h4]; exact bestTo_lt _ _ (by rw [v5 h4]; exact hnk (by omega))) c1.1
    have hne := fun h => idxL_ne (p := p) (nx := nextF shares p cs) v1 h (hnk h) (fun h5 => (v4 h5).2.1)
    have hnil : kind = 1 → idxL kind p many kids.length (nextF shares p cs) = [] := fun h => by unfold idxL; rw [if_pos h]
    generalize idxL kind p many kids.length (nextF shares p cs) = L at *
    -- the fold
    have key : ∀ (L : List Nat), (∀ i ∈ L, i < kids.length) → ∀ (a : (List Int × List PS) × List (ByteArray × Int)) (m : Int), 0 ≤ m → FOk d kids m a.1 → (∀ j, j < kids.length → Fits d (kids.getD j default) (a.1.2.getD j default)) →
        FOk d kids (m + ((L.foldl (stepU (passU d) kids) a).2.length - a.2.length)) (L.foldl (stepU (passU d) kids) a).1 ∧ (∀ j, j < kids.length → Fits d (kids.getD j default) ((L.foldl (stepU (passU d) kids) a).1.2.getD j default)) ∧
        a.2.length + L.length ≤ (L.foldl (stepU (passU d) kids) a).2.length := by
      intro L
      induction L with
      | nil => intro _ a m _ ha hfi; exact ⟨by simpa using ha, hfi, by simp⟩
      | cons i L ih =>
        intro hL a m hm ha hfi
        have hi := hL i (by simp)
        have hmem := getD_mem' kids i default hi
        obtain ⟨g1, g2, g3⟩ := passU_ok d (kids.getD i default) (a.1.2.getD i default) m (v8 _ hmem) (hfi i hi) hm (ha.2.2 i hi)
        obtain ⟨s1, s2⟩ := stepU_ok (f := passU d) ha hi rfl g1 g2
        have hfi2 : ∀ j, j < kids.length → Fits d (kids.getD j default) ((stepU (passU d) kids a i).1.2.getD j default) := fun j hj => by
          simp only [stepU]
          by_cases hij : i = j
          · subst hij; rw [getD_setS _ _ _ _ (by rw [ha.1.2]; exact hi)]; exact g3
          · rw [getD_setN _ _ _ _ _ hij]; exact hfi j hj
        obtain ⟨r1, r2, r3⟩ := ih (fun j hj => hL j (by simp [hj])) (stepU (passU d) kids a i) _ (by omega) s1 hfi2
        simp only [List.foldl_cons]
        refine ⟨?_, r2, by simp only [List.length_cons]; omega⟩
        have e : m + (((L.foldl (stepU (passU d) kids) (stepU (passU d) kids a i)).2.length : Int) - a.2.length) = m + ((passU d (kids.getD i default) (a.1.2.getD i default)).2.length) + (((L.foldl (stepU (passU d) kids) (stepU (passU d) kids a i)).2.length : Int) - (stepU (passU d) kids a i).2.length) := by rw [s2]; omega
        rw [e]; exact r1
    obtain ⟨r1, r2, r3⟩ := key L hidx ((cs, ks), if kind = 1 then [(item, long)] else []) n hn ⟨⟨f1, f2⟩, c2, c3⟩ f3
    have hlen : 1 ≤ (L.foldl (stepU (passU d) kids) ((cs, ks), if kind = 1 then [(item, long)] else [])).2.length ∧ n + (((L.foldl (stepU (passU d) kids) ((cs, ks), if kind = 1 then [(item, long)] else [])).2.length : Int) - (if kind = 1 then [(item, long)] else []).length) ≤ n + (L.foldl (stepU (passU d) kids) ((cs, ks), if kind = 1 then [(item, long)] else [])).2.length := by
      by_cases h1 : kind = 1
      · rw [hnil h1]; simp [h1]; omega
      · have := List.length_pos_iff.2 (hne h1)
        rw [if_neg h1] at r3 ⊢
        simp only [List.length_nil] at r3 ⊢
        omega
    refine ⟨hlen.1, ⟨by simp only []; omega, fun x hx => ⟨(r1.2.1 x hx).1, Int.le_trans (r1.2.1 x hx).2 hlen.2⟩, fun j hj => (r1.2.2 j hj).mono hlen.2⟩, ⟨r1.1, r2⟩⟩
/-- Other counts of the part itself. -/
theorem RAt.count {X : RK} {h : Hp} {d : Nat} {kind : Int} {item : ByteArray} {long many : Int} {kids : List LT} {shares : List Int} {i c : Nat} {az : List AT} {p : Int} {cs cs' : List Int} {ks : List PS}
    (hR : RAt X h (d + 1) (.mk kind item long many kids shares) (.mk i c az) (.mk p cs ks)) (hS : Sep (d + 1) (.mk i c az)) (hl : cs'.length = cs.length) (hl2 : (X.cf kind cs').length = kids.length) :
    RAt X { h with T := upd h.T c (some (.cont 1 ((X.cf kind cs').map encI))) } (d + 1) (.mk kind item long many kids shares) (.mk i c az) (.mk p cs' ks) := by
  obtain ⟨h1, h2, ⟨l1, l2, l3, l4⟩, h4⟩ := hR
  exact ⟨h1, upd_same _ _ _, ⟨hl2, by omega, l3, l4⟩, fun j hj => (h4 j hj).frame (fun _ _ => rfl) (fun x hx => upd_other _ _ (fun e => by subst e; exact (hS j (by omega)).1.2.1 hx))⟩
/-- One more pass was had. -/
theorem RAt.hadOne {X : RK} {h : Hp} {d : Nat} {kind : Int} {item : ByteArray} {long many : Int} {kids : List LT} {shares : List Int} {i c : Nat} {az : List AT} {p p' : Int} {cs : List Int} {ks : List PS} {K : AV}
    (hR : RAt X h (d + 1) (.mk kind item long many kids shares) (.mk i c az) (.mk p cs ks)) (hS : Sep (d + 1) (.mk i c az)) (hK : kidsC az K) :
    RAt X { h with H := upd h.H i (some (.cells (cells9 kind item long many kids shares K p' c ++ X.ex (.mk kind item long many kids shares)))) } (d + 1) (.mk kind item long many kids shares) (.mk i c az) (.mk p' cs ks) := by
  obtain ⟨h1, h2, ⟨l1, l2, l3, l4⟩, h4⟩ := hR
  exact ⟨⟨K, upd_same _ _ _, hK⟩, h2, ⟨l1, l2, l3, l4⟩, fun j hj => (h4 j hj).frame (fun x hx => upd_other _ _ (fun e => by subst e; exact (hS j (by omega)).1.1 hx)) (fun _ _ => rfl)⟩
theorem fold_mono {f : LT → PS → PS × List (ByteArray × Int)} {kids : List LT} : ∀ (L : List Nat) (a : (List Int × List PS) × List (ByteArray × Int)), a.2.length ≤ (L.foldl (stepU f kids) a).2.length
  | [], _ => Nat.le_refl _
  | i :: L, a => by
    have := fold_mono (f := f) (kids := kids) L (stepU f kids a i)
    simp only [List.foldl_cons]
    refine Nat.le_trans ?_ this
    simp [stepU]
end Go.Proofs.YtoleejecmefogaaDoor
/- loop.part.pass: the law of its state. -/
namespace Go.Proofs.YtoleejecmefogaaDoor
open Go
set_option linter.unusedVariables false
set_option linter.unusedSimpArgs false
set_option maxRecDepth 100000
/-- What a pass of a part does: nothing if there are too many steps; else it plays, or there are too many then. -/
def PassRel (d : Nat) (t : LT) (s : PS) (out : List (ByteArray × Int)) (s' : PS) (out' : List (ByteArray × Int)) : Prop :=
  (5000 < out.length → s' = s ∧ out' = out) ∧ (out.length ≤ 5000 → out.length + (passU d t s).2.length ≤ 5000 → s' = (passU d t s).1 ∧ out' = out ++ (passU d t s).2) ∧
  (out.length ≤ 5000 → 5000 < out.length + (passU d t s).2.length → out'.length = 5001 ∧ PSB d t s' 5001)
def RunR (d : Nat) (kids : List LT) (out : List (ByteArray × Int)) (acc : (List Int × List PS) × List (ByteArray × Int)) (cs : List Int) (ks : List PS) (out' : List (ByteArray × Int)) : Prop :=
  FOk d kids out'.length (cs, ks) ∧ out'.length ≤ 5001 ∧ (out.length + acc.2.length ≤ 5000 → (cs, ks) = acc.1 ∧ out' = out ++ acc.2) ∧ (5000 < out.length + acc.2.length → out'.length = 5001)
theorem set_getD {α : Type} (l : List α) (x : Nat) (d : α) : l.set x (l.getD x d) = l := by
  by_cases h : x < l.length
  · rw [List.getD_eq_getElem?_getD, List.getElem?_eq_getElem h]; simp
  · rw [List.set_eq_of_length_le (by omega)]
theorem RunR.step {d : Nat} {kids : List LT} {out : List (ByteArray × Int)} {acc : (List Int × List PS) × List (ByteArray × Int)} {cs : List Int} {ks : List PS} {out' : List (ByteArray × Int)} (hR : RunR d kids out acc cs ks out') {x : Nat} (hx : x < kids.length)
    (hv : VL d (kids.getD x default)) (hf : Fits d (kids.getD x default) (ks.getD x default)) {s'' : PS} {out'' : List (ByteArray × Int)} (hp : PassRel d (kids.getD x default) (ks.getD x default) out' s'' out'') :
    RunR d kids out (stepU (passU d) kids acc x) (if out.length + acc.2.length ≤ 5000 then cs.set x (cs.getD x 0 + 1) else cs) (ks.set x s'') out'' := by
  obtain ⟨h1, h2, h3, h4⟩ := hR
  obtain ⟨p1, p2, p3⟩ := hp
  obtain ⟨⟨f1, f2⟩, f3, f4⟩ := id h1
  have hpo := passU_ok d (kids.getD x default) (ks.getD x default) out'.length hv hf (by omega) (f4 x hx)
  by_cases hex : out.length + acc.2.length ≤ 5000
  · rw [if_pos hex]
    obtain ⟨e1, e2⟩ := h3 hex
    have e3 : acc.1.1 = cs := by rw [← e1]
    have e4 : acc.1.2 = ks := by rw [← e1]
    have e5 : out'.length = out.length + acc.2.length := by rw [e2, List.length_append]
    have hst : (stepU (passU d) kids acc x).1 = (cs.set x (cs.getD x 0 + 1), ks.set x (passU d (kids.getD x default) (ks.getD x default)).1) := by simp only [stepU, e3, e4]
    have hs2 : (stepU (passU d) kids acc x).2 = acc.2 ++ (passU d (kids.getD x default) (ks.getD x default)).2 := by simp only [stepU, e4]
    by_cases hk : out'.length + (passU d (kids.getD x default) (ks.getD x default)).2.length ≤ 5000
    · obtain ⟨rfl, rfl⟩ := p2 (by omega) hk
      have hh : FOk d kids out'.length acc.1 := by rw [← e1]; exact h1
      obtain ⟨s1, s2⟩ := stepU_ok (f := passU d) (a := acc) hh hx (by rw [e4]) hpo.1 (by rw [e4]; exact hpo.2.1)
      rw [hst] at s1
      refine ⟨by rw [List.length_append]; exact_mod_cast s1, by rw [List.length_append]; omega, fun _ => ⟨hst.symm, by rw [hs2, e2, List.append_assoc]⟩, fun h => ?_⟩
      rw [hs2, List.length_append] at h; omega
    · obtain ⟨q1, q2⟩ := p3 (by omega) (by omega)
      have q1' : (out''.length : Int) = 5001 := by omega
      refine ⟨⟨⟨by simpa using f1, by simpa using f2⟩, fun y hy => ?_, fun j hj => ?_⟩, by omega, fun h => ?_, fun _ => q1⟩
      · rw [q1']
        rcases mem_set_or hy with h | h
        · have := f3 y h; omega
        · have := f3 _ (getD_mem' cs x 0 (show x < cs.length from by have : cs.length = kids.length := f1; omega)); omega
      · rw [q1']
        show PSB d (kids.getD j default) ((ks.set x s'').getD j default) 5001
        by_cases hxj : x = j
        · subst hxj; rw [getD_setS _ _ _ _ (by have : ks.length = kids.length := f2; omega)]; exact q2
        · rw [getD_setN _ _ _ _ _ hxj]; exact (f4 j hj).mono (by omega)
      · rw [hs2, List.length_append] at h; omega
  · rw [if_neg hex]
    have e5 := h4 (by omega)
    obtain ⟨rfl, rfl⟩ := p1 (by omega)
    rw [set_getD]
    have hs2 : acc.2.length ≤ (stepU (passU d) kids acc x).2.length := by simp [stepU]
    exact ⟨h1, h2, fun h => by omega, fun _ => e5⟩
def oEx : List AV := [.v (.int .i64 5000)]
def St2 (d : Nat) (t : LT) (kids : List LT) (a : AT) (p : Int) (h : Hp) (o k : Nat) (out : List (ByteArray × Int)) (acc : (List Int × List PS) × List (ByteArray × Int)) (h1 : Hp) (cs : List Int) (ks : List PS) (out' : List (ByteArray × Int)) : Prop :=
  RAt XP h1 (d + 1) t a (.mk p cs ks) ∧ OutAt h1 o k oEx out' ∧ FrP a o k h h1 ∧ RunR d kids out acc cs ks out'
/-- What a call of a kid's pass gives. -/
def PRp (d : Nat) (t : LT) (a : AT) (s : PS) (h : Hp) (o k : Nat) (out : List (ByteArray × Int)) (r : AV) (h' : Hp) : Prop :=
  r = .tup [] ∧ ∃ s' out', RAt XP h' d t a s' ∧ OutAt h' o k oEx out' ∧ FrP a o k h h' ∧ PassRel d t s out s' out'
theorem RAt.counts {h : Hp} {d : Nat} {kind : Int} {item : ByteArray} {long many : Int} {kids : List LT} {shares : List Int} {a : AT} {p : Int} {cs cs' : List Int} {ks : List PS} (h4 : kind ≠ 4) (hl : cs'.length = cs.length)
    (hR : RAt XP h (d + 1) (.mk kind item long many kids shares) a (.mk p cs ks)) : RAt XP h (d + 1) (.mk kind item long many kids shares) a (.mk p cs' ks) := by
  cases a with
  | mk i c az =>
    obtain ⟨h1, h2, ⟨l1, l2, l3, l4⟩, h5⟩ := hR
    have e : XP.cf kind cs' = XP.cf kind cs := by simp only [XP, if_neg h4, hl]
    exact ⟨h1, by rw [e]; exact h2, ⟨by rw [e]; exact l1, by omega, l3, l4⟩, h5⟩
theorem St2.next {d : Nat} {kind : Int} {item : ByteArray} {long many : Int} {kids : List LT} {shares : List Int} {i c : Nat} {az : List AT} {p : Int} {h : Hp} {o k : Nat} {out : List (ByteArray × Int)} {acc : (List Int × List PS) × List (ByteArray × Int)} {h1 : Hp} {cs : List Int} {ks : List PS} {out' : List (ByteArray × Int)}
    (hs : St2 d (.mk kind item long many kids shares) kids (.mk i c az) p h o k out acc h1 cs ks out') (h4 : kind ≠ 4) (hS : Sep (d + 1) (.mk i c az)) (ho : o ∉ idsT (.mk i c az)) {x : Nat} (hx : x < kids.length) (hv : VL d (kids.getD x default))
    {r : AV} {h3 : Hp} (hp : PRp d (kids.getD x default) (az.getD x default) (ks.getD x default) h1 o k out' r h3) : ∃ cs' ks' out'', St2 d (.mk kind item long many kids shares) kids (.mk i c az) p h o k out (stepU (passU d) kids acc x) h3 cs' ks' out'' := by
  obtain ⟨g1, g2, g3, g4⟩ := hs
  obtain ⟨rfl, s', out'', r1, r2, r3, r4⟩ := hp
  obtain ⟨_, _, ⟨l1, l2, l3, l4⟩, hk⟩ := id g1
  have hkt := g1.tokNe g2.2
  refine ⟨if out.length + acc.2.length ≤ 5000 then cs.set x (cs.getD x 0 + 1) else cs, ks.set x s', out'', (g1.kid hS ho hkt hx r1 r3).counts h4 (by split <;> simp), r2, g3.trans (r3.kid (by omega)), g4.step hx hv (hk x hx).fits r4⟩
/-- What a call of a kid's pass asks. -/
theorem St2.ask {d : Nat} {kind : Int} {item : ByteArray} {long many : Int} {kids : List LT} {shares : List Int} {i c : Nat} {az : List AT} {p : Int} {h : Hp} {o k : Nat} {out : List (ByteArray × Int)} {acc : (List Int × List PS) × List (ByteArray × Int)} {h1 : Hp} {cs : List Int} {ks : List PS} {out' : List (ByteArray × Int)}
    (hs : St2 d (.mk kind item long many kids shares) kids (.mk i c az) p h o k out acc h1 cs ks out') (hS : Sep (d + 1) (.mk i c az)) (ho : o ∉ idsT (.mk i c az)) {x : Nat} (hx : x < kids.length) :
    RAt XP h1 d (kids.getD x default) (az.getD x default) (ks.getD x default) ∧ Sep d (az.getD x default) ∧ PSB d (kids.getD x default) (ks.getD x default) out'.length ∧ OutAt h1 o k oEx out' ∧ o ∉ idsT (az.getD x default) ∧ out'.length ≤ 5001 := by
  obtain ⟨g1, g2, g3, g4⟩ := hs
  obtain ⟨_, _, ⟨l1, l2, l3, l4⟩, hk⟩ := id g1
  exact ⟨hk x hx, (hS x (by omega)).1.2.2, g4.1.2.2 x hx, g2, fun hh => ho (idsT_kid (by omega) hh), g4.2.1⟩
/-- The node's own cells. -/
theorem St2.cells {d : Nat} {kind : Int} {item : ByteArray} {long many : Int} {kids : List LT} {shares : List Int} {i c : Nat} {az : List AT} {p : Int} {h : Hp} {o k : Nat} {out : List (ByteArray × Int)} {acc : (List Int × List PS) × List (ByteArray × Int)} {h1 : Hp} {cs : List Int} {ks : List PS} {out' : List (ByteArray × Int)}
    (hs : St2 d (.mk kind item long many kids shares) kids (.mk i c az) p h o k out acc h1 cs ks out') (hne : kids ≠ []) : (∃ tk, h1.H i = some (.cells [.v (.int .i64 kind), .v (.string item), .v (.int .i64 long), .v (.int .i64 many), .row 6 (kids.map encL) none, .row 1 (shares.map encI) none, .row 1 (az.map fun a => [.ptr a.id 0]) tk, .v (.int .i64 p), .arr 1 c kids.length, .v (.int .i64 shares.sum)])) ∧ az.length = kids.length := by
  obtain ⟨⟨⟨K, h1, hK⟩, _, ⟨l1, l2, l3, l4⟩, _⟩, _⟩ := hs
  refine ⟨?_, l3⟩
  rcases hK with ⟨rfl, _⟩ | ⟨tk, rfl⟩
  · simp at l3; exact absurd (List.eq_nil_of_length_eq_zero l3.symm) hne
  · exact ⟨tk, h1⟩
end Go.Proofs.YtoleejecmefogaaDoor
/- loop.part.pass. -/
namespace Go.Proofs.YtoleejecmefogaaDoor
open Go
set_option linter.unusedVariables false
set_option linter.unusedSimpArgs false
set_option maxRecDepth 100000
set_option maxHeartbeats 8000000
def PassJp (d : Nat) (kind : Int) (item : ByteArray) (long many : Int) (kids : List LT) (shares : List Int) (i c0 : Nat) (az : List AT) (p : Int) (cs : List Int) (ks : List PS) (h : Hp) (o k : Nat) (out : List (ByteArray × Int)) (s : St) : Prop :=
  ∃ h1 cs' ks' out', St2 d (.mk kind item long many kids shares) kids (.mk i c0 az) p h o k out ((idxL kind p many kids.length (nextF shares p cs)).foldl (stepU (passU d) kids) ((cs, ks), if kind = 1 then [(item, long)] else [])) h1 cs' ks' out' ∧
    s = ⟨((.ptr i 0) :: (.ptr o 0) :: (jnk 114 [])), [], h1⟩
theorem g_passP : ∀ (d : Nat) (t : LT) (a : AT) (s : PS) (h : Hp) (o k : Nat) (out : List (ByteArray × Int)), VL d t → RAt XP h d t a s → Sep d a → PSB d t s out.length → OutAt h o k oEx out → o ∉ idsT a → out.length ≤ 5001 →
    ACalls Tryd.prog 27 [.ptr a.id 0, .ptr o 0] h (PRp d t a s h o k out)
  | 0, _, _, _, _, _, _, _, hv, _, _, _, _, _, _ => hv.elim
  | d + 1, .mk kind item long many kids shares, .mk i c0 az, .mk p cs ks, h, o, k, out, hv, hR, hS, hB, hO, ho, hout => by
    have hfit := hR.fits
    have hkt := hR.tokNe hO.2
    obtain ⟨v1, v2, v3, v4, v5, v6, v7, v8⟩ := id hv
    obtain ⟨⟨K, hH, hK⟩, hT, ⟨l1, l2, l3, l4⟩, hkids⟩ := id hR
    have hH0 : h.H i = some (.cells [.v (.int .i64 kind), .v (.string item), .v (.int .i64 long), .v (.int .i64 many), .row 6 (kids.map encL) none, .row 1 (shares.map encI) none, K, .v (.int .i64 p), .arr 1 c0 kids.length, .v (.int .i64 shares.sum)]) := hH
    have hO1 : h.H o = some (.cells [.row 2 (out.map encStep) (some k), .v (.int .i64 5000)]) := hO.1
    have hO2 : h.T k = some (.tail out.length) := hO.2
    have hfr0 : FrP (.mk i c0 az) o k h h := ⟨fun _ _ _ => rfl, fun _ _ _ => rfl⟩
    show ACalls Tryd.prog 27 [.ptr i 0, .ptr o 0] h _
    refine acalls_of tyok Tryd.func27 rfl (by kernel_rfl) fun c => ?_; simp only [Tryd.ntmps27, List.length_cons, List.length_nil, Nat.reduceAdd, Nat.reduceSub, jnk_rep, List.cons_append, List.nil_append]
    (repeat (first | (with_reducible first | refine wB ?_ | refine wN ?_ | refine wT ?_) | ((with_reducible refine wI ?_); refine wN ?_) | ((first | ((with_reducible refine yS ?_); refine awp_keep 154742654650856545879597411 100 (kS ?_)) | ((with_reducible refine yR ?_); refine awp_keep 154742654650856545879597411 100 (kR ?_)) | (with_reducible first | refine wG ?_ | refine wH ?_ | refine wM ?_ ?_) | ((with_reducible refine xR ?_); refine awp_keep 154742654650856545879597411 100 (uE 7 (mdL []) [0, 1, 2, 3, 4, 5, 6, 7, 8, 9, 10, 11, 12, 13, 14, 15, 16] [(17, [], [18, 19]), (20, [], [])] 116 rfl (by kernel_rfl) ?_)) | ((with_reducible refine xR ?_); refine awp_keep 154742654650856545879597411 100 (uE 15 (mdL []) [0, 1, 2, 3, 4, 5, 6, 7, 8, 9, 10, 11, 12, 13, 14, 15, 16] [(17, [], [])] 116 rfl (by kernel_rfl) ?_))) <;> ((try with_reducible intro K1 hK1); simp only [go_sem, ↓reduceIte, reduceCtorEq, Nat.reduceAdd, Nat.reduceSub, Nat.reduceMul, Nat.reduceLT, Nat.reduceLeDiff, Nat.reduceEqDiff, Nat.reduceMod, Nat.reduceDiv, Nat.reducePow]; (try and_intros); all_goals first | (refine hK1 _ ?_; clear hK1 K1) | (intros; first | (with_reducible trivial) | omega | (simp_all <;> omega)) | skip)) | (with_reducible first | refine wQ ?_ | refine zS ?_ | refine zN ?_ | refine zX ?_ | refine zE ?_ | refine zF ?_ | refine zO (by decide) ?_ | refine zB ?_)))
    refine (g_full28 o k h out hO).mono ?_; rintro _ hz ⟨rfl, hh⟩; refine hK1 _ ?_; clear hK1 K1; rw [hh]; clear hh hz
    (repeat (first | (with_reducible first | refine wB ?_ | refine wN ?_ | refine wT ?_) | ((with_reducible refine wI ?_); refine wN ?_) | ((first | ((with_reducible refine yS ?_); refine awp_keep 154742654650856545879597411 100 (kS ?_)) | ((with_reducible refine yR ?_); refine awp_keep 154742654650856545879597411 100 (kR ?_)) | (with_reducible first | refine wG ?_ | refine wH ?_ | refine wM ?_ ?_) | ((with_reducible refine xR ?_); refine awp_keep 154742654650856545879597411 100 (uE 7 (mdL []) [0, 1, 2, 3, 4, 5, 6, 7, 8, 9, 10, 11, 12, 13, 14, 15, 16] [(17, [], [18, 19]), (20, [], [])] 116 rfl (by kernel_rfl) ?_)) | ((with_reducible refine xR ?_); refine awp_keep 154742654650856545879597411 100 (uE 15 (mdL []) [0, 1, 2, 3, 4, 5, 6, 7, 8, 9, 10, 11, 12, 13, 14, 15, 16] [(17, [], [])] 116 rfl (by kernel_rfl) ?_))) <;> ((try with_reducible intro K1 hK1); simp only [go_sem, ↓reduceIte, reduceCtorEq, Nat.reduceAdd, Nat.reduceSub, Nat.reduceMul, Nat.reduceLT, Nat.reduceLeDiff, Nat.reduceEqDiff, Nat.reduceMod, Nat.reduceDiv, Nat.reducePow]; (try and_intros); all_goals first | (refine hK1 _ ?_; clear hK1 K1) | (intros; first | (with_reducible trivial) | omega | (simp_all <;> omega)) | skip)) | (with_reducible first | refine wQ ?_ | refine zS ?_ | refine zN ?_ | refine zX ?_ | refine zE ?_ | refine zF ?_ | refine zO (by decide) ?_ | refine zB ?_)))
    refine awp_cond (t := _) rfl (fun hf => ?_) (fun hf => ?_)
    · (repeat (first | (with_reducible first | refine wB ?_ | refine wN ?_ | refine wT ?_) | ((with_reducible refine wI ?_); refine wN ?_) | ((first | ((with_reducible refine yS ?_); refine awp_keep 154742654650856545879597411 100 (kS ?_)) | ((with_reducible refine yR ?_); refine awp_keep 154742654650856545879597411 100 (kR ?_)) | (with_reducible first | refine wG ?_ | refine wH ?_ | refine wM ?_ ?_) | ((with_reducible refine xR ?_); refine awp_keep 154742654650856545879597411 100 (uE 7 (mdL []) [0, 1, 2, 3, 4, 5, 6, 7, 8, 9, 10, 11, 12, 13, 14, 15, 16] [(17, [], [18, 19]), (20, [], [])] 116 rfl (by kernel_rfl) ?_)) | ((with_reducible refine xR ?_); refine awp_keep 154742654650856545879597411 100 (uE 15 (mdL []) [0, 1, 2, 3, 4, 5, 6, 7, 8, 9, 10, 11, 12, 13, 14, 15, 16] [(17, [], [])] 116 rfl (by kernel_rfl) ?_))) <;> ((try with_reducible intro K1 hK1); simp only [go_sem, ↓reduceIte, reduceCtorEq, Nat.reduceAdd, Nat.reduceSub, Nat.reduceMul, Nat.reduceLT, Nat.reduceLeDiff, Nat.reduceEqDiff, Nat.reduceMod, Nat.reduceDiv, Nat.reducePow]; (try and_intros); all_goals first | (refine hK1 _ ?_; clear hK1 K1) | (intros; first | (with_reducible trivial) | omega | (simp_all <;> omega)) | skip)) | (with_reducible first | refine wQ ?_ | refine zS ?_ | refine zN ?_ | refine zX ?_ | refine zE ?_ | refine zF ?_ | refine zO (by decide) ?_ | refine zB ?_)))
      refine zR ?_; (repeat (with_reducible first | refine zT ?_ | refine zU ?_)); simp only [Tryd.results27, go_sem, ↓reduceIte, reduceCtorEq, Nat.reduceAdd, Nat.reduceSub, Nat.reduceMul, Nat.reduceLT, Nat.reduceLeDiff, Nat.reduceEqDiff]
      simp only [decide_eq_true_eq] at hf
      exact ⟨_, _, Weak.refl _, Hp.le.refl _, rfl, _, out, hR, hO, hfr0, fun _ => ⟨rfl, rfl⟩, fun h => by omega, fun h => by omega⟩
    simp only [decide_eq_false_iff_not] at hf
    have hpn : 0 ≤ p ∧ p ≤ 5000 := by have := hB.1; omega
    have hcn : ∀ x ∈ cs, 0 ≤ x ∧ x ≤ 1000000 := fun x hx => by have := hB.2.1 x hx; omega
    (repeat (first | (with_reducible first | refine wB ?_ | refine wN ?_ | refine wT ?_) | ((with_reducible refine wI ?_); refine wN ?_) | ((first | ((with_reducible refine yS ?_); refine awp_keep 154742654650856545879597411 100 (kS ?_)) | ((with_reducible refine yR ?_); refine awp_keep 154742654650856545879597411 100 (kR ?_)) | (with_reducible first | refine wG ?_ | refine wH ?_ | refine wM ?_ ?_) | ((with_reducible refine xR ?_); refine awp_keep 154742654650856545879597411 100 (uE 7 (mdL []) [0, 1, 2, 3, 4, 5, 6, 7, 8, 9, 10, 11, 12, 13, 14, 15, 16] [(17, [], [18, 19]), (20, [], [])] 116 rfl (by kernel_rfl) ?_)) | ((with_reducible refine xR ?_); refine awp_keep 154742654650856545879597411 100 (uE 15 (mdL []) [0, 1, 2, 3, 4, 5, 6, 7, 8, 9, 10, 11, 12, 13, 14, 15, 16] [(17, [], [])] 116 rfl (by kernel_rfl) ?_))) <;> ((try with_reducible intro K1 hK1); simp only [go_sem, ↓reduceIte, reduceCtorEq, Nat.reduceAdd, Nat.reduceSub, Nat.reduceMul, Nat.reduceLT, Nat.reduceLeDiff, Nat.reduceEqDiff, hH0, Nat.reduceMod, Nat.reduceDiv, Nat.reducePow]; (try and_intros); all_goals first | (refine hK1 _ ?_; clear hK1 K1) | (intros; first | (with_reducible trivial) | omega | (simp_all <;> omega)) | skip)) | (with_reducible first | refine zS ?_ | refine zN ?_ | refine zX ?_ | refine zE ?_ | refine zF ?_ | refine zO (by decide) ?_ | refine zB ?_)))
    refine awp_seq ?_
    refine awp_join (rl false [0, 2, 114]) 0 (fun s => PassJp d kind item long many kids shares i c0 az p cs ks h o k out s) ?_ ?_
    · rcases (show kind = 1 ∨ kind = 2 ∨ kind = 3 ∨ kind = 4 ∨ kind = 5 by omega) with rfl | rfl | rfl | rfl | rfl
      · (repeat (first | (with_reducible first | refine wB ?_ | refine wN ?_ | refine wT ?_) | ((with_reducible refine wI ?_); refine wN ?_) | ((first | ((with_reducible refine yS ?_); refine awp_keep 154742654650856545879597411 100 (kS ?_)) | ((with_reducible refine yR ?_); refine awp_keep 154742654650856545879597411 100 (kR ?_)) | (with_reducible first | refine wG ?_ | refine wH ?_ | refine wM ?_ ?_) | ((with_reducible refine xR ?_); refine awp_keep 154742654650856545879597411 100 (uE 7 (mdL []) [0, 1, 2, 3, 4, 5, 6, 7, 8, 9, 10, 11, 12, 13, 14, 15, 16] [(17, [], [18, 19]), (20, [], [])] 116 rfl (by kernel_rfl) ?_)) | ((with_reducible refine xR ?_); refine awp_keep 154742654650856545879597411 100 (uE 15 (mdL []) [0, 1, 2, 3, 4, 5, 6, 7, 8, 9, 10, 11, 12, 13, 14, 15, 16] [(17, [], [])] 116 rfl (by kernel_rfl) ?_))) <;> ((try with_reducible intro K1 hK1); simp only [go_sem, ↓reduceIte, reduceCtorEq, Nat.reduceAdd, Nat.reduceSub, Nat.reduceMul, Nat.reduceLT, Nat.reduceLeDiff, Nat.reduceEqDiff, hH0, Nat.reduceMod, Nat.reduceDiv, Nat.reducePow]; (try and_intros); all_goals first | (refine hK1 _ ?_; clear hK1 K1) | (intros; first | (with_reducible trivial) | omega | (simp_all <;> omega)) | skip)) | (with_reducible first | refine wQ ?_ | refine zS ?_ | refine zN ?_ | refine zX ?_ | refine zE ?_ | refine zF ?_ | refine zO (by decide) ?_ | refine zB ?_)))
        refine awp_cond (t := _) rfl (fun _ => ?_) (fun h1 => by cases h1)
        (repeat (first | (with_reducible first | refine wB ?_ | refine wN ?_ | refine wT ?_) | ((with_reducible refine wI ?_); refine wN ?_) | ((first | ((with_reducible refine yS ?_); refine awp_keep 154742654650856545879597411 100 (kS ?_)) | ((with_reducible refine yR ?_); refine awp_keep 154742654650856545879597411 100 (kR ?_)) | (with_reducible first | refine wG ?_ | refine wH ?_ | refine wM ?_ ?_) | ((with_reducible refine xR ?_); refine awp_keep 154742654650856545879597411 100 (uE 7 (mdL []) [0, 1, 2, 3, 4, 5, 6, 7, 8, 9, 10, 11, 12, 13, 14, 15, 16] [(17, [], [18, 19]), (20, [], [])] 116 rfl (by kernel_rfl) ?_)) | ((with_reducible refine xR ?_); refine awp_keep 154742654650856545879597411 100 (uE 15 (mdL []) [0, 1, 2, 3, 4, 5, 6, 7, 8, 9, 10, 11, 12, 13, 14, 15, 16] [(17, [], [])] 116 rfl (by kernel_rfl) ?_))) <;> ((try with_reducible intro K1 hK1); simp only [go_sem, ↓reduceIte, reduceCtorEq, Nat.reduceAdd, Nat.reduceSub, Nat.reduceMul, Nat.reduceLT, Nat.reduceLeDiff, Nat.reduceEqDiff, hH0, hO1, hO2, Nat.reduceMod, Nat.reduceDiv, Nat.reducePow]; (try and_intros); all_goals first | (refine hK1 _ ?_; clear hK1 K1) | (intros; first | (with_reducible trivial) | omega | (simp_all <;> omega)) | skip)) | (with_reducible first | refine wQ ?_ | refine zS ?_ | refine zN ?_ | refine zX ?_ | refine zE ?_ | refine zF ?_ | refine zO (by decide) ?_ | refine zB ?_)))
        have hix : idxL 1 p many kids.length (nextF shares p cs) = [] := by simp [idxL]
        refine ⟨{ H := upd h.H o (some (.cells [.row 2 (out.map encStep ++ [[.v (.string item), .v (.int .i64 long)]]) (some k), .v (.int .i64 5000)])), T := upd h.T k (some (.tail (out.length + 1))) }, cs, ks, out ++ [(item, long)], ⟨hR.frame (fun x hx => upd_other _ _ (fun e => by subst e; exact ho hx)) (fun x hx => upd_other _ _ (fun e => by subst e; exact hkt hx)), ⟨?_, ?_⟩, ⟨fun x _ hx => upd_other _ _ hx, fun x _ hx => upd_other _ _ hx⟩, ?_⟩, rfl⟩
        · rw [show (out ++ [(item, long)]).map encStep = out.map encStep ++ [[.v (.string item), .v (.int .i64 long)]] by simp [encStep]]
          exact upd_same _ _ _
        · rw [show (out ++ [(item, long)]).length = out.length + 1 by simp]
          exact upd_same _ _ _
        · rw [hix]
          have e7 : (out ++ [(item, long)]).length = out.length + 1 := by simp
          refine ⟨⟨⟨l2, l4⟩, fun x hx => ?_, fun j hj => (hB.2.2 j hj).mono (by omega)⟩, by omega, fun _ => ⟨rfl, by simp⟩, fun h => ?_⟩
          · have := hB.2.1 x hx; omega
          · simp at h; omega
      · have hs0 : St2 d (.mk 2 item long many kids shares) kids (.mk i c0 az) p h o k out ((cs, ks), []) h cs ks out := ⟨hR, hO, hfr0, ⟨⟨l2, l4⟩, hB.2.1, hB.2.2⟩, by omega, fun _ => ⟨rfl, by simp⟩, fun h => by simp only [List.length_nil] at h; omega⟩
        obtain ⟨⟨tk, hC0⟩, hz0⟩ := hs0.cells (v3 (by omega))
        have hKe := hH0.symm.trans hC0
        simp only [Option.some.injEq, AO.cells.injEq, List.cons.injEq, true_and, and_true] at hKe
        subst hKe
        (repeat (first | (with_reducible first | refine wB ?_ | refine wN ?_ | refine wT ?_) | ((with_reducible refine wI ?_); refine wN ?_) | ((first | ((with_reducible refine yS ?_); refine awp_keep 154742654650856545879597411 100 (kS ?_)) | ((with_reducible refine yR ?_); refine awp_keep 154742654650856545879597411 100 (kR ?_)) | (with_reducible first | refine wG ?_ | refine wH ?_ | refine wM ?_ ?_) | ((with_reducible refine xR ?_); refine awp_keep 154742654650856545879597411 100 (uE 7 (mdL []) [0, 1, 2, 3, 4, 5, 6, 7, 8, 9, 10, 11, 12, 13, 14, 15, 16] [(17, [], [18, 19]), (20, [], [])] 116 rfl (by kernel_rfl) ?_)) | ((with_reducible refine xR ?_); refine awp_keep 154742654650856545879597411 100 (uE 15 (mdL []) [0, 1, 2, 3, 4, 5, 6, 7, 8, 9, 10, 11, 12, 13, 14, 15, 16] [(17, [], [])] 116 rfl (by kernel_rfl) ?_))) <;> ((try with_reducible intro K1 hK1); simp only [go_sem, ↓reduceIte, reduceCtorEq, Nat.reduceAdd, Nat.reduceSub, Nat.reduceMul, Nat.reduceLT, Nat.reduceLeDiff, Nat.reduceEqDiff, hH0, Nat.reduceMod, Nat.reduceDiv, Nat.reducePow]; (try and_intros); all_goals first | (refine hK1 _ ?_; clear hK1 K1) | (intros; first | (with_reducible trivial) | omega | (simp_all <;> omega)) | skip)) | (with_reducible first | refine wQ ?_ | refine zS ?_ | refine zN ?_ | refine zX ?_ | refine zE ?_ | refine zF ?_ | refine zO (by decide) ?_ | refine zB ?_)))
        refine awp_cond (t := _) rfl (fun h1 => by cases h1) (fun _ => ?_)
        (repeat (first | (with_reducible first | refine wB ?_ | refine wN ?_ | refine wT ?_) | ((with_reducible refine wI ?_); refine wN ?_) | ((first | ((with_reducible refine yS ?_); refine awp_keep 154742654650856545879597411 100 (kS ?_)) | ((with_reducible refine yR ?_); refine awp_keep 154742654650856545879597411 100 (kR ?_)) | (with_reducible first | refine wG ?_ | refine wH ?_ | refine wM ?_ ?_) | ((with_reducible refine xR ?_); refine awp_keep 154742654650856545879597411 100 (uE 7 (mdL []) [0, 1, 2, 3, 4, 5, 6, 7, 8, 9, 10, 11, 12, 13, 14, 15, 16] [(17, [], [18, 19]), (20, [], [])] 116 rfl (by kernel_rfl) ?_)) | ((with_reducible refine xR ?_); refine awp_keep 154742654650856545879597411 100 (uE 15 (mdL []) [0, 1, 2, 3, 4, 5, 6, 7, 8, 9, 10, 11, 12, 13, 14, 15, 16] [(17, [], [])] 116 rfl (by kernel_rfl) ?_))) <;> ((try with_reducible intro K1 hK1); simp only [go_sem, ↓reduceIte, reduceCtorEq, Nat.reduceAdd, Nat.reduceSub, Nat.reduceMul, Nat.reduceLT, Nat.reduceLeDiff, Nat.reduceEqDiff, hH0, Nat.reduceMod, Nat.reduceDiv, Nat.reducePow]; (try and_intros); all_goals first | (refine hK1 _ ?_; clear hK1 K1) | (intros; first | (with_reducible trivial) | omega | (simp_all <;> omega)) | skip)) | (with_reducible first | refine wQ ?_ | refine zS ?_ | refine zN ?_ | refine zX ?_ | refine zE ?_ | refine zF ?_ | refine zO (by decide) ?_ | refine zB ?_)))
        refine awp_cond (t := _) rfl (fun _ => ?_) (fun h1 => by cases h1)
        (repeat (first | (with_reducible first | refine wB ?_ | refine wN ?_ | refine wT ?_) | ((with_reducible refine wI ?_); refine wN ?_) | ((first | ((with_reducible refine yS ?_); refine awp_keep 154742654650856545879597411 100 (kS ?_)) | ((with_reducible refine yR ?_); refine awp_keep 154742654650856545879597411 100 (kR ?_)) | (with_reducible first | refine wG ?_ | refine wH ?_ | refine wM ?_ ?_) | ((with_reducible refine xR ?_); refine awp_keep 154742654650856545879597411 100 (uE 7 (mdL []) [0, 1, 2, 3, 4, 5, 6, 7, 8, 9, 10, 11, 12, 13, 14, 15, 16] [(17, [], [18, 19]), (20, [], [])] 116 rfl (by kernel_rfl) ?_)) | ((with_reducible refine xR ?_); refine awp_keep 154742654650856545879597411 100 (uE 15 (mdL []) [0, 1, 2, 3, 4, 5, 6, 7, 8, 9, 10, 11, 12, 13, 14, 15, 16] [(17, [], [])] 116 rfl (by kernel_rfl) ?_))) <;> ((try with_reducible intro K1 hK1); simp only [go_sem, ↓reduceIte, reduceCtorEq, Nat.reduceAdd, Nat.reduceSub, Nat.reduceMul, Nat.reduceLT, Nat.reduceLeDiff, Nat.reduceEqDiff, hH0, Nat.reduceMod, Nat.reduceDiv, Nat.reducePow]; (try and_intros); all_goals first | (refine hK1 _ ?_; clear hK1 K1) | (intros; first | (with_reducible trivial) | omega | (simp_all <;> omega)) | skip)) | (with_reducible first | refine wQ ?_ | refine zS ?_ | refine zN ?_ | refine zX ?_ | refine zE ?_ | refine zF ?_ | refine zO (by decide) ?_ | refine zB ?_)))
        have hix : idxL 2 p many kids.length (nextF shares p cs) = List.range kids.length := by simp [idxL]
        refine awp_loopC (rl false [0, 2, 55, 3, 56]) 0 (fun g s => ∃ (j : Nat) (h1 : Hp) (cs' : List Int) (ks' : List PS) (out' : List (ByteArray × Int)), g + j = kids.length ∧ St2 d (.mk 2 item long many kids shares) kids (.mk i c0 az) p h o k out ((List.range j).foldl (stepU (passU d) kids) ((cs, ks), [])) h1 cs' ks' out' ∧
          s = ⟨((.ptr i 0) :: (.ptr o 0) :: (jnk 55 ((.row 1 (az.map fun a => [.ptr a.id 0]) tk) :: (.v (.int .i64 kids.length)) :: (.v (.int .i64 j)) :: (jnk 56 [])))), [], h1⟩) kids.length ⟨0, h, cs, ks, out, by omega, hs0, by rw [← hz0]; rfl⟩ ?_
        rintro g _ ⟨j, h1, cs', ks', out', hj, hs, rfl⟩
        (repeat (first | (with_reducible first | refine wB ?_ | refine wN ?_ | refine wT ?_) | ((with_reducible refine wI ?_); refine wN ?_) | ((first | ((with_reducible refine yS ?_); refine awp_keep 154742654650856545879597411 100 (kS ?_)) | ((with_reducible refine yR ?_); refine awp_keep 154742654650856545879597411 100 (kR ?_)) | (with_reducible first | refine wG ?_ | refine wH ?_ | refine wM ?_ ?_) | ((with_reducible refine xR ?_); refine awp_keep 154742654650856545879597411 100 (uE 7 (mdL []) [0, 1, 2, 3, 4, 5, 6, 7, 8, 9, 10, 11, 12, 13, 14, 15, 16] [(17, [], [18, 19]), (20, [], [])] 116 rfl (by kernel_rfl) ?_)) | ((with_reducible refine xR ?_); refine awp_keep 154742654650856545879597411 100 (uE 15 (mdL []) [0, 1, 2, 3, 4, 5, 6, 7, 8, 9, 10, 11, 12, 13, 14, 15, 16] [(17, [], [])] 116 rfl (by kernel_rfl) ?_))) <;> ((try with_reducible intro K1 hK1); simp only [go_sem, ↓reduceIte, reduceCtorEq, Nat.reduceAdd, Nat.reduceSub, Nat.reduceMul, Nat.reduceLT, Nat.reduceLeDiff, Nat.reduceEqDiff, Nat.reduceMod, Nat.reduceDiv, Nat.reducePow]; (try and_intros); all_goals first | (refine hK1 _ ?_; clear hK1 K1) | (intros; first | (with_reducible trivial) | omega | (simp_all <;> omega)) | skip)) | (with_reducible first | refine wQ ?_ | refine zS ?_ | refine zN ?_ | refine zX ?_ | refine zE ?_ | refine zF ?_ | refine zO (by decide) ?_ | refine zB ?_)))
        refine awp_cond (t := _) rfl (fun h2 => ?_) (fun h2 => ?_)
        · simp only [decide_eq_true_eq] at h2
          have hx : j < kids.length := by omega
          have hgz : (az.map fun a : AT => [AV.ptr a.id 0]).getD j [] = [.ptr (az.getD j default).id 0] := getD_enc (fun a : AT => [AV.ptr a.id 0]) az j default (by omega)
          obtain ⟨a1, a2, a3, a4, a5, a6⟩ := hs.ask hS ho hx
          (repeat (first | (with_reducible first | refine wB ?_ | refine wN ?_ | refine wT ?_) | ((with_reducible refine wI ?_); refine wN ?_) | ((first | ((with_reducible refine yS ?_); refine awp_keep 154742654650856545879597411 100 (kS ?_)) | ((with_reducible refine yR ?_); refine awp_keep 154742654650856545879597411 100 (kR ?_)) | (with_reducible first | refine wG ?_ | refine wH ?_ | refine wM ?_ ?_) | ((with_reducible refine xR ?_); refine awp_keep 154742654650856545879597411 100 (uE 7 (mdL []) [0, 1, 2, 3, 4, 5, 6, 7, 8, 9, 10, 11, 12, 13, 14, 15, 16] [(17, [], [18, 19]), (20, [], [])] 116 rfl (by kernel_rfl) ?_)) | ((with_reducible refine xR ?_); refine awp_keep 154742654650856545879597411 100 (uE 15 (mdL []) [0, 1, 2, 3, 4, 5, 6, 7, 8, 9, 10, 11, 12, 13, 14, 15, 16] [(17, [], [])] 116 rfl (by kernel_rfl) ?_))) <;> ((try with_reducible intro K1 hK1); simp only [go_sem, ↓reduceIte, reduceCtorEq, Nat.reduceAdd, Nat.reduceSub, Nat.reduceMul, Nat.reduceLT, Nat.reduceLeDiff, Nat.reduceEqDiff, Int.toNat_natCast, hgz, hz0, Nat.reduceMod, Nat.reduceDiv, Nat.reducePow]; (try and_intros); all_goals first | (refine hK1 _ ?_; clear hK1 K1) | (intros; first | (with_reducible trivial) | omega | (simp_all <;> omega)) | skip)) | (with_reducible first | refine wQ ?_ | refine zS ?_ | refine zN ?_ | refine zX ?_ | refine zE ?_ | refine zF ?_ | refine zO (by decide) ?_ | refine zB ?_)))
          refine (g_passP d _ _ _ h1 o k out' (v8 _ (getD_mem' kids j default hx)) a1 a2 a3 a4 a5 a6).mono ?_
          intro r h3 hres
          obtain ⟨cs2, ks2, out2, hs2⟩ := hs.next (by omega) hS ho hx (v8 _ (getD_mem' kids j default hx)) hres
          obtain ⟨rfl, _⟩ := hres
          refine hK1 _ ?_; clear hK1 K1
          (repeat (first | (with_reducible first | refine wB ?_ | refine wN ?_ | refine wT ?_) | ((with_reducible refine wI ?_); refine wN ?_) | ((first | ((with_reducible refine yS ?_); refine awp_keep 154742654650856545879597411 100 (kS ?_)) | ((with_reducible refine yR ?_); refine awp_keep 154742654650856545879597411 100 (kR ?_)) | (with_reducible first | refine wG ?_ | refine wH ?_ | refine wM ?_ ?_) | ((with_reducible refine xR ?_); refine awp_keep 154742654650856545879597411 100 (uE 7 (mdL []) [0, 1, 2, 3, 4, 5, 6, 7, 8, 9, 10, 11, 12, 13, 14, 15, 16] [(17, [], [18, 19]), (20, [], [])] 116 rfl (by kernel_rfl) ?_)) | ((with_reducible refine xR ?_); refine awp_keep 154742654650856545879597411 100 (uE 15 (mdL []) [0, 1, 2, 3, 4, 5, 6, 7, 8, 9, 10, 11, 12, 13, 14, 15, 16] [(17, [], [])] 116 rfl (by kernel_rfl) ?_))) <;> ((try with_reducible intro K1 hK1); simp only [go_sem, ↓reduceIte, reduceCtorEq, Nat.reduceAdd, Nat.reduceSub, Nat.reduceMul, Nat.reduceLT, Nat.reduceLeDiff, Nat.reduceEqDiff, Nat.reduceMod, Nat.reduceDiv, Nat.reducePow]; (try and_intros); all_goals first | (refine hK1 _ ?_; clear hK1 K1) | (intros; first | (with_reducible trivial) | omega | (simp_all <;> omega)) | skip)) | (with_reducible first | refine wQ ?_ | refine zS ?_ | refine zN ?_ | refine zX ?_ | refine zE ?_ | refine zF ?_ | refine zO (by decide) ?_ | refine zB ?_)))
          exact ⟨g - 1, by omega, j + 1, h3, cs2, ks2, out2, by omega, by rw [List.range_succ, List.foldl_append]; exact hs2, rfl⟩
        · simp only [decide_eq_false_iff_not] at h2
          have hjk : j = kids.length := by omega
          subst hjk
          (repeat (first | (with_reducible first | refine wB ?_ | refine wN ?_ | refine wT ?_) | ((with_reducible refine wI ?_); refine wN ?_) | ((first | ((with_reducible refine yS ?_); refine awp_keep 154742654650856545879597411 100 (kS ?_)) | ((with_reducible refine yR ?_); refine awp_keep 154742654650856545879597411 100 (kR ?_)) | (with_reducible first | refine wG ?_ | refine wH ?_ | refine wM ?_ ?_) | ((with_reducible refine xR ?_); refine awp_keep 154742654650856545879597411 100 (uE 7 (mdL []) [0, 1, 2, 3, 4, 5, 6, 7, 8, 9, 10, 11, 12, 13, 14, 15, 16] [(17, [], [18, 19]), (20, [], [])] 116 rfl (by kernel_rfl) ?_)) | ((with_reducible refine xR ?_); refine awp_keep 154742654650856545879597411 100 (uE 15 (mdL []) [0, 1, 2, 3, 4, 5, 6, 7, 8, 9, 10, 11, 12, 13, 14, 15, 16] [(17, [], [])] 116 rfl (by kernel_rfl) ?_))) <;> ((try with_reducible intro K1 hK1); simp only [go_sem, ↓reduceIte, reduceCtorEq, Nat.reduceAdd, Nat.reduceSub, Nat.reduceMul, Nat.reduceLT, Nat.reduceLeDiff, Nat.reduceEqDiff, Nat.reduceMod, Nat.reduceDiv, Nat.reducePow]; (try and_intros); all_goals first | (refine hK1 _ ?_; clear hK1 K1) | (intros; first | (with_reducible trivial) | omega | (simp_all <;> omega)) | skip)) | (with_reducible first | refine wQ ?_ | refine zS ?_ | refine zN ?_ | refine zX ?_ | refine zE ?_ | refine zF ?_ | refine zO (by decide) ?_ | refine zB ?_)))
          exact ⟨h1, cs', ks', out', by rw [hix]; exact hs, rfl⟩
      · have hs0 : St2 d (.mk 3 item long many kids shares) kids (.mk i c0 az) p h o k out ((cs, ks), []) h cs ks out := ⟨hR, hO, hfr0, ⟨⟨l2, l4⟩, hB.2.1, hB.2.2⟩, by omega, fun _ => ⟨rfl, by simp⟩, fun h => by simp only [List.length_nil] at h; omega⟩
        obtain ⟨⟨tk, hC0⟩, hz0⟩ := hs0.cells (v3 (by omega))
        have hKe := hH0.symm.trans hC0
        simp only [Option.some.injEq, AO.cells.injEq, List.cons.injEq, true_and, and_true] at hKe
        subst hKe
        (repeat (first | (with_reducible first | refine wB ?_ | refine wN ?_ | refine wT ?_) | ((with_reducible refine wI ?_); refine wN ?_) | ((first | ((with_reducible refine yS ?_); refine awp_keep 154742654650856545879597411 100 (kS ?_)) | ((with_reducible refine yR ?_); refine awp_keep 154742654650856545879597411 100 (kR ?_)) | (with_reducible first | refine wG ?_ | refine wH ?_ | refine wM ?_ ?_) | ((with_reducible refine xR ?_); refine awp_keep 154742654650856545879597411 100 (uE 7 (mdL []) [0, 1, 2, 3, 4, 5, 6, 7, 8, 9, 10, 11, 12, 13, 14, 15, 16] [(17, [], [18, 19]), (20, [], [])] 116 rfl (by kernel_rfl) ?_)) | ((with_reducible refine xR ?_); refine awp_keep 154742654650856545879597411 100 (uE 15 (mdL []) [0, 1, 2, 3, 4, 5, 6, 7, 8, 9, 10, 11, 12, 13, 14, 15, 16] [(17, [], [])] 116 rfl (by kernel_rfl) ?_))) <;> ((try with_reducible intro K1 hK1); simp only [go_sem, ↓reduceIte, reduceCtorEq, Nat.reduceAdd, Nat.reduceSub, Nat.reduceMul, Nat.reduceLT, Nat.reduceLeDiff, Nat.reduceEqDiff, hH0, Nat.reduceMod, Nat.reduceDiv, Nat.reducePow]; (try and_intros); all_goals first | (refine hK1 _ ?_; clear hK1 K1) | (intros; first | (with_reducible trivial) | omega | (simp_all <;> omega)) | skip)) | (with_reducible first | refine wQ ?_ | refine zS ?_ | refine zN ?_ | refine zX ?_ | refine zE ?_ | refine zF ?_ | refine zO (by decide) ?_ | refine zB ?_)))
        refine awp_cond (t := _) rfl (fun h1 => by cases h1) (fun _ => ?_)
        (repeat (first | (with_reducible first | refine wB ?_ | refine wN ?_ | refine wT ?_) | ((with_reducible refine wI ?_); refine wN ?_) | ((first | ((with_reducible refine yS ?_); refine awp_keep 154742654650856545879597411 100 (kS ?_)) | ((with_reducible refine yR ?_); refine awp_keep 154742654650856545879597411 100 (kR ?_)) | (with_reducible first | refine wG ?_ | refine wH ?_ | refine wM ?_ ?_) | ((with_reducible refine xR ?_); refine awp_keep 154742654650856545879597411 100 (uE 7 (mdL []) [0, 1, 2, 3, 4, 5, 6, 7, 8, 9, 10, 11, 12, 13, 14, 15, 16] [(17, [], [18, 19]), (20, [], [])] 116 rfl (by kernel_rfl) ?_)) | ((with_reducible refine xR ?_); refine awp_keep 154742654650856545879597411 100 (uE 15 (mdL []) [0, 1, 2, 3, 4, 5, 6, 7, 8, 9, 10, 11, 12, 13, 14, 15, 16] [(17, [], [])] 116 rfl (by kernel_rfl) ?_))) <;> ((try with_reducible intro K1 hK1); simp only [go_sem, ↓reduceIte, reduceCtorEq, Nat.reduceAdd, Nat.reduceSub, Nat.reduceMul, Nat.reduceLT, Nat.reduceLeDiff, Nat.reduceEqDiff, hH0, Nat.reduceMod, Nat.reduceDiv, Nat.reducePow]; (try and_intros); all_goals first | (refine hK1 _ ?_; clear hK1 K1) | (intros; first | (with_reducible trivial) | omega | (simp_all <;> omega)) | skip)) | (with_reducible first | refine wQ ?_ | refine zS ?_ | refine zN ?_ | refine zX ?_ | refine zE ?_ | refine zF ?_ | refine zO (by decide) ?_ | refine zB ?_)))
        refine awp_cond (t := _) rfl (fun h1 => by cases h1) (fun _ => ?_)
        (repeat (first | (with_reducible first | refine wB ?_ | refine wN ?_ | refine wT ?_) | ((with_reducible refine wI ?_); refine wN ?_) | ((first | ((with_reducible refine yS ?_); refine awp_keep 154742654650856545879597411 100 (kS ?_)) | ((with_reducible refine yR ?_); refine awp_keep 154742654650856545879597411 100 (kR ?_)) | (with_reducible first | refine wG ?_ | refine wH ?_ | refine wM ?_ ?_) | ((with_reducible refine xR ?_); refine awp_keep 154742654650856545879597411 100 (uE 7 (mdL []) [0, 1, 2, 3, 4, 5, 6, 7, 8, 9, 10, 11, 12, 13, 14, 15, 16] [(17, [], [18, 19]), (20, [], [])] 116 rfl (by kernel_rfl) ?_)) | ((with_reducible refine xR ?_); refine awp_keep 154742654650856545879597411 100 (uE 15 (mdL []) [0, 1, 2, 3, 4, 5, 6, 7, 8, 9, 10, 11, 12, 13, 14, 15, 16] [(17, [], [])] 116 rfl (by kernel_rfl) ?_))) <;> ((try with_reducible intro K1 hK1); simp only [go_sem, ↓reduceIte, reduceCtorEq, Nat.reduceAdd, Nat.reduceSub, Nat.reduceMul, Nat.reduceLT, Nat.reduceLeDiff, Nat.reduceEqDiff, hH0, Nat.reduceMod, Nat.reduceDiv, Nat.reducePow]; (try and_intros); all_goals first | (refine hK1 _ ?_; clear hK1 K1) | (intros; first | (with_reducible trivial) | omega | (simp_all <;> omega)) | skip)) | (with_reducible first | refine wQ ?_ | refine zS ?_ | refine zN ?_ | refine zX ?_ | refine zE ?_ | refine zF ?_ | refine zO (by decide) ?_ | refine zB ?_)))
        refine awp_cond (t := _) rfl (fun _ => ?_) (fun h1 => by cases h1)
        have hnk : 0 < kids.length := List.length_pos_iff.2 (v3 (by omega))
        have htm := Int.tmod_lt_of_pos p (show (0 : Int) < kids.length by omega)
        have htn := Int.tmod_nonneg (kids.length : Int) hpn.1
        have hix : idxL 3 p many kids.length (nextF shares p cs) = [(p.tmod kids.length).toNat] := by simp [idxL]
        have hx : (p.tmod kids.length).toNat < kids.length := by omega
        have hgz : (az.map fun a : AT => [AV.ptr a.id 0]).getD (p.tmod kids.length).toNat [] = [.ptr (az.getD (p.tmod kids.length).toNat default).id 0] := getD_enc (fun a : AT => [AV.ptr a.id 0]) az _ default (by omega)
        obtain ⟨a1, a2, a3, a4, a5, a6⟩ := hs0.ask hS ho hx
        (repeat (first | (with_reducible first | refine wB ?_ | refine wN ?_ | refine wT ?_) | ((with_reducible refine wI ?_); refine wN ?_) | ((first | ((with_reducible refine yS ?_); refine awp_keep 154742654650856545879597411 100 (kS ?_)) | ((with_reducible refine yR ?_); refine awp_keep 154742654650856545879597411 100 (kR ?_)) | (with_reducible first | refine wG ?_ | refine wH ?_ | refine wM ?_ ?_) | ((with_reducible refine xR ?_); refine awp_keep 154742654650856545879597411 100 (uE 7 (mdL []) [0, 1, 2, 3, 4, 5, 6, 7, 8, 9, 10, 11, 12, 13, 14, 15, 16] [(17, [], [18, 19]), (20, [], [])] 116 rfl (by kernel_rfl) ?_)) | ((with_reducible refine xR ?_); refine awp_keep 154742654650856545879597411 100 (uE 15 (mdL []) [0, 1, 2, 3, 4, 5, 6, 7, 8, 9, 10, 11, 12, 13, 14, 15, 16] [(17, [], [])] 116 rfl (by kernel_rfl) ?_))) <;> ((try with_reducible intro K1 hK1); simp only [go_sem, ↓reduceIte, reduceCtorEq, Nat.reduceAdd, Nat.reduceSub, Nat.reduceMul, Nat.reduceLT, Nat.reduceLeDiff, Nat.reduceEqDiff, hH0, hz0, hgz, Nat.reduceMod, Nat.reduceDiv, Nat.reducePow]; (try and_intros); all_goals first | (refine hK1 _ ?_; clear hK1 K1) | (intros; first | (with_reducible trivial) | omega | (simp_all <;> omega)) | skip)) | (with_reducible first | refine wQ ?_ | refine zS ?_ | refine zN ?_ | refine zX ?_ | refine zE ?_ | refine zF ?_ | refine zO (by decide) ?_ | refine zB ?_)))
        refine (g_passP d _ _ _ h o k out (v8 _ (getD_mem' kids _ default hx)) a1 a2 a3 a4 a5 a6).mono ?_
        intro r h3 hres
        obtain ⟨cs2, ks2, out2, hs2⟩ := hs0.next (by omega) hS ho hx (v8 _ (getD_mem' kids _ default hx)) hres
        obtain ⟨rfl, _⟩ := hres
        refine hK1 _ ?_; clear hK1 K1
        (repeat (first | (with_reducible first | refine wB ?_ | refine wN ?_ | refine wT ?_) | ((with_reducible refine wI ?_); refine wN ?_) | ((first | ((with_reducible refine yS ?_); refine awp_keep 154742654650856545879597411 100 (kS ?_)) | ((with_reducible refine yR ?_); refine awp_keep 154742654650856545879597411 100 (kR ?_)) | (with_reducible first | refine wG ?_ | refine wH ?_ | refine wM ?_ ?_) | ((with_reducible refine xR ?_); refine awp_keep 154742654650856545879597411 100 (uE 7 (mdL []) [0, 1, 2, 3, 4, 5, 6, 7, 8, 9, 10, 11, 12, 13, 14, 15, 16] [(17, [], [18, 19]), (20, [], [])] 116 rfl (by kernel_rfl) ?_)) | ((with_reducible refine xR ?_); refine awp_keep 154742654650856545879597411 100 (uE 15 (mdL []) [0, 1, 2, 3, 4, 5, 6, 7, 8, 9, 10, 11, 12, 13, 14, 15, 16] [(17, [], [])] 116 rfl (by kernel_rfl) ?_))) <;> ((try with_reducible intro K1 hK1); simp only [go_sem, ↓reduceIte, reduceCtorEq, Nat.reduceAdd, Nat.reduceSub, Nat.reduceMul, Nat.reduceLT, Nat.reduceLeDiff, Nat.reduceEqDiff, Nat.reduceMod, Nat.reduceDiv, Nat.reducePow]; (try and_intros); all_goals first | (refine hK1 _ ?_; clear hK1 K1) | (intros; first | (with_reducible trivial) | omega | (simp_all <;> omega)) | skip)) | (with_reducible first | refine wQ ?_ | refine zS ?_ | refine zN ?_ | refine zX ?_ | refine zE ?_ | refine zF ?_ | refine zO (by decide) ?_ | refine zB ?_)))
        exact ⟨h3, cs2, ks2, out2, by rw [hix]; exact hs2, rfl⟩
      · have hs0 : St2 d (.mk 4 item long many kids shares) kids (.mk i c0 az) p h o k out ((cs, ks), []) h cs ks out := ⟨hR, hO, hfr0, ⟨⟨l2, l4⟩, hB.2.1, hB.2.2⟩, by omega, fun _ => ⟨rfl, by simp⟩, fun h => by simp only [List.length_nil] at h; omega⟩
        obtain ⟨⟨tk, hC0⟩, hz0⟩ := hs0.cells (v3 (by omega))
        have hKe := hH0.symm.trans hC0
        simp only [Option.some.injEq, AO.cells.injEq, List.cons.injEq, true_and, and_true] at hKe
        subst hKe
        (repeat (first | (with_reducible first | refine wB ?_ | refine wN ?_ | refine wT ?_) | ((with_reducible refine wI ?_); refine wN ?_) | ((first | ((with_reducible refine yS ?_); refine awp_keep 154742654650856545879597411 100 (kS ?_)) | ((with_reducible refine yR ?_); refine awp_keep 154742654650856545879597411 100 (kR ?_)) | (with_reducible first | refine wG ?_ | refine wH ?_ | refine wM ?_ ?_) | ((with_reducible refine xR ?_); refine awp_keep 154742654650856545879597411 100 (uE 7 (mdL []) [0, 1, 2, 3, 4, 5, 6, 7, 8, 9, 10, 11, 12, 13, 14, 15, 16] [(17, [], [18, 19]), (20, [], [])] 116 rfl (by kernel_rfl) ?_)) | ((with_reducible refine xR ?_); refine awp_keep 154742654650856545879597411 100 (uE 15 (mdL []) [0, 1, 2, 3, 4, 5, 6, 7, 8, 9, 10, 11, 12, 13, 14, 15, 16] [(17, [], [])] 116 rfl (by kernel_rfl) ?_))) <;> ((try with_reducible intro K1 hK1); simp only [go_sem, ↓reduceIte, reduceCtorEq, Nat.reduceAdd, Nat.reduceSub, Nat.reduceMul, Nat.reduceLT, Nat.reduceLeDiff, Nat.reduceEqDiff, hH0, Nat.reduceMod, Nat.reduceDiv, Nat.reducePow]; (try and_intros); all_goals first | (refine hK1 _ ?_; clear hK1 K1) | (intros; first | (with_reducible trivial) | omega | (simp_all <;> omega)) | skip)) | (with_reducible first | refine wQ ?_ | refine zS ?_ | refine zN ?_ | refine zX ?_ | refine zE ?_ | refine zF ?_ | refine zO (by decide) ?_ | refine zB ?_)))
        refine awp_cond (t := _) rfl (fun h1 => by cases h1) (fun _ => ?_)
        (repeat (first | (with_reducible first | refine wB ?_ | refine wN ?_ | refine wT ?_) | ((with_reducible refine wI ?_); refine wN ?_) | ((first | ((with_reducible refine yS ?_); refine awp_keep 154742654650856545879597411 100 (kS ?_)) | ((with_reducible refine yR ?_); refine awp_keep 154742654650856545879597411 100 (kR ?_)) | (with_reducible first | refine wG ?_ | refine wH ?_ | refine wM ?_ ?_) | ((with_reducible refine xR ?_); refine awp_keep 154742654650856545879597411 100 (uE 7 (mdL []) [0, 1, 2, 3, 4, 5, 6, 7, 8, 9, 10, 11, 12, 13, 14, 15, 16] [(17, [], [18, 19]), (20, [], [])] 116 rfl (by kernel_rfl) ?_)) | ((with_reducible refine xR ?_); refine awp_keep 154742654650856545879597411 100 (uE 15 (mdL []) [0, 1, 2, 3, 4, 5, 6, 7, 8, 9, 10, 11, 12, 13, 14, 15, 16] [(17, [], [])] 116 rfl (by kernel_rfl) ?_))) <;> ((try with_reducible intro K1 hK1); simp only [go_sem, ↓reduceIte, reduceCtorEq, Nat.reduceAdd, Nat.reduceSub, Nat.reduceMul, Nat.reduceLT, Nat.reduceLeDiff, Nat.reduceEqDiff, hH0, Nat.reduceMod, Nat.reduceDiv, Nat.reducePow]; (try and_intros); all_goals first | (refine hK1 _ ?_; clear hK1 K1) | (intros; first | (with_reducible trivial) | omega | (simp_all <;> omega)) | skip)) | (with_reducible first | refine wQ ?_ | refine zS ?_ | refine zN ?_ | refine zX ?_ | refine zE ?_ | refine zF ?_ | refine zO (by decide) ?_ | refine zB ?_)))
        refine awp_cond (t := _) rfl (fun h1 => by cases h1) (fun _ => ?_)
        (repeat (first | (with_reducible first | refine wB ?_ | refine wN ?_ | refine wT ?_) | ((with_reducible refine wI ?_); refine wN ?_) | ((first | ((with_reducible refine yS ?_); refine awp_keep 154742654650856545879597411 100 (kS ?_)) | ((with_reducible refine yR ?_); refine awp_keep 154742654650856545879597411 100 (kR ?_)) | (with_reducible first | refine wG ?_ | refine wH ?_ | refine wM ?_ ?_) | ((with_reducible refine xR ?_); refine awp_keep 154742654650856545879597411 100 (uE 7 (mdL []) [0, 1, 2, 3, 4, 5, 6, 7, 8, 9, 10, 11, 12, 13, 14, 15, 16] [(17, [], [18, 19]), (20, [], [])] 116 rfl (by kernel_rfl) ?_)) | ((with_reducible refine xR ?_); refine awp_keep 154742654650856545879597411 100 (uE 15 (mdL []) [0, 1, 2, 3, 4, 5, 6, 7, 8, 9, 10, 11, 12, 13, 14, 15, 16] [(17, [], [])] 116 rfl (by kernel_rfl) ?_))) <;> ((try with_reducible intro K1 hK1); simp only [go_sem, ↓reduceIte, reduceCtorEq, Nat.reduceAdd, Nat.reduceSub, Nat.reduceMul, Nat.reduceLT, Nat.reduceLeDiff, Nat.reduceEqDiff, hH0, Nat.reduceMod, Nat.reduceDiv, Nat.reducePow]; (try and_intros); all_goals first | (refine hK1 _ ?_; clear hK1 K1) | (intros; first | (with_reducible trivial) | omega | (simp_all <;> omega)) | skip)) | (with_reducible first | refine wQ ?_ | refine zS ?_ | refine zN ?_ | refine zX ?_ | refine zE ?_ | refine zF ?_ | refine zO (by decide) ?_ | refine zB ?_)))
        refine awp_cond (t := _) rfl (fun h1 => by cases h1) (fun _ => ?_)
        (repeat (first | (with_reducible first | refine wB ?_ | refine wN ?_ | refine wT ?_) | ((with_reducible refine wI ?_); refine wN ?_) | ((first | ((with_reducible refine yS ?_); refine awp_keep 154742654650856545879597411 100 (kS ?_)) | ((with_reducible refine yR ?_); refine awp_keep 154742654650856545879597411 100 (kR ?_)) | (with_reducible first | refine wG ?_ | refine wH ?_ | refine wM ?_ ?_) | ((with_reducible refine xR ?_); refine awp_keep 154742654650856545879597411 100 (uE 7 (mdL []) [0, 1, 2, 3, 4, 5, 6, 7, 8, 9, 10, 11, 12, 13, 14, 15, 16] [(17, [], [18, 19]), (20, [], [])] 116 rfl (by kernel_rfl) ?_)) | ((with_reducible refine xR ?_); refine awp_keep 154742654650856545879597411 100 (uE 15 (mdL []) [0, 1, 2, 3, 4, 5, 6, 7, 8, 9, 10, 11, 12, 13, 14, 15, 16] [(17, [], [])] 116 rfl (by kernel_rfl) ?_))) <;> ((try with_reducible intro K1 hK1); simp only [go_sem, ↓reduceIte, reduceCtorEq, Nat.reduceAdd, Nat.reduceSub, Nat.reduceMul, Nat.reduceLT, Nat.reduceLeDiff, Nat.reduceEqDiff, hH0, Nat.reduceMod, Nat.reduceDiv, Nat.reducePow]; (try and_intros); all_goals first | (refine hK1 _ ?_; clear hK1 K1) | (intros; first | (with_reducible trivial) | omega | (simp_all <;> omega)) | skip)) | (with_reducible first | refine wQ ?_ | refine zS ?_ | refine zN ?_ | refine zX ?_ | refine zE ?_ | refine zF ?_ | refine zO (by decide) ?_ | refine zB ?_)))
        refine awp_cond (t := _) rfl (fun _ => ?_) (fun h1 => by cases h1)
        have hsl := v5 rfl
        have hnk : 0 < kids.length := List.length_pos_iff.2 (v3 (by omega))
        have hx : nextF shares p cs < kids.length := by rw [← hsl]; exact bestTo_lt _ _ (by omega)
        have hix : idxL 4 p many kids.length (nextF shares p cs) = [nextF shares p cs] := by simp [idxL]
        have hT0 : h.T c0 = some (.cont 1 (cs.map encI)) := hT
        have hH4 := hH0
        rw [← hsl] at hH4
        (repeat (first | (with_reducible first | refine wB ?_ | refine wN ?_ | refine wT ?_) | ((with_reducible refine wI ?_); refine wN ?_) | ((first | ((with_reducible refine yS ?_); refine awp_keep 154742654650856545879597411 100 (kS ?_)) | ((with_reducible refine yR ?_); refine awp_keep 154742654650856545879597411 100 (kR ?_)) | (with_reducible first | refine wG ?_ | refine wH ?_ | refine wM ?_ ?_) | ((with_reducible refine xR ?_); refine awp_keep 154742654650856545879597411 100 (uE 7 (mdL []) [0, 1, 2, 3, 4, 5, 6, 7, 8, 9, 10, 11, 12, 13, 14, 15, 16] [(17, [], [18, 19]), (20, [], [])] 116 rfl (by kernel_rfl) ?_)) | ((with_reducible refine xR ?_); refine awp_keep 154742654650856545879597411 100 (uE 15 (mdL []) [0, 1, 2, 3, 4, 5, 6, 7, 8, 9, 10, 11, 12, 13, 14, 15, 16] [(17, [], [])] 116 rfl (by kernel_rfl) ?_))) <;> ((try with_reducible intro K1 hK1); simp only [go_sem, ↓reduceIte, reduceCtorEq, Nat.reduceAdd, Nat.reduceSub, Nat.reduceMul, Nat.reduceLT, Nat.reduceLeDiff, Nat.reduceEqDiff, Nat.reduceMod, Nat.reduceDiv, Nat.reducePow]; (try and_intros); all_goals first | (refine hK1 _ ?_; clear hK1 K1) | (intros; first | (with_reducible trivial) | omega | (simp_all <;> omega)) | skip)) | (with_reducible first | refine wQ ?_ | refine zS ?_ | refine zN ?_ | refine zX ?_ | refine zE ?_ | refine zF ?_ | refine zO (by decide) ?_ | refine zB ?_)))
        refine (g_behind45 4 item long many (.row 6 (kids.map encL) none) shares (.row 1 (az.map fun a => [.ptr a.id 0]) tk) p i c0 cs h hH4 hT0 (by omega) (by omega) v6 (by omega) hcn).mono ?_; rintro _ hz ⟨rfl, hh⟩; refine hK1 _ ?_; clear hK1 K1; rw [hh]; clear hh hz
        have hcl : cs.length = kids.length := l2
        have hgc : (cs.map encI).getD (nextF shares p cs) [] = encI (cs.getD (nextF shares p cs) 0) := getD_enc encI cs _ 0 (by omega)
        have hcb := hcn _ (getD_mem' cs (nextF shares p cs) 0 (by omega))
        have hgz : (az.map fun a : AT => [AV.ptr a.id 0]).getD (nextF shares p cs) [] = [.ptr (az.getD (nextF shares p cs) default).id 0] := getD_enc (fun a : AT => [AV.ptr a.id 0]) az _ default (by omega)
        generalize hxe : nextF shares p cs = x at *
        (repeat (first | (with_reducible first | refine wB ?_ | refine wN ?_ | refine wT ?_) | ((with_reducible refine wI ?_); refine wN ?_) | ((first | ((with_reducible refine yS ?_); refine awp_keep 154742654650856545879597411 100 (kS ?_)) | ((with_reducible refine yR ?_); refine awp_keep 154742654650856545879597411 100 (kR ?_)) | (with_reducible first | refine wG ?_ | refine wH ?_ | refine wM ?_ ?_) | ((with_reducible refine xR ?_); refine awp_keep 154742654650856545879597411 100 (uE 7 (mdL []) [0, 1, 2, 3, 4, 5, 6, 7, 8, 9, 10, 11, 12, 13, 14, 15, 16] [(17, [], [18, 19]), (20, [], [])] 116 rfl (by kernel_rfl) ?_)) | ((with_reducible refine xR ?_); refine awp_keep 154742654650856545879597411 100 (uE 15 (mdL []) [0, 1, 2, 3, 4, 5, 6, 7, 8, 9, 10, 11, 12, 13, 14, 15, 16] [(17, [], [])] 116 rfl (by kernel_rfl) ?_))) <;> ((try with_reducible intro K1 hK1); simp only [go_sem, ↓reduceIte, reduceCtorEq, Nat.reduceAdd, Nat.reduceSub, Nat.reduceMul, Nat.reduceLT, Nat.reduceLeDiff, Nat.reduceEqDiff, hH0, hT0, hcl, hgc, hz0, hgz, Int.toNat_natCast, encI, Nat.reduceMod, Nat.reduceDiv, Nat.reducePow]; (try and_intros); all_goals first | (refine hK1 _ ?_; clear hK1 K1) | (intros; first | (with_reducible trivial) | omega | (simp_all <;> omega)) | skip)) | (with_reducible first | refine wQ ?_ | refine zS ?_ | refine zN ?_ | refine zX ?_ | refine zE ?_ | refine zF ?_ | refine zO (by decide) ?_ | refine zB ?_)))
        have hck : c0 ≠ k := fun e => hkt (by rw [toksT_eq, e]; simp)
        have hR4 := hR.count hS (cs' := cs.set x (cs.getD x 0 + 1)) (by simp) (by simp [XP]; omega)
        rw [show XP.cf 4 (cs.set x (cs.getD x 0 + 1)) = cs.set x (cs.getD x 0 + 1) from rfl, List.map_set] at hR4
        have hO4 : OutAt { h with T := upd h.T c0 (some (.cont 1 ((cs.map encI).set x (encI (cs.getD x 0 + 1))))) } o k oEx out := ⟨hO.1, (upd_other _ _ (fun e => hck e.symm)).trans hO.2⟩
        have hk4 := hR4.2.2.2 x hx
        have hF4 : FrP (.mk i c0 az) o k h { h with T := upd h.T c0 (some (.cont 1 ((cs.map encI).set x (encI (cs.getD x 0 + 1))))) } := ⟨fun _ _ _ => rfl, fun y hy _ => upd_other _ _ (fun e => hy (by rw [toksT_eq, e]; simp))⟩
        refine (g_passP d _ _ _ _ o k out (v8 _ (getD_mem' kids x default hx)) hk4 (hS x (by omega)).1.2.2 (hB.2.2 x hx) hO4 (fun hh => ho (idsT_kid (by omega) hh)) hout).mono ?_
        rintro r h3 ⟨rfl, s', out2, r1, r2, r3, r4⟩
        refine hK1 _ ?_; clear hK1 K1
        (repeat (first | (with_reducible first | refine wB ?_ | refine wN ?_ | refine wT ?_) | ((with_reducible refine wI ?_); refine wN ?_) | ((first | ((with_reducible refine yS ?_); refine awp_keep 154742654650856545879597411 100 (kS ?_)) | ((with_reducible refine yR ?_); refine awp_keep 154742654650856545879597411 100 (kR ?_)) | (with_reducible first | refine wG ?_ | refine wH ?_ | refine wM ?_ ?_) | ((with_reducible refine xR ?_); refine awp_keep 154742654650856545879597411 100 (uE 7 (mdL []) [0, 1, 2, 3, 4, 5, 6, 7, 8, 9, 10, 11, 12, 13, 14, 15, 16] [(17, [], [18, 19]), (20, [], [])] 116 rfl (by kernel_rfl) ?_)) | ((with_reducible refine xR ?_); refine awp_keep 154742654650856545879597411 100 (uE 15 (mdL []) [0, 1, 2, 3, 4, 5, 6, 7, 8, 9, 10, 11, 12, 13, 14, 15, 16] [(17, [], [])] 116 rfl (by kernel_rfl) ?_))) <;> ((try with_reducible intro K1 hK1); simp only [go_sem, ↓reduceIte, reduceCtorEq, Nat.reduceAdd, Nat.reduceSub, Nat.reduceMul, Nat.reduceLT, Nat.reduceLeDiff, Nat.reduceEqDiff, Nat.reduceMod, Nat.reduceDiv, Nat.reducePow]; (try and_intros); all_goals first | (refine hK1 _ ?_; clear hK1 K1) | (intros; first | (with_reducible trivial) | omega | (simp_all <;> omega)) | skip)) | (with_reducible first | refine wQ ?_ | refine zS ?_ | refine zN ?_ | refine zX ?_ | refine zE ?_ | refine zF ?_ | refine zO (by decide) ?_ | refine zB ?_)))
        have hst := hs0.2.2.2.step hx (v8 _ (getD_mem' kids x default hx)) hk4.fits r4
        rw [if_pos (by simp only [List.length_nil]; omega)] at hst
        exact ⟨h3, _, _, out2, ⟨hR4.kid hS ho (hR4.tokNe hO4.2) hx r1 r3, r2, hF4.trans (r3.kid (by omega)), by rw [hxe, hix]; exact hst⟩, rfl⟩
      · have hs0 : St2 d (.mk 5 item long many kids shares) kids (.mk i c0 az) p h o k out ((cs, ks), []) h cs ks out := ⟨hR, hO, hfr0, ⟨⟨l2, l4⟩, hB.2.1, hB.2.2⟩, by omega, fun _ => ⟨rfl, by simp⟩, fun h => by simp only [List.length_nil] at h; omega⟩
        obtain ⟨⟨tk, hC0⟩, hz0⟩ := hs0.cells (v3 (by omega))
        have hKe := hH0.symm.trans hC0
        simp only [Option.some.injEq, AO.cells.injEq, List.cons.injEq, true_and, and_true] at hKe
        subst hKe
        (repeat (first | (with_reducible first | refine wB ?_ | refine wN ?_ | refine wT ?_) | ((with_reducible refine wI ?_); refine wN ?_) | ((first | ((with_reducible refine yS ?_); refine awp_keep 154742654650856545879597411 100 (kS ?_)) | ((with_reducible refine yR ?_); refine awp_keep 154742654650856545879597411 100 (kR ?_)) | (with_reducible first | refine wG ?_ | refine wH ?_ | refine wM ?_ ?_) | ((with_reducible refine xR ?_); refine awp_keep 154742654650856545879597411 100 (uE 7 (mdL []) [0, 1, 2, 3, 4, 5, 6, 7, 8, 9, 10, 11, 12, 13, 14, 15, 16] [(17, [], [18, 19]), (20, [], [])] 116 rfl (by kernel_rfl) ?_)) | ((with_reducible refine xR ?_); refine awp_keep 154742654650856545879597411 100 (uE 15 (mdL []) [0, 1, 2, 3, 4, 5, 6, 7, 8, 9, 10, 11, 12, 13, 14, 15, 16] [(17, [], [])] 116 rfl (by kernel_rfl) ?_))) <;> ((try with_reducible intro K1 hK1); simp only [go_sem, ↓reduceIte, reduceCtorEq, Nat.reduceAdd, Nat.reduceSub, Nat.reduceMul, Nat.reduceLT, Nat.reduceLeDiff, Nat.reduceEqDiff, hH0, Nat.reduceMod, Nat.reduceDiv, Nat.reducePow]; (try and_intros); all_goals first | (refine hK1 _ ?_; clear hK1 K1) | (intros; first | (with_reducible trivial) | omega | (simp_all <;> omega)) | skip)) | (with_reducible first | refine wQ ?_ | refine zS ?_ | refine zN ?_ | refine zX ?_ | refine zE ?_ | refine zF ?_ | refine zO (by decide) ?_ | refine zB ?_)))
        refine awp_cond (t := _) rfl (fun h1 => by cases h1) (fun _ => ?_)
        (repeat (first | (with_reducible first | refine wB ?_ | refine wN ?_ | refine wT ?_) | ((with_reducible refine wI ?_); refine wN ?_) | ((first | ((with_reducible refine yS ?_); refine awp_keep 154742654650856545879597411 100 (kS ?_)) | ((with_reducible refine yR ?_); refine awp_keep 154742654650856545879597411 100 (kR ?_)) | (with_reducible first | refine wG ?_ | refine wH ?_ | refine wM ?_ ?_) | ((with_reducible refine xR ?_); refine awp_keep 154742654650856545879597411 100 (uE 7 (mdL []) [0, 1, 2, 3, 4, 5, 6, 7, 8, 9, 10, 11, 12, 13, 14, 15, 16] [(17, [], [18, 19]), (20, [], [])] 116 rfl (by kernel_rfl) ?_)) | ((with_reducible refine xR ?_); refine awp_keep 154742654650856545879597411 100 (uE 15 (mdL []) [0, 1, 2, 3, 4, 5, 6, 7, 8, 9, 10, 11, 12, 13, 14, 15, 16] [(17, [], [])] 116 rfl (by kernel_rfl) ?_))) <;> ((try with_reducible intro K1 hK1); simp only [go_sem, ↓reduceIte, reduceCtorEq, Nat.reduceAdd, Nat.reduceSub, Nat.reduceMul, Nat.reduceLT, Nat.reduceLeDiff, Nat.reduceEqDiff, hH0, Nat.reduceMod, Nat.reduceDiv, Nat.reducePow]; (try and_intros); all_goals first | (refine hK1 _ ?_; clear hK1 K1) | (intros; first | (with_reducible trivial) | omega | (simp_all <;> omega)) | skip)) | (with_reducible first | refine wQ ?_ | refine zS ?_ | refine zN ?_ | refine zX ?_ | refine zE ?_ | refine zF ?_ | refine zO (by decide) ?_ | refine zB ?_)))
        refine awp_cond (t := _) rfl (fun h1 => by cases h1) (fun _ => ?_)
        (repeat (first | (with_reducible first | refine wB ?_ | refine wN ?_ | refine wT ?_) | ((with_reducible refine wI ?_); refine wN ?_) | ((first | ((with_reducible refine yS ?_); refine awp_keep 154742654650856545879597411 100 (kS ?_)) | ((with_reducible refine yR ?_); refine awp_keep 154742654650856545879597411 100 (kR ?_)) | (with_reducible first | refine wG ?_ | refine wH ?_ | refine wM ?_ ?_) | ((with_reducible refine xR ?_); refine awp_keep 154742654650856545879597411 100 (uE 7 (mdL []) [0, 1, 2, 3, 4, 5, 6, 7, 8, 9, 10, 11, 12, 13, 14, 15, 16] [(17, [], [18, 19]), (20, [], [])] 116 rfl (by kernel_rfl) ?_)) | ((with_reducible refine xR ?_); refine awp_keep 154742654650856545879597411 100 (uE 15 (mdL []) [0, 1, 2, 3, 4, 5, 6, 7, 8, 9, 10, 11, 12, 13, 14, 15, 16] [(17, [], [])] 116 rfl (by kernel_rfl) ?_))) <;> ((try with_reducible intro K1 hK1); simp only [go_sem, ↓reduceIte, reduceCtorEq, Nat.reduceAdd, Nat.reduceSub, Nat.reduceMul, Nat.reduceLT, Nat.reduceLeDiff, Nat.reduceEqDiff, hH0, Nat.reduceMod, Nat.reduceDiv, Nat.reducePow]; (try and_intros); all_goals first | (refine hK1 _ ?_; clear hK1 K1) | (intros; first | (with_reducible trivial) | omega | (simp_all <;> omega)) | skip)) | (with_reducible first | refine wQ ?_ | refine zS ?_ | refine zN ?_ | refine zX ?_ | refine zE ?_ | refine zF ?_ | refine zO (by decide) ?_ | refine zB ?_)))
        refine awp_cond (t := _) rfl (fun h1 => by cases h1) (fun _ => ?_)
        (repeat (first | (with_reducible first | refine wB ?_ | refine wN ?_ | refine wT ?_) | ((with_reducible refine wI ?_); refine wN ?_) | ((first | ((with_reducible refine yS ?_); refine awp_keep 154742654650856545879597411 100 (kS ?_)) | ((with_reducible refine yR ?_); refine awp_keep 154742654650856545879597411 100 (kR ?_)) | (with_reducible first | refine wG ?_ | refine wH ?_ | refine wM ?_ ?_) | ((with_reducible refine xR ?_); refine awp_keep 154742654650856545879597411 100 (uE 7 (mdL []) [0, 1, 2, 3, 4, 5, 6, 7, 8, 9, 10, 11, 12, 13, 14, 15, 16] [(17, [], [18, 19]), (20, [], [])] 116 rfl (by kernel_rfl) ?_)) | ((with_reducible refine xR ?_); refine awp_keep 154742654650856545879597411 100 (uE 15 (mdL []) [0, 1, 2, 3, 4, 5, 6, 7, 8, 9, 10, 11, 12, 13, 14, 15, 16] [(17, [], [])] 116 rfl (by kernel_rfl) ?_))) <;> ((try with_reducible intro K1 hK1); simp only [go_sem, ↓reduceIte, reduceCtorEq, Nat.reduceAdd, Nat.reduceSub, Nat.reduceMul, Nat.reduceLT, Nat.reduceLeDiff, Nat.reduceEqDiff, hH0, Nat.reduceMod, Nat.reduceDiv, Nat.reducePow]; (try and_intros); all_goals first | (refine hK1 _ ?_; clear hK1 K1) | (intros; first | (with_reducible trivial) | omega | (simp_all <;> omega)) | skip)) | (with_reducible first | refine wQ ?_ | refine zS ?_ | refine zN ?_ | refine zX ?_ | refine zE ?_ | refine zF ?_ | refine zO (by decide) ?_ | refine zB ?_)))
        refine awp_cond (t := _) rfl (fun h1 => by cases h1) (fun _ => ?_)
        have hm5 := v4 rfl
        have hx : 0 < kids.length := by omega
        (repeat (first | (with_reducible first | refine wB ?_ | refine wN ?_ | refine wT ?_) | ((with_reducible refine wI ?_); refine wN ?_) | ((first | ((with_reducible refine yS ?_); refine awp_keep 154742654650856545879597411 100 (kS ?_)) | ((with_reducible refine yR ?_); refine awp_keep 154742654650856545879597411 100 (kR ?_)) | (with_reducible first | refine wG ?_ | refine wH ?_ | refine wM ?_ ?_) | ((with_reducible refine xR ?_); refine awp_keep 154742654650856545879597411 100 (uE 7 (mdL []) [0, 1, 2, 3, 4, 5, 6, 7, 8, 9, 10, 11, 12, 13, 14, 15, 16] [(17, [], [18, 19]), (20, [], [])] 116 rfl (by kernel_rfl) ?_)) | ((with_reducible refine xR ?_); refine awp_keep 154742654650856545879597411 100 (uE 15 (mdL []) [0, 1, 2, 3, 4, 5, 6, 7, 8, 9, 10, 11, 12, 13, 14, 15, 16] [(17, [], [])] 116 rfl (by kernel_rfl) ?_))) <;> ((try with_reducible intro K1 hK1); simp only [go_sem, ↓reduceIte, reduceCtorEq, Nat.reduceAdd, Nat.reduceSub, Nat.reduceMul, Nat.reduceLT, Nat.reduceLeDiff, Nat.reduceEqDiff, hH0, Nat.reduceMod, Nat.reduceDiv, Nat.reducePow]; (try and_intros); all_goals first | (refine hK1 _ ?_; clear hK1 K1) | (intros; first | (with_reducible trivial) | omega | (simp_all <;> omega)) | skip)) | (with_reducible first | refine wQ ?_ | refine zS ?_ | refine zN ?_ | refine zX ?_ | refine zE ?_ | refine zF ?_ | refine zO (by decide) ?_ | refine zB ?_)))
        have hix : idxL 5 p many kids.length (nextF shares p cs) = List.replicate many.toNat 0 := by simp [idxL]
        refine awp_loopC (rl false [0, 2, 16, 2, 96]) 0 (fun g s => ∃ (j : Nat) (h1 : Hp) (cs' : List Int) (ks' : List PS) (out' : List (ByteArray × Int)), g + j = many.toNat ∧ St2 d (.mk 5 item long many kids shares) kids (.mk i c0 az) p h o k out ((List.replicate j 0).foldl (stepU (passU d) kids) ((cs, ks), [])) h1 cs' ks' out' ∧
          s = ⟨((.ptr i 0) :: (.ptr o 0) :: (jnk 16 ((.v (.int .i64 many)) :: (.v (.int .i64 j)) :: (jnk 96 [])))), [], h1⟩) many.toNat ⟨0, h, cs, ks, out, by omega, hs0, rfl⟩ ?_
        rintro g _ ⟨j, h1, cs', ks', out', hj, hs, rfl⟩
        (repeat (first | (with_reducible first | refine wB ?_ | refine wN ?_ | refine wT ?_) | ((with_reducible refine wI ?_); refine wN ?_) | ((first | ((with_reducible refine yS ?_); refine awp_keep 154742654650856545879597411 100 (kS ?_)) | ((with_reducible refine yR ?_); refine awp_keep 154742654650856545879597411 100 (kR ?_)) | (with_reducible first | refine wG ?_ | refine wH ?_ | refine wM ?_ ?_) | ((with_reducible refine xR ?_); refine awp_keep 154742654650856545879597411 100 (uE 7 (mdL []) [0, 1, 2, 3, 4, 5, 6, 7, 8, 9, 10, 11, 12, 13, 14, 15, 16] [(17, [], [18, 19]), (20, [], [])] 116 rfl (by kernel_rfl) ?_)) | ((with_reducible refine xR ?_); refine awp_keep 154742654650856545879597411 100 (uE 15 (mdL []) [0, 1, 2, 3, 4, 5, 6, 7, 8, 9, 10, 11, 12, 13, 14, 15, 16] [(17, [], [])] 116 rfl (by kernel_rfl) ?_))) <;> ((try with_reducible intro K1 hK1); simp only [go_sem, ↓reduceIte, reduceCtorEq, Nat.reduceAdd, Nat.reduceSub, Nat.reduceMul, Nat.reduceLT, Nat.reduceLeDiff, Nat.reduceEqDiff, Nat.reduceMod, Nat.reduceDiv, Nat.reducePow]; (try and_intros); all_goals first | (refine hK1 _ ?_; clear hK1 K1) | (intros; first | (with_reducible trivial) | omega | (simp_all <;> omega)) | skip)) | (with_reducible first | refine wQ ?_ | refine zS ?_ | refine zN ?_ | refine zX ?_ | refine zE ?_ | refine zF ?_ | refine zO (by decide) ?_ | refine zB ?_)))
        refine awp_cond (t := _) rfl (fun h2 => ?_) (fun h2 => ?_)
        · simp only [decide_eq_true_eq] at h2
          have hgz : (az.map fun a : AT => [AV.ptr a.id 0]).getD 0 [] = [.ptr (az.getD 0 default).id 0] := getD_enc (fun a : AT => [AV.ptr a.id 0]) az 0 default (by omega)
          obtain ⟨a1, a2, a3, a4, a5, a6⟩ := hs.ask hS ho hx
          obtain ⟨⟨tk1, hC1⟩, _⟩ := hs.cells (v3 (by omega))
          have hgz0 : ∀ tz, (az.map fun a : AT => [AV.ptr a.id 0]).getD (Int.toNat 0) tz = (az.map fun a : AT => [AV.ptr a.id 0]).getD 0 tz := fun _ => rfl
          (repeat (first | (with_reducible first | refine wB ?_ | refine wN ?_ | refine wT ?_) | ((with_reducible refine wI ?_); refine wN ?_) | ((first | ((with_reducible refine yS ?_); refine awp_keep 154742654650856545879597411 100 (kS ?_)) | ((with_reducible refine yR ?_); refine awp_keep 154742654650856545879597411 100 (kR ?_)) | (with_reducible first | refine wG ?_ | refine wH ?_ | refine wM ?_ ?_) | ((with_reducible refine xR ?_); refine awp_keep 154742654650856545879597411 100 (uE 7 (mdL []) [0, 1, 2, 3, 4, 5, 6, 7, 8, 9, 10, 11, 12, 13, 14, 15, 16] [(17, [], [18, 19]), (20, [], [])] 116 rfl (by kernel_rfl) ?_)) | ((with_reducible refine xR ?_); refine awp_keep 154742654650856545879597411 100 (uE 15 (mdL []) [0, 1, 2, 3, 4, 5, 6, 7, 8, 9, 10, 11, 12, 13, 14, 15, 16] [(17, [], [])] 116 rfl (by kernel_rfl) ?_))) <;> ((try with_reducible intro K1 hK1); simp only [go_sem, ↓reduceIte, reduceCtorEq, Nat.reduceAdd, Nat.reduceSub, Nat.reduceMul, Nat.reduceLT, Nat.reduceLeDiff, Nat.reduceEqDiff, hC1, hgz0, hgz, hz0, Nat.reduceMod, Nat.reduceDiv, Nat.reducePow]; (try and_intros); all_goals first | (refine hK1 _ ?_; clear hK1 K1) | (intros; first | (with_reducible trivial) | omega | (simp_all <;> omega)) | skip)) | (with_reducible first | refine wQ ?_ | refine zS ?_ | refine zN ?_ | refine zX ?_ | refine zE ?_ | refine zF ?_ | refine zO (by decide) ?_ | refine zB ?_)))
          refine (g_passP d _ _ _ h1 o k out' (v8 _ (getD_mem' kids 0 default hx)) a1 a2 a3 a4 a5 a6).mono ?_
          intro r h3 hres
          obtain ⟨cs2, ks2, out2, hs2⟩ := hs.next (by omega) hS ho hx (v8 _ (getD_mem' kids 0 default hx)) hres
          obtain ⟨rfl, _⟩ := hres
          refine hK1 _ ?_; clear hK1 K1
          (repeat (first | (with_reducible first | refine wB ?_ | refine wN ?_ | refine wT ?_) | ((with_reducible refine wI ?_); refine wN ?_) | ((first | ((with_reducible refine yS ?_); refine awp_keep 154742654650856545879597411 100 (kS ?_)) | ((with_reducible refine yR ?_); refine awp_keep 154742654650856545879597411 100 (kR ?_)) | (with_reducible first | refine wG ?_ | refine wH ?_ | refine wM ?_ ?_) | ((with_reducible refine xR ?_); refine awp_keep 154742654650856545879597411 100 (uE 7 (mdL []) [0, 1, 2, 3, 4, 5, 6, 7, 8, 9, 10, 11, 12, 13, 14, 15, 16] [(17, [], [18, 19]), (20, [], [])] 116 rfl (by kernel_rfl) ?_)) | ((with_reducible refine xR ?_); refine awp_keep 154742654650856545879597411 100 (uE 15 (mdL []) [0, 1, 2, 3, 4, 5, 6, 7, 8, 9, 10, 11, 12, 13, 14, 15, 16] [(17, [], [])] 116 rfl (by kernel_rfl) ?_))) <;> ((try with_reducible intro K1 hK1); simp only [go_sem, ↓reduceIte, reduceCtorEq, Nat.reduceAdd, Nat.reduceSub, Nat.reduceMul, Nat.reduceLT, Nat.reduceLeDiff, Nat.reduceEqDiff, Nat.reduceMod, Nat.reduceDiv, Nat.reducePow]; (try and_intros); all_goals first | (refine hK1 _ ?_; clear hK1 K1) | (intros; first | (with_reducible trivial) | omega | (simp_all <;> omega)) | skip)) | (with_reducible first | refine wQ ?_ | refine zS ?_ | refine zN ?_ | refine zX ?_ | refine zE ?_ | refine zF ?_ | refine zO (by decide) ?_ | refine zB ?_)))
          exact ⟨g - 1, by omega, j + 1, h3, cs2, ks2, out2, by omega, by rw [List.replicate_succ', List.foldl_append]; exact hs2, rfl⟩
        · simp only [decide_eq_false_iff_not] at h2
          have hjk : j = many.toNat := by omega
          subst hjk
          (repeat (first | (with_reducible first | refine wB ?_ | refine wN ?_ | refine wT ?_) | ((with_reducible refine wI ?_); refine wN ?_) | ((first | ((with_reducible refine yS ?_); refine awp_keep 154742654650856545879597411 100 (kS ?_)) | ((with_reducible refine yR ?_); refine awp_keep 154742654650856545879597411 100 (kR ?_)) | (with_reducible first | refine wG ?_ | refine wH ?_ | refine wM ?_ ?_) | ((with_reducible refine xR ?_); refine awp_keep 154742654650856545879597411 100 (uE 7 (mdL []) [0, 1, 2, 3, 4, 5, 6, 7, 8, 9, 10, 11, 12, 13, 14, 15, 16] [(17, [], [18, 19]), (20, [], [])] 116 rfl (by kernel_rfl) ?_)) | ((with_reducible refine xR ?_); refine awp_keep 154742654650856545879597411 100 (uE 15 (mdL []) [0, 1, 2, 3, 4, 5, 6, 7, 8, 9, 10, 11, 12, 13, 14, 15, 16] [(17, [], [])] 116 rfl (by kernel_rfl) ?_))) <;> ((try with_reducible intro K1 hK1); simp only [go_sem, ↓reduceIte, reduceCtorEq, Nat.reduceAdd, Nat.reduceSub, Nat.reduceMul, Nat.reduceLT, Nat.reduceLeDiff, Nat.reduceEqDiff, Nat.reduceMod, Nat.reduceDiv, Nat.reducePow]; (try and_intros); all_goals first | (refine hK1 _ ?_; clear hK1 K1) | (intros; first | (with_reducible trivial) | omega | (simp_all <;> omega)) | skip)) | (with_reducible first | refine wQ ?_ | refine zS ?_ | refine zN ?_ | refine zX ?_ | refine zE ?_ | refine zF ?_ | refine zO (by decide) ?_ | refine zB ?_)))
          exact ⟨h1, cs', ks', out', by rw [hix]; exact hs, rfl⟩
    · rintro _ ⟨h1, cs', ks', out', ⟨g1, g2, g3, g4⟩, rfl⟩
      obtain ⟨⟨K1', hH1, hK1'⟩, hT1, ⟨m1, m2, m3, m4⟩, hk1⟩ := id g1
      have hH10 : h1.H i = some (.cells [.v (.int .i64 kind), .v (.string item), .v (.int .i64 long), .v (.int .i64 many), .row 6 (kids.map encL) none, .row 1 (shares.map encI) none, K1', .v (.int .i64 p), .arr 1 c0 kids.length, .v (.int .i64 shares.sum)]) := hH1
      have hoi : o ≠ i := fun e => ho (by rw [idsT_eq, e]; simp)
      have hPS := passU_succ d kind item long many kids shares p cs ks
      have hpo := passU_ok (d + 1) _ _ out.length hv hfit (by omega) hB
      generalize (idxL kind p many kids.length (nextF shares p cs)).foldl (stepU (passU d) kids) ((cs, ks), if kind = 1 then [(item, long)] else []) = acc at *
      (repeat (first | (with_reducible first | refine wB ?_ | refine wN ?_ | refine wT ?_) | ((with_reducible refine wI ?_); refine wN ?_) | ((first | ((with_reducible refine yS ?_); refine awp_keep 154742654650856545879597411 100 (kS ?_)) | ((with_reducible refine yR ?_); refine awp_keep 154742654650856545879597411 100 (kR ?_)) | (with_reducible first | refine wG ?_ | refine wH ?_ | refine wM ?_ ?_) | ((with_reducible refine xR ?_); refine awp_keep 154742654650856545879597411 100 (uE 7 (mdL []) [0, 1, 2, 3, 4, 5, 6, 7, 8, 9, 10, 11, 12, 13, 14, 15, 16] [(17, [], [18, 19]), (20, [], [])] 116 rfl (by kernel_rfl) ?_)) | ((with_reducible refine xR ?_); refine awp_keep 154742654650856545879597411 100 (uE 15 (mdL []) [0, 1, 2, 3, 4, 5, 6, 7, 8, 9, 10, 11, 12, 13, 14, 15, 16] [(17, [], [])] 116 rfl (by kernel_rfl) ?_))) <;> ((try with_reducible intro K1 hK1); simp only [go_sem, ↓reduceIte, reduceCtorEq, Nat.reduceAdd, Nat.reduceSub, Nat.reduceMul, Nat.reduceLT, Nat.reduceLeDiff, Nat.reduceEqDiff, hH10, Nat.reduceMod, Nat.reduceDiv, Nat.reducePow]; (try and_intros); all_goals first | (refine hK1 _ ?_; clear hK1 K1) | (intros; first | (with_reducible trivial) | omega | (simp_all <;> omega)) | skip)) | (with_reducible first | refine wQ ?_ | refine zS ?_ | refine zN ?_ | refine zX ?_ | refine zE ?_ | refine zF ?_ | refine zO (by decide) ?_ | refine zB ?_)))
      simp only [retQ, Tryd.results27, resV, resL]
      refine ⟨_, _, Weak.refl _, Hp.le.refl _, rfl, .mk (p + 1) cs' ks', out', g1.hadOne hS hK1', ⟨(upd_other _ _ hoi).trans g2.1, g2.2⟩, g3.trans ⟨fun y hy _ => upd_other _ _ (fun e => hy (by rw [idsT_eq, e]; simp)), fun _ _ _ => rfl⟩, fun h => by omega, fun _ hle => ?_, fun _ hlt => ?_⟩
      · rw [hPS] at hle ⊢
        obtain ⟨e1, e2⟩ := g4.2.2.1 hle
        have e3 : acc.1.1 = cs' := by rw [← e1]
        have e4 : acc.1.2 = ks' := by rw [← e1]
        exact ⟨by rw [e3, e4], e2⟩
      · rw [hPS] at hlt
        have e5 := g4.2.2.2 hlt
        refine ⟨e5, ⟨by omega, ?_, ?_⟩⟩
        · have := g4.1.2.1; rw [e5] at this; exact this
        · have := g4.1.2.2; rw [e5] at this; exact this
end Go.Proofs.YtoleejecmefogaaDoor
