/- Stream.Loop: nearly always a right loop. -/
import Derived.Test.YtoleejecmefogaaDoorM6
import Derived.Below
import Derived.Test.YtoleejecmefogaaDoorCards
import Derived.Test.YtoleejecmefogaaDoorTie
import Derived.ProofKit
import Derived.OpenShut
import Derived.LaidMore
import Derived.Lay
import Derived.Stop.Joined
namespace Go.Proofs.YtoleejecmefogaaDoor
open Go
set_option linter.unusedVariables false
set_option linter.unusedSimpArgs false
set_option maxRecDepth 100000
set_option maxHeartbeats 8000000
theorem st_obj {h : Hp} {i o : Nat} (hio : o ≠ i) (l : List Int) (a : Int) (x : AO) (T1 : Nat → Option TO) : ({ H := upd (h.st i l a).H o (some x), T := T1 } : Hp) = Hp.st ⟨upd h.H o (some x), T1⟩ i l a := by
  simp only [Hp.st]
  congr 1
  funext j
  by_cases hj : j = o
  · subst hj; rw [upd_same, upd_other _ _ hio, upd_same]
  · by_cases hji : j = i
    · subst hji; rw [upd_other _ _ hj, upd_same, upd_same]
    · rw [upd_other _ _ hj, upd_other _ _ hji, upd_other _ _ hji, upd_other _ _ hj]
theorem st_obj2 {h : Hp} {i o : Nat} (hio : o ≠ i) (l : List Int) (b : Int) (X : Option AO) (Y : AO) (T1 T2 : Nat → Option TO) : ({ H := upd (Hp.st ⟨upd h.H o X, T1⟩ i l b).H o (some Y), T := T2 } : Hp) = Hp.st ⟨upd h.H o (some Y), T2⟩ i l b := by
  rw [st_obj hio]; simp only [upd_upd]
theorem st_mk3 {s : St} {sl : List AV} {lo : List (List AV)} {h : Hp} (h1 : s.sl = sl) (h2 : s.lo = lo) (h3 : s.h = h) : s = ⟨sl, lo, h⟩ := by cases s; simp_all
section
variable {b : Bool} {T : Nat → Option TO} {S : Nat → Prop} {e : Nat} {k i l m K Sh : AV}
theorem OLd.kind {r : List AV} (h : OLd b T S e (k :: r)) {k' : Int} (hk : NB k') : OLd b T S e (.v (.int .i64 k') :: r) := by
  cases e with
  | zero => exact h.elim
  | succ e =>
    obtain ⟨kind, item, long, many, K, Sh, he, ⟨h0, h1, h2, h3⟩, h4, h5⟩ := h
    cases he
    exact ⟨_, _, _, _, _, _, rfl, ⟨hk, h1, h2, h3⟩, h4, h5⟩
theorem OLd.il (h : OLd b T S e [k, i, l, m, K, Sh]) {i' : ByteArray} {l' : Int} (hi : i'.size ≤ 2) (hk : NB l') : OLd b T S e [k, .v (.string i'), .v (.int .i64 l'), m, K, Sh] := by
  cases e with
  | zero => exact h.elim
  | succ e =>
    obtain ⟨kind, item, long, many, K, Sh, he, ⟨h0, h1, h2, h3⟩, h4, h5⟩ := h
    cases he
    exact ⟨_, _, _, _, _, _, rfl, ⟨h0, hi, hk, h3⟩, h4, h5⟩
theorem OLd.many (h : OLd b T S e [k, i, l, m, K, Sh]) {l' : Int} (hk : NB l') : OLd b T S e [k, i, l, .v (.int .i64 l'), K, Sh] := by
  cases e with
  | zero => exact h.elim
  | succ e =>
    obtain ⟨kind, item, long, many, K, Sh, he, ⟨h0, h1, h2, h3⟩, h4, h5⟩ := h
    cases he
    exact ⟨_, _, _, _, _, _, rfl, ⟨h0, h1, h2, hk⟩, h4, h5⟩
theorem OLd.nokids (h : OLd b T S e [k, i, l, m, K, Sh]) : OLd b T S e [k, i, l, m, .v (.slice none 0 0), Sh] := by
  cases e with
  | zero => exact h.elim
  | succ e =>
    obtain ⟨kind, item, long, many, K, Sh, he, h3, h4, h5⟩ := h
    cases he
    exact ⟨_, _, _, _, _, _, rfl, h3, .inl rfl, h5⟩
theorem OLd.share (h : OLd false T S e [k, i, l, m, K, Sh]) {xs : List Int} {q : Nat} (hx : xs.length ≤ 5) (hb : ∀ x ∈ xs, NB x) : OLd false T S e [k, i, l, m, K, .row 1 (xs.map encI) (some q)] := by
  cases e with
  | zero => exact h.elim
  | succ e =>
    obtain ⟨kind, item, long, many, K, Sh, he, h3, h4, h5⟩ := h
    cases he
    exact ⟨_, _, _, _, _, _, rfl, h3, h4, .inr ⟨xs, q, rfl, hx, hb, fun h => by cases h⟩⟩
theorem OLd.wrap {cs : List AV} (h : OLd false T S e cs) {k' m' : Int} (hk : NB k') (hm : NB m') : OLd false T S (e + 1) [.v (.int .i64 k'), .v (.string { data := #[] }), .v (.int .i64 0), .v (.int .i64 m'), .row 6 [cs] none, .v (.slice none 0 0)] :=
  ⟨_, _, _, _, _, _, rfl, ⟨hk, by decide, by unfold NB; omega, hm⟩, .inr (.inr ⟨rfl, _, rfl, by simp, by simpa using h⟩), .inl rfl⟩
end
def LoopJ (i o : Nat) (l : List Int) (a b : Int) (h : Hp) (bb : Bool) (d : Nat) (s : St) : Prop :=
  ∃ cs T' a', OLd bb T' (fun k => h.T k = none) d cs ∧ (∀ k, h.T k ≠ none → T' k = h.T k) ∧ (a ≤ a' ∧ a' ≤ b) ∧
    s = ⟨((.ptr i 0) :: (jnk 3 ((.loc 0 0) :: (.ptr o 0) :: (jnk 77 [])))), [[.v (.int .i64 0), .v (.string { data := #[] }), .v (.int .i64 0), .v (.int .i64 0), .v (.slice none 0 0), .v (.slice none 0 0)]], Hp.st ⟨upd h.H o (some (.cells cs)), T'⟩ i l a'⟩
theorem g_Loop0 (d : Nat) (deep : Int) (hd : deep ≤ d ∧ -10 ≤ deep ∧ d ≤ 100) (i : Nat) (l : List Int) (a : Int) (h : Hp) (hl : SOk l) (ha : 0 ≤ a ∧ a + costR d + 2 * d + 40 ≤ 900000000) :
    ACalls Tryd.prog 4 [.ptr i 0, .v (.int .i64 deep)] (h.st i l a) (fun r h' => ∃ cs T' a', OLd false T' (fun k => h.T k = none) (d + 20) cs ∧ (∀ k, h.T k ≠ none → T' k = h.T k) ∧ (a ≤ a' ∧ a' ≤ a + costR d + 2 * d + 40) ∧ r = .agg cs ∧ h' = Hp.st ⟨h.H, T'⟩ i l a') := by
  refine acalls_of tyok Tryd.func4 rfl (by kernel_rfl) fun c => ?_; simp only [Tryd.ntmps4, List.length_cons, List.length_nil, Nat.reduceAdd, Nat.reduceSub, jnk_rep, List.cons_append, List.nil_append]
  (repeat (first | (with_reducible first | refine wB ?_ | refine wN ?_ | refine wT ?_) | ((with_reducible refine wI ?_); refine wN ?_) | ((first | (with_reducible first | refine uS (mdL [(4, 1), (5, 2), (7, 1), (8, 1)]) ?_ | refine uR (mdL [(4, 1), (5, 2), (7, 1), (8, 1)]) ?_ | refine wG ?_ | refine wH ?_ | refine wM ?_ ?_) | ((with_reducible refine xR ?_); refine uE 17 (mdL [(4, 1), (5, 2), (7, 1), (8, 1)]) [0, 1, 2, 3, 4, 5, 6] [(7, [4], [8]), (9, [], [10, 11]), (12, [], [])] 83 rfl (by kernel_rfl) ?_)) <;> ((try with_reducible intro K1 hK1); simp only [go_sem, ↓reduceIte, reduceCtorEq, Nat.reduceAdd, Nat.reduceSub, Nat.reduceMul, Nat.reduceLT, Nat.reduceLeDiff, Nat.reduceEqDiff]; (try and_intros); all_goals first | (refine hK1 _ ?_; clear hK1 K1) | (intros; first | (with_reducible trivial) | omega | (simp_all <;> omega)) | skip)) | (with_reducible first | refine wQ ?_ | refine zS ?_ | refine zN ?_ | refine zX ?_ | refine zE ?_ | refine zF ?_ | refine zO (by decide) ?_ | refine zB ?_)))
  refine (g_right d deep hd i l a h hl (by omega)).mono ?_; rintro _ _ ⟨t, a1, ht, ha1, rfl, rfl⟩; refine hK1 _ ?_; clear hK1 K1
  (repeat (first | (with_reducible first | refine wB ?_ | refine wN ?_ | refine wT ?_) | ((with_reducible refine wI ?_); refine wN ?_) | ((first | (with_reducible first | refine uS (mdL [(4, 1), (5, 2), (7, 1), (8, 1)]) ?_ | refine uR (mdL [(4, 1), (5, 2), (7, 1), (8, 1)]) ?_ | refine wG ?_ | refine wH ?_ | refine wM ?_ ?_) | ((with_reducible refine xR ?_); refine uE 17 (mdL [(4, 1), (5, 2), (7, 1), (8, 1)]) [0, 1, 2, 3, 4, 5, 6] [(7, [4], [8]), (9, [], [10, 11]), (12, [], [])] 83 rfl (by kernel_rfl) ?_)) <;> ((try with_reducible intro K1 hK1); simp only [go_sem, ↓reduceIte, reduceCtorEq, Nat.reduceAdd, Nat.reduceSub, Nat.reduceMul, Nat.reduceLT, Nat.reduceLeDiff, Nat.reduceEqDiff]; (try and_intros); all_goals first | (refine hK1 _ ?_; clear hK1 K1) | (intros; first | (with_reducible trivial) | omega | (simp_all <;> omega)) | skip)) | (with_reducible first | refine wQ ?_ | refine zS ?_ | refine zN ?_ | refine zX ?_ | refine zE ?_ | refine zF ?_ | refine zO (by decide) ?_ | refine zB ?_)))
  refine (g_copied (d + 1) t (h.st i l a1) ht).mono ?_
  rintro _ _ ⟨cs, T1, hcs, hT1, rfl, rfl⟩
  refine hK1 _ ?_; clear hK1 K1
  have hcsl := hcs.len
  have htk : List.take 6 cs = cs := List.take_of_length_le (Nat.le_of_eq hcsl)
  have hdr : List.drop 6 cs = [] := List.drop_of_length_le (Nat.le_of_eq hcsl)
  (repeat (first | (with_reducible first | refine wB ?_ | refine wN ?_ | refine wT ?_) | ((with_reducible refine wI ?_); refine wN ?_) | ((first | (with_reducible first | refine uS (mdL [(4, 1), (5, 2), (7, 1), (8, 1)]) ?_ | refine uR (mdL [(4, 1), (5, 2), (7, 1), (8, 1)]) ?_ | refine wG ?_ | refine wH ?_ | refine wM ?_ ?_) | ((with_reducible refine xR ?_); refine uE 17 (mdL [(4, 1), (5, 2), (7, 1), (8, 1)]) [0, 1, 2, 3, 4, 5, 6] [(7, [4], [8]), (9, [], [10, 11]), (12, [], [])] 83 rfl (by kernel_rfl) ?_)) <;> ((try with_reducible intro K1 hK1); simp only [go_sem, ↓reduceIte, reduceCtorEq, Nat.reduceAdd, Nat.reduceSub, Nat.reduceMul, Nat.reduceLT, Nat.reduceLeDiff, Nat.reduceEqDiff, hcsl, htk, hdr]; (try and_intros); all_goals first | (refine hK1 _ ?_; clear hK1 K1) | (intros; first | (with_reducible trivial) | omega | (simp_all <;> omega)) | skip)) | (with_reducible first | refine zS ?_ | refine zN ?_ | refine zX ?_ | refine zE ?_ | refine zF ?_ | refine zO (by decide) ?_ | refine zB ?_)))
  intro o ho
  have hio : o ≠ i := fun e => by subst e; rw [st_at] at ho; cases ho
  and_intros <;> first | (refine hK1 _ ?_; clear hK1 K1) | exact .inl trivial | exact True.intro | omega
  rw [st_obj hio]
  replace hcs : OLd true T1 (fun k => h.T k = none) (d + 1) cs := hcs
  replace hT1 : ∀ k, h.T k ≠ none → T1 k = h.T k := hT1
  (repeat (first | (with_reducible first | refine wB ?_ | refine wN ?_ | refine wT ?_) | ((with_reducible refine wI ?_); refine wN ?_) | ((first | (with_reducible first | refine uS (mdL [(4, 1), (5, 2), (7, 1), (8, 1)]) ?_ | refine uR (mdL [(4, 1), (5, 2), (7, 1), (8, 1)]) ?_ | refine wG ?_ | refine wH ?_ | refine wM ?_ ?_) | ((with_reducible refine xR ?_); refine uE 17 (mdL [(4, 1), (5, 2), (7, 1), (8, 1)]) [0, 1, 2, 3, 4, 5, 6] [(7, [4], [8]), (9, [], [10, 11]), (12, [], [])] 83 rfl (by kernel_rfl) ?_)) <;> ((try with_reducible intro K1 hK1); simp only [go_sem, ↓reduceIte, reduceCtorEq, Nat.reduceAdd, Nat.reduceSub, Nat.reduceMul, Nat.reduceLT, Nat.reduceLeDiff, Nat.reduceEqDiff]; (try and_intros); all_goals first | (refine hK1 _ ?_; clear hK1 K1) | (intros; first | (with_reducible trivial) | omega | (simp_all <;> omega)) | skip)) | (with_reducible first | refine zS ?_ | refine zN ?_ | refine zX ?_ | refine zE ?_ | refine zF ?_ | refine zO (by decide) ?_ | refine zB ?_)))
  refine awp_seq ?_
  refine awp_join (rl false [0, 1, 3, 2, 77]) 1 (fun s => LoopJ i o l a (a + costR d + 2 * d + 40) h false (d + 20) s) ?_ ?_
  rotate_left
  · rintro _ ⟨cs, T', a', hcs, hT', ha', rfl⟩
    have hcsl := hcs.len
    have htk : List.take 6 cs = cs := List.take_of_length_le (Nat.le_of_eq hcsl)
    have hdr : List.drop 6 cs = [] := List.drop_of_length_le (Nat.le_of_eq hcsl)
    have hH : (Hp.st ⟨upd h.H o (some (.cells cs)), T'⟩ i l a').H o = some (.cells cs) := by simp only [Hp.st, upd_other _ _ hio, upd_same]
    (repeat (first | (with_reducible first | refine wB ?_ | refine wN ?_ | refine wT ?_) | ((with_reducible refine wI ?_); refine wN ?_) | ((first | (with_reducible first | refine uS (mdL [(4, 1), (5, 2), (7, 1), (8, 1)]) ?_ | refine uR (mdL [(4, 1), (5, 2), (7, 1), (8, 1)]) ?_ | refine wG ?_ | refine wH ?_ | refine wM ?_ ?_) | ((with_reducible refine xR ?_); refine uE 17 (mdL [(4, 1), (5, 2), (7, 1), (8, 1)]) [0, 1, 2, 3, 4, 5, 6] [(7, [4], [8]), (9, [], [10, 11]), (12, [], [])] 83 rfl (by kernel_rfl) ?_)) <;> ((try with_reducible intro K1 hK1); simp only [go_sem, ↓reduceIte, reduceCtorEq, Nat.reduceAdd, Nat.reduceSub, Nat.reduceMul, Nat.reduceLT, Nat.reduceLeDiff, Nat.reduceEqDiff, hcsl, htk, hdr, hH]; (try and_intros); all_goals first | (refine hK1 _ ?_; clear hK1 K1) | (intros; first | (with_reducible trivial) | omega | (simp_all <;> omega)) | skip)) | (with_reducible first | refine wQ ?_ | refine zS ?_ | refine zN ?_ | refine zX ?_ | refine zE ?_ | refine zF ?_ | refine zO (by decide) ?_ | refine zB ?_)))
    refine zR ?_; (repeat (with_reducible first | refine zT ?_ | refine zU ?_)); simp only [Tryd.results4, go_sem, ↓reduceIte, reduceCtorEq, Nat.reduceAdd, Nat.reduceSub, Nat.reduceMul, Nat.reduceLT, Nat.reduceLeDiff, Nat.reduceEqDiff, hcsl, htk, hdr]
    refine ⟨_, Hp.st ⟨h.H, T'⟩ i l a', Weak.refl _, ⟨fun j => ?_, fun k => .inr rfl⟩, cs, T', a', hcs, hT', ha', rfl, rfl⟩
    simp only [Hp.st] at ho ⊢
    rw [upd_other _ _ hio] at ho
    by_cases hj : j = i
    · subst hj; exact .inr (by rw [upd_same, upd_same])
    · by_cases hjo : j = o
      · subst hjo; exact .inl (by rw [upd_other _ _ hj]; exact ho)
      · exact .inr (by rw [upd_other _ _ hj, upd_other _ _ hj, upd_other _ _ hjo])
  · (repeat (first | (with_reducible first | refine wB ?_ | refine wN ?_ | refine wT ?_) | ((with_reducible refine wI ?_); refine wN ?_) | ((first | (with_reducible first | refine uS (mdL [(4, 1), (5, 2), (7, 1), (8, 1)]) ?_ | refine uR (mdL [(4, 1), (5, 2), (7, 1), (8, 1)]) ?_ | refine wG ?_ | refine wH ?_ | refine wM ?_ ?_) | ((with_reducible refine xR ?_); refine uE 17 (mdL [(4, 1), (5, 2), (7, 1), (8, 1)]) [0, 1, 2, 3, 4, 5, 6] [(7, [4], [8]), (9, [], [10, 11]), (12, [], [])] 83 rfl (by kernel_rfl) ?_)) <;> ((try with_reducible intro K1 hK1); simp only [go_sem, ↓reduceIte, reduceCtorEq, Nat.reduceAdd, Nat.reduceSub, Nat.reduceMul, Nat.reduceLT, Nat.reduceLeDiff, Nat.reduceEqDiff]; (try and_intros); all_goals first | (refine hK1 _ ?_; clear hK1 K1) | (intros; first | (with_reducible trivial) | omega | (simp_all <;> omega)) | skip)) | (with_reducible first | refine wQ ?_ | refine zS ?_ | refine zN ?_ | refine zX ?_ | refine zE ?_ | refine zF ?_ | refine zO (by decide) ?_ | refine zB ?_)))
    refine (g_flip i l a1 10 ⟨upd h.H o (some (.cells cs)), T1⟩ hl (by omega) (by omega)).mono ?_; rintro _ _ ⟨b, rfl, rfl⟩; refine hK1 _ ?_; clear hK1 K1
    (repeat (first | (with_reducible first | refine wB ?_ | refine wN ?_ | refine wT ?_) | ((with_reducible refine wI ?_); refine wN ?_) | ((first | (with_reducible first | refine uS (mdL [(4, 1), (5, 2), (7, 1), (8, 1)]) ?_ | refine uR (mdL [(4, 1), (5, 2), (7, 1), (8, 1)]) ?_ | refine wG ?_ | refine wH ?_ | refine wM ?_ ?_) | ((with_reducible refine xR ?_); refine uE 17 (mdL [(4, 1), (5, 2), (7, 1), (8, 1)]) [0, 1, 2, 3, 4, 5, 6] [(7, [4], [8]), (9, [], [10, 11]), (12, [], [])] 83 rfl (by kernel_rfl) ?_)) <;> ((try with_reducible intro K1 hK1); simp only [go_sem, ↓reduceIte, reduceCtorEq, Nat.reduceAdd, Nat.reduceSub, Nat.reduceMul, Nat.reduceLT, Nat.reduceLeDiff, Nat.reduceEqDiff]; (try and_intros); all_goals first | (refine hK1 _ ?_; clear hK1 K1) | (intros; first | (with_reducible trivial) | omega | (simp_all <;> omega)) | skip)) | (with_reducible first | refine wQ ?_ | refine zS ?_ | refine zN ?_ | refine zX ?_ | refine zE ?_ | refine zF ?_ | refine zO (by decide) ?_ | refine zB ?_)))
    refine awp_cond (t := _) rfl (fun hb => ?_) (fun hb => ?_)
    rotate_left
    · (repeat (first | (with_reducible first | refine wB ?_ | refine wN ?_ | refine wT ?_) | ((with_reducible refine wI ?_); refine wN ?_) | ((first | (with_reducible first | refine uS (mdL [(4, 1), (5, 2), (7, 1), (8, 1)]) ?_ | refine uR (mdL [(4, 1), (5, 2), (7, 1), (8, 1)]) ?_ | refine wG ?_ | refine wH ?_ | refine wM ?_ ?_) | ((with_reducible refine xR ?_); refine uE 17 (mdL [(4, 1), (5, 2), (7, 1), (8, 1)]) [0, 1, 2, 3, 4, 5, 6] [(7, [4], [8]), (9, [], [10, 11]), (12, [], [])] 83 rfl (by kernel_rfl) ?_)) <;> ((try with_reducible intro K1 hK1); simp only [go_sem, ↓reduceIte, reduceCtorEq, Nat.reduceAdd, Nat.reduceSub, Nat.reduceMul, Nat.reduceLT, Nat.reduceLeDiff, Nat.reduceEqDiff]; (try and_intros); all_goals first | (refine hK1 _ ?_; clear hK1 K1) | (intros; first | (with_reducible trivial) | omega | (simp_all <;> omega)) | skip)) | (with_reducible first | refine wQ ?_ | refine zS ?_ | refine zN ?_ | refine zX ?_ | refine zE ?_ | refine zF ?_ | refine zO (by decide) ?_ | refine zB ?_)))
      exact ⟨cs, T1, a1 + 1, hcs.weaken.up (by omega), hT1, by omega, rfl⟩
    · (repeat (first | (with_reducible first | refine wB ?_ | refine wN ?_ | refine wT ?_) | ((with_reducible refine wI ?_); refine wN ?_) | ((first | (with_reducible first | refine uS (mdL [(4, 1), (5, 2), (7, 1), (8, 1)]) ?_ | refine uR (mdL [(4, 1), (5, 2), (7, 1), (8, 1)]) ?_ | refine wG ?_ | refine wH ?_ | refine wM ?_ ?_) | ((with_reducible refine xR ?_); refine uE 17 (mdL [(4, 1), (5, 2), (7, 1), (8, 1)]) [0, 1, 2, 3, 4, 5, 6] [(7, [4], [8]), (9, [], [10, 11]), (12, [], [])] 83 rfl (by kernel_rfl) ?_)) <;> ((try with_reducible intro K1 hK1); simp only [go_sem, ↓reduceIte, reduceCtorEq, Nat.reduceAdd, Nat.reduceSub, Nat.reduceMul, Nat.reduceLT, Nat.reduceLeDiff, Nat.reduceEqDiff]; (try and_intros); all_goals first | (refine hK1 _ ?_; clear hK1 K1) | (intros; first | (with_reducible trivial) | omega | (simp_all <;> omega)) | skip)) | (with_reducible first | refine wQ ?_ | refine zS ?_ | refine zN ?_ | refine zX ?_ | refine zE ?_ | refine zF ?_ | refine zO (by decide) ?_ | refine zB ?_)))
      refine (g_inner i o l (a1 + 1) ⟨upd h.H o (some (.cells cs)), T1⟩ hl (fun k => h.T k = none) (d + 1) cs (by omega) hio (upd_same _ _ _) hcs).mono ?_
      rintro p _ ⟨cs2, e, a2, ha2, hp, hcs2, rfl⟩
      have o3 : OneV p := by rcases hp with ⟨rfl, _⟩ | ⟨q, css, j, _, _, _, rfl, _⟩ <;> exact ⟨rfl, rfl, rfl, rfl, rfl⟩
      obtain ⟨w1, w2, w3, w4, w5⟩ := o3
      unfold uside at w1; unfold unw at w2; unfold AV.noLoc at w3; unfold isOpt at w4; simp only [AV.cellsB, Value.oneCell'] at w5
      refine hK1 _ ?_; clear hK1 K1
      (repeat (first | (with_reducible first | refine wB ?_ | refine wN ?_ | refine wT ?_) | ((with_reducible refine wI ?_); refine wN ?_) | ((first | (with_reducible first | refine uS (mdL [(4, 1), (5, 2), (7, 1), (8, 1)]) ?_ | refine uR (mdL [(4, 1), (5, 2), (7, 1), (8, 1)]) ?_ | refine wG ?_ | refine wH ?_ | refine wM ?_ ?_) | ((with_reducible refine xR ?_); refine uE 17 (mdL [(4, 1), (5, 2), (7, 1), (8, 1)]) [0, 1, 2, 3, 4, 5, 6] [(7, [4], [8]), (9, [], [10, 11]), (12, [], [])] 83 rfl (by kernel_rfl) ?_)) <;> ((try with_reducible intro K1 hK1); simp only [go_sem, ↓reduceIte, reduceCtorEq, Nat.reduceAdd, Nat.reduceSub, Nat.reduceMul, Nat.reduceLT, Nat.reduceLeDiff, Nat.reduceEqDiff, w1, w2, w3, w4, w5]; (try and_intros); all_goals first | (refine hK1 _ ?_; clear hK1 K1) | (intros; first | (with_reducible trivial) | omega | (simp_all <;> omega)) | skip)) | (with_reducible first | refine wQ ?_ | refine zS ?_ | refine zN ?_ | refine zX ?_ | refine zE ?_ | refine zF ?_ | refine zO (by decide) ?_ | refine zB ?_)))
      refine (g_next i l a2 7 ⟨upd h.H o (some (.cells cs)), T1⟩ hl (by omega) (by omega)).mono ?_; rintro _ _ ⟨x, hx, rfl, rfl⟩; refine hK1 _ ?_; clear hK1 K1
      obtain ⟨k, it, lo, mn, K, Sh, rfl⟩ : ∃ k it lo mn K Sh, cs2 = [k, it, lo, mn, K, Sh] := by
        cases e with
        | zero => exact hcs2.elim
        | succ e => obtain ⟨_, _, _, _, _, _, rfl, _⟩ := id hcs2; exact ⟨_, _, _, _, _, _, rfl⟩
      have hH : [k, it, lo, mn, K, Sh] = cs → ∀ b, (Hp.st ⟨upd h.H o (some (.cells cs)), T1⟩ i l b).H o = some (.cells [k, it, lo, mn, K, Sh]) := fun he b => by rw [he]; simp only [Hp.st, upd_other _ _ hio, upd_same]
      have hO : [k, it, lo, mn, K, Sh] = cs → OLd true T1 (fun k => h.T k = none) (d + 1) [k, it, lo, mn, K, Sh] := fun he => by rw [he]; exact hcs
      replace hcs2 : OLd true T1 (fun k => h.T k = none) e [k, it, lo, mn, K, Sh] := hcs2
      have hgs : ∀ (css : List (List AV)) (j : Nat), j < css.length → ∀ c, (css.set j c).getD j [] = c := fun css j hj c => by rw [List.getD_eq_getElem?_getD, List.getElem?_set_self hj]; rfl
      (repeat (first | (with_reducible first | refine wB ?_ | refine wN ?_ | refine wT ?_) | ((with_reducible refine wI ?_); refine wN ?_) | ((first | (with_reducible first | refine uS (mdL [(4, 1), (5, 2), (7, 1), (8, 1)]) ?_ | refine uR (mdL [(4, 1), (5, 2), (7, 1), (8, 1)]) ?_ | refine wG ?_ | refine wH ?_ | refine wM ?_ ?_) | ((with_reducible refine xR ?_); refine uE 17 (mdL [(4, 1), (5, 2), (7, 1), (8, 1)]) [0, 1, 2, 3, 4, 5, 6] [(7, [4], [8]), (9, [], [10, 11]), (12, [], [])] 83 rfl (by kernel_rfl) ?_)) <;> ((try with_reducible intro K1 hK1); simp only [go_sem, ↓reduceIte, reduceCtorEq, Nat.reduceAdd, Nat.reduceSub, Nat.reduceMul, Nat.reduceLT, Nat.reduceLeDiff, Nat.reduceEqDiff]; (try and_intros); all_goals first | (refine hK1 _ ?_; clear hK1 K1) | (intros; first | (with_reducible trivial) | omega | (simp_all <;> omega)) | skip)) | (with_reducible first | refine wQ ?_ | refine zS ?_ | refine zN ?_ | refine zX ?_ | refine zE ?_ | refine zF ?_ | refine zO (by decide) ?_ | refine zB ?_)))
      refine awp_cond (t := _) rfl (fun h5 => ?_) (fun h5 => ?_)
      · rcases hp with ⟨rfl, he⟩ | ⟨q, css, j, hq, hTq, hj, rfl, hg⟩
        · have hH := hH he
          (repeat (first | (with_reducible first | refine wB ?_ | refine wN ?_ | refine wT ?_) | ((with_reducible refine wI ?_); refine wN ?_) | ((first | (with_reducible first | refine uS (mdL [(4, 1), (5, 2), (7, 1), (8, 1)]) ?_ | refine uR (mdL [(4, 1), (5, 2), (7, 1), (8, 1)]) ?_ | refine wG ?_ | refine wH ?_ | refine wM ?_ ?_) | ((with_reducible refine xR ?_); refine uE 17 (mdL [(4, 1), (5, 2), (7, 1), (8, 1)]) [0, 1, 2, 3, 4, 5, 6] [(7, [4], [8]), (9, [], [10, 11]), (12, [], [])] 83 rfl (by kernel_rfl) ?_)) <;> ((try with_reducible intro K1 hK1); simp only [go_sem, ↓reduceIte, reduceCtorEq, Nat.reduceAdd, Nat.reduceSub, Nat.reduceMul, Nat.reduceLT, Nat.reduceLeDiff, Nat.reduceEqDiff, hH]; (try and_intros); all_goals first | (refine hK1 _ ?_; clear hK1 K1) | (intros; first | (with_reducible trivial) | omega | (simp_all <;> omega)) | skip)) | (with_reducible first | refine wQ ?_ | refine zS ?_ | refine zN ?_ | refine zX ?_ | refine zE ?_ | refine zF ?_ | refine zO (by decide) ?_ | refine zB ?_)))
          refine (g_odd i l (a2 + 1) 1 5 ⟨upd h.H o (some (.cells cs)), T1⟩ hl (by omega) (by omega) (by omega) (by omega)).mono ?_; rintro _ _ ⟨y, a3, hy, ha3, rfl, rfl⟩; refine hK1 _ ?_; clear hK1 K1
          (repeat (first | (with_reducible first | refine wB ?_ | refine wN ?_ | refine wT ?_) | ((with_reducible refine wI ?_); refine wN ?_) | ((first | (with_reducible first | refine uS (mdL [(4, 1), (5, 2), (7, 1), (8, 1)]) ?_ | refine uR (mdL [(4, 1), (5, 2), (7, 1), (8, 1)]) ?_ | refine wG ?_ | refine wH ?_ | refine wM ?_ ?_) | ((with_reducible refine xR ?_); refine uE 17 (mdL [(4, 1), (5, 2), (7, 1), (8, 1)]) [0, 1, 2, 3, 4, 5, 6] [(7, [4], [8]), (9, [], [10, 11]), (12, [], [])] 83 rfl (by kernel_rfl) ?_)) <;> ((try with_reducible intro K1 hK1); simp only [go_sem, ↓reduceIte, reduceCtorEq, Nat.reduceAdd, Nat.reduceSub, Nat.reduceMul, Nat.reduceLT, Nat.reduceLeDiff, Nat.reduceEqDiff, hH]; (try and_intros); all_goals first | (refine hK1 _ ?_; clear hK1 K1) | (intros; first | (with_reducible trivial) | omega | (simp_all <;> omega)) | skip)) | (with_reducible first | refine wQ ?_ | refine zS ?_ | refine zN ?_ | refine zX ?_ | refine zE ?_ | refine zF ?_ | refine zO (by decide) ?_ | refine zB ?_)))
          exact ⟨_, T1, a3, ((hO he).kind hy).weaken.up (by omega), hT1, by omega, st_mk3 rfl rfl (st_obj2 hio _ _ _ _ _ _)⟩
        · replace hTq : T1 q = some (.cont 6 css) := hTq
          have hgs := hgs css j hj
          (repeat (first | (with_reducible first | refine wB ?_ | refine wN ?_ | refine wT ?_) | ((with_reducible refine wI ?_); refine wN ?_) | ((first | (with_reducible first | refine uS (mdL [(4, 1), (5, 2), (7, 1), (8, 1)]) ?_ | refine uR (mdL [(4, 1), (5, 2), (7, 1), (8, 1)]) ?_ | refine wG ?_ | refine wH ?_ | refine wM ?_ ?_) | ((with_reducible refine xR ?_); refine uE 17 (mdL [(4, 1), (5, 2), (7, 1), (8, 1)]) [0, 1, 2, 3, 4, 5, 6] [(7, [4], [8]), (9, [], [10, 11]), (12, [], [])] 83 rfl (by kernel_rfl) ?_)) <;> ((try with_reducible intro K1 hK1); simp only [go_sem, ↓reduceIte, reduceCtorEq, Nat.reduceAdd, Nat.reduceSub, Nat.reduceMul, Nat.reduceLT, Nat.reduceLeDiff, Nat.reduceEqDiff, hTq, st_T, hg, hgs]; (try and_intros); all_goals first | (refine hK1 _ ?_; clear hK1 K1) | (intros; first | (with_reducible trivial) | omega | (simp_all <;> omega)) | skip)) | (with_reducible first | refine wQ ?_ | refine zS ?_ | refine zN ?_ | refine zX ?_ | refine zE ?_ | refine zF ?_ | refine zO (by decide) ?_ | refine zB ?_)))
          refine (g_odd i l (a2 + 1) 1 5 ⟨upd h.H o (some (.cells cs)), T1⟩ hl (by omega) (by omega) (by omega) (by omega)).mono ?_; rintro _ _ ⟨y, a3, hy, ha3, rfl, rfl⟩; refine hK1 _ ?_; clear hK1 K1
          (repeat (first | (with_reducible first | refine wB ?_ | refine wN ?_ | refine wT ?_) | ((with_reducible refine wI ?_); refine wN ?_) | ((first | (with_reducible first | refine uS (mdL [(4, 1), (5, 2), (7, 1), (8, 1)]) ?_ | refine uR (mdL [(4, 1), (5, 2), (7, 1), (8, 1)]) ?_ | refine wG ?_ | refine wH ?_ | refine wM ?_ ?_) | ((with_reducible refine xR ?_); refine uE 17 (mdL [(4, 1), (5, 2), (7, 1), (8, 1)]) [0, 1, 2, 3, 4, 5, 6] [(7, [4], [8]), (9, [], [10, 11]), (12, [], [])] 83 rfl (by kernel_rfl) ?_)) <;> ((try with_reducible intro K1 hK1); simp only [go_sem, ↓reduceIte, reduceCtorEq, Nat.reduceAdd, Nat.reduceSub, Nat.reduceMul, Nat.reduceLT, Nat.reduceLeDiff, Nat.reduceEqDiff, hTq, st_T, hg, hgs]; (try and_intros); all_goals first | (refine hK1 _ ?_; clear hK1 K1) | (intros; first | (with_reducible trivial) | omega | (simp_all <;> omega)) | skip)) | (with_reducible first | refine wQ ?_ | refine zS ?_ | refine zN ?_ | refine zX ?_ | refine zE ?_ | refine zF ?_ | refine zO (by decide) ?_ | refine zB ?_)))
          have hw : ∀ c', (∀ e, ∀ T' : Nat → Option TO, OLd false T' (fun k => h.T k = none) e [k, it, lo, mn, K, Sh] → OLd false T' (fun k => h.T k = none) e c') → OLd false (upd T1 q (some (.cont 6 (css.set j c')))) (fun k => h.T k = none) (d + 20) cs := fun c' hc => ((hcs.weaken.up (e := d + 20) (by omega)).write hTq (upd_same _ _ _) (fun k _ hk => upd_other _ _ hk) (fun e h' => by rw [hg] at h'; exact hc e _ h'))
          exact ⟨cs, _, a3, hw _ fun e T' h' => h'.kind hy, fun k hk => (upd_other _ _ (fun e => by subst e; exact hk hq)).trans (hT1 k hk), by omega, rfl⟩
      · clear h5
        (repeat (first | (with_reducible first | refine wB ?_ | refine wN ?_ | refine wT ?_) | ((with_reducible refine wI ?_); refine wN ?_) | ((first | (with_reducible first | refine uS (mdL [(4, 1), (5, 2), (7, 1), (8, 1)]) ?_ | refine uR (mdL [(4, 1), (5, 2), (7, 1), (8, 1)]) ?_ | refine wG ?_ | refine wH ?_ | refine wM ?_ ?_) | ((with_reducible refine xR ?_); refine uE 17 (mdL [(4, 1), (5, 2), (7, 1), (8, 1)]) [0, 1, 2, 3, 4, 5, 6] [(7, [4], [8]), (9, [], [10, 11]), (12, [], [])] 83 rfl (by kernel_rfl) ?_)) <;> ((try with_reducible intro K1 hK1); simp only [go_sem, ↓reduceIte, reduceCtorEq, Nat.reduceAdd, Nat.reduceSub, Nat.reduceMul, Nat.reduceLT, Nat.reduceLeDiff, Nat.reduceEqDiff]; (try and_intros); all_goals first | (refine hK1 _ ?_; clear hK1 K1) | (intros; first | (with_reducible trivial) | omega | (simp_all <;> omega)) | skip)) | (with_reducible first | refine wQ ?_ | refine zS ?_ | refine zN ?_ | refine zX ?_ | refine zE ?_ | refine zF ?_ | refine zO (by decide) ?_ | refine zB ?_)))
        refine awp_cond (t := _) rfl (fun h5 => ?_) (fun h5 => ?_)
        ·
          rcases hp with ⟨rfl, he⟩ | ⟨q, css, j, hq, hTq, hj, rfl, hg⟩
          · have hH := hH he
            (repeat (first | (with_reducible first | refine wB ?_ | refine wN ?_ | refine wT ?_) | ((with_reducible refine wI ?_); refine wN ?_) | ((first | (with_reducible first | refine uS (mdL [(4, 1), (5, 2), (7, 1), (8, 1)]) ?_ | refine uR (mdL [(4, 1), (5, 2), (7, 1), (8, 1)]) ?_ | refine wG ?_ | refine wH ?_ | refine wM ?_ ?_) | ((with_reducible refine xR ?_); refine uE 17 (mdL [(4, 1), (5, 2), (7, 1), (8, 1)]) [0, 1, 2, 3, 4, 5, 6] [(7, [4], [8]), (9, [], [10, 11]), (12, [], [])] 83 rfl (by kernel_rfl) ?_)) <;> ((try with_reducible intro K1 hK1); simp only [go_sem, ↓reduceIte, reduceCtorEq, Nat.reduceAdd, Nat.reduceSub, Nat.reduceMul, Nat.reduceLT, Nat.reduceLeDiff, Nat.reduceEqDiff, hH]; (try and_intros); all_goals first | (refine hK1 _ ?_; clear hK1 K1) | (intros; first | (with_reducible trivial) | omega | (simp_all <;> omega)) | skip)) | (with_reducible first | refine wQ ?_ | refine zS ?_ | refine zN ?_ | refine zX ?_ | refine zE ?_ | refine zF ?_ | refine zO (by decide) ?_ | refine zB ?_)))
            refine (g_some i l (a2 + 1) [⟨#[]⟩, ⟨#[65]⟩, ⟨#[105, 97]⟩] none ⟨upd h.H o (some (.cells cs)), T1⟩ hl (by omega) (by simp)).mono ?_; rintro _ _ ⟨x1, hx1, rfl, rfl⟩; refine hK1 _ ?_; clear hK1 K1
            (repeat (first | (with_reducible first | refine wB ?_ | refine wN ?_ | refine wT ?_) | ((with_reducible refine wI ?_); refine wN ?_) | ((first | (with_reducible first | refine uS (mdL [(4, 1), (5, 2), (7, 1), (8, 1)]) ?_ | refine uR (mdL [(4, 1), (5, 2), (7, 1), (8, 1)]) ?_ | refine wG ?_ | refine wH ?_ | refine wM ?_ ?_) | ((with_reducible refine xR ?_); refine uE 17 (mdL [(4, 1), (5, 2), (7, 1), (8, 1)]) [0, 1, 2, 3, 4, 5, 6] [(7, [4], [8]), (9, [], [10, 11]), (12, [], [])] 83 rfl (by kernel_rfl) ?_)) <;> ((try with_reducible intro K1 hK1); simp only [go_sem, ↓reduceIte, reduceCtorEq, Nat.reduceAdd, Nat.reduceSub, Nat.reduceMul, Nat.reduceLT, Nat.reduceLeDiff, Nat.reduceEqDiff, hH]; (try and_intros); all_goals first | (refine hK1 _ ?_; clear hK1 K1) | (intros; first | (with_reducible trivial) | omega | (simp_all <;> omega)) | skip)) | (with_reducible first | refine wQ ?_ | refine zS ?_ | refine zN ?_ | refine zX ?_ | refine zE ?_ | refine zF ?_ | refine zO (by decide) ?_ | refine zB ?_)))
            refine (g_odd i l (a2 + 1 + 1) 1 3600000 ⟨upd h.H o (some (.cells cs)), T1⟩ hl (by omega) (by omega) (by omega) (by omega)).mono ?_; rintro _ _ ⟨y, a3, hy, ha3, rfl, rfl⟩; refine hK1 _ ?_; clear hK1 K1
            (repeat (first | (with_reducible first | refine wB ?_ | refine wN ?_ | refine wT ?_) | ((with_reducible refine wI ?_); refine wN ?_) | ((first | (with_reducible first | refine uS (mdL [(4, 1), (5, 2), (7, 1), (8, 1)]) ?_ | refine uR (mdL [(4, 1), (5, 2), (7, 1), (8, 1)]) ?_ | refine wG ?_ | refine wH ?_ | refine wM ?_ ?_) | ((with_reducible refine xR ?_); refine uE 17 (mdL [(4, 1), (5, 2), (7, 1), (8, 1)]) [0, 1, 2, 3, 4, 5, 6] [(7, [4], [8]), (9, [], [10, 11]), (12, [], [])] 83 rfl (by kernel_rfl) ?_)) <;> ((try with_reducible intro K1 hK1); simp only [go_sem, ↓reduceIte, reduceCtorEq, Nat.reduceAdd, Nat.reduceSub, Nat.reduceMul, Nat.reduceLT, Nat.reduceLeDiff, Nat.reduceEqDiff, hH]; (try and_intros); all_goals first | (refine hK1 _ ?_; clear hK1 K1) | (intros; first | (with_reducible trivial) | omega | (simp_all <;> omega)) | skip)) | (with_reducible first | refine wQ ?_ | refine zS ?_ | refine zN ?_ | refine zX ?_ | refine zE ?_ | refine zF ?_ | refine zO (by decide) ?_ | refine zB ?_)))
            exact ⟨_, T1, a3, ((hO he).il (by simp at hx1; rcases hx1 with rfl | rfl | rfl <;> decide) hy).weaken.up (by omega), hT1, by omega, st_mk3 rfl rfl (st_obj2 hio _ _ _ _ _ _)⟩
          · replace hTq : T1 q = some (.cont 6 css) := hTq
            have hgs := hgs css j hj
            have hw : ∀ c', (∀ e, ∀ T' : Nat → Option TO, OLd false T' (fun k => h.T k = none) e [k, it, lo, mn, K, Sh] → OLd false T' (fun k => h.T k = none) e c') → OLd false (upd T1 q (some (.cont 6 (css.set j c')))) (fun k => h.T k = none) (d + 20) cs := fun c' hc => ((hcs.weaken.up (e := d + 20) (by omega)).write hTq (upd_same _ _ _) (fun k _ hk => upd_other _ _ hk) (fun e h' => by rw [hg] at h'; exact hc e _ h'))
            (repeat (first | (with_reducible first | refine wB ?_ | refine wN ?_ | refine wT ?_) | ((with_reducible refine wI ?_); refine wN ?_) | ((first | (with_reducible first | refine uS (mdL [(4, 1), (5, 2), (7, 1), (8, 1)]) ?_ | refine uR (mdL [(4, 1), (5, 2), (7, 1), (8, 1)]) ?_ | refine wG ?_ | refine wH ?_ | refine wM ?_ ?_) | ((with_reducible refine xR ?_); refine uE 17 (mdL [(4, 1), (5, 2), (7, 1), (8, 1)]) [0, 1, 2, 3, 4, 5, 6] [(7, [4], [8]), (9, [], [10, 11]), (12, [], [])] 83 rfl (by kernel_rfl) ?_)) <;> ((try with_reducible intro K1 hK1); simp only [go_sem, ↓reduceIte, reduceCtorEq, Nat.reduceAdd, Nat.reduceSub, Nat.reduceMul, Nat.reduceLT, Nat.reduceLeDiff, Nat.reduceEqDiff, hTq, st_T, hg, hgs, List.set_set]; (try and_intros); all_goals first | (refine hK1 _ ?_; clear hK1 K1) | (intros; first | (with_reducible trivial) | omega | (simp_all <;> omega)) | skip)) | (with_reducible first | refine wQ ?_ | refine zS ?_ | refine zN ?_ | refine zX ?_ | refine zE ?_ | refine zF ?_ | refine zO (by decide) ?_ | refine zB ?_)))
            refine (g_some i l (a2 + 1) [⟨#[]⟩, ⟨#[65]⟩, ⟨#[105, 97]⟩] none ⟨upd h.H o (some (.cells cs)), T1⟩ hl (by omega) (by simp)).mono ?_; rintro _ _ ⟨x1, hx1, rfl, rfl⟩; refine hK1 _ ?_; clear hK1 K1
            (repeat (first | (with_reducible first | refine wB ?_ | refine wN ?_ | refine wT ?_) | ((with_reducible refine wI ?_); refine wN ?_) | ((first | (with_reducible first | refine uS (mdL [(4, 1), (5, 2), (7, 1), (8, 1)]) ?_ | refine uR (mdL [(4, 1), (5, 2), (7, 1), (8, 1)]) ?_ | refine wG ?_ | refine wH ?_ | refine wM ?_ ?_) | ((with_reducible refine xR ?_); refine uE 17 (mdL [(4, 1), (5, 2), (7, 1), (8, 1)]) [0, 1, 2, 3, 4, 5, 6] [(7, [4], [8]), (9, [], [10, 11]), (12, [], [])] 83 rfl (by kernel_rfl) ?_)) <;> ((try with_reducible intro K1 hK1); simp only [go_sem, ↓reduceIte, reduceCtorEq, Nat.reduceAdd, Nat.reduceSub, Nat.reduceMul, Nat.reduceLT, Nat.reduceLeDiff, Nat.reduceEqDiff, hTq, st_T, hg, hgs, List.set_set]; (try and_intros); all_goals first | (refine hK1 _ ?_; clear hK1 K1) | (intros; first | (with_reducible trivial) | omega | (simp_all <;> omega)) | skip)) | (with_reducible first | refine wQ ?_ | refine zS ?_ | refine zN ?_ | refine zX ?_ | refine zE ?_ | refine zF ?_ | refine zO (by decide) ?_ | refine zB ?_)))
            refine (g_odd i l (a2 + 1 + 1) 1 3600000 ⟨upd h.H o (some (.cells cs)), T1⟩ hl (by omega) (by omega) (by omega) (by omega)).mono ?_; rintro _ _ ⟨y, a3, hy, ha3, rfl, rfl⟩; refine hK1 _ ?_; clear hK1 K1
            (repeat (first | (with_reducible first | refine wB ?_ | refine wN ?_ | refine wT ?_) | ((with_reducible refine wI ?_); refine wN ?_) | ((first | (with_reducible first | refine uS (mdL [(4, 1), (5, 2), (7, 1), (8, 1)]) ?_ | refine uR (mdL [(4, 1), (5, 2), (7, 1), (8, 1)]) ?_ | refine wG ?_ | refine wH ?_ | refine wM ?_ ?_) | ((with_reducible refine xR ?_); refine uE 17 (mdL [(4, 1), (5, 2), (7, 1), (8, 1)]) [0, 1, 2, 3, 4, 5, 6] [(7, [4], [8]), (9, [], [10, 11]), (12, [], [])] 83 rfl (by kernel_rfl) ?_)) <;> ((try with_reducible intro K1 hK1); simp only [go_sem, ↓reduceIte, reduceCtorEq, Nat.reduceAdd, Nat.reduceSub, Nat.reduceMul, Nat.reduceLT, Nat.reduceLeDiff, Nat.reduceEqDiff, hTq, st_T, hg, hgs, List.set_set]; (try and_intros); all_goals first | (refine hK1 _ ?_; clear hK1 K1) | (intros; first | (with_reducible trivial) | omega | (simp_all <;> omega)) | skip)) | (with_reducible first | refine wQ ?_ | refine zS ?_ | refine zN ?_ | refine zX ?_ | refine zE ?_ | refine zF ?_ | refine zO (by decide) ?_ | refine zB ?_)))
            exact ⟨cs, _, a3, hw _ fun e T' h' => h'.il (by simp at hx1; rcases hx1 with rfl | rfl | rfl <;> decide) hy, fun k hk => (upd_other _ _ (fun e => by subst e; exact hk hq)).trans (hT1 k hk), by omega, rfl⟩
        · clear h5
          (repeat (first | (with_reducible first | refine wB ?_ | refine wN ?_ | refine wT ?_) | ((with_reducible refine wI ?_); refine wN ?_) | ((first | (with_reducible first | refine uS (mdL [(4, 1), (5, 2), (7, 1), (8, 1)]) ?_ | refine uR (mdL [(4, 1), (5, 2), (7, 1), (8, 1)]) ?_ | refine wG ?_ | refine wH ?_ | refine wM ?_ ?_) | ((with_reducible refine xR ?_); refine uE 17 (mdL [(4, 1), (5, 2), (7, 1), (8, 1)]) [0, 1, 2, 3, 4, 5, 6] [(7, [4], [8]), (9, [], [10, 11]), (12, [], [])] 83 rfl (by kernel_rfl) ?_)) <;> ((try with_reducible intro K1 hK1); simp only [go_sem, ↓reduceIte, reduceCtorEq, Nat.reduceAdd, Nat.reduceSub, Nat.reduceMul, Nat.reduceLT, Nat.reduceLeDiff, Nat.reduceEqDiff]; (try and_intros); all_goals first | (refine hK1 _ ?_; clear hK1 K1) | (intros; first | (with_reducible trivial) | omega | (simp_all <;> omega)) | skip)) | (with_reducible first | refine wQ ?_ | refine zS ?_ | refine zN ?_ | refine zX ?_ | refine zE ?_ | refine zF ?_ | refine zO (by decide) ?_ | refine zB ?_)))
          refine awp_cond (t := _) rfl (fun h5 => ?_) (fun h5 => ?_)
          ·
            rcases hp with ⟨rfl, he⟩ | ⟨q, css, j, hq, hTq, hj, rfl, hg⟩
            · have hH := hH he
              (repeat (first | (with_reducible first | refine wB ?_ | refine wN ?_ | refine wT ?_) | ((with_reducible refine wI ?_); refine wN ?_) | ((first | (with_reducible first | refine uS (mdL [(4, 1), (5, 2), (7, 1), (8, 1)]) ?_ | refine uR (mdL [(4, 1), (5, 2), (7, 1), (8, 1)]) ?_ | refine wG ?_ | refine wH ?_ | refine wM ?_ ?_) | ((with_reducible refine xR ?_); refine uE 17 (mdL [(4, 1), (5, 2), (7, 1), (8, 1)]) [0, 1, 2, 3, 4, 5, 6] [(7, [4], [8]), (9, [], [10, 11]), (12, [], [])] 83 rfl (by kernel_rfl) ?_)) <;> ((try with_reducible intro K1 hK1); simp only [go_sem, ↓reduceIte, reduceCtorEq, Nat.reduceAdd, Nat.reduceSub, Nat.reduceMul, Nat.reduceLT, Nat.reduceLeDiff, Nat.reduceEqDiff, hH]; (try and_intros); all_goals first | (refine hK1 _ ?_; clear hK1 K1) | (intros; first | (with_reducible trivial) | omega | (simp_all <;> omega)) | skip)) | (with_reducible first | refine wQ ?_ | refine zS ?_ | refine zN ?_ | refine zX ?_ | refine zE ?_ | refine zF ?_ | refine zO (by decide) ?_ | refine zB ?_)))
              refine (g_pick i l (a2 + 1) [0, 1, 100, 101] none ⟨upd h.H o (some (.cells cs)), T1⟩ hl (by omega) (by simp)).mono ?_; rintro _ _ ⟨y, hy, rfl, rfl⟩; refine hK1 _ ?_; clear hK1 K1
              (repeat (first | (with_reducible first | refine wB ?_ | refine wN ?_ | refine wT ?_) | ((with_reducible refine wI ?_); refine wN ?_) | ((first | (with_reducible first | refine uS (mdL [(4, 1), (5, 2), (7, 1), (8, 1)]) ?_ | refine uR (mdL [(4, 1), (5, 2), (7, 1), (8, 1)]) ?_ | refine wG ?_ | refine wH ?_ | refine wM ?_ ?_) | ((with_reducible refine xR ?_); refine uE 17 (mdL [(4, 1), (5, 2), (7, 1), (8, 1)]) [0, 1, 2, 3, 4, 5, 6] [(7, [4], [8]), (9, [], [10, 11]), (12, [], [])] 83 rfl (by kernel_rfl) ?_)) <;> ((try with_reducible intro K1 hK1); simp only [go_sem, ↓reduceIte, reduceCtorEq, Nat.reduceAdd, Nat.reduceSub, Nat.reduceMul, Nat.reduceLT, Nat.reduceLeDiff, Nat.reduceEqDiff, hH]; (try and_intros); all_goals first | (refine hK1 _ ?_; clear hK1 K1) | (intros; first | (with_reducible trivial) | omega | (simp_all <;> omega)) | skip)) | (with_reducible first | refine wQ ?_ | refine zS ?_ | refine zN ?_ | refine zX ?_ | refine zE ?_ | refine zF ?_ | refine zO (by decide) ?_ | refine zB ?_)))
              exact ⟨_, T1, a2 + 1 + 1, ((hO he).many (by simp at hy; unfold NB; omega)).weaken.up (by omega), hT1, by omega, st_mk3 rfl rfl (st_obj2 hio _ _ _ _ _ _)⟩
            · replace hTq : T1 q = some (.cont 6 css) := hTq
              have hgs := hgs css j hj
              have hw : ∀ c', (∀ e, ∀ T' : Nat → Option TO, OLd false T' (fun k => h.T k = none) e [k, it, lo, mn, K, Sh] → OLd false T' (fun k => h.T k = none) e c') → OLd false (upd T1 q (some (.cont 6 (css.set j c')))) (fun k => h.T k = none) (d + 20) cs := fun c' hc => ((hcs.weaken.up (e := d + 20) (by omega)).write hTq (upd_same _ _ _) (fun k _ hk => upd_other _ _ hk) (fun e h' => by rw [hg] at h'; exact hc e _ h'))
              (repeat (first | (with_reducible first | refine wB ?_ | refine wN ?_ | refine wT ?_) | ((with_reducible refine wI ?_); refine wN ?_) | ((first | (with_reducible first | refine uS (mdL [(4, 1), (5, 2), (7, 1), (8, 1)]) ?_ | refine uR (mdL [(4, 1), (5, 2), (7, 1), (8, 1)]) ?_ | refine wG ?_ | refine wH ?_ | refine wM ?_ ?_) | ((with_reducible refine xR ?_); refine uE 17 (mdL [(4, 1), (5, 2), (7, 1), (8, 1)]) [0, 1, 2, 3, 4, 5, 6] [(7, [4], [8]), (9, [], [10, 11]), (12, [], [])] 83 rfl (by kernel_rfl) ?_)) <;> ((try with_reducible intro K1 hK1); simp only [go_sem, ↓reduceIte, reduceCtorEq, Nat.reduceAdd, Nat.reduceSub, Nat.reduceMul, Nat.reduceLT, Nat.reduceLeDiff, Nat.reduceEqDiff, hTq, st_T, hg, hgs, List.set_set]; (try and_intros); all_goals first | (refine hK1 _ ?_; clear hK1 K1) | (intros; first | (with_reducible trivial) | omega | (simp_all <;> omega)) | skip)) | (with_reducible first | refine wQ ?_ | refine zS ?_ | refine zN ?_ | refine zX ?_ | refine zE ?_ | refine zF ?_ | refine zO (by decide) ?_ | refine zB ?_)))
              refine (g_pick i l (a2 + 1) [0, 1, 100, 101] none ⟨upd h.H o (some (.cells cs)), T1⟩ hl (by omega) (by simp)).mono ?_; rintro _ _ ⟨y, hy, rfl, rfl⟩; refine hK1 _ ?_; clear hK1 K1
              (repeat (first | (with_reducible first | refine wB ?_ | refine wN ?_ | refine wT ?_) | ((with_reducible refine wI ?_); refine wN ?_) | ((first | (with_reducible first | refine uS (mdL [(4, 1), (5, 2), (7, 1), (8, 1)]) ?_ | refine uR (mdL [(4, 1), (5, 2), (7, 1), (8, 1)]) ?_ | refine wG ?_ | refine wH ?_ | refine wM ?_ ?_) | ((with_reducible refine xR ?_); refine uE 17 (mdL [(4, 1), (5, 2), (7, 1), (8, 1)]) [0, 1, 2, 3, 4, 5, 6] [(7, [4], [8]), (9, [], [10, 11]), (12, [], [])] 83 rfl (by kernel_rfl) ?_)) <;> ((try with_reducible intro K1 hK1); simp only [go_sem, ↓reduceIte, reduceCtorEq, Nat.reduceAdd, Nat.reduceSub, Nat.reduceMul, Nat.reduceLT, Nat.reduceLeDiff, Nat.reduceEqDiff, hTq, st_T, hg, hgs, List.set_set]; (try and_intros); all_goals first | (refine hK1 _ ?_; clear hK1 K1) | (intros; first | (with_reducible trivial) | omega | (simp_all <;> omega)) | skip)) | (with_reducible first | refine wQ ?_ | refine zS ?_ | refine zN ?_ | refine zX ?_ | refine zE ?_ | refine zF ?_ | refine zO (by decide) ?_ | refine zB ?_)))
              exact ⟨cs, _, a2 + 1 + 1, hw _ fun e T' h' => h'.many (by simp at hy; unfold NB; omega), fun k hk => (upd_other _ _ (fun e => by subst e; exact hk hq)).trans (hT1 k hk), by omega, rfl⟩
          · clear h5
            (repeat (first | (with_reducible first | refine wB ?_ | refine wN ?_ | refine wT ?_) | ((with_reducible refine wI ?_); refine wN ?_) | ((first | (with_reducible first | refine uS (mdL [(4, 1), (5, 2), (7, 1), (8, 1)]) ?_ | refine uR (mdL [(4, 1), (5, 2), (7, 1), (8, 1)]) ?_ | refine wG ?_ | refine wH ?_ | refine wM ?_ ?_) | ((with_reducible refine xR ?_); refine uE 17 (mdL [(4, 1), (5, 2), (7, 1), (8, 1)]) [0, 1, 2, 3, 4, 5, 6] [(7, [4], [8]), (9, [], [10, 11]), (12, [], [])] 83 rfl (by kernel_rfl) ?_)) <;> ((try with_reducible intro K1 hK1); simp only [go_sem, ↓reduceIte, reduceCtorEq, Nat.reduceAdd, Nat.reduceSub, Nat.reduceMul, Nat.reduceLT, Nat.reduceLeDiff, Nat.reduceEqDiff]; (try and_intros); all_goals first | (refine hK1 _ ?_; clear hK1 K1) | (intros; first | (with_reducible trivial) | omega | (simp_all <;> omega)) | skip)) | (with_reducible first | refine wQ ?_ | refine zS ?_ | refine zN ?_ | refine zX ?_ | refine zE ?_ | refine zF ?_ | refine zO (by decide) ?_ | refine zB ?_)))
            refine awp_cond (t := _) rfl (fun h5 => ?_) (fun h5 => ?_)
            ·
              have hSh : Sh = .v (.slice none 0 0) ∨ ∃ (xs : List Int) (q2 : Nat), Sh = .row 1 (xs.map encI) (some q2) ∧ xs.length ≤ 4 ∧ (∀ x ∈ xs, NB x) ∧ T1 q2 = some (.tail xs.length) ∧ h.T q2 = none := by
                cases e with
                | zero => exact hcs2.elim
                | succ e =>
                  obtain ⟨_, _, _, _, _, _, he, _, _, h5⟩ := id hcs2
                  cases he
                  rcases h5 with h5 | ⟨xs, q2, h5, _, h6, h7⟩
                  · exact .inl h5
                  · exact .inr ⟨xs, q2, h5, (h7 rfl).2.2, h6, (h7 rfl).2.1, (h7 rfl).1⟩
              have hny : ∀ y : Int, y ∈ ([1, 0] : List Int) → NB y := fun y hy => by simp at hy; unfold NB; omega
              have hkb : ∀ (q2 n : Nat), (∀ x, T1 q2 ≠ some (.cont 6 x)) → ∀ (d' : Nat) (c' : List AV), OLd true T1 (fun k => h.T k = none) d' c' → OLd false (upd T1 q2 (some (.tail n))) (fun k => h.T k = none) d' c' := fun q2 n hq2 d' c' h' => h'.weaken.keep (fun k _ ⟨x, hx⟩ => upd_other _ _ (fun e => by subst e; exact hq2 x hx)) (fun h => by cases h)
              rcases hp with ⟨rfl, he⟩ | ⟨q, css, j, hq, hTq, hj, rfl, hg⟩
              · have hH := hH he
                have hO := hO he
                rcases hSh with rfl | ⟨xs, q2, rfl, hxl, hxb, hTq2, hSq2⟩
                · (repeat (first | (with_reducible first | refine wB ?_ | refine wN ?_ | refine wT ?_) | ((with_reducible refine wI ?_); refine wN ?_) | ((first | (with_reducible first | refine uS (mdL [(4, 1), (5, 2), (7, 1), (8, 1)]) ?_ | refine uR (mdL [(4, 1), (5, 2), (7, 1), (8, 1)]) ?_ | refine wG ?_ | refine wH ?_ | refine wM ?_ ?_) | ((with_reducible refine xR ?_); refine uE 17 (mdL [(4, 1), (5, 2), (7, 1), (8, 1)]) [0, 1, 2, 3, 4, 5, 6] [(7, [4], [8]), (9, [], [10, 11]), (12, [], [])] 83 rfl (by kernel_rfl) ?_)) <;> ((try with_reducible intro K1 hK1); simp only [go_sem, ↓reduceIte, reduceCtorEq, Nat.reduceAdd, Nat.reduceSub, Nat.reduceMul, Nat.reduceLT, Nat.reduceLeDiff, Nat.reduceEqDiff, hH, st_T, encI]; (try and_intros); all_goals first | (refine hK1 _ ?_; clear hK1 K1) | (intros; first | (with_reducible trivial) | omega | (simp_all <;> omega)) | skip)) | (with_reducible first | refine wQ ?_ | refine zS ?_ | refine zN ?_ | refine zX ?_ | refine zE ?_ | refine zF ?_ | refine zO (by decide) ?_ | refine zB ?_)))
                  refine (g_pick i l (a2 + 1) [1, 0] none ⟨upd h.H o (some (.cells cs)), T1⟩ hl (by omega) (by simp)).mono ?_; rintro _ _ ⟨y, hy, rfl, rfl⟩; refine hK1 _ ?_; clear hK1 K1
                  (repeat (first | (with_reducible first | refine wB ?_ | refine wN ?_ | refine wT ?_) | ((with_reducible refine wI ?_); refine wN ?_) | ((first | (with_reducible first | refine uS (mdL [(4, 1), (5, 2), (7, 1), (8, 1)]) ?_ | refine uR (mdL [(4, 1), (5, 2), (7, 1), (8, 1)]) ?_ | refine wG ?_ | refine wH ?_ | refine wM ?_ ?_) | ((with_reducible refine xR ?_); refine uE 17 (mdL [(4, 1), (5, 2), (7, 1), (8, 1)]) [0, 1, 2, 3, 4, 5, 6] [(7, [4], [8]), (9, [], [10, 11]), (12, [], [])] 83 rfl (by kernel_rfl) ?_)) <;> ((try with_reducible intro K1 hK1); simp only [go_sem, ↓reduceIte, reduceCtorEq, Nat.reduceAdd, Nat.reduceSub, Nat.reduceMul, Nat.reduceLT, Nat.reduceLeDiff, Nat.reduceEqDiff, hH, st_T, encI]; (try and_intros); all_goals first | (refine hK1 _ ?_; clear hK1 K1) | (intros; first | (with_reducible trivial) | omega | (simp_all <;> omega)) | skip)) | (with_reducible first | refine wQ ?_ | refine zS ?_ | refine zN ?_ | refine zX ?_ | refine zE ?_ | refine zF ?_ | refine zO (by decide) ?_ | refine zB ?_)))
                  intro q2 hq2
                  refine hK1 _ ?_; clear hK1 K1
                  (repeat (first | (with_reducible first | refine wB ?_ | refine wN ?_ | refine wT ?_) | ((with_reducible refine wI ?_); refine wN ?_) | ((first | (with_reducible first | refine uS (mdL [(4, 1), (5, 2), (7, 1), (8, 1)]) ?_ | refine uR (mdL [(4, 1), (5, 2), (7, 1), (8, 1)]) ?_ | refine wG ?_ | refine wH ?_ | refine wM ?_ ?_) | ((with_reducible refine xR ?_); refine uE 17 (mdL [(4, 1), (5, 2), (7, 1), (8, 1)]) [0, 1, 2, 3, 4, 5, 6] [(7, [4], [8]), (9, [], [10, 11]), (12, [], [])] 83 rfl (by kernel_rfl) ?_)) <;> ((try with_reducible intro K1 hK1); simp only [go_sem, ↓reduceIte, reduceCtorEq, Nat.reduceAdd, Nat.reduceSub, Nat.reduceMul, Nat.reduceLT, Nat.reduceLeDiff, Nat.reduceEqDiff, hH, st_T, encI]; (try and_intros); all_goals first | (refine hK1 _ ?_; clear hK1 K1) | (intros; first | (with_reducible trivial) | omega | (simp_all <;> omega)) | skip)) | (with_reducible first | refine wQ ?_ | refine zS ?_ | refine zN ?_ | refine zX ?_ | refine zE ?_ | refine zF ?_ | refine zO (by decide) ?_ | refine zB ?_)))
                  have hq2' : h.T q2 = none := Classical.byContradiction fun hn => by have := hT1 q2 hn; rw [show T1 q2 = none from hq2] at this; exact hn this.symm
                  exact ⟨_, upd T1 q2 (some (.tail 1)), a2 + 1 + 1, ((hkb q2 1 (fun x hx => by rw [show T1 q2 = none from hq2] at hx; cases hx) _ _ hO).share (xs := [y]) (q := q2) (by simp) (fun z hz => by simp at hz; subst hz; exact hny _ hy)).up (by omega), fun k hk => (upd_other _ _ (fun e => by subst e; exact hk hq2')).trans (hT1 k hk), by omega, st_mk3 rfl rfl (st_obj2 hio _ _ _ _ _ _)⟩
                · (repeat (first | (with_reducible first | refine wB ?_ | refine wN ?_ | refine wT ?_) | ((with_reducible refine wI ?_); refine wN ?_) | ((first | (with_reducible first | refine uS (mdL [(4, 1), (5, 2), (7, 1), (8, 1)]) ?_ | refine uR (mdL [(4, 1), (5, 2), (7, 1), (8, 1)]) ?_ | refine wG ?_ | refine wH ?_ | refine wM ?_ ?_) | ((with_reducible refine xR ?_); refine uE 17 (mdL [(4, 1), (5, 2), (7, 1), (8, 1)]) [0, 1, 2, 3, 4, 5, 6] [(7, [4], [8]), (9, [], [10, 11]), (12, [], [])] 83 rfl (by kernel_rfl) ?_)) <;> ((try with_reducible intro K1 hK1); simp only [go_sem, ↓reduceIte, reduceCtorEq, Nat.reduceAdd, Nat.reduceSub, Nat.reduceMul, Nat.reduceLT, Nat.reduceLeDiff, Nat.reduceEqDiff, hH, st_T, hTq2]; (try and_intros); all_goals first | (refine hK1 _ ?_; clear hK1 K1) | (intros; first | (with_reducible trivial) | omega | (simp_all <;> omega)) | skip)) | (with_reducible first | refine wQ ?_ | refine zS ?_ | refine zN ?_ | refine zX ?_ | refine zE ?_ | refine zF ?_ | refine zO (by decide) ?_ | refine zB ?_)))
                  refine (g_pick i l (a2 + 1) [1, 0] none ⟨upd h.H o (some (.cells cs)), T1⟩ hl (by omega) (by simp)).mono ?_; rintro _ _ ⟨y, hy, rfl, rfl⟩; refine hK1 _ ?_; clear hK1 K1
                  (repeat (first | (with_reducible first | refine wB ?_ | refine wN ?_ | refine wT ?_) | ((with_reducible refine wI ?_); refine wN ?_) | ((first | (with_reducible first | refine uS (mdL [(4, 1), (5, 2), (7, 1), (8, 1)]) ?_ | refine uR (mdL [(4, 1), (5, 2), (7, 1), (8, 1)]) ?_ | refine wG ?_ | refine wH ?_ | refine wM ?_ ?_) | ((with_reducible refine xR ?_); refine uE 17 (mdL [(4, 1), (5, 2), (7, 1), (8, 1)]) [0, 1, 2, 3, 4, 5, 6] [(7, [4], [8]), (9, [], [10, 11]), (12, [], [])] 83 rfl (by kernel_rfl) ?_)) <;> ((try with_reducible intro K1 hK1); simp only [go_sem, ↓reduceIte, reduceCtorEq, Nat.reduceAdd, Nat.reduceSub, Nat.reduceMul, Nat.reduceLT, Nat.reduceLeDiff, Nat.reduceEqDiff, hH, st_T, hTq2]; (try and_intros); all_goals first | (refine hK1 _ ?_; clear hK1 K1) | (intros; first | (with_reducible trivial) | omega | (simp_all <;> omega)) | skip)) | (with_reducible first | refine wQ ?_ | refine zS ?_ | refine zN ?_ | refine zX ?_ | refine zE ?_ | refine zF ?_ | refine zO (by decide) ?_ | refine zB ?_)))
                  have hme : xs.map encI ++ [[AV.v (.int .i64 y)]] = (xs ++ [y]).map encI := by simp [encI]
                  rw [hme]
                  exact ⟨_, upd T1 q2 (some (.tail (xs.length + 1))), a2 + 1 + 1, ((hkb q2 (xs.length + 1) (fun x hx => by rw [hTq2] at hx; cases hx) _ _ hO).share (xs := xs ++ [y]) (q := q2) (by simp; omega) (fun z hz => by rcases List.mem_append.1 hz with hz | hz; exact hxb z hz; simp at hz; subst hz; exact hny _ hy)).up (by omega), fun k hk => (upd_other _ _ (fun e => by subst e; exact hk hSq2)).trans (hT1 k hk), by omega, st_mk3 rfl rfl (st_obj2 hio _ _ _ _ _ _)⟩
              · replace hTq : T1 q = some (.cont 6 css) := hTq
                have hgs := hgs css j hj
                rcases hSh with rfl | ⟨xs, q2, rfl, hxl, hxb, hTq2, hSq2⟩
                · (repeat (first | (with_reducible first | refine wB ?_ | refine wN ?_ | refine wT ?_) | ((with_reducible refine wI ?_); refine wN ?_) | ((first | (with_reducible first | refine uS (mdL [(4, 1), (5, 2), (7, 1), (8, 1)]) ?_ | refine uR (mdL [(4, 1), (5, 2), (7, 1), (8, 1)]) ?_ | refine wG ?_ | refine wH ?_ | refine wM ?_ ?_) | ((with_reducible refine xR ?_); refine uE 17 (mdL [(4, 1), (5, 2), (7, 1), (8, 1)]) [0, 1, 2, 3, 4, 5, 6] [(7, [4], [8]), (9, [], [10, 11]), (12, [], [])] 83 rfl (by kernel_rfl) ?_)) <;> ((try with_reducible intro K1 hK1); simp only [go_sem, ↓reduceIte, reduceCtorEq, Nat.reduceAdd, Nat.reduceSub, Nat.reduceMul, Nat.reduceLT, Nat.reduceLeDiff, Nat.reduceEqDiff, hTq, st_T, hg, hgs, encI]; (try and_intros); all_goals first | (refine hK1 _ ?_; clear hK1 K1) | (intros; first | (with_reducible trivial) | omega | (simp_all <;> omega)) | skip)) | (with_reducible first | refine wQ ?_ | refine zS ?_ | refine zN ?_ | refine zX ?_ | refine zE ?_ | refine zF ?_ | refine zO (by decide) ?_ | refine zB ?_)))
                  refine (g_pick i l (a2 + 1) [1, 0] none ⟨upd h.H o (some (.cells cs)), T1⟩ hl (by omega) (by simp)).mono ?_; rintro _ _ ⟨y, hy, rfl, rfl⟩; refine hK1 _ ?_; clear hK1 K1
                  (repeat (first | (with_reducible first | refine wB ?_ | refine wN ?_ | refine wT ?_) | ((with_reducible refine wI ?_); refine wN ?_) | ((first | (with_reducible first | refine uS (mdL [(4, 1), (5, 2), (7, 1), (8, 1)]) ?_ | refine uR (mdL [(4, 1), (5, 2), (7, 1), (8, 1)]) ?_ | refine wG ?_ | refine wH ?_ | refine wM ?_ ?_) | ((with_reducible refine xR ?_); refine uE 17 (mdL [(4, 1), (5, 2), (7, 1), (8, 1)]) [0, 1, 2, 3, 4, 5, 6] [(7, [4], [8]), (9, [], [10, 11]), (12, [], [])] 83 rfl (by kernel_rfl) ?_)) <;> ((try with_reducible intro K1 hK1); simp only [go_sem, ↓reduceIte, reduceCtorEq, Nat.reduceAdd, Nat.reduceSub, Nat.reduceMul, Nat.reduceLT, Nat.reduceLeDiff, Nat.reduceEqDiff, hTq, st_T, hg, hgs, encI]; (try and_intros); all_goals first | (refine hK1 _ ?_; clear hK1 K1) | (intros; first | (with_reducible trivial) | omega | (simp_all <;> omega)) | skip)) | (with_reducible first | refine wQ ?_ | refine zS ?_ | refine zN ?_ | refine zX ?_ | refine zE ?_ | refine zF ?_ | refine zO (by decide) ?_ | refine zB ?_)))
                  intro q2 hq2
                  refine hK1 _ ?_; clear hK1 K1
                  replace hq2 : T1 q2 = none := hq2
                  have hqq : q ≠ q2 := fun e => by subst e; rw [hTq] at hq2; cases hq2
                  have hTa : ∀ x, upd T1 q2 x q = some (.cont 6 css) := fun x => (upd_other _ _ hqq).trans hTq
                  (repeat (first | (with_reducible first | refine wB ?_ | refine wN ?_ | refine wT ?_) | ((with_reducible refine wI ?_); refine wN ?_) | ((first | (with_reducible first | refine uS (mdL [(4, 1), (5, 2), (7, 1), (8, 1)]) ?_ | refine uR (mdL [(4, 1), (5, 2), (7, 1), (8, 1)]) ?_ | refine wG ?_ | refine wH ?_ | refine wM ?_ ?_) | ((with_reducible refine xR ?_); refine uE 17 (mdL [(4, 1), (5, 2), (7, 1), (8, 1)]) [0, 1, 2, 3, 4, 5, 6] [(7, [4], [8]), (9, [], [10, 11]), (12, [], [])] 83 rfl (by kernel_rfl) ?_)) <;> ((try with_reducible intro K1 hK1); simp only [go_sem, ↓reduceIte, reduceCtorEq, Nat.reduceAdd, Nat.reduceSub, Nat.reduceMul, Nat.reduceLT, Nat.reduceLeDiff, Nat.reduceEqDiff, hTa, st_T, hg, hgs, encI]; (try and_intros); all_goals first | (refine hK1 _ ?_; clear hK1 K1) | (intros; first | (with_reducible trivial) | omega | (simp_all <;> omega)) | skip)) | (with_reducible first | refine wQ ?_ | refine zS ?_ | refine zN ?_ | refine zX ?_ | refine zE ?_ | refine zF ?_ | refine zO (by decide) ?_ | refine zB ?_)))
                  have hq2' : h.T q2 = none := Classical.byContradiction fun hn => by have := hT1 q2 hn; rw [hq2] at this; exact hn this.symm
                  have hw : ∀ c', (∀ e, ∀ T' : Nat → Option TO, OLd false T' (fun k => h.T k = none) e [k, it, lo, mn, K, AV.v (.slice none 0 0)] → OLd false T' (fun k => h.T k = none) e c') → OLd false (upd (upd T1 q2 (some (.tail 1))) q (some (.cont 6 (css.set j c')))) (fun k => h.T k = none) (d + 20) cs := fun c' hc => (((hkb q2 1 (fun x hx => by rw [hq2] at hx; cases hx) _ _ hcs).up (e := d + 20) (by omega)).write (hTa _) (upd_same _ _ _) (fun k _ hk => upd_other _ _ hk) (fun e h' => by rw [hg] at h'; exact hc e _ h'))
                  exact ⟨cs, _, a2 + 1 + 1, hw _ fun e T' h' => h'.share (xs := [y]) (q := q2) (by simp) (fun z hz => by simp at hz; subst hz; exact hny _ hy), fun k hk => ((upd_other _ _ (fun e => by subst e; exact hk hq)).trans (upd_other _ _ (fun e => by subst e; exact hk hq2'))).trans (hT1 k hk), by omega, rfl⟩
                · have hqq : q ≠ q2 := fun e => by subst e; rw [hTq] at hTq2; cases hTq2
                  have hTa : ∀ x, upd T1 q2 x q = some (.cont 6 css) := fun x => (upd_other _ _ hqq).trans hTq
                  (repeat (first | (with_reducible first | refine wB ?_ | refine wN ?_ | refine wT ?_) | ((with_reducible refine wI ?_); refine wN ?_) | ((first | (with_reducible first | refine uS (mdL [(4, 1), (5, 2), (7, 1), (8, 1)]) ?_ | refine uR (mdL [(4, 1), (5, 2), (7, 1), (8, 1)]) ?_ | refine wG ?_ | refine wH ?_ | refine wM ?_ ?_) | ((with_reducible refine xR ?_); refine uE 17 (mdL [(4, 1), (5, 2), (7, 1), (8, 1)]) [0, 1, 2, 3, 4, 5, 6] [(7, [4], [8]), (9, [], [10, 11]), (12, [], [])] 83 rfl (by kernel_rfl) ?_)) <;> ((try with_reducible intro K1 hK1); simp only [go_sem, ↓reduceIte, reduceCtorEq, Nat.reduceAdd, Nat.reduceSub, Nat.reduceMul, Nat.reduceLT, Nat.reduceLeDiff, Nat.reduceEqDiff, hTq, hTa, st_T, hg, hgs, hTq2]; (try and_intros); all_goals first | (refine hK1 _ ?_; clear hK1 K1) | (intros; first | (with_reducible trivial) | omega | (simp_all <;> omega)) | skip)) | (with_reducible first | refine wQ ?_ | refine zS ?_ | refine zN ?_ | refine zX ?_ | refine zE ?_ | refine zF ?_ | refine zO (by decide) ?_ | refine zB ?_)))
                  refine (g_pick i l (a2 + 1) [1, 0] none ⟨upd h.H o (some (.cells cs)), T1⟩ hl (by omega) (by simp)).mono ?_; rintro _ _ ⟨y, hy, rfl, rfl⟩; refine hK1 _ ?_; clear hK1 K1
                  (repeat (first | (with_reducible first | refine wB ?_ | refine wN ?_ | refine wT ?_) | ((with_reducible refine wI ?_); refine wN ?_) | ((first | (with_reducible first | refine uS (mdL [(4, 1), (5, 2), (7, 1), (8, 1)]) ?_ | refine uR (mdL [(4, 1), (5, 2), (7, 1), (8, 1)]) ?_ | refine wG ?_ | refine wH ?_ | refine wM ?_ ?_) | ((with_reducible refine xR ?_); refine uE 17 (mdL [(4, 1), (5, 2), (7, 1), (8, 1)]) [0, 1, 2, 3, 4, 5, 6] [(7, [4], [8]), (9, [], [10, 11]), (12, [], [])] 83 rfl (by kernel_rfl) ?_)) <;> ((try with_reducible intro K1 hK1); simp only [go_sem, ↓reduceIte, reduceCtorEq, Nat.reduceAdd, Nat.reduceSub, Nat.reduceMul, Nat.reduceLT, Nat.reduceLeDiff, Nat.reduceEqDiff, hTq, hTa, st_T, hg, hgs, hTq2]; (try and_intros); all_goals first | (refine hK1 _ ?_; clear hK1 K1) | (intros; first | (with_reducible trivial) | omega | (simp_all <;> omega)) | skip)) | (with_reducible first | refine wQ ?_ | refine zS ?_ | refine zN ?_ | refine zX ?_ | refine zE ?_ | refine zF ?_ | refine zO (by decide) ?_ | refine zB ?_)))
                  have hw : ∀ c', (∀ e, ∀ T' : Nat → Option TO, OLd false T' (fun k => h.T k = none) e [k, it, lo, mn, K, AV.row 1 (xs.map encI) (some q2)] → OLd false T' (fun k => h.T k = none) e c') → OLd false (upd (upd T1 q2 (some (.tail (xs.length + 1)))) q (some (.cont 6 (css.set j c')))) (fun k => h.T k = none) (d + 20) cs := fun c' hc => (((hkb q2 (xs.length + 1) (fun x hx => by rw [hTq2] at hx; cases hx) _ _ hcs).up (e := d + 20) (by omega)).write (hTa _) (upd_same _ _ _) (fun k _ hk => upd_other _ _ hk) (fun e h' => by rw [hg] at h'; exact hc e _ h'))
                  have hme : xs.map encI ++ [[AV.v (.int .i64 y)]] = (xs ++ [y]).map encI := by simp [encI]
                  rw [hme]
                  exact ⟨cs, _, a2 + 1 + 1, hw _ fun e T' h' => h'.share (xs := xs ++ [y]) (q := q2) (by simp; omega) (fun z hz => by rcases List.mem_append.1 hz with hz | hz; exact hxb z hz; simp at hz; subst hz; exact hny _ hy), fun k hk => ((upd_other _ _ (fun e => by subst e; exact hk hq)).trans (upd_other _ _ (fun e => by subst e; exact hk hSq2))).trans (hT1 k hk), by omega, rfl⟩
            · clear h5
              (repeat (first | (with_reducible first | refine wB ?_ | refine wN ?_ | refine wT ?_) | ((with_reducible refine wI ?_); refine wN ?_) | ((first | (with_reducible first | refine uS (mdL [(4, 1), (5, 2), (7, 1), (8, 1)]) ?_ | refine uR (mdL [(4, 1), (5, 2), (7, 1), (8, 1)]) ?_ | refine wG ?_ | refine wH ?_ | refine wM ?_ ?_) | ((with_reducible refine xR ?_); refine uE 17 (mdL [(4, 1), (5, 2), (7, 1), (8, 1)]) [0, 1, 2, 3, 4, 5, 6] [(7, [4], [8]), (9, [], [10, 11]), (12, [], [])] 83 rfl (by kernel_rfl) ?_)) <;> ((try with_reducible intro K1 hK1); simp only [go_sem, ↓reduceIte, reduceCtorEq, Nat.reduceAdd, Nat.reduceSub, Nat.reduceMul, Nat.reduceLT, Nat.reduceLeDiff, Nat.reduceEqDiff]; (try and_intros); all_goals first | (refine hK1 _ ?_; clear hK1 K1) | (intros; first | (with_reducible trivial) | omega | (simp_all <;> omega)) | skip)) | (with_reducible first | refine wQ ?_ | refine zS ?_ | refine zN ?_ | refine zX ?_ | refine zE ?_ | refine zF ?_ | refine zO (by decide) ?_ | refine zB ?_)))
              refine awp_cond (t := _) rfl (fun h5 => ?_) (fun h5 => ?_)
              ·
                rcases hp with ⟨rfl, he⟩ | ⟨q, css, j, hq, hTq, hj, rfl, hg⟩
                · have hH := hH he
                  (repeat (first | (with_reducible first | refine wB ?_ | refine wN ?_ | refine wT ?_) | ((with_reducible refine wI ?_); refine wN ?_) | ((first | (with_reducible first | refine uS (mdL [(4, 1), (5, 2), (7, 1), (8, 1)]) ?_ | refine uR (mdL [(4, 1), (5, 2), (7, 1), (8, 1)]) ?_ | refine wG ?_ | refine wH ?_ | refine wM ?_ ?_) | ((with_reducible refine xR ?_); refine uE 17 (mdL [(4, 1), (5, 2), (7, 1), (8, 1)]) [0, 1, 2, 3, 4, 5, 6] [(7, [4], [8]), (9, [], [10, 11]), (12, [], [])] 83 rfl (by kernel_rfl) ?_)) <;> ((try with_reducible intro K1 hK1); simp only [go_sem, ↓reduceIte, reduceCtorEq, Nat.reduceAdd, Nat.reduceSub, Nat.reduceMul, Nat.reduceLT, Nat.reduceLeDiff, Nat.reduceEqDiff, hH]; (try and_intros); all_goals first | (refine hK1 _ ?_; clear hK1 K1) | (intros; first | (with_reducible trivial) | omega | (simp_all <;> omega)) | skip)) | (with_reducible first | refine wQ ?_ | refine zS ?_ | refine zN ?_ | refine zX ?_ | refine zE ?_ | refine zF ?_ | refine zO (by decide) ?_ | refine zB ?_)))
                  exact ⟨_, T1, a2 + 1, ((hO he).nokids).weaken.up (by omega), hT1, by omega, st_mk3 rfl rfl (st_obj2 hio _ _ _ _ _ _)⟩
                · replace hTq : T1 q = some (.cont 6 css) := hTq
                  have hgs := hgs css j hj
                  have hw : ∀ c', (∀ e, ∀ T' : Nat → Option TO, OLd false T' (fun k => h.T k = none) e [k, it, lo, mn, K, Sh] → OLd false T' (fun k => h.T k = none) e c') → OLd false (upd T1 q (some (.cont 6 (css.set j c')))) (fun k => h.T k = none) (d + 20) cs := fun c' hc => ((hcs.weaken.up (e := d + 20) (by omega)).write hTq (upd_same _ _ _) (fun k _ hk => upd_other _ _ hk) (fun e h' => by rw [hg] at h'; exact hc e _ h'))
                  (repeat (first | (with_reducible first | refine wB ?_ | refine wN ?_ | refine wT ?_) | ((with_reducible refine wI ?_); refine wN ?_) | ((first | (with_reducible first | refine uS (mdL [(4, 1), (5, 2), (7, 1), (8, 1)]) ?_ | refine uR (mdL [(4, 1), (5, 2), (7, 1), (8, 1)]) ?_ | refine wG ?_ | refine wH ?_ | refine wM ?_ ?_) | ((with_reducible refine xR ?_); refine uE 17 (mdL [(4, 1), (5, 2), (7, 1), (8, 1)]) [0, 1, 2, 3, 4, 5, 6] [(7, [4], [8]), (9, [], [10, 11]), (12, [], [])] 83 rfl (by kernel_rfl) ?_)) <;> ((try with_reducible intro K1 hK1); simp only [go_sem, ↓reduceIte, reduceCtorEq, Nat.reduceAdd, Nat.reduceSub, Nat.reduceMul, Nat.reduceLT, Nat.reduceLeDiff, Nat.reduceEqDiff, hTq, st_T, hg, hgs, List.set_set]; (try and_intros); all_goals first | (refine hK1 _ ?_; clear hK1 K1) | (intros; first | (with_reducible trivial) | omega | (simp_all <;> omega)) | skip)) | (with_reducible first | refine wQ ?_ | refine zS ?_ | refine zN ?_ | refine zX ?_ | refine zE ?_ | refine zF ?_ | refine zO (by decide) ?_ | refine zB ?_)))
                  exact ⟨cs, _, a2 + 1, hw _ fun e T' h' => h'.nokids, fun k hk => (upd_other _ _ (fun e => by subst e; exact hk hq)).trans (hT1 k hk), by omega, rfl⟩
              · clear h5
                (repeat (first | (with_reducible first | refine wB ?_ | refine wN ?_ | refine wT ?_) | ((with_reducible refine wI ?_); refine wN ?_) | ((first | (with_reducible first | refine uS (mdL [(4, 1), (5, 2), (7, 1), (8, 1)]) ?_ | refine uR (mdL [(4, 1), (5, 2), (7, 1), (8, 1)]) ?_ | refine wG ?_ | refine wH ?_ | refine wM ?_ ?_) | ((with_reducible refine xR ?_); refine uE 17 (mdL [(4, 1), (5, 2), (7, 1), (8, 1)]) [0, 1, 2, 3, 4, 5, 6] [(7, [4], [8]), (9, [], [10, 11]), (12, [], [])] 83 rfl (by kernel_rfl) ?_)) <;> ((try with_reducible intro K1 hK1); simp only [go_sem, ↓reduceIte, reduceCtorEq, Nat.reduceAdd, Nat.reduceSub, Nat.reduceMul, Nat.reduceLT, Nat.reduceLeDiff, Nat.reduceEqDiff]; (try and_intros); all_goals first | (refine hK1 _ ?_; clear hK1 K1) | (intros; first | (with_reducible trivial) | omega | (simp_all <;> omega)) | skip)) | (with_reducible first | refine wQ ?_ | refine zS ?_ | refine zN ?_ | refine zX ?_ | refine zE ?_ | refine zF ?_ | refine zO (by decide) ?_ | refine zB ?_)))
                refine awp_cond (t := _) rfl (fun h5 => ?_) (fun h5 => ?_)
                ·
                  (repeat (first | (with_reducible first | refine wB ?_ | refine wN ?_ | refine wT ?_) | ((with_reducible refine wI ?_); refine wN ?_) | ((first | (with_reducible first | refine uS (mdL [(4, 1), (5, 2), (7, 1), (8, 1)]) ?_ | refine uR (mdL [(4, 1), (5, 2), (7, 1), (8, 1)]) ?_ | refine wG ?_ | refine wH ?_ | refine wM ?_ ?_) | ((with_reducible refine xR ?_); refine uE 17 (mdL [(4, 1), (5, 2), (7, 1), (8, 1)]) [0, 1, 2, 3, 4, 5, 6] [(7, [4], [8]), (9, [], [10, 11]), (12, [], [])] 83 rfl (by kernel_rfl) ?_)) <;> ((try with_reducible intro K1 hK1); simp only [go_sem, ↓reduceIte, reduceCtorEq, Nat.reduceAdd, Nat.reduceSub, Nat.reduceMul, Nat.reduceLT, Nat.reduceLeDiff, Nat.reduceEqDiff]; (try and_intros); all_goals first | (refine hK1 _ ?_; clear hK1 K1) | (intros; first | (with_reducible trivial) | omega | (simp_all <;> omega)) | skip)) | (with_reducible first | refine wQ ?_ | refine zS ?_ | refine zN ?_ | refine zX ?_ | refine zE ?_ | refine zF ?_ | refine zO (by decide) ?_ | refine zB ?_)))
                  refine awp_loopC (rl false [0, 1, 3, 2, 69, 1, 7]) 1 (fun g s => ∃ (j : Nat) (cs' : List AV), g + j = 12 ∧ OLd false T1 (fun k => h.T k = none) (d + 1 + j) cs' ∧
                    s = ⟨((.ptr i 0) :: (jnk 3 ((.loc 0 0) :: (.ptr o 0) :: (jnk 69 ((.v (.int .i64 j)) :: (jnk 7 [])))))), [[.v (.int .i64 0), .v (.string { data := #[] }), .v (.int .i64 0), .v (.int .i64 0), .v (.slice none 0 0), .v (.slice none 0 0)]], Hp.st ⟨upd h.H o (some (.cells cs')), T1⟩ i l (a2 + 1)⟩) 12 ⟨0, cs, by omega, hcs.weaken, rfl⟩ ?_
                  rintro n _ ⟨j, cs', hnj, hcs', rfl⟩
                  have hH : (Hp.st ⟨upd h.H o (some (.cells cs')), T1⟩ i l (a2 + 1)).H o = some (.cells cs') := by simp only [Hp.st, upd_other _ _ hio, upd_same]
                  have hl6 := hcs'.len
                  have htk6 : List.take 6 cs' = cs' := List.take_of_length_le (Nat.le_of_eq hl6)
                  have hdr6 : List.drop 6 cs' = [] := List.drop_of_length_le (Nat.le_of_eq hl6)
                  (repeat (first | (with_reducible first | refine wB ?_ | refine wN ?_ | refine wT ?_) | ((with_reducible refine wI ?_); refine wN ?_) | ((first | (with_reducible first | refine uS (mdL [(4, 1), (5, 2), (7, 1), (8, 1)]) ?_ | refine uR (mdL [(4, 1), (5, 2), (7, 1), (8, 1)]) ?_ | refine wG ?_ | refine wH ?_ | refine wM ?_ ?_) | ((with_reducible refine xR ?_); refine uE 17 (mdL [(4, 1), (5, 2), (7, 1), (8, 1)]) [0, 1, 2, 3, 4, 5, 6] [(7, [4], [8]), (9, [], [10, 11]), (12, [], [])] 83 rfl (by kernel_rfl) ?_)) <;> ((try with_reducible intro K1 hK1); simp only [go_sem, ↓reduceIte, reduceCtorEq, Nat.reduceAdd, Nat.reduceSub, Nat.reduceMul, Nat.reduceLT, Nat.reduceLeDiff, Nat.reduceEqDiff, hH, hl6, htk6, hdr6]; (try and_intros); all_goals first | (refine hK1 _ ?_; clear hK1 K1) | (intros; first | (with_reducible trivial) | omega | (simp_all <;> omega)) | skip)) | (with_reducible first | refine wQ ?_ | refine zS ?_ | refine zN ?_ | refine zX ?_ | refine zE ?_ | refine zF ?_ | refine zO (by decide) ?_ | refine zB ?_)))
                  refine awp_cond (t := _) rfl (fun h6 => ?_) (fun h6 => ?_)
                  · simp only [decide_eq_true_eq] at h6
                    (repeat (first | (with_reducible first | refine wB ?_ | refine wN ?_ | refine wT ?_) | ((with_reducible refine wI ?_); refine wN ?_) | ((first | (with_reducible first | refine uS (mdL [(4, 1), (5, 2), (7, 1), (8, 1)]) ?_ | refine uR (mdL [(4, 1), (5, 2), (7, 1), (8, 1)]) ?_ | refine wG ?_ | refine wH ?_ | refine wM ?_ ?_) | ((with_reducible refine xR ?_); refine uE 17 (mdL [(4, 1), (5, 2), (7, 1), (8, 1)]) [0, 1, 2, 3, 4, 5, 6] [(7, [4], [8]), (9, [], [10, 11]), (12, [], [])] 83 rfl (by kernel_rfl) ?_)) <;> ((try with_reducible intro K1 hK1); simp only [go_sem, ↓reduceIte, reduceCtorEq, Nat.reduceAdd, Nat.reduceSub, Nat.reduceMul, Nat.reduceLT, Nat.reduceLeDiff, Nat.reduceEqDiff, hH, hl6, htk6, hdr6]; (try and_intros); all_goals first | (refine hK1 _ ?_; clear hK1 K1) | (intros; first | (with_reducible trivial) | omega | (simp_all <;> omega)) | skip)) | (with_reducible first | refine wQ ?_ | refine zS ?_ | refine zN ?_ | refine zX ?_ | refine zE ?_ | refine zF ?_ | refine zO (by decide) ?_ | refine zB ?_)))
                    exact ⟨n - 1, by omega, j + 1, _, by omega, hcs'.wrap (by unfold NB; omega) (by unfold NB; omega), st_mk3 rfl rfl (st_obj2 hio _ _ _ _ _ _)⟩
                  · simp only [decide_eq_false_iff_not] at h6
                    (repeat (first | (with_reducible first | refine wB ?_ | refine wN ?_ | refine wT ?_) | ((with_reducible refine wI ?_); refine wN ?_) | ((first | (with_reducible first | refine uS (mdL [(4, 1), (5, 2), (7, 1), (8, 1)]) ?_ | refine uR (mdL [(4, 1), (5, 2), (7, 1), (8, 1)]) ?_ | refine wG ?_ | refine wH ?_ | refine wM ?_ ?_) | ((with_reducible refine xR ?_); refine uE 17 (mdL [(4, 1), (5, 2), (7, 1), (8, 1)]) [0, 1, 2, 3, 4, 5, 6] [(7, [4], [8]), (9, [], [10, 11]), (12, [], [])] 83 rfl (by kernel_rfl) ?_)) <;> ((try with_reducible intro K1 hK1); simp only [go_sem, ↓reduceIte, reduceCtorEq, Nat.reduceAdd, Nat.reduceSub, Nat.reduceMul, Nat.reduceLT, Nat.reduceLeDiff, Nat.reduceEqDiff, hH, hl6, htk6, hdr6]; (try and_intros); all_goals first | (refine hK1 _ ?_; clear hK1 K1) | (intros; first | (with_reducible trivial) | omega | (simp_all <;> omega)) | skip)) | (with_reducible first | refine wQ ?_ | refine zS ?_ | refine zN ?_ | refine zX ?_ | refine zE ?_ | refine zF ?_ | refine zO (by decide) ?_ | refine zB ?_)))
                    exact ⟨cs', T1, a2 + 1, hcs'.up (by omega), hT1, by omega, rfl⟩
                · clear h5
                  (repeat (first | (with_reducible first | refine wB ?_ | refine wN ?_ | refine wT ?_) | ((with_reducible refine wI ?_); refine wN ?_) | ((first | (with_reducible first | refine uS (mdL [(4, 1), (5, 2), (7, 1), (8, 1)]) ?_ | refine uR (mdL [(4, 1), (5, 2), (7, 1), (8, 1)]) ?_ | refine wG ?_ | refine wH ?_ | refine wM ?_ ?_) | ((with_reducible refine xR ?_); refine uE 17 (mdL [(4, 1), (5, 2), (7, 1), (8, 1)]) [0, 1, 2, 3, 4, 5, 6] [(7, [4], [8]), (9, [], [10, 11]), (12, [], [])] 83 rfl (by kernel_rfl) ?_)) <;> ((try with_reducible intro K1 hK1); simp only [go_sem, ↓reduceIte, reduceCtorEq, Nat.reduceAdd, Nat.reduceSub, Nat.reduceMul, Nat.reduceLT, Nat.reduceLeDiff, Nat.reduceEqDiff]; (try and_intros); all_goals first | (refine hK1 _ ?_; clear hK1 K1) | (intros; first | (with_reducible trivial) | omega | (simp_all <;> omega)) | skip)) | (with_reducible first | refine wQ ?_ | refine zS ?_ | refine zN ?_ | refine zX ?_ | refine zE ?_ | refine zF ?_ | refine zO (by decide) ?_ | refine zB ?_)))
                  refine awp_loopC (rl false [0, 1, 3, 2, 13, 1, 63]) 1 (fun g s => ∃ (j : Nat) (cs' : List AV), g + j = 3 ∧ OLd false T1 (fun k => h.T k = none) (d + 1 + j) cs' ∧
                    s = ⟨((.ptr i 0) :: (jnk 3 ((.loc 0 0) :: (.ptr o 0) :: (jnk 13 ((.v (.int .i64 j)) :: (jnk 63 [])))))), [[.v (.int .i64 0), .v (.string { data := #[] }), .v (.int .i64 0), .v (.int .i64 0), .v (.slice none 0 0), .v (.slice none 0 0)]], Hp.st ⟨upd h.H o (some (.cells cs')), T1⟩ i l (a2 + 1)⟩) 3 ⟨0, cs, by omega, hcs.weaken, rfl⟩ ?_
                  rintro n _ ⟨j, cs', hnj, hcs', rfl⟩
                  have hH : (Hp.st ⟨upd h.H o (some (.cells cs')), T1⟩ i l (a2 + 1)).H o = some (.cells cs') := by simp only [Hp.st, upd_other _ _ hio, upd_same]
                  have hl6 := hcs'.len
                  have htk6 : List.take 6 cs' = cs' := List.take_of_length_le (Nat.le_of_eq hl6)
                  have hdr6 : List.drop 6 cs' = [] := List.drop_of_length_le (Nat.le_of_eq hl6)
                  (repeat (first | (with_reducible first | refine wB ?_ | refine wN ?_ | refine wT ?_) | ((with_reducible refine wI ?_); refine wN ?_) | ((first | (with_reducible first | refine uS (mdL [(4, 1), (5, 2), (7, 1), (8, 1)]) ?_ | refine uR (mdL [(4, 1), (5, 2), (7, 1), (8, 1)]) ?_ | refine wG ?_ | refine wH ?_ | refine wM ?_ ?_) | ((with_reducible refine xR ?_); refine uE 17 (mdL [(4, 1), (5, 2), (7, 1), (8, 1)]) [0, 1, 2, 3, 4, 5, 6] [(7, [4], [8]), (9, [], [10, 11]), (12, [], [])] 83 rfl (by kernel_rfl) ?_)) <;> ((try with_reducible intro K1 hK1); simp only [go_sem, ↓reduceIte, reduceCtorEq, Nat.reduceAdd, Nat.reduceSub, Nat.reduceMul, Nat.reduceLT, Nat.reduceLeDiff, Nat.reduceEqDiff, hH, hl6, htk6, hdr6]; (try and_intros); all_goals first | (refine hK1 _ ?_; clear hK1 K1) | (intros; first | (with_reducible trivial) | omega | (simp_all <;> omega)) | skip)) | (with_reducible first | refine wQ ?_ | refine zS ?_ | refine zN ?_ | refine zX ?_ | refine zE ?_ | refine zF ?_ | refine zO (by decide) ?_ | refine zB ?_)))
                  refine awp_cond (t := _) rfl (fun h6 => ?_) (fun h6 => ?_)
                  · simp only [decide_eq_true_eq] at h6
                    (repeat (first | (with_reducible first | refine wB ?_ | refine wN ?_ | refine wT ?_) | ((with_reducible refine wI ?_); refine wN ?_) | ((first | (with_reducible first | refine uS (mdL [(4, 1), (5, 2), (7, 1), (8, 1)]) ?_ | refine uR (mdL [(4, 1), (5, 2), (7, 1), (8, 1)]) ?_ | refine wG ?_ | refine wH ?_ | refine wM ?_ ?_) | ((with_reducible refine xR ?_); refine uE 17 (mdL [(4, 1), (5, 2), (7, 1), (8, 1)]) [0, 1, 2, 3, 4, 5, 6] [(7, [4], [8]), (9, [], [10, 11]), (12, [], [])] 83 rfl (by kernel_rfl) ?_)) <;> ((try with_reducible intro K1 hK1); simp only [go_sem, ↓reduceIte, reduceCtorEq, Nat.reduceAdd, Nat.reduceSub, Nat.reduceMul, Nat.reduceLT, Nat.reduceLeDiff, Nat.reduceEqDiff, hH, hl6, htk6, hdr6]; (try and_intros); all_goals first | (refine hK1 _ ?_; clear hK1 K1) | (intros; first | (with_reducible trivial) | omega | (simp_all <;> omega)) | skip)) | (with_reducible first | refine wQ ?_ | refine zS ?_ | refine zN ?_ | refine zX ?_ | refine zE ?_ | refine zF ?_ | refine zO (by decide) ?_ | refine zB ?_)))
                    exact ⟨n - 1, by omega, j + 1, _, by omega, hcs'.wrap (by unfold NB; omega) (by unfold NB; omega), st_mk3 rfl rfl (st_obj2 hio _ _ _ _ _ _)⟩
                  · simp only [decide_eq_false_iff_not] at h6
                    (repeat (first | (with_reducible first | refine wB ?_ | refine wN ?_ | refine wT ?_) | ((with_reducible refine wI ?_); refine wN ?_) | ((first | (with_reducible first | refine uS (mdL [(4, 1), (5, 2), (7, 1), (8, 1)]) ?_ | refine uR (mdL [(4, 1), (5, 2), (7, 1), (8, 1)]) ?_ | refine wG ?_ | refine wH ?_ | refine wM ?_ ?_) | ((with_reducible refine xR ?_); refine uE 17 (mdL [(4, 1), (5, 2), (7, 1), (8, 1)]) [0, 1, 2, 3, 4, 5, 6] [(7, [4], [8]), (9, [], [10, 11]), (12, [], [])] 83 rfl (by kernel_rfl) ?_)) <;> ((try with_reducible intro K1 hK1); simp only [go_sem, ↓reduceIte, reduceCtorEq, Nat.reduceAdd, Nat.reduceSub, Nat.reduceMul, Nat.reduceLT, Nat.reduceLeDiff, Nat.reduceEqDiff, hH, hl6, htk6, hdr6]; (try and_intros); all_goals first | (refine hK1 _ ?_; clear hK1 K1) | (intros; first | (with_reducible trivial) | omega | (simp_all <;> omega)) | skip)) | (with_reducible first | refine wQ ?_ | refine zS ?_ | refine zN ?_ | refine zX ?_ | refine zE ?_ | refine zF ?_ | refine zO (by decide) ?_ | refine zB ?_)))
                    exact ⟨cs', T1, a2 + 1, hcs'.up (by omega), hT1, by omega, rfl⟩
theorem g_Loop (d : Nat) (deep : Int) (hd : deep ≤ d ∧ -10 ≤ deep ∧ d ≤ 100) (i : Nat) (l : List Int) (a : Int) (h : Hp) (hl : SOk l) (ha : 0 ≤ a ∧ a + costR d + 2 * d + 40 ≤ 900000000) :
    ACalls Tryd.prog 4 [.ptr i 0, .v (.int .i64 deep)] (h.st i l a) (fun r h' => ∃ t a', LC (d + 20) t ∧ (a ≤ a' ∧ a' ≤ a + costR d + 2 * d + 40) ∧ r = .agg (encL t) ∧ h' = h.st i l a') := by
  refine (g_Loop0 d deep hd i l a h hl ha).gup ?_
  rintro _ _ G w v ⟨cs, T', a', hcs, hT', ha', rfl, rfl⟩ hs hr
  obtain ⟨G', hle, hfr, hs2, hf⟩ := hs.freeze (h2 := h.st i l a') (fun k => h.T k = none) rfl (fun k hk => hk) (fun k hk => (hT' k hk).symm)
  obtain ⟨t, ht, hrep⟩ := OLd.freeze hle hf _ _ hcs
  obtain ⟨vs, rfl, hvs⟩ := RepL.of_agg hr
  exact ⟨_, _, G', ⟨t, a', ht, ha', rfl, rfl⟩, hle, hfr, hs2, (hrep _ hvs).agg⟩
end Go.Proofs.YtoleejecmefogaaDoor
/- From trees to the machine's own terms: a law that answers true in trees answers true. -/
namespace Go.Proofs.YtoleejecmefogaaDoor
open Go Go.RowKit
set_option linter.unusedVariables false
set_option linter.unusedSimpArgs false
/-- A slice of ints that is handed in: zs are all its numbers, up to the capacity. -/
def ARow (w : World) (a : Option Addr) (len cap : Nat) (zs : List Int) : Prop :=
  (a = none ∧ len = 0 ∧ cap = 0 ∧ zs = []) ∨ ∃ b : Addr, a = some b ∧ len ≤ cap ∧ cap ≤ maxLen ∧ zs.length = cap ∧ (∀ i, i < zs.length → w.cell? (b.add i) = some (.int .i64 (zs.getD i 0))) ∧ (∀ n ∈ zs, (Lit.int .i64 n).wf = true)
def G0 (w : World) : Gh := ⟨fun g o => w.cell? ⟨g, o, none⟩, fun _ => none, fun _ => none, 0⟩
def H0 : Hp := ⟨fun _ => none, fun _ => none⟩
theorem hsim_all (w : World) : HSim (G0 w) H0 w where
  val _ _ _ h := h
  obj _ _ h := by cases h
  inj _ _ _ h := absurd rfl h
  tok _ _ h := by cases h
  tinj _ _ _ _ h := absurd rfl h
  tobj _ _ _ h := absurd rfl h
  fat _ _ := rfl
  ftl _ _ := rfl
theorem below_of_fr {G G' : Gh} {h' : Hp} {w w' : World} (f : Fr G H0 w G' h' w') : Below w.heap.size w w' :=
  ⟨f.os, f.tape, f.output, f.size, fun b hb => (f.keep b hb (fun o => by rcases o with ⟨_, h, _⟩ | ⟨_, _, h, _⟩ <;> exact h rfl)).1⟩
theorem rep_v_inv0 {G : Gh} {x y : Value} (h : Rep G (.v x) y) : y = x := by cases h; rfl
theorem flat_encI (l : List Int) : (l.map encI).flatten = l.map fun x => AV.v (.int .i64 x) := by
  induction l with
  | nil => rfl
  | cons x q ih => simp [encI, ih]
theorem arow_rep {w : World} {a : Option Addr} {len cap : Nat} {zs : List Int} (h : ARow w a len cap zs) : ∃ l : List Int, SOk l ∧ Rep (G0 w) (.row 1 (l.map encI) none) (.slice a len cap) := by
  rcases h with ⟨rfl, rfl, rfl, _⟩ | ⟨⟨b, o, sp⟩, rfl, hl, hm, hz, hc, hwz⟩
  · exact ⟨[], ⟨by simp, by simp⟩, .nil 1 none trivial⟩
  · by_cases h0 : cap = 0
    · subst h0
      obtain rfl : len = 0 := by omega
      exact ⟨[], ⟨by simp, by simp⟩, .nilA 1 _⟩
    · have hsp : sp = none := by
        have h1 := hc 0 (by omega)
        rw [show (⟨b, o, sp⟩ : Addr).add 0 = ⟨b, o, sp⟩ from rfl] at h1
        cases sp with
        | none => rfl
        | some s =>
          simp only [World.cell?] at h1
          split at h1 <;> simp at h1
      subst hsp
      refine ⟨zs.take len, ⟨by have hm2 : maxLen = 9223372036854775807 := rfl; rw [List.length_take]; omega, fun x hx => ?_⟩, ?_⟩
      · have h1 := hwz x (List.mem_of_mem_take hx)
        simp only [Lit.wf, Bool.and_eq_true, decide_eq_true_eq] at h1
        exact ⟨h1.1, h1.2⟩
      · have hlen : (zs.take len).length = len := by simp; omega
        have h2 := Rep.row_mk (G := G0 w) (z := 1) (xs := (zs.take len).map encI) (g := b) (o := o) (c := cap) (us := (zs.take len).map fun x => Value.int .i64 x) (by rw [List.length_map, hlen]; exact hl)
          (fun y hy => by obtain ⟨x, _, rfl⟩ := List.mem_map.1 hy; rfl) (by
            rw [flat_encI]
            refine ⟨by simp, fun j a b => ?_⟩
            simp only [List.getElem_map]
            exact ⟨.v _ rfl, rfl⟩) (fun j y hy => by
            rw [List.getElem?_map] at hy
            obtain ⟨x, hx, rfl⟩ := Option.map_eq_some_iff.1 hy
            rw [List.getElem?_take] at hx
            split at hx
            · have hjl := (List.getElem?_eq_some_iff.1 hx).1
              have h3 := hc j hjl
              rw [List.getD_eq_getElem?_getD, hx, Addr.add_lit] at h3
              exact h3
            · cases hx)
        rwa [List.length_map, hlen] at h2
/-- A law of one list of numbers. -/
theorem law_calls {f : Nat} (hlaw : ∀ (l : List Int) (h : Hp), SOk l → ACalls Tryd.prog f [.row 1 (l.map encI) none] h (fun r _ => r = .v (.bool true))) (a : Option Addr) (len cap : Nat) (zs : List Int) (w : World) (h : ARow w a len cap zs) :
    Calls Tryd.prog f #[.slice a len cap] w fun e w' => e = .returned (.bool true) ∧ Below w.heap.size w w' := by
  obtain ⟨l, hl, hrep⟩ := arow_rep h
  refine ((hlaw l H0 hl).calls _ w #[.slice a len cap] (hsim_all w) rfl (fun j hj => ?_)).mono ?_
  · simp only [List.length_cons, List.length_nil, Nat.zero_add, Nat.lt_one_iff] at hj
    subst hj
    exact hrep
  · rintro _ w' ⟨r, h', G', v, rfl, rfl, _, f, _, hv⟩
    exact ⟨by rw [rep_v_inv0 hv], below_of_fr f⟩
end Go.Proofs.YtoleejecmefogaaDoor
/- LoopsPass returns true for every list of numbers. -/
namespace Go.Proofs.YtoleejecmefogaaDoor
open Go
set_option linter.unusedVariables false
set_option linter.unusedSimpArgs false
set_option maxRecDepth 100000
set_option maxHeartbeats 8000000
theorem g_law3 (l : List Int) (h : Hp) (hl : SOk l) : ACalls Tryd.prog 3 [.row 1 (l.map encI) none] h (fun r _ => r = .v (.bool true)) := by
  refine acalls_of tyok Tryd.func3 rfl (by kernel_rfl) fun c => ?_; simp only [Tryd.ntmps3, List.length_cons, List.length_nil, Nat.reduceAdd, Nat.reduceSub, jnk_rep, List.cons_append, List.nil_append]
  (repeat (first | (with_reducible first | refine wB ?_ | refine wN ?_) | ((with_reducible refine wI ?_); refine wN ?_) | ((with_reducible first | refine uS (mdL [(4, 1), (12, 2)]) ?_ | refine uR (mdL [(4, 1), (12, 2)]) ?_ | refine wG ?_) <;> ((try with_reducible intro K1 hK1); simp only [go_sem, ↓reduceIte, reduceCtorEq, Nat.reduceAdd, Nat.reduceSub, Nat.reduceMul, Nat.reduceLT, Nat.reduceLeDiff, Nat.reduceEqDiff]; (try and_intros); all_goals first | (refine hK1 _ ?_; clear hK1 K1) | (intros; first | (with_reducible trivial) | omega | (simp_all <;> omega)) | skip)) | (with_reducible first | refine wQ ?_ | refine zS ?_ | refine zN ?_)))
  intro i hi
  refine hK1 _ ?_; clear hK1 K1
  have e0 : ({ H := upd h.H i (some (.cells [.row 1 (l.map encI) none, .v (.int .i64 0)])), T := h.T } : Hp) = h.st i l 0 := rfl
  rw [e0]
  have hc : costR 3 = 1190 := by simp [costR]
  (repeat (first | (with_reducible first | refine wB ?_ | refine wN ?_) | ((with_reducible refine wI ?_); refine wN ?_) | ((with_reducible first | refine uS (mdL [(4, 1), (12, 2)]) ?_ | refine uR (mdL [(4, 1), (12, 2)]) ?_ | refine wG ?_) <;> ((try with_reducible intro K1 hK1); simp only [go_sem, ↓reduceIte, reduceCtorEq, Nat.reduceAdd, Nat.reduceSub, Nat.reduceMul, Nat.reduceLT, Nat.reduceLeDiff, Nat.reduceEqDiff]; (try and_intros); all_goals first | (refine hK1 _ ?_; clear hK1 K1) | (intros; first | (with_reducible trivial) | omega | (simp_all <;> omega)) | skip)) | (with_reducible first | refine wQ ?_ | refine zS ?_ | refine zN ?_)))
  refine (g_Loop 3 3 (by omega) i l 0 h hl (by omega)).mono ?_; rintro _ _ ⟨t, a1, ht, ha1, rfl, rfl⟩; refine hK1 _ ?_; clear hK1 K1
  have hlen := encL_len t
  have htk : List.take 6 (encL t) = encL t := List.take_of_length_le (Nat.le_of_eq hlen)
  have hdr : List.drop 6 (encL t) = [] := List.drop_of_length_le (Nat.le_of_eq hlen)
  (repeat (first | (with_reducible first | refine wB ?_ | refine wN ?_) | ((with_reducible refine wI ?_); refine wN ?_) | ((with_reducible first | refine uS (mdL [(4, 1), (12, 2)]) ?_ | refine uR (mdL [(4, 1), (12, 2)]) ?_ | refine wG ?_) <;> ((try with_reducible intro K1 hK1); simp only [go_sem, ↓reduceIte, reduceCtorEq, Nat.reduceAdd, Nat.reduceSub, Nat.reduceMul, Nat.reduceLT, Nat.reduceLeDiff, Nat.reduceEqDiff, hlen, htk, hdr]; (try and_intros); all_goals first | (refine hK1 _ ?_; clear hK1 K1) | (intros; first | (with_reducible trivial) | omega | (simp_all <;> omega)) | skip)) | (with_reducible first | refine wQ ?_ | refine zS ?_ | refine zN ?_)))
  refine (g_pick i l a1 [0, 1, 2, 5, 12, -1, 5001] none h hl (by omega) (by simp)).mono ?_; rintro _ _ ⟨many, hmany, rfl, rfl⟩; refine hK1 _ ?_; clear hK1 K1
  have hmb : NB many := by simp at hmany; unfold NB; omega
  (repeat (first | (with_reducible first | refine wB ?_ | refine wN ?_) | ((with_reducible refine wI ?_); refine wN ?_) | ((with_reducible first | refine uS (mdL [(4, 1), (12, 2)]) ?_ | refine uR (mdL [(4, 1), (12, 2)]) ?_ | refine wG ?_) <;> ((try with_reducible intro K1 hK1); simp only [go_sem, ↓reduceIte, reduceCtorEq, Nat.reduceAdd, Nat.reduceSub, Nat.reduceMul, Nat.reduceLT, Nat.reduceLeDiff, Nat.reduceEqDiff, hlen, htk, hdr]; (try and_intros); all_goals first | (refine hK1 _ ?_; clear hK1 K1) | (intros; first | (with_reducible trivial) | omega | (simp_all <;> omega)) | skip)) | (with_reducible first | refine wQ ?_ | refine zS ?_ | refine zN ?_)))
  refine (g_fault6 23 t _ ht (by omega)).mono ?_; rintro _ hz ⟨rfl, hh⟩; refine hK1 _ ?_; clear hK1 K1; rw [hh]; clear hh hz
  (repeat (first | (with_reducible first | refine wB ?_ | refine wN ?_) | ((with_reducible refine wI ?_); refine wN ?_) | ((with_reducible first | refine uS (mdL [(4, 1), (12, 2)]) ?_ | refine uR (mdL [(4, 1), (12, 2)]) ?_ | refine wG ?_) <;> ((try with_reducible intro K1 hK1); simp only [go_sem, ↓reduceIte, reduceCtorEq, Nat.reduceAdd, Nat.reduceSub, Nat.reduceMul, Nat.reduceLT, Nat.reduceLeDiff, Nat.reduceEqDiff, hlen, htk, hdr]; (try and_intros); all_goals first | (refine hK1 _ ?_; clear hK1 K1) | (intros; first | (with_reducible trivial) | omega | (simp_all <;> omega)) | skip)) | (with_reducible first | refine wQ ?_ | refine zS ?_ | refine zN ?_)))
  refine (g_check7 23 t _ ht (by omega)).mono ?_; rintro _ hz ⟨rfl, hh⟩; refine hK1 _ ?_; clear hK1 K1; rw [hh]; clear hh hz
  (repeat (first | (with_reducible first | refine wB ?_ | refine wN ?_) | ((with_reducible refine wI ?_); refine wN ?_) | ((with_reducible first | refine uS (mdL [(4, 1), (12, 2)]) ?_ | refine uR (mdL [(4, 1), (12, 2)]) ?_ | refine wG ?_) <;> ((try with_reducible intro K1 hK1); simp only [go_sem, ↓reduceIte, reduceCtorEq, Nat.reduceAdd, Nat.reduceSub, Nat.reduceMul, Nat.reduceLT, Nat.reduceLeDiff, Nat.reduceEqDiff, hlen, htk, hdr]; (try and_intros); all_goals first | (refine hK1 _ ?_; clear hK1 K1) | (intros; first | (with_reducible trivial) | omega | (simp_all <;> omega)) | skip)) | (with_reducible first | refine wQ ?_ | refine zS ?_ | refine zN ?_)))
  refine awp_cond (t := _) rfl (fun h1 => by simp at h1) (fun _ => ?_)
  (repeat (first | (with_reducible first | refine wB ?_ | refine wN ?_) | ((with_reducible refine wI ?_); refine wN ?_) | ((with_reducible first | refine uS (mdL [(4, 1), (12, 2)]) ?_ | refine uR (mdL [(4, 1), (12, 2)]) ?_ | refine wG ?_) <;> ((try with_reducible intro K1 hK1); simp only [go_sem, ↓reduceIte, reduceCtorEq, Nat.reduceAdd, Nat.reduceSub, Nat.reduceMul, Nat.reduceLT, Nat.reduceLeDiff, Nat.reduceEqDiff, hlen, htk, hdr]; (try and_intros); all_goals first | (refine hK1 _ ?_; clear hK1 K1) | (intros; first | (with_reducible trivial) | omega | (simp_all <;> omega)) | skip)) | (with_reducible first | refine wQ ?_ | refine zS ?_ | refine zN ?_)))
  refine (g_passes 23 t many _ ht (by omega) hmb).mono ?_
  rintro _ h2 rfl
  obtain ⟨xs, hxs, hxl⟩ : ∃ xs : List (ByteArray × Int), wantX 23 t many.toNat = .row 2 (xs.map encStep) none ∧ xs.length ≤ 5000 := by
    unfold wantX
    split
    · exact ⟨_, rfl, by assumption⟩
    · exact ⟨[], rfl, by simp⟩
  have hv : faultF t = 0 → VL 23 t := fun h0 => vl_of 23 t ht (by unfold faultF at h0; split at h0; cases h0; exact h0)
  have hcase : ∃ (ys : List (ByteArray × Int)) (e : Int), ys.length ≤ 5000 ∧ (if faultF t = 0 ∧ 0 ≤ many ∧ many ≤ 5000 then wantX 23 t many.toNat else .row 2 [] none) = .row 2 (ys.map encStep) none ∧ (if faultF t = 0 then if 0 ≤ many ∧ many ≤ 5000 then wantE 23 t many.toNat else 1 else faultF t) = e ∧
      (faultF t = 0 ∧ (0 ≤ many ∧ many ≤ 5000) ∧ ys = xs ∧ e = wantE 23 t many.toNat ∨ (faultF t ≠ 0 ∨ ¬ (0 ≤ many ∧ many ≤ 5000)) ∧ ys = [] ∧ e = (if faultF t = 0 then (if decide (many < 0) || decide (5000 < many) then 1 else 0) else faultF t) ∧ e ≠ 0) := by
    by_cases h1 : faultF t = 0
    · by_cases h2 : 0 ≤ many ∧ many ≤ 5000
      · exact ⟨xs, _, hxl, by rw [if_pos ⟨h1, h2⟩]; exact hxs, rfl, .inl ⟨h1, h2, rfl, by rw [if_pos h1, if_pos h2]⟩⟩
      · have h3 : (decide (many < 0) || decide (5000 < many)) = true := by simp; omega
        exact ⟨[], 1, by simp, by rw [if_neg (fun h => h2 h.2)]; rfl, by rw [if_pos h1, if_neg h2], .inr ⟨.inr h2, rfl, by rw [if_pos h1, if_pos h3], by omega⟩⟩
    · exact ⟨[], faultF t, by simp, by rw [if_neg (fun h => h1 h.1)]; rfl, by rw [if_neg h1], .inr ⟨.inl h1, rfl, by rw [if_neg h1], h1⟩⟩
  obtain ⟨ys, e, hyl, hP, hE, hc2⟩ := hcase
  rw [hP, hE]
  refine hK1 _ ?_; clear hK1 K1
  (repeat (first | (with_reducible first | refine wB ?_ | refine wN ?_) | ((with_reducible refine wI ?_); refine wN ?_) | ((with_reducible first | refine uS (mdL [(4, 1), (12, 2)]) ?_ | refine uR (mdL [(4, 1), (12, 2)]) ?_ | refine wG ?_) <;> ((try with_reducible intro K1 hK1); simp only [go_sem, ↓reduceIte, reduceCtorEq, Nat.reduceAdd, Nat.reduceSub, Nat.reduceMul, Nat.reduceLT, Nat.reduceLeDiff, Nat.reduceEqDiff, hlen, htk, hdr]; (try and_intros); all_goals first | (refine hK1 _ ?_; clear hK1 K1) | (intros; first | (with_reducible trivial) | omega | (simp_all <;> omega)) | skip)) | (with_reducible first | refine wQ ?_ | refine zS ?_ | refine zN ?_)))
  refine (a_when (decide (many < 0) || decide (5000 < many)) 1 _).mono ?_; rintro _ hz ⟨rfl, hh⟩; refine hK1 _ ?_; clear hK1 K1; rw [hh]; clear hh hz
  (repeat (first | (with_reducible first | refine wB ?_ | refine wN ?_) | ((with_reducible refine wI ?_); refine wN ?_) | ((with_reducible first | refine uS (mdL [(4, 1), (12, 2)]) ?_ | refine uR (mdL [(4, 1), (12, 2)]) ?_ | refine wG ?_) <;> ((try with_reducible intro K1 hK1); simp only [go_sem, ↓reduceIte, reduceCtorEq, Nat.reduceAdd, Nat.reduceSub, Nat.reduceMul, Nat.reduceLT, Nat.reduceLeDiff, Nat.reduceEqDiff, hlen, htk, hdr]; (try and_intros); all_goals first | (refine hK1 _ ?_; clear hK1 K1) | (intros; first | (with_reducible trivial) | omega | (simp_all <;> omega)) | skip)) | (with_reducible first | refine wQ ?_ | refine zS ?_ | refine zN ?_)))
  refine (g_or9 (faultF t) (if decide (many < 0) || decide (5000 < many) then 1 else 0) _).mono ?_; rintro _ hz ⟨rfl, hh⟩; refine hK1 _ ?_; clear hK1 K1; rw [hh]; clear hh hz
  (repeat (first | (with_reducible first | refine wB ?_ | refine wN ?_) | ((with_reducible refine wI ?_); refine wN ?_) | ((with_reducible first | refine uS (mdL [(4, 1), (12, 2)]) ?_ | refine uR (mdL [(4, 1), (12, 2)]) ?_ | refine wG ?_) <;> ((try with_reducible intro K1 hK1); simp only [go_sem, ↓reduceIte, reduceCtorEq, Nat.reduceAdd, Nat.reduceSub, Nat.reduceMul, Nat.reduceLT, Nat.reduceLeDiff, Nat.reduceEqDiff, hlen, htk, hdr]; (try and_intros); all_goals first | (refine hK1 _ ?_; clear hK1 K1) | (intros; first | (with_reducible trivial) | omega | (simp_all <;> omega)) | skip)) | (with_reducible first | refine wQ ?_ | refine zS ?_ | refine zN ?_)))
  rcases hc2 with ⟨h1, h2, rfl, rfl⟩ | ⟨h1, rfl, he, hne⟩
  · have h3 : (decide (many < 0) || decide (5000 < many)) = false := by simp; omega
    simp only [h1, h3, if_true, Bool.false_eq_true, if_false]
    refine awp_cond (t := _) rfl (fun _ => ?_) (fun h => by cases h)
    (repeat (first | (with_reducible first | refine wB ?_ | refine wN ?_) | ((with_reducible refine wI ?_); refine wN ?_) | ((with_reducible first | refine uS (mdL [(4, 1), (12, 2)]) ?_ | refine uR (mdL [(4, 1), (12, 2)]) ?_ | refine wG ?_) <;> ((try with_reducible intro K1 hK1); simp only [go_sem, ↓reduceIte, reduceCtorEq, Nat.reduceAdd, Nat.reduceSub, Nat.reduceMul, Nat.reduceLT, Nat.reduceLeDiff, Nat.reduceEqDiff, hlen, htk, hdr]; (try and_intros); all_goals first | (refine hK1 _ ?_; clear hK1 K1) | (intros; first | (with_reducible trivial) | omega | (simp_all <;> omega)) | skip)) | (with_reducible first | refine wQ ?_ | refine zS ?_ | refine zN ?_)))
    refine (g_passesOf 23 t many _ (hv h1) ht h2).mono ?_
    rintro _ h4 rfl
    rw [hxs]
    refine hK1 _ ?_; clear hK1 K1
    have hbe : (wantE 23 t many.toNat == wantE 23 t many.toNat) = true := by simp
    (repeat (first | (with_reducible first | refine wB ?_ | refine wN ?_) | ((with_reducible refine wI ?_); refine wN ?_) | ((with_reducible first | refine uS (mdL [(4, 1), (12, 2)]) ?_ | refine uR (mdL [(4, 1), (12, 2)]) ?_ | refine wG ?_) <;> ((try with_reducible intro K1 hK1); simp only [go_sem, ↓reduceIte, reduceCtorEq, Nat.reduceAdd, Nat.reduceSub, Nat.reduceMul, Nat.reduceLT, Nat.reduceLeDiff, Nat.reduceEqDiff, hbe]; (try and_intros); all_goals first | (refine hK1 _ ?_; clear hK1 K1) | (intros; first | (with_reducible trivial) | omega | (simp_all <;> omega)) | skip)) | (with_reducible first | refine wQ ?_ | refine zS ?_ | refine zN ?_)))
    refine (g_equal12 ys _ (by omega)).mono ?_; rintro _ hz ⟨rfl, hh⟩; refine ⟨rfl, hK1 _ ?_⟩; clear hK1 K1; rw [hh]; clear hh hz
    (repeat (first | (with_reducible first | refine wB ?_ | refine wN ?_) | ((with_reducible refine wI ?_); refine wN ?_) | ((with_reducible first | refine uS (mdL [(4, 1), (12, 2)]) ?_ | refine uR (mdL [(4, 1), (12, 2)]) ?_ | refine wG ?_) <;> ((try with_reducible intro K1 hK1); simp only [go_sem, ↓reduceIte, reduceCtorEq, Nat.reduceAdd, Nat.reduceSub, Nat.reduceMul, Nat.reduceLT, Nat.reduceLeDiff, Nat.reduceEqDiff, hbe]; (try and_intros); all_goals first | (refine hK1 _ ?_; clear hK1 K1) | (intros; first | (with_reducible trivial) | omega | (simp_all <;> omega)) | skip)) | (with_reducible first | refine wQ ?_ | refine zS ?_ | refine zN ?_)))
    refine (g_looped13 _).mono ?_
    rintro _ h5 rfl
    refine ⟨rfl, hK1 _ ?_⟩; clear hK1 K1
    (repeat (first | (with_reducible first | refine wB ?_ | refine wN ?_) | ((with_reducible refine wI ?_); refine wN ?_) | ((with_reducible first | refine uS (mdL [(4, 1), (12, 2)]) ?_ | refine uR (mdL [(4, 1), (12, 2)]) ?_ | refine wG ?_) <;> ((try with_reducible intro K1 hK1); simp only [go_sem, ↓reduceIte, reduceCtorEq, Nat.reduceAdd, Nat.reduceSub, Nat.reduceMul, Nat.reduceLT, Nat.reduceLeDiff, Nat.reduceEqDiff, hbe]; (try and_intros); all_goals first | (refine hK1 _ ?_; clear hK1 K1) | (intros; first | (with_reducible trivial) | omega | (simp_all <;> omega)) | skip)) | (with_reducible first | refine wQ ?_ | refine zS ?_ | refine zN ?_)))
    refine zR ?_; (repeat (with_reducible first | refine zT ?_ | refine zU ?_)); simp only [Tryd.results3, go_sem, ↓reduceIte, reduceCtorEq, Nat.reduceAdd, Nat.reduceSub, Nat.reduceMul, Nat.reduceLT, Nat.reduceLeDiff, Nat.reduceEqDiff]
    exact ⟨_, _, Weak.refl _, Hp.le.refl _, rfl⟩
  · rw [← he]
    have hbe : (e == 0) = false := by simpa using hne
    have hbe2 : (e == e) = true := by simp
    refine awp_cond (t := _) rfl (fun h => by simp [hbe] at h) (fun _ => ?_)
    (repeat (first | (with_reducible first | refine wB ?_ | refine wN ?_) | ((with_reducible refine wI ?_); refine wN ?_) | ((with_reducible first | refine uS (mdL [(4, 1), (12, 2)]) ?_ | refine uR (mdL [(4, 1), (12, 2)]) ?_ | refine wG ?_) <;> ((try with_reducible intro K1 hK1); simp only [go_sem, ↓reduceIte, reduceCtorEq, Nat.reduceAdd, Nat.reduceSub, Nat.reduceMul, Nat.reduceLT, Nat.reduceLeDiff, Nat.reduceEqDiff, hbe, hbe2]; (try and_intros); all_goals first | (refine hK1 _ ?_; clear hK1 K1) | (intros; first | (with_reducible trivial) | omega | (simp_all <;> omega)) | skip)) | (with_reducible first | refine wQ ?_ | refine zS ?_ | refine zN ?_)))
    have hq := (g_equal12 [] h2 (by simp)).weakArgs (args' := [.row 2 [] none, .v (.slice none 0 0)]) rfl (fun j a b => by
      rcases j with _ | _ | j
      · exact Weak.refl _
      · exact Weak.nil 2 0 0 ⟨rfl, rfl⟩
      · simp only [List.length_cons, List.length_nil] at a; omega)
    refine hq.mono ?_; rintro _ hz ⟨rfl, hh⟩; refine ⟨rfl, hK1 _ ?_⟩; clear hK1 K1; rw [hh]; clear hh hz
    (repeat (first | (with_reducible first | refine wB ?_ | refine wN ?_) | ((with_reducible refine wI ?_); refine wN ?_) | ((with_reducible first | refine uS (mdL [(4, 1), (12, 2)]) ?_ | refine uR (mdL [(4, 1), (12, 2)]) ?_ | refine wG ?_) <;> ((try with_reducible intro K1 hK1); simp only [go_sem, ↓reduceIte, reduceCtorEq, Nat.reduceAdd, Nat.reduceSub, Nat.reduceMul, Nat.reduceLT, Nat.reduceLeDiff, Nat.reduceEqDiff, hbe, hbe2]; (try and_intros); all_goals first | (refine hK1 _ ?_; clear hK1 K1) | (intros; first | (with_reducible trivial) | omega | (simp_all <;> omega)) | skip)) | (with_reducible first | refine wQ ?_ | refine zS ?_ | refine zN ?_)))
    refine (g_looped13 _).mono ?_
    rintro _ h5 rfl
    refine ⟨rfl, hK1 _ ?_⟩; clear hK1 K1
    (repeat (first | (with_reducible first | refine wB ?_ | refine wN ?_) | ((with_reducible refine wI ?_); refine wN ?_) | ((with_reducible first | refine uS (mdL [(4, 1), (12, 2)]) ?_ | refine uR (mdL [(4, 1), (12, 2)]) ?_ | refine wG ?_) <;> ((try with_reducible intro K1 hK1); simp only [go_sem, ↓reduceIte, reduceCtorEq, Nat.reduceAdd, Nat.reduceSub, Nat.reduceMul, Nat.reduceLT, Nat.reduceLeDiff, Nat.reduceEqDiff, hbe, hbe2]; (try and_intros); all_goals first | (refine hK1 _ ?_; clear hK1 K1) | (intros; first | (with_reducible trivial) | omega | (simp_all <;> omega)) | skip)) | (with_reducible first | refine wQ ?_ | refine zS ?_ | refine zN ?_)))
    refine zR ?_; (repeat (with_reducible first | refine zT ?_ | refine zU ?_)); simp only [Tryd.results3, go_sem, ↓reduceIte, reduceCtorEq, Nat.reduceAdd, Nat.reduceSub, Nat.reduceMul, Nat.reduceLT, Nat.reduceLeDiff, Nat.reduceEqDiff]
    exact ⟨_, _, Weak.refl _, Hp.le.refl _, rfl⟩
end Go.Proofs.YtoleejecmefogaaDoor
/- For every slice of ints the law LoopsPass returns true and leaves the slice as it was: the row, and its card. Its conditions are the given row's own. -/
namespace Go.Proofs.YtoleejecmefogaaDoor.loopsPassDone
open Go.ChangeShapes Go.WideShapes Go.ChangeAt Go.RowKit
set_option linter.unusedVariables false
set_option linter.unusedSimpArgs false
set_option linter.unusedVariables false

theorem own : ownKnob Tryd.prog.godebug = none := by kernel_rfl
theorem laidOut : laidOutB Tryd.prog = true := by kernel_rfl

set_option maxRecDepth 100000 in
theorem lifted (os : Os) (started : os.Started) (H : Type) (enc : TypeId × Value → H) :
    ReturnsInHanded {} Tryd.checked os 3 .any (fun w args => (Rows.loopsPassSpec.pre enc Tryd.prog Tryd.f3 [] false w args ∧ laidMetH Tryd.prog Rows.loopsPassRow.laid w) ∧ sizedMet enc Tryd.prog Tryd.f3 (OpenSpec.ofChange Rows.loopsPassSpec) false w args)
      (Rows.loopsPassSpec.post enc Tryd.prog Tryd.f3 false true false false) := by
  refine returnsInHanded_of_change_and (C := Tryd.checked) (X := fun w _ => laidMetH Tryd.prog Rows.loopsPassRow.laid w) (fun _ _ _ hh h => h.of_heap hh) own started (by kernel_rfl) Tryd.func3
    (ChangeSpec.witness_shaped (enc := enc) (C := Tryd.checked) (os := os) (X := fun w _ => laidMetH Tryd.prog Rows.loopsPassRow.laid w) false (World.laidAll Tryd.prog os Rows.loopsPassRow.laid) #[.slice none 0 0] 8 (World.laidAll_os _ _ _)
      (World.shaped_of_ZipB (by kernel_rfl) (by kernel_rfl)) (by kernel_rfl) (by kernel_rfl) (by kernel_rfl)
      (by rw [MakeChecks.laidMetH_plain _ _ _ (by kernel_rfl)]; exact laidMet_laidAll _ (by kernel_rfl) (by kernel_rfl))) ?_
  intro W base args ds gs before hval0 hW _ _ hL _
  have hval : ∀ (j : Nat) t v, Tryd.f3.params[j]? = some t → args[j]? = some v → Value.okWide Tryd.prog W .any base t v := hval0
  have hW' := hW
  obtain ⟨p, q, hA0, hV, rfl, hfz, hnd⟩ := hW
  have hA : DataW.TrodAll enc Tryd.prog W 0 (fun _ => true) true Tryd.f3.params.toList args.toList ds p := hA0
  rw [Tryd.params3] at hA hval
  obtain ⟨v0, vs0, d0, ds0, p0, q0, hargs, rfl, rfl, h0, r0⟩ := trodAll_cons hA
  obtain ⟨rfl, rfl, rfl⟩ := trodAll_nil r0
  obtain rfl : args = #[v0] := by cases args; simp_all
  obtain ⟨rfl, rfl⟩ := trodVars_none hV
  obtain ⟨a0, len0, cap0, rfl⟩ := okWide_slice Tryd.underlying22 (hval 0 22 v0 rfl rfl)
  have k0 := h0
  have lt0 : ∀ x ∈ p0, x.block < W.heap.size := by obtain ⟨m, hm⟩ := k0; exact DataW.trod_lt m _ _ _ hm
  obtain ⟨z0, w0⟩ : ∃ zs, ARow W a0 len0 cap0 zs := by
    obtain ⟨fuel, hf⟩ := h0
    rcases open_ints Tryd.underlying22 Tryd.underlying3 (by kernel_rfl) hf with ⟨hcs, _⟩ | ⟨x, l, c, zs, hcs, _, hl, hm, hz, _, hcell, hwz⟩
    · simp [Value.cells] at hcs
      obtain ⟨rfl, rfl, rfl⟩ := hcs
      exact ⟨[], .inl ⟨rfl, rfl, rfl, rfl⟩⟩
    · simp [Value.cells] at hcs
      obtain ⟨rfl, rfl, rfl⟩ := hcs
      exact ⟨zs, .inr ⟨_, rfl, hl, hm, by simpa using hz, hcell, hwz⟩⟩
  clear hA0 hval0
  refine (law_calls g_law3 a0 len0 cap0 z0 W w0).mono fun e W' ⟨he, bel⟩ => ?_
  subst he
  exact ⟨_, rfl, _, _, _, [], _, [], hW', trodAll_mk1 (shut_bool Tryd.underlying4 _), (trodAll_cons_mk (Below.trod laidOut (by kernel_rfl) (of_decide_eq_true (by kernel_rfl)) k0 bel lt0) trodAll_mk0), rfl, bel.frame _, fun h => by cases h⟩

theorem said : Rows.LoopsPassSaid :=
  OpenClaim.holds_of_wide 3 Tryd.f3 rfl rfl rfl rfl rfl rfl rfl ⟨rfl, rfl, rfl, rfl, rfl⟩ rfl rfl rfl rfl rfl (by kernel_rfl) Tryd.func3 (by kernel_rfl)
    (of_decide_eq_true (by kernel_rfl)) (by unfold Func.isWrapper; first | (rw [if_pos (by decide +kernel)]; kernel_rfl) | (rw [if_neg (by decide +kernel)]; exact ⟨rfl, rfl⟩))
    (fun os started H enc _ => lifted os started H enc)

theorem plain (f : FuncId) (fn : Func) (hf : Tryd.pinned.checked.prog.funcNamed "signboard/signlaw1.LoopsPass" = some f) (hfn : Tryd.pinned.checked.prog.funcs[f]? = some fn) :
    false = Tryd.pinned.checked.prog.looks [] ∧ ∀ (j : Nat) t, fn.params[j]? = some t → Tryd.pinned.checked.prog.wantsStandIn t = false := by
  obtain rfl : f = 3 := Option.some.inj ((show Tryd.prog.funcNamed "signboard/signlaw1.LoopsPass" = some 3 by kernel_rfl).symm.trans hf) |>.symm
  obtain rfl : fn = Tryd.f3 := (Option.some.inj (Tryd.func3.symm.trans hfn)).symm
  refine ⟨by kernel_rfl, fun j t ht => ?_⟩
  rw [Tryd.params3] at ht
  obtain rfl : t = 22 := by simpa using Array.mem_of_getElem? ht
  exact (show Tryd.prog.wantsStandIn 22 = false by kernel_rfl)

theorem card : Rows.LoopsPassCardSaid :=
  Claim7.holds_tied_plain_at .later [] _ _ _ _ said (fun _ h => by cases h) (by kernel_rfl) (fun _ h => by cases h) loopsPass_row_tie rfl ⟨rfl, rfl⟩ (by kernel_rfl) rfl plain (by kernel_rfl)
end Go.Proofs.YtoleejecmefogaaDoor.loopsPassDone
