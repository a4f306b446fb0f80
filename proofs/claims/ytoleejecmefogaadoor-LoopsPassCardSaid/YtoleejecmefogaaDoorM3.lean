/- signref1.runner.pass. -/
import Derived.Test.YtoleejecmefogaaDoorM2
import Derived.WalkKit
import Derived.WalkSpells
import Derived.WalkLawsBesides
import Derived.Deep.QuietTactic
import Derived.BigQuiet
import Derived.Lib.Hide
import Derived.Test.YtoleejecmefogaaDoorProg
import Derived.Test.YtoleejecmefogaaDoorShelf
import Derived.Deep.DeepCutAuto
import Derived.Deep.LoopGhost
import Derived.Shelf.Strings.SlTrimAscii
namespace Go.Proofs.YtoleejecmefogaaDoor
open Go
set_option linter.unusedVariables false
set_option linter.unusedSimpArgs false
set_option maxRecDepth 100000
set_option maxHeartbeats 8000000
def encN (j : Nat) : List AV := [.v (.int .i64 (j : Int))]
theorem upd_none {α : Type} {f : Nat → Option α} {q : Nat} {x : Option α} (h : f q = none) : upd (upd f q x) q none = f := by
  funext j
  by_cases hj : j = q
  · subst hj; rw [upd_same, h]
  · rw [upd_other _ _ hj, upd_other _ _ hj]
def PRes (d : Nat) (t : LT) (a : AT) (s : PS) (h : Hp) (o k : Nat) (out : List (ByteArray × Int)) (r : AV) (h' : Hp) : Prop :=
  if out.length + (passU d t s).2.length ≤ 5000 then r = .v (.bool true) ∧ RAt XR h' d t a (passU d t s).1 ∧ OutAt h' o k [] (out ++ (passU d t s).2) ∧ FrP a o k h h' else r = .v (.bool false)
def PassJ (d : Nat) (kind : Int) (item : ByteArray) (long many : Int) (kids : List LT) (shares : List Int) (i c0 : Nat) (az : List AT) (p : Int) (cs : List Int) (ks : List PS) (h : Hp) (o k : Nat) (out : List (ByteArray × Int)) (s : St) : Prop :=
  ∃ hb v h1, RAt XR hb (d + 1) (.mk kind item long many kids shares) (.mk i c0 az) (.mk p cs ks) ∧ OutAt hb o k [] (out ++ if kind = 1 then [(item, long)] else []) ∧ FrP (.mk i c0 az) o k h hb ∧
    (v.noLoc = true ∧ Weak v (.row 1 ((idxL kind p many kids.length (nextF shares p cs)).map encN) none) ∧ Hp.le hb h1 ∨ ∃ q, v = .arr 1 q (idxL kind p many kids.length (nextF shares p cs)).length ∧ hb.T q = none ∧ h1 = { hb with T := upd hb.T q (some (.cont 1 ((idxL kind p many kids.length (nextF shares p cs)).map encN))) }) ∧
    s = ⟨((.ptr i 0) :: (.ptr o 0) :: (.v (.int .i64 5000)) :: (jnk 4 ((v) :: (jnk 109 [])))), [], h1⟩
theorem g_passR : ∀ (d : Nat) (t : LT) (a : AT) (s : PS) (h : Hp) (o k : Nat) (out : List (ByteArray × Int)), VL d t → RAt XR h d t a s → Sep d a → PSB d t s out.length → OutAt h o k [] out → o ∉ idsT a → out.length ≤ 5000 →
    ACalls Tryd.prog 30 [.ptr a.id 0, .ptr o 0, .v (.int .i64 5000)] h (PRes d t a s h o k out)
  | 0, _, _, _, _, _, _, _, hv, _, _, _, _, _, _ => hv.elim
  | d + 1, .mk kind item long many kids shares, .mk i c0 az, .mk p cs ks, h, o, k, out, hv, hR, hS, hB, hO, ho, hout => by
    have hfit := hR.fits
    have hkt := hR.tokNe hO.2
    obtain ⟨v1, v2, v3, v4, v5, v6, v7, v8⟩ := id hv
    obtain ⟨⟨K, hH, hK⟩, hT, ⟨l1, l2, l3, l4⟩, hkids⟩ := id hR
    have hH0 : h.H i = some (.cells [.v (.int .i64 kind), .v (.string item), .v (.int .i64 long), .v (.int .i64 many), .row 6 (kids.map encL) none, .row 1 (shares.map encI) none, K, .v (.int .i64 p), .arr 1 c0 kids.length]) := hH
    have hT0 : h.T c0 = some (.cont 1 (cs.map encI)) := hT
    have hO1 : h.H o = some (.cells [.row 2 (out.map encStep) (some k)]) := hO.1
    have hO2 : h.T k = some (.tail out.length) := hO.2
    have hpn : 0 ≤ p ∧ p ≤ 5000 := by have := hB.1; omega
    have hcn : ∀ x ∈ cs, 0 ≤ x ∧ x ≤ 1000000 := fun x hx => by have := hB.2.1 x hx; omega
    have hfr0 : FrP (.mk i c0 az) o k h h := ⟨fun _ _ _ => rfl, fun _ _ _ => rfl⟩
    show ACalls Tryd.prog 30 [.ptr i 0, .ptr o 0, .v (.int .i64 5000)] h _
    refine acalls_of tyok Tryd.func30 rfl (by kernel_rfl) fun c => ?_; simp only [Tryd.ntmps30, List.length_cons, List.length_nil, Nat.reduceAdd, Nat.reduceSub, jnk_rep, List.cons_append, List.nil_append]
    (repeat (first | (with_reducible first | refine wB ?_ | refine wN ?_ | refine wT ?_) | ((with_reducible refine wI ?_); refine wN ?_) | ((first | ((with_reducible refine yS ?_); refine awp_keep 9905787658939656716169610695 100 (kS ?_)) | ((with_reducible refine yR ?_); refine awp_keep 9905787658939656716169610695 100 (kR ?_)) | (with_reducible first | refine wG ?_ | refine wH ?_ | refine wM ?_ ?_) | ((with_reducible refine xR ?_); refine awp_keep 9905787658939656716169610695 100 (uE 4 (mdL []) [0, 1, 2, 3, 4, 5, 6, 7, 8, 9, 10, 11, 12, 13, 14, 15] [(16, [], [17]), (18, [], [])] 117 rfl (by kernel_rfl) ?_)) | ((with_reducible refine xR ?_); refine awp_keep 9905787658939656716169610695 100 (uE 12 (mdL []) [0, 1, 2, 3, 4, 5, 6, 7, 8, 9, 10, 11] [] 117 rfl (by kernel_rfl) ?_))) <;> ((try with_reducible intro K1 hK1); simp only [go_sem, ↓reduceIte, reduceCtorEq, Nat.reduceAdd, Nat.reduceSub, Nat.reduceMul, Nat.reduceLT, Nat.reduceLeDiff, Nat.reduceEqDiff, hH0, Nat.reduceMod, Nat.reduceDiv, Nat.reducePow]; (try and_intros); all_goals first | (refine hK1 _ ?_; clear hK1 K1) | (intros; first | (with_reducible trivial) | omega | (simp_all <;> omega)) | skip)) | (with_reducible first | refine zS ?_ | refine zN ?_ | refine zX ?_ | refine zE ?_ | refine zF ?_ | refine zO (by decide) ?_ | refine zB ?_)))
    refine awp_seq ?_
    refine awp_join (rl false [0, 3, 4, 1, 109]) 0 (fun s => PassJ d kind item long many kids shares i c0 az p cs ks h o k out s) ?_ ?_
    · have hkz : kind ≠ 1 → ∃ tk, K = .row 1 (az.map fun a => [.ptr a.id 0]) tk := fun h1 => by
        rcases hK with ⟨rfl, _⟩ | h2
        · simp at l3; exact absurd (List.eq_nil_of_length_eq_zero l3.symm) (v3 h1)
        · exact h2
      rcases (show kind = 1 ∨ kind = 2 ∨ kind = 3 ∨ kind = 4 ∨ kind = 5 by omega) with rfl | rfl | rfl | rfl | rfl
      · (repeat (first | (with_reducible first | refine wB ?_ | refine wN ?_ | refine wT ?_) | ((with_reducible refine wI ?_); refine wN ?_) | ((first | ((with_reducible refine yS ?_); refine awp_keep 9905787658939656716169610695 100 (kS ?_)) | ((with_reducible refine yR ?_); refine awp_keep 9905787658939656716169610695 100 (kR ?_)) | (with_reducible first | refine wG ?_ | refine wH ?_ | refine wM ?_ ?_) | ((with_reducible refine xR ?_); refine awp_keep 9905787658939656716169610695 100 (uE 4 (mdL []) [0, 1, 2, 3, 4, 5, 6, 7, 8, 9, 10, 11, 12, 13, 14, 15] [(16, [], [17]), (18, [], [])] 117 rfl (by kernel_rfl) ?_)) | ((with_reducible refine xR ?_); refine awp_keep 9905787658939656716169610695 100 (uE 12 (mdL []) [0, 1, 2, 3, 4, 5, 6, 7, 8, 9, 10, 11] [] 117 rfl (by kernel_rfl) ?_))) <;> ((try with_reducible intro K1 hK1); simp only [go_sem, ↓reduceIte, reduceCtorEq, Nat.reduceAdd, Nat.reduceSub, Nat.reduceMul, Nat.reduceLT, Nat.reduceLeDiff, Nat.reduceEqDiff, hH0, Nat.reduceMod, Nat.reduceDiv, Nat.reducePow]; (try and_intros); all_goals first | (refine hK1 _ ?_; clear hK1 K1) | (intros; first | (with_reducible trivial) | omega | (simp_all <;> omega)) | skip)) | (with_reducible first | refine wQ ?_ | refine zS ?_ | refine zN ?_ | refine zX ?_ | refine zE ?_ | refine zF ?_ | refine zO (by decide) ?_ | refine zB ?_)))
        refine awp_cond (t := _) rfl (fun _ => ?_) (fun h1 => by cases h1)
        (repeat (first | (with_reducible first | refine wB ?_ | refine wN ?_ | refine wT ?_) | ((with_reducible refine wI ?_); refine wN ?_) | ((first | ((with_reducible refine yS ?_); refine awp_keep 9905787658939656716169610695 100 (kS ?_)) | ((with_reducible refine yR ?_); refine awp_keep 9905787658939656716169610695 100 (kR ?_)) | (with_reducible first | refine wG ?_ | refine wH ?_ | refine wM ?_ ?_) | ((with_reducible refine xR ?_); refine awp_keep 9905787658939656716169610695 100 (uE 4 (mdL []) [0, 1, 2, 3, 4, 5, 6, 7, 8, 9, 10, 11, 12, 13, 14, 15] [(16, [], [17]), (18, [], [])] 117 rfl (by kernel_rfl) ?_)) | ((with_reducible refine xR ?_); refine awp_keep 9905787658939656716169610695 100 (uE 12 (mdL []) [0, 1, 2, 3, 4, 5, 6, 7, 8, 9, 10, 11] [] 117 rfl (by kernel_rfl) ?_))) <;> ((try with_reducible intro K1 hK1); simp only [go_sem, ↓reduceIte, reduceCtorEq, Nat.reduceAdd, Nat.reduceSub, Nat.reduceMul, Nat.reduceLT, Nat.reduceLeDiff, Nat.reduceEqDiff, hH0, hO1, hO2, Nat.reduceMod, Nat.reduceDiv, Nat.reducePow]; (try and_intros); all_goals first | (refine hK1 _ ?_; clear hK1 K1) | (intros; first | (with_reducible trivial) | omega | (simp_all <;> omega)) | skip)) | (with_reducible first | refine wQ ?_ | refine zS ?_ | refine zN ?_ | refine zX ?_ | refine zE ?_ | refine zF ?_ | refine zO (by decide) ?_ | refine zB ?_)))
        refine ⟨{ H := upd h.H o (some (.cells [.row 2 (out.map encStep ++ [[.v (.string item), .v (.int .i64 long)]]) (some k)])), T := upd h.T k (some (.tail (out.length + 1))) }, .v (.slice none 0 0), _, hR.frame (fun x hx => upd_other _ _ (fun e => by subst e; exact ho hx)) (fun x hx => upd_other _ _ (fun e => by subst e; exact hkt hx)), ⟨?_, ?_⟩, ⟨fun x _ hx => upd_other _ _ hx, fun x _ hx => upd_other _ _ hx⟩, .inl ⟨rfl, Weak.nil 1 0 0 ⟨rfl, rfl⟩, Hp.le.refl _⟩, rfl⟩
        · rw [show (out ++ if (1 : Int) = 1 then [(item, long)] else []).map encStep = out.map encStep ++ [[.v (.string item), .v (.int .i64 long)]] by simp [encStep]]
          exact upd_same _ _ _
        · rw [show (out ++ if (1 : Int) = 1 then [(item, long)] else []).length = out.length + 1 by simp]
          exact upd_same _ _ _
      · obtain ⟨tk, rfl⟩ := hkz (by omega)
        have hO' : OutAt h o k [] (out ++ if (2 : Int) = 1 then [(item, long)] else []) := by simpa using hO
        (repeat (first | (with_reducible first | refine wB ?_ | refine wN ?_ | refine wT ?_) | ((with_reducible refine wI ?_); refine wN ?_) | ((first | ((with_reducible refine yS ?_); refine awp_keep 9905787658939656716169610695 100 (kS ?_)) | ((with_reducible refine yR ?_); refine awp_keep 9905787658939656716169610695 100 (kR ?_)) | (with_reducible first | refine wG ?_ | refine wH ?_ | refine wM ?_ ?_) | ((with_reducible refine xR ?_); refine awp_keep 9905787658939656716169610695 100 (uE 4 (mdL []) [0, 1, 2, 3, 4, 5, 6, 7, 8, 9, 10, 11, 12, 13, 14, 15] [(16, [], [17]), (18, [], [])] 117 rfl (by kernel_rfl) ?_)) | ((with_reducible refine xR ?_); refine awp_keep 9905787658939656716169610695 100 (uE 12 (mdL []) [0, 1, 2, 3, 4, 5, 6, 7, 8, 9, 10, 11] [] 117 rfl (by kernel_rfl) ?_))) <;> ((try with_reducible intro K1 hK1); simp only [go_sem, ↓reduceIte, reduceCtorEq, Nat.reduceAdd, Nat.reduceSub, Nat.reduceMul, Nat.reduceLT, Nat.reduceLeDiff, Nat.reduceEqDiff, hH0, Nat.reduceMod, Nat.reduceDiv, Nat.reducePow]; (try and_intros); all_goals first | (refine hK1 _ ?_; clear hK1 K1) | (intros; first | (with_reducible trivial) | omega | (simp_all <;> omega)) | skip)) | (with_reducible first | refine wQ ?_ | refine zS ?_ | refine zN ?_ | refine zX ?_ | refine zE ?_ | refine zF ?_ | refine zO (by decide) ?_ | refine zB ?_)))
        refine awp_cond (t := _) rfl (fun h1 => by cases h1) (fun _ => ?_)
        (repeat (first | (with_reducible first | refine wB ?_ | refine wN ?_ | refine wT ?_) | ((with_reducible refine wI ?_); refine wN ?_) | ((first | ((with_reducible refine yS ?_); refine awp_keep 9905787658939656716169610695 100 (kS ?_)) | ((with_reducible refine yR ?_); refine awp_keep 9905787658939656716169610695 100 (kR ?_)) | (with_reducible first | refine wG ?_ | refine wH ?_ | refine wM ?_ ?_) | ((with_reducible refine xR ?_); refine awp_keep 9905787658939656716169610695 100 (uE 4 (mdL []) [0, 1, 2, 3, 4, 5, 6, 7, 8, 9, 10, 11, 12, 13, 14, 15] [(16, [], [17]), (18, [], [])] 117 rfl (by kernel_rfl) ?_)) | ((with_reducible refine xR ?_); refine awp_keep 9905787658939656716169610695 100 (uE 12 (mdL []) [0, 1, 2, 3, 4, 5, 6, 7, 8, 9, 10, 11] [] 117 rfl (by kernel_rfl) ?_))) <;> ((try with_reducible intro K1 hK1); simp only [go_sem, ↓reduceIte, reduceCtorEq, Nat.reduceAdd, Nat.reduceSub, Nat.reduceMul, Nat.reduceLT, Nat.reduceLeDiff, Nat.reduceEqDiff, hH0, Nat.reduceMod, Nat.reduceDiv, Nat.reducePow]; (try and_intros); all_goals first | (refine hK1 _ ?_; clear hK1 K1) | (intros; first | (with_reducible trivial) | omega | (simp_all <;> omega)) | skip)) | (with_reducible first | refine wQ ?_ | refine zS ?_ | refine zN ?_ | refine zX ?_ | refine zE ?_ | refine zF ?_ | refine zO (by decide) ?_ | refine zB ?_)))
        refine awp_cond (t := _) rfl (fun _ => ?_) (fun h1 => by cases h1)
        (repeat (first | (with_reducible first | refine wB ?_ | refine wN ?_ | refine wT ?_) | ((with_reducible refine wI ?_); refine wN ?_) | ((first | ((with_reducible refine yS ?_); refine awp_keep 9905787658939656716169610695 100 (kS ?_)) | ((with_reducible refine yR ?_); refine awp_keep 9905787658939656716169610695 100 (kR ?_)) | (with_reducible first | refine wG ?_ | refine wH ?_ | refine wM ?_ ?_) | ((with_reducible refine xR ?_); refine awp_keep 9905787658939656716169610695 100 (uE 4 (mdL []) [0, 1, 2, 3, 4, 5, 6, 7, 8, 9, 10, 11, 12, 13, 14, 15] [(16, [], [17]), (18, [], [])] 117 rfl (by kernel_rfl) ?_)) | ((with_reducible refine xR ?_); refine awp_keep 9905787658939656716169610695 100 (uE 12 (mdL []) [0, 1, 2, 3, 4, 5, 6, 7, 8, 9, 10, 11] [] 117 rfl (by kernel_rfl) ?_))) <;> ((try with_reducible intro K1 hK1); simp only [go_sem, ↓reduceIte, reduceCtorEq, Nat.reduceAdd, Nat.reduceSub, Nat.reduceMul, Nat.reduceLT, Nat.reduceLeDiff, Nat.reduceEqDiff, hH0, Nat.reduceMod, Nat.reduceDiv, Nat.reducePow]; (try and_intros); all_goals first | (refine hK1 _ ?_; clear hK1 K1) | (intros; first | (with_reducible trivial) | omega | (simp_all <;> omega)) | skip)) | (with_reducible first | refine wQ ?_ | refine zS ?_ | refine zN ?_ | refine zX ?_ | refine zE ?_ | refine zF ?_ | refine zO (by decide) ?_ | refine zB ?_)))
        refine awp_own 7 1 rfl ⟨rfl, rfl⟩ (fun q hq => ?_)
        simp only [List.set_cons_zero, List.set_cons_succ]
        replace hq : h.T q = none := hq
        refine awp_loopC (rl false [0, 3, 4, 1, 34, 2, 73]) 0 (fun g s => ∃ j : Nat, g + j = kids.length ∧ s = ⟨((.ptr i 0) :: (.ptr o 0) :: (.v (.int .i64 5000)) :: (jnk 4 ((.row 1 ((List.range j).map encN) (some q)) :: (jnk 34 ((.v (.int .i64 kids.length)) :: (.v (.int .i64 j)) :: (jnk 73 [])))))), [], { h with T := upd h.T q (some (.tail j)) }⟩) kids.length ⟨0, by omega, by rw [← l3]; rfl⟩ ?_
        rintro g _ ⟨j, hj, rfl⟩
        (repeat (first | (with_reducible first | refine wB ?_ | refine wN ?_ | refine wT ?_) | ((with_reducible refine wI ?_); refine wN ?_) | ((first | ((with_reducible refine yS ?_); refine awp_keep 9905787658939656716169610695 100 (kS ?_)) | ((with_reducible refine yR ?_); refine awp_keep 9905787658939656716169610695 100 (kR ?_)) | (with_reducible first | refine wG ?_ | refine wH ?_ | refine wM ?_ ?_) | ((with_reducible refine xR ?_); refine awp_keep 9905787658939656716169610695 100 (uE 4 (mdL []) [0, 1, 2, 3, 4, 5, 6, 7, 8, 9, 10, 11, 12, 13, 14, 15] [(16, [], [17]), (18, [], [])] 117 rfl (by kernel_rfl) ?_)) | ((with_reducible refine xR ?_); refine awp_keep 9905787658939656716169610695 100 (uE 12 (mdL []) [0, 1, 2, 3, 4, 5, 6, 7, 8, 9, 10, 11] [] 117 rfl (by kernel_rfl) ?_))) <;> ((try with_reducible intro K1 hK1); simp only [go_sem, ↓reduceIte, reduceCtorEq, Nat.reduceAdd, Nat.reduceSub, Nat.reduceMul, Nat.reduceLT, Nat.reduceLeDiff, Nat.reduceEqDiff, Nat.reduceMod, Nat.reduceDiv, Nat.reducePow]; (try and_intros); all_goals first | (refine hK1 _ ?_; clear hK1 K1) | (intros; first | (with_reducible trivial) | omega | (simp_all <;> omega)) | skip)) | (with_reducible first | refine wQ ?_ | refine zS ?_ | refine zN ?_ | refine zX ?_ | refine zE ?_ | refine zF ?_ | refine zO (by decide) ?_ | refine zB ?_)))
        refine awp_cond (t := _) rfl (fun h1 => ?_) (fun h1 => ?_)
        · simp only [decide_eq_true_eq] at h1
          (repeat (first | (with_reducible first | refine wB ?_ | refine wN ?_ | refine wT ?_) | ((with_reducible refine wI ?_); refine wN ?_) | ((first | ((with_reducible refine yS ?_); refine awp_keep 9905787658939656716169610695 100 (kS ?_)) | ((with_reducible refine yR ?_); refine awp_keep 9905787658939656716169610695 100 (kR ?_)) | (with_reducible first | refine wG ?_ | refine wH ?_ | refine wM ?_ ?_) | ((with_reducible refine xR ?_); refine awp_keep 9905787658939656716169610695 100 (uE 4 (mdL []) [0, 1, 2, 3, 4, 5, 6, 7, 8, 9, 10, 11, 12, 13, 14, 15] [(16, [], [17]), (18, [], [])] 117 rfl (by kernel_rfl) ?_)) | ((with_reducible refine xR ?_); refine awp_keep 9905787658939656716169610695 100 (uE 12 (mdL []) [0, 1, 2, 3, 4, 5, 6, 7, 8, 9, 10, 11] [] 117 rfl (by kernel_rfl) ?_))) <;> ((try with_reducible intro K1 hK1); simp only [go_sem, ↓reduceIte, reduceCtorEq, Nat.reduceAdd, Nat.reduceSub, Nat.reduceMul, Nat.reduceLT, Nat.reduceLeDiff, Nat.reduceEqDiff, List.length_range, Nat.reduceMod, Nat.reduceDiv, Nat.reducePow]; (try and_intros); all_goals first | (refine hK1 _ ?_; clear hK1 K1) | (intros; first | (with_reducible trivial) | omega | (simp_all <;> omega)) | skip)) | (with_reducible first | refine wQ ?_ | refine zS ?_ | refine zN ?_ | refine zX ?_ | refine zE ?_ | refine zF ?_ | refine zO (by decide) ?_ | refine zB ?_)))
          refine ⟨g - 1, by omega, j + 1, by omega, ?_⟩
          rw [List.range_succ, List.map_append]; rfl
        · simp only [decide_eq_false_iff_not] at h1
          have hjk : j = kids.length := by omega
          (repeat (first | (with_reducible first | refine wB ?_ | refine wN ?_ | refine wT ?_) | ((with_reducible refine wI ?_); refine wN ?_) | ((first | ((with_reducible refine yS ?_); refine awp_keep 9905787658939656716169610695 100 (kS ?_)) | ((with_reducible refine yR ?_); refine awp_keep 9905787658939656716169610695 100 (kR ?_)) | (with_reducible first | refine wG ?_ | refine wH ?_ | refine wM ?_ ?_) | ((with_reducible refine xR ?_); refine awp_keep 9905787658939656716169610695 100 (uE 4 (mdL []) [0, 1, 2, 3, 4, 5, 6, 7, 8, 9, 10, 11, 12, 13, 14, 15] [(16, [], [17]), (18, [], [])] 117 rfl (by kernel_rfl) ?_)) | ((with_reducible refine xR ?_); refine awp_keep 9905787658939656716169610695 100 (uE 12 (mdL []) [0, 1, 2, 3, 4, 5, 6, 7, 8, 9, 10, 11] [] 117 rfl (by kernel_rfl) ?_))) <;> ((try with_reducible intro K1 hK1); simp only [go_sem, ↓reduceIte, reduceCtorEq, Nat.reduceAdd, Nat.reduceSub, Nat.reduceMul, Nat.reduceLT, Nat.reduceLeDiff, Nat.reduceEqDiff, Nat.reduceMod, Nat.reduceDiv, Nat.reducePow]; (try and_intros); all_goals first | (refine hK1 _ ?_; clear hK1 K1) | (intros; first | (with_reducible trivial) | omega | (simp_all <;> omega)) | skip)) | (with_reducible first | refine wQ ?_ | refine zS ?_ | refine zN ?_ | refine zX ?_ | refine zE ?_ | refine zF ?_ | refine zO (by decide) ?_ | refine zB ?_)))
          have hix : idxL 2 p many kids.length (nextF shares p cs) = List.range kids.length := by simp [idxL]
          refine ⟨h, .row 1 ((List.range kids.length).map encN) (some q), { h with T := upd h.T q (some (.tail kids.length)) }, hR, hO', hfr0, .inl ⟨rfl, by rw [hix]; exact Weak.row _ _ _, ⟨fun _ => .inr rfl, fun x => ?_⟩⟩, by rw [hjk]; rfl⟩
          by_cases hx : x = q
          · subst hx; exact .inl hq
          · exact .inr (upd_other _ _ hx).symm
      · obtain ⟨tk, rfl⟩ := hkz (by omega)
        have hO' : OutAt h o k [] (out ++ if (3 : Int) = 1 then [(item, long)] else []) := by simpa using hO
        (repeat (first | (with_reducible first | refine wB ?_ | refine wN ?_ | refine wT ?_) | ((with_reducible refine wI ?_); refine wN ?_) | ((first | ((with_reducible refine yS ?_); refine awp_keep 9905787658939656716169610695 100 (kS ?_)) | ((with_reducible refine yR ?_); refine awp_keep 9905787658939656716169610695 100 (kR ?_)) | (with_reducible first | refine wG ?_ | refine wH ?_ | refine wM ?_ ?_) | ((with_reducible refine xR ?_); refine awp_keep 9905787658939656716169610695 100 (uE 4 (mdL []) [0, 1, 2, 3, 4, 5, 6, 7, 8, 9, 10, 11, 12, 13, 14, 15] [(16, [], [17]), (18, [], [])] 117 rfl (by kernel_rfl) ?_)) | ((with_reducible refine xR ?_); refine awp_keep 9905787658939656716169610695 100 (uE 12 (mdL []) [0, 1, 2, 3, 4, 5, 6, 7, 8, 9, 10, 11] [] 117 rfl (by kernel_rfl) ?_))) <;> ((try with_reducible intro K1 hK1); simp only [go_sem, ↓reduceIte, reduceCtorEq, Nat.reduceAdd, Nat.reduceSub, Nat.reduceMul, Nat.reduceLT, Nat.reduceLeDiff, Nat.reduceEqDiff, hH0, Nat.reduceMod, Nat.reduceDiv, Nat.reducePow]; (try and_intros); all_goals first | (refine hK1 _ ?_; clear hK1 K1) | (intros; first | (with_reducible trivial) | omega | (simp_all <;> omega)) | skip)) | (with_reducible first | refine wQ ?_ | refine zS ?_ | refine zN ?_ | refine zX ?_ | refine zE ?_ | refine zF ?_ | refine zO (by decide) ?_ | refine zB ?_)))
        refine awp_cond (t := _) rfl (fun h1 => by cases h1) (fun _ => ?_)
        (repeat (first | (with_reducible first | refine wB ?_ | refine wN ?_ | refine wT ?_) | ((with_reducible refine wI ?_); refine wN ?_) | ((first | ((with_reducible refine yS ?_); refine awp_keep 9905787658939656716169610695 100 (kS ?_)) | ((with_reducible refine yR ?_); refine awp_keep 9905787658939656716169610695 100 (kR ?_)) | (with_reducible first | refine wG ?_ | refine wH ?_ | refine wM ?_ ?_) | ((with_reducible refine xR ?_); refine awp_keep 9905787658939656716169610695 100 (uE 4 (mdL []) [0, 1, 2, 3, 4, 5, 6, 7, 8, 9, 10, 11, 12, 13, 14, 15] [(16, [], [17]), (18, [], [])] 117 rfl (by kernel_rfl) ?_)) | ((with_reducible refine xR ?_); refine awp_keep 9905787658939656716169610695 100 (uE 12 (mdL []) [0, 1, 2, 3, 4, 5, 6, 7, 8, 9, 10, 11] [] 117 rfl (by kernel_rfl) ?_))) <;> ((try with_reducible intro K1 hK1); simp only [go_sem, ↓reduceIte, reduceCtorEq, Nat.reduceAdd, Nat.reduceSub, Nat.reduceMul, Nat.reduceLT, Nat.reduceLeDiff, Nat.reduceEqDiff, hH0, Nat.reduceMod, Nat.reduceDiv, Nat.reducePow]; (try and_intros); all_goals first | (refine hK1 _ ?_; clear hK1 K1) | (intros; first | (with_reducible trivial) | omega | (simp_all <;> omega)) | skip)) | (with_reducible first | refine wQ ?_ | refine zS ?_ | refine zN ?_ | refine zX ?_ | refine zE ?_ | refine zF ?_ | refine zO (by decide) ?_ | refine zB ?_)))
        refine awp_cond (t := _) rfl (fun h1 => by cases h1) (fun _ => ?_)
        (repeat (first | (with_reducible first | refine wB ?_ | refine wN ?_ | refine wT ?_) | ((with_reducible refine wI ?_); refine wN ?_) | ((first | ((with_reducible refine yS ?_); refine awp_keep 9905787658939656716169610695 100 (kS ?_)) | ((with_reducible refine yR ?_); refine awp_keep 9905787658939656716169610695 100 (kR ?_)) | (with_reducible first | refine wG ?_ | refine wH ?_ | refine wM ?_ ?_) | ((with_reducible refine xR ?_); refine awp_keep 9905787658939656716169610695 100 (uE 4 (mdL []) [0, 1, 2, 3, 4, 5, 6, 7, 8, 9, 10, 11, 12, 13, 14, 15] [(16, [], [17]), (18, [], [])] 117 rfl (by kernel_rfl) ?_)) | ((with_reducible refine xR ?_); refine awp_keep 9905787658939656716169610695 100 (uE 12 (mdL []) [0, 1, 2, 3, 4, 5, 6, 7, 8, 9, 10, 11] [] 117 rfl (by kernel_rfl) ?_))) <;> ((try with_reducible intro K1 hK1); simp only [go_sem, ↓reduceIte, reduceCtorEq, Nat.reduceAdd, Nat.reduceSub, Nat.reduceMul, Nat.reduceLT, Nat.reduceLeDiff, Nat.reduceEqDiff, hH0, Nat.reduceMod, Nat.reduceDiv, Nat.reducePow]; (try and_intros); all_goals first | (refine hK1 _ ?_; clear hK1 K1) | (intros; first | (with_reducible trivial) | omega | (simp_all <;> omega)) | skip)) | (with_reducible first | refine wQ ?_ | refine zS ?_ | refine zN ?_ | refine zX ?_ | refine zE ?_ | refine zF ?_ | refine zO (by decide) ?_ | refine zB ?_)))
        refine awp_cond (t := _) rfl (fun _ => ?_) (fun h1 => by cases h1)
        have hnk : 0 < kids.length := List.length_pos_iff.2 (v3 (by omega))
        have htm := Int.tmod_lt_of_pos p (show (0 : Int) < kids.length by omega)
        have htn := Int.tmod_nonneg (kids.length : Int) hpn.1
        have hzl : az.length = kids.length := l3
        (repeat (first | (with_reducible first | refine wB ?_ | refine wN ?_ | refine wT ?_) | ((with_reducible refine wI ?_); refine wN ?_) | ((first | ((with_reducible refine yS ?_); refine awp_keep 9905787658939656716169610695 100 (kS ?_)) | ((with_reducible refine yR ?_); refine awp_keep 9905787658939656716169610695 100 (kR ?_)) | (with_reducible first | refine wG ?_ | refine wH ?_ | refine wM ?_ ?_) | ((with_reducible refine xR ?_); refine awp_keep 9905787658939656716169610695 100 (uE 4 (mdL []) [0, 1, 2, 3, 4, 5, 6, 7, 8, 9, 10, 11, 12, 13, 14, 15] [(16, [], [17]), (18, [], [])] 117 rfl (by kernel_rfl) ?_)) | ((with_reducible refine xR ?_); refine awp_keep 9905787658939656716169610695 100 (uE 12 (mdL []) [0, 1, 2, 3, 4, 5, 6, 7, 8, 9, 10, 11] [] 117 rfl (by kernel_rfl) ?_))) <;> ((try with_reducible intro K1 hK1); simp only [go_sem, ↓reduceIte, reduceCtorEq, Nat.reduceAdd, Nat.reduceSub, Nat.reduceMul, Nat.reduceLT, Nat.reduceLeDiff, Nat.reduceEqDiff, hH0, hzl, Nat.reduceMod, Nat.reduceDiv, Nat.reducePow]; (try and_intros); all_goals first | (refine hK1 _ ?_; clear hK1 K1) | (intros; first | (with_reducible trivial) | omega | (simp_all <;> omega)) | skip)) | (with_reducible first | refine wQ ?_ | refine zS ?_ | refine zN ?_ | refine zX ?_ | refine zE ?_ | refine zF ?_ | refine zO (by decide) ?_ | refine zB ?_)))
        have hix : idxL 3 p many kids.length (nextF shares p cs) = [(p.tmod kids.length).toNat] := by simp [idxL]
        refine ⟨h, .row 1 [[.v (.int .i64 (p.tmod kids.length))]] none, h, hR, hO', hfr0, .inl ⟨rfl, ?_, Hp.le.refl _⟩, rfl⟩
        rw [hix, List.map_cons, List.map_nil, encN, Int.toNat_of_nonneg htn]
        exact Weak.refl _
      · obtain ⟨tk, rfl⟩ := hkz (by omega)
        have hO' : OutAt h o k [] (out ++ if (4 : Int) = 1 then [(item, long)] else []) := by simpa using hO
        (repeat (first | (with_reducible first | refine wB ?_ | refine wN ?_ | refine wT ?_) | ((with_reducible refine wI ?_); refine wN ?_) | ((first | ((with_reducible refine yS ?_); refine awp_keep 9905787658939656716169610695 100 (kS ?_)) | ((with_reducible refine yR ?_); refine awp_keep 9905787658939656716169610695 100 (kR ?_)) | (with_reducible first | refine wG ?_ | refine wH ?_ | refine wM ?_ ?_) | ((with_reducible refine xR ?_); refine awp_keep 9905787658939656716169610695 100 (uE 4 (mdL []) [0, 1, 2, 3, 4, 5, 6, 7, 8, 9, 10, 11, 12, 13, 14, 15] [(16, [], [17]), (18, [], [])] 117 rfl (by kernel_rfl) ?_)) | ((with_reducible refine xR ?_); refine awp_keep 9905787658939656716169610695 100 (uE 12 (mdL []) [0, 1, 2, 3, 4, 5, 6, 7, 8, 9, 10, 11] [] 117 rfl (by kernel_rfl) ?_))) <;> ((try with_reducible intro K1 hK1); simp only [go_sem, ↓reduceIte, reduceCtorEq, Nat.reduceAdd, Nat.reduceSub, Nat.reduceMul, Nat.reduceLT, Nat.reduceLeDiff, Nat.reduceEqDiff, hH0, Nat.reduceMod, Nat.reduceDiv, Nat.reducePow]; (try and_intros); all_goals first | (refine hK1 _ ?_; clear hK1 K1) | (intros; first | (with_reducible trivial) | omega | (simp_all <;> omega)) | skip)) | (with_reducible first | refine wQ ?_ | refine zS ?_ | refine zN ?_ | refine zX ?_ | refine zE ?_ | refine zF ?_ | refine zO (by decide) ?_ | refine zB ?_)))
        refine awp_cond (t := _) rfl (fun h1 => by cases h1) (fun _ => ?_)
        (repeat (first | (with_reducible first | refine wB ?_ | refine wN ?_ | refine wT ?_) | ((with_reducible refine wI ?_); refine wN ?_) | ((first | ((with_reducible refine yS ?_); refine awp_keep 9905787658939656716169610695 100 (kS ?_)) | ((with_reducible refine yR ?_); refine awp_keep 9905787658939656716169610695 100 (kR ?_)) | (with_reducible first | refine wG ?_ | refine wH ?_ | refine wM ?_ ?_) | ((with_reducible refine xR ?_); refine awp_keep 9905787658939656716169610695 100 (uE 4 (mdL []) [0, 1, 2, 3, 4, 5, 6, 7, 8, 9, 10, 11, 12, 13, 14, 15] [(16, [], [17]), (18, [], [])] 117 rfl (by kernel_rfl) ?_)) | ((with_reducible refine xR ?_); refine awp_keep 9905787658939656716169610695 100 (uE 12 (mdL []) [0, 1, 2, 3, 4, 5, 6, 7, 8, 9, 10, 11] [] 117 rfl (by kernel_rfl) ?_))) <;> ((try with_reducible intro K1 hK1); simp only [go_sem, ↓reduceIte, reduceCtorEq, Nat.reduceAdd, Nat.reduceSub, Nat.reduceMul, Nat.reduceLT, Nat.reduceLeDiff, Nat.reduceEqDiff, hH0, Nat.reduceMod, Nat.reduceDiv, Nat.reducePow]; (try and_intros); all_goals first | (refine hK1 _ ?_; clear hK1 K1) | (intros; first | (with_reducible trivial) | omega | (simp_all <;> omega)) | skip)) | (with_reducible first | refine wQ ?_ | refine zS ?_ | refine zN ?_ | refine zX ?_ | refine zE ?_ | refine zF ?_ | refine zO (by decide) ?_ | refine zB ?_)))
        refine awp_cond (t := _) rfl (fun h1 => by cases h1) (fun _ => ?_)
        (repeat (first | (with_reducible first | refine wB ?_ | refine wN ?_ | refine wT ?_) | ((with_reducible refine wI ?_); refine wN ?_) | ((first | ((with_reducible refine yS ?_); refine awp_keep 9905787658939656716169610695 100 (kS ?_)) | ((with_reducible refine yR ?_); refine awp_keep 9905787658939656716169610695 100 (kR ?_)) | (with_reducible first | refine wG ?_ | refine wH ?_ | refine wM ?_ ?_) | ((with_reducible refine xR ?_); refine awp_keep 9905787658939656716169610695 100 (uE 4 (mdL []) [0, 1, 2, 3, 4, 5, 6, 7, 8, 9, 10, 11, 12, 13, 14, 15] [(16, [], [17]), (18, [], [])] 117 rfl (by kernel_rfl) ?_)) | ((with_reducible refine xR ?_); refine awp_keep 9905787658939656716169610695 100 (uE 12 (mdL []) [0, 1, 2, 3, 4, 5, 6, 7, 8, 9, 10, 11] [] 117 rfl (by kernel_rfl) ?_))) <;> ((try with_reducible intro K1 hK1); simp only [go_sem, ↓reduceIte, reduceCtorEq, Nat.reduceAdd, Nat.reduceSub, Nat.reduceMul, Nat.reduceLT, Nat.reduceLeDiff, Nat.reduceEqDiff, hH0, Nat.reduceMod, Nat.reduceDiv, Nat.reducePow]; (try and_intros); all_goals first | (refine hK1 _ ?_; clear hK1 K1) | (intros; first | (with_reducible trivial) | omega | (simp_all <;> omega)) | skip)) | (with_reducible first | refine wQ ?_ | refine zS ?_ | refine zN ?_ | refine zX ?_ | refine zE ?_ | refine zF ?_ | refine zO (by decide) ?_ | refine zB ?_)))
        refine awp_cond (t := _) rfl (fun h1 => by cases h1) (fun _ => ?_)
        (repeat (first | (with_reducible first | refine wB ?_ | refine wN ?_ | refine wT ?_) | ((with_reducible refine wI ?_); refine wN ?_) | ((first | ((with_reducible refine yS ?_); refine awp_keep 9905787658939656716169610695 100 (kS ?_)) | ((with_reducible refine yR ?_); refine awp_keep 9905787658939656716169610695 100 (kR ?_)) | (with_reducible first | refine wG ?_ | refine wH ?_ | refine wM ?_ ?_) | ((with_reducible refine xR ?_); refine awp_keep 9905787658939656716169610695 100 (uE 4 (mdL []) [0, 1, 2, 3, 4, 5, 6, 7, 8, 9, 10, 11, 12, 13, 14, 15] [(16, [], [17]), (18, [], [])] 117 rfl (by kernel_rfl) ?_)) | ((with_reducible refine xR ?_); refine awp_keep 9905787658939656716169610695 100 (uE 12 (mdL []) [0, 1, 2, 3, 4, 5, 6, 7, 8, 9, 10, 11] [] 117 rfl (by kernel_rfl) ?_))) <;> ((try with_reducible intro K1 hK1); simp only [go_sem, ↓reduceIte, reduceCtorEq, Nat.reduceAdd, Nat.reduceSub, Nat.reduceMul, Nat.reduceLT, Nat.reduceLeDiff, Nat.reduceEqDiff, hH0, Nat.reduceMod, Nat.reduceDiv, Nat.reducePow]; (try and_intros); all_goals first | (refine hK1 _ ?_; clear hK1 K1) | (intros; first | (with_reducible trivial) | omega | (simp_all <;> omega)) | skip)) | (with_reducible first | refine wQ ?_ | refine zS ?_ | refine zN ?_ | refine zX ?_ | refine zE ?_ | refine zF ?_ | refine zO (by decide) ?_ | refine zB ?_)))
        refine awp_cond (t := _) rfl (fun _ => ?_) (fun h1 => by cases h1)
        have hsl := v5 rfl
        rw [← hsl] at hH0
        (repeat (first | (with_reducible first | refine wB ?_ | refine wN ?_ | refine wT ?_) | ((with_reducible refine wI ?_); refine wN ?_) | ((first | ((with_reducible refine yS ?_); refine awp_keep 9905787658939656716169610695 100 (kS ?_)) | ((with_reducible refine yR ?_); refine awp_keep 9905787658939656716169610695 100 (kR ?_)) | (with_reducible first | refine wG ?_ | refine wH ?_ | refine wM ?_ ?_) | ((with_reducible refine xR ?_); refine awp_keep 9905787658939656716169610695 100 (uE 4 (mdL []) [0, 1, 2, 3, 4, 5, 6, 7, 8, 9, 10, 11, 12, 13, 14, 15] [(16, [], [17]), (18, [], [])] 117 rfl (by kernel_rfl) ?_)) | ((with_reducible refine xR ?_); refine awp_keep 9905787658939656716169610695 100 (uE 12 (mdL []) [0, 1, 2, 3, 4, 5, 6, 7, 8, 9, 10, 11] [] 117 rfl (by kernel_rfl) ?_))) <;> ((try with_reducible intro K1 hK1); simp only [go_sem, ↓reduceIte, reduceCtorEq, Nat.reduceAdd, Nat.reduceSub, Nat.reduceMul, Nat.reduceLT, Nat.reduceLeDiff, Nat.reduceEqDiff, hH0, Nat.reduceMod, Nat.reduceDiv, Nat.reducePow]; (try and_intros); all_goals first | (refine hK1 _ ?_; clear hK1 K1) | (intros; first | (with_reducible trivial) | omega | (simp_all <;> omega)) | skip)) | (with_reducible first | refine wQ ?_ | refine zS ?_ | refine zN ?_ | refine zX ?_ | refine zE ?_ | refine zF ?_ | refine zO (by decide) ?_ | refine zB ?_)))
        refine (g_next46 4 item long many (.row 6 (kids.map encL) none) shares (.row 1 (az.map fun a => [.ptr a.id 0]) tk) p i c0 cs h hH0 hT0 (by omega) (by omega) v6 (by omega) hcn).mono ?_; rintro _ hz ⟨rfl, hh⟩; refine hK1 _ ?_; clear hK1 K1; rw [hh]; clear hh hz
        (repeat (first | (with_reducible first | refine wB ?_ | refine wN ?_ | refine wT ?_) | ((with_reducible refine wI ?_); refine wN ?_) | ((first | ((with_reducible refine yS ?_); refine awp_keep 9905787658939656716169610695 100 (kS ?_)) | ((with_reducible refine yR ?_); refine awp_keep 9905787658939656716169610695 100 (kR ?_)) | (with_reducible first | refine wG ?_ | refine wH ?_ | refine wM ?_ ?_) | ((with_reducible refine xR ?_); refine awp_keep 9905787658939656716169610695 100 (uE 4 (mdL []) [0, 1, 2, 3, 4, 5, 6, 7, 8, 9, 10, 11, 12, 13, 14, 15] [(16, [], [17]), (18, [], [])] 117 rfl (by kernel_rfl) ?_)) | ((with_reducible refine xR ?_); refine awp_keep 9905787658939656716169610695 100 (uE 12 (mdL []) [0, 1, 2, 3, 4, 5, 6, 7, 8, 9, 10, 11] [] 117 rfl (by kernel_rfl) ?_))) <;> ((try with_reducible intro K1 hK1); simp only [go_sem, ↓reduceIte, reduceCtorEq, Nat.reduceAdd, Nat.reduceSub, Nat.reduceMul, Nat.reduceLT, Nat.reduceLeDiff, Nat.reduceEqDiff, Nat.reduceMod, Nat.reduceDiv, Nat.reducePow]; (try and_intros); all_goals first | (refine hK1 _ ?_; clear hK1 K1) | (intros; first | (with_reducible trivial) | omega | (simp_all <;> omega)) | skip)) | (with_reducible first | refine wQ ?_ | refine zS ?_ | refine zN ?_ | refine zX ?_ | refine zE ?_ | refine zF ?_ | refine zO (by decide) ?_ | refine zB ?_)))
        have hix : idxL 4 p many kids.length (nextF shares p cs) = [nextF shares p cs] := by simp [idxL]
        exact ⟨h, .row 1 [[.v (.int .i64 (nextF shares p cs))]] none, h, hR, hO', hfr0, .inl ⟨rfl, by rw [hix]; exact Weak.refl _, Hp.le.refl _⟩, rfl⟩
      · obtain ⟨tk, rfl⟩ := hkz (by omega)
        have hO' : OutAt h o k [] (out ++ if (5 : Int) = 1 then [(item, long)] else []) := by simpa using hO
        (repeat (first | (with_reducible first | refine wB ?_ | refine wN ?_ | refine wT ?_) | ((with_reducible refine wI ?_); refine wN ?_) | ((first | ((with_reducible refine yS ?_); refine awp_keep 9905787658939656716169610695 100 (kS ?_)) | ((with_reducible refine yR ?_); refine awp_keep 9905787658939656716169610695 100 (kR ?_)) | (with_reducible first | refine wG ?_ | refine wH ?_ | refine wM ?_ ?_) | ((with_reducible refine xR ?_); refine awp_keep 9905787658939656716169610695 100 (uE 4 (mdL []) [0, 1, 2, 3, 4, 5, 6, 7, 8, 9, 10, 11, 12, 13, 14, 15] [(16, [], [17]), (18, [], [])] 117 rfl (by kernel_rfl) ?_)) | ((with_reducible refine xR ?_); refine awp_keep 9905787658939656716169610695 100 (uE 12 (mdL []) [0, 1, 2, 3, 4, 5, 6, 7, 8, 9, 10, 11] [] 117 rfl (by kernel_rfl) ?_))) <;> ((try with_reducible intro K1 hK1); simp only [go_sem, ↓reduceIte, reduceCtorEq, Nat.reduceAdd, Nat.reduceSub, Nat.reduceMul, Nat.reduceLT, Nat.reduceLeDiff, Nat.reduceEqDiff, hH0, Nat.reduceMod, Nat.reduceDiv, Nat.reducePow]; (try and_intros); all_goals first | (refine hK1 _ ?_; clear hK1 K1) | (intros; first | (with_reducible trivial) | omega | (simp_all <;> omega)) | skip)) | (with_reducible first | refine wQ ?_ | refine zS ?_ | refine zN ?_ | refine zX ?_ | refine zE ?_ | refine zF ?_ | refine zO (by decide) ?_ | refine zB ?_)))
        refine awp_cond (t := _) rfl (fun h1 => by cases h1) (fun _ => ?_)
        (repeat (first | (with_reducible first | refine wB ?_ | refine wN ?_ | refine wT ?_) | ((with_reducible refine wI ?_); refine wN ?_) | ((first | ((with_reducible refine yS ?_); refine awp_keep 9905787658939656716169610695 100 (kS ?_)) | ((with_reducible refine yR ?_); refine awp_keep 9905787658939656716169610695 100 (kR ?_)) | (with_reducible first | refine wG ?_ | refine wH ?_ | refine wM ?_ ?_) | ((with_reducible refine xR ?_); refine awp_keep 9905787658939656716169610695 100 (uE 4 (mdL []) [0, 1, 2, 3, 4, 5, 6, 7, 8, 9, 10, 11, 12, 13, 14, 15] [(16, [], [17]), (18, [], [])] 117 rfl (by kernel_rfl) ?_)) | ((with_reducible refine xR ?_); refine awp_keep 9905787658939656716169610695 100 (uE 12 (mdL []) [0, 1, 2, 3, 4, 5, 6, 7, 8, 9, 10, 11] [] 117 rfl (by kernel_rfl) ?_))) <;> ((try with_reducible intro K1 hK1); simp only [go_sem, ↓reduceIte, reduceCtorEq, Nat.reduceAdd, Nat.reduceSub, Nat.reduceMul, Nat.reduceLT, Nat.reduceLeDiff, Nat.reduceEqDiff, hH0, Nat.reduceMod, Nat.reduceDiv, Nat.reducePow]; (try and_intros); all_goals first | (refine hK1 _ ?_; clear hK1 K1) | (intros; first | (with_reducible trivial) | omega | (simp_all <;> omega)) | skip)) | (with_reducible first | refine wQ ?_ | refine zS ?_ | refine zN ?_ | refine zX ?_ | refine zE ?_ | refine zF ?_ | refine zO (by decide) ?_ | refine zB ?_)))
        refine awp_cond (t := _) rfl (fun h1 => by cases h1) (fun _ => ?_)
        (repeat (first | (with_reducible first | refine wB ?_ | refine wN ?_ | refine wT ?_) | ((with_reducible refine wI ?_); refine wN ?_) | ((first | ((with_reducible refine yS ?_); refine awp_keep 9905787658939656716169610695 100 (kS ?_)) | ((with_reducible refine yR ?_); refine awp_keep 9905787658939656716169610695 100 (kR ?_)) | (with_reducible first | refine wG ?_ | refine wH ?_ | refine wM ?_ ?_) | ((with_reducible refine xR ?_); refine awp_keep 9905787658939656716169610695 100 (uE 4 (mdL []) [0, 1, 2, 3, 4, 5, 6, 7, 8, 9, 10, 11, 12, 13, 14, 15] [(16, [], [17]), (18, [], [])] 117 rfl (by kernel_rfl) ?_)) | ((with_reducible refine xR ?_); refine awp_keep 9905787658939656716169610695 100 (uE 12 (mdL []) [0, 1, 2, 3, 4, 5, 6, 7, 8, 9, 10, 11] [] 117 rfl (by kernel_rfl) ?_))) <;> ((try with_reducible intro K1 hK1); simp only [go_sem, ↓reduceIte, reduceCtorEq, Nat.reduceAdd, Nat.reduceSub, Nat.reduceMul, Nat.reduceLT, Nat.reduceLeDiff, Nat.reduceEqDiff, hH0, Nat.reduceMod, Nat.reduceDiv, Nat.reducePow]; (try and_intros); all_goals first | (refine hK1 _ ?_; clear hK1 K1) | (intros; first | (with_reducible trivial) | omega | (simp_all <;> omega)) | skip)) | (with_reducible first | refine wQ ?_ | refine zS ?_ | refine zN ?_ | refine zX ?_ | refine zE ?_ | refine zF ?_ | refine zO (by decide) ?_ | refine zB ?_)))
        refine awp_cond (t := _) rfl (fun h1 => by cases h1) (fun _ => ?_)
        (repeat (first | (with_reducible first | refine wB ?_ | refine wN ?_ | refine wT ?_) | ((with_reducible refine wI ?_); refine wN ?_) | ((first | ((with_reducible refine yS ?_); refine awp_keep 9905787658939656716169610695 100 (kS ?_)) | ((with_reducible refine yR ?_); refine awp_keep 9905787658939656716169610695 100 (kR ?_)) | (with_reducible first | refine wG ?_ | refine wH ?_ | refine wM ?_ ?_) | ((with_reducible refine xR ?_); refine awp_keep 9905787658939656716169610695 100 (uE 4 (mdL []) [0, 1, 2, 3, 4, 5, 6, 7, 8, 9, 10, 11, 12, 13, 14, 15] [(16, [], [17]), (18, [], [])] 117 rfl (by kernel_rfl) ?_)) | ((with_reducible refine xR ?_); refine awp_keep 9905787658939656716169610695 100 (uE 12 (mdL []) [0, 1, 2, 3, 4, 5, 6, 7, 8, 9, 10, 11] [] 117 rfl (by kernel_rfl) ?_))) <;> ((try with_reducible intro K1 hK1); simp only [go_sem, ↓reduceIte, reduceCtorEq, Nat.reduceAdd, Nat.reduceSub, Nat.reduceMul, Nat.reduceLT, Nat.reduceLeDiff, Nat.reduceEqDiff, hH0, Nat.reduceMod, Nat.reduceDiv, Nat.reducePow]; (try and_intros); all_goals first | (refine hK1 _ ?_; clear hK1 K1) | (intros; first | (with_reducible trivial) | omega | (simp_all <;> omega)) | skip)) | (with_reducible first | refine wQ ?_ | refine zS ?_ | refine zN ?_ | refine zX ?_ | refine zE ?_ | refine zF ?_ | refine zO (by decide) ?_ | refine zB ?_)))
        refine awp_cond (t := _) rfl (fun h1 => by cases h1) (fun _ => ?_)
        (repeat (first | (with_reducible first | refine wB ?_ | refine wN ?_ | refine wT ?_) | ((with_reducible refine wI ?_); refine wN ?_) | ((first | ((with_reducible refine yS ?_); refine awp_keep 9905787658939656716169610695 100 (kS ?_)) | ((with_reducible refine yR ?_); refine awp_keep 9905787658939656716169610695 100 (kR ?_)) | (with_reducible first | refine wG ?_ | refine wH ?_ | refine wM ?_ ?_) | ((with_reducible refine xR ?_); refine awp_keep 9905787658939656716169610695 100 (uE 4 (mdL []) [0, 1, 2, 3, 4, 5, 6, 7, 8, 9, 10, 11, 12, 13, 14, 15] [(16, [], [17]), (18, [], [])] 117 rfl (by kernel_rfl) ?_)) | ((with_reducible refine xR ?_); refine awp_keep 9905787658939656716169610695 100 (uE 12 (mdL []) [0, 1, 2, 3, 4, 5, 6, 7, 8, 9, 10, 11] [] 117 rfl (by kernel_rfl) ?_))) <;> ((try with_reducible intro K1 hK1); simp only [go_sem, ↓reduceIte, reduceCtorEq, Nat.reduceAdd, Nat.reduceSub, Nat.reduceMul, Nat.reduceLT, Nat.reduceLeDiff, Nat.reduceEqDiff, hH0, Nat.reduceMod, Nat.reduceDiv, Nat.reducePow]; (try and_intros); all_goals first | (refine hK1 _ ?_; clear hK1 K1) | (intros; first | (with_reducible trivial) | omega | (simp_all <;> omega)) | skip)) | (with_reducible first | refine wQ ?_ | refine zS ?_ | refine zN ?_ | refine zX ?_ | refine zE ?_ | refine zF ?_ | refine zO (by decide) ?_ | refine zB ?_)))
        refine awp_cond (t := _) rfl (fun _ => ?_) (fun h1 => by cases h1)
        have hm5 := v4 rfl
        (repeat (first | (with_reducible first | refine wB ?_ | refine wN ?_ | refine wT ?_) | ((with_reducible refine wI ?_); refine wN ?_) | ((first | ((with_reducible refine yS ?_); refine awp_keep 9905787658939656716169610695 100 (kS ?_)) | ((with_reducible refine yR ?_); refine awp_keep 9905787658939656716169610695 100 (kR ?_)) | (with_reducible first | refine wG ?_ | refine wH ?_ | refine wM ?_ ?_) | ((with_reducible refine xR ?_); refine awp_keep 9905787658939656716169610695 100 (uE 4 (mdL []) [0, 1, 2, 3, 4, 5, 6, 7, 8, 9, 10, 11, 12, 13, 14, 15] [(16, [], [17]), (18, [], [])] 117 rfl (by kernel_rfl) ?_)) | ((with_reducible refine xR ?_); refine awp_keep 9905787658939656716169610695 100 (uE 12 (mdL []) [0, 1, 2, 3, 4, 5, 6, 7, 8, 9, 10, 11] [] 117 rfl (by kernel_rfl) ?_))) <;> ((try with_reducible intro K1 hK1); simp only [go_sem, ↓reduceIte, reduceCtorEq, Nat.reduceAdd, Nat.reduceSub, Nat.reduceMul, Nat.reduceLT, Nat.reduceLeDiff, Nat.reduceEqDiff, hH0, Nat.reduceMod, Nat.reduceDiv, Nat.reducePow]; (try and_intros); all_goals first | (refine hK1 _ ?_; clear hK1 K1) | (intros; first | (with_reducible trivial) | omega | (simp_all <;> omega)) | skip)) | (with_reducible first | refine wQ ?_ | refine zS ?_ | refine zN ?_ | refine zX ?_ | refine zE ?_ | refine zF ?_ | refine zO (by decide) ?_ | refine zB ?_)))
        intro q hq
        refine hK1 _ ?_; clear hK1 K1
        (repeat (first | (with_reducible first | refine wB ?_ | refine wN ?_ | refine wT ?_) | ((with_reducible refine wI ?_); refine wN ?_) | ((first | ((with_reducible refine yS ?_); refine awp_keep 9905787658939656716169610695 100 (kS ?_)) | ((with_reducible refine yR ?_); refine awp_keep 9905787658939656716169610695 100 (kR ?_)) | (with_reducible first | refine wG ?_ | refine wH ?_ | refine wM ?_ ?_) | ((with_reducible refine xR ?_); refine awp_keep 9905787658939656716169610695 100 (uE 4 (mdL []) [0, 1, 2, 3, 4, 5, 6, 7, 8, 9, 10, 11, 12, 13, 14, 15] [(16, [], [17]), (18, [], [])] 117 rfl (by kernel_rfl) ?_)) | ((with_reducible refine xR ?_); refine awp_keep 9905787658939656716169610695 100 (uE 12 (mdL []) [0, 1, 2, 3, 4, 5, 6, 7, 8, 9, 10, 11] [] 117 rfl (by kernel_rfl) ?_))) <;> ((try with_reducible intro K1 hK1); simp only [go_sem, ↓reduceIte, reduceCtorEq, Nat.reduceAdd, Nat.reduceSub, Nat.reduceMul, Nat.reduceLT, Nat.reduceLeDiff, Nat.reduceEqDiff, hH0, Nat.reduceMod, Nat.reduceDiv, Nat.reducePow]; (try and_intros); all_goals first | (refine hK1 _ ?_; clear hK1 K1) | (intros; first | (with_reducible trivial) | omega | (simp_all <;> omega)) | skip)) | (with_reducible first | refine wQ ?_ | refine zS ?_ | refine zN ?_ | refine zX ?_ | refine zE ?_ | refine zF ?_ | refine zO (by decide) ?_ | refine zB ?_)))
        have hix : idxL 5 p many kids.length (nextF shares p cs) = List.replicate many.toNat 0 := by simp [idxL]
        refine ⟨h, .arr 1 q many.toNat, _, hR, hO', hfr0, .inr ⟨q, by rw [hix, List.length_replicate], hq, rfl⟩, ?_⟩
        rw [hix, List.map_replicate]; rfl
    · rintro _ ⟨hb, v, h1, hRb, hOb, hFb, hv7, rfl⟩
      have hidx := idxL_lt (many := many) (nx := nextF shares p cs) v1 (fun h => List.length_pos_iff.2 (v3 h)) (fun h4 => by rw [← v5 h4]; exact bestTo_lt _ _ (by rw [v5 h4]; exact List.length_pos_iff.2 (v3 (by omega)))) hpn.1
      have hLn : (idxL kind p many kids.length (nextF shares p cs)).length ≤ 100 := by
        unfold idxL
        split
        · simp
        · split
          · simp; omega
          · split
            · simp
            · split
              · simp
              · have := v4 (by omega); simp; omega
      have hL1 : (idxL kind p many kids.length (nextF shares p cs)).length ≠ 0 → kind ≠ 1 := fun h hk => h (by unfold idxL; rw [if_pos hk]; rfl)
      have hPS := passU_succ d kind item long many kids shares p cs ks
      generalize idxL kind p many kids.length (nextF shares p cs) = L at *
      have hzl : ∀ y ∈ L.map encN, y.length = 1 := fun y hy => by obtain ⟨x, _, rfl⟩ := List.mem_map.1 hy; rfl
      refine awp_via (fun s => s = ⟨((.ptr i 0) :: (.ptr o 0) :: (.v (.int .i64 5000)) :: (jnk 4 ((.row 1 (L.map encN) none) :: (jnk 109 [])))), [], hb⟩) ?_ ?_
      rotate_left
      · intro main
        rcases hv7 with ⟨hn, hw, hle⟩ | ⟨q, rfl, hq, rfl⟩
        · exact awp_less hle (awp_weakS 7 rfl hn hw (main _ rfl))
        · refine awp_frz 7 q 1 (xs := L.map encN) (by rw [List.length_map]; rfl) (upd_same _ _ _) hzl (main _ ?_)
          simp only [upd_none hq]
          rfl
      rintro _ rfl
      clear hv7 h1 v
      (repeat (first | (with_reducible first | refine wB ?_ | refine wN ?_ | refine wT ?_) | ((with_reducible refine wI ?_); refine wN ?_) | ((first | ((with_reducible refine yS ?_); refine awp_keep 9905787658939656716169610695 100 (kS ?_)) | ((with_reducible refine yR ?_); refine awp_keep 9905787658939656716169610695 100 (kR ?_)) | (with_reducible first | refine wG ?_ | refine wH ?_ | refine wM ?_ ?_) | ((with_reducible refine xR ?_); refine awp_keep 9905787658939656716169610695 100 (uE 4 (mdL []) [0, 1, 2, 3, 4, 5, 6, 7, 8, 9, 10, 11, 12, 13, 14, 15] [(16, [], [17]), (18, [], [])] 117 rfl (by kernel_rfl) ?_)) | ((with_reducible refine xR ?_); refine awp_keep 9905787658939656716169610695 100 (uE 12 (mdL []) [0, 1, 2, 3, 4, 5, 6, 7, 8, 9, 10, 11] [] 117 rfl (by kernel_rfl) ?_))) <;> ((try with_reducible intro K1 hK1); simp only [go_sem, ↓reduceIte, reduceCtorEq, Nat.reduceAdd, Nat.reduceSub, Nat.reduceMul, Nat.reduceLT, Nat.reduceLeDiff, Nat.reduceEqDiff, Nat.reduceMod, Nat.reduceDiv, Nat.reducePow]; (try and_intros); all_goals first | (refine hK1 _ ?_; clear hK1 K1) | (intros; first | (with_reducible trivial) | omega | (simp_all <;> omega)) | skip)) | (with_reducible first | refine zS ?_ | refine zN ?_ | refine zX ?_ | refine zE ?_ | refine zF ?_ | refine zO (by decide) ?_ | refine zB ?_)))
      refine awp_seq ?_
      (repeat (first | (with_reducible first | refine wB ?_ | refine wN ?_ | refine wT ?_) | ((with_reducible refine wI ?_); refine wN ?_) | ((first | ((with_reducible refine yS ?_); refine awp_keep 9905787658939656716169610695 100 (kS ?_)) | ((with_reducible refine yR ?_); refine awp_keep 9905787658939656716169610695 100 (kR ?_)) | (with_reducible first | refine wG ?_ | refine wH ?_ | refine wM ?_ ?_) | ((with_reducible refine xR ?_); refine awp_keep 9905787658939656716169610695 100 (uE 4 (mdL []) [0, 1, 2, 3, 4, 5, 6, 7, 8, 9, 10, 11, 12, 13, 14, 15] [(16, [], [17]), (18, [], [])] 117 rfl (by kernel_rfl) ?_)) | ((with_reducible refine xR ?_); refine awp_keep 9905787658939656716169610695 100 (uE 12 (mdL []) [0, 1, 2, 3, 4, 5, 6, 7, 8, 9, 10, 11] [] 117 rfl (by kernel_rfl) ?_))) <;> ((try with_reducible intro K1 hK1); simp only [go_sem, ↓reduceIte, reduceCtorEq, Nat.reduceAdd, Nat.reduceSub, Nat.reduceMul, Nat.reduceLT, Nat.reduceLeDiff, Nat.reduceEqDiff, Nat.reduceMod, Nat.reduceDiv, Nat.reducePow]; (try and_intros); all_goals first | (refine hK1 _ ?_; clear hK1 K1) | (intros; first | (with_reducible trivial) | omega | (simp_all <;> omega)) | skip)) | (with_reducible first | refine wQ ?_ | refine zS ?_ | refine zN ?_ | refine zX ?_ | refine zE ?_ | refine zF ?_ | refine zO (by decide) ?_ | refine zB ?_)))
      refine awp_loopC (rl false [0, 3, 74, 3, 37]) 0 (fun g s => ∃ (j : Nat) (h1 : Hp) (acc : (List Int × List PS) × List (ByteArray × Int)), g + j = L.length ∧ acc = (L.take j).foldl (stepU (passU d) kids) ((cs, ks), if kind = 1 then [(item, long)] else []) ∧
        RAt XR h1 (d + 1) (.mk kind item long many kids shares) (.mk i c0 az) (.mk p acc.1.1 acc.1.2) ∧ OutAt h1 o k [] (out ++ acc.2) ∧ FrP (.mk i c0 az) o k h h1 ∧ FOk d kids (out.length + acc.2.length) acc.1 ∧ (L.length ≠ 0 → out.length + acc.2.length ≤ 5000) ∧ out.length + acc.2.length ≤ 5001 ∧
        s = ⟨((.ptr i 0) :: (.ptr o 0) :: (.v (.int .i64 5000)) :: (jnk 74 ((.row 1 (L.map encN) none) :: (.v (.int .i64 L.length)) :: (.v (.int .i64 j)) :: (jnk 37 [])))), [], h1⟩) L.length ⟨0, hb, ((cs, ks), if kind = 1 then [(item, long)] else []), by omega, rfl, hRb, hOb, hFb, ⟨⟨l2, l4⟩, fun x hx => ?_, fun j hj => (hB.2.2 j hj).mono ?_⟩, fun h => ?_, ?_, rfl⟩ ?_
      · have := hB.2.1 x hx; simp only []; omega
      · simp only []; omega
      · rw [if_neg (hL1 h)]; simp; omega
      · simp only []; split <;> simp <;> omega
      rintro g _ ⟨j, h1, acc, hj, hacc, hR1, hO1', hF1, hFk, hl5, hl6, rfl⟩
      (repeat (first | (with_reducible first | refine wB ?_ | refine wN ?_ | refine wT ?_) | ((with_reducible refine wI ?_); refine wN ?_) | ((first | ((with_reducible refine yS ?_); refine awp_keep 9905787658939656716169610695 100 (kS ?_)) | ((with_reducible refine yR ?_); refine awp_keep 9905787658939656716169610695 100 (kR ?_)) | (with_reducible first | refine wG ?_ | refine wH ?_ | refine wM ?_ ?_) | ((with_reducible refine xR ?_); refine awp_keep 9905787658939656716169610695 100 (uE 4 (mdL []) [0, 1, 2, 3, 4, 5, 6, 7, 8, 9, 10, 11, 12, 13, 14, 15] [(16, [], [17]), (18, [], [])] 117 rfl (by kernel_rfl) ?_)) | ((with_reducible refine xR ?_); refine awp_keep 9905787658939656716169610695 100 (uE 12 (mdL []) [0, 1, 2, 3, 4, 5, 6, 7, 8, 9, 10, 11] [] 117 rfl (by kernel_rfl) ?_))) <;> ((try with_reducible intro K1 hK1); simp only [go_sem, ↓reduceIte, reduceCtorEq, Nat.reduceAdd, Nat.reduceSub, Nat.reduceMul, Nat.reduceLT, Nat.reduceLeDiff, Nat.reduceEqDiff, Nat.reduceMod, Nat.reduceDiv, Nat.reducePow]; (try and_intros); all_goals first | (refine hK1 _ ?_; clear hK1 K1) | (intros; first | (with_reducible trivial) | omega | (simp_all <;> omega)) | skip)) | (with_reducible first | refine wQ ?_ | refine zS ?_ | refine zN ?_ | refine zX ?_ | refine zE ?_ | refine zF ?_ | refine zO (by decide) ?_ | refine zB ?_)))
      refine awp_cond (t := _) rfl (fun h2 => ?_) (fun h2 => ?_)
      · simp only [decide_eq_true_eq] at h2
        have hjL : j < L.length := by omega
        have hgL : (L.map encN).getD j [] = encN (L.getD j 0) := getD_enc encN L j 0 hjL
        have hx := hidx _ (getD_mem' L j 0 hjL)
        have hsplit : L.take (j + 1) = L.take j ++ [L.getD j 0] := by rw [List.take_add_one, List.getD_eq_getElem?_getD, List.getElem?_eq_getElem hjL]; rfl
        generalize L.getD j 0 = x at hgL hx hsplit
        obtain ⟨⟨K1', hH1, hK1'⟩, hT1, ⟨m1, m2, m3, m4⟩, hk1⟩ := id hR1
        obtain ⟨tk, rfl⟩ : ∃ tk, K1' = .row 1 (az.map fun a => [.ptr a.id 0]) tk := by
          rcases hK1' with ⟨rfl, _⟩ | h9
          · simp at m3; omega
          · exact h9
        have hH10 : h1.H i = some (.cells [.v (.int .i64 kind), .v (.string item), .v (.int .i64 long), .v (.int .i64 many), .row 6 (kids.map encL) none, .row 1 (shares.map encI) none, .row 1 (az.map fun a => [.ptr a.id 0]) tk, .v (.int .i64 p), .arr 1 c0 kids.length]) := hH1
        have hgz : (az.map fun a : AT => [AV.ptr a.id 0]).getD x [] = [.ptr (az.getD x default).id 0] := getD_enc (fun a : AT => [AV.ptr a.id 0]) az x default (by omega)
        have ho5 := hl5 (by omega)
        have hSx := hS x (by omega)
        (repeat (first | (with_reducible first | refine wB ?_ | refine wN ?_ | refine wT ?_) | ((with_reducible refine wI ?_); refine wN ?_) | ((first | ((with_reducible refine yS ?_); refine awp_keep 9905787658939656716169610695 100 (kS ?_)) | ((with_reducible refine yR ?_); refine awp_keep 9905787658939656716169610695 100 (kR ?_)) | (with_reducible first | refine wG ?_ | refine wH ?_ | refine wM ?_ ?_) | ((with_reducible refine xR ?_); refine awp_keep 9905787658939656716169610695 100 (uE 4 (mdL []) [0, 1, 2, 3, 4, 5, 6, 7, 8, 9, 10, 11, 12, 13, 14, 15] [(16, [], [17]), (18, [], [])] 117 rfl (by kernel_rfl) ?_)) | ((with_reducible refine xR ?_); refine awp_keep 9905787658939656716169610695 100 (uE 12 (mdL []) [0, 1, 2, 3, 4, 5, 6, 7, 8, 9, 10, 11] [] 117 rfl (by kernel_rfl) ?_))) <;> ((try with_reducible intro K1 hK1); simp only [go_sem, ↓reduceIte, reduceCtorEq, Nat.reduceAdd, Nat.reduceSub, Nat.reduceMul, Nat.reduceLT, Nat.reduceLeDiff, Nat.reduceEqDiff, Int.toNat_natCast, hgL, encN, hH10, hgz, m3, Nat.reduceMod, Nat.reduceDiv, Nat.reducePow]; (try and_intros); all_goals first | (refine hK1 _ ?_; clear hK1 K1) | (intros; first | (with_reducible trivial) | omega | (simp_all <;> omega)) | skip)) | (with_reducible first | refine wQ ?_ | refine zS ?_ | refine zN ?_ | refine zX ?_ | refine zE ?_ | refine zF ?_ | refine zO (by decide) ?_ | refine zB ?_)))
        refine (g_passR d (kids.getD x default) (az.getD x default) (acc.1.2.getD x default) h1 o k (out ++ acc.2) (v8 _ (getD_mem' kids x default hx)) (hk1 x hx) hSx.1.2.2 (by rw [List.length_append]; exact_mod_cast hFk.2.2 x hx) hO1' (fun h => ho (idsT_kid (by omega) h)) (by rw [List.length_append]; exact ho5)).mono ?_
        intro r h3 hres
        have hpo := passU_ok d (kids.getD x default) (acc.1.2.getD x default) (out.length + acc.2.length) (v8 _ (getD_mem' kids x default hx)) (hk1 x hx).fits (by omega) (hFk.2.2 x hx)
        unfold PRes at hres
        split at hres
        · rename_i hle
          obtain ⟨rfl, hR3, hO3, hF3⟩ := hres
          have hkt1 := hR1.tokNe hO1'.2
          have hoi : i ≠ o := fun e => ho (by rw [idsT_eq, e]; simp)
          have hck : c0 ≠ k := fun e => hkt1 (by rw [toksT_eq, e]; simp)
          have hH3 := (hF3.1 i hSx.1.1 hoi).trans hH10
          have hT3 : h3.T c0 = some (.cont 1 (acc.1.1.map encI)) := (hF3.2 c0 hSx.1.2.1 hck).trans hT1
          have hgc : (acc.1.1.map encI).getD x [] = encI (acc.1.1.getD x 0) := getD_enc encI acc.1.1 x 0 (by omega)
          have hcb := hFk.2.1 _ (getD_mem' acc.1.1 x 0 (by omega))
          refine hK1 _ ?_; clear hK1 K1
          (repeat (first | (with_reducible first | refine wB ?_ | refine wN ?_ | refine wT ?_) | ((with_reducible refine wI ?_); refine wN ?_) | ((first | ((with_reducible refine yS ?_); refine awp_keep 9905787658939656716169610695 100 (kS ?_)) | ((with_reducible refine yR ?_); refine awp_keep 9905787658939656716169610695 100 (kR ?_)) | (with_reducible first | refine wG ?_ | refine wH ?_ | refine wM ?_ ?_) | ((with_reducible refine xR ?_); refine awp_keep 9905787658939656716169610695 100 (uE 4 (mdL []) [0, 1, 2, 3, 4, 5, 6, 7, 8, 9, 10, 11, 12, 13, 14, 15] [(16, [], [17]), (18, [], [])] 117 rfl (by kernel_rfl) ?_)) | ((with_reducible refine xR ?_); refine awp_keep 9905787658939656716169610695 100 (uE 12 (mdL []) [0, 1, 2, 3, 4, 5, 6, 7, 8, 9, 10, 11] [] 117 rfl (by kernel_rfl) ?_))) <;> ((try with_reducible intro K1 hK1); simp only [go_sem, ↓reduceIte, reduceCtorEq, Nat.reduceAdd, Nat.reduceSub, Nat.reduceMul, Nat.reduceLT, Nat.reduceLeDiff, Nat.reduceEqDiff, Nat.reduceMod, Nat.reduceDiv, Nat.reducePow]; (try and_intros); all_goals first | (refine hK1 _ ?_; clear hK1 K1) | (intros; first | (with_reducible trivial) | omega | (simp_all <;> omega)) | skip)) | (with_reducible first | refine wQ ?_ | refine zS ?_ | refine zN ?_ | refine zX ?_ | refine zE ?_ | refine zF ?_ | refine zO (by decide) ?_ | refine zB ?_)))
          refine awp_cond (t := _) rfl (fun h => by cases h) (fun _ => ?_)
          (repeat (first | (with_reducible first | refine wB ?_ | refine wN ?_ | refine wT ?_) | ((with_reducible refine wI ?_); refine wN ?_) | ((first | ((with_reducible refine yS ?_); refine awp_keep 9905787658939656716169610695 100 (kS ?_)) | ((with_reducible refine yR ?_); refine awp_keep 9905787658939656716169610695 100 (kR ?_)) | (with_reducible first | refine wG ?_ | refine wH ?_ | refine wM ?_ ?_) | ((with_reducible refine xR ?_); refine awp_keep 9905787658939656716169610695 100 (uE 4 (mdL []) [0, 1, 2, 3, 4, 5, 6, 7, 8, 9, 10, 11, 12, 13, 14, 15] [(16, [], [17]), (18, [], [])] 117 rfl (by kernel_rfl) ?_)) | ((with_reducible refine xR ?_); refine awp_keep 9905787658939656716169610695 100 (uE 12 (mdL []) [0, 1, 2, 3, 4, 5, 6, 7, 8, 9, 10, 11] [] 117 rfl (by kernel_rfl) ?_))) <;> ((try with_reducible intro K1 hK1); simp only [go_sem, ↓reduceIte, reduceCtorEq, Nat.reduceAdd, Nat.reduceSub, Nat.reduceMul, Nat.reduceLT, Nat.reduceLeDiff, Nat.reduceEqDiff, hH3, hT3, m2, hgc, Int.toNat_natCast, encI, Nat.reduceMod, Nat.reduceDiv, Nat.reducePow]; (try and_intros); all_goals first | (refine hK1 _ ?_; clear hK1 K1) | (intros; first | (with_reducible trivial) | omega | (simp_all <;> omega)) | skip)) | (with_reducible first | refine wQ ?_ | refine zS ?_ | refine zN ?_ | refine zX ?_ | refine zE ?_ | refine zF ?_ | refine zO (by decide) ?_ | refine zB ?_)))
          obtain ⟨s1, s2⟩ := stepU_ok (f := passU d) hFk hx rfl hpo.1 hpo.2.1
          rw [List.length_append] at hle
          refine ⟨g - 1, by omega, j + 1, { h3 with T := upd h3.T c0 (some (.cont 1 ((acc.1.1.set x (acc.1.1.getD x 0 + 1)).map encI))) }, stepU (passU d) kids acc x, by omega, by rw [hsplit, List.foldl_append, ← hacc]; rfl, ?_, ⟨?_, ?_⟩, hF1.trans ⟨fun y hy hyo => (hF3.kid (i := i) (c := c0) (by omega)).1 y hy hyo, fun y hy hyk => (upd_other _ _ (fun e => hy (by rw [toksT_eq, e]; simp))).trans ((hF3.kid (i := i) (c := c0) (by omega)).2 y hy hyk)⟩, ?_, fun _ => by rw [s2]; omega, by rw [s2]; omega, ?_⟩
          · exact (hR1.kid hS ho hkt1 hx hR3 hF3).count hS (cs' := acc.1.1.set x (acc.1.1.getD x 0 + 1)) (by simp) (by simp [XR]; omega)
          · rw [show (stepU (passU d) kids acc x).2 = acc.2 ++ (passU d (kids.getD x default) (acc.1.2.getD x default)).2 from rfl, ← List.append_assoc]
            exact hO3.1
          · rw [show (stepU (passU d) kids acc x).2 = acc.2 ++ (passU d (kids.getD x default) (acc.1.2.getD x default)).2 from rfl, ← List.append_assoc]
            exact (upd_other _ _ (fun e => hck e.symm)).trans hO3.2
          · rw [s2]
            have e5 : ((out.length : Int) + ((acc.2.length + (passU d (kids.getD x default) (acc.1.2.getD x default)).2.length : Nat) : Int)) = out.length + acc.2.length + (passU d (kids.getD x default) (acc.1.2.getD x default)).2.length := by omega
            rw [e5]; exact s1
          · rw [List.map_set]; rfl
        · rename_i hle
          subst hres
          refine hK1 _ ?_; clear hK1 K1
          (repeat (first | (with_reducible first | refine wB ?_ | refine wN ?_ | refine wT ?_) | ((with_reducible refine wI ?_); refine wN ?_) | ((first | ((with_reducible refine yS ?_); refine awp_keep 9905787658939656716169610695 100 (kS ?_)) | ((with_reducible refine yR ?_); refine awp_keep 9905787658939656716169610695 100 (kR ?_)) | (with_reducible first | refine wG ?_ | refine wH ?_ | refine wM ?_ ?_) | ((with_reducible refine xR ?_); refine awp_keep 9905787658939656716169610695 100 (uE 4 (mdL []) [0, 1, 2, 3, 4, 5, 6, 7, 8, 9, 10, 11, 12, 13, 14, 15] [(16, [], [17]), (18, [], [])] 117 rfl (by kernel_rfl) ?_)) | ((with_reducible refine xR ?_); refine awp_keep 9905787658939656716169610695 100 (uE 12 (mdL []) [0, 1, 2, 3, 4, 5, 6, 7, 8, 9, 10, 11] [] 117 rfl (by kernel_rfl) ?_))) <;> ((try with_reducible intro K1 hK1); simp only [go_sem, ↓reduceIte, reduceCtorEq, Nat.reduceAdd, Nat.reduceSub, Nat.reduceMul, Nat.reduceLT, Nat.reduceLeDiff, Nat.reduceEqDiff, Nat.reduceMod, Nat.reduceDiv, Nat.reducePow]; (try and_intros); all_goals first | (refine hK1 _ ?_; clear hK1 K1) | (intros; first | (with_reducible trivial) | omega | (simp_all <;> omega)) | skip)) | (with_reducible first | refine wQ ?_ | refine zS ?_ | refine zN ?_ | refine zX ?_ | refine zE ?_ | refine zF ?_ | refine zO (by decide) ?_ | refine zB ?_)))
          refine awp_cond (t := _) rfl (fun _ => ?_) (fun h => by cases h)
          (repeat (first | (with_reducible first | refine wB ?_ | refine wN ?_ | refine wT ?_) | ((with_reducible refine wI ?_); refine wN ?_) | ((first | ((with_reducible refine yS ?_); refine awp_keep 9905787658939656716169610695 100 (kS ?_)) | ((with_reducible refine yR ?_); refine awp_keep 9905787658939656716169610695 100 (kR ?_)) | (with_reducible first | refine wG ?_ | refine wH ?_ | refine wM ?_ ?_) | ((with_reducible refine xR ?_); refine awp_keep 9905787658939656716169610695 100 (uE 4 (mdL []) [0, 1, 2, 3, 4, 5, 6, 7, 8, 9, 10, 11, 12, 13, 14, 15] [(16, [], [17]), (18, [], [])] 117 rfl (by kernel_rfl) ?_)) | ((with_reducible refine xR ?_); refine awp_keep 9905787658939656716169610695 100 (uE 12 (mdL []) [0, 1, 2, 3, 4, 5, 6, 7, 8, 9, 10, 11] [] 117 rfl (by kernel_rfl) ?_))) <;> ((try with_reducible intro K1 hK1); simp only [go_sem, ↓reduceIte, reduceCtorEq, Nat.reduceAdd, Nat.reduceSub, Nat.reduceMul, Nat.reduceLT, Nat.reduceLeDiff, Nat.reduceEqDiff, Nat.reduceMod, Nat.reduceDiv, Nat.reducePow]; (try and_intros); all_goals first | (refine hK1 _ ?_; clear hK1 K1) | (intros; first | (with_reducible trivial) | omega | (simp_all <;> omega)) | skip)) | (with_reducible first | refine wQ ?_ | refine zS ?_ | refine zN ?_ | refine zX ?_ | refine zE ?_ | refine zF ?_ | refine zO (by decide) ?_ | refine zB ?_)))
          refine zR ?_; (repeat (with_reducible first | refine zT ?_ | refine zU ?_)); simp only [Tryd.results30, go_sem, ↓reduceIte, reduceCtorEq, Nat.reduceAdd, Nat.reduceSub, Nat.reduceMul, Nat.reduceLT, Nat.reduceLeDiff, Nat.reduceEqDiff]
          refine ⟨_, _, Weak.refl _, Hp.le.refl _, ?_⟩
          have hmo := fold_mono (f := passU d) (kids := kids) (L.drop (j + 1)) ((L.take (j + 1)).foldl (stepU (passU d) kids) ((cs, ks), if kind = 1 then [(item, long)] else []))
          rw [← List.foldl_append, List.take_append_drop, hsplit, List.foldl_append, ← hacc] at hmo
          have e6 : ([x].foldl (stepU (passU d) kids) acc).2.length = acc.2.length + (passU d (kids.getD x default) (acc.1.2.getD x default)).2.length := by simp [stepU]
          rw [e6] at hmo
          rw [List.length_append] at hle
          unfold PRes
          rw [hPS, if_neg (by simp only []; omega)]
      · simp only [decide_eq_false_iff_not] at h2
        have hjL : j = L.length := by omega
        subst hjL
        rw [List.take_length] at hacc
        obtain ⟨⟨K1', hH1, hK1'⟩, hT1, ⟨m1, m2, m3, m4⟩, hk1⟩ := id hR1
        have hH10 : h1.H i = some (.cells [.v (.int .i64 kind), .v (.string item), .v (.int .i64 long), .v (.int .i64 many), .row 6 (kids.map encL) none, .row 1 (shares.map encI) none, K1', .v (.int .i64 p), .arr 1 c0 kids.length]) := hH1
        have hoi : o ≠ i := fun e => ho (by rw [idsT_eq, e]; simp)
        have hHo : ∀ y, upd h1.H i y o = some (.cells [.row 2 ((out ++ acc.2).map encStep) (some k)]) := fun y => (upd_other _ _ hoi).trans hO1'.1
        (repeat (first | (with_reducible first | refine wB ?_ | refine wN ?_ | refine wT ?_) | ((with_reducible refine wI ?_); refine wN ?_) | ((first | ((with_reducible refine yS ?_); refine awp_keep 9905787658939656716169610695 100 (kS ?_)) | ((with_reducible refine yR ?_); refine awp_keep 9905787658939656716169610695 100 (kR ?_)) | (with_reducible first | refine wG ?_ | refine wH ?_ | refine wM ?_ ?_) | ((with_reducible refine xR ?_); refine awp_keep 9905787658939656716169610695 100 (uE 4 (mdL []) [0, 1, 2, 3, 4, 5, 6, 7, 8, 9, 10, 11, 12, 13, 14, 15] [(16, [], [17]), (18, [], [])] 117 rfl (by kernel_rfl) ?_)) | ((with_reducible refine xR ?_); refine awp_keep 9905787658939656716169610695 100 (uE 12 (mdL []) [0, 1, 2, 3, 4, 5, 6, 7, 8, 9, 10, 11] [] 117 rfl (by kernel_rfl) ?_))) <;> ((try with_reducible intro K1 hK1); simp only [go_sem, ↓reduceIte, reduceCtorEq, Nat.reduceAdd, Nat.reduceSub, Nat.reduceMul, Nat.reduceLT, Nat.reduceLeDiff, Nat.reduceEqDiff, hH10, hHo, Nat.reduceMod, Nat.reduceDiv, Nat.reducePow]; (try and_intros); all_goals first | (refine hK1 _ ?_; clear hK1 K1) | (intros; first | (with_reducible trivial) | omega | (simp_all <;> omega)) | skip)) | (with_reducible first | refine wQ ?_ | refine zS ?_ | refine zN ?_ | refine zX ?_ | refine zE ?_ | refine zF ?_ | refine zO (by decide) ?_ | refine zB ?_)))
        refine zR ?_; (repeat (with_reducible first | refine zT ?_ | refine zU ?_)); simp only [Tryd.results30, go_sem, ↓reduceIte, reduceCtorEq, Nat.reduceAdd, Nat.reduceSub, Nat.reduceMul, Nat.reduceLT, Nat.reduceLeDiff, Nat.reduceEqDiff]
        refine ⟨_, _, Weak.refl _, Hp.le.refl _, ?_⟩
        unfold PRes
        rw [hPS, ← hacc]
        have e9 : (out ++ acc.2).length = out.length + acc.2.length := List.length_append
        show (if out.length + acc.2.length ≤ 5000 then _ else _)
        split
        · rename_i hle
          refine ⟨by simp only [AV.v.injEq, Value.bool.injEq, decide_eq_true_eq]; omega, hR1.hadOne hS hK1', ⟨hHo _, hO1'.2⟩, hF1.trans ⟨fun y hy _ => upd_other _ _ (fun e => hy (by rw [idsT_eq, e]; simp)), fun _ _ _ => rfl⟩⟩
        · rename_i hle
          simp only [AV.v.injEq, Value.bool.injEq, decide_eq_false_iff_not]
          omega
end Go.Proofs.YtoleejecmefogaaDoor
/- loop.formFault. -/
namespace Go.Proofs.YtoleejecmefogaaDoor
open Go
set_option linter.unusedVariables false
set_option linter.unusedSimpArgs false
set_option maxRecDepth 100000
set_option maxHeartbeats 8000000
def formB (kind : Int) (item : ByteArray) (long many : Int) (nk ns : Int) : Bool :=
  (kind == 1 && nk != 0) || (kind == 5 && nk != 1) || (kind != 1 && nk == 0) || (kind == 4 && ns != nk) || (kind != 4 && ns != 0) || (kind != 1 && (item != ⟨#[]⟩ || long != 0)) || (kind != 5 && many != 0)
theorem g_form (kind : Int) (item : ByteArray) (long many : Int) (kids : List LT) (shares : List Int) (h : Hp) (hk : kids.length ≤ 3) (hs : shares.length ≤ 5) :
    ACalls Tryd.prog 43 [.agg (encL (.mk kind item long many kids shares))] h (fun r h' => r = .v (.bool (formB kind item long many kids.length shares.length)) ∧ h' = h) := by
  rw [encL_eq]
  have key : ∀ b1 b4 b5 : Bool, (kind == 1) = b1 → (kind == 4) = b4 → (kind == 5) = b5 → (b1 && b4) = false → (b1 && b5) = false → (b4 && b5) = false →
      ACalls Tryd.prog 43 [.agg [.v (.int .i64 kind), .v (.string item), .v (.int .i64 long), .v (.int .i64 many), .row 6 (kids.map encL) none, .row 1 (shares.map encI) none]] h (fun r h' => r = .v (.bool (formB kind item long many kids.length shares.length)) ∧ h' = h) := by
    intro b1 b4 b5 e1 e4 e5
    cases b1 <;> cases b4 <;> cases b5 <;> intro f1 f2 f3 <;> first | (cases f1; done) | (cases f2; done) | (cases f3; done) | skip
    all_goals
      refine acalls_of tyok Tryd.func43 rfl (by kernel_rfl) fun c => ?_; simp only [Tryd.ntmps43, List.length_cons, List.length_nil, Nat.reduceAdd, Nat.reduceSub, jnk_rep, List.cons_append, List.nil_append]
      (repeat' (first | (with_reducible first | refine wB ?_ | refine wN ?_ | refine wT ?_) | ((with_reducible refine wI ?_); refine wN ?_) | ((first | ((with_reducible refine yS ?_); refine awp_keep 274877939775 100 (kS ?_)) | ((with_reducible refine yR ?_); refine awp_keep 274877939775 100 (kR ?_)) | (with_reducible first | refine wG ?_ | refine wH ?_ | refine wM ?_ ?_) | ((with_reducible refine xS ?_); refine awp_keep 274877939775 100 (uD 1 (mdL []) [0, 1, 2, 3, 4, 5, 6, 7, 8, 9, 10, 11] [] 78 rfl (by kernel_rfl) ?_))) <;> ((try with_reducible intro K1 hK1); simp only [go_sem, ↓reduceIte, reduceCtorEq, Nat.reduceAdd, Nat.reduceSub, Nat.reduceMul, Nat.reduceLT, Nat.reduceLeDiff, Nat.reduceEqDiff, e1, e4, e5, Nat.reduceMod, Nat.reduceDiv, Nat.reducePow]; (try and_intros); all_goals first | (refine hK1 _ ?_; clear hK1 K1) | (intros; first | (with_reducible trivial) | omega | (simp_all <;> omega)) | skip)) | (with_reducible first | refine wQ ?_ | refine zS ?_ | refine zN ?_ | refine zB ?_) | (refine awp_cond (t := _) rfl (fun hcnd => ?_) (fun hcnd => ?_) <;> first | (cases hcnd; done) | (simp only [hcnd]) | skip)))
    all_goals refine zR ?_; (repeat (with_reducible first | refine zT ?_ | refine zU ?_)); simp only [Tryd.results43, go_sem, ↓reduceIte, reduceCtorEq, Nat.reduceAdd, Nat.reduceSub, Nat.reduceMul, Nat.reduceLT, Nat.reduceLeDiff, Nat.reduceEqDiff]
    all_goals exact ⟨_, _, Weak.refl _, Hp.le.refl _, by clear hs hk c; simp only [formB, bne, Bool.not_eq_true', Bool.not_eq_false'] at *; simp only [*, Bool.not_true, Bool.not_false, Bool.false_and, Bool.true_and, Bool.and_false, Bool.false_or, Bool.true_or, Bool.or_true, Bool.or_false], rfl⟩
  exact key _ _ _ rfl rfl rfl (by simp; omega) (by simp; omega) (by simp; omega)
end Go.Proofs.YtoleejecmefogaaDoor
/- Words of memory that all walks of this seat share: facts kept out of the walk's sight, a slice that reads as a list, the stream. Plain lemmas; no statement of the seat. -/
namespace Go.Proofs.YtoleejecmefogaaDoor
open Go.RowKit
set_option linter.unusedVariables false
set_option linter.unusedSimpArgs false

/-! ### The world's steps -/
theorem gb_refl (w : World) (r : Option Nat) : w.grownBy w r := ⟨rfl, rfl, rfl, Nat.le_refl _, fun _ _ _ => rfl⟩
theorem gb_trans {a b c : World} {r : Option Nat} (h : a.grownBy b r) (k : b.grownBy c r) : a.grownBy c r :=
  ⟨k.os.trans h.os, k.tape.trans h.tape, k.output.trans h.output, Nat.le_trans h.size k.size, fun i hi hn => (k.block i (Nat.lt_of_lt_of_le hi h.size) hn).trans (h.block i hi hn)⟩
theorem gb_drewN {a w : World} {r : Option Nat} (h : a.grownBy w r) (n : Nat) : a.grownBy (w.drewN n) r := ⟨h.os, h.tape, h.output, h.size, h.block⟩
theorem gb_drew {a w : World} {r : Option Nat} (h : a.grownBy w r) : a.grownBy w.drew r := ⟨h.os, h.tape, h.output, h.size, h.block⟩
theorem gb_alloc {a w : World} {r : Option Nat} (h : a.grownBy w r) (o : Obj) : a.grownBy (w.alloc o) r :=
  ⟨h.os, h.tape, h.output, Nat.le_trans h.size (by simp), fun i hi hne => (Below.heap_alloc w o i (Nat.lt_of_lt_of_le hi h.size)).trans (h.block i hi hne)⟩
theorem gb_below {a w : World} (h : Below a.heap.size a w) (r : Option Nat) : a.grownBy w r := ⟨h.os, h.tape, h.output, h.size, fun i hi _ => h.block i hi⟩
/-- What turns block r alone, r being new since W, turns nothing of W's. -/
theorem below_gb {W a w : World} {b : Nat} (h : Below W.heap.size W a) (g : a.grownBy w (some b)) (hb : W.heap.size ≤ b) : Below W.heap.size W w :=
  h.trans ⟨g.os, g.tape, g.output, g.size, fun k hk => g.block k (Nat.lt_of_lt_of_le hk h.size) (fun e => by injection e with e; omega)⟩
theorem below_drewN {B : Nat} {a w : World} (h : Below B a w) (n : Nat) : Below B a (w.drewN n) := ⟨h.os, h.tape, h.output, h.size, h.block⟩

/-! ### A slice that reads as a list of cells -/
/-- The slice v has the cells xs ('size' cells an element), in a block from lo on. -/
def Lst (w : World) (lo size : Nat) (v : Value) (xs : List Value) : Prop :=
  ∃ (A : Option Addr) (n c : Nat), v = .slice A n c ∧ n ≤ c ∧ c ≤ maxLen ∧ xs.length = n * size ∧
    (0 < n → ∃ g o, A = some ⟨g, o, none⟩ ∧ lo ≤ g ∧ g < w.heap.size ∧ ∀ j u, xs[j]? = some u → w.cell? ⟨g, o + j, none⟩ = some u)

theorem Lst.mono {w : World} {lo lo' size : Nat} {v : Value} {xs : List Value} (h : Lst w lo size v xs) (hl : lo' ≤ lo) : Lst w lo' size v xs := by
  obtain ⟨A, n, c, hv, hn, hc, hx, hr⟩ := h
  exact ⟨A, n, c, hv, hn, hc, hx, fun h0 => let ⟨g, o, hA, hg, hlt, hcell⟩ := hr h0; ⟨g, o, hA, Nat.le_trans hl hg, hlt, hcell⟩⟩
theorem Lst.keep {w w' : World} {lo size : Nat} {v : Value} {xs : List Value} (h : Lst w lo size v xs) (hs : w.heap.size ≤ w'.heap.size)
    (hk : ∀ k, lo ≤ k → k < w.heap.size → w'.heap[k]? = w.heap[k]?) : Lst w' lo size v xs := by
  obtain ⟨A, n, c, hv, hn, hc, hx, hr⟩ := h
  refine ⟨A, n, c, hv, hn, hc, hx, fun h0 => ?_⟩
  obtain ⟨g, o, hA, hg, hlt, hcell⟩ := hr h0
  exact ⟨g, o, hA, hg, Nat.lt_of_lt_of_le hlt hs, fun j u hu => (World.cell?_of_block (w := w) (hk g hg hlt)).trans (hcell j u hu)⟩
theorem Lst.below {w w' : World} {lo size : Nat} {v : Value} {xs : List Value} (h : Lst w lo size v xs) (hb : Below w.heap.size w w') : Lst w' lo size v xs :=
  h.keep hb.size fun k _ hk => hb.block k hk
theorem Lst.grown {w w' : World} {lo size b : Nat} {v : Value} {xs : List Value} (h : Lst w lo size v xs) (hg : w.grownBy w' (some b)) (hb : b < lo) : Lst w' lo size v xs :=
  h.keep hg.size fun k hk hlt => hg.block k hlt (fun e => by injection e with e; omega)
theorem Lst.nil (w : World) (lo size : Nat) : Lst w lo size (.slice none 0 0) [] := ⟨none, 0, 0, rfl, Nat.le_refl _, Nat.zero_le _, by simp, fun h => absurd h (by omega)⟩
theorem Lst.of_own {w : World} {base size n : Nat} {e : TypeId} {v : Value} {xs : List Value} (h : w.ownsRow base e size v n xs) : Lst w base size v xs := by
  obtain ⟨hl, h2⟩ := h
  rcases h2 with ⟨rfl, rfl⟩ | ⟨g, cap, cur, rfl, hg, hh, hnc, hcm, hsz, hx⟩
  · have : xs = [] := List.eq_nil_of_length_eq_zero (by simpa using hl)
    subst this; exact Lst.nil w base size
  · refine ⟨_, n, cap, rfl, hnc, hcm, hl, fun h0 => ⟨g, 0, rfl, hg, ?_, fun j u hu => ?_⟩⟩
    · rcases Nat.lt_or_ge g w.heap.size with h | h
      · exact h
      · rw [Array.getElem?_eq_none h] at hh; cases hh
    · have hcur : cur[j]? = some u := by
        rw [← hx, List.getElem?_take] at hu
        split at hu
        · simpa using hu
        · cases hu
      simp [World.cell?, hh, hcur]

theorem Lst.at_ {w : World} {lo n c k : Nat} {A : Option Addr} {xs : List Value} (h : Lst w lo 1 (.slice A n c) xs) (hk : k < n) :
    ∃ g o u, A = some ⟨g, o, none⟩ ∧ lo ≤ g ∧ g < w.heap.size ∧ xs[k]? = some u ∧ w.cell? ⟨g, o + k, none⟩ = some u := by
  obtain ⟨A', n', c', hv, hn, hc, hx, hr⟩ := h
  simp only [Value.slice.injEq] at hv
  obtain ⟨rfl, rfl, rfl⟩ := hv
  obtain ⟨g, o, hA, hg, hlt, hcell⟩ := hr (by omega)
  have hl : k < xs.length := by omega
  exact ⟨g, o, xs[k], hA, hg, hlt, List.getElem?_eq_getElem hl, hcell k _ (List.getElem?_eq_getElem hl)⟩
theorem Lst.open_ {w : World} {lo size n c : Nat} {A : Option Addr} {xs : List Value} (h : Lst w lo size (.slice A n c) xs) (hk : 0 < n) :
    ∃ g o, A = some ⟨g, o, none⟩ ∧ lo ≤ g ∧ g < w.heap.size ∧ ∀ j u, xs[j]? = some u → w.cell? ⟨g, o + j, none⟩ = some u := by
  obtain ⟨A', n', c', hv, hn, hc, hx, hr⟩ := h
  simp only [Value.slice.injEq] at hv
  obtain ⟨rfl, rfl, rfl⟩ := hv
  exact hr hk
theorem Lst.form {w : World} {lo size : Nat} {v : Value} {xs : List Value} (h : Lst w lo size v xs) : ∃ A n c, v = .slice A n c ∧ n ≤ c ∧ c ≤ maxLen ∧ xs.length = n * size :=
  let ⟨A, n, c, hv, hn, hc, hx, _⟩ := h; ⟨A, n, c, hv, hn, hc, hx⟩

/-! ### The stream -/
/-- Block b is a stream (of type ts) that has handed out at most M numbers. -/
def IsStream (ts : TypeId) (w : World) (b M : Nat) : Prop :=
  ∃ (a : Option Addr) (len cap : Nat) (at_ : Nat), w.heap[b]? = some (.cells #[.slice a len cap, .int .i64 (at_ : Int)] ts (0, 0)) ∧ at_ ≤ M ∧ len ≤ 9223372036854775807 ∧
    (0 < len → ∃ x, a = some x ∧ x.block < b ∧ x.spot = none ∧ ∀ i, i < len → ∃ z : Int, w.cell? ⟨x.block, x.off + i, none⟩ = some (.int .i64 z))

theorem block_lt {w : World} {b : Nat} {o : Obj} (h : w.heap[b]? = some o) : b < w.heap.size := by
  rcases Nat.lt_or_ge b w.heap.size with hl | hl
  · exact hl
  · rw [Array.getElem?_eq_none hl] at h; cases h
theorem IsStream.lt {ts : TypeId} {w : World} {b M : Nat} (h : IsStream ts w b M) : b < w.heap.size := by
  obtain ⟨_, _, _, _, hh, _⟩ := h
  exact block_lt hh
theorem IsStream.below {ts : TypeId} {w w' : World} {b M : Nat} (h : IsStream ts w b M) (hb : Below w.heap.size w w') : IsStream ts w' b M := by
  have hlt := h.lt
  obtain ⟨a, len, cap, at_, hh, h1, h2, h3⟩ := h
  refine ⟨a, len, cap, at_, (hb.block b hlt).trans hh, h1, h2, fun h0 => ?_⟩
  obtain ⟨x, hx, hxb, hs, hc⟩ := h3 h0
  refine ⟨x, hx, hxb, hs, fun i hi => ?_⟩
  obtain ⟨z, hz⟩ := hc i hi
  exact ⟨z, (hb.cell (p := ⟨x.block, x.off + i, none⟩) (by show x.block < _; omega)).trans hz⟩
theorem IsStream.mono {ts : TypeId} {w : World} {b M M' : Nat} (h : IsStream ts w b M) (hM : M ≤ M') : IsStream ts w b M' := by
  obtain ⟨a, len, cap, at_, hh, h1, h2⟩ := h
  exact ⟨a, len, cap, at_, hh, by omega, h2⟩
theorem IsStream.alloc {ts : TypeId} {w : World} {b M : Nat} (h : IsStream ts w b M) (o : Obj) : IsStream ts (w.alloc o) b M :=
  h.below ((Below.refl _ _).alloc (Nat.le_refl _) o)
theorem IsStream.drewN {ts : TypeId} {w : World} {b M : Nat} (h : IsStream ts w b M) (n : Nat) : IsStream ts (w.drewN n) b M := h

theorem stream_cells {w : World} {b : Nat} {u v : Value} {t : TypeId} (h : w.heap[b]? = some (.cells #[u, v] t (0, 0))) :
    w.cell? ⟨b, 0, none⟩ = some u ∧ w.cell? ⟨b, 1, none⟩ = some v ∧ w.frozen? ⟨b, 0, none⟩ = false ∧ w.frozen? ⟨b, 1, none⟩ = false := by
  simp [World.cell?, World.frozen?, h]
theorem stream_set {w : World} {b : Nat} {u v v' : Value} {t : TypeId} (h : w.heap[b]? = some (.cells #[u, v] t (0, 0))) :
    (w.setCell ⟨b, 1, none⟩ v').heap[b]? = some (.cells #[u, v'] t (0, 0)) := by
  simp [World.setCell, Array.getElem?_modify, h]

/-- What a law is told of the slice of ints that comes in. -/
def IsRow (k : IntKind) (w : World) (a : Option Addr) (len cap : Nat) (zs : List Int) : Prop :=
  (a = none ∧ len = 0 ∧ cap = 0 ∧ zs = []) ∨
  ∃ x, a = some x ∧ len ≤ cap ∧ cap ≤ maxLen ∧ zs.length = cap ∧ (∀ i, i < zs.length → w.cell? (x.add i) = some (.int k (zs.getD i 0))) ∧ ∀ n ∈ zs, (Lit.int k n).wf = true
theorem isStream_new {ts : TypeId} {w : World} {a : Option Addr} {len cap : Nat} {zs : List Int} (h : IsRow .i64 w a len cap zs) :
    IsStream ts (w.alloc (.cells #[.slice a len cap, .int .i64 0] ts)) w.heap.size 0 := by
  refine ⟨a, len, cap, 0, heap_alloc_new w _, Nat.le_refl _, ?_, fun h0 => ?_⟩
  · rcases h with ⟨_, rfl, _⟩ | ⟨_, _, hl, hm, _⟩
    · omega
    · unfold maxLen at hm; omega
  · rcases h with ⟨_, rfl, _⟩ | ⟨⟨b, o, sp⟩, rfl, hl, hm, hz, hc, _⟩
    · omega
    · have hc0 := hc 0 (by omega)
      have hsp : sp = none := by simpa [Addr.add] using World.cell?_spot hc0
      subst hsp
      have e : ∀ i, (⟨b, o, none⟩ : Addr).add i = ⟨b, o + i, none⟩ := fun i => by unfold Addr.add; split <;> simp_all
      refine ⟨_, rfl, ?_, rfl, fun i hi => ⟨zs.getD i 0, ?_⟩⟩
      · rw [e] at hc0; exact World.block_lt_of_cell? w _ hc0
      · have h1 := hc i (by omega)
        rw [e] at h1
        rw [World.cell?_alloc_lt _ _ _ (World.block_lt_of_cell? w _ h1)]
        exact h1
/-- The stream goes on by at most k numbers; nothing else that was there has turned. -/
structure Goes (ts : TypeId) (b M k : Nat) (w w' : World) : Prop where
  is : IsStream ts w' b (M + k)
  gb : w.grownBy w' (some b)
theorem Goes.refl {ts : TypeId} {b M k : Nat} {w : World} (h : IsStream ts w b M) : Goes ts b M k w w := ⟨h.mono (by omega), gb_refl _ _⟩
theorem Goes.trans {ts : TypeId} {b M k j m : Nat} {w w1 w2 : World} (h : Goes ts b M k w w1) (h' : Goes ts b (M + k) j w1 w2) (hm : k + j ≤ m) : Goes ts b M m w w2 :=
  ⟨h'.is.mono (by omega), gb_trans h.gb h'.gb⟩
theorem Goes.more {ts : TypeId} {b M k k' : Nat} {w w1 : World} (h : Goes ts b M k w w1) (hk : k ≤ k') : Goes ts b M k' w w1 := ⟨h.is.mono (by omega), h.gb⟩
theorem Goes.below {ts : TypeId} {b M k : Nat} {w w1 w2 : World} (h : Goes ts b M k w w1) (hb : Below w1.heap.size w1 w2) : Goes ts b M k w w2 :=
  ⟨h.is.below hb, gb_trans h.gb (gb_below hb _)⟩
theorem Goes.alloc {ts : TypeId} {b M k : Nat} {w w1 : World} (h : Goes ts b M k w w1) (o : Obj) : Goes ts b M k w (w1.alloc o) := ⟨h.is.alloc o, gb_alloc h.gb o⟩
theorem Goes.of_alloc {ts : TypeId} {b M k : Nat} {w w1 : World} {o : Obj} (h : Goes ts b M k (w.alloc o) w1) : Goes ts b M k w w1 := ⟨h.is, gb_trans (gb_alloc (gb_refl w _) o) h.gb⟩
theorem Goes.drewN {ts : TypeId} {b M k : Nat} {w w1 : World} (h : Goes ts b M k w w1) (n : Nat) : Goes ts b M k w (w1.drewN n) := ⟨h.is, gb_drewN h.gb n⟩

theorem goes_set {ts : TypeId} {w : World} {b M len cap at_ : Nat} {a : Option Addr} {nq : Nat}
    (h : w.heap[b]? = some (.cells #[.slice a len cap, .int .i64 (at_ : Int)] ts (0, 0))) (hM : at_ ≤ M) (hl : len ≤ 9223372036854775807)
    (hz : 0 < len → ∃ x, a = some x ∧ x.block < b ∧ x.spot = none ∧ ∀ i, i < len → ∃ z : Int, w.cell? ⟨x.block, x.off + i, none⟩ = some (.int .i64 z)) :
    Goes ts b M 1 w ((w.setCell ⟨b, 1, none⟩ (.int .i64 ((at_ : Int) + 1))).drewN nq) := by
  refine ⟨⟨a, len, cap, at_ + 1, stream_set h, by omega, hl, fun h0 => ?_⟩, ⟨rfl, rfl, rfl, by simp [World.setCell, World.drewN], fun k hk hne => Below.heap_setCell _ _ _ _ (by intro e; exact hne (by rw [e]))⟩⟩
  obtain ⟨x, hx, hb, hs, hc⟩ := hz h0
  refine ⟨x, hx, hb, hs, fun i hi => ?_⟩
  obtain ⟨z, hzc⟩ := hc i hi
  refine ⟨z, ?_⟩
  rw [← hzc]
  exact World.cell?_of_block (w := w) (Below.heap_setCell _ _ _ _ (by show x.block ≠ b; omega))

/-- An int with a property comes back, and the stream goes on. -/
def GoesInt (ts : TypeId) (b M k : Nat) (P : Int → Prop) (w : World) (e : Ending) (w' : World) : Prop := ∃ r : Int, P r ∧ e = .returned (.int .i64 r) ∧ Goes ts b M k w w'
/-- A string with a property comes back, and the stream goes on. -/
def GoesStr (ts : TypeId) (b M k : Nat) (P : ByteArray → Prop) (w : World) (e : Ending) (w' : World) : Prop := ∃ r : ByteArray, P r ∧ e = .returned (.string r) ∧ Goes ts b M k w w'
def GoesBool (ts : TypeId) (b M k : Nat) (w : World) (e : Ending) (w' : World) : Prop := ∃ r : Bool, e = .returned (.bool r) ∧ Goes ts b M k w w'

/-- A new block that is written out reads as the list. -/
theorem cell_new_list (w : World) (cs : Array Value) (t : TypeId) (i : Nat) (v : Value) (h : cs[i]? = some v) : (w.alloc (.cells cs t)).cell? ⟨w.heap.size, i, none⟩ = some v := by
  have h1 := heap_alloc_new w (.cells cs t)
  simp only [World.cell?, h1]
  exact h
/-- A new block's cells, as append's law asks for them. -/
theorem cells_new (w : World) (xs : List Value) (t : TypeId) : ∀ j u, xs[j]? = some u → (w.alloc (.cells xs.toArray t)).cell? ((⟨w.heap.size, 0, none⟩ : Addr).add j) = some u := by
  intro j u h
  have e : (⟨w.heap.size, 0, none⟩ : Addr).add j = ⟨w.heap.size, j, none⟩ := by unfold Addr.add; split <;> simp_all
  rw [e]
  exact cell_new_list w _ t j u (by simpa using h)
theorem ownsRow_base {w : World} {b b' size n : Nat} {e : TypeId} {v : Value} {xs : List Value} (h : w.ownsRow b e size v n xs) (hb : b' ≤ b) : w.ownsRow b' e size v n xs := by
  obtain ⟨hl, h2⟩ := h
  refine ⟨hl, ?_⟩
  rcases h2 with h2 | ⟨g, cap, cur, hv, hg, r⟩
  · exact .inl h2
  · exact .inr ⟨g, cap, cur, hv, Nat.le_trans hb hg, r⟩
theorem ownsRow_below {w w' : World} {b size n : Nat} {e : TypeId} {v : Value} {xs : List Value} (h : w.ownsRow b e size v n xs) (hb : Below w.heap.size w w') : w'.ownsRow b e size v n xs := by
  obtain ⟨hl, h2⟩ := h
  refine ⟨hl, ?_⟩
  rcases h2 with h2 | ⟨g, cap, cur, hv, hg, hh, r⟩
  · exact .inl h2
  · exact .inr ⟨g, cap, cur, hv, hg, (hb.block g (block_lt hh)).trans hh, r⟩
theorem ret_int {k : IntKind} {a b : Int} (h : a = b) : Ending.returned (.int k a) = .returned (.int k b) := by rw [h]
end Go.Proofs.YtoleejecmefogaaDoor
/- The stream's methods: what a draw gives, and that nothing but the stream's own block has turned. -/
namespace Go.Proofs.YtoleejecmefogaaDoor
open Go.RowKit
set_option linter.unusedVariables false
set_option linter.unusedSimpArgs false

def BelowOf (x n : Int) : Int := if n < 1 then 0 else if x.tmod n < 0 then x.tmod n + n else x.tmod n
theorem belowOf_range (x n : Int) (h : 1 ≤ n) : 0 ≤ BelowOf x n ∧ BelowOf x n < n := by
  unfold BelowOf
  have h1 := Int.tmod_lt_of_pos x (show 0 < n by omega)
  have h2 := Int.lt_tmod_of_pos x (show 0 < n by omega)
  split
  · omega
  · split <;> omega

set_option maxHeartbeats 400000 in
theorem below_any (x n : Int) (w : World) (h1 : 1 ≤ n) (h2 : n ≤ 9223372036854775807) :
    Calls Tryd.prog 36 #[.int .i64 x, .int .i64 n] w fun e w' => e = .returned (.int .i64 (BelowOf x n)) ∧ w = w' := by
  have hr := Int.lt_tmod_of_pos x (show 0 < n by omega)
  have hr2 := Int.tmod_lt_of_pos x (show 0 < n by omega)
  go_enter Tryd.func36, Tryd.ntmps36
  go_wp2
  · have h : x.tmod n < 0 := by assumption
    go_ret
    exact ⟨by unfold BelowOf; rw [if_neg (by omega), if_pos h]; rfl, rfl⟩
  · have h : 0 ≤ x.tmod n := by assumption
    go_ret
    exact ⟨by unfold BelowOf; rw [if_neg (by omega), if_neg (by omega)]; rfl, rfl⟩

/-- Some number from 0 to n - 1 comes back, the world stays. -/
def SomeBelow (n : Int) (w : World) (e : Ending) (w' : World) : Prop := ∃ r : Int, 0 ≤ r ∧ r < n ∧ e = .returned (.int .i64 r) ∧ w = w'
theorem below_some (x n : Int) (w : World) (h1 : 1 ≤ n) (h2 : n ≤ 9223372036854775807) :
    Calls Tryd.prog 36 #[.int .i64 x, .int .i64 n] w (SomeBelow n w) :=
  (below_any x n w h1 h2).mono fun _ _ ⟨he, hw⟩ => ⟨_, (belowOf_range x n h1).1, (belowOf_range x n h1).2, he, hw⟩

set_option maxHeartbeats 1000000 in
theorem next_any (b M : Nat) (n : Int) (w : World) (hs : IsStream 25 w b M) (hM : M ≤ 4611686018427387904) (h1 : 1 ≤ n) (h2 : n ≤ 9223372036854775807) :
    Calls Tryd.prog 18 #[.pointer (some ⟨b, 0, none⟩), .int .i64 n] w (GoesInt 25 b M 1 (fun r => 0 ≤ r ∧ r < n) w) := by
  obtain ⟨a, len, cap, at_, hh, hat, hlen, hz⟩ := hs
  obtain ⟨c0, c1, f0, f1⟩ := stream_cells hh
  by_cases h0 : len = 0
  · subst h0
    have H := Lib.hid (fun nq => goes_set (nq := nq) hh hat hlen hz)
    clear hh hz
    go_enter Tryd.func18, Tryd.ntmps18
    go_wp2_with fail
    refine (below_some _ _ _ h1 h2).mono ?_
    rintro e w' ⟨r, hr0, hr1, rfl, rfl⟩
    go_wp2_with fail
    go_ret
    exact ⟨r, ⟨hr0, hr1⟩, rfl, H.out 0⟩
  · obtain ⟨⟨xb, xo, xs⟩, rfl, hxb, hxs, hc⟩ := hz (by omega)
    simp only at hxs; subst hxs
    have hlp : 0 < len := by omega
    obtain ⟨z, hzc⟩ := hc (at_ % len) (Nat.mod_lt _ hlp)
    have H := Lib.hid (fun nq => goes_set (nq := nq) hh hat hlen hz)
    have hne : ((len : Int) == 0) = false := by simp; omega
    have hzc' : (w.setCell ⟨b, 1, none⟩ (.int .i64 ((at_ : Int) + 1))).cell? ⟨xb, xo + at_ % len, none⟩ = some (.int .i64 z) := by
      rw [← hzc]; exact World.cell?_of_block (w := w) (Below.heap_setCell _ _ _ _ (by simp only at hxb; show xb ≠ b; omega))
    have hb1 : (0 : Int) ≤ (at_ : Int) % (len : Int) := Int.emod_nonneg _ (by omega)
    have hb2 : (at_ : Int) % (len : Int) < (len : Int) := Int.emod_lt_of_pos _ (by omega)
    have hb3 : ((at_ : Int) % (len : Int)).toNat = at_ % len := by omega
    clear hh hz hc
    go_enter Tryd.func18, Tryd.ntmps18
    go_wp2_with fail
    go_quiet (fail)
    go_wp2_with fail
    go_quiet (fail)
    go_wp2_with fail
    refine (below_some _ _ _ (by omega) (by omega)).mono ?_
    rintro e w' ⟨r, hr0, hr1, rfl, rfl⟩
    go_wp2_with fail
    refine (below_some _ _ _ h1 h2).mono ?_
    rintro e w' ⟨r2, hr0, hr1, rfl, rfl⟩
    go_wp2_with fail
    go_ret
    exact ⟨r2, ⟨hr0, hr1⟩, rfl, H.out _⟩

set_option maxHeartbeats 400000 in
theorem range_any (b M : Nat) (lo hi : Int) (w : World) (hs : IsStream 25 w b M) (hM : M ≤ 4611686018427387904) (h0 : -1000000000000000 ≤ lo) (h1 : lo ≤ hi) (h2 : hi ≤ 1000000000000000) :
    Calls Tryd.prog 35 #[.pointer (some ⟨b, 0, none⟩), .int .i64 lo, .int .i64 hi] w (GoesInt 25 b M 1 (fun r => lo ≤ r ∧ r ≤ hi) w) := by
  go_enter Tryd.func35, Tryd.ntmps35
  go_wp2_with fail
  refine (next_any _ M _ _ hs hM (by omega) (by omega)).mono ?_
  rintro e w' ⟨r, ⟨hr0, hr1⟩, rfl, hg⟩
  go_wp2_with fail
  go_ret
  exact ⟨lo + r, ⟨by omega, by omega⟩, rfl, hg⟩

set_option maxHeartbeats 400000 in
theorem flip_any (b M : Nat) (n : Int) (w : World) (hs : IsStream 25 w b M) (hM : M ≤ 4611686018427387904) (h1 : 1 ≤ n) (h2 : n ≤ 1000000000000000) :
    Calls Tryd.prog 16 #[.pointer (some ⟨b, 0, none⟩), .int .i64 n] w (GoesBool 25 b M 1 w) := by
  go_enter Tryd.func16, Tryd.ntmps16
  go_wp2_with fail
  refine (next_any _ M _ _ hs hM (by omega) (by omega)).mono ?_
  rintro e w' ⟨r, ⟨hr0, hr1⟩, rfl, hg⟩
  go_wp2_with fail
  go_ret
  exact ⟨r == 0, rfl, hg⟩

set_option maxHeartbeats 400000 in
theorem pick_any (b M g : Nat) (zs : List Int) (n cap : Nat) (w : World) (t : TypeId) (hs : IsStream 25 w b M) (hM : M ≤ 4611686018427387904) (hn : n = zs.length) (h1 : 1 ≤ n) (h2 : n ≤ 1000000)
    (hg : w.heap[g]? = some (.cells (zs.map (Value.int .i64)).toArray t (0, 0))) (hgb : g ≠ b) :
    Calls Tryd.prog 5 #[.pointer (some ⟨b, 0, none⟩), .slice (some ⟨g, 0, none⟩) n cap] w (GoesInt 25 b M 1 (fun r => r ∈ zs) w) := by
  have Hn := Lib.hid hn
  clear hn
  go_enter Tryd.func5, Tryd.ntmps5
  go_wp2_with fail
  refine (next_any _ M _ _ hs hM (by omega) (by omega)).mono ?_
  rintro e w' ⟨r, ⟨hr0, hr1⟩, rfl, hgo⟩
  obtain ⟨k, rfl⟩ := Int.eq_ofNat_of_zero_le hr0
  have hk : k < zs.length := by have := Hn.out; omega
  have hc : w'.cell? ⟨g, k, none⟩ = some (.int .i64 zs[k]) := by
    have h3 := (hgo.gb.block g (block_lt hg) (fun e => by injection e with e; omega)).trans hg
    simp [World.cell?, h3, hk]
  clear hg
  go_wp2_with fail
  go_ret
  exact ⟨zs[k], List.getElem_mem hk, rfl, hgo⟩

set_option maxHeartbeats 400000 in
theorem some_any (b M g : Nat) (ss : List ByteArray) (n cap : Nat) (w : World) (t : TypeId) (hs : IsStream 25 w b M) (hM : M ≤ 4611686018427387904) (hn : n = ss.length) (h1 : 1 ≤ n) (h2 : n ≤ 1000000)
    (hg : w.heap[g]? = some (.cells (ss.map Value.string).toArray t (0, 0))) (hgb : g ≠ b) :
    Calls Tryd.prog 20 #[.pointer (some ⟨b, 0, none⟩), .slice (some ⟨g, 0, none⟩) n cap] w (GoesStr 25 b M 1 (fun r => r ∈ ss) w) := by
  have Hn := Lib.hid hn
  clear hn
  go_enter Tryd.func20, Tryd.ntmps20
  go_wp2_with fail
  refine (next_any _ M _ _ hs hM (by omega) (by omega)).mono ?_
  rintro e w' ⟨r, ⟨hr0, hr1⟩, rfl, hgo⟩
  obtain ⟨k, rfl⟩ := Int.eq_ofNat_of_zero_le hr0
  have hk : k < ss.length := by have := Hn.out; omega
  have hc : w'.cell? ⟨g, k, none⟩ = some (.string ss[k]) := by
    have h3 := (hgo.gb.block g (block_lt hg) (fun e => by injection e with e; omega)).trans hg
    simp [World.cell?, h3, hk]
  clear hg
  go_wp2_with fail
  go_ret
  exact ⟨ss[k], List.getElem_mem hk, rfl, hgo⟩
end Go.Proofs.YtoleejecmefogaaDoor
/- kit.Outside and the reference's in. -/
namespace Go.Proofs.YtoleejecmefogaaDoor
open Go.RowKit
set_option linter.unusedVariables false
set_option linter.unusedSimpArgs false

def outsideB (n lo hi : Int) : Bool := decide (n < lo) || decide (hi < n)
set_option maxHeartbeats 400000 in
theorem outside_any (n lo hi : Int) (w : World) :
    Calls Tryd.prog 25 #[.int .i64 n, .int .i64 lo, .int .i64 hi] w fun e w' => e = .returned (.bool (outsideB n lo hi)) ∧ w = w' := by
  by_cases h1 : n < lo
  · go_enter Tryd.func25, Tryd.ntmps25
    go_wp2
    go_ret
    exact ⟨by simp [outsideB, h1], rfl⟩
  · have h1' : decide (n < lo) = false := by simpa using h1
    go_enter Tryd.func25, Tryd.ntmps25
    go_wp2
    go_ret
    exact ⟨by simp [outsideB, h1'], rfl⟩
set_option maxHeartbeats 400000 in
theorem in_any (n lo hi : Int) (w : World) :
    Calls Tryd.prog 37 #[.int .i64 n, .int .i64 lo, .int .i64 hi] w fun e w' => e = .returned (.bool (!outsideB n lo hi)) ∧ w = w' := by
  by_cases h1 : lo ≤ n
  · go_enter Tryd.func37, Tryd.ntmps37
    go_wp2
    go_ret
    exact ⟨by have : ¬ n < lo := by omega
              simp [outsideB, this, ← Int.not_lt], rfl⟩
  · have h1' : decide (lo ≤ n) = false := by simpa using h1
    go_enter Tryd.func37, Tryd.ntmps37
    go_wp2
    go_ret
    exact ⟨by have : n < lo := by omega
              simp [outsideB, this], rfl⟩
end Go.Proofs.YtoleejecmefogaaDoor
/- kit.IsKey and the reference's Key; sums: what is told of a string by its bytes. -/
namespace Go.Proofs.YtoleejecmefogaaDoor
open Go.RowKit
set_option linter.unusedVariables false
set_option linter.unusedSimpArgs false

/-- A byte that may stand in a key: at its head a small letter alone. -/
def keyByte (i n : Nat) : Bool := (decide (97 ≤ n) && decide (n ≤ 122)) || (decide (0 < i) && ((decide (48 ≤ n) && decide (n ≤ 57)) || n == 45 || n == 95))
def keyTo (s : ByteArray) : Nat → Bool
  | 0 => true
  | k + 1 => keyTo s k && keyByte k (s.data.toList.getD k 0).toNat
def keyB (s : ByteArray) : Bool := keyTo s s.size && decide (1 ≤ s.size) && decide (s.size ≤ 40)
theorem keyTo_le (s : ByteArray) {k m : Nat} (h : k ≤ m) (hm : keyTo s m = true) : keyTo s k = true := by
  induction m with
  | zero => obtain rfl : k = 0 := by omega
            rfl
  | succ m ih =>
    by_cases e : k = m + 1
    · rw [e]; exact hm
    · rw [keyTo, Bool.and_eq_true] at hm
      exact ih (by omega) hm.1
theorem keyB_no (s : ByteArray) {k : Nat} (h : k ≤ s.size) (hk : keyTo s k = false) : keyB s = false := by
  have h2 : keyTo s s.size = false := by
    cases h3 : keyTo s s.size with
    | false => rfl
    | true => rw [keyTo_le s h h3] at hk; cases hk
  simp [keyB, h2]
theorem getD_byte (s : ByteArray) (k : Nat) (h : k < s.size) : s.data.toList.getD k 0 = s[k] := by
  have h' : k < s.data.toList.length := h
  simp [List.getD, List.getElem?_eq_getElem h']; rfl

set_option maxRecDepth 100000 in
set_option maxHeartbeats 2000000 in
theorem isKey_any (s : ByteArray) (hsz : s.size ≤ 1000000000000) (w : World) :
    Calls Tryd.prog 44 #[.string s] w fun e w' => e = .returned (.bool (keyB s)) ∧ w = w' := by
  go_enter Tryd.func44, Tryd.ntmps44
  go_wp2_with fail
  go_loopg [3, 4] s.size (fun g i _ wr => ∃ k : Nat, k + g = s.size ∧ i = .int .i64 k ∧ keyTo s k = true ∧ w = wr)
  case atStart => exact ⟨0, by omega, rfl, rfl, rfl⟩
  case round =>
    obtain ⟨k, hk, rfl, hkey, rfl⟩ := hrel
    have HK := Lib.hid hkey
    clear hkey
    by_cases hg : gk = 0
    · obtain rfl : k = s.size := by omega
      by_cases h0 : s.size = 0
      · have e0 : s = ⟨#[]⟩ := by
          obtain ⟨⟨l⟩⟩ := s
          have : l = [] := List.eq_nil_of_length_eq_zero h0
          rw [this]
        subst e0
        go_wp2_with fail
        go_ret
        exact ⟨rfl, rfl⟩
      · have hne : s.toList.isEmpty = false := by
          rw [ByteArray.toList_eq]
          cases hl : s.data.toList with
          | nil => exact absurd (show s.data.toList.length = 0 by rw [hl]; rfl) h0
          | cons _ _ => rfl
        go_wp2_with fail
        go_ret
        refine ⟨?_, rfl⟩
        have e1 : keyB s = decide ((s.size : Int) ≤ 40) := by
          have h1 : decide (1 ≤ s.size) = true := by simp; omega
          rw [keyB, HK.out, h1, Bool.true_and, Bool.true_and, Bool.eq_iff_iff]; simp; omega
        rw [e1]; rfl
    · have hlt : k < s.size := by omega
      have HG := Lib.hid (show keyTo s (k + 1) = (keyTo s k && keyByte k s[k].toNat) by rw [keyTo, getD_byte s k hlt])
      go_upto_region 5 with fail
      generalize s[k].toNat = n at *
      go_cut [40] (fun s40 wx => s40 = .bool (!keyByte k n) ∧ w = wx)
      case first =>
        by_cases c1 : n < 97
        · by_cases ck : k ≤ 0
          · have HV := Lib.hid (show keyByte k n = false by simp [keyByte]; omega)
            go_wp2_with fail
            go_meet
            exact ⟨by rw [HV.out]; first | rfl | (simp; omega), rfl⟩
          · have ck' : 0 < k := by omega
            by_cases c2 : n < 48
            · by_cases c3 : n = 45
              · have b3 : ((n : Int) == 45) = true := by simp; omega
                have HV := Lib.hid (show keyByte k n = true by simp [keyByte]; omega)
                go_wp2_with fail
                go_meet
                exact ⟨by rw [HV.out]; first | rfl | (simp; omega), rfl⟩
              · have b3 : ((n : Int) == 45) = false := by simp; omega
                have b4 : ((n : Int) == 95) = false := by simp; omega
                have HV := Lib.hid (show keyByte k n = false by simp [keyByte]; omega)
                go_wp2_with fail
                go_meet
                exact ⟨by rw [HV.out]; first | rfl | (simp; omega), rfl⟩
            · by_cases c3 : n ≤ 57
              · have HV := Lib.hid (show keyByte k n = true by simp [keyByte]; omega)
                go_wp2_with fail
                go_meet
                exact ⟨by rw [HV.out]; first | rfl | (simp; omega), rfl⟩
              · have b3 : ((n : Int) == 45) = false := by simp; omega
                by_cases c4 : n = 95
                · have b4 : ((n : Int) == 95) = true := by simp; omega
                  have HV := Lib.hid (show keyByte k n = true by simp [keyByte]; omega)
                  go_wp2_with fail
                  go_meet
                  exact ⟨by rw [HV.out]; first | rfl | (simp; omega), rfl⟩
                · have b4 : ((n : Int) == 95) = false := by simp; omega
                  have HV := Lib.hid (show keyByte k n = false by simp [keyByte]; omega)
                  go_wp2_with fail
                  go_meet
                  exact ⟨by rw [HV.out]; first | rfl | (simp; omega), rfl⟩
        · by_cases c2 : n ≤ 122
          · have HV := Lib.hid (show keyByte k n = true by simp [keyByte]; omega)
            go_wp2_with fail
            go_meet
            exact ⟨by rw [HV.out]; first | rfl | (simp; omega), rfl⟩
          · by_cases ck : k ≤ 0
            · have HV := Lib.hid (show keyByte k n = false by simp [keyByte]; omega)
              go_wp2_with fail
              go_meet
              exact ⟨by rw [HV.out]; first | rfl | (simp; omega), rfl⟩
            · have ck' : 0 < k := by omega
              have b3 : ((n : Int) == 45) = false := by simp; omega
              have b4 : ((n : Int) == 95) = false := by simp; omega
              have HV := Lib.hid (show keyByte k n = false by simp [keyByte]; omega)
              go_wp2_with fail
              go_meet
              exact ⟨by rw [HV.out]; first | rfl | (simp; omega), rfl⟩
      case rest =>
        obtain ⟨rfl, rfl⟩ := hcut
        rcases Bool.eq_false_or_eq_true (keyByte k n) with c | c
        · rw [c]
          go_wp2_with fail
          go_roundg (gk - 1)
          case measure => omega
          case rel => exact ⟨k + 1, by omega, by go_num, by rw [HG.out, HK.out, c]; rfl, rfl⟩
        · rw [c]
          go_wp2_with fail
          go_ret
          refine ⟨?_, rfl⟩
          have : keyB s = false := keyB_no s (show k + 1 ≤ s.size by omega) (by rw [HG.out, c, Bool.and_false])
          rw [this]; rfl

/-! ### A string all of whose bytes lie in a set -/
theorem dropWhile_nil {α : Type} (p : α → Bool) : ∀ l : List α, (l.dropWhile p).isEmpty = l.all p
  | [] => rfl
  | x :: l => by
    rw [List.dropWhile_cons, List.all_cons]
    cases h : p x with
    | true => simpa using dropWhile_nil p l
    | false => simp
theorem dropWhile_head {α : Type} (p : α → Bool) : ∀ (l : List α) (x : α) (r : List α), l.dropWhile p = x :: r → p x = false
  | [], x, r, h => by simp at h
  | y :: l, x, r, h => by
    rw [List.dropWhile_cons] at h
    cases hy : p y with
    | true => rw [hy] at h; exact dropWhile_head p l x r (by simpa using h)
    | false => rw [hy] at h; simp at h; rw [← h.1]; exact hy
theorem trimS_empty (l cs : List UInt8) : (Lib.trimS l cs).isEmpty = l.all (cs.contains ·) := by
  unfold Lib.trimS Lib.trimLeftS Lib.trimRightS
  rw [dropWhile_nil, List.all_reverse]
  cases h : l.reverse.dropWhile (cs.contains ·) with
  | nil =>
    have := dropWhile_nil (cs.contains ·) l.reverse
    rw [h, List.all_reverse] at this
    rw [← this]; rfl
  | cons x r =>
    have h1 := dropWhile_head _ _ _ _ h
    have h2 := dropWhile_nil (cs.contains ·) l.reverse
    rw [h, List.all_reverse] at h2
    rw [List.all_cons, h1, ← h2]; rfl

def smallL : List UInt8 := [97, 98, 99, 100, 101, 102, 103, 104, 105, 106, 107, 108, 109, 110, 111, 112, 113, 114, 115, 116, 117, 118, 119, 120, 121, 122]
def keySet : List UInt8 := [97, 98, 99, 100, 101, 102, 103, 104, 105, 106, 107, 108, 109, 110, 111, 112, 113, 114, 115, 116, 117, 118, 119, 120, 121, 122, 48, 49, 50, 51, 52, 53, 54, 55, 56, 57, 45, 95]
theorem keySet_byte : ∀ n, n < 256 → keySet.contains (UInt8.ofNat n) = keyByte 1 n := by decide +kernel
theorem small_byte : ∀ n, n < 256 → decide (0 ≤ Lib.indexByte smallL (UInt8.ofNat n)) = keyByte 0 n := by decide +kernel
theorem keyByte_pos (i n : Nat) (h : 0 < i) : keyByte i n = keyByte 1 n := by simp [keyByte, h]
theorem keyByte_zero (n : Nat) (h : keyByte 0 n = true) : keyByte 1 n = true := by simp [keyByte] at h ⊢; omega
theorem ofNat_toNat8 (b : UInt8) : UInt8.ofNat b.toNat = b := by simp
/-- A key, told by its head and by the set of all its bytes. -/
theorem keyTo_all (s : ByteArray) (x : UInt8) (r : List UInt8) (h : s.data.toList = x :: r) : ∀ k, k ≤ r.length → keyTo s (k + 1) = (keyByte 0 x.toNat && (r.take k).all (keySet.contains ·))
  | 0, _ => by simp [keyTo, h]
  | k + 1, hk => by
    rw [keyTo, keyTo_all s x r h k (by omega), h]
    have hg : (x :: r).getD (k + 1) 0 = r[k]'(by omega) := by simp [List.getD, List.getElem?_eq_getElem (show k < r.length by omega)]
    rw [hg, keyByte_pos (k + 1) _ (by omega), ← keySet_byte _ (UInt8.toNat_lt _), ofNat_toNat8, List.take_succ_eq_append_getElem (by omega), List.all_append, List.all_cons, List.all_nil, Bool.and_true, Bool.and_assoc]
theorem keyB_eq (s : ByteArray) (x : UInt8) (r : List UInt8) (h : s.data.toList = x :: r) (h40 : s.size ≤ 40) :
    keyB s = ((x :: r).all (keySet.contains ·) && decide (0 ≤ Lib.indexByte smallL x)) := by
  have hl : s.size = r.length + 1 := by show s.data.toList.length = _; rw [h]; rfl
  have h1 : decide (1 ≤ s.size) = true := by simp; omega
  have h2 : decide (s.size ≤ 40) = true := by simpa using h40
  rw [keyB, h1, h2, Bool.and_true, Bool.and_true, hl, keyTo_all s x r h r.length (Nat.le_refl _), List.take_length, List.all_cons]
  have e := small_byte x.toNat (UInt8.toNat_lt _)
  have e2 := keySet_byte x.toNat (UInt8.toNat_lt _)
  rw [ofNat_toNat8] at e e2
  rw [e, e2]
  cases h0 : keyByte 0 x.toNat with
  | false => simp
  | true => rw [keyByte_zero _ h0]; simp

theorem mk_toList (l : List UInt8) : (ByteArray.mk l.toArray).toList = l := by rw [ByteArray.toList_eq]

set_option maxRecDepth 100000 in
set_option maxHeartbeats 1000000 in
theorem Key_any (s : ByteArray) (hsz : s.size ≤ 1000000000000) (w : World) :
    Calls Tryd.prog 38 #[.string s] w fun e w' => e = .returned (.bool (keyB s)) ∧ Below w.heap.size w w' := by
  rcases Bool.eq_false_or_eq_true (outsideB (s.size : Int) 1 40) with o | o
  · have HV := Lib.hid (show keyB s = false by
      simp [outsideB] at o
      have : (decide (1 ≤ s.size) && decide (s.size ≤ 40)) = false := by simp; omega
      rw [keyB, Bool.and_assoc, this, Bool.and_false])
    go_enter Tryd.func38, Tryd.ntmps38
    go_wp2_with fail
    refine (in_any _ _ _ _).mono ?_
    rintro e w' ⟨rfl, rfl⟩
    rw [o]
    go_wp2_with fail
    go_ret
    exact ⟨by rw [HV.out]; rfl, Below.refl _ _⟩
  · have hb : 1 ≤ s.size ∧ s.size ≤ 40 := by simp [outsideB] at o; omega
    obtain ⟨hb1, hb2⟩ := hb
    obtain ⟨x, r, hl⟩ : ∃ x r, s.data.toList = x :: r := by
      cases hl : s.data.toList with
      | nil => exact absurd (show s.data.toList.length = 0 by rw [hl]; rfl) (by show s.size ≠ 0; omega)
      | cons x r => exact ⟨x, r, rfl⟩
    have hx : s[0]'(by omega) = x := by rw [← getD_byte s 0 (by omega), hl]; rfl
    have HV := Lib.hid (keyB_eq s x r hl hb2)
    have HT := Lib.hid (show (Lib.trimS s.data.toList keySet).isEmpty = (x :: r).all (keySet.contains ·) by rw [trimS_empty, hl])
    clear hl
    go_enter Tryd.func38, Tryd.ntmps38
    go_wp2_with fail
    refine (in_any _ _ _ _).mono ?_
    rintro e w' ⟨rfl, rfl⟩
    rw [o]
    go_wp2_with fail
    refine (Any.strings_Trim_laid Tryd.lays160 (by kernel_rfl) s ⟨keySet.toArray⟩ w (by omega) (by decide) (ascii_of_all (by decide))).mono ?_
    rintro e w1 ⟨rfl, hb⟩
    have hq : (ByteArray.mk (Lib.trimS s.data.toList keySet).toArray).toList.isEmpty = (x :: r).all (keySet.contains ·) := by rw [mk_toList]; exact HT.out
    generalize ByteArray.mk (Lib.trimS s.data.toList keySet).toArray = tr at *
    rcases Bool.eq_false_or_eq_true ((x :: r).all (keySet.contains ·)) with c | c
    · rw [c] at hq HV
      clear c HT
      go_wp2_with fail
      refine (Tryd.strings_IndexByte ⟨smallL.toArray⟩ (x.toNat : Int) w1).mono ?_
      rintro e w2 ⟨rfl, rfl⟩
      rw [show ((x.toNat : Int).toNat.toUInt8) = x by simp]
      go_wp2_with fail
      go_ret
      exact ⟨by rw [HV.out, Bool.true_and]; rfl, hb⟩
    · rw [c] at hq HV
      clear c HT
      go_wp2_with fail
      go_ret
      exact ⟨by rw [HV.out]; rfl, hb⟩
end Go.Proofs.YtoleejecmefogaaDoor
/- Keys: the walks of Keys, told in trees. -/
namespace Go.Proofs.YtoleejecmefogaaDoor
open Go
set_option linter.unusedVariables false
set_option linter.unusedSimpArgs false
theorem acalls_pure {P : Program} {f : Nat} (hok : fnOk P f = true) (xs : List Value) {v : Value} (h1 : v.oneCell' = true) (hc : ∀ w, Calls P f xs.toArray w fun e w' => e = .returned v ∧ RowKit.Below w.heap.size w w') (h : Hp) : ACalls P f (xs.map .v) h (fun r h' => r = .v v ∧ h' = h) := by
  refine ⟨hok, fun G w vs hs hl ha => ?_⟩
  have e : vs = xs.toArray := by
    apply Array.ext
    · simpa using hl
    · intro j hj hj'
      have hjx : j < (xs.map AV.v).length := by rw [← hl]; exact hj
      have := ha j hjx
      simp only [List.getElem_map] at this
      have h2 : vs.getD j undef = vs[j] := by simp [Array.getD, hj]
      rw [h2] at this
      simp only [List.getElem_toArray]
      generalize vs[j] = y at this
      cases this
      rfl
  subst e
  refine (hc w).mono ?_
  rintro _ w' ⟨rfl, hb⟩
  have hb' : ∀ b, b < w.heap.size → w'.heap[b]? = w.heap[b]? := fun b hb2 => hb.block b hb2
  exact ⟨_, h, G, v, rfl, ⟨rfl, rfl⟩, GLe.refl _, Fr.below (Fr.refl _ _ _) hb' hb.os hb.tape hb.output hb.size, hs.below hb', .v _ h1⟩
theorem a_isKey (s : ByteArray) (hs : s.size ≤ 1000000000000) (h : Hp) : ACalls Tryd.prog 44 [.v (.string s)] h (fun r h' => r = .v (.bool (keyB s)) ∧ h' = h) :=
  acalls_pure (by kernel_rfl) [.string s] rfl (fun w => (isKey_any s hs w).mono fun e w' ⟨h1, h2⟩ => ⟨h1, by subst h2; exact ⟨rfl, rfl, rfl, Nat.le_refl _, fun _ _ => rfl⟩⟩) h
theorem a_key (s : ByteArray) (hs : s.size ≤ 1000000000000) (h : Hp) : ACalls Tryd.prog 38 [.v (.string s)] h (fun r h' => r = .v (.bool (keyB s)) ∧ h' = h) :=
  acalls_pure (by kernel_rfl) [.string s] rfl (fun w => Key_any s hs w) h
end Go.Proofs.YtoleejecmefogaaDoor
/- Small functions of the reference. -/
namespace Go.Proofs.YtoleejecmefogaaDoor
open Go
set_option linter.unusedVariables false
set_option linter.unusedSimpArgs false
set_option maxRecDepth 100000
theorem a_in (x lo hi : Int) (h : Hp) : ACalls Tryd.prog 37 [.v (.int .i64 x), .v (.int .i64 lo), .v (.int .i64 hi)] h (fun r h' => r = .v (.bool (decide (lo ≤ x) && decide (x ≤ hi))) ∧ h' = h) := by
  refine acalls_of tyok Tryd.func37 rfl (by kernel_rfl) fun c => ?_; simp only [Tryd.ntmps37, List.length_cons, List.length_nil, Nat.reduceAdd, Nat.reduceSub, jnk_rep, List.cons_append, List.nil_append]
  (repeat (first | (with_reducible first | refine wB ?_ | refine wN ?_) | ((with_reducible refine wI ?_); refine wN ?_) | ((with_reducible first | refine kS ?_ | refine kR ?_ | refine wG ?_) <;> ((try with_reducible intro K1 hK1); simp only [go_sem, ↓reduceIte, reduceCtorEq, Nat.reduceAdd, Nat.reduceSub, Nat.reduceMul, Nat.reduceLT, Nat.reduceLeDiff, Nat.reduceEqDiff]; (try and_intros); all_goals first | (refine hK1 _ ?_; clear hK1 K1) | (intros; first | (with_reducible trivial) | omega | (simp_all <;> omega)) | skip)) | (with_reducible first | refine wQ ?_ | refine zS ?_ | refine zN ?_)))
  refine zR ?_; (repeat (with_reducible first | refine zT ?_ | refine zU ?_)); simp only [Tryd.results37, go_sem, ↓reduceIte, reduceCtorEq, Nat.reduceAdd, Nat.reduceSub, Nat.reduceMul, Nat.reduceLT, Nat.reduceLeDiff, Nat.reduceEqDiff]
  exact ⟨_, _, Weak.refl _, Hp.le.refl _, rfl, rfl⟩
theorem a_when (b : Bool) (e : Int) (h : Hp) : ACalls Tryd.prog 10 [.v (.bool b), .v (.int .i64 e)] h (fun r h' => r = .v (.int .i64 (if b then e else 0)) ∧ h' = h) := by
  refine acalls_of tyok Tryd.func10 rfl (by kernel_rfl) fun c => ?_; simp only [Tryd.ntmps10, List.length_cons, List.length_nil, Nat.reduceAdd, Nat.reduceSub, jnk_rep, List.cons_append, List.nil_append]
  (repeat (first | (with_reducible first | refine wB ?_ | refine wN ?_) | ((with_reducible refine wI ?_); refine wN ?_) | ((with_reducible first | refine kS ?_ | refine kR ?_ | refine wG ?_) <;> ((try with_reducible intro K1 hK1); simp only [go_sem, ↓reduceIte, reduceCtorEq, Nat.reduceAdd, Nat.reduceSub, Nat.reduceMul, Nat.reduceLT, Nat.reduceLeDiff, Nat.reduceEqDiff]; (try and_intros); all_goals first | (refine hK1 _ ?_; clear hK1 K1) | (intros; first | (with_reducible trivial) | omega | (simp_all <;> omega)) | skip)) | (with_reducible first | refine wQ ?_ | refine zS ?_ | refine zN ?_)))
  refine awp_cond (t := _) rfl (fun h1 => ?_) (fun h1 => ?_)
  · subst h1
    (repeat (first | (with_reducible first | refine wB ?_ | refine wN ?_) | ((with_reducible refine wI ?_); refine wN ?_) | ((with_reducible first | refine kS ?_ | refine kR ?_ | refine wG ?_) <;> ((try with_reducible intro K1 hK1); simp only [go_sem, ↓reduceIte, reduceCtorEq, Nat.reduceAdd, Nat.reduceSub, Nat.reduceMul, Nat.reduceLT, Nat.reduceLeDiff, Nat.reduceEqDiff]; (try and_intros); all_goals first | (refine hK1 _ ?_; clear hK1 K1) | (intros; first | (with_reducible trivial) | omega | (simp_all <;> omega)) | skip)) | (with_reducible first | refine wQ ?_ | refine zS ?_ | refine zN ?_)))
    refine zR ?_; (repeat (with_reducible first | refine zT ?_ | refine zU ?_)); simp only [Tryd.results10, go_sem, ↓reduceIte, reduceCtorEq, Nat.reduceAdd, Nat.reduceSub, Nat.reduceMul, Nat.reduceLT, Nat.reduceLeDiff, Nat.reduceEqDiff]
    exact ⟨_, _, Weak.refl _, Hp.le.refl _, rfl, rfl⟩
  · subst h1
    (repeat (first | (with_reducible first | refine wB ?_ | refine wN ?_) | ((with_reducible refine wI ?_); refine wN ?_) | ((with_reducible first | refine kS ?_ | refine kR ?_ | refine wG ?_) <;> ((try with_reducible intro K1 hK1); simp only [go_sem, ↓reduceIte, reduceCtorEq, Nat.reduceAdd, Nat.reduceSub, Nat.reduceMul, Nat.reduceLT, Nat.reduceLeDiff, Nat.reduceEqDiff]; (try and_intros); all_goals first | (refine hK1 _ ?_; clear hK1 K1) | (intros; first | (with_reducible trivial) | omega | (simp_all <;> omega)) | skip)) | (with_reducible first | refine wQ ?_ | refine zS ?_ | refine zN ?_)))
    refine zR ?_; (repeat (with_reducible first | refine zT ?_ | refine zU ?_)); simp only [Tryd.results10, go_sem, ↓reduceIte, reduceCtorEq, Nat.reduceAdd, Nat.reduceSub, Nat.reduceMul, Nat.reduceLT, Nat.reduceLeDiff, Nat.reduceEqDiff]
    exact ⟨_, _, Weak.refl _, Hp.le.refl _, rfl, rfl⟩
theorem a_full (i : Nat) (xs : List (List AV)) (k : Option Nat) (most : Int) (h : Hp) (hi : h.H i = some (.cells [.row 2 xs k, .v (.int .i64 most)])) : ACalls Tryd.prog 28 [.ptr i 0] h (fun r h' => r = .v (.bool (decide (most < xs.length))) ∧ h' = h) := by
  refine acalls_of tyok Tryd.func28 rfl (by kernel_rfl) fun c => ?_; simp only [Tryd.ntmps28, List.length_cons, List.length_nil, Nat.reduceAdd, Nat.reduceSub, jnk_rep, List.cons_append, List.nil_append]
  (repeat (first | (with_reducible first | refine wB ?_ | refine wN ?_ | refine wT ?_) | ((with_reducible refine wI ?_); refine wN ?_) | ((first | (with_reducible first | refine kS ?_ | refine kR ?_ | refine wG ?_ | refine wH ?_ | refine wM ?_ ?_) | ((with_reducible refine xS ?_); refine uD 1 (mdL []) [0, 1, 2, 3, 4, 5, 6, 7, 8, 9, 10] [] 13 rfl (by kernel_rfl) ?_)) <;> ((try with_reducible intro K1 hK1); simp only [go_sem, ↓reduceIte, reduceCtorEq, Nat.reduceAdd, Nat.reduceSub, Nat.reduceMul, Nat.reduceLT, Nat.reduceLeDiff, Nat.reduceEqDiff, hi]; (try and_intros); all_goals first | (refine hK1 _ ?_; clear hK1 K1) | (intros; first | (with_reducible trivial) | omega | (simp_all <;> omega)) | skip)) | (with_reducible first | refine wQ ?_ | refine zS ?_ | refine zN ?_)))
  refine zR ?_; (repeat (with_reducible first | refine zT ?_ | refine zU ?_)); simp only [Tryd.results28, go_sem, ↓reduceIte, reduceCtorEq, Nat.reduceAdd, Nat.reduceSub, Nat.reduceMul, Nat.reduceLT, Nat.reduceLeDiff, Nat.reduceEqDiff]
  exact ⟨_, _, Weak.refl _, Hp.le.refl _, rfl, rfl⟩
end Go.Proofs.YtoleejecmefogaaDoor
/- slices.IndexFunc, slices.ContainsFunc: whatever the function does. -/
namespace Go.Proofs.YtoleejecmefogaaDoor
open Go
set_option linter.unusedVariables false
set_option linter.unusedSimpArgs false
set_option maxRecDepth 100000
set_option maxHeartbeats 8000000
def aggOf (cs : List AV) : AV := .agg cs
def oneOf (cs : List AV) : AV := cs.getD 0 .junk
theorem g_index51 (fid : Nat) (caps : List AV) (xs : List (List AV)) (hx : ∀ j, j < xs.length → (xs.getD j []).length = 6) (hl : xs.length ≤ 100000) (I P : Nat → Hp → Prop) (h : Hp) (h0 : I 0 h)
    (step : ∀ j h, j < xs.length → I j h → ACalls Tryd.prog fid (aggOf (xs.getD j []) :: caps) h (fun r h' => ∃ b, r = .v (.bool b) ∧ (b = true → P j h') ∧ (b = false → I (j + 1) h'))) :
    ACalls Tryd.prog 51 [.row 6 xs none, .fn fid caps] h (fun r h' => (∃ j : Nat, j < xs.length ∧ r = .v (.int .i64 j) ∧ P j h') ∨ r = .v (.int .i64 (-1)) ∧ I xs.length h') := by
  refine acalls_of tyok Tryd.func51 rfl (by kernel_rfl) fun c => ?_; simp only [Tryd.ntmps51, List.length_cons, List.length_nil, Nat.reduceAdd, Nat.reduceSub, jnk_rep, List.cons_append, List.nil_append]
  (repeat (first | (with_reducible first | refine wB ?_ | refine wN ?_) | ((with_reducible refine wI ?_); refine wN ?_) | ((with_reducible first | refine kS ?_ | refine kR ?_ | refine wG ?_) <;> ((try with_reducible intro K1 hK1); simp only [go_sem, ↓reduceIte, reduceCtorEq, Nat.reduceAdd, Nat.reduceSub, Nat.reduceMul, Nat.reduceLT, Nat.reduceLeDiff, Nat.reduceEqDiff]; (try and_intros); all_goals first | (refine hK1 _ ?_; clear hK1 K1) | (intros; first | (with_reducible trivial) | omega | (simp_all <;> omega)) | skip)) | (with_reducible first | refine wQ ?_ | refine zS ?_ | refine zN ?_ | refine zX ?_ | refine zE ?_ | refine zF ?_ | refine zO (by decide) ?_ | refine zB ?_)))
  refine awp_loopC (rl false [0, 2, 5, 2, 10]) 0 (fun g s => ∃ (j : Nat) (h' : Hp), g + j = xs.length ∧ I j h' ∧ s = ⟨((.row 6 xs none) :: (.fn fid caps) :: (jnk 5 ((.v (.int .i64 xs.length)) :: (.v (.int .i64 j)) :: (jnk 10 [])))), [], h'⟩) xs.length ⟨0, h, by omega, h0, rfl⟩ ?_
  rintro g _ ⟨j, h', hj, hI, rfl⟩
  (repeat (first | (with_reducible first | refine wB ?_ | refine wN ?_) | ((with_reducible refine wI ?_); refine wN ?_) | ((with_reducible first | refine kS ?_ | refine kR ?_ | refine wG ?_) <;> ((try with_reducible intro K1 hK1); simp only [go_sem, ↓reduceIte, reduceCtorEq, Nat.reduceAdd, Nat.reduceSub, Nat.reduceMul, Nat.reduceLT, Nat.reduceLeDiff, Nat.reduceEqDiff]; (try and_intros); all_goals first | (refine hK1 _ ?_; clear hK1 K1) | (intros; first | (with_reducible trivial) | omega | (simp_all <;> omega)) | skip)) | (with_reducible first | refine wQ ?_ | refine zS ?_ | refine zN ?_ | refine zX ?_ | refine zE ?_ | refine zF ?_ | refine zO (by decide) ?_ | refine zB ?_)))
  refine awp_cond (t := _) rfl (fun h1 => ?_) (fun h1 => ?_)
  · simp only [decide_eq_true_eq] at h1
    have hjk : j < xs.length := by omega
    have hlen := hx j hjk
    have st := step j h' hjk hI
    (repeat (first | (with_reducible first | refine wB ?_ | refine wN ?_) | ((with_reducible refine wI ?_); refine wN ?_) | ((with_reducible first | refine kS ?_ | refine kR ?_ | refine wG ?_) <;> ((try with_reducible intro K1 hK1); simp only [go_sem, ↓reduceIte, reduceCtorEq, Nat.reduceAdd, Nat.reduceSub, Nat.reduceMul, Nat.reduceLT, Nat.reduceLeDiff, Nat.reduceEqDiff, Int.toNat_natCast, hlen]; (try and_intros); all_goals first | (refine hK1 _ ?_; clear hK1 K1) | (intros; first | (with_reducible trivial) | omega | (simp_all <;> omega)) | skip)) | (with_reducible first | refine wQ ?_ | refine zS ?_ | refine zN ?_ | refine zX ?_ | refine zE ?_ | refine zF ?_ | refine zO (by decide) ?_ | refine zB ?_)))
    rw [show List.take 6 (xs.getD j []) = xs.getD j [] from List.take_of_length_le (Nat.le_of_eq hlen)]
    refine st.mono ?_; rintro _ _ ⟨b, rfl, hb1, hb2⟩; refine hK1 _ ?_; clear hK1 K1
    (repeat (first | (with_reducible first | refine wB ?_ | refine wN ?_) | ((with_reducible refine wI ?_); refine wN ?_) | ((with_reducible first | refine kS ?_ | refine kR ?_ | refine wG ?_) <;> ((try with_reducible intro K1 hK1); simp only [go_sem, ↓reduceIte, reduceCtorEq, Nat.reduceAdd, Nat.reduceSub, Nat.reduceMul, Nat.reduceLT, Nat.reduceLeDiff, Nat.reduceEqDiff]; (try and_intros); all_goals first | (refine hK1 _ ?_; clear hK1 K1) | (intros; first | (with_reducible trivial) | omega | (simp_all <;> omega)) | skip)) | (with_reducible first | refine wQ ?_ | refine zS ?_ | refine zN ?_ | refine zX ?_ | refine zE ?_ | refine zF ?_ | refine zO (by decide) ?_ | refine zB ?_)))
    refine awp_cond (t := _) rfl (fun h2 => ?_) (fun h2 => ?_)
    · (repeat (first | (with_reducible first | refine wB ?_ | refine wN ?_) | ((with_reducible refine wI ?_); refine wN ?_) | ((with_reducible first | refine kS ?_ | refine kR ?_ | refine wG ?_) <;> ((try with_reducible intro K1 hK1); simp only [go_sem, ↓reduceIte, reduceCtorEq, Nat.reduceAdd, Nat.reduceSub, Nat.reduceMul, Nat.reduceLT, Nat.reduceLeDiff, Nat.reduceEqDiff]; (try and_intros); all_goals first | (refine hK1 _ ?_; clear hK1 K1) | (intros; first | (with_reducible trivial) | omega | (simp_all <;> omega)) | skip)) | (with_reducible first | refine wQ ?_ | refine zS ?_ | refine zN ?_ | refine zX ?_ | refine zE ?_ | refine zF ?_ | refine zO (by decide) ?_ | refine zB ?_)))
      refine zR ?_; (repeat (with_reducible first | refine zT ?_ | refine zU ?_)); simp only [Tryd.results51, go_sem, ↓reduceIte, reduceCtorEq, Nat.reduceAdd, Nat.reduceSub, Nat.reduceMul, Nat.reduceLT, Nat.reduceLeDiff, Nat.reduceEqDiff]
      exact ⟨_, _, Weak.refl _, Hp.le.refl _, .inl ⟨j, hjk, rfl, hb1 h2⟩⟩
    · (repeat (first | (with_reducible first | refine wB ?_ | refine wN ?_) | ((with_reducible refine wI ?_); refine wN ?_) | ((with_reducible first | refine kS ?_ | refine kR ?_ | refine wG ?_) <;> ((try with_reducible intro K1 hK1); simp only [go_sem, ↓reduceIte, reduceCtorEq, Nat.reduceAdd, Nat.reduceSub, Nat.reduceMul, Nat.reduceLT, Nat.reduceLeDiff, Nat.reduceEqDiff]; (try and_intros); all_goals first | (refine hK1 _ ?_; clear hK1 K1) | (intros; first | (with_reducible trivial) | omega | (simp_all <;> omega)) | skip)) | (with_reducible first | refine wQ ?_ | refine zS ?_ | refine zN ?_ | refine zX ?_ | refine zE ?_ | refine zF ?_ | refine zO (by decide) ?_ | refine zB ?_)))
      exact ⟨g - 1, by omega, j + 1, _, by omega, hb2 h2, rfl⟩
  · simp only [decide_eq_false_iff_not] at h1
    have hjk : j = xs.length := by omega
    subst hjk
    (repeat (first | (with_reducible first | refine wB ?_ | refine wN ?_) | ((with_reducible refine wI ?_); refine wN ?_) | ((with_reducible first | refine kS ?_ | refine kR ?_ | refine wG ?_) <;> ((try with_reducible intro K1 hK1); simp only [go_sem, ↓reduceIte, reduceCtorEq, Nat.reduceAdd, Nat.reduceSub, Nat.reduceMul, Nat.reduceLT, Nat.reduceLeDiff, Nat.reduceEqDiff]; (try and_intros); all_goals first | (refine hK1 _ ?_; clear hK1 K1) | (intros; first | (with_reducible trivial) | omega | (simp_all <;> omega)) | skip)) | (with_reducible first | refine wQ ?_ | refine zS ?_ | refine zN ?_ | refine zX ?_ | refine zE ?_ | refine zF ?_ | refine zO (by decide) ?_ | refine zB ?_)))
    refine zR ?_; (repeat (with_reducible first | refine zT ?_ | refine zU ?_)); simp only [Tryd.results51, go_sem, ↓reduceIte, reduceCtorEq, Nat.reduceAdd, Nat.reduceSub, Nat.reduceMul, Nat.reduceLT, Nat.reduceLeDiff, Nat.reduceEqDiff]
    exact ⟨_, _, Weak.refl _, Hp.le.refl _, .inr ⟨rfl, hI⟩⟩
theorem g_contains41 (fid : Nat) (caps : List AV) (xs : List (List AV)) (hx : ∀ j, j < xs.length → (xs.getD j []).length = 6) (hl : xs.length ≤ 100000) (I P : Nat → Hp → Prop) (h : Hp) (h0 : I 0 h)
    (step : ∀ j h, j < xs.length → I j h → ACalls Tryd.prog fid (aggOf (xs.getD j []) :: caps) h (fun r h' => ∃ b, r = .v (.bool b) ∧ (b = true → P j h') ∧ (b = false → I (j + 1) h'))) :
    ACalls Tryd.prog 41 [.row 6 xs none, .fn fid caps] h (fun r h' => (∃ j : Nat, j < xs.length ∧ r = .v (.bool true) ∧ P j h') ∨ r = .v (.bool false) ∧ I xs.length h') := by
  refine acalls_of tyok Tryd.func41 rfl (by kernel_rfl) fun c => ?_; simp only [Tryd.ntmps41, List.length_cons, List.length_nil, Nat.reduceAdd, Nat.reduceSub, jnk_rep, List.cons_append, List.nil_append]
  (repeat (first | (with_reducible first | refine wB ?_ | refine wN ?_) | ((with_reducible refine wI ?_); refine wN ?_) | ((with_reducible first | refine kS ?_ | refine kR ?_ | refine wG ?_) <;> ((try with_reducible intro K1 hK1); simp only [go_sem, ↓reduceIte, reduceCtorEq, Nat.reduceAdd, Nat.reduceSub, Nat.reduceMul, Nat.reduceLT, Nat.reduceLeDiff, Nat.reduceEqDiff]; (try and_intros); all_goals first | (refine hK1 _ ?_; clear hK1 K1) | (intros; first | (with_reducible trivial) | omega | (simp_all <;> omega)) | skip)) | (with_reducible first | refine wQ ?_ | refine zS ?_ | refine zN ?_)))
  refine (g_index51 fid caps xs hx hl I P h h0 step).mono ?_
  rintro _ h' (⟨j, hj, rfl, hp⟩ | ⟨rfl, hi⟩)
  · refine hK1 _ ?_; clear hK1 K1
    (repeat (first | (with_reducible first | refine wB ?_ | refine wN ?_) | ((with_reducible refine wI ?_); refine wN ?_) | ((with_reducible first | refine kS ?_ | refine kR ?_ | refine wG ?_) <;> ((try with_reducible intro K1 hK1); simp only [go_sem, ↓reduceIte, reduceCtorEq, Nat.reduceAdd, Nat.reduceSub, Nat.reduceMul, Nat.reduceLT, Nat.reduceLeDiff, Nat.reduceEqDiff]; (try and_intros); all_goals first | (refine hK1 _ ?_; clear hK1 K1) | (intros; first | (with_reducible trivial) | omega | (simp_all <;> omega)) | skip)) | (with_reducible first | refine wQ ?_ | refine zS ?_ | refine zN ?_)))
    refine zR ?_; (repeat (with_reducible first | refine zT ?_ | refine zU ?_)); simp only [Tryd.results41, go_sem, ↓reduceIte, reduceCtorEq, Nat.reduceAdd, Nat.reduceSub, Nat.reduceMul, Nat.reduceLT, Nat.reduceLeDiff, Nat.reduceEqDiff]
    exact ⟨_, _, Weak.refl _, Hp.le.refl _, .inl ⟨j, hj, by simp, hp⟩⟩
  · refine hK1 _ ?_; clear hK1 K1
    (repeat (first | (with_reducible first | refine wB ?_ | refine wN ?_) | ((with_reducible refine wI ?_); refine wN ?_) | ((with_reducible first | refine kS ?_ | refine kR ?_ | refine wG ?_) <;> ((try with_reducible intro K1 hK1); simp only [go_sem, ↓reduceIte, reduceCtorEq, Nat.reduceAdd, Nat.reduceSub, Nat.reduceMul, Nat.reduceLT, Nat.reduceLeDiff, Nat.reduceEqDiff]; (try and_intros); all_goals first | (refine hK1 _ ?_; clear hK1 K1) | (intros; first | (with_reducible trivial) | omega | (simp_all <;> omega)) | skip)) | (with_reducible first | refine wQ ?_ | refine zS ?_ | refine zN ?_)))
    refine zR ?_; (repeat (with_reducible first | refine zT ?_ | refine zU ?_)); simp only [Tryd.results41, go_sem, ↓reduceIte, reduceCtorEq, Nat.reduceAdd, Nat.reduceSub, Nat.reduceMul, Nat.reduceLT, Nat.reduceLeDiff, Nat.reduceEqDiff]
    exact ⟨_, _, Weak.refl _, Hp.le.refl _, .inr ⟨by simp, hi⟩⟩
theorem g_index50 (fid : Nat) (caps : List AV) (xs : List Int) (hl : xs.length ≤ 100000) (I P : Nat → Hp → Prop) (h : Hp) (h0 : I 0 h)
    (step : ∀ j h, j < xs.length → I j h → ACalls Tryd.prog fid (.v (.int .i64 (xs.getD j 0)) :: caps) h (fun r h' => ∃ b, r = .v (.bool b) ∧ (b = true → P j h') ∧ (b = false → I (j + 1) h'))) :
    ACalls Tryd.prog 50 [.row 1 (xs.map encI) none, .fn fid caps] h (fun r h' => (∃ j : Nat, j < xs.length ∧ r = .v (.int .i64 j) ∧ P j h') ∨ r = .v (.int .i64 (-1)) ∧ I xs.length h') := by
  refine acalls_of tyok Tryd.func50 rfl (by kernel_rfl) fun c => ?_; simp only [Tryd.ntmps50, List.length_cons, List.length_nil, Nat.reduceAdd, Nat.reduceSub, jnk_rep, List.cons_append, List.nil_append]
  (repeat (first | (with_reducible first | refine wB ?_ | refine wN ?_) | ((with_reducible refine wI ?_); refine wN ?_) | ((with_reducible first | refine kS ?_ | refine kR ?_ | refine wG ?_) <;> ((try with_reducible intro K1 hK1); simp only [go_sem, ↓reduceIte, reduceCtorEq, Nat.reduceAdd, Nat.reduceSub, Nat.reduceMul, Nat.reduceLT, Nat.reduceLeDiff, Nat.reduceEqDiff]; (try and_intros); all_goals first | (refine hK1 _ ?_; clear hK1 K1) | (intros; first | (with_reducible trivial) | omega | (simp_all <;> omega)) | skip)) | (with_reducible first | refine wQ ?_ | refine zS ?_ | refine zN ?_ | refine zX ?_ | refine zE ?_ | refine zF ?_ | refine zO (by decide) ?_ | refine zB ?_)))
  refine awp_loopC (rl false [0, 2, 5, 2, 10]) 0 (fun g s => ∃ (j : Nat) (h' : Hp), g + j = xs.length ∧ I j h' ∧ s = ⟨((.row 1 (xs.map encI) none) :: (.fn fid caps) :: (jnk 5 ((.v (.int .i64 xs.length)) :: (.v (.int .i64 j)) :: (jnk 10 [])))), [], h'⟩) xs.length ⟨0, h, by omega, h0, rfl⟩ ?_
  rintro g _ ⟨j, h', hj, hI, rfl⟩
  (repeat (first | (with_reducible first | refine wB ?_ | refine wN ?_) | ((with_reducible refine wI ?_); refine wN ?_) | ((with_reducible first | refine kS ?_ | refine kR ?_ | refine wG ?_) <;> ((try with_reducible intro K1 hK1); simp only [go_sem, ↓reduceIte, reduceCtorEq, Nat.reduceAdd, Nat.reduceSub, Nat.reduceMul, Nat.reduceLT, Nat.reduceLeDiff, Nat.reduceEqDiff]; (try and_intros); all_goals first | (refine hK1 _ ?_; clear hK1 K1) | (intros; first | (with_reducible trivial) | omega | (simp_all <;> omega)) | skip)) | (with_reducible first | refine wQ ?_ | refine zS ?_ | refine zN ?_ | refine zX ?_ | refine zE ?_ | refine zF ?_ | refine zO (by decide) ?_ | refine zB ?_)))
  refine awp_cond (t := _) rfl (fun h1 => ?_) (fun h1 => ?_)
  · simp only [decide_eq_true_eq] at h1
    have hjk : j < xs.length := by omega
    have hg : (xs.map encI).getD j [] = encI (xs.getD j 0) := getD_enc encI xs j 0 hjk
    have st := step j h' hjk hI
    (repeat (first | (with_reducible first | refine wB ?_ | refine wN ?_) | ((with_reducible refine wI ?_); refine wN ?_) | ((with_reducible first | refine kS ?_ | refine kR ?_ | refine wG ?_) <;> ((try with_reducible intro K1 hK1); simp only [go_sem, ↓reduceIte, reduceCtorEq, Nat.reduceAdd, Nat.reduceSub, Nat.reduceMul, Nat.reduceLT, Nat.reduceLeDiff, Nat.reduceEqDiff, Int.toNat_natCast, hg, encI]; (try and_intros); all_goals first | (refine hK1 _ ?_; clear hK1 K1) | (intros; first | (with_reducible trivial) | omega | (simp_all <;> omega)) | skip)) | (with_reducible first | refine wQ ?_ | refine zS ?_ | refine zN ?_ | refine zX ?_ | refine zE ?_ | refine zF ?_ | refine zO (by decide) ?_ | refine zB ?_)))
    refine st.mono ?_; rintro _ _ ⟨b, rfl, hb1, hb2⟩; refine hK1 _ ?_; clear hK1 K1
    (repeat (first | (with_reducible first | refine wB ?_ | refine wN ?_) | ((with_reducible refine wI ?_); refine wN ?_) | ((with_reducible first | refine kS ?_ | refine kR ?_ | refine wG ?_) <;> ((try with_reducible intro K1 hK1); simp only [go_sem, ↓reduceIte, reduceCtorEq, Nat.reduceAdd, Nat.reduceSub, Nat.reduceMul, Nat.reduceLT, Nat.reduceLeDiff, Nat.reduceEqDiff]; (try and_intros); all_goals first | (refine hK1 _ ?_; clear hK1 K1) | (intros; first | (with_reducible trivial) | omega | (simp_all <;> omega)) | skip)) | (with_reducible first | refine wQ ?_ | refine zS ?_ | refine zN ?_ | refine zX ?_ | refine zE ?_ | refine zF ?_ | refine zO (by decide) ?_ | refine zB ?_)))
    refine awp_cond (t := _) rfl (fun h2 => ?_) (fun h2 => ?_)
    · (repeat (first | (with_reducible first | refine wB ?_ | refine wN ?_) | ((with_reducible refine wI ?_); refine wN ?_) | ((with_reducible first | refine kS ?_ | refine kR ?_ | refine wG ?_) <;> ((try with_reducible intro K1 hK1); simp only [go_sem, ↓reduceIte, reduceCtorEq, Nat.reduceAdd, Nat.reduceSub, Nat.reduceMul, Nat.reduceLT, Nat.reduceLeDiff, Nat.reduceEqDiff]; (try and_intros); all_goals first | (refine hK1 _ ?_; clear hK1 K1) | (intros; first | (with_reducible trivial) | omega | (simp_all <;> omega)) | skip)) | (with_reducible first | refine wQ ?_ | refine zS ?_ | refine zN ?_ | refine zX ?_ | refine zE ?_ | refine zF ?_ | refine zO (by decide) ?_ | refine zB ?_)))
      refine zR ?_; (repeat (with_reducible first | refine zT ?_ | refine zU ?_)); simp only [Tryd.results50, go_sem, ↓reduceIte, reduceCtorEq, Nat.reduceAdd, Nat.reduceSub, Nat.reduceMul, Nat.reduceLT, Nat.reduceLeDiff, Nat.reduceEqDiff]
      exact ⟨_, _, Weak.refl _, Hp.le.refl _, .inl ⟨j, hjk, rfl, hb1 h2⟩⟩
    · (repeat (first | (with_reducible first | refine wB ?_ | refine wN ?_) | ((with_reducible refine wI ?_); refine wN ?_) | ((with_reducible first | refine kS ?_ | refine kR ?_ | refine wG ?_) <;> ((try with_reducible intro K1 hK1); simp only [go_sem, ↓reduceIte, reduceCtorEq, Nat.reduceAdd, Nat.reduceSub, Nat.reduceMul, Nat.reduceLT, Nat.reduceLeDiff, Nat.reduceEqDiff]; (try and_intros); all_goals first | (refine hK1 _ ?_; clear hK1 K1) | (intros; first | (with_reducible trivial) | omega | (simp_all <;> omega)) | skip)) | (with_reducible first | refine wQ ?_ | refine zS ?_ | refine zN ?_ | refine zX ?_ | refine zE ?_ | refine zF ?_ | refine zO (by decide) ?_ | refine zB ?_)))
      exact ⟨g - 1, by omega, j + 1, _, by omega, hb2 h2, rfl⟩
  · simp only [decide_eq_false_iff_not] at h1
    have hjk : j = xs.length := by omega
    subst hjk
    (repeat (first | (with_reducible first | refine wB ?_ | refine wN ?_) | ((with_reducible refine wI ?_); refine wN ?_) | ((with_reducible first | refine kS ?_ | refine kR ?_ | refine wG ?_) <;> ((try with_reducible intro K1 hK1); simp only [go_sem, ↓reduceIte, reduceCtorEq, Nat.reduceAdd, Nat.reduceSub, Nat.reduceMul, Nat.reduceLT, Nat.reduceLeDiff, Nat.reduceEqDiff]; (try and_intros); all_goals first | (refine hK1 _ ?_; clear hK1 K1) | (intros; first | (with_reducible trivial) | omega | (simp_all <;> omega)) | skip)) | (with_reducible first | refine wQ ?_ | refine zS ?_ | refine zN ?_ | refine zX ?_ | refine zE ?_ | refine zF ?_ | refine zO (by decide) ?_ | refine zB ?_)))
    refine zR ?_; (repeat (with_reducible first | refine zT ?_ | refine zU ?_)); simp only [Tryd.results50, go_sem, ↓reduceIte, reduceCtorEq, Nat.reduceAdd, Nat.reduceSub, Nat.reduceMul, Nat.reduceLT, Nat.reduceLeDiff, Nat.reduceEqDiff]
    exact ⟨_, _, Weak.refl _, Hp.le.refl _, .inr ⟨rfl, hI⟩⟩
theorem g_contains39 (fid : Nat) (caps : List AV) (xs : List Int) (hl : xs.length ≤ 100000) (I P : Nat → Hp → Prop) (h : Hp) (h0 : I 0 h)
    (step : ∀ j h, j < xs.length → I j h → ACalls Tryd.prog fid (.v (.int .i64 (xs.getD j 0)) :: caps) h (fun r h' => ∃ b, r = .v (.bool b) ∧ (b = true → P j h') ∧ (b = false → I (j + 1) h'))) :
    ACalls Tryd.prog 39 [.row 1 (xs.map encI) none, .fn fid caps] h (fun r h' => (∃ j : Nat, j < xs.length ∧ r = .v (.bool true) ∧ P j h') ∨ r = .v (.bool false) ∧ I xs.length h') := by
  refine acalls_of tyok Tryd.func39 rfl (by kernel_rfl) fun c => ?_; simp only [Tryd.ntmps39, List.length_cons, List.length_nil, Nat.reduceAdd, Nat.reduceSub, jnk_rep, List.cons_append, List.nil_append]
  (repeat (first | (with_reducible first | refine wB ?_ | refine wN ?_) | ((with_reducible refine wI ?_); refine wN ?_) | ((with_reducible first | refine kS ?_ | refine kR ?_ | refine wG ?_) <;> ((try with_reducible intro K1 hK1); simp only [go_sem, ↓reduceIte, reduceCtorEq, Nat.reduceAdd, Nat.reduceSub, Nat.reduceMul, Nat.reduceLT, Nat.reduceLeDiff, Nat.reduceEqDiff]; (try and_intros); all_goals first | (refine hK1 _ ?_; clear hK1 K1) | (intros; first | (with_reducible trivial) | omega | (simp_all <;> omega)) | skip)) | (with_reducible first | refine wQ ?_ | refine zS ?_ | refine zN ?_)))
  refine (g_index50 fid caps xs hl I P h h0 step).mono ?_
  rintro _ h' (⟨j, hj, rfl, hp⟩ | ⟨rfl, hi⟩)
  · refine hK1 _ ?_; clear hK1 K1
    (repeat (first | (with_reducible first | refine wB ?_ | refine wN ?_) | ((with_reducible refine wI ?_); refine wN ?_) | ((with_reducible first | refine kS ?_ | refine kR ?_ | refine wG ?_) <;> ((try with_reducible intro K1 hK1); simp only [go_sem, ↓reduceIte, reduceCtorEq, Nat.reduceAdd, Nat.reduceSub, Nat.reduceMul, Nat.reduceLT, Nat.reduceLeDiff, Nat.reduceEqDiff]; (try and_intros); all_goals first | (refine hK1 _ ?_; clear hK1 K1) | (intros; first | (with_reducible trivial) | omega | (simp_all <;> omega)) | skip)) | (with_reducible first | refine wQ ?_ | refine zS ?_ | refine zN ?_)))
    refine zR ?_; (repeat (with_reducible first | refine zT ?_ | refine zU ?_)); simp only [Tryd.results39, go_sem, ↓reduceIte, reduceCtorEq, Nat.reduceAdd, Nat.reduceSub, Nat.reduceMul, Nat.reduceLT, Nat.reduceLeDiff, Nat.reduceEqDiff]
    exact ⟨_, _, Weak.refl _, Hp.le.refl _, .inl ⟨j, hj, by simp, hp⟩⟩
  · refine hK1 _ ?_; clear hK1 K1
    (repeat (first | (with_reducible first | refine wB ?_ | refine wN ?_) | ((with_reducible refine wI ?_); refine wN ?_) | ((with_reducible first | refine kS ?_ | refine kR ?_ | refine wG ?_) <;> ((try with_reducible intro K1 hK1); simp only [go_sem, ↓reduceIte, reduceCtorEq, Nat.reduceAdd, Nat.reduceSub, Nat.reduceMul, Nat.reduceLT, Nat.reduceLeDiff, Nat.reduceEqDiff]; (try and_intros); all_goals first | (refine hK1 _ ?_; clear hK1 K1) | (intros; first | (with_reducible trivial) | omega | (simp_all <;> omega)) | skip)) | (with_reducible first | refine wQ ?_ | refine zS ?_ | refine zN ?_)))
    refine zR ?_; (repeat (with_reducible first | refine zT ?_ | refine zU ?_)); simp only [Tryd.results39, go_sem, ↓reduceIte, reduceCtorEq, Nat.reduceAdd, Nat.reduceSub, Nat.reduceMul, Nat.reduceLT, Nat.reduceLeDiff, Nat.reduceEqDiff]
    exact ⟨_, _, Weak.refl _, Hp.le.refl _, .inr ⟨by simp, hi⟩⟩
end Go.Proofs.YtoleejecmefogaaDoor
