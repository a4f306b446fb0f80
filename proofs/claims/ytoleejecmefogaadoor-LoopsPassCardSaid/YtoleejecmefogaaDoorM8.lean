/- loop.roundOf, loop.Round of a right loop that comes round; looped. -/
import Derived.Test.YtoleejecmefogaaDoorM7
namespace Go.Proofs.YtoleejecmefogaaDoor
open Go
set_option maxRecDepth 100000
set_option maxHeartbeats 8000000
theorem ru31SRoundOf {P Q X : Prop} (x : X) (q : Q) (h : X → Hold Q → P := by intro x0 q0; (repeat (first | (with_reducible refine awp_block ?_) | (with_reducible refine vRem_nil ?_) | (with_reducible refine vRst_nil ?_) | ((with_reducible refine vRem_id ?_); refine vRem_nil ?_) | ((first | ((with_reducible refine awp_idS (b := false) ?_); refine awp_seqR2 tyok (mdL [(6, 1)]) fun KN hKN => ?_) | ((with_reducible refine awp_idR (b := false) ?_); refine awp_region2 tyok (mdL [(6, 1)]) fun KN hKN => ?_) | ((with_reducible refine vRem_id ?_); refine vRem_go fun KN hKN => ?_) | ((with_reducible refine vRst_id ?_); refine vRst_go fun KN hKN => ?_) | ((with_reducible refine vMid_id ?_); refine vMid_go ?_ fun KN hKN => ?_) | ((with_reducible refine awp_idS (b := true) ?_); refine awp_seqD2 (id := 4) tyok (by kernel_rfl) (mdL [(6, 1)]) (E0 := [0, 1, 2, 3, 4, 5, 6, 7, 8, 9, 10]) (pl := []) 22 rfl (by kernel_rfl) fun KN hKN => ?_) | ((with_reducible refine awp_idR (b := true) ?_); refine awp_draw2 (id := 4) tyok (by kernel_rfl) (mdL [(6, 1)]) (E0 := [0, 1, 2, 3, 4, 5, 6, 7, 8, 9, 10]) (pl := []) 22 rfl (by kernel_rfl) fun KN hKN => ?_)) <;> (simp only [vOps, jnk_zero, jnk_jnk, getD_jnk_lt, getD_jnk_ge, set_jnk_lt, set_jnk_ge, Nat.reduceSub, Nat.reduceLT, Nat.reduceLeDiff, gStep, condG, qV, binV, vV, iV, sV, bV, nV, arV, pickE, joinA, joinOk, isOpt, vEff, binE, vBin, iBin, sBin, arith, nilOf, nBin, boolOk, convI, storeE, newE, sliceE, appE, lenE, minE, biE, bndE, cellsAt, ldOk, ld, TyD.isAgg, AV.shift, AV.isAddr, AV.cellsB, AV.noLoc, rowOf, litRow, fillA, opS, uside, unw, evL, cv, St.put, opsOf, Value.oneCell', vIdx, stepI, vRest, reL, reI, mdL, splice, bef, aft, isCallB, isCallV, ↓reduceIte, Nat.reduceAdd, reduceCtorEq, Nat.reduceEqDiff, Nat.reduceMul, lemA, lemT, x0]; (try and_intros); (all_goals first | (refine hKN _ ?_; clear hKN KN) | (first | exact True.intro | (intros; first | exact True.intro | (with_reducible assumption) | omega | (with_reducible rfl) | (with_reducible decide) | (simp_all; done) | (simp_all; omega))) | skip))) | (with_reducible refine awp_seq ?_) | (with_reducible refine awp_skip ?_) | (with_reducible refine awp_exit ?_) | (with_reducible refine thenQ_normal ?_) | (with_reducible refine inBlock_normal ?_) | (with_reducible refine thenQ_exit ?_) | (with_reducible refine inBlock_exit ?_) | (with_reducible refine inBlock_other (by decide) ?_))); (all_goals (try revert KN)); first | (exact q0.out; done) | (apply Hold.fst; exact q0; apply Hold.snd; exact q0; done) | (apply Hold.a; exact q0; apply Hold.b; exact q0; apply Hold.c; exact q0; done) | (apply Hold.a4; exact q0; apply Hold.b4; exact q0; apply Hold.c4; exact q0; apply Hold.d4; exact q0; done)) : P := h x ⟨q⟩
theorem passesU_ok (d : Nat) (t : LT) (hv : VL d t) (hf : Fits d t (ps0 t)) : ∀ n, PSB d t (passesU d t n).1 (passesU d t n).2.length ∧ Fits d t (passesU d t n).1
  | 0 => ⟨psb0 d t, hf⟩
  | n + 1 => by
    obtain ⟨h1, h2⟩ := passesU_ok d t hv hf n
    obtain ⟨q1, q2, q3⟩ := passU_ok d t _ _ hv h2 (by omega) h1
    exact ⟨by simp only [passesU, List.length_append]; exact_mod_cast q2, q3⟩
def roundC (n : Nat) (xs : List (ByteArray × Int)) : List AV := [.v (.int .i64 n), .row 2 (xs.map encStep) none, .v (.int .i64 (xs.map (·.2)).sum)]
theorem g_round52 (d : Nat) (t : LT) (h : Hp) (N : Nat) (hb : LC d t) (hv : VL d t) (h4 : N4 d t) (hN : 1 ≤ N ∧ N ≤ 5000) (hl : (passesU d t N).2.length ≤ 5000) (hh : homeF d t (passesU d t N).1 = true) (hn : ∀ n, 1 ≤ n → n < N → homeF d t (passesU d t n).1 = false)
    (hlong : ∀ x ∈ (passesU d t N).2, 0 ≤ x.2 ∧ x.2 ≤ 10000000) : ACalls Tryd.prog 52 [.agg (encL t)] h (fun r _ => r = .tup [.agg (roundC N (passesU d t N).2), .v (.int .i64 0)]) := by
  have hlen := encL_len t
  have htk : List.take 6 (encL t) = encL t := List.take_of_length_le (Nat.le_of_eq hlen)
  refine acalls_of tyok Tryd.func52 rfl (by kernel_rfl) fun c => ?_; simp only [Tryd.ntmps52, List.length_cons, List.length_nil, Nat.reduceAdd, Nat.reduceSub, jnk_rep, List.cons_append, List.nil_append]
  refine rrG (mdL [(2, 1), (6, 1), (8, 1), (12, 2)]) (And.intro hlen htk) ?_; (repeat' (with_reducible refine AndQ.mk ?_ ?_)); (all_goals (try ((with_reducible refine kin ?_); intro K1 hK1)))
  refine (g_newPart d t h hb).mono ?_
  rintro _ h1 ⟨a, rfl, hR, hS, hn1, hn2, hk1, hk2⟩
  refine hK1 _ ?_; clear hK1 K1
  first | (with_reducible refine vRem_nil ?_) | (with_reducible refine vRst_nil ?_) | ((with_reducible refine vRem_id ?_); refine vRem_nil ?_) | ((first | ((with_reducible refine awp_idS (b := false) ?_); refine awp_seqR2 tyok (mdL [(2, 1), (6, 1), (8, 1), (12, 2)]) fun K1 hK1 => ?_) | ((with_reducible refine awp_idR (b := false) ?_); refine awp_region2 tyok (mdL [(2, 1), (6, 1), (8, 1), (12, 2)]) fun K1 hK1 => ?_) | ((with_reducible refine vRem_id ?_); refine vRem_go fun K1 hK1 => ?_) | ((with_reducible refine vRst_id ?_); refine vRst_go fun K1 hK1 => ?_) | ((with_reducible refine vMid_id ?_); refine vMid_go ?_ fun K1 hK1 => ?_)) <;> (simp only [vOps, jnk_zero, jnk_jnk, getD_jnk_lt, getD_jnk_ge, set_jnk_lt, set_jnk_ge, Nat.reduceSub, Nat.reduceLT, Nat.reduceLeDiff, gStep, condG, qV, binV, vV, iV, sV, bV, nV, arV, pickE, joinA, joinOk, isOpt, vEff, binE, vBin, iBin, sBin, arith, nilOf, nBin, boolOk, convI, storeE, newE, sliceE, appE, lenE, minE, biE, bndE, cellsAt, ldOk, ld, TyD.isAgg, AV.shift, AV.isAddr, AV.cellsB, AV.noLoc, rowOf, litRow, fillA, opS, uside, unw, evL, cv, St.put, opsOf, Value.oneCell', vIdx, stepI, vRest, reL, reI, mdL, splice, bef, aft, isCallB, isCallV, ↓reduceIte, Nat.reduceAdd, reduceCtorEq, Nat.reduceEqDiff, Nat.reduceMul, lemA, lemT]; (try and_intros); (all_goals first | (refine hK1 _ ?_; clear hK1 K1) | (first | exact True.intro | (intros; first | exact True.intro | (with_reducible assumption) | omega | (with_reducible rfl) | (with_reducible decide) | (simp_all; done) | (simp_all; omega))) | skip)))
  intro o ho
  refine hK1 _ ?_; clear hK1 K1
  refine vRem_nil ?_
  refine awp_ownPtr (cs := [.v (.slice none 0 0), .v (.int .i64 5000)]) o 0 2 (upd_same _ _ _) rfl (fun k hk => ?_)
  simp only [List.set_cons_zero, upd_upd]
  replace hk : h1.T k = none := hk
  replace ho : h1.H o = none := ho
  have hoa : o ∉ idsT a := fun hx => hR.ne.1 o hx ho
  have hka : k ∉ toksT a := fun hx => hR.ne.2 k hx hk
  have hok := passesU_ok d t hv hR.fits
  refine rrG (mdL [(2, 1), (6, 1), (8, 1), (12, 2)]) trivial ?_; (repeat' (with_reducible refine AndQ.mk ?_ ?_)); (all_goals (try ((with_reducible refine kin ?_); intro K1 hK1)))
  refine awp_seq ?_
  refine awp_block ?_
  refine awp_loopC (rl false [2, 1, 1, 3, 50]) 2 (fun g s => ∃ (j : Nat) (h2 : Hp), g + j = N ∧ RAt XP h2 d t a (passesU d t j).1 ∧ OutAt h2 o k oEx (passesU d t j).2 ∧
    s = ⟨(AV.junk :: AV.junk :: ((.loc 0 0) :: AV.junk :: ((.ptr a.id 0) :: (.ptr o 0) :: (.loc 1 0) :: (jnk 50 [])))), [[.v (.int .i64 0), .v (.slice none 0 0), .v (.int .i64 0)], [.v (.int .i64 j), .v (.slice none 0 0), .v (.int .i64 0)]], h2⟩) N ⟨0, _, by omega, hR.frame (fun x hx => upd_other _ _ (fun e => by subst e; exact hoa hx)) (fun x hx => upd_other _ _ (fun e => by subst e; exact hka hx)), ⟨upd_same _ _ _, upd_same _ _ _⟩, rfl⟩ ?_
  rintro g _ ⟨j, h2, hj, hR2, hO2, rfl⟩
  have hlj : (passesU d t j).2.length ≤ 5000 := Nat.le_trans (passesU_mono d t (by omega)) hl
  refine rrG (mdL [(2, 1), (6, 1), (8, 1), (12, 2)]) trivial ?_; (repeat' (with_reducible refine AndQ.mk ?_ ?_)); (all_goals (try ((with_reducible refine kin ?_); intro K1 hK1)))
  refine awp_seq ?_
  refine awp_join (rl false [2, 1, 1, 3, 50]) 2 (fun s => j < N ∧ s = ⟨(AV.junk :: AV.junk :: ((.loc 0 0) :: AV.junk :: ((.ptr a.id 0) :: (.ptr o 0) :: (.loc 1 0) :: (jnk 50 [])))), [[.v (.int .i64 0), .v (.slice none 0 0), .v (.int .i64 0)], [.v (.int .i64 j), .v (.slice none 0 0), .v (.int .i64 0)]], h2⟩) ?_ ?_
  · by_cases hj0 : j = 0
    · have e0 : ((j : Int) == 0) = true := by simp; omega
      refine ruG (mdL [(2, 1), (6, 1), (8, 1), (12, 2)]) e0 ?_; (repeat' (with_reducible refine AndQ.mk ?_ ?_)); (all_goals (try ((with_reducible refine kin ?_); intro K1 hK1)))
      refine ⟨.v (.bool true), rfl, hK1 _ ?_⟩; clear hK1 K1
      refine ruG (mdL [(2, 1), (6, 1), (8, 1), (12, 2)]) e0 ?_; (repeat' (with_reducible refine AndQ.mk ?_ ?_)); (all_goals (try ((with_reducible refine kin ?_); intro K1 hK1)))
      refine awp_cond (t := _) rfl (fun _ => ?_) (fun h => by cases h)
      refine ruG (mdL [(2, 1), (6, 1), (8, 1), (12, 2)]) trivial ?_; (repeat' (with_reducible refine AndQ.mk ?_ ?_)); (all_goals (try ((with_reducible refine kin ?_); intro K1 hK1)))
      exact ⟨by omega, rfl⟩
    · have e0 : ((j : Int) == 0) = false := by simp; omega
      refine ruG (mdL [(2, 1), (6, 1), (8, 1), (12, 2)]) e0 ?_; (repeat' (with_reducible refine AndQ.mk ?_ ?_)); (all_goals (try ((with_reducible refine kin ?_); intro K1 hK1)))
      refine (g_begins61 d t a _ h2 hv h4 hR2 ((hok j).1.mono (by omega))).mono ?_; rintro _ hz ⟨rfl, hh⟩; refine ⟨rfl, hK1 _ ?_⟩; clear hK1 K1; rw [hh]; clear hh hz
      refine ruG (mdL [(2, 1), (6, 1), (8, 1), (12, 2)]) e0 ?_; (repeat' (with_reducible refine AndQ.mk ?_ ?_)); (all_goals (try ((with_reducible refine kin ?_); intro K1 hK1)))
      by_cases hjN : j = N
      · have eh : homeF d t (passesU d t j).1 = true := by rw [hjN]; exact hh
        refine awp_cond (t := _) rfl (fun h => by simp [eh] at h) (fun _ => ?_)
        have hO20 : h2.H o = some (.cells [.row 2 ((passesU d t j).2.map encStep) (some k), .v (.int .i64 5000)]) := hO2.1
        subst hjN
        generalize (passesU d t j).2 = xs at *
        refine rrG (mdL [(2, 1), (6, 1), (8, 1), (12, 2)]) hO20 ?_; (repeat' (with_reducible refine AndQ.mk ?_ ?_)); (all_goals (try ((with_reducible refine kin ?_); intro K1 hK1)))
        refine awp_seq ?_
        refine ruG (mdL [(2, 1), (6, 1), (8, 1), (12, 2)]) trivial ?_; (repeat' (with_reducible refine AndQ.mk ?_ ?_)); (all_goals (try ((with_reducible refine kin ?_); intro K1 hK1)))
        refine awp_loopC (rl false [2, 1, 3, 1, 36, 3, 11]) 2 (fun g s => ∃ m : Nat, g + m = xs.length ∧ s = ⟨(AV.junk :: AV.junk :: ((.loc 0 0) :: (jnk 3 ((.loc 1 0) :: (jnk 36 ((.row 2 (xs.map encStep) (some k)) :: (.v (.int .i64 xs.length)) :: (.v (.int .i64 m)) :: (jnk 11 []))))))),
          [[.v (.int .i64 0), .v (.slice none 0 0), .v (.int .i64 0)], [.v (.int .i64 j), .row 2 (xs.map encStep) (some k), .v (.int .i64 ((xs.map (·.2)).take m).sum)]], h2⟩) xs.length ⟨0, by omega, rfl⟩ ?_
        rintro g2 _ ⟨m, hm, rfl⟩
        have hsb : 0 ≤ ((xs.map (·.2)).take m).sum ∧ ((xs.map (·.2)).take m).sum ≤ 5000 * 10000000 := by
          have h9 := sum_bd (fun x : ByteArray × Int => x.2) 10000000 (by omega) (xs.take m) fun x hx => hlong x (List.mem_of_mem_take hx)
          rw [← List.map_take]
          have h10 : ((xs.take m).length : Int) ≤ 5000 := by simp; omega
          omega
        refine ruG (mdL [(2, 1), (6, 1), (8, 1), (12, 2)]) trivial ?_; (repeat' (with_reducible refine AndQ.mk ?_ ?_)); (all_goals (try ((with_reducible refine kin ?_); intro K1 hK1)))
        refine awp_cond (t := _) rfl (fun h9 => ?_) (fun h9 => ?_)
        · simp only [decide_eq_true_eq] at h9
          have hmx : m < xs.length := by omega
          have hgx : (xs.map encStep).getD m [] = encStep (xs.getD m default) := getD_enc encStep xs m default hmx
          have hxb := hlong _ (getD_mem' xs m default hmx)
          have e9 : ((xs.map (·.2)).take (m + 1)).sum = ((xs.map (·.2)).take m).sum + (xs.getD m default).2 := by
            rw [sum_take_succ _ _ (by simpa using hmx)]
            congr 1
            rw [List.getD_eq_getElem?_getD, List.getD_eq_getElem?_getD, List.getElem?_map, List.getElem?_eq_getElem hmx]; rfl
          generalize xs.getD m default = y at hgx hxb e9
          refine ruG (mdL [(2, 1), (6, 1), (8, 1), (12, 2)]) (And.intro @Int.toNat_natCast (And.intro hgx @encStep.eq_1)) ?_; (repeat' (with_reducible refine AndQ.mk ?_ ?_)); (all_goals (try ((with_reducible refine kin ?_); intro K1 hK1)))
          refine ⟨g2 - 1, by omega, m + 1, by omega, ?_⟩
          rw [e9]; rfl
        · simp only [decide_eq_false_iff_not] at h9
          have hmx : m = xs.length := by omega
          rw [List.take_of_length_le (by simp; omega)] at hsb ⊢
          refine ruG (mdL [(2, 1), (6, 1), (8, 1), (12, 2)]) trivial ?_; (repeat' (with_reducible refine AndQ.mk ?_ ?_)); (all_goals (try ((with_reducible refine kin ?_); intro K1 hK1)))
          refine rtG Tryd.results52 ?_
          refine ⟨_, _, Weak.tup1 (Weak.agg (.cons (Weak.refl _) (.cons (Weak.row _ _ _) (.cons (Weak.refl _) .nil)))) (Weak.refl _), Hp.le.refl _, rfl⟩
      · have eh : homeF d t (passesU d t j).1 = false := hn j (by omega) (by omega)
        refine awp_cond (t := _) rfl (fun _ => ?_) (fun h => by simp [eh] at h)
        refine ruG (mdL [(2, 1), (6, 1), (8, 1), (12, 2)]) trivial ?_; (repeat' (with_reducible refine AndQ.mk ?_ ?_)); (all_goals (try ((with_reducible refine kin ?_); intro K1 hK1)))
        exact ⟨by omega, rfl⟩
  · rintro _ ⟨hjN, rfl⟩
    refine ruG (mdL [(2, 1), (6, 1), (8, 1), (12, 2)]) trivial ?_; (repeat' (with_reducible refine AndQ.mk ?_ ?_)); (all_goals (try ((with_reducible refine kin ?_); intro K1 hK1)))
    refine (g_passP d t a _ h2 o k _ hv hR2 hS (hok j).1 hO2 hoa (by omega)).mono ?_
    rintro r h6 ⟨rfl, s2, out2, hR6, hO6, _, q1, q2, q3⟩
    have e5 : (passesU d t (j + 1)).2.length = (passesU d t j).2.length + (passU d t (passesU d t j).1).2.length := by simp only [passesU, List.length_append]
    have hl6 : (passesU d t (j + 1)).2.length ≤ 5000 := Nat.le_trans (passesU_mono d t (by omega)) hl
    obtain ⟨rfl, rfl⟩ := q2 hlj (by omega)
    refine hK1 _ ?_; clear hK1 K1
    refine ruG (mdL [(2, 1), (6, 1), (8, 1), (12, 2)]) trivial ?_; (repeat' (with_reducible refine AndQ.mk ?_ ?_)); (all_goals (try ((with_reducible refine kin ?_); intro K1 hK1)))
    refine (g_full28 o k h6 _ hO6).mono ?_; rintro _ hz ⟨rfl, hh⟩; refine hK1 _ ?_; clear hK1 K1; rw [hh]; clear hh hz
    have hnf : decide ((5000 : Int) < ((passesU d t j).2 ++ (passU d t (passesU d t j).1).2).length) = false := by simp only [decide_eq_false_iff_not, List.length_append]; omega
    have hnf2 : decide ((5000 : Int) < (j : Int) + 1) = false := by simp only [decide_eq_false_iff_not]; omega
    refine ruG (mdL [(2, 1), (6, 1), (8, 1), (12, 2)]) (And.intro hnf hnf2) ?_; (repeat' (with_reducible refine AndQ.mk ?_ ?_)); (all_goals (try ((with_reducible refine kin ?_); intro K1 hK1)))
    refine awp_cond (t := _) rfl (fun h => by cases h) (fun _ => ?_)
    refine ruG (mdL [(2, 1), (6, 1), (8, 1), (12, 2)]) trivial ?_; (repeat' (with_reducible refine AndQ.mk ?_ ?_)); (all_goals (try ((with_reducible refine kin ?_); intro K1 hK1)))
    exact ⟨g - 1, by omega, j + 1, h6, by omega, hR6, hO6, rfl⟩
theorem g_checked47 (d : Nat) (t : LT) (h : Hp) (N : Nat) (hb : LC d t) (hd : d ≤ 28) (hf : faultF t = 0) (h4 : N4 d t) (hN : 1 ≤ N ∧ N ≤ 5000) (hl : (passesU d t N).2.length ≤ 5000) (hh : homeF d t (passesU d t N).1 = true) (hn : ∀ n, 1 ≤ n → n < N → homeF d t (passesU d t n).1 = false)
    (hlong : ∀ x ∈ (passesU d t N).2, 0 ≤ x.2 ∧ x.2 ≤ 10000000) : ACalls Tryd.prog 47 [.agg (encL t)] h (fun r _ => r = .tup [.agg (roundC N (passesU d t N).2), .v (.int .i64 0)]) := by
  have hlen := encL_len t
  have htk : List.take 6 (encL t) = encL t := List.take_of_length_le (Nat.le_of_eq hlen)
  have hv : VL d t := vl_of d t hb (by unfold faultF at hf; split at hf; cases hf; exact hf)
  refine acalls_of tyok Tryd.func47 rfl (by kernel_rfl) fun c => ?_; simp only [Tryd.ntmps47, List.length_cons, List.length_nil, Nat.reduceAdd, Nat.reduceSub, jnk_rep, List.cons_append, List.nil_append]
  refine ruG (mdL [(2, 1)]) (And.intro hlen htk) ?_; (repeat' (with_reducible refine AndQ.mk ?_ ?_)); (all_goals (try ((with_reducible refine kin ?_); intro K1 hK1)))
  refine (g_check7 d t h hb hd).mono ?_; rintro _ hz ⟨rfl, hh⟩; refine hK1 _ ?_; clear hK1 K1; rw [hh]; clear hh hz
  refine ruG (mdL [(2, 1)]) (And.intro hlen (And.intro htk hf)) ?_; (repeat' (with_reducible refine AndQ.mk ?_ ?_)); (all_goals (try ((with_reducible refine kin ?_); intro K1 hK1)))
  refine awp_cond (t := _) rfl (fun h9 => by simp [hf] at h9) (fun _ => ?_)
  refine ruG (mdL [(2, 1)]) (And.intro hlen htk) ?_; (repeat' (with_reducible refine AndQ.mk ?_ ?_)); (all_goals (try ((with_reducible refine kin ?_); intro K1 hK1)))
  refine (g_round52 d t h N hb hv h4 hN hl hh hn hlong).mono ?_
  rintro _ h2 rfl
  refine hK1 _ ?_; clear hK1 K1
  refine ruG (mdL [(2, 1)]) @roundC.eq_1 ?_; (repeat' (with_reducible refine AndQ.mk ?_ ?_)); (all_goals (try ((with_reducible refine kin ?_); intro K1 hK1)))
  refine rtG Tryd.results47 ?_
  exact ⟨_, _, Weak.refl _, Hp.le.refl _, rfl⟩
theorem g_round31 (d : Nat) (t : LT) (h : Hp) (N : Nat) (hb : LC d t) (hd : d ≤ 28) (hf : faultF t = 0) (h4 : N4 d t) (hN : 1 ≤ N ∧ N ≤ 5000) (hl : (passesU d t N).2.length ≤ 5000) (hh : homeF d t (passesU d t N).1 = true) (hn : ∀ n, 1 ≤ n → n < N → homeF d t (passesU d t n).1 = false)
    (hlong : ∀ x ∈ (passesU d t N).2, 0 ≤ x.2 ∧ x.2 ≤ 10000000) : ACalls Tryd.prog 31 [.agg (encL t)] h (fun r _ => r = .tup [.v (.int .i64 N), .v (.int .i64 (passesU d t N).2.length), .v (.int .i64 ((passesU d t N).2.map (·.2)).sum), .v (.int .i64 0)]) := by
  have hlen := encL_len t
  have htk : List.take 6 (encL t) = encL t := List.take_of_length_le (Nat.le_of_eq hlen)
  refine acalls_of tyok Tryd.func31 rfl (by kernel_rfl) fun c => ?_; simp only [Tryd.ntmps31, List.length_cons, List.length_nil, Nat.reduceAdd, Nat.reduceSub, jnk_rep, List.cons_append, List.nil_append]
  refine ru31SRoundOf (And.intro hlen htk) ?_; (repeat' (with_reducible refine AndQ.mk ?_ ?_)); (all_goals (try ((with_reducible refine kin ?_); intro K1 hK1)))
  refine (g_checked47 d t h N hb hd hf h4 hN hl hh hn hlong).mono ?_
  rintro _ h2 rfl
  refine hK1 _ ?_; clear hK1 K1
  refine ru31SRoundOf @roundC.eq_1 ?_; (repeat' (with_reducible refine AndQ.mk ?_ ?_)); (all_goals (try ((with_reducible refine kin ?_); intro K1 hK1)))
  refine awp_cond (t := _) rfl (fun h9 => by cases h9) (fun _ => ?_)
  refine ru31SRoundOf @roundC.eq_1 ?_; (repeat' (with_reducible refine AndQ.mk ?_ ?_)); (all_goals (try ((with_reducible refine kin ?_); intro K1 hK1)))
  refine rtG Tryd.results31 ?_
  exact ⟨_, _, Weak.refl _, Hp.le.refl _, rfl⟩
end Go.Proofs.YtoleejecmefogaaDoor
/- signlaw1.looped: package loop plays. -/
namespace Go.Proofs.YtoleejecmefogaaDoor
open Go
set_option maxRecDepth 100000
set_option maxHeartbeats 8000000
theorem encX_weakL : ∀ (d : Nat) (t : LT), LC d t → ∀ (G : Gh) (us : List Value), RepL G (encX t) us → RepL G (encL t) us
  | 0, _, h => h.elim
  | d + 1, .mk kind item long many kids shares, hb => fun G us hu => by
    obtain ⟨b1, b2, b3, b4, b5, b6, b7, b8⟩ := hb
    rw [encX_eq] at hu
    rw [encL_eq]
    refine hu.of6 (fun _ h => h) (fun _ h => h) (fun _ h => h) (fun _ h => h) (fun x h => ?_) (fun x h => ?_)
    · have hz : ∀ y ∈ kids.map encX, y.length = 6 := fun y hy => by obtain ⟨t, _, rfl⟩ := List.mem_map.1 hy; exact encX_len t
      have hz' : ∀ y ∈ kids.map encL, y.length = 6 := fun y hy => by obtain ⟨t, _, rfl⟩ := List.mem_map.1 hy; exact encL_len t
      have key : Rep G (.row 6 (kids.map encX) none) x := by
        cases kids with
        | nil => exact Weak.nil 6 0 0 ⟨rfl, rfl⟩ G x h
        | cons y ys => exact h
      refine key.rowFlat (GLe.refl G) (by simp) hz' (RepL.flat (by simp) hz fun i a b us2 h2 => ?_)
      simp only [List.length_map] at a
      simp only [List.getElem_map] at h2 ⊢
      exact encX_weakL d _ (b8 _ (List.getElem_mem _)) G us2 h2
    · cases shares with
      | nil => exact Weak.nil 1 0 0 ⟨rfl, rfl⟩ G x h
      | cons y ys => exact h
theorem encX_weak (d : Nat) (t : LT) (hb : LC d t) : Weak (.agg (encX t)) (.agg (encL t)) := fun G v hr => by
  obtain ⟨vs, rfl, hvs⟩ := RepL.of_agg hr
  exact (encX_weakL d t hb G vs hvs).agg
def tA : LT := .mk 1 ⟨#[97]⟩ 5 0 [] []
def tB : LT := .mk 1 ⟨#[98]⟩ 7 0 [] []
def tL : LT := .mk 3 ⟨#[]⟩ 0 0 [tA, tB] []
theorem g_looped13 (h : Hp) : ACalls Tryd.prog 13 [] h (fun r _ => r = .v (.bool true)) := by
  have hLC : LC 2 tL := by
    refine ⟨by unfold NB; omega, by decide, by unfold NB; omega, by unfold NB; omega, by decide, by decide, by simp, fun k hk => ?_⟩
    simp only [List.mem_cons, List.not_mem_nil, or_false] at hk
    rcases hk with rfl | rfl
    · exact ⟨by unfold NB; omega, by decide, by unfold NB; omega, by unfold NB; omega, by decide, by decide, by simp, by simp⟩
    · exact ⟨by unfold NB; omega, by decide, by unfold NB; omega, by unfold NB; omega, by decide, by decide, by simp, by simp⟩
  have hf : faultF tL = 0 := by
    have h1 : manyF tL = 3 := by simp [tL, tA, tB, manyF_eq]
    have h2 : deepF tL = 2 := by simp [tL, tA, tB, deepF_eq]; rfl
    have ha : partF tA = 0 := by rw [tA, partF_eq]; rfl
    have hb : partF tB = 0 := by rw [tB, partF_eq]; rfl
    have h3 : partF tL = 0 := by
      rw [tL, partF_eq, List.map_cons, List.map_cons, List.map_nil, ha, hb]; rfl
    rw [faultF, h1, h2, h3]; rfl
  have hn4 : N4 2 tL := ⟨by decide, fun k hk => by
    simp only [List.mem_cons, List.not_mem_nil, or_false] at hk
    rcases hk with rfl | rfl
    · exact ⟨by decide, by simp⟩
    · exact ⟨by decide, by simp⟩⟩
  have hps0 : ps0 tL = .mk 0 [0, 0] [.mk 0 [] [], .mk 0 [] []] := by simp [tL, tA, tB, ps0_eq]
  have hp1 : passesU 2 tL 1 = (.mk 1 [1, 0] [.mk 1 [] [], .mk 0 [] []], [(⟨#[97]⟩, 5)]) := by
    show ((passU 2 tL (ps0 tL)).1, [] ++ (passU 2 tL (ps0 tL)).2) = _
    rw [hps0]; rfl
  have hp2 : passesU 2 tL 2 = (.mk 2 [1, 1] [.mk 1 [] [], .mk 1 [] []], [(⟨#[97]⟩, 5), (⟨#[98]⟩, 7)]) := by
    show ((passU 2 tL (passesU 2 tL 1).1).1, (passesU 2 tL 1).2 ++ (passU 2 tL (passesU 2 tL 1).1).2) = _
    rw [hp1]; rfl
  have hp := g_round31 2 tL h 2 hLC (by omega) hf hn4 (by omega) (by rw [hp2]; simp) (by rw [hp2]; rfl) (fun n h1 h2 => by
    have e : n = 1 := by omega
    rw [e, hp1]; rfl) (fun x hx => by
    rw [hp2] at hx
    simp only [List.mem_cons, List.not_mem_nil, or_false] at hx
    rcases hx with rfl | rfl <;> simp)
  rw [hp2] at hp
  have hpX := hp.weakArgs (args' := [.agg (encX tL)]) rfl (fun j a b => by
    simp only [List.length_cons, List.length_nil, Nat.zero_add, Nat.lt_one_iff] at a
    subst a
    exact encX_weak 2 tL hLC)
  have he : encX tL = [.v (.int .i64 3), .v (.string ⟨#[]⟩), .v (.int .i64 0), .v (.int .i64 0), .row 6 [[.v (.int .i64 1), .v (.string ⟨#[97]⟩), .v (.int .i64 5), .v (.int .i64 0), .v (.slice none 0 0), .v (.slice none 0 0)], [.v (.int .i64 1), .v (.string ⟨#[98]⟩), .v (.int .i64 7), .v (.int .i64 0), .v (.slice none 0 0), .v (.slice none 0 0)]] none, .v (.slice none 0 0)] := by
    simp [tL, tA, tB, encX_eq, nilOr]
  rw [he] at hpX
  refine acalls_of tyok Tryd.func13 rfl (by kernel_rfl) fun c => ?_; simp only [Tryd.ntmps13, List.length_cons, List.length_nil, Nat.reduceAdd, Nat.reduceSub, jnk_rep, List.cons_append, List.nil_append]
  refine ruG (mdL [(1, 1)]) trivial ?_; (repeat' (with_reducible refine AndQ.mk ?_ ?_)); (all_goals (try ((with_reducible refine kin ?_); intro K1 hK1)))
  refine hpX.mono ?_
  rintro _ h2 rfl
  refine hK1 _ ?_; clear hK1 K1
  refine ruG (mdL [(1, 1)]) trivial ?_; (repeat' (with_reducible refine AndQ.mk ?_ ?_)); (all_goals (try ((with_reducible refine kin ?_); intro K1 hK1)))
  refine rtG Tryd.results13 ?_
  exact ⟨_, _, Weak.refl _, Hp.le.refl _, by simp⟩
end Go.Proofs.YtoleejecmefogaaDoor
/- slices.Clone of shares and of kids. -/
namespace Go.Proofs.YtoleejecmefogaaDoor
open Go
set_option maxRecDepth 100000
theorem g_cloneNil32 (h : Hp) : ACalls Tryd.prog 32 [.v (.slice none 0 0)] h (fun r h' => r = .v (.slice none 0 0) ∧ h' = h) := by
  refine acalls_of tyok Tryd.func32 rfl (by kernel_rfl) fun c => ?_; simp only [Tryd.ntmps32, List.length_cons, List.length_nil, Nat.reduceAdd, Nat.reduceSub, jnk_rep, List.cons_append, List.nil_append]
  refine ruG (mdL [(5, 2)]) trivial ?_; (repeat' (with_reducible refine AndQ.mk ?_ ?_)); (all_goals (try ((with_reducible refine kin ?_); intro K1 hK1)))
  refine awp_cond (t := _) rfl (fun _ => ?_) (fun h1 => by cases h1)
  refine ruG (mdL [(5, 2)]) trivial ?_; (repeat' (with_reducible refine AndQ.mk ?_ ?_)); (all_goals (try ((with_reducible refine kin ?_); intro K1 hK1)))
  refine rtG Tryd.results32 ?_
  exact ⟨_, _, Weak.refl _, Hp.le.refl _, rfl, rfl⟩
theorem g_clone32 (x : List AV) (xs : List (List AV)) (k : Option Nat) (h : Hp) (hb : xs.length ≤ 1000) : ACalls Tryd.prog 32 [.row 1 (x :: xs) k] h (fun r h' => ∃ q, h.T q = none ∧ r = .row 1 (x :: xs) (some q) ∧ h' = { h with T := upd h.T q (some (.tail (xs.length + 1))) }) := by
  refine acalls_of tyok Tryd.func32 rfl (by kernel_rfl) fun c => ?_; simp only [Tryd.ntmps32, List.length_cons, List.length_nil, Nat.reduceAdd, Nat.reduceSub, jnk_rep, List.cons_append, List.nil_append]
  refine ruG (mdL [(5, 2)]) trivial ?_; (repeat' (with_reducible refine AndQ.mk ?_ ?_)); (all_goals (try ((with_reducible refine kin ?_); intro K1 hK1)))
  refine awp_cond (t := _) rfl (fun h1 => by cases h1) (fun _ => ?_)
  refine ruG (mdL [(5, 2)]) trivial ?_; (repeat' (with_reducible refine AndQ.mk ?_ ?_)); (all_goals (try ((with_reducible refine kin ?_); intro K1 hK1)))
  intro q hq
  and_intros <;> first | (refine hK1 _ ?_; clear hK1 K1) | exact .inl trivial | exact True.intro | omega
  refine ruG (mdL [(5, 2)]) trivial ?_; (repeat' (with_reducible refine AndQ.mk ?_ ?_)); (all_goals (try ((with_reducible refine kin ?_); intro K1 hK1)))
  refine rtG Tryd.results32 ?_
  exact ⟨_, _, Weak.refl _, Hp.le.refl _, q, hq, rfl, rfl⟩
theorem g_cloneNil33 (h : Hp) : ACalls Tryd.prog 33 [.v (.slice none 0 0)] h (fun r h' => r = .v (.slice none 0 0) ∧ h' = h) := by
  refine acalls_of tyok Tryd.func33 rfl (by kernel_rfl) fun c => ?_; simp only [Tryd.ntmps33, List.length_cons, List.length_nil, Nat.reduceAdd, Nat.reduceSub, jnk_rep, List.cons_append, List.nil_append]
  refine ruG (mdL [(5, 1)]) trivial ?_; (repeat' (with_reducible refine AndQ.mk ?_ ?_)); (all_goals (try ((with_reducible refine kin ?_); intro K1 hK1)))
  refine awp_cond (t := _) rfl (fun _ => ?_) (fun h1 => by cases h1)
  refine ruG (mdL [(5, 1)]) trivial ?_; (repeat' (with_reducible refine AndQ.mk ?_ ?_)); (all_goals (try ((with_reducible refine kin ?_); intro K1 hK1)))
  refine rtG Tryd.results33 ?_
  exact ⟨_, _, Weak.refl _, Hp.le.refl _, rfl, rfl⟩
theorem g_clone33 (x : List AV) (xs : List (List AV)) (k : Option Nat) (h : Hp) (hb : xs.length ≤ 1000) : ACalls Tryd.prog 33 [.row 6 (x :: xs) k] h (fun r h' => ∃ q, h.T q = none ∧ r = .arr 6 q (xs.length + 1) ∧ h' = { h with T := upd h.T q (some (.cont 6 (x :: xs))) }) := by
  refine acalls_of tyok Tryd.func33 rfl (by kernel_rfl) fun c => ?_; simp only [Tryd.ntmps33, List.length_cons, List.length_nil, Nat.reduceAdd, Nat.reduceSub, jnk_rep, List.cons_append, List.nil_append]
  refine ruG (mdL [(5, 1)]) trivial ?_; (repeat' (with_reducible refine AndQ.mk ?_ ?_)); (all_goals (try ((with_reducible refine kin ?_); intro K1 hK1)))
  refine awp_cond (t := _) rfl (fun h1 => by cases h1) (fun _ => ?_)
  refine ruG (mdL [(5, 1)]) trivial ?_; (repeat' (with_reducible refine AndQ.mk ?_ ?_)); (all_goals (try ((with_reducible refine kin ?_); intro K1 hK1)))
  intro q hq
  and_intros <;> first | (refine hK1 _ ?_; clear hK1 K1) | exact .inl trivial | exact True.intro | omega
  refine ruG (mdL [(5, 1)]) trivial ?_; (repeat' (with_reducible refine AndQ.mk ?_ ?_)); (all_goals (try ((with_reducible refine kin ?_); intro K1 hK1)))
  refine rtG Tryd.results33 ?_
  exact ⟨_, _, Weak.refl _, Hp.le.refl _, q, hq, rfl, rfl⟩
theorem g_cloneS (xs : List Int) (h : Hp) (hb : xs.length ≤ 1000) : ACalls Tryd.prog 32 [nilOr 1 (xs.map encI)] h (fun r h' => ∃ T', (∀ k, h.T k ≠ none → T' k = h.T k) ∧ h' = ⟨h.H, T'⟩ ∧
    (r = .v (.slice none 0 0) ∨ ∃ k, h.T k = none ∧ r = .row 1 (xs.map encI) (some k) ∧ T' k = some (.tail xs.length))) := by
  cases xs with
  | nil => exact (g_cloneNil32 h).mono fun r h' ⟨e, e'⟩ => ⟨h.T, fun _ _ => rfl, e', .inl e⟩
  | cons x xs =>
    refine (g_clone32 (encI x) (xs.map encI) none h (by simp at hb ⊢; omega)).mono ?_
    rintro r h' ⟨q, hq, rfl, rfl⟩
    exact ⟨_, fun k hk => upd_other _ _ (fun e => hk (e ▸ hq)), rfl, .inr ⟨q, hq, rfl, by rw [upd_same]; simp⟩⟩
theorem g_cloneK (ts : List LT) (h : Hp) (hb : ts.length ≤ 1000) : ACalls Tryd.prog 33 [nilOr 6 (ts.map encX)] h (fun r h' => ts = [] ∧ r = .v (.slice none 0 0) ∧ h' = h ∨ ∃ q, ts ≠ [] ∧ h.T q = none ∧ r = .arr 6 q ts.length ∧ h' = { h with T := upd h.T q (some (.cont 6 (ts.map encX))) }) := by
  cases ts with
  | nil => exact (g_cloneNil33 h).mono fun r h' ⟨e, e'⟩ => .inl ⟨rfl, e, e'⟩
  | cons x xs =>
    refine (g_clone33 (encX x) (xs.map encX) none h (by simp at hb ⊢; omega)).mono ?_
    rintro r h' ⟨q, hq, rfl, rfl⟩
    exact .inr ⟨q, by simp, hq, by simp, rfl⟩
end Go.Proofs.YtoleejecmefogaaDoor
/- signmake.copied: a loop in memory of its own. -/
namespace Go.Proofs.YtoleejecmefogaaDoor
open Go
set_option maxRecDepth 100000
set_option maxHeartbeats 8000000
theorem ru14SCopied {P Q X : Prop} (x : X) (q : Q) (h : X → Hold Q → P := by intro x0 q0; (repeat (first | (with_reducible refine awp_block ?_) | (with_reducible refine vRem_nil ?_) | (with_reducible refine vRst_nil ?_) | ((with_reducible refine vRem_id ?_); refine vRem_nil ?_) | ((first | ((with_reducible refine awp_idS (b := false) ?_); refine awp_seqR2 tyok (mdL [(1, 1), (2, 1)]) fun KN hKN => ?_) | ((with_reducible refine awp_idR (b := false) ?_); refine awp_region2 tyok (mdL [(1, 1), (2, 1)]) fun KN hKN => ?_) | ((with_reducible refine vRem_id ?_); refine vRem_go fun KN hKN => ?_) | ((with_reducible refine vRst_id ?_); refine vRst_go fun KN hKN => ?_) | ((with_reducible refine vMid_id ?_); refine vMid_go ?_ fun KN hKN => ?_) | ((with_reducible refine awp_idS (b := true) ?_); refine awp_seqD2 (id := 6) tyok (by kernel_rfl) (mdL [(1, 1), (2, 1)]) (E0 := [0, 1, 2, 3, 4, 5, 6, 7]) (pl := [(8, [1], [9]), (10, [], [])]) 30 rfl (by kernel_rfl) fun KN hKN => ?_) | ((with_reducible refine awp_idR (b := true) ?_); refine awp_draw2 (id := 6) tyok (by kernel_rfl) (mdL [(1, 1), (2, 1)]) (E0 := [0, 1, 2, 3, 4, 5, 6, 7]) (pl := [(8, [1], [9]), (10, [], [])]) 30 rfl (by kernel_rfl) fun KN hKN => ?_)) <;> (simp only [vOps, jnk_zero, jnk_jnk, getD_jnk_lt, getD_jnk_ge, set_jnk_lt, set_jnk_ge, Nat.reduceSub, Nat.reduceLT, Nat.reduceLeDiff, gStep, condG, qV, binV, vV, iV, sV, bV, nV, arV, pickE, joinA, joinOk, isOpt, vEff, binE, vBin, iBin, sBin, arith, nilOf, nBin, boolOk, convI, storeE, newE, sliceE, appE, lenE, minE, biE, bndE, cellsAt, ldOk, ld, TyD.isAgg, AV.shift, AV.isAddr, AV.cellsB, AV.noLoc, rowOf, litRow, fillA, opS, uside, unw, evL, cv, St.put, opsOf, Value.oneCell', vIdx, stepI, vRest, reL, reI, mdL, splice, bef, aft, isCallB, isCallV, ↓reduceIte, Nat.reduceAdd, reduceCtorEq, Nat.reduceEqDiff, Nat.reduceMul, lemA, lemT, x0]; (try and_intros); (all_goals first | (refine hKN _ ?_; clear hKN KN) | (first | exact True.intro | (intros; first | exact True.intro | (with_reducible assumption) | omega | (with_reducible rfl) | (with_reducible decide) | (simp_all; done) | (simp_all; omega))) | skip))) | (with_reducible refine awp_seq ?_) | (with_reducible refine awp_skip ?_) | (with_reducible refine awp_exit ?_) | (with_reducible refine thenQ_normal ?_) | (with_reducible refine inBlock_normal ?_) | (with_reducible refine thenQ_exit ?_) | (with_reducible refine inBlock_exit ?_) | (with_reducible refine inBlock_other (by decide) ?_))); (all_goals (try revert KN)); first | (exact q0.out; done) | (apply Hold.fst; exact q0; apply Hold.snd; exact q0; done) | (apply Hold.a; exact q0; apply Hold.b; exact q0; apply Hold.c; exact q0; done) | (apply Hold.a4; exact q0; apply Hold.b4; exact q0; apply Hold.c4; exact q0; apply Hold.d4; exact q0; done)) : P := h x ⟨q⟩
theorem splice_all {α : Type} {xs ys : List α} (h : xs.length = ys.length) : splice xs 0 ys = ys := by simp [splice, h]
def CopI (d : Nat) (kind : Int) (item : ByteArray) (long many : Int) (kids : List LT) (shares : List Int) (r : AV) (q : Nat) (h : Hp) (g : Nat) (s : St) : Prop :=
  ∃ (j : Nat) (T2 : Nat → Option TO) (css : List (List AV)), g + j = kids.length ∧ css.length = kids.length ∧ T2 q = some (.cont 6 css) ∧ (∀ i, i < j → OLd true T2 (fun k => h.T k = none ∧ k ≠ q) d (css.getD i [])) ∧ (∀ i, j ≤ i → i < kids.length → css.getD i [] = encX (kids.getD i default)) ∧
    (∀ k, h.T k ≠ none → T2 k = h.T k) ∧ (r = .v (.slice none 0 0) ∨ ∃ k, h.T k = none ∧ r = .row 1 (shares.map encI) (some k) ∧ T2 k = some (.tail shares.length)) ∧
    s = ⟨(AV.junk :: ((.loc 0 0) :: (.loc 1 0) :: (jnk 11 ((.v (.int .i64 kids.length)) :: (.v (.int .i64 j)) :: (jnk 14 []))))),
      [[.v (.int .i64 kind), .v (.string item), .v (.int .i64 long), .v (.int .i64 many), .arr 6 q kids.length, r], [.v (.int .i64 0), .v (.string { data := #[] }), .v (.int .i64 0), .v (.int .i64 0), .v (.slice none 0 0), .v (.slice none 0 0)]], ⟨h.H, T2⟩⟩
theorem g_copied : ∀ (d : Nat) (t : LT) (h : Hp), LB d t → ACalls Tryd.prog 14 [.agg (encX t)] h (fun r h' => ∃ cs T', OLd true T' (fun k => h.T k = none) d cs ∧ (∀ k, h.T k ≠ none → T' k = h.T k) ∧ r = .agg cs ∧ h' = ⟨h.H, T'⟩)
  | 0, _, _, hb => hb.elim
  | d + 1, .mk kind item long many kids shares, h, hb => by
    obtain ⟨b1, b2, b3, b4, b5, b6, b7, b8⟩ := hb
    rw [encX_eq]
    have o1 := nilOr_one 1 (shares.map encI)
    have o2 := nilOr_one 6 (kids.map encX)
    obtain ⟨u1, u2, u3, u4, u5⟩ := o1
    unfold uside at u1; unfold unw at u2; unfold AV.noLoc at u3; unfold isOpt at u4; simp only [AV.cellsB, Value.oneCell'] at u5
    obtain ⟨v1, v2, v3, v4, v5⟩ := o2
    unfold uside at v1; unfold unw at v2; unfold AV.noLoc at v3; unfold isOpt at v4; simp only [AV.cellsB, Value.oneCell'] at v5
    refine acalls_of tyok Tryd.func14 rfl (by kernel_rfl) fun c => ?_; simp only [Tryd.ntmps14, List.length_cons, List.length_nil, Nat.reduceAdd, Nat.reduceSub, jnk_rep, List.cons_append, List.nil_append]
    refine ru14SCopied (And.intro u1 (And.intro u2 (And.intro u3 (And.intro u4 (And.intro u5 (And.intro v1 (And.intro v2 (And.intro v3 (And.intro v4 v5))))))))) ?_; (repeat' (with_reducible refine AndQ.mk ?_ ?_)); (all_goals (try ((with_reducible refine kin ?_); intro K1 hK1)))
    refine (g_cloneS shares _ (by omega)).mono ?_
    rintro r _ ⟨T1, hT1, rfl, hS⟩
    have o3 : OneV r := by rcases hS with rfl | ⟨k, _, rfl, _⟩ <;> exact ⟨rfl, rfl, rfl, rfl, rfl⟩
    obtain ⟨w1, w2, w3, w4, w5⟩ := o3
    unfold uside at w1; unfold unw at w2; unfold AV.noLoc at w3; unfold isOpt at w4; simp only [AV.cellsB, Value.oneCell'] at w5
    refine hK1 _ ?_; clear hK1 K1
    refine ru14SCopied (And.intro u1 (And.intro u2 (And.intro u3 (And.intro u4 (And.intro u5 (And.intro v1 (And.intro v2 (And.intro v3 (And.intro v4 (And.intro v5 (And.intro w1 (And.intro w2 (And.intro w3 (And.intro w4 w5)))))))))))))) ?_; (repeat' (with_reducible refine AndQ.mk ?_ ?_)); (all_goals (try ((with_reducible refine kin ?_); intro K1 hK1)))
    refine (g_cloneK kids _ (by omega)).mono ?_
    rintro r2 _ (⟨hk0, rfl, rfl⟩ | ⟨q, hq0, hq, rfl, rfl⟩)
    · refine hK1 _ ?_; clear hK1 K1
      refine ru14SCopied (And.intro u1 (And.intro u2 (And.intro u3 (And.intro u4 (And.intro u5 (And.intro v1 (And.intro v2 (And.intro v3 (And.intro v4 (And.intro v5 (And.intro w1 (And.intro w2 (And.intro w3 (And.intro w4 w5)))))))))))))) ?_; (repeat' (with_reducible refine AndQ.mk ?_ ?_)); (all_goals (try ((with_reducible refine kin ?_); intro K1 hK1)))
      refine awp_loopC (rl false [1, 2, 11, 2, 14]) 2 (fun g s => s = ⟨(AV.junk :: ((.loc 0 0) :: (.loc 1 0) :: (jnk 11 ((.v (.int .i64 0)) :: (.v (.int .i64 0)) :: (jnk 14 []))))),
        [[.v (.int .i64 kind), .v (.string item), .v (.int .i64 long), .v (.int .i64 many), .v (.slice none 0 0), r], [.v (.int .i64 0), .v (.string { data := #[] }), .v (.int .i64 0), .v (.int .i64 0), .v (.slice none 0 0), .v (.slice none 0 0)]], ⟨h.H, T1⟩⟩) 0 rfl ?_
      rintro n _ rfl
      refine ru14SCopied (And.intro u1 (And.intro u2 (And.intro u3 (And.intro u4 (And.intro u5 (And.intro v1 (And.intro v2 (And.intro v3 (And.intro v4 (And.intro v5 (And.intro w1 (And.intro w2 (And.intro w3 (And.intro w4 w5)))))))))))))) ?_; (repeat' (with_reducible refine AndQ.mk ?_ ?_)); (all_goals (try ((with_reducible refine kin ?_); intro K1 hK1)))
      refine awp_cond (t := _) rfl (fun h1 => by cases h1) (fun _ => ?_)
      refine ru14SCopied (And.intro u1 (And.intro u2 (And.intro u3 (And.intro u4 (And.intro u5 (And.intro v1 (And.intro v2 (And.intro v3 (And.intro v4 (And.intro v5 (And.intro w1 (And.intro w2 (And.intro w3 (And.intro w4 w5)))))))))))))) ?_; (repeat' (with_reducible refine AndQ.mk ?_ ?_)); (all_goals (try ((with_reducible refine kin ?_); intro K1 hK1)))
      refine rtG (And.intro Tryd.results14 (And.intro u1 (And.intro u2 (And.intro u3 (And.intro u4 (And.intro u5 (And.intro v1 (And.intro v2 (And.intro v3 (And.intro v4 (And.intro v5 (And.intro w1 (And.intro w2 (And.intro w3 (And.intro w4 w5))))))))))))))) ?_
      refine ⟨_, _, Weak.refl _, Hp.le.refl _, _, T1, ⟨kind, item, long, many, .v (.slice none 0 0), r, rfl, ⟨b1, b2, b3, b4⟩, .inl rfl, ?_⟩, hT1, rfl, rfl⟩
      rcases hS with e | ⟨k, hk, e, hk2⟩
      · exact .inl e
      · exact .inr ⟨shares, k, e, by omega, b7, fun _ => ⟨hk, hk2, b6⟩⟩
    · refine hK1 _ ?_; clear hK1 K1
      have hq : T1 q = none := hq
      refine ru14SCopied (And.intro u1 (And.intro u2 (And.intro u3 (And.intro u4 (And.intro u5 (And.intro v1 (And.intro v2 (And.intro v3 (And.intro v4 (And.intro v5 (And.intro w1 (And.intro w2 (And.intro w3 (And.intro w4 w5)))))))))))))) ?_; (repeat' (with_reducible refine AndQ.mk ?_ ?_)); (all_goals (try ((with_reducible refine kin ?_); intro K1 hK1)))
      refine awp_loopC (rl false [1, 2, 11, 2, 14]) 2 (fun g s => CopI d kind item long many kids shares r q h g s) kids.length ⟨0, upd T1 q (some (.cont 6 (kids.map encX))), kids.map encX, by omega, by simp, upd_same _ _ _, fun i hi => by omega, fun i _ hi => getD_encX hi, fun k hk => ?_, ?_, rfl⟩ ?_
      · have hkq : k ≠ q := fun e => by subst e; rw [hT1 k hk] at hq; exact hk hq
        rw [upd_other _ _ hkq]; exact hT1 k hk
      · rcases hS with e | ⟨k, hk, e, hk2⟩
        · exact .inl e
        · have hkq : k ≠ q := fun e => by subst e; rw [hk2] at hq; cases hq
          exact .inr ⟨k, hk, e, by rw [upd_other _ _ hkq]; exact hk2⟩
      have hq' : h.T q = none := by
        cases e : h.T q with
        | none => rfl
        | some x => have := hT1 q (by rw [e]; simp); rw [hq, e] at this; cases this
      rintro n _ ⟨j, T2, css, hnj, hcl, hTq, hdone, hrest, hTT, hS2, rfl⟩
      refine ru14SCopied (And.intro u1 (And.intro u2 (And.intro u3 (And.intro u4 (And.intro u5 (And.intro v1 (And.intro v2 (And.intro v3 (And.intro v4 (And.intro v5 (And.intro w1 (And.intro w2 (And.intro w3 (And.intro w4 w5)))))))))))))) ?_; (repeat' (with_reducible refine AndQ.mk ?_ ?_)); (all_goals (try ((with_reducible refine kin ?_); intro K1 hK1)))
      refine awp_cond (t := _) rfl (fun h1 => ?_) (fun h1 => ?_)
      · simp only [decide_eq_true_eq] at h1
        have hj : j < kids.length := by omega
        have hg := hrest j (Nat.le_refl _) hj
        have hm : kids.getD j default ∈ kids := by
          rw [List.getD_eq_getElem?_getD, List.getElem?_eq_getElem hj]; exact List.getElem_mem _
        generalize kids.getD j default = t2 at hg hm
        have hlen := encX_len t2
        have htk : List.take 6 (encX t2) = encX t2 := List.take_of_length_le (Nat.le_of_eq hlen)
        refine ru14SCopied (And.intro u1 (And.intro u2 (And.intro u3 (And.intro u4 (And.intro u5 (And.intro v1 (And.intro v2 (And.intro v3 (And.intro v4 (And.intro v5 (And.intro w1 (And.intro w2 (And.intro w3 (And.intro w4 (And.intro w5 (And.intro hTq (And.intro hcl (And.intro @Int.toNat_natCast (And.intro hg (And.intro hlen htk)))))))))))))))))))) ?_; (repeat' (with_reducible refine AndQ.mk ?_ ?_)); (all_goals (try ((with_reducible refine kin ?_); intro K1 hK1)))
        refine (g_copied d t2 ⟨h.H, T2⟩ (b8 t2 hm)).mono ?_
        rintro _ _ ⟨cs, T3, hcs, hT3, rfl, rfl⟩
        refine hK1 _ ?_; clear hK1 K1
        replace hcs : OLd true T3 (fun k => T2 k = none) d cs := hcs
        replace hT3 : ∀ k, T2 k ≠ none → T3 k = T2 k := hT3
        have hT3q : T3 q = some (.cont 6 css) := by rw [hT3 q (by rw [hTq]; simp)]; exact hTq
        have hcsl := hcs.len
        have hdr : List.drop 6 (encX t2) = [] := List.drop_of_length_le (Nat.le_of_eq hlen)
        refine ru14SCopied (And.intro u1 (And.intro u2 (And.intro u3 (And.intro u4 (And.intro u5 (And.intro v1 (And.intro v2 (And.intro v3 (And.intro v4 (And.intro v5 (And.intro w1 (And.intro w2 (And.intro w3 (And.intro w4 (And.intro w5 (And.intro hT3q (And.intro hcl (And.intro @Int.toNat_natCast (And.intro hg (And.intro hlen (And.intro htk (And.intro hdr hcsl)))))))))))))))))))))) ?_; (repeat' (with_reducible refine AndQ.mk ?_ ?_)); (all_goals (try ((with_reducible refine kin ?_); intro K1 hK1)))
        refine ⟨n - 1, by omega, j + 1, upd T3 q (some (.cont 6 (css.set j cs))), css.set j cs, by omega, by simpa using hcl, upd_same _ _ _, fun i hi => ?_, fun i hi hi2 => ?_, fun k hk => ?_, ?_, ?_⟩
        · have hkeep : ∀ k, T2 k ≠ none → k ≠ q → upd T3 q (some (.cont 6 (css.set j cs))) k = T2 k := fun k hk hkq => by rw [upd_other _ _ hkq]; exact hT3 k hk
          by_cases hij : i = j
          · subst hij
            rw [List.getD_eq_getElem?_getD, List.getElem?_set_self (by omega)]
            refine (hcs.keep (T' := upd T3 q (some (.cont 6 (css.set i cs)))) (fun k hk _ => upd_other _ _ fun e => by subst e; rw [hTq] at hk; cases hk) (fun _ k m hk => by
              by_cases hkq : k = q
              · subst hkq; rw [hT3q] at hk; cases hk
              · rw [upd_other _ _ hkq]; exact hk)).more fun k hk => ⟨?_, fun e => by subst e; rw [hTq] at hk; cases hk⟩
            cases e : h.T k with
            | none => rfl
            | some x => have := hTT k (by rw [e]; simp); rw [hk, e] at this; cases this
          · rw [List.getD_eq_getElem?_getD, List.getElem?_set_ne (by omega), ← List.getD_eq_getElem?_getD]
            refine (hdone i (by omega)).keep (fun k hk ⟨x, hk2⟩ => hkeep k (by rw [hk2]; simp) hk.2) (fun _ k m hk => ?_)
            by_cases hkq : k = q
            · subst hkq; rw [hTq] at hk; cases hk
            · rw [hkeep k (by rw [hk]; simp) hkq]; exact hk
        · rw [List.getD_eq_getElem?_getD, List.getElem?_set_ne (by omega), ← List.getD_eq_getElem?_getD]
          exact hrest i (by omega) hi2
        · have hkq : k ≠ q := fun e => by subst e; exact hk hq'
          rw [upd_other _ _ hkq, hT3 k (by rw [hTT k hk]; exact hk)]; exact hTT k hk
        · rcases hS2 with e | ⟨k, hk, e, hk2⟩
          · exact .inl e
          · have hkq : k ≠ q := fun e => by subst e; rw [hk2] at hTq; cases hTq
            exact .inr ⟨k, hk, e, by rw [upd_other _ _ hkq, hT3 k (by rw [hk2]; simp)]; exact hk2⟩
        · rfl
      · refine ru14SCopied (And.intro u1 (And.intro u2 (And.intro u3 (And.intro u4 (And.intro u5 (And.intro v1 (And.intro v2 (And.intro v3 (And.intro v4 (And.intro v5 (And.intro w1 (And.intro w2 (And.intro w3 (And.intro w4 w5)))))))))))))) ?_; (repeat' (with_reducible refine AndQ.mk ?_ ?_)); (all_goals (try ((with_reducible refine kin ?_); intro K1 hK1)))
        refine rtG (And.intro Tryd.results14 (And.intro u1 (And.intro u2 (And.intro u3 (And.intro u4 (And.intro u5 (And.intro v1 (And.intro v2 (And.intro v3 (And.intro v4 (And.intro v5 (And.intro w1 (And.intro w2 (And.intro w3 (And.intro w4 w5))))))))))))))) ?_
        simp only [decide_eq_false_iff_not] at h1
        have hj : j = kids.length := by omega
        subst hj
        refine ⟨_, _, Weak.refl _, Hp.le.refl _, _, T2, ⟨kind, item, long, many, .arr 6 q kids.length, r, rfl, ⟨b1, b2, b3, b4⟩, .inr (.inl ⟨q, css, hq', hTq, by rw [hcl], by rw [hcl]; exact List.length_pos_iff.2 hq0, by omega, fun c hc => ?_⟩), ?_⟩, hTT, rfl, rfl⟩
        · obtain ⟨i, hi, rfl⟩ := List.getElem_of_mem hc
          have := hdone i (by omega)
          rw [List.getD_eq_getElem?_getD, List.getElem?_eq_getElem hi] at this
          exact this.more fun k hk => hk.1
        · rcases hS2 with e | ⟨k, hk, e, hk2⟩
          · exact .inl e
          · exact .inr ⟨shares, k, e, by omega, b7, fun _ => ⟨hk, hk2, b6⟩⟩
end Go.Proofs.YtoleejecmefogaaDoor
/- Stream.inner: a part of an own loop. -/
namespace Go.Proofs.YtoleejecmefogaaDoor
open Go
set_option maxRecDepth 100000
set_option maxHeartbeats 8000000
theorem ru17SInner {P Q X : Prop} (x : X) (q : Q) (h : X → Hold Q → P := by intro x0 q0; (repeat (first | (with_reducible refine awp_block ?_) | (with_reducible refine vRem_nil ?_) | (with_reducible refine vRst_nil ?_) | ((with_reducible refine vRem_id ?_); refine vRem_nil ?_) | ((first | ((with_reducible refine awp_idS (b := false) ?_); refine awp_seqR2 tyok (mdL []) fun KN hKN => ?_) | ((with_reducible refine awp_idR (b := false) ?_); refine awp_region2 tyok (mdL []) fun KN hKN => ?_) | ((with_reducible refine vRem_id ?_); refine vRem_go fun KN hKN => ?_) | ((with_reducible refine vRst_id ?_); refine vRst_go fun KN hKN => ?_) | ((with_reducible refine vMid_id ?_); refine vMid_go ?_ fun KN hKN => ?_) | ((with_reducible refine awp_idS (b := true) ?_); refine awp_seqD2 (id := 2) tyok (by kernel_rfl) (mdL []) (E0 := [0, 1, 2, 3, 4, 5, 6, 7, 8, 9]) (pl := [(10, [3], [11]), (12, [], [])]) 29 rfl (by kernel_rfl) fun KN hKN => ?_) | ((with_reducible refine awp_idR (b := true) ?_); refine awp_draw2 (id := 2) tyok (by kernel_rfl) (mdL []) (E0 := [0, 1, 2, 3, 4, 5, 6, 7, 8, 9]) (pl := [(10, [3], [11]), (12, [], [])]) 29 rfl (by kernel_rfl) fun KN hKN => ?_)) <;> (simp only [vOps, jnk_zero, jnk_jnk, getD_jnk_lt, getD_jnk_ge, set_jnk_lt, set_jnk_ge, Nat.reduceSub, Nat.reduceLT, Nat.reduceLeDiff, gStep, condG, qV, binV, vV, iV, sV, bV, nV, arV, pickE, joinA, joinOk, isOpt, vEff, binE, vBin, iBin, sBin, arith, nilOf, nBin, boolOk, convI, storeE, newE, sliceE, appE, lenE, minE, biE, bndE, cellsAt, ldOk, ld, TyD.isAgg, AV.shift, AV.isAddr, AV.cellsB, AV.noLoc, rowOf, litRow, fillA, opS, uside, unw, evL, cv, St.put, opsOf, Value.oneCell', vIdx, stepI, vRest, reL, reI, mdL, splice, bef, aft, isCallB, isCallV, ↓reduceIte, Nat.reduceAdd, reduceCtorEq, Nat.reduceEqDiff, Nat.reduceMul, lemA, lemT, x0]; (try and_intros); (all_goals first | (refine hKN _ ?_; clear hKN KN) | (first | exact True.intro | (intros; first | exact True.intro | (with_reducible assumption) | omega | (with_reducible rfl) | (with_reducible decide) | (simp_all; done) | (simp_all; omega))) | skip))) | (with_reducible refine awp_seq ?_) | (with_reducible refine awp_skip ?_) | (with_reducible refine awp_exit ?_) | (with_reducible refine thenQ_normal ?_) | (with_reducible refine inBlock_normal ?_) | (with_reducible refine thenQ_exit ?_) | (with_reducible refine inBlock_exit ?_) | (with_reducible refine inBlock_other (by decide) ?_))); (all_goals (try revert KN)); first | (exact q0.out; done) | (apply Hold.fst; exact q0; apply Hold.snd; exact q0; done) | (apply Hold.a; exact q0; apply Hold.b; exact q0; apply Hold.c; exact q0; done) | (apply Hold.a4; exact q0; apply Hold.b4; exact q0; apply Hold.c4; exact q0; apply Hold.d4; exact q0; done)) : P := h x ⟨q⟩
def PtIn (o : Nat) (T : Nat → Option TO) (S : Nat → Prop) (cs0 : List AV) (p : AV) (cs : List AV) : Prop :=
  p = .ptr o 0 ∧ cs = cs0 ∨ ∃ q css j, S q ∧ T q = some (.cont 6 css) ∧ j < css.length ∧ p = .eptr q css.length j 0 ∧ css.getD j [] = cs
def InnI (i o : Nat) (l : List Int) (a : Int) (h : Hp) (S : Nat → Prop) (d : Nat) (cs0 : List AV) (g : Nat) (s : St) : Prop :=
  ∃ p cs a', PtIn o h.T S cs0 p cs ∧ OLd true h.T S g cs ∧ (a ≤ a' ∧ a' + 2 * g ≤ a + 2 * d) ∧ s = ⟨((.ptr i 0) :: (p) :: (jnk 27 [])), [], h.st i l a'⟩
theorem g_inner (i o : Nat) (l : List Int) (a : Int) (h : Hp) (hl : SOk l) (S : Nat → Prop) (d : Nat) (cs0 : List AV) (ha : 0 ≤ a ∧ a + 2 * d ≤ 900000000) (hio : o ≠ i) (hH0 : h.H o = some (.cells cs0)) (hO : OLd true h.T S d cs0) :
    ACalls Tryd.prog 17 [.ptr i 0, .ptr o 0] (h.st i l a) (fun r h' => ∃ cs e a', (a ≤ a' ∧ a' ≤ a + 2 * d) ∧ PtIn o h.T S cs0 r cs ∧ OLd true h.T S e cs ∧ h' = h.st i l a') := by
  refine acalls_of tyok Tryd.func17 rfl (by kernel_rfl) fun c => ?_; simp only [Tryd.ntmps17, List.length_cons, List.length_nil, Nat.reduceAdd, Nat.reduceSub, jnk_rep, List.cons_append, List.nil_append]
  refine ru17SInner trivial ?_; (repeat' (with_reducible refine AndQ.mk ?_ ?_)); (all_goals (try ((with_reducible refine kin ?_); intro K1 hK1)))
  refine awp_loopC (rl false [0, 2, 27]) 0 (fun g s => InnI i o l a h S d cs0 g s) d ⟨.ptr o 0, cs0, a, .inl ⟨rfl, rfl⟩, hO, by omega, rfl⟩ ?_
  rintro g _ ⟨p, cs, a', hp, hcs, ha', rfl⟩
  cases g with
  | zero => exact hcs.elim
  | succ g =>
  obtain ⟨kind, item, long, many, K, Sh, rfl, hnb, hK, hS⟩ := id hcs
  have hH1 : ∀ b, cs0 = [.v (.int .i64 kind), .v (.string item), .v (.int .i64 long), .v (.int .i64 many), K, Sh] → (h.st i l b).H o = some (.cells [.v (.int .i64 kind), .v (.string item), .v (.int .i64 long), .v (.int .i64 many), K, Sh]) := fun b e => by
    rw [← e]; simp only [Hp.st, upd_other _ _ hio]; exact hH0
  have hK' : K = .v (.slice none 0 0) ∨ ∃ q css, S q ∧ h.T q = some (.cont 6 css) ∧ K = .arr 6 q css.length ∧ 0 < css.length ∧ css.length ≤ 3 ∧ ∀ c ∈ css, OLd true h.T S g c := by
    rcases hK with e | e | ⟨e, _⟩
    · exact .inl e
    · exact .inr e
    · cases e
  rcases hK' with rfl | ⟨q, css, hq, hTq, rfl, hpos, hcl, hcc⟩
  · rcases id hp with ⟨rfl, e⟩ | ⟨q0, css0, j0, hq0, hT0, hj0, rfl, hg0⟩
    · have hH := fun b => hH1 b e.symm
      refine ru17SInner (And.intro hH (And.intro st_T @Int.toNat_natCast)) ?_; (repeat' (with_reducible refine AndQ.mk ?_ ?_)); (all_goals (try ((with_reducible refine kin ?_); intro K1 hK1)))
      intro h1
      refine hK1 _ ?_; clear hK1 K1
      refine ru17SInner (And.intro hH (And.intro h1 (And.intro st_T @Int.toNat_natCast))) ?_; (repeat' (with_reducible refine AndQ.mk ?_ ?_)); (all_goals (try ((with_reducible refine kin ?_); intro K1 hK1)))
      refine ⟨.junk, rfl, hK1 _ ?_⟩; clear hK1 K1
      refine ru17SInner (And.intro hH (And.intro h1 (And.intro st_T @Int.toNat_natCast))) ?_; (repeat' (with_reducible refine AndQ.mk ?_ ?_)); (all_goals (try ((with_reducible refine kin ?_); intro K1 hK1)))
      refine awp_cond (t := _) rfl (fun h2 => by cases h2) (fun h2 => ?_)
      refine ru17SInner (And.intro hH (And.intro st_T @Int.toNat_natCast)) ?_; (repeat' (with_reducible refine AndQ.mk ?_ ?_)); (all_goals (try ((with_reducible refine kin ?_); intro K1 hK1)))
      refine rtG Tryd.results17 ?_
      exact ⟨_, _, Weak.refl _, Hp.le.refl _, _, _, a', by omega, hp, hcs, rfl⟩
    · have hj0' : (j0 : Nat) < css0.length := hj0
      refine ru17SInner (And.intro hT0 (And.intro hg0 (And.intro st_T @Int.toNat_natCast))) ?_; (repeat' (with_reducible refine AndQ.mk ?_ ?_)); (all_goals (try ((with_reducible refine kin ?_); intro K1 hK1)))
      intro h1
      refine hK1 _ ?_; clear hK1 K1
      refine ru17SInner (And.intro hT0 (And.intro hg0 (And.intro h1 (And.intro st_T @Int.toNat_natCast)))) ?_; (repeat' (with_reducible refine AndQ.mk ?_ ?_)); (all_goals (try ((with_reducible refine kin ?_); intro K1 hK1)))
      refine ⟨.junk, rfl, hK1 _ ?_⟩; clear hK1 K1
      refine ru17SInner (And.intro hT0 (And.intro hg0 (And.intro h1 (And.intro st_T @Int.toNat_natCast)))) ?_; (repeat' (with_reducible refine AndQ.mk ?_ ?_)); (all_goals (try ((with_reducible refine kin ?_); intro K1 hK1)))
      refine awp_cond (t := _) rfl (fun h2 => by cases h2) (fun h2 => ?_)
      refine ru17SInner (And.intro hT0 (And.intro hg0 (And.intro st_T @Int.toNat_natCast))) ?_; (repeat' (with_reducible refine AndQ.mk ?_ ?_)); (all_goals (try ((with_reducible refine kin ?_); intro K1 hK1)))
      refine rtG Tryd.results17 ?_
      exact ⟨_, _, Weak.refl _, Hp.le.refl _, _, _, a', by omega, hp, hcs, rfl⟩
  · rcases id hp with ⟨rfl, e⟩ | ⟨q0, css0, j0, hq0, hT0, hj0, rfl, hg0⟩
    · have hH := fun b => hH1 b e.symm
      refine ru17SInner (And.intro hH (And.intro st_T @Int.toNat_natCast)) ?_; (repeat' (with_reducible refine AndQ.mk ?_ ?_)); (all_goals (try ((with_reducible refine kin ?_); intro K1 hK1)))
      intro h1
      refine ⟨h1, ?_⟩
      refine (g_flip i l a' 3 h hl (by omega) (by omega)).mono ?_
      rintro _ _ ⟨b, rfl, rfl⟩
      refine ⟨rfl, hK1 _ ?_⟩; clear hK1 K1
      refine ru17SInner (And.intro hH (And.intro h1 (And.intro st_T @Int.toNat_natCast))) ?_; (repeat' (with_reducible refine AndQ.mk ?_ ?_)); (all_goals (try ((with_reducible refine kin ?_); intro K1 hK1)))
      refine awp_cond (t := _) rfl (fun h2 => ?_) (fun h2 => ?_)
      · refine ru17SInner (And.intro hH (And.intro st_T @Int.toNat_natCast)) ?_; (repeat' (with_reducible refine AndQ.mk ?_ ?_)); (all_goals (try ((with_reducible refine kin ?_); intro K1 hK1)))
        refine (g_next i l (a' + 1) css.length h hl (by omega) (by omega)).mono ?_; rintro _ _ ⟨x, hx, rfl, rfl⟩; refine hK1 _ ?_; clear hK1 K1
        refine ru17SInner (And.intro hH (And.intro st_T @Int.toNat_natCast)) ?_; (repeat' (with_reducible refine AndQ.mk ?_ ?_)); (all_goals (try ((with_reducible refine kin ?_); intro K1 hK1)))
        have hxl : x.toNat < css.length := by omega
        refine ⟨g, by omega, .eptr q css.length x.toNat 0, css.getD x.toNat [], a' + 1 + 1, .inr ⟨q, css, x.toNat, hq, hTq, hxl, rfl, rfl⟩, hcc _ (by rw [List.getD_eq_getElem?_getD, List.getElem?_eq_getElem hxl]; exact List.getElem_mem _), by omega, rfl⟩
      · refine ru17SInner (And.intro hH (And.intro st_T @Int.toNat_natCast)) ?_; (repeat' (with_reducible refine AndQ.mk ?_ ?_)); (all_goals (try ((with_reducible refine kin ?_); intro K1 hK1)))
        refine rtG Tryd.results17 ?_
        exact ⟨_, _, Weak.refl _, Hp.le.refl _, _, _, a' + 1, by omega, hp, hcs, rfl⟩
    · --
      refine ru17SInner (And.intro hT0 (And.intro hg0 (And.intro st_T @Int.toNat_natCast))) ?_; (repeat' (with_reducible refine AndQ.mk ?_ ?_)); (all_goals (try ((with_reducible refine kin ?_); intro K1 hK1)))
      intro h1
      refine ⟨h1, ?_⟩
      refine (g_flip i l a' 3 h hl (by omega) (by omega)).mono ?_
      rintro _ _ ⟨b, rfl, rfl⟩
      refine ⟨rfl, hK1 _ ?_⟩; clear hK1 K1
      refine ru17SInner (And.intro hT0 (And.intro hg0 (And.intro h1 (And.intro st_T @Int.toNat_natCast)))) ?_; (repeat' (with_reducible refine AndQ.mk ?_ ?_)); (all_goals (try ((with_reducible refine kin ?_); intro K1 hK1)))
      refine awp_cond (t := _) rfl (fun h2 => ?_) (fun h2 => ?_)
      · refine ru17SInner (And.intro hT0 (And.intro hg0 (And.intro st_T @Int.toNat_natCast))) ?_; (repeat' (with_reducible refine AndQ.mk ?_ ?_)); (all_goals (try ((with_reducible refine kin ?_); intro K1 hK1)))
        refine (g_next i l (a' + 1) css.length h hl (by omega) (by omega)).mono ?_; rintro _ _ ⟨x, hx, rfl, rfl⟩; refine hK1 _ ?_; clear hK1 K1
        refine ru17SInner (And.intro hT0 (And.intro hg0 (And.intro st_T @Int.toNat_natCast))) ?_; (repeat' (with_reducible refine AndQ.mk ?_ ?_)); (all_goals (try ((with_reducible refine kin ?_); intro K1 hK1)))
        have hxl : x.toNat < css.length := by omega
        refine ⟨g, by omega, .eptr q css.length x.toNat 0, css.getD x.toNat [], a' + 1 + 1, .inr ⟨q, css, x.toNat, hq, hTq, hxl, rfl, rfl⟩, hcc _ (by rw [List.getD_eq_getElem?_getD, List.getElem?_eq_getElem hxl]; exact List.getElem_mem _), by omega, rfl⟩
      · refine ru17SInner (And.intro hT0 (And.intro hg0 (And.intro st_T @Int.toNat_natCast))) ?_; (repeat' (with_reducible refine AndQ.mk ?_ ?_)); (all_goals (try ((with_reducible refine kin ?_); intro K1 hK1)))
        refine rtG Tryd.results17 ?_
        exact ⟨_, _, Weak.refl _, Hp.le.refl _, _, _, a' + 1, by omega, hp, hcs, rfl⟩
end Go.Proofs.YtoleejecmefogaaDoor
/- Stream.RightLoop: some loop. -/
namespace Go.Proofs.YtoleejecmefogaaDoor
open Go
set_option maxRecDepth 100000
set_option maxHeartbeats 8000000
theorem ru34SRight {P Q X : Prop} (x : X) (q : Q) (h : X → Hold Q → P := by intro x0 q0; (repeat (first | (with_reducible refine awp_block ?_) | (with_reducible refine vRem_nil ?_) | (with_reducible refine vRst_nil ?_) | ((with_reducible refine vRem_id ?_); refine vRem_nil ?_) | ((first | ((with_reducible refine awp_idS (b := false) ?_); refine awp_seqR2 tyok (mdL [(1, 1)]) fun KN hKN => ?_) | ((with_reducible refine awp_idR (b := false) ?_); refine awp_region2 tyok (mdL [(1, 1)]) fun KN hKN => ?_) | ((with_reducible refine vRem_id ?_); refine vRem_go fun KN hKN => ?_) | ((with_reducible refine vRst_id ?_); refine vRst_go fun KN hKN => ?_) | ((with_reducible refine vMid_id ?_); refine vMid_go ?_ fun KN hKN => ?_) | ((with_reducible refine awp_idS (b := true) ?_); refine awp_seqD2 (id := 1) tyok (by kernel_rfl) (mdL [(1, 1)]) (E0 := [0, 1, 3, 4]) (pl := [(2, [3], []), (5, [], [6]), (7, [], [])]) 9 rfl (by kernel_rfl) fun KN hKN => ?_) | ((with_reducible refine awp_idR (b := true) ?_); refine awp_draw2 (id := 1) tyok (by kernel_rfl) (mdL [(1, 1)]) (E0 := [0, 1, 3, 4]) (pl := [(2, [3], []), (5, [], [6]), (7, [], [])]) 9 rfl (by kernel_rfl) fun KN hKN => ?_)) <;> (simp only [vOps, jnk_zero, jnk_jnk, getD_jnk_lt, getD_jnk_ge, set_jnk_lt, set_jnk_ge, Nat.reduceSub, Nat.reduceLT, Nat.reduceLeDiff, gStep, condG, qV, binV, vV, iV, sV, bV, nV, arV, pickE, joinA, joinOk, isOpt, vEff, binE, vBin, iBin, sBin, arith, nilOf, nBin, boolOk, convI, storeE, newE, sliceE, appE, lenE, minE, biE, bndE, cellsAt, ldOk, ld, TyD.isAgg, AV.shift, AV.isAddr, AV.cellsB, AV.noLoc, rowOf, litRow, fillA, opS, uside, unw, evL, cv, St.put, opsOf, Value.oneCell', vIdx, stepI, vRest, reL, reI, mdL, splice, bef, aft, isCallB, isCallV, ↓reduceIte, Nat.reduceAdd, reduceCtorEq, Nat.reduceEqDiff, Nat.reduceMul, lemA, lemT, x0]; (try and_intros); (all_goals first | (refine hKN _ ?_; clear hKN KN) | (first | exact True.intro | (intros; first | exact True.intro | (with_reducible assumption) | omega | (with_reducible rfl) | (with_reducible decide) | (simp_all; done) | (simp_all; omega))) | skip))) | (with_reducible refine awp_seq ?_) | (with_reducible refine awp_skip ?_) | (with_reducible refine awp_exit ?_) | (with_reducible refine thenQ_normal ?_) | (with_reducible refine inBlock_normal ?_) | (with_reducible refine thenQ_exit ?_) | (with_reducible refine inBlock_exit ?_) | (with_reducible refine inBlock_other (by decide) ?_))); (all_goals (try revert KN)); first | (exact q0.out; done) | (apply Hold.fst; exact q0; apply Hold.snd; exact q0; done) | (apply Hold.a; exact q0; apply Hold.b; exact q0; apply Hold.c; exact q0; done) | (apply Hold.a4; exact q0; apply Hold.b4; exact q0; apply Hold.c4; exact q0; apply Hold.d4; exact q0; done)) : P := h x ⟨q⟩
theorem ru15SRight {P Q X : Prop} (x : X) (q : Q) (h : X → Hold Q → P := by intro x0 q0; (repeat (first | (with_reducible refine awp_block ?_) | (with_reducible refine vRem_nil ?_) | (with_reducible refine vRst_nil ?_) | ((with_reducible refine vRem_id ?_); refine vRem_nil ?_) | ((first | ((with_reducible refine awp_idS (b := false) ?_); refine awp_seqR2 tyok (mdL [(4, 1), (6, 1), (8, 1)]) fun KN hKN => ?_) | ((with_reducible refine awp_idR (b := false) ?_); refine awp_region2 tyok (mdL [(4, 1), (6, 1), (8, 1)]) fun KN hKN => ?_) | ((with_reducible refine vRem_id ?_); refine vRem_go fun KN hKN => ?_) | ((with_reducible refine vRst_id ?_); refine vRst_go fun KN hKN => ?_) | ((with_reducible refine vMid_id ?_); refine vMid_go ?_ fun KN hKN => ?_) | ((with_reducible refine awp_idS (b := true) ?_); refine awp_seqF2 (id := 10) tyok (by kernel_rfl) (mdL [(4, 1), (6, 1), (8, 1)]) (f := 7) (E0 := [0, 1, 2, 3]) (pl := [(4, [0], [5]), (6, [], []), (8, [], [])]) 76 rfl (by kernel_rfl) fun KN hKN => ?_) | ((with_reducible refine awp_idR (b := true) ?_); refine awp_drawF2 (id := 10) tyok (by kernel_rfl) (mdL [(4, 1), (6, 1), (8, 1)]) (f := 7) (E0 := [0, 1, 2, 3]) (pl := [(4, [0], [5]), (6, [], []), (8, [], [])]) 76 rfl (by kernel_rfl) fun KN hKN => ?_) | ((with_reducible refine awp_idS (b := true) ?_); refine awp_seqD2 (id := 16) tyok (by kernel_rfl) (mdL [(4, 1), (6, 1), (8, 1)]) (E0 := [0, 1, 2, 3]) (pl := [(4, [1], [5]), (6, [], [7]), (8, [], [])]) 76 rfl (by kernel_rfl) fun KN hKN => ?_) | ((with_reducible refine awp_idR (b := true) ?_); refine awp_draw2 (id := 16) tyok (by kernel_rfl) (mdL [(4, 1), (6, 1), (8, 1)]) (E0 := [0, 1, 2, 3]) (pl := [(4, [1], [5]), (6, [], [7]), (8, [], [])]) 76 rfl (by kernel_rfl) fun KN hKN => ?_)) <;> (simp only [vOps, jnk_zero, jnk_jnk, getD_jnk_lt, getD_jnk_ge, set_jnk_lt, set_jnk_ge, Nat.reduceSub, Nat.reduceLT, Nat.reduceLeDiff, gStep, condG, qV, binV, vV, iV, sV, bV, nV, arV, pickE, joinA, joinOk, isOpt, vEff, binE, vBin, iBin, sBin, arith, nilOf, nBin, boolOk, convI, storeE, newE, sliceE, appE, lenE, minE, biE, bndE, cellsAt, ldOk, ld, TyD.isAgg, AV.shift, AV.isAddr, AV.cellsB, AV.noLoc, rowOf, litRow, fillA, opS, uside, unw, evL, cv, St.put, opsOf, Value.oneCell', vIdx, stepI, vRest, reL, reI, mdL, splice, bef, aft, isCallB, isCallV, ↓reduceIte, Nat.reduceAdd, reduceCtorEq, Nat.reduceEqDiff, Nat.reduceMul, lemA, lemT, x0]; (try and_intros); (all_goals first | (refine hKN _ ?_; clear hKN KN) | (first | exact True.intro | (intros; first | exact True.intro | (with_reducible assumption) | omega | (with_reducible rfl) | (with_reducible decide) | (simp_all; done) | (simp_all; omega))) | skip))) | (with_reducible refine awp_seq ?_) | (with_reducible refine awp_skip ?_) | (with_reducible refine awp_exit ?_) | (with_reducible refine thenQ_normal ?_) | (with_reducible refine inBlock_normal ?_) | (with_reducible refine thenQ_exit ?_) | (with_reducible refine inBlock_exit ?_) | (with_reducible refine inBlock_other (by decide) ?_))); (all_goals (try revert KN)); first | (exact q0.out; done) | (apply Hold.fst; exact q0; apply Hold.snd; exact q0; done) | (apply Hold.a; exact q0; apply Hold.b; exact q0; apply Hold.c; exact q0; done) | (apply Hold.a4; exact q0; apply Hold.b4; exact q0; apply Hold.c4; exact q0; apply Hold.d4; exact q0; done)) : P := h x ⟨q⟩
theorem rr15SRight {P Q X : Prop} (x : X) (q : Q) (h : X → Hold Q → P := by intro x0 q0; (repeat (first | (with_reducible refine awp_block ?_) | (with_reducible refine vRem_nil ?_) | (with_reducible refine vRst_nil ?_) | ((with_reducible refine vRem_id ?_); refine vRem_nil ?_) | ((first | ((with_reducible refine awp_idS (b := false) ?_); refine awp_seqR2 tyok (mdL [(4, 1), (6, 1), (8, 1)]) fun KN hKN => ?_) | ((with_reducible refine awp_idR (b := false) ?_); refine awp_region2 tyok (mdL [(4, 1), (6, 1), (8, 1)]) fun KN hKN => ?_) | ((with_reducible refine vRem_id ?_); refine vRem_go fun KN hKN => ?_) | ((with_reducible refine vRst_id ?_); refine vRst_go fun KN hKN => ?_) | ((with_reducible refine vMid_id ?_); refine vMid_go ?_ fun KN hKN => ?_) | ((with_reducible refine awp_idS (b := true) ?_); refine awp_seqF2 (id := 10) tyok (by kernel_rfl) (mdL [(4, 1), (6, 1), (8, 1)]) (f := 7) (E0 := [0, 1, 2, 3]) (pl := [(4, [0], [5]), (6, [], []), (8, [], [])]) 76 rfl (by kernel_rfl) fun KN hKN => ?_) | ((with_reducible refine awp_idR (b := true) ?_); refine awp_drawF2 (id := 10) tyok (by kernel_rfl) (mdL [(4, 1), (6, 1), (8, 1)]) (f := 7) (E0 := [0, 1, 2, 3]) (pl := [(4, [0], [5]), (6, [], []), (8, [], [])]) 76 rfl (by kernel_rfl) fun KN hKN => ?_) | ((with_reducible refine awp_idS (b := true) ?_); refine awp_seqD2 (id := 16) tyok (by kernel_rfl) (mdL [(4, 1), (6, 1), (8, 1)]) (E0 := [0, 1, 2, 3]) (pl := [(4, [1], [5]), (6, [], [7]), (8, [], [])]) 76 rfl (by kernel_rfl) fun KN hKN => ?_) | ((with_reducible refine awp_idR (b := true) ?_); refine awp_draw2 (id := 16) tyok (by kernel_rfl) (mdL [(4, 1), (6, 1), (8, 1)]) (E0 := [0, 1, 2, 3]) (pl := [(4, [1], [5]), (6, [], [7]), (8, [], [])]) 76 rfl (by kernel_rfl) fun KN hKN => ?_)) <;> (simp only [vOps, jnk_zero, jnk_jnk, getD_jnk_lt, getD_jnk_ge, set_jnk_lt, set_jnk_ge, Nat.reduceSub, Nat.reduceLT, Nat.reduceLeDiff, gStep, condG, qV, binV, vV, iV, sV, bV, nV, arV, pickE, joinA, joinOk, isOpt, vEff, binE, vBin, iBin, sBin, arith, nilOf, nBin, boolOk, convI, storeE, newE, sliceE, appE, lenE, minE, biE, bndE, cellsAt, ldOk, ld, TyD.isAgg, AV.shift, AV.isAddr, AV.cellsB, AV.noLoc, rowOf, litRow, fillA, opS, uside, unw, evL, cv, St.put, opsOf, Value.oneCell', vIdx, stepI, vRest, reL, reI, mdL, splice, bef, aft, isCallB, isCallV, ↓reduceIte, Nat.reduceAdd, reduceCtorEq, Nat.reduceEqDiff, Nat.reduceMul, lemA, lemT, x0]; (try and_intros); (all_goals first | (refine hKN _ ?_; clear hKN KN) | (first | exact True.intro | (intros; first | exact True.intro | (with_reducible assumption) | omega | (with_reducible rfl) | (with_reducible decide) | (simp_all; done) | (simp_all; omega))) | skip))) | (with_reducible refine awp_skip ?_) | (with_reducible refine awp_exit ?_) | (with_reducible refine thenQ_normal ?_) | (with_reducible refine inBlock_normal ?_) | (with_reducible refine thenQ_exit ?_) | (with_reducible refine inBlock_exit ?_) | (with_reducible refine inBlock_other (by decide) ?_))); (all_goals (try revert KN)); first | (exact q0.out; done) | (apply Hold.fst; exact q0; apply Hold.snd; exact q0; done) | (apply Hold.a; exact q0; apply Hold.b; exact q0; apply Hold.c; exact q0; done) | (apply Hold.a4; exact q0; apply Hold.b4; exact q0; apply Hold.c4; exact q0; apply Hold.d4; exact q0; done)) : P := h x ⟨q⟩
theorem g_item (i : Nat) (l : List Int) (a : Int) (h : Hp) (hl : SOk l) (ha : 0 ≤ a ∧ a ≤ 900000000) :
    ACalls Tryd.prog 34 [.ref [.ptr i 0] 0] (h.st i l a) (fun r h' => ∃ t, LB 1 t ∧ r = .agg (encX t) ∧ h' = h.st i l (a + 2)) := by
  refine acalls_of tyok Tryd.func34 rfl (by kernel_rfl) fun c => ?_; simp only [Tryd.ntmps34, List.length_cons, List.length_nil, Nat.reduceAdd, Nat.reduceSub, jnk_rep, List.cons_append, List.nil_append]
  refine ru34SRight trivial ?_; (repeat' (with_reducible refine AndQ.mk ?_ ?_)); (all_goals (try ((with_reducible refine kin ?_); intro K1 hK1)))
  refine (g_some i l a [⟨#[105, 97]⟩, ⟨#[105, 97]⟩, ⟨#[105, 98]⟩, ⟨#[105, 99]⟩, ⟨#[110, 97]⟩] none h hl (by omega) (by simp)).mono ?_; rintro _ _ ⟨x, hx, rfl, rfl⟩; refine hK1 _ ?_; clear hK1 K1
  refine ru34SRight trivial ?_; (repeat' (with_reducible refine AndQ.mk ?_ ?_)); (all_goals (try ((with_reducible refine kin ?_); intro K1 hK1)))
  refine (g_pick i l (a + 1) [1000, 2000, 5000] none h hl (by omega) (by simp)).mono ?_; rintro _ _ ⟨y, hy, rfl, rfl⟩; refine hK1 _ ?_; clear hK1 K1
  refine ru34SRight trivial ?_; (repeat' (with_reducible refine AndQ.mk ?_ ?_)); (all_goals (try ((with_reducible refine kin ?_); intro K1 hK1)))
  refine rtG Tryd.results34 ?_
  refine ⟨_, _, Weak.refl _, Hp.le.refl _, .mk 1 x y 0 [] [], ?_, by rw [encX_eq]; rfl, by rw [show a + 1 + 1 = a + 2 by omega]⟩
  simp at hx hy
  refine ⟨by unfold NB; omega, ?_, by unfold NB; omega, by unfold NB; omega, by simp, by simp, by simp, by simp⟩
  rcases hx with rfl | rfl | rfl | rfl <;> decide
/-- What a right loop costs. -/
def costR : Nat → Int
  | 0 => 20
  | n + 1 => 20 + 3 * (costR n + 10)
def RightI (d : Nat) (deep : Int) (i : Nat) (l : List Int) (h : Hp) (kd mn many a' : Int) (k1 : Nat) (g : Nat) (s : St) : Prop :=
  ∃ (kids : List LT) (shares : List Int) (S : AV) (T2 : Nat → Option TO) (a2 : Int), (g : Int) + kids.length = many ∧ T2 k1 = some (.tail kids.length) ∧
    (kd = 4 ∧ (∃ k2, k2 ≠ k1 ∧ h.T k2 = none ∧ S = .row 1 (shares.map encI) (some k2) ∧ T2 k2 = some (.tail shares.length) ∧ shares.length = kids.length) ∨ kd ≠ 4 ∧ shares = [] ∧ S = .v (.slice none 0 0)) ∧
    (∀ k, h.T k ≠ none → T2 k = h.T k) ∧ (∀ t ∈ kids, LB (d + 1) t) ∧ (∀ x ∈ shares, NB x) ∧ (a' ≤ a2 ∧ a2 ≤ a' + kids.length * (costR d + 3)) ∧
    s = ⟨(AV.junk :: ((.v (.int .i64 deep)) :: (.ref [.ptr i 0] 0) :: AV.junk :: ((.loc 0 0) :: AV.junk :: ((.loc 1 0) :: (jnk 25 ((.v (.int .i64 many)) :: (.v (.int .i64 kids.length)) :: (jnk 42 []))))))),
      [[.v (.int .i64 0), .v (.string { data := #[] }), .v (.int .i64 0), .v (.int .i64 0), .v (.slice none 0 0), .v (.slice none 0 0)], [.v (.int .i64 kd), .v (.string { data := #[] }), .v (.int .i64 0), .v (.int .i64 mn), .row 6 (kids.map encX) (some k1), S]], Hp.st ⟨h.H, T2⟩ i l a2⟩
theorem g_right : ∀ (d : Nat) (deep : Int) (_ : deep ≤ d ∧ -10 ≤ deep ∧ d ≤ 100) (i : Nat) (l : List Int) (a : Int) (h : Hp) (_ : SOk l) (_ : 0 ≤ a ∧ a + costR d ≤ 900000000),
    ACalls Tryd.prog 15 [.ptr i 0, .v (.int .i64 deep)] (h.st i l a) (fun r h' => ∃ t a', LB (d + 1) t ∧ (a ≤ a' ∧ a' ≤ a + costR d) ∧ r = .agg (encX t) ∧ h' = h.st i l a')
  | 0, deep, hd, i, l, a, h, hl, ha => by
    have hc : costR 0 = 20 := rfl
    refine acalls_of tyok Tryd.func15 rfl (by kernel_rfl) fun c => ?_; simp only [Tryd.ntmps15, List.length_cons, List.length_nil, Nat.reduceAdd, Nat.reduceSub, jnk_rep, List.cons_append, List.nil_append]
    refine ru15SRight trivial ?_; (repeat' (with_reducible refine AndQ.mk ?_ ?_)); (all_goals (try ((with_reducible refine kin ?_); intro K1 hK1)))
    intro h1
    refine hK1 _ ?_; clear hK1 K1
    refine ru15SRight h1 ?_; (repeat' (with_reducible refine AndQ.mk ?_ ?_)); (all_goals (try ((with_reducible refine kin ?_); intro K1 hK1)))
    refine awp_cond (t := _) rfl (fun _ => ?_) (fun h2 => by cases h2)
    refine ru15SRight trivial ?_; (repeat' (with_reducible refine AndQ.mk ?_ ?_)); (all_goals (try ((with_reducible refine kin ?_); intro K1 hK1)))
    refine (g_item i l a h hl (by omega)).mono ?_; rintro _ _ ⟨t, ht, rfl, rfl⟩; refine hK1 _ ?_; clear hK1 K1
    have hlen := encX_len t
    have htk : List.take 6 (encX t) = encX t := List.take_of_length_le (Nat.le_of_eq hlen)
    refine ru15SRight hlen ?_; (repeat' (with_reducible refine AndQ.mk ?_ ?_)); (all_goals (try ((with_reducible refine kin ?_); intro K1 hK1)))
    refine rtG (And.intro Tryd.results15 (And.intro hlen htk)) ?_
    exact ⟨_, _, Weak.refl _, Hp.le.refl _, t, a + 2, ht, by omega, rfl, rfl⟩
  | d + 1, deep, hd, i, l, a, h, hl, ha => by
    have hc : costR (d + 1) = 20 + 3 * (costR d + 10) := rfl
    have hc0 : 20 ≤ costR d := by
      clear hc ha hd
      induction d with
      | zero => exact Int.le_refl _
      | succ n ih => show 20 ≤ 20 + 3 * (costR n + 10); omega
    refine acalls_of tyok Tryd.func15 rfl (by kernel_rfl) fun c => ?_; simp only [Tryd.ntmps15, List.length_cons, List.length_nil, Nat.reduceAdd, Nat.reduceSub, jnk_rep, List.cons_append, List.nil_append]
    refine ru15SRight trivial ?_; (repeat' (with_reducible refine AndQ.mk ?_ ?_)); (all_goals (try ((with_reducible refine kin ?_); intro K1 hK1)))
    rotate_left
    · intro h1
      refine hK1 _ ?_; clear hK1 K1
      refine ru15SRight h1 ?_; (repeat' (with_reducible refine AndQ.mk ?_ ?_)); (all_goals (try ((with_reducible refine kin ?_); intro K1 hK1)))
      refine awp_cond (t := _) rfl (fun _ => ?_) (fun h2 => by cases h2)
      refine ru15SRight trivial ?_; (repeat' (with_reducible refine AndQ.mk ?_ ?_)); (all_goals (try ((with_reducible refine kin ?_); intro K1 hK1)))
      refine (g_item i l a h hl (by omega)).mono ?_; rintro _ _ ⟨t, ht, rfl, rfl⟩; refine hK1 _ ?_; clear hK1 K1
      have hlen := encX_len t
      have htk : List.take 6 (encX t) = encX t := List.take_of_length_le (Nat.le_of_eq hlen)
      refine ru15SRight hlen ?_; (repeat' (with_reducible refine AndQ.mk ?_ ?_)); (all_goals (try ((with_reducible refine kin ?_); intro K1 hK1)))
      refine rtG (And.intro Tryd.results15 (And.intro hlen htk)) ?_
      exact ⟨_, _, Weak.refl _, Hp.le.refl _, t, a + 2, ht.mono (by omega), by omega, rfl, rfl⟩
    · intro h1
      refine ⟨h1, ?_⟩
      refine (g_flip i l a 5 h hl (by omega) (by omega)).mono ?_
      rintro _ _ ⟨b, rfl, rfl⟩
      refine ⟨rfl, hK1 _ ?_⟩; clear hK1 K1
      refine ru15SRight h1 ?_; (repeat' (with_reducible refine AndQ.mk ?_ ?_)); (all_goals (try ((with_reducible refine kin ?_); intro K1 hK1)))
      refine awp_cond (t := _) rfl (fun _ => ?_) (fun h2 => ?_)
      · refine ru15SRight trivial ?_; (repeat' (with_reducible refine AndQ.mk ?_ ?_)); (all_goals (try ((with_reducible refine kin ?_); intro K1 hK1)))
        refine (g_item i l (a + 1) h hl (by omega)).mono ?_; rintro _ _ ⟨t, ht, rfl, rfl⟩; refine hK1 _ ?_; clear hK1 K1
        have hlen := encX_len t
        have htk : List.take 6 (encX t) = encX t := List.take_of_length_le (Nat.le_of_eq hlen)
        refine ru15SRight hlen ?_; (repeat' (with_reducible refine AndQ.mk ?_ ?_)); (all_goals (try ((with_reducible refine kin ?_); intro K1 hK1)))
        refine rtG (And.intro Tryd.results15 (And.intro hlen htk)) ?_
        exact ⟨_, _, Weak.refl _, Hp.le.refl _, t, a + 1 + 2, ht.mono (by omega), by omega, rfl, rfl⟩
      · refine ru15SRight trivial ?_; (repeat' (with_reducible refine AndQ.mk ?_ ?_)); (all_goals (try ((with_reducible refine kin ?_); intro K1 hK1)))
        refine (g_pick i l (a + 1) [2, 2, 3, 4, 5] none h hl (by omega) (by simp)).mono ?_; rintro _ _ ⟨kd, hkd, rfl, rfl⟩; refine hK1 _ ?_; clear hK1 K1
        refine ru15SRight trivial ?_; (repeat' (with_reducible refine AndQ.mk ?_ ?_)); (all_goals (try ((with_reducible refine kin ?_); intro K1 hK1)))
        refine (g_range i l (a + 1 + 1) 1 3 h hl (by omega) (by omega) (by omega) (by omega)).mono ?_; rintro _ _ ⟨many, hmany, rfl, rfl⟩; refine hK1 _ ?_; clear hK1 K1
        refine ru15SRight trivial ?_; (repeat' (with_reducible refine AndQ.mk ?_ ?_)); (all_goals (try ((with_reducible refine kin ?_); intro K1 hK1)))
        have hk5 : 2 ≤ kd ∧ kd ≤ 5 := by simp at hkd; omega
        clear hkd
        refine awp_join (rl false [1, 2, 1, 1, 1, 2, 68]) 2 (fun s => ∃ mn many a' : Int, (0 ≤ mn ∧ mn ≤ 3) ∧ (1 ≤ many ∧ many ≤ 3) ∧ (a ≤ a' ∧ a' ≤ a + 4) ∧
          s = ⟨(AV.junk :: ((.v (.int .i64 deep)) :: (.ref [.ptr i 0] 0) :: AV.junk :: ((.loc 0 0) :: AV.junk :: ((.loc 1 0) :: (.v (.int .i64 many)) :: (jnk 68 []))))),
            [[.v (.int .i64 0), .v (.string { data := #[] }), .v (.int .i64 0), .v (.int .i64 0), .v (.slice none 0 0), .v (.slice none 0 0)], [.v (.int .i64 kd), .v (.string { data := #[] }), .v (.int .i64 0), .v (.int .i64 mn), .v (.slice none 0 0), .v (.slice none 0 0)]], h.st i l a'⟩) ?_ ?_
        · refine awp_cond (t := _) rfl (fun h5 => ?_) (fun h5 => ?_)
          · refine ru15SRight trivial ?_; (repeat' (with_reducible refine AndQ.mk ?_ ?_)); (all_goals (try ((with_reducible refine kin ?_); intro K1 hK1)))
            refine (g_pick i l (a + 1 + 1 + 1) [1, 2, 3] none h hl (by omega) (by simp)).mono ?_; rintro _ _ ⟨mn, hmn, rfl, rfl⟩; refine hK1 _ ?_; clear hK1 K1
            refine ru15SRight trivial ?_; (repeat' (with_reducible refine AndQ.mk ?_ ?_)); (all_goals (try ((with_reducible refine kin ?_); intro K1 hK1)))
            exact ⟨mn, 1, _, by simp at hmn; omega, by omega, by omega, rfl⟩
          · refine ru15SRight trivial ?_; (repeat' (with_reducible refine AndQ.mk ?_ ?_)); (all_goals (try ((with_reducible refine kin ?_); intro K1 hK1)))
            exact ⟨0, many, _, by omega, hmany, by omega, rfl⟩
        · rintro _ ⟨mn, many, a', hmn, hmany2, ha', rfl⟩
          refine awp_ownLoc 1 4 6 rfl rfl (fun k1 hk1 => ?_)
          simp only [List.set_cons_zero, List.set_cons_succ]
          refine awp_via (fun s => ∃ (S : AV) (T' : Nat → Option TO), T' k1 = some (.tail 0) ∧ (kd = 4 ∧ (∃ k2, k2 ≠ k1 ∧ h.T k2 = none ∧ S = .row 1 [] (some k2) ∧ T' k2 = some (.tail 0)) ∨ kd ≠ 4 ∧ S = .v (.slice none 0 0)) ∧ (∀ k, h.T k ≠ none → T' k = h.T k) ∧
            s = ⟨(AV.junk :: ((.v (.int .i64 deep)) :: (.ref [.ptr i 0] 0) :: AV.junk :: ((.loc 0 0) :: AV.junk :: ((.loc 1 0) :: (.v (.int .i64 many)) :: (jnk 68 []))))),
              [[.v (.int .i64 0), .v (.string { data := #[] }), .v (.int .i64 0), .v (.int .i64 0), .v (.slice none 0 0), .v (.slice none 0 0)], [.v (.int .i64 kd), .v (.string { data := #[] }), .v (.int .i64 0), .v (.int .i64 mn), .row 6 [] (some k1), S]], Hp.st ⟨h.H, T'⟩ i l a'⟩) ?_ ?_
          rotate_left
          · intro main
            by_cases h4 : kd = 4
            · refine awp_ownLoc 1 5 1 rfl rfl (fun k2 hk2 => ?_)
              simp only [List.set_cons_zero, List.set_cons_succ]
              have hne : k2 ≠ k1 := fun e => by subst e; simp [upd_same] at hk2
              simp only [upd_other _ _ hne] at hk2
              refine main _ ⟨_, upd (upd h.T k1 (some (.tail 0))) k2 (some (.tail 0)), by rw [upd_other _ _ hne.symm, upd_same], .inl ⟨h4, k2, hne, hk2, rfl, upd_same _ _ _⟩, fun k hk => ?_, rfl⟩
              have e1 : k ≠ k1 := fun e => hk (e ▸ hk1)
              have e2 : k ≠ k2 := fun e => hk (e ▸ hk2)
              rw [upd_other _ _ e2, upd_other _ _ e1]
            · refine main _ ⟨_, upd h.T k1 (some (.tail 0)), upd_same _ _ _, .inr ⟨h4, rfl⟩, fun k hk => ?_, rfl⟩
              have e1 : k ≠ k1 := fun e => hk (e ▸ hk1)
              rw [upd_other _ _ e1]
          · rintro _ ⟨S, T', hT1, hS, hTT, rfl⟩
            refine ru15SRight trivial ?_; (repeat' (with_reducible refine AndQ.mk ?_ ?_)); (all_goals (try ((with_reducible refine kin ?_); intro K1 hK1)))
            refine awp_loopC (rl false [1, 2, 1, 1, 1, 1, 25, 2, 42]) 2 (fun g s => RightI d deep i l h kd mn many a' k1 g s) many.toNat ⟨[], [], S, T', a', by simp; omega, hT1, by
              rcases hS with ⟨x1, k2, x2, x5, x3, x4⟩ | ⟨x1, x2⟩
              · exact .inl ⟨x1, k2, x2, x5, x3, x4, rfl⟩
              · exact .inr ⟨x1, rfl, x2⟩, hTT, by simp, by simp, by simp, rfl⟩ ?_
            rintro n _ ⟨kids, shares, S, T2, a2, hn, hT1, hS, hTT, hkl, hsb, ha2, rfl⟩
            have hkn : (kids.length : Int) ≤ 3 := by omega
            have hcd : (kids.length : Int) * (costR d + 3) ≤ 3 * (costR d + 3) := Int.mul_le_mul_of_nonneg_right hkn (by omega)
            refine ru15SRight trivial ?_; (repeat' (with_reducible refine AndQ.mk ?_ ?_)); (all_goals (try ((with_reducible refine kin ?_); intro K1 hK1)))
            refine awp_cond (t := _) rfl (fun h5 => ?_) (fun h5 => ?_)
            rotate_left
            · refine ru15SRight trivial ?_; (repeat' (with_reducible refine AndQ.mk ?_ ?_)); (all_goals (try ((with_reducible refine kin ?_); intro K1 hK1)))
              refine rtG Tryd.results15 ?_
              have hkl2 : (kids.length : Int) = many := by simp only [decide_eq_false_iff_not] at h5; omega
              refine ⟨_, _, ?_, le_st hTT i l a2, .mk kd default 0 mn kids shares, a2, ?_, by omega, rfl, rfl⟩
              · rw [encX_eq]
                refine Weak.agg (.cons (Weak.refl _) (.cons (Weak.refl _) (.cons (Weak.refl _) (.cons (Weak.refl _) (.cons ?_ (.cons ?_ .nil))))))
                · cases kids with
                  | nil => simp at hkl2; omega
                  | cons x xs => exact Weak.row _ _ _
                · rcases hS with ⟨_, k2, _, _, rfl, _, h6⟩ | ⟨_, rfl, rfl⟩
                  · cases shares with
                    | nil => simp at h6; omega
                    | cons x xs => exact Weak.row _ _ _
                  · exact Weak.refl _
              · refine ⟨by unfold NB; omega, by decide, by unfold NB; omega, by unfold NB; omega, by omega, ?_, hsb, hkl⟩
                rcases hS with ⟨_, k2, _, _, rfl, _, h6⟩ | ⟨_, rfl, rfl⟩
                · omega
                · simp
            · simp only [decide_eq_true_eq] at h5
              have hcd2 : (kids.length : Int) * (costR d + 3) ≤ 2 * (costR d + 3) := Int.mul_le_mul_of_nonneg_right (by omega) (by omega)
              have hd1 : 1 ≤ deep := by simp only [decide_eq_false_iff_not] at h1; omega
              refine ru15SRight trivial ?_; (repeat' (with_reducible refine AndQ.mk ?_ ?_)); (all_goals (try ((with_reducible refine kin ?_); intro K1 hK1)))
              refine (g_pick i l a2 [1, 1, 2] none ⟨h.H, T2⟩ hl (by omega) (by simp)).mono ?_; rintro _ _ ⟨dx, hdx, rfl, rfl⟩; refine hK1 _ ?_; clear hK1 K1
              have hdx2 : 1 ≤ dx ∧ dx ≤ 2 := by simp at hdx; omega
              refine ru15SRight trivial ?_; (repeat' (with_reducible refine AndQ.mk ?_ ?_)); (all_goals (try ((with_reducible refine kin ?_); intro K1 hK1)))
              refine (g_right d (deep - dx) (by omega) i l (a2 + 1) ⟨h.H, T2⟩ hl (by omega)).mono ?_; rintro _ _ ⟨t, a3, ht, ha3, rfl, rfl⟩; refine hK1 _ ?_; clear hK1 K1
              have hlen := encX_len t
              refine rr15SRight hlen ?_; (repeat' (with_reducible refine AndQ.mk ?_ ?_)); (all_goals (try ((with_reducible refine kin ?_); intro K1 hK1)))
              refine awp_seq ?_
              refine awp_join (rl false [1, 2, 1, 1, 1, 1, 1, 1, 23, 2, 42]) 3 (fun s => ∃ t a4, LB (d + 1) t ∧ (a2 ≤ a4 ∧ a4 ≤ a2 + costR d + 2) ∧
                s = ⟨(AV.junk :: ((.v (.int .i64 deep)) :: (.ref [.ptr i 0] 0) :: AV.junk :: ((.loc 0 0) :: AV.junk :: ((.loc 1 0) :: AV.junk :: ((.loc 2 0) :: (jnk 23 ((.v (.int .i64 many)) :: (.v (.int .i64 kids.length)) :: (jnk 42 [])))))))),
                  [[.v (.int .i64 0), .v (.string { data := #[] }), .v (.int .i64 0), .v (.int .i64 0), .v (.slice none 0 0), .v (.slice none 0 0)], [.v (.int .i64 kd), .v (.string { data := #[] }), .v (.int .i64 0), .v (.int .i64 mn), .row 6 (kids.map encX) (some k1), S], encX t], Hp.st ⟨h.H, T2⟩ i l a4⟩) ?_ ?_
              · refine ru15SRight trivial ?_; (repeat' (with_reducible refine AndQ.mk ?_ ?_)); (all_goals (try ((with_reducible refine kin ?_); intro K1 hK1)))
                rotate_left
                · intro h6
                  refine hK1 _ ?_; clear hK1 K1
                  refine ru15SRight h6 ?_; (repeat' (with_reducible refine AndQ.mk ?_ ?_)); (all_goals (try ((with_reducible refine kin ?_); intro K1 hK1)))
                  refine awp_cond (t := _) rfl (fun h7 => by cases h7) (fun h7 => ?_)
                  refine ru15SRight trivial ?_; (repeat' (with_reducible refine AndQ.mk ?_ ?_)); (all_goals (try ((with_reducible refine kin ?_); intro K1 hK1)))
                  exact ⟨t, a3, ht, by omega, rfl⟩
                · intro h6
                  refine ⟨h6, ?_⟩
                  refine (g_flip i l a3 3 ⟨h.H, T2⟩ hl (by omega) (by omega)).mono ?_
                  rintro _ _ ⟨b2, rfl, rfl⟩
                  refine ⟨rfl, hK1 _ ?_⟩; clear hK1 K1
                  refine ru15SRight h6 ?_; (repeat' (with_reducible refine AndQ.mk ?_ ?_)); (all_goals (try ((with_reducible refine kin ?_); intro K1 hK1)))
                  refine awp_cond (t := _) rfl (fun h7 => ?_) (fun h7 => ?_)
                  · simp only [decide_eq_true_eq] at h6
                    have hg : (kids.map encX).getD ((kids.length : Int) - 1).toNat [] = encX (kids.getD ((kids.length : Int) - 1).toNat default) := getD_encX (by omega)
                    have hm : kids.getD ((kids.length : Int) - 1).toNat default ∈ kids := by
                      rw [List.getD_eq_getElem?_getD, List.getElem?_eq_getElem (show ((kids.length : Int) - 1).toNat < kids.length by omega)]
                      exact List.getElem_mem _
                    generalize kids.getD ((kids.length : Int) - 1).toNat default = t2 at hg hm
                    have hlen2 := encX_len t2
                    have htk2 : List.take 6 (encX t2) = encX t2 := List.take_of_length_le (Nat.le_of_eq hlen2)
                    have hdr : List.drop 6 (encX t) = [] := List.drop_of_length_le (Nat.le_of_eq hlen)
                    refine ru15SRight (And.intro hg (And.intro hlen (And.intro hlen2 (And.intro htk2 hdr)))) ?_; (repeat' (with_reducible refine AndQ.mk ?_ ?_)); (all_goals (try ((with_reducible refine kin ?_); intro K1 hK1)))
                    exact ⟨t2, a3 + 1, hkl _ hm, by omega, rfl⟩
                  · refine ru15SRight trivial ?_; (repeat' (with_reducible refine AndQ.mk ?_ ?_)); (all_goals (try ((with_reducible refine kin ?_); intro K1 hK1)))
                    exact ⟨t, a3 + 1, ht, by omega, rfl⟩
              · clear ht ha3 hlen t a3
                rintro _ ⟨t, a4, ht, ha4, rfl⟩
                have hlen := encX_len t
                have htk : List.take 6 (encX t) = encX t := List.take_of_length_le (Nat.le_of_eq hlen)
                refine ru15SRight (And.intro hlen (And.intro htk (And.intro hT1 st_T))) ?_; (repeat' (with_reducible refine AndQ.mk ?_ ?_)); (all_goals (try ((with_reducible refine kin ?_); intro K1 hK1)))
                rcases hS with ⟨h4, k2, hne, hk2, rfl, hT3, hsl⟩ | ⟨h4, rfl, rfl⟩
                · refine awp_cond (t := _) rfl (fun _ => ?_) (fun h7 => absurd h4 (by simpa using h7))
                  have hT4 : upd T2 k1 (some (.tail (kids.length + 1))) k2 = some (.tail shares.length) := by rw [upd_other _ _ hne]; exact hT3
                  refine ru15SRight (And.intro hT4 st_T) ?_; (repeat' (with_reducible refine AndQ.mk ?_ ?_)); (all_goals (try ((with_reducible refine kin ?_); intro K1 hK1)))
                  refine (g_pick i l a4 [1, 1, 2, 3, 4] none ⟨h.H, upd T2 k1 (some (.tail (kids.length + 1)))⟩ hl (by omega) (by simp)).mono ?_; rintro _ _ ⟨sx, hsx, rfl, rfl⟩; refine hK1 _ ?_; clear hK1 K1
                  refine ru15SRight (And.intro hT4 (And.intro st_T @encI.eq_1)) ?_; (repeat' (with_reducible refine AndQ.mk ?_ ?_)); (all_goals (try ((with_reducible refine kin ?_); intro K1 hK1)))
                  refine ⟨n - 1, by omega, kids ++ [t], shares ++ [sx], _, upd (upd T2 k1 (some (.tail (kids.length + 1)))) k2 (some (.tail (shares.length + 1))), a4 + 1, by simp; omega, by rw [upd_other _ _ hne.symm, upd_same]; simp, .inl ⟨h4, k2, hne, hk2, by simp [encI]; rfl, by rw [upd_same]; simp, by simp; omega⟩, ?_, ?_, ?_, ?_, ?_⟩
                  · intro k hk
                    have e1 : k ≠ k1 := fun e => hk (e ▸ hk1)
                    by_cases e2 : k = k2
                    · subst e2; exact absurd hk2 hk
                    · rw [upd_other _ _ e2, upd_other _ _ e1]; exact hTT k hk
                  · intro x hx
                    rcases List.mem_append.1 hx with hx | hx
                    · exact hkl x hx
                    · simp at hx; subst hx; exact ht
                  · intro x hx
                    rcases List.mem_append.1 hx with hx | hx
                    · exact hsb x hx
                    · simp at hx hsx; subst hx; unfold NB; omega
                  · have e9 : ((kids ++ [t]).length : Int) * (costR d + 3) = kids.length * (costR d + 3) + (costR d + 3) := by simp [Int.add_mul]
                    rw [e9]; omega
                  · simp; rfl
                · refine awp_cond (t := _) rfl (fun h7 => absurd (by simpa using h7) h4) (fun _ => ?_)
                  refine ru15SRight trivial ?_; (repeat' (with_reducible refine AndQ.mk ?_ ?_)); (all_goals (try ((with_reducible refine kin ?_); intro K1 hK1)))
                  refine ⟨n - 1, by omega, kids ++ [t], [], _, upd T2 k1 (some (.tail (kids.length + 1))), a4, by simp; omega, by rw [upd_same]; simp, .inr ⟨h4, rfl, rfl⟩, ?_, ?_, ?_, ?_, ?_⟩
                  · intro k hk
                    have e1 : k ≠ k1 := fun e => hk (e ▸ hk1)
                    rw [upd_other _ _ e1]; exact hTT k hk
                  · intro x hx
                    rcases List.mem_append.1 hx with hx | hx
                    · exact hkl x hx
                    · simp at hx; subst hx; exact ht
                  · simp
                  · have e9 : ((kids ++ [t]).length : Int) * (costR d + 3) = kids.length * (costR d + 3) + (costR d + 3) := by simp [Int.add_mul]
                    rw [e9]; omega
                  · simp; rfl
end Go.Proofs.YtoleejecmefogaaDoor
/- Stream.Loop: nearly always a right loop. -/
namespace Go.Proofs.YtoleejecmefogaaDoor
open Go
set_option maxRecDepth 100000
set_option maxHeartbeats 8000000
theorem ru4SLoop {P Q X : Prop} (x : X) (q : Q) (h : X → Hold Q → P := by intro x0 q0; (repeat (first | (with_reducible refine awp_block ?_) | (with_reducible refine vRem_nil ?_) | (with_reducible refine vRst_nil ?_) | ((with_reducible refine vRem_id ?_); refine vRem_nil ?_) | ((first | ((with_reducible refine awp_idS (b := false) ?_); refine awp_seqR2 tyok (mdL [(4, 1), (5, 2), (7, 1), (8, 1)]) fun KN hKN => ?_) | ((with_reducible refine awp_idR (b := false) ?_); refine awp_region2 tyok (mdL [(4, 1), (5, 2), (7, 1), (8, 1)]) fun KN hKN => ?_) | ((with_reducible refine vRem_id ?_); refine vRem_go fun KN hKN => ?_) | ((with_reducible refine vRst_id ?_); refine vRst_go fun KN hKN => ?_) | ((with_reducible refine vMid_id ?_); refine vMid_go ?_ fun KN hKN => ?_) | ((with_reducible refine awp_idS (b := true) ?_); refine awp_seqD2 (id := 17) tyok (by kernel_rfl) (mdL [(4, 1), (5, 2), (7, 1), (8, 1)]) (E0 := [0, 1, 2, 3, 4, 5, 6]) (pl := [(7, [4], [8]), (9, [], [10, 11]), (12, [], [])]) 83 rfl (by kernel_rfl) fun KN hKN => ?_) | ((with_reducible refine awp_idR (b := true) ?_); refine awp_draw2 (id := 17) tyok (by kernel_rfl) (mdL [(4, 1), (5, 2), (7, 1), (8, 1)]) (E0 := [0, 1, 2, 3, 4, 5, 6]) (pl := [(7, [4], [8]), (9, [], [10, 11]), (12, [], [])]) 83 rfl (by kernel_rfl) fun KN hKN => ?_)) <;> (simp only [vOps, jnk_zero, jnk_jnk, getD_jnk_lt, getD_jnk_ge, set_jnk_lt, set_jnk_ge, Nat.reduceSub, Nat.reduceLT, Nat.reduceLeDiff, gStep, condG, qV, binV, vV, iV, sV, bV, nV, arV, pickE, joinA, joinOk, isOpt, vEff, binE, vBin, iBin, sBin, arith, nilOf, nBin, boolOk, convI, storeE, newE, sliceE, appE, lenE, minE, biE, bndE, cellsAt, ldOk, ld, TyD.isAgg, AV.shift, AV.isAddr, AV.cellsB, AV.noLoc, rowOf, litRow, fillA, opS, uside, unw, evL, cv, St.put, opsOf, Value.oneCell', vIdx, stepI, vRest, reL, reI, mdL, splice, bef, aft, isCallB, isCallV, ↓reduceIte, Nat.reduceAdd, reduceCtorEq, Nat.reduceEqDiff, Nat.reduceMul, lemA, lemT, x0]; (try and_intros); (all_goals first | (refine hKN _ ?_; clear hKN KN) | (first | exact True.intro | (intros; first | exact True.intro | (with_reducible assumption) | omega | (with_reducible rfl) | (with_reducible decide) | (simp_all; done) | (simp_all; omega))) | skip))) | (with_reducible refine awp_seq ?_) | (with_reducible refine awp_skip ?_) | (with_reducible refine awp_exit ?_) | (with_reducible refine thenQ_normal ?_) | (with_reducible refine inBlock_normal ?_) | (with_reducible refine thenQ_exit ?_) | (with_reducible refine inBlock_exit ?_) | (with_reducible refine inBlock_other (by decide) ?_))); (all_goals (try revert KN)); first | (exact q0.out; done) | (apply Hold.fst; exact q0; apply Hold.snd; exact q0; done) | (apply Hold.a; exact q0; apply Hold.b; exact q0; apply Hold.c; exact q0; done) | (apply Hold.a4; exact q0; apply Hold.b4; exact q0; apply Hold.c4; exact q0; apply Hold.d4; exact q0; done)) : P := h x ⟨q⟩
theorem rr4SLoop {P Q X : Prop} (x : X) (q : Q) (h : X → Hold Q → P := by intro x0 q0; (repeat (first | (with_reducible refine awp_block ?_) | (with_reducible refine vRem_nil ?_) | (with_reducible refine vRst_nil ?_) | ((with_reducible refine vRem_id ?_); refine vRem_nil ?_) | ((first | ((with_reducible refine awp_idS (b := false) ?_); refine awp_seqR2 tyok (mdL [(4, 1), (5, 2), (7, 1), (8, 1)]) fun KN hKN => ?_) | ((with_reducible refine awp_idR (b := false) ?_); refine awp_region2 tyok (mdL [(4, 1), (5, 2), (7, 1), (8, 1)]) fun KN hKN => ?_) | ((with_reducible refine vRem_id ?_); refine vRem_go fun KN hKN => ?_) | ((with_reducible refine vRst_id ?_); refine vRst_go fun KN hKN => ?_) | ((with_reducible refine vMid_id ?_); refine vMid_go ?_ fun KN hKN => ?_) | ((with_reducible refine awp_idS (b := true) ?_); refine awp_seqD2 (id := 17) tyok (by kernel_rfl) (mdL [(4, 1), (5, 2), (7, 1), (8, 1)]) (E0 := [0, 1, 2, 3, 4, 5, 6]) (pl := [(7, [4], [8]), (9, [], [10, 11]), (12, [], [])]) 83 rfl (by kernel_rfl) fun KN hKN => ?_) | ((with_reducible refine awp_idR (b := true) ?_); refine awp_draw2 (id := 17) tyok (by kernel_rfl) (mdL [(4, 1), (5, 2), (7, 1), (8, 1)]) (E0 := [0, 1, 2, 3, 4, 5, 6]) (pl := [(7, [4], [8]), (9, [], [10, 11]), (12, [], [])]) 83 rfl (by kernel_rfl) fun KN hKN => ?_)) <;> (simp only [vOps, jnk_zero, jnk_jnk, getD_jnk_lt, getD_jnk_ge, set_jnk_lt, set_jnk_ge, Nat.reduceSub, Nat.reduceLT, Nat.reduceLeDiff, gStep, condG, qV, binV, vV, iV, sV, bV, nV, arV, pickE, joinA, joinOk, isOpt, vEff, binE, vBin, iBin, sBin, arith, nilOf, nBin, boolOk, convI, storeE, newE, sliceE, appE, lenE, minE, biE, bndE, cellsAt, ldOk, ld, TyD.isAgg, AV.shift, AV.isAddr, AV.cellsB, AV.noLoc, rowOf, litRow, fillA, opS, uside, unw, evL, cv, St.put, opsOf, Value.oneCell', vIdx, stepI, vRest, reL, reI, mdL, splice, bef, aft, isCallB, isCallV, ↓reduceIte, Nat.reduceAdd, reduceCtorEq, Nat.reduceEqDiff, Nat.reduceMul, lemA, lemT, x0]; (try and_intros); (all_goals first | (refine hKN _ ?_; clear hKN KN) | (first | exact True.intro | (intros; first | exact True.intro | (with_reducible assumption) | omega | (with_reducible rfl) | (with_reducible decide) | (simp_all; done) | (simp_all; omega))) | skip))) | (with_reducible refine awp_skip ?_) | (with_reducible refine awp_exit ?_) | (with_reducible refine thenQ_normal ?_) | (with_reducible refine inBlock_normal ?_) | (with_reducible refine thenQ_exit ?_) | (with_reducible refine inBlock_exit ?_) | (with_reducible refine inBlock_other (by decide) ?_))); (all_goals (try revert KN)); first | (exact q0.out; done) | (apply Hold.fst; exact q0; apply Hold.snd; exact q0; done) | (apply Hold.a; exact q0; apply Hold.b; exact q0; apply Hold.c; exact q0; done) | (apply Hold.a4; exact q0; apply Hold.b4; exact q0; apply Hold.c4; exact q0; apply Hold.d4; exact q0; done)) : P := h x ⟨q⟩
theorem st_obj {h : Hp} {i o : Nat} (hio : o ≠ i) (l : List Int) (a : Int) (x : AO) (T1 : Nat → Option TO) : ({ H := upd (h.st i l a).H o (some x), T := T1 } : Hp) = Hp.st ⟨upd h.H o (some x), T1⟩ i l a := by
  simp only [Hp.st]
  congr 1
  funext j
  by_cases hj : j = o
  · subst hj; rw [upd_same, upd_other _ _ hio, upd_same]
  · by_cases hji : j = i
    · subst hji; rw [upd_other _ _ hj, upd_same, upd_same]
    · rw [upd_other _ _ hj, upd_other _ _ hji, upd_other _ _ hji, upd_other _ _ hj]
theorem st_obj2 {h : Hp} {i o : Nat} (hio : o ≠ i) (l : List Int) (b : Int) (X : Option AO) (Y : AO) (T1 T2 : Nat → Option TO) : ({ H := upd (Hp.st ⟨upd h.H o X, T1⟩ i l b).H o (some Y), T := T2 } : Hp) = Hp.st ⟨upd h.H o (some Y), T2⟩ i l b := by
  rw [st_obj hio]; simp only [upd_upd]
theorem st_mk3 {s : St} {sl : List AV} {lo : List (List AV)} {h : Hp} (h1 : s.sl = sl) (h2 : s.lo = lo) (h3 : s.h = h) : s = ⟨sl, lo, h⟩ := by cases s; simp_all
section
variable {b : Bool} {T : Nat → Option TO} {S : Nat → Prop} {e : Nat} {k i l m K Sh : AV}
theorem OLd.kind {r : List AV} (h : OLd b T S e (k :: r)) {k' : Int} (hk : NB k') : OLd b T S e (.v (.int .i64 k') :: r) := by
  cases e with
  | zero => exact h.elim
  | succ e =>
    obtain ⟨kind, item, long, many, K, Sh, he, ⟨h0, h1, h2, h3⟩, h4, h5⟩ := h
    cases he
    exact ⟨_, _, _, _, _, _, rfl, ⟨hk, h1, h2, h3⟩, h4, h5⟩
theorem OLd.il (h : OLd b T S e [k, i, l, m, K, Sh]) {i' : ByteArray} {l' : Int} (hi : i'.size ≤ 2) (hk : NB l') : OLd b T S e [k, .v (.string i'), .v (.int .i64 l'), m, K, Sh] := by
  cases e with
  | zero => exact h.elim
  | succ e =>
    obtain ⟨kind, item, long, many, K, Sh, he, ⟨h0, h1, h2, h3⟩, h4, h5⟩ := h
    cases he
    exact ⟨_, _, _, _, _, _, rfl, ⟨h0, hi, hk, h3⟩, h4, h5⟩
theorem OLd.many (h : OLd b T S e [k, i, l, m, K, Sh]) {l' : Int} (hk : NB l') : OLd b T S e [k, i, l, .v (.int .i64 l'), K, Sh] := by
  cases e with
  | zero => exact h.elim
  | succ e =>
    obtain ⟨kind, item, long, many, K, Sh, he, ⟨h0, h1, h2, h3⟩, h4, h5⟩ := h
    cases he
    exact ⟨_, _, _, _, _, _, rfl, ⟨h0, h1, h2, hk⟩, h4, h5⟩
theorem OLd.nokids (h : OLd b T S e [k, i, l, m, K, Sh]) : OLd b T S e [k, i, l, m, .v (.slice none 0 0), Sh] := by
  cases e with
  | zero => exact h.elim
  | succ e =>
    obtain ⟨kind, item, long, many, K, Sh, he, h3, h4, h5⟩ := h
    cases he
    exact ⟨_, _, _, _, _, _, rfl, h3, .inl rfl, h5⟩
theorem OLd.share (h : OLd false T S e [k, i, l, m, K, Sh]) {xs : List Int} {q : Nat} (hx : xs.length ≤ 5) (hb : ∀ x ∈ xs, NB x) : OLd false T S e [k, i, l, m, K, .row 1 (xs.map encI) (some q)] := by
  cases e with
  | zero => exact h.elim
  | succ e =>
    obtain ⟨kind, item, long, many, K, Sh, he, h3, h4, h5⟩ := h
    cases he
    exact ⟨_, _, _, _, _, _, rfl, h3, h4, .inr ⟨xs, q, rfl, hx, hb, fun h => by cases h⟩⟩
theorem OLd.wrap {cs : List AV} (h : OLd false T S e cs) {k' m' : Int} (hk : NB k') (hm : NB m') : OLd false T S (e + 1) [.v (.int .i64 k'), .v (.string { data := #[] }), .v (.int .i64 0), .v (.int .i64 m'), .row 6 [cs] none, .v (.slice none 0 0)] :=
  ⟨_, _, _, _, _, _, rfl, ⟨hk, by decide, by unfold NB; omega, hm⟩, .inr (.inr ⟨rfl, _, rfl, by simp, by simpa using h⟩), .inl rfl⟩
end
def LoopJ (i o : Nat) (l : List Int) (a b : Int) (h : Hp) (bb : Bool) (d : Nat) (s : St) : Prop :=
  ∃ cs T' a', OLd bb T' (fun k => h.T k = none) d cs ∧ (∀ k, h.T k ≠ none → T' k = h.T k) ∧ (a ≤ a' ∧ a' ≤ b) ∧
    s = ⟨((.ptr i 0) :: (jnk 3 ((.loc 0 0) :: (.ptr o 0) :: (jnk 77 [])))), [[.v (.int .i64 0), .v (.string { data := #[] }), .v (.int .i64 0), .v (.int .i64 0), .v (.slice none 0 0), .v (.slice none 0 0)]], Hp.st ⟨upd h.H o (some (.cells cs)), T'⟩ i l a'⟩
theorem g_Loop0 (d : Nat) (deep : Int) (hd : deep ≤ d ∧ -10 ≤ deep ∧ d ≤ 100) (i : Nat) (l : List Int) (a : Int) (h : Hp) (hl : SOk l) (ha : 0 ≤ a ∧ a + costR d + 2 * d + 40 ≤ 900000000) :
    ACalls Tryd.prog 4 [.ptr i 0, .v (.int .i64 deep)] (h.st i l a) (fun r h' => ∃ cs T' a', OLd false T' (fun k => h.T k = none) (d + 20) cs ∧ (∀ k, h.T k ≠ none → T' k = h.T k) ∧ (a ≤ a' ∧ a' ≤ a + costR d + 2 * d + 40) ∧ r = .agg cs ∧ h' = Hp.st ⟨h.H, T'⟩ i l a') := by
  refine acalls_of tyok Tryd.func4 rfl (by kernel_rfl) fun c => ?_; simp only [Tryd.ntmps4, List.length_cons, List.length_nil, Nat.reduceAdd, Nat.reduceSub, jnk_rep, List.cons_append, List.nil_append]
  refine ru4SLoop trivial ?_; (repeat' (with_reducible refine AndQ.mk ?_ ?_)); (all_goals (try ((with_reducible refine kin ?_); intro K1 hK1)))
  refine (g_right d deep hd i l a h hl (by omega)).mono ?_; rintro _ _ ⟨t, a1, ht, ha1, rfl, rfl⟩; refine hK1 _ ?_; clear hK1 K1
  refine ru4SLoop trivial ?_; (repeat' (with_reducible refine AndQ.mk ?_ ?_)); (all_goals (try ((with_reducible refine kin ?_); intro K1 hK1)))
  refine (g_copied (d + 1) t (h.st i l a1) ht).mono ?_
  rintro _ _ ⟨cs, T1, hcs, hT1, rfl, rfl⟩
  refine hK1 _ ?_; clear hK1 K1
  have hcsl := hcs.len
  have htk : List.take 6 cs = cs := List.take_of_length_le (Nat.le_of_eq hcsl)
  have hdr : List.drop 6 cs = [] := List.drop_of_length_le (Nat.le_of_eq hcsl)
  refine rr4SLoop (And.intro hcsl (And.intro htk hdr)) ?_; (repeat' (with_reducible refine AndQ.mk ?_ ?_)); (all_goals (try ((with_reducible refine kin ?_); intro K1 hK1)))
  intro o ho
  have hio : o ≠ i := fun e => by subst e; rw [st_at] at ho; cases ho
  and_intros <;> first | (refine hK1 _ ?_; clear hK1 K1) | exact .inl trivial | exact True.intro | omega
  rw [st_obj hio]
  replace hcs : OLd true T1 (fun k => h.T k = none) (d + 1) cs := hcs
  replace hT1 : ∀ k, h.T k ≠ none → T1 k = h.T k := hT1
  refine rr4SLoop trivial ?_; (repeat' (with_reducible refine AndQ.mk ?_ ?_)); (all_goals (try ((with_reducible refine kin ?_); intro K1 hK1)))
  refine awp_seq ?_
  refine awp_join (rl false [0, 1, 3, 2, 77]) 1 (fun s => LoopJ i o l a (a + costR d + 2 * d + 40) h false (d + 20) s) ?_ ?_
  rotate_left
  · rintro _ ⟨cs, T', a', hcs, hT', ha', rfl⟩
    have hcsl := hcs.len
    have htk : List.take 6 cs = cs := List.take_of_length_le (Nat.le_of_eq hcsl)
    have hdr : List.drop 6 cs = [] := List.drop_of_length_le (Nat.le_of_eq hcsl)
    have hH : (Hp.st ⟨upd h.H o (some (.cells cs)), T'⟩ i l a').H o = some (.cells cs) := by simp only [Hp.st, upd_other _ _ hio, upd_same]
    refine ru4SLoop (And.intro hcsl (And.intro htk (And.intro hdr hH))) ?_; (repeat' (with_reducible refine AndQ.mk ?_ ?_)); (all_goals (try ((with_reducible refine kin ?_); intro K1 hK1)))
    refine rtG (And.intro Tryd.results4 (And.intro hcsl (And.intro htk hdr))) ?_
    refine ⟨_, Hp.st ⟨h.H, T'⟩ i l a', Weak.refl _, ⟨fun j => ?_, fun k => .inr rfl⟩, cs, T', a', hcs, hT', ha', rfl, rfl⟩
    simp only [Hp.st] at ho ⊢
    rw [upd_other _ _ hio] at ho
    by_cases hj : j = i
    · subst hj; exact .inr (by rw [upd_same, upd_same])
    · by_cases hjo : j = o
      · subst hjo; exact .inl (by rw [upd_other _ _ hj]; exact ho)
      · exact .inr (by rw [upd_other _ _ hj, upd_other _ _ hj, upd_other _ _ hjo])
  · refine ru4SLoop trivial ?_; (repeat' (with_reducible refine AndQ.mk ?_ ?_)); (all_goals (try ((with_reducible refine kin ?_); intro K1 hK1)))
    refine (g_flip i l a1 10 ⟨upd h.H o (some (.cells cs)), T1⟩ hl (by omega) (by omega)).mono ?_; rintro _ _ ⟨b, rfl, rfl⟩; refine hK1 _ ?_; clear hK1 K1
    refine ru4SLoop trivial ?_; (repeat' (with_reducible refine AndQ.mk ?_ ?_)); (all_goals (try ((with_reducible refine kin ?_); intro K1 hK1)))
    refine awp_cond (t := _) rfl (fun hb => ?_) (fun hb => ?_)
    rotate_left
    · refine ru4SLoop trivial ?_; (repeat' (with_reducible refine AndQ.mk ?_ ?_)); (all_goals (try ((with_reducible refine kin ?_); intro K1 hK1)))
      exact ⟨cs, T1, a1 + 1, hcs.weaken.up (by omega), hT1, by omega, rfl⟩
    · refine ru4SLoop trivial ?_; (repeat' (with_reducible refine AndQ.mk ?_ ?_)); (all_goals (try ((with_reducible refine kin ?_); intro K1 hK1)))
      refine (g_inner i o l (a1 + 1) ⟨upd h.H o (some (.cells cs)), T1⟩ hl (fun k => h.T k = none) (d + 1) cs (by omega) hio (upd_same _ _ _) hcs).mono ?_
      rintro p _ ⟨cs2, e, a2, ha2, hp, hcs2, rfl⟩
      have o3 : OneV p := by rcases hp with ⟨rfl, _⟩ | ⟨q, css, j, _, _, _, rfl, _⟩ <;> exact ⟨rfl, rfl, rfl, rfl, rfl⟩
      obtain ⟨w1, w2, w3, w4, w5⟩ := o3
      unfold uside at w1; unfold unw at w2; unfold AV.noLoc at w3; unfold isOpt at w4; simp only [AV.cellsB, Value.oneCell'] at w5
      refine hK1 _ ?_; clear hK1 K1
      refine ru4SLoop (And.intro w1 (And.intro w2 (And.intro w3 (And.intro w4 w5)))) ?_; (repeat' (with_reducible refine AndQ.mk ?_ ?_)); (all_goals (try ((with_reducible refine kin ?_); intro K1 hK1)))
      refine (g_next i l a2 7 ⟨upd h.H o (some (.cells cs)), T1⟩ hl (by omega) (by omega)).mono ?_; rintro _ _ ⟨x, hx, rfl, rfl⟩; refine hK1 _ ?_; clear hK1 K1
      obtain ⟨k, it, lo, mn, K, Sh, rfl⟩ : ∃ k it lo mn K Sh, cs2 = [k, it, lo, mn, K, Sh] := by
        cases e with
        | zero => exact hcs2.elim
        | succ e => obtain ⟨_, _, _, _, _, _, rfl, _⟩ := id hcs2; exact ⟨_, _, _, _, _, _, rfl⟩
      have hH : [k, it, lo, mn, K, Sh] = cs → ∀ b, (Hp.st ⟨upd h.H o (some (.cells cs)), T1⟩ i l b).H o = some (.cells [k, it, lo, mn, K, Sh]) := fun he b => by rw [he]; simp only [Hp.st, upd_other _ _ hio, upd_same]
      have hO : [k, it, lo, mn, K, Sh] = cs → OLd true T1 (fun k => h.T k = none) (d + 1) [k, it, lo, mn, K, Sh] := fun he => by rw [he]; exact hcs
      replace hcs2 : OLd true T1 (fun k => h.T k = none) e [k, it, lo, mn, K, Sh] := hcs2
      have hgs : ∀ (css : List (List AV)) (j : Nat), j < css.length → ∀ c, (css.set j c).getD j [] = c := fun css j hj c => by rw [List.getD_eq_getElem?_getD, List.getElem?_set_self hj]; rfl
      refine ru4SLoop trivial ?_; (repeat' (with_reducible refine AndQ.mk ?_ ?_)); (all_goals (try ((with_reducible refine kin ?_); intro K1 hK1)))
      refine awp_cond (t := _) rfl (fun h5 => ?_) (fun h5 => ?_)
      · rcases hp with ⟨rfl, he⟩ | ⟨q, css, j, hq, hTq, hj, rfl, hg⟩
        · have hH := hH he
          refine ru4SLoop hH ?_; (repeat' (with_reducible refine AndQ.mk ?_ ?_)); (all_goals (try ((with_reducible refine kin ?_); intro K1 hK1)))
          refine (g_odd i l (a2 + 1) 1 5 ⟨upd h.H o (some (.cells cs)), T1⟩ hl (by omega) (by omega) (by omega) (by omega)).mono ?_; rintro _ _ ⟨y, a3, hy, ha3, rfl, rfl⟩; refine hK1 _ ?_; clear hK1 K1
          refine ru4SLoop hH ?_; (repeat' (with_reducible refine AndQ.mk ?_ ?_)); (all_goals (try ((with_reducible refine kin ?_); intro K1 hK1)))
          exact ⟨_, T1, a3, ((hO he).kind hy).weaken.up (by omega), hT1, by omega, st_mk3 rfl rfl (st_obj2 hio _ _ _ _ _ _)⟩
        · replace hTq : T1 q = some (.cont 6 css) := hTq
          have hgs := hgs css j hj
          refine ru4SLoop (And.intro hTq (And.intro st_T (And.intro hg hgs))) ?_; (repeat' (with_reducible refine AndQ.mk ?_ ?_)); (all_goals (try ((with_reducible refine kin ?_); intro K1 hK1)))
          refine (g_odd i l (a2 + 1) 1 5 ⟨upd h.H o (some (.cells cs)), T1⟩ hl (by omega) (by omega) (by omega) (by omega)).mono ?_; rintro _ _ ⟨y, a3, hy, ha3, rfl, rfl⟩; refine hK1 _ ?_; clear hK1 K1
          refine ru4SLoop (And.intro hTq (And.intro st_T (And.intro hg hgs))) ?_; (repeat' (with_reducible refine AndQ.mk ?_ ?_)); (all_goals (try ((with_reducible refine kin ?_); intro K1 hK1)))
          have hw : ∀ c', (∀ e, ∀ T' : Nat → Option TO, OLd false T' (fun k => h.T k = none) e [k, it, lo, mn, K, Sh] → OLd false T' (fun k => h.T k = none) e c') → OLd false (upd T1 q (some (.cont 6 (css.set j c')))) (fun k => h.T k = none) (d + 20) cs := fun c' hc => ((hcs.weaken.up (e := d + 20) (by omega)).write hTq (upd_same _ _ _) (fun k _ hk => upd_other _ _ hk) (fun e h' => by rw [hg] at h'; exact hc e _ h'))
          exact ⟨cs, _, a3, hw _ fun e T' h' => h'.kind hy, fun k hk => (upd_other _ _ (fun e => by subst e; exact hk hq)).trans (hT1 k hk), by omega, rfl⟩
      · clear h5
        refine ru4SLoop trivial ?_; (repeat' (with_reducible refine AndQ.mk ?_ ?_)); (all_goals (try ((with_reducible refine kin ?_); intro K1 hK1)))
        refine awp_cond (t := _) rfl (fun h5 => ?_) (fun h5 => ?_)
        ·
          rcases hp with ⟨rfl, he⟩ | ⟨q, css, j, hq, hTq, hj, rfl, hg⟩
          · have hH := hH he
            refine ru4SLoop hH ?_; (repeat' (with_reducible refine AndQ.mk ?_ ?_)); (all_goals (try ((with_reducible refine kin ?_); intro K1 hK1)))
            refine (g_some i l (a2 + 1) [⟨#[]⟩, ⟨#[65]⟩, ⟨#[105, 97]⟩] none ⟨upd h.H o (some (.cells cs)), T1⟩ hl (by omega) (by simp)).mono ?_; rintro _ _ ⟨x1, hx1, rfl, rfl⟩; refine hK1 _ ?_; clear hK1 K1
            refine ru4SLoop hH ?_; (repeat' (with_reducible refine AndQ.mk ?_ ?_)); (all_goals (try ((with_reducible refine kin ?_); intro K1 hK1)))
            refine (g_odd i l (a2 + 1 + 1) 1 3600000 ⟨upd h.H o (some (.cells cs)), T1⟩ hl (by omega) (by omega) (by omega) (by omega)).mono ?_; rintro _ _ ⟨y, a3, hy, ha3, rfl, rfl⟩; refine hK1 _ ?_; clear hK1 K1
            refine ru4SLoop hH ?_; (repeat' (with_reducible refine AndQ.mk ?_ ?_)); (all_goals (try ((with_reducible refine kin ?_); intro K1 hK1)))
            exact ⟨_, T1, a3, ((hO he).il (by simp at hx1; rcases hx1 with rfl | rfl | rfl <;> decide) hy).weaken.up (by omega), hT1, by omega, st_mk3 rfl rfl (st_obj2 hio _ _ _ _ _ _)⟩
          · replace hTq : T1 q = some (.cont 6 css) := hTq
            have hgs := hgs css j hj
            have hw : ∀ c', (∀ e, ∀ T' : Nat → Option TO, OLd false T' (fun k => h.T k = none) e [k, it, lo, mn, K, Sh] → OLd false T' (fun k => h.T k = none) e c') → OLd false (upd T1 q (some (.cont 6 (css.set j c')))) (fun k => h.T k = none) (d + 20) cs := fun c' hc => ((hcs.weaken.up (e := d + 20) (by omega)).write hTq (upd_same _ _ _) (fun k _ hk => upd_other _ _ hk) (fun e h' => by rw [hg] at h'; exact hc e _ h'))
            refine ru4SLoop (And.intro hTq (And.intro st_T (And.intro hg (And.intro hgs @List.set_set.{0})))) ?_; (repeat' (with_reducible refine AndQ.mk ?_ ?_)); (all_goals (try ((with_reducible refine kin ?_); intro K1 hK1)))
            refine (g_some i l (a2 + 1) [⟨#[]⟩, ⟨#[65]⟩, ⟨#[105, 97]⟩] none ⟨upd h.H o (some (.cells cs)), T1⟩ hl (by omega) (by simp)).mono ?_; rintro _ _ ⟨x1, hx1, rfl, rfl⟩; refine hK1 _ ?_; clear hK1 K1
            refine ru4SLoop (And.intro hTq (And.intro st_T (And.intro hg (And.intro hgs @List.set_set.{0})))) ?_; (repeat' (with_reducible refine AndQ.mk ?_ ?_)); (all_goals (try ((with_reducible refine kin ?_); intro K1 hK1)))
            refine (g_odd i l (a2 + 1 + 1) 1 3600000 ⟨upd h.H o (some (.cells cs)), T1⟩ hl (by omega) (by omega) (by omega) (by omega)).mono ?_; rintro _ _ ⟨y, a3, hy, ha3, rfl, rfl⟩; refine hK1 _ ?_; clear hK1 K1
            refine ru4SLoop (And.intro hTq (And.intro st_T (And.intro hg (And.intro hgs @List.set_set.{0})))) ?_; (repeat' (with_reducible refine AndQ.mk ?_ ?_)); (all_goals (try ((with_reducible refine kin ?_); intro K1 hK1)))
            exact ⟨cs, _, a3, hw _ fun e T' h' => h'.il (by simp at hx1; rcases hx1 with rfl | rfl | rfl <;> decide) hy, fun k hk => (upd_other _ _ (fun e => by subst e; exact hk hq)).trans (hT1 k hk), by omega, rfl⟩
        · clear h5
          refine ru4SLoop trivial ?_; (repeat' (with_reducible refine AndQ.mk ?_ ?_)); (all_goals (try ((with_reducible refine kin ?_); intro K1 hK1)))
          refine awp_cond (t := _) rfl (fun h5 => ?_) (fun h5 => ?_)
          ·
            rcases hp with ⟨rfl, he⟩ | ⟨q, css, j, hq, hTq, hj, rfl, hg⟩
            · have hH := hH he
              refine ru4SLoop hH ?_; (repeat' (with_reducible refine AndQ.mk ?_ ?_)); (all_goals (try ((with_reducible refine kin ?_); intro K1 hK1)))
              refine (g_pick i l (a2 + 1) [0, 1, 100, 101] none ⟨upd h.H o (some (.cells cs)), T1⟩ hl (by omega) (by simp)).mono ?_; rintro _ _ ⟨y, hy, rfl, rfl⟩; refine hK1 _ ?_; clear hK1 K1
              refine ru4SLoop hH ?_; (repeat' (with_reducible refine AndQ.mk ?_ ?_)); (all_goals (try ((with_reducible refine kin ?_); intro K1 hK1)))
              exact ⟨_, T1, a2 + 1 + 1, ((hO he).many (by simp at hy; unfold NB; omega)).weaken.up (by omega), hT1, by omega, st_mk3 rfl rfl (st_obj2 hio _ _ _ _ _ _)⟩
            · replace hTq : T1 q = some (.cont 6 css) := hTq
              have hgs := hgs css j hj
              have hw : ∀ c', (∀ e, ∀ T' : Nat → Option TO, OLd false T' (fun k => h.T k = none) e [k, it, lo, mn, K, Sh] → OLd false T' (fun k => h.T k = none) e c') → OLd false (upd T1 q (some (.cont 6 (css.set j c')))) (fun k => h.T k = none) (d + 20) cs := fun c' hc => ((hcs.weaken.up (e := d + 20) (by omega)).write hTq (upd_same _ _ _) (fun k _ hk => upd_other _ _ hk) (fun e h' => by rw [hg] at h'; exact hc e _ h'))
              refine ru4SLoop (And.intro hTq (And.intro st_T (And.intro hg (And.intro hgs @List.set_set.{0})))) ?_; (repeat' (with_reducible refine AndQ.mk ?_ ?_)); (all_goals (try ((with_reducible refine kin ?_); intro K1 hK1)))
              refine (g_pick i l (a2 + 1) [0, 1, 100, 101] none ⟨upd h.H o (some (.cells cs)), T1⟩ hl (by omega) (by simp)).mono ?_; rintro _ _ ⟨y, hy, rfl, rfl⟩; refine hK1 _ ?_; clear hK1 K1
              refine ru4SLoop (And.intro hTq (And.intro st_T (And.intro hg (And.intro hgs @List.set_set.{0})))) ?_; (repeat' (with_reducible refine AndQ.mk ?_ ?_)); (all_goals (try ((with_reducible refine kin ?_); intro K1 hK1)))
              exact ⟨cs, _, a2 + 1 + 1, hw _ fun e T' h' => h'.many (by simp at hy; unfold NB; omega), fun k hk => (upd_other _ _ (fun e => by subst e; exact hk hq)).trans (hT1 k hk), by omega, rfl⟩
          · clear h5
            refine ru4SLoop trivial ?_; (repeat' (with_reducible refine AndQ.mk ?_ ?_)); (all_goals (try ((with_reducible refine kin ?_); intro K1 hK1)))
            refine awp_cond (t := _) rfl (fun h5 => ?_) (fun h5 => ?_)
            ·
              have hSh : Sh = .v (.slice none 0 0) ∨ ∃ (xs : List Int) (q2 : Nat), Sh = .row 1 (xs.map encI) (some q2) ∧ xs.length ≤ 4 ∧ (∀ x ∈ xs, NB x) ∧ T1 q2 = some (.tail xs.length) ∧ h.T q2 = none := by
                cases e with
                | zero => exact hcs2.elim
                | succ e =>
                  obtain ⟨_, _, _, _, _, _, he, _, _, h5⟩ := id hcs2
                  cases he
                  rcases h5 with h5 | ⟨xs, q2, h5, _, h6, h7⟩
                  · exact .inl h5
                  · exact .inr ⟨xs, q2, h5, (h7 rfl).2.2, h6, (h7 rfl).2.1, (h7 rfl).1⟩
              have hny : ∀ y : Int, y ∈ ([1, 0] : List Int) → NB y := fun y hy => by simp at hy; unfold NB; omega
              have hkb : ∀ (q2 n : Nat), (∀ x, T1 q2 ≠ some (.cont 6 x)) → ∀ (d' : Nat) (c' : List AV), OLd true T1 (fun k => h.T k = none) d' c' → OLd false (upd T1 q2 (some (.tail n))) (fun k => h.T k = none) d' c' := fun q2 n hq2 d' c' h' => h'.weaken.keep (fun k _ ⟨x, hx⟩ => upd_other _ _ (fun e => by subst e; exact hq2 x hx)) (fun h => by cases h)
              rcases hp with ⟨rfl, he⟩ | ⟨q, css, j, hq, hTq, hj, rfl, hg⟩
              · have hH := hH he
                have hO := hO he
                rcases hSh with rfl | ⟨xs, q2, rfl, hxl, hxb, hTq2, hSq2⟩
                · refine ru4SLoop (And.intro hH (And.intro st_T @encI.eq_1)) ?_; (repeat' (with_reducible refine AndQ.mk ?_ ?_)); (all_goals (try ((with_reducible refine kin ?_); intro K1 hK1)))
                  refine (g_pick i l (a2 + 1) [1, 0] none ⟨upd h.H o (some (.cells cs)), T1⟩ hl (by omega) (by simp)).mono ?_; rintro _ _ ⟨y, hy, rfl, rfl⟩; refine hK1 _ ?_; clear hK1 K1
                  refine ru4SLoop (And.intro hH (And.intro st_T @encI.eq_1)) ?_; (repeat' (with_reducible refine AndQ.mk ?_ ?_)); (all_goals (try ((with_reducible refine kin ?_); intro K1 hK1)))
                  intro q2 hq2
                  refine hK1 _ ?_; clear hK1 K1
                  refine ru4SLoop (And.intro hH (And.intro st_T @encI.eq_1)) ?_; (repeat' (with_reducible refine AndQ.mk ?_ ?_)); (all_goals (try ((with_reducible refine kin ?_); intro K1 hK1)))
                  have hq2' : h.T q2 = none := Classical.byContradiction fun hn => by have := hT1 q2 hn; rw [show T1 q2 = none from hq2] at this; exact hn this.symm
                  exact ⟨_, upd T1 q2 (some (.tail 1)), a2 + 1 + 1, ((hkb q2 1 (fun x hx => by rw [show T1 q2 = none from hq2] at hx; cases hx) _ _ hO).share (xs := [y]) (q := q2) (by simp) (fun z hz => by simp at hz; subst hz; exact hny _ hy)).up (by omega), fun k hk => (upd_other _ _ (fun e => by subst e; exact hk hq2')).trans (hT1 k hk), by omega, st_mk3 rfl rfl (st_obj2 hio _ _ _ _ _ _)⟩
                · refine ru4SLoop (And.intro hH (And.intro st_T hTq2)) ?_; (repeat' (with_reducible refine AndQ.mk ?_ ?_)); (all_goals (try ((with_reducible refine kin ?_); intro K1 hK1)))
                  refine (g_pick i l (a2 + 1) [1, 0] none ⟨upd h.H o (some (.cells cs)), T1⟩ hl (by omega) (by simp)).mono ?_; rintro _ _ ⟨y, hy, rfl, rfl⟩; refine hK1 _ ?_; clear hK1 K1
                  refine ru4SLoop (And.intro hH (And.intro st_T hTq2)) ?_; (repeat' (with_reducible refine AndQ.mk ?_ ?_)); (all_goals (try ((with_reducible refine kin ?_); intro K1 hK1)))
                  have hme : xs.map encI ++ [[AV.v (.int .i64 y)]] = (xs ++ [y]).map encI := by simp [encI]
                  rw [hme]
                  exact ⟨_, upd T1 q2 (some (.tail (xs.length + 1))), a2 + 1 + 1, ((hkb q2 (xs.length + 1) (fun x hx => by rw [hTq2] at hx; cases hx) _ _ hO).share (xs := xs ++ [y]) (q := q2) (by simp; omega) (fun z hz => by rcases List.mem_append.1 hz with hz | hz; exact hxb z hz; simp at hz; subst hz; exact hny _ hy)).up (by omega), fun k hk => (upd_other _ _ (fun e => by subst e; exact hk hSq2)).trans (hT1 k hk), by omega, st_mk3 rfl rfl (st_obj2 hio _ _ _ _ _ _)⟩
              · replace hTq : T1 q = some (.cont 6 css) := hTq
                have hgs := hgs css j hj
                rcases hSh with rfl | ⟨xs, q2, rfl, hxl, hxb, hTq2, hSq2⟩
                · refine ru4SLoop (And.intro hTq (And.intro st_T (And.intro hg (And.intro hgs @encI.eq_1)))) ?_; (repeat' (with_reducible refine AndQ.mk ?_ ?_)); (all_goals (try ((with_reducible refine kin ?_); intro K1 hK1)))
                  refine (g_pick i l (a2 + 1) [1, 0] none ⟨upd h.H o (some (.cells cs)), T1⟩ hl (by omega) (by simp)).mono ?_; rintro _ _ ⟨y, hy, rfl, rfl⟩; refine hK1 _ ?_; clear hK1 K1
                  refine ru4SLoop (And.intro hTq (And.intro st_T (And.intro hg (And.intro hgs @encI.eq_1)))) ?_; (repeat' (with_reducible refine AndQ.mk ?_ ?_)); (all_goals (try ((with_reducible refine kin ?_); intro K1 hK1)))
                  intro q2 hq2
                  refine hK1 _ ?_; clear hK1 K1
                  replace hq2 : T1 q2 = none := hq2
                  have hqq : q ≠ q2 := fun e => by subst e; rw [hTq] at hq2; cases hq2
                  have hTa : ∀ x, upd T1 q2 x q = some (.cont 6 css) := fun x => (upd_other _ _ hqq).trans hTq
                  refine ru4SLoop (And.intro hTa (And.intro st_T (And.intro hg (And.intro hgs @encI.eq_1)))) ?_; (repeat' (with_reducible refine AndQ.mk ?_ ?_)); (all_goals (try ((with_reducible refine kin ?_); intro K1 hK1)))
                  have hq2' : h.T q2 = none := Classical.byContradiction fun hn => by have := hT1 q2 hn; rw [hq2] at this; exact hn this.symm
                  have hw : ∀ c', (∀ e, ∀ T' : Nat → Option TO, OLd false T' (fun k => h.T k = none) e [k, it, lo, mn, K, AV.v (.slice none 0 0)] → OLd false T' (fun k => h.T k = none) e c') → OLd false (upd (upd T1 q2 (some (.tail 1))) q (some (.cont 6 (css.set j c')))) (fun k => h.T k = none) (d + 20) cs := fun c' hc => (((hkb q2 1 (fun x hx => by rw [hq2] at hx; cases hx) _ _ hcs).up (e := d + 20) (by omega)).write (hTa _) (upd_same _ _ _) (fun k _ hk => upd_other _ _ hk) (fun e h' => by rw [hg] at h'; exact hc e _ h'))
                  exact ⟨cs, _, a2 + 1 + 1, hw _ fun e T' h' => h'.share (xs := [y]) (q := q2) (by simp) (fun z hz => by simp at hz; subst hz; exact hny _ hy), fun k hk => ((upd_other _ _ (fun e => by subst e; exact hk hq)).trans (upd_other _ _ (fun e => by subst e; exact hk hq2'))).trans (hT1 k hk), by omega, rfl⟩
                · have hqq : q ≠ q2 := fun e => by subst e; rw [hTq] at hTq2; cases hTq2
                  have hTa : ∀ x, upd T1 q2 x q = some (.cont 6 css) := fun x => (upd_other _ _ hqq).trans hTq
                  refine ru4SLoop (And.intro hTq (And.intro hTa (And.intro st_T (And.intro hg (And.intro hgs hTq2))))) ?_; (repeat' (with_reducible refine AndQ.mk ?_ ?_)); (all_goals (try ((with_reducible refine kin ?_); intro K1 hK1)))
                  refine (g_pick i l (a2 + 1) [1, 0] none ⟨upd h.H o (some (.cells cs)), T1⟩ hl (by omega) (by simp)).mono ?_; rintro _ _ ⟨y, hy, rfl, rfl⟩; refine hK1 _ ?_; clear hK1 K1
                  refine ru4SLoop (And.intro hTq (And.intro hTa (And.intro st_T (And.intro hg (And.intro hgs hTq2))))) ?_; (repeat' (with_reducible refine AndQ.mk ?_ ?_)); (all_goals (try ((with_reducible refine kin ?_); intro K1 hK1)))
                  have hw : ∀ c', (∀ e, ∀ T' : Nat → Option TO, OLd false T' (fun k => h.T k = none) e [k, it, lo, mn, K, AV.row 1 (xs.map encI) (some q2)] → OLd false T' (fun k => h.T k = none) e c') → OLd false (upd (upd T1 q2 (some (.tail (xs.length + 1)))) q (some (.cont 6 (css.set j c')))) (fun k => h.T k = none) (d + 20) cs := fun c' hc => (((hkb q2 (xs.length + 1) (fun x hx => by rw [hTq2] at hx; cases hx) _ _ hcs).up (e := d + 20) (by omega)).write (hTa _) (upd_same _ _ _) (fun k _ hk => upd_other _ _ hk) (fun e h' => by rw [hg] at h'; exact hc e _ h'))
                  have hme : xs.map encI ++ [[AV.v (.int .i64 y)]] = (xs ++ [y]).map encI := by simp [encI]
                  rw [hme]
                  exact ⟨cs, _, a2 + 1 + 1, hw _ fun e T' h' => h'.share (xs := xs ++ [y]) (q := q2) (by simp; omega) (fun z hz => by rcases List.mem_append.1 hz with hz | hz; exact hxb z hz; simp at hz; subst hz; exact hny _ hy), fun k hk => ((upd_other _ _ (fun e => by subst e; exact hk hq)).trans (upd_other _ _ (fun e => by subst e; exact hk hSq2))).trans (hT1 k hk), by omega, rfl⟩
            · clear h5
              refine ru4SLoop trivial ?_; (repeat' (with_reducible refine AndQ.mk ?_ ?_)); (all_goals (try ((with_reducible refine kin ?_); intro K1 hK1)))
              refine awp_cond (t := _) rfl (fun h5 => ?_) (fun h5 => ?_)
              ·
                rcases hp with ⟨rfl, he⟩ | ⟨q, css, j, hq, hTq, hj, rfl, hg⟩
                · have hH := hH he
                  refine ru4SLoop hH ?_; (repeat' (with_reducible refine AndQ.mk ?_ ?_)); (all_goals (try ((with_reducible refine kin ?_); intro K1 hK1)))
                  exact ⟨_, T1, a2 + 1, ((hO he).nokids).weaken.up (by omega), hT1, by omega, st_mk3 rfl rfl (st_obj2 hio _ _ _ _ _ _)⟩
                · replace hTq : T1 q = some (.cont 6 css) := hTq
                  have hgs := hgs css j hj
                  have hw : ∀ c', (∀ e, ∀ T' : Nat → Option TO, OLd false T' (fun k => h.T k = none) e [k, it, lo, mn, K, Sh] → OLd false T' (fun k => h.T k = none) e c') → OLd false (upd T1 q (some (.cont 6 (css.set j c')))) (fun k => h.T k = none) (d + 20) cs := fun c' hc => ((hcs.weaken.up (e := d + 20) (by omega)).write hTq (upd_same _ _ _) (fun k _ hk => upd_other _ _ hk) (fun e h' => by rw [hg] at h'; exact hc e _ h'))
                  refine ru4SLoop (And.intro hTq (And.intro st_T (And.intro hg (And.intro hgs @List.set_set.{0})))) ?_; (repeat' (with_reducible refine AndQ.mk ?_ ?_)); (all_goals (try ((with_reducible refine kin ?_); intro K1 hK1)))
                  exact ⟨cs, _, a2 + 1, hw _ fun e T' h' => h'.nokids, fun k hk => (upd_other _ _ (fun e => by subst e; exact hk hq)).trans (hT1 k hk), by omega, rfl⟩
              · clear h5
                refine ru4SLoop trivial ?_; (repeat' (with_reducible refine AndQ.mk ?_ ?_)); (all_goals (try ((with_reducible refine kin ?_); intro K1 hK1)))
                refine awp_cond (t := _) rfl (fun h5 => ?_) (fun h5 => ?_)
                ·
                  refine ru4SLoop trivial ?_; (repeat' (with_reducible refine AndQ.mk ?_ ?_)); (all_goals (try ((with_reducible refine kin ?_); intro K1 hK1)))
                  refine awp_loopC (rl false [0, 1, 3, 2, 69, 1, 7]) 1 (fun g s => ∃ (j : Nat) (cs' : List AV), g + j = 12 ∧ OLd false T1 (fun k => h.T k = none) (d + 1 + j) cs' ∧
                    s = ⟨((.ptr i 0) :: (jnk 3 ((.loc 0 0) :: (.ptr o 0) :: (jnk 69 ((.v (.int .i64 j)) :: (jnk 7 [])))))), [[.v (.int .i64 0), .v (.string { data := #[] }), .v (.int .i64 0), .v (.int .i64 0), .v (.slice none 0 0), .v (.slice none 0 0)]], Hp.st ⟨upd h.H o (some (.cells cs')), T1⟩ i l (a2 + 1)⟩) 12 ⟨0, cs, by omega, hcs.weaken, rfl⟩ ?_
                  rintro n _ ⟨j, cs', hnj, hcs', rfl⟩
                  have hH : (Hp.st ⟨upd h.H o (some (.cells cs')), T1⟩ i l (a2 + 1)).H o = some (.cells cs') := by simp only [Hp.st, upd_other _ _ hio, upd_same]
                  have hl6 := hcs'.len
                  have htk6 : List.take 6 cs' = cs' := List.take_of_length_le (Nat.le_of_eq hl6)
                  have hdr6 : List.drop 6 cs' = [] := List.drop_of_length_le (Nat.le_of_eq hl6)
                  refine ru4SLoop (And.intro hH (And.intro hl6 (And.intro htk6 hdr6))) ?_; (repeat' (with_reducible refine AndQ.mk ?_ ?_)); (all_goals (try ((with_reducible refine kin ?_); intro K1 hK1)))
                  refine awp_cond (t := _) rfl (fun h6 => ?_) (fun h6 => ?_)
                  · simp only [decide_eq_true_eq] at h6
                    refine ru4SLoop (And.intro hH (And.intro hl6 (And.intro htk6 hdr6))) ?_; (repeat' (with_reducible refine AndQ.mk ?_ ?_)); (all_goals (try ((with_reducible refine kin ?_); intro K1 hK1)))
                    exact ⟨n - 1, by omega, j + 1, _, by omega, hcs'.wrap (by unfold NB; omega) (by unfold NB; omega), st_mk3 rfl rfl (st_obj2 hio _ _ _ _ _ _)⟩
                  · simp only [decide_eq_false_iff_not] at h6
                    refine ru4SLoop (And.intro hH (And.intro hl6 (And.intro htk6 hdr6))) ?_; (repeat' (with_reducible refine AndQ.mk ?_ ?_)); (all_goals (try ((with_reducible refine kin ?_); intro K1 hK1)))
                    exact ⟨cs', T1, a2 + 1, hcs'.up (by omega), hT1, by omega, rfl⟩
                · clear h5
                  refine ru4SLoop trivial ?_; (repeat' (with_reducible refine AndQ.mk ?_ ?_)); (all_goals (try ((with_reducible refine kin ?_); intro K1 hK1)))
                  refine awp_loopC (rl false [0, 1, 3, 2, 13, 1, 63]) 1 (fun g s => ∃ (j : Nat) (cs' : List AV), g + j = 3 ∧ OLd false T1 (fun k => h.T k = none) (d + 1 + j) cs' ∧
                    s = ⟨((.ptr i 0) :: (jnk 3 ((.loc 0 0) :: (.ptr o 0) :: (jnk 13 ((.v (.int .i64 j)) :: (jnk 63 [])))))), [[.v (.int .i64 0), .v (.string { data := #[] }), .v (.int .i64 0), .v (.int .i64 0), .v (.slice none 0 0), .v (.slice none 0 0)]], Hp.st ⟨upd h.H o (some (.cells cs')), T1⟩ i l (a2 + 1)⟩) 3 ⟨0, cs, by omega, hcs.weaken, rfl⟩ ?_
                  rintro n _ ⟨j, cs', hnj, hcs', rfl⟩
                  have hH : (Hp.st ⟨upd h.H o (some (.cells cs')), T1⟩ i l (a2 + 1)).H o = some (.cells cs') := by simp only [Hp.st, upd_other _ _ hio, upd_same]
                  have hl6 := hcs'.len
                  have htk6 : List.take 6 cs' = cs' := List.take_of_length_le (Nat.le_of_eq hl6)
                  have hdr6 : List.drop 6 cs' = [] := List.drop_of_length_le (Nat.le_of_eq hl6)
                  refine ru4SLoop (And.intro hH (And.intro hl6 (And.intro htk6 hdr6))) ?_; (repeat' (with_reducible refine AndQ.mk ?_ ?_)); (all_goals (try ((with_reducible refine kin ?_); intro K1 hK1)))
                  refine awp_cond (t := _) rfl (fun h6 => ?_) (fun h6 => ?_)
                  · simp only [decide_eq_true_eq] at h6
                    refine ru4SLoop (And.intro hH (And.intro hl6 (And.intro htk6 hdr6))) ?_; (repeat' (with_reducible refine AndQ.mk ?_ ?_)); (all_goals (try ((with_reducible refine kin ?_); intro K1 hK1)))
                    exact ⟨n - 1, by omega, j + 1, _, by omega, hcs'.wrap (by unfold NB; omega) (by unfold NB; omega), st_mk3 rfl rfl (st_obj2 hio _ _ _ _ _ _)⟩
                  · simp only [decide_eq_false_iff_not] at h6
                    refine ru4SLoop (And.intro hH (And.intro hl6 (And.intro htk6 hdr6))) ?_; (repeat' (with_reducible refine AndQ.mk ?_ ?_)); (all_goals (try ((with_reducible refine kin ?_); intro K1 hK1)))
                    exact ⟨cs', T1, a2 + 1, hcs'.up (by omega), hT1, by omega, rfl⟩
theorem g_Loop (d : Nat) (deep : Int) (hd : deep ≤ d ∧ -10 ≤ deep ∧ d ≤ 100) (i : Nat) (l : List Int) (a : Int) (h : Hp) (hl : SOk l) (ha : 0 ≤ a ∧ a + costR d + 2 * d + 40 ≤ 900000000) :
    ACalls Tryd.prog 4 [.ptr i 0, .v (.int .i64 deep)] (h.st i l a) (fun r h' => ∃ t a', LC (d + 20) t ∧ (a ≤ a' ∧ a' ≤ a + costR d + 2 * d + 40) ∧ r = .agg (encL t) ∧ h' = h.st i l a') := by
  refine (g_Loop0 d deep hd i l a h hl ha).gup ?_
  rintro _ _ G w v ⟨cs, T', a', hcs, hT', ha', rfl, rfl⟩ hs hr
  obtain ⟨G', hle, hfr, hs2, hf⟩ := hs.freeze (h2 := h.st i l a') (fun k => h.T k = none) rfl (fun k hk => hk) (fun k hk => (hT' k hk).symm)
  obtain ⟨t, ht, hrep⟩ := OLd.freeze hle hf _ _ hcs
  obtain ⟨vs, rfl, hvs⟩ := RepL.of_agg hr
  exact ⟨_, _, G', ⟨t, a', ht, ha', rfl, rfl⟩, hle, hfr, hs2, (hrep _ hvs).agg⟩
end Go.Proofs.YtoleejecmefogaaDoor
