/- signref1.cutWords in trees. -/
import Derived.Test.YtlaakjlpfgfdkaaGreatDoorM2
import Derived.Lib.AtoiErrMem
namespace Go.Proofs.YtlaakjlpfgfdkaaGreatDoor
open Go
set_option linter.unusedVariables false
set_option linter.unusedSimpArgs false
open Nat renaming reduceAdd → nA, reduceSub → nB, reduceMul → nC, reduceLT → nD, reduceLeDiff → nE, reduceEqDiff → nF, reduceMod → nG, reduceDiv → nH, reducePow → nI
abbrev zM30 : Option Tmp → Nat := mdL []
abbrev zM31 : Option Tmp → Nat := mdL [(16, 1)]
abbrev zM32 : Option Tmp → Nat := mdL [(3, 2)]
abbrev zM33 : Option Tmp → Nat := mdL [(5, 2)]
abbrev zM34 : Option Tmp → Nat := mdL [(4, 1), (5, 1)]
abbrev zM35 : Option Tmp → Nat := mdL [(4, 2)]
abbrev zM36 : Option Tmp → Nat := mdL [(2, 1), (3, 1), (5, 1), (8, 1)]
abbrev zM37 : Option Tmp → Nat := mdL [(2, 1), (3, 1)]
abbrev zM38 : Option Tmp → Nat := mdL [(8, 1), (9, 1), (10, 1)]
abbrev zM39 : Option Tmp → Nat := mdL [(2, 1)]
abbrev zM3A : Option Tmp → Nat := mdL [(4, 1), (12, 2)]
attribute [go_sem] zM30 zM31 zM32 zM33 zM34 zM35 zM36 zM37 zM38 zM39 zM3A
abbrev zP1AE : List Nat := [0, 1, 2, 3, 4, 5, 6, 9]
abbrev zP1AP : List (Nat × List Nat × List Nat) := [(7, [3], []), (8, [], [10, 11])]
attribute [go_sem] zP1AE zP1AP
set_option maxRecDepth 100000
set_option maxHeartbeats 8000000
def cwT (f : Fo) (wide : Int) (l : List Tok) : List (List Tok) := if l = [] then [] else cutT f wide l []
theorem cwT_step {f : Fo} (hf : FoB f) (wide : Int) {l : List Tok} (h : l ≠ []) : cwT f wide l = l.take (longN f wide l l.length) :: cwT f wide (l.drop (longN f wide l l.length)) := by
 have h1 := (longN_ok f wide l l.length (List.length_pos_iff.2 h)).1
 obtain ⟨g, hg⟩ : ∃ g, l.length = g + 1 := ⟨l.length - 1, by have := List.length_pos_iff.2 h; omega⟩
 have e1 := cutR_eq hf wide l.length l (Nat.le_refl _)
 have e2 := cutR_eq hf wide g (l.drop (longN f wide l l.length)) (by rw [List.length_drop]; omega)
 unfold cwT
 rw [← e1, ← e2]
 rw (occs := .pos [1]) [hg]
 rw [cutR, if_neg h]
theorem cwT_len (f : Fo) (wide : Int) (l : List Tok) : (cwT f wide l).length ≤ l.length + 1 := by
 unfold cwT
 split
 ·simp
 ·exact cutT_len f wide l []
theorem join_toks (l : List Tok) : Lib.join ((l.map bsOf).map (·.data.toList)) [] = l.flatten := by
 have : (l.map bsOf).map (·.data.toList) = l := by rw [List.map_map]; exact List.map_id l
 rw [this, join_nil]
theorem a_joinToks (l : List Tok) (kk : Option Nat) (hn : l.length ≤ 10000) (hl : l.flatten.length ≤ 100000) (h : Hp) : ACalls Tryz.prog 34 [.row 1 (l.map fun t => encS (bsOf t)) kk, .v (.string ⟨#[]⟩)] h (fun r h' => r = .v (.string (bsOf l.flatten)) ∧ h' = h) := by
 have hj := g_joinS (l.map bsOf) kk ⟨#[]⟩ h (by rw [List.length_map]; omega) (by show (Lib.join _ []).length ≤ _; rw [join_toks]; omega)
 rw [List.map_map, show (⟨#[]⟩ : ByteArray).data.toList = [] from rfl, join_toks] at hj
 exact hj
theorem cut_bytes (l : List Tok) (m : Nat) : (bsOf l.flatten).extract (bsOf (l.take m).flatten).size (bsOf l.flatten).size = bsOf (l.drop m).flatten := by
 have e : l.flatten = (l.take m).flatten ++ (l.drop m).flatten := by rw [← List.flatten_append, List.take_append_drop]
 rw [size_bs, size_bs, bsOf_drop _ _ _ rfl]
 congr 1
 rw [e, List.drop_left]
theorem gr_upd {a b c : Hp} {q : Nat} (h1 : Gr a ⟨b.H, upd b.T q (a.T q)⟩) (h2 : Gr b c) : Gr a ⟨c.H, upd c.T q (a.T q)⟩ := by
 refine ⟨h2.1.trans h1.1, fun k x e => ?_⟩
 by_cases ek : k = q
 ·rw [ek] at e ⊢; exact (upd_same _ _ _).trans e
 ·exact (upd_other _ _ ek).trans (h2.2 _ _ ((upd_other _ _ ek).symm.trans (h1.2 _ _ e)))
theorem g_cutWords (f : Fo) (kk : Option Nat) (ts : List Tok) (wide : Int) (hts : ∀ t ∈ ts, t ∈ toks) (hn : ts.length ≤ 10000) (hw : 1 ≤ wide ∧ wide ≤ 100000) (hg : Good f) (k0 : Nat) (h : Hp) (hT : h.T k0 = some (.glb tabU)) :
  ACalls Tryz.prog 57 [encFo f kk, .v (.string (bsOf ts.flatten)), .v (.int .i64 wide)] h (fun r h' => r = .row 1 ((wordsT f wide ts).map encLn) none ∧ Gr h h') := by
 have hfl : ∀ x, (encFo f x) = .agg [.v (.string f.key), .v (.int .i64 f.hi), .v (.int .i64 f.ot), .row 3 (f.ws.map encW) x] := fun _ => rfl
 have hf2 := flat_le2 ts hts
 have hsp := g_split ts.flatten 32 (by omega)
 rw [splitB_toks 32 sp_ok ts hts] at hsp
 obtain ⟨P, hP⟩ : ∃ P, P = splitT [32] ts := ⟨_, rfl⟩
 have hwT : wordsT f wide ts = wordsP f wide P := by rw [hP]; rfl
 have hsl : P.length ≤ ts.length + 1 := by rw [hP]; exact splitT_len _ _
 have hPt : ∀ p ∈ P, (∀ t ∈ p, t ∈ toks) ∧ p.length ≤ ts.length := fun p hp => ⟨fun t ht => hts t (splitT_mem (hP ▸ hp) t ht).1, piece_len (hP ▸ hp)⟩
 have hfP : P.flatten.length ≤ ts.length := by rw [hP, splitT_flat]; exact List.length_filter_le _ _
 have hml : ((P.map List.flatten).map encL1).length = P.length := by rw [List.length_map, List.length_map]
 rw [← hP] at hsp
 rw [hwT]
 clear hwT hP
 refine gE Tryz.func57 rfl (by kernel_rfl) 51 rfl fun c => ?_
 (repeat (first | refine gO rfl ?_ | ((first | refine gR ?_ | (with_reducible refine wM ?_ ?_) | ((with_reducible refine xS ?_); refine uD 8 zM30 zP1AE zP1AP 54 rfl (by kernel_rfl) ?_)) <;> ((try with_reducible intro K1 hK1); simp only [go_sem, ↓reduceIte, reduceCtorEq, nA, nB, nC, nD, nE, nF, hfl] <;> and_intros <;> first | (apply hK1; clear hK1 K1) | (intros; first | omega | decide) | skip))))
 refine (hsp h).mono ?_; rintro _ hz ⟨rfl, hh⟩; apply hK1; clear hK1 K1; rw [hh]; clear hh hz
 (repeat (first | refine gO rfl ?_ | ((first | refine gR ?_ | (with_reducible refine wM ?_ ?_) | ((with_reducible refine xS ?_); refine uD 8 zM30 zP1AE zP1AP 54 rfl (by kernel_rfl) ?_)) <;> ((try with_reducible intro K1 hK1); simp only [go_sem, ↓reduceIte, reduceCtorEq, nA, nB, nC, nD, nE, nF, hml] <;> and_intros <;> first | (apply hK1; clear hK1 K1) | (intros; first | omega | decide) | skip))))
 refine awp_own 7 1 rfl ⟨rfl, rfl⟩ (fun q hq => ?_)
 replace hq : h.T q = none := hq
 have hkq : k0 ≠ q := by rintro rfl; rw [hT] at hq; cases hq
 refine awp_loopC (rl false [2, 2, 3, 1, 6, 3, 37]) 0 (fun g s => ∃ (j : Nat) (h1 : Hp), g + j = P.length ∧ Gr h h1 ∧ h1.T q = some (.tail (wordsP f wide (P.take j)).length) ∧
  s = ⟨(AV.junk :: AV.junk :: ((.v (.int .i64 wide)) :: (.ref [.v (.string f.key), .v (.int .i64 f.hi), .v (.int .i64 f.ot), .row 3 (f.ws.map encW) kk] 0) :: (jnk 3 ((.row 1 ((wordsP f wide (P.take j)).map encLn) (some q)) :: (jnk 6 ((.row 1 ((P.map List.flatten).map encL1) none) :: (.v (.int .i64 P.length)) :: (.v (.int .i64 j)) :: (jnk 37 []))))))), [], h1⟩) P.length ⟨0, ⟨h.H, upd h.T q (some (.tail 0))⟩, by omega, Gr.put hq _, upd_same _ _ _, rfl⟩ ?_
 rintro g _ ⟨j, h1, hj, hgr, hq1, rfl⟩
 (repeat (first | refine gO rfl ?_ | ((first | refine gR ?_ | (with_reducible refine wM ?_ ?_) | ((with_reducible refine xS ?_); refine uD 8 zM30 zP1AE zP1AP 54 rfl (by kernel_rfl) ?_)) <;> ((try with_reducible intro K1 hK1); simp only [go_sem, ↓reduceIte, reduceCtorEq, nA, nB, nC, nD, nE, nF] <;> and_intros <;> first | (apply hK1; clear hK1 K1) | (intros; first | omega | decide) | skip))))
 refine awp_cond (t := _) rfl (fun h5 => ?_) (fun h5 => ?_)
 ·simp only [decide_eq_true_eq] at h5
  have hjl : j < P.length := by omega
  have gx := row_piece P j hjl
  have hls : ∀ b, (encL1 b).length = 1 := fun _ => rfl
  have hgs : ∀ b d, (encL1 b).getD 0 d = .v (.string (bsOf b)) := fun _ _ => rfl
  obtain ⟨hx1, hx2⟩ := hPt _ (List.getElem_mem hjl)
  have hap := wordsP_app f wide (P.take j) P[j]
  rw [← List.take_succ_eq_append_getElem hjl] at hap
  change wordsP f wide (P.take (j + 1)) = wordsP f wide (P.take j) ++ cwT f wide P[j] at hap
  have hpl := wordsP_len f wide (P.take j)
  have hft : (P.take j).flatten.length ≤ ts.length := by
   have e : P.flatten = (P.take j).flatten ++ (P.drop j).flatten := by rw [← List.flatten_append, List.take_append_drop]
   have h1 := congrArg List.length e
   rw [List.length_append] at h1
   omega
  have hcl := cwT_len f wide P[j]
  generalize P[j] = x0 at *
  obtain ⟨W0, hW0⟩ : ∃ W0, W0 = wordsP f wide (P.take j) := ⟨_, rfl⟩
  rw [← hW0] at hap hq1 hpl ⊢
  (repeat (first | refine gO rfl ?_ | ((first | refine gR ?_ | (with_reducible refine wM ?_ ?_) | ((with_reducible refine xS ?_); refine uD 8 zM30 zP1AE zP1AP 54 rfl (by kernel_rfl) ?_)) <;> ((try with_reducible intro K1 hK1); simp only [go_sem, ↓reduceIte, reduceCtorEq, nA, nB, nC, nD, nE, nF, hml, Int.toNat_natCast, gx, hls, hgs] <;> and_intros <;> first | (apply hK1; clear hK1 K1) | (intros; first | omega | decide) | skip))))
  refine awp_loopC (rl false [2, 2, 3, 1, 1, 1, 4, 3, 37]) 0 (fun g2 s => ∃ (x : List Tok) (D : List (List Tok)) (h2 : Hp), g2 = x.length ∧ (∀ t ∈ x, t ∈ toks) ∧ x.length ≤ ts.length ∧ D ++ cwT f wide x = cwT f wide x0 ∧ Gr h1 ⟨h2.H, upd h2.T q (h1.T q)⟩ ∧ h2.T q = some (.tail (W0 ++ D).length) ∧
   s = ⟨(AV.junk :: AV.junk :: ((.v (.int .i64 wide)) :: (.ref [.v (.string f.key), .v (.int .i64 f.hi), .v (.int .i64 f.ot), .row 3 (f.ws.map encW) kk] 0) :: (jnk 3 ((.row 1 ((W0 ++ D).map encLn) (some q)) :: AV.junk :: ((.v (.string (bsOf x.flatten))) :: (jnk 4 ((.row 1 ((P.map List.flatten).map encL1) none) :: (.v (.int .i64 P.length)) :: (.v (.int .i64 j)) :: (jnk 37 [])))))))), [], h2⟩) x0.length ⟨x0, [], h1, rfl, hx1, hx2, rfl, ?_, ?_, ?_⟩ ?_
  ·rw [upd_self _ rfl]
   exact Gr.refl _
  ·rw [List.append_nil]; exact hq1
  ·rw [List.append_nil]; rfl
  rintro g2 _ ⟨x, D, h2, rfl, hxt, hxl, hD, hgr2, hq2, rfl⟩
  have hbe := bs_empty hxt
  have hT2 : h2.T k0 = some (.glb tabU) := by
   have h9 := hgr2.2 _ _ (hgr.2 _ _ hT)
   exact (upd_other _ _ hkq).symm.trans h9
  (repeat (first | refine gO rfl ?_ | ((first | refine gR ?_ | (with_reducible refine wM ?_ ?_) | ((with_reducible refine xS ?_); refine uD 8 zM30 zP1AE zP1AP 54 rfl (by kernel_rfl) ?_)) <;> ((try with_reducible intro K1 hK1); simp only [go_sem, ↓reduceIte, reduceCtorEq, nA, nB, nC, nD, nE, nF] <;> and_intros <;> first | (apply hK1; clear hK1 K1) | (intros; first | omega | decide) | skip))))
  by_cases c1 : x = []
  ·have hce : (bsOf x.flatten == (⟨#[]⟩ : ByteArray)) = true := by rw [hbe, c1]; rfl
   refine awp_cond (t := _) rfl (fun h6 => by rw [hce] at h6; cases h6) (fun _ => ?_)
   rw [c1, cwT, if_pos rfl, List.append_nil] at hD
   subst hD
   rw [← hap] at hq2 ⊢
   (repeat (first | refine gO rfl ?_ | ((first | refine gR ?_ | (with_reducible refine wM ?_ ?_) | ((with_reducible refine xS ?_); refine uD 8 zM30 zP1AE zP1AP 54 rfl (by kernel_rfl) ?_)) <;> ((try with_reducible intro K1 hK1); simp only [go_sem, ↓reduceIte, reduceCtorEq, nA, nB, nC, nD, nE, nF] <;> and_intros <;> first | (apply hK1; clear hK1 K1) | (intros; first | omega | decide) | skip))))
   refine ⟨g - 1, by omega, j + 1, h2, by omega, ⟨hgr2.1.trans hgr.1, fun k y e => ?_⟩, hq2, rfl⟩
   have h9 := hgr2.2 _ _ (hgr.2 _ _ e)
   exact (upd_other _ _ (by rintro rfl; rw [hq] at e; cases e)).symm.trans h9
  ·have hce : (bsOf x.flatten == (⟨#[]⟩ : ByteArray)) = false := by rw [hbe]; simp [c1]
   refine awp_cond (t := _) rfl (fun _ => ?_) (fun h6 => by rw [hce] at h6; cases h6)
   have hsg := g_signsR x hxt (by omega) k0 h2 hT2
   (repeat (first | refine gO rfl ?_ | ((first | refine gR ?_ | (with_reducible refine wM ?_ ?_) | ((with_reducible refine xS ?_); refine uD 8 zM30 zP1AE zP1AP 54 rfl (by kernel_rfl) ?_)) <;> ((try with_reducible intro K1 hK1); simp only [go_sem, ↓reduceIte, reduceCtorEq, nA, nB, nC, nD, nE, nF] <;> and_intros <;> first | (apply hK1; clear hK1 K1) | (intros; first | omega | decide) | skip))))
   refine hsg.mono ?_
   rintro _ hz ⟨k, hk, rfl, hh⟩; apply hK1; clear hK1 K1; rw [hh]; clear hh hz
   have hgr3 := Gr.put hk (some (.tail x.length))
   obtain ⟨h3, eh3⟩ : ∃ h3 : Hp, (⟨h2.H, upd h2.T k (some (.tail x.length))⟩ : Hp) = h3 := ⟨_, rfl⟩
   rw [eh3] at hgr3 ⊢
   have hml2 : (x.map fun t => encS (bsOf t)).length = x.length := List.length_map _
   have hx0 := List.length_pos_iff.2 c1
   have hlt1 : ∀ a, List.take 1 [AV.v (.string a)] = [AV.v (.string a)] := fun _ => rfl
   have hlo : (W0 ++ D).length = W0.length + D.length := List.length_append
   (repeat (first | refine gO rfl ?_ | ((first | refine gR ?_ | (with_reducible refine wM ?_ ?_) | ((with_reducible refine xS ?_); refine uD 8 zM30 zP1AE zP1AP 54 rfl (by kernel_rfl) ?_)) <;> ((try with_reducible intro K1 hK1); simp only [go_sem, ↓reduceIte, reduceCtorEq, nA, nB, nC, nD, nE, nF, hml2] <;> and_intros <;> first | (apply hK1; clear hK1 K1) | (intros; first | omega | decide) | skip))))
   refine awp_loopC (rl false [2, 2, 3, 1, 1, 3, 2, 3, 37]) 0 (fun n s => ∃ (h4 : Hp), 1 ≤ n ∧ n ≤ x.length ∧ longN f wide x n = longN f wide x x.length ∧ Gr h3 h4 ∧
    s = ⟨(AV.junk :: AV.junk :: ((.v (.int .i64 wide)) :: (.ref [.v (.string f.key), .v (.int .i64 f.hi), .v (.int .i64 f.ot), .row 3 (f.ws.map encW) kk] 0) :: (jnk 3 ((.row 1 ((W0 ++ D).map encLn) (some q)) :: AV.junk :: ((.v (.string (bsOf x.flatten))) :: (.row 1 (x.map fun t => encS (bsOf t)) (some k)) :: (.v (.int .i64 n)) :: AV.junk :: AV.junk :: ((.row 1 ((P.map List.flatten).map encL1) none) :: (.v (.int .i64 P.length)) :: (.v (.int .i64 j)) :: (jnk 37 []))))))), [], h4⟩) x.length ⟨h3, hx0, Nat.le_refl _, rfl, Gr.refl _, rfl⟩ ?_
   rintro n _ ⟨h4, hn1, hn2, hlg, hgr4, rfl⟩
   have hT4 : h4.T k0 = some (.glb tabU) := hgr4.2 _ _ (hgr3.2 _ _ hT2)
   have hDl : D.length ≤ x0.length + 1 := by
    have e := congrArg List.length hD
    rw [List.length_append] at e
    omega
   have hqk : q ≠ k := by rintro rfl; rw [hk] at hq2; cases hq2
   have hq4 : h4.T q = some (.tail (W0.length + D.length)) := by rw [← hlo]; exact hgr4.2 _ _ (hgr3.2 _ _ hq2)
   have hnn : 1 ≤ (n : Int) ∧ (n : Int) ≤ x.length := by omega
   have htk : (x.map fun t => encS (bsOf t)).take n = (x.take n).map fun t => encS (bsOf t) := List.map_take.symm
   have hxt2 : ∀ t ∈ x.take n, t ∈ toks := fun t ht => hxt t (List.mem_of_mem_take ht)
   have hxl2 : (x.take n).length ≤ 10000 := by rw [List.length_take]; omega
   have hfl2 := flat_le2 _ hxt2
   have hcb := cut_bytes x n
   have hps : (bsOf (x.take n).flatten).size ≤ (bsOf x.flatten).size := by
    have e : x.flatten = (x.take n).flatten ++ (x.drop n).flatten := by rw [← List.flatten_append, List.take_append_drop]
    rw [size_bs, size_bs, e, List.length_append]
    omega
   have hxs : (bsOf x.flatten).size ≤ 100000 := by
    have := flat_le2 _ hxt
    rw [size_bs]; omega
   by_cases c2 : 1 < n
   ·have d1 : decide ((1 : Int) < (n : Int)) = true := decide_eq_true (by omega)
    (repeat (first | refine gO rfl ?_ | ((first | refine gR ?_ | (with_reducible refine wM ?_ ?_) | ((with_reducible refine xS ?_); refine uD 8 zM30 zP1AE zP1AP 54 rfl (by kernel_rfl) ?_)) <;> ((try with_reducible intro K1 hK1); simp only [go_sem, ↓reduceIte, reduceCtorEq, nA, nB, nC, nD, nE, nF, d1, hml2, Int.toNat_natCast, Int.toNat_zero, Nat.sub_zero, List.drop_zero, htk] <;> and_intros <;> first | (apply hK1; clear hK1 K1) | (intros; first | omega | decide) | skip))))
    refine ⟨.row 1 ((x.take n).map fun t => encS (bsOf t)) none, ⟨⟨rfl, trivial⟩, ?_⟩, rfl, ?_⟩
    ·simp only [qE, vEff, sliceE, bndE, go_sem, nA, nB, nC, nD, nE, nF]
     refine ⟨⟨by omega, by omega, by omega⟩, ?_⟩
     rw [show Int.toNat 0 = 0 from rfl, Int.toNat_natCast, Nat.sub_zero, List.drop_zero, htk]
    refine hK1 _ ?_; clear hK1 K1
    have hjo := a_joinToks (x.take n) none hxl2 (by omega)
    have hwo := g_wideOfR f kk (x.take n) hxt2 hxl2 hg k0 h4 hT4
    rw [hfl] at hwo
    (repeat (first | refine gO rfl ?_ | ((first | refine gR ?_ | (with_reducible refine wM ?_ ?_) | ((with_reducible refine xS ?_); refine uD 8 zM30 zP1AE zP1AP 54 rfl (by kernel_rfl) ?_)) <;> ((try with_reducible intro K1 hK1); simp only [go_sem, ↓reduceIte, reduceCtorEq, nA, nB, nC, nD, nE, nF, d1] <;> and_intros <;> first | (apply hK1; clear hK1 K1) | (intros; first | omega | decide) | skip))))
    rotate_left
    ·exact fun h => h.elim
    refine (hjo _).mono ?_
    rintro _ hz ⟨rfl, hh⟩; refine ⟨rfl, hK1 _ ?_⟩; clear hK1 K1; rw [hh]; clear hh hz
    (repeat (first | refine gO rfl ?_ | ((first | refine gR ?_ | (with_reducible refine wM ?_ ?_) | ((with_reducible refine xS ?_); refine uD 8 zM30 zP1AE zP1AP 54 rfl (by kernel_rfl) ?_)) <;> ((try with_reducible intro K1 hK1); simp only [go_sem, ↓reduceIte, reduceCtorEq, nA, nB, nC, nD, nE, nF, d1] <;> and_intros <;> first | (apply hK1; clear hK1 K1) | (intros; first | omega | decide) | skip))))
    ·rfl
    (repeat (first | refine gO rfl ?_ | ((first | refine gR ?_ | (with_reducible refine wM ?_ ?_) | ((with_reducible refine xS ?_); refine uD 8 zM30 zP1AE zP1AP 54 rfl (by kernel_rfl) ?_)) <;> ((try with_reducible intro K1 hK1); simp only [go_sem, ↓reduceIte, reduceCtorEq, nA, nB, nC, nD, nE, nF, d1] <;> and_intros <;> first | (apply hK1; clear hK1 K1) | (intros; first | omega | decide) | skip))))
    ·rfl
    (repeat (first | refine gO rfl ?_ | ((first | refine gR ?_ | (with_reducible refine wM ?_ ?_) | ((with_reducible refine xS ?_); refine uD 8 zM30 zP1AE zP1AP 54 rfl (by kernel_rfl) ?_)) <;> ((try with_reducible intro K1 hK1); simp only [go_sem, ↓reduceIte, reduceCtorEq, nA, nB, nC, nD, nE, nF, d1] <;> and_intros <;> first | (apply hK1; clear hK1 K1) | (intros; first | omega | decide) | skip))))
    rotate_left
    ·exact fun h => h.elim
    refine hwo.mono ?_
    rintro _ h5 ⟨rfl, hgr5⟩; refine ⟨rfl, ?_⟩; apply hK1; clear hK1 K1
    (repeat (first | refine gO rfl ?_ | ((first | refine gR ?_ | (with_reducible refine wM ?_ ?_) | ((with_reducible refine xS ?_); refine uD 8 zM30 zP1AE zP1AP 54 rfl (by kernel_rfl) ?_)) <;> ((try with_reducible intro K1 hK1); simp only [go_sem, ↓reduceIte, reduceCtorEq, nA, nB, nC, nD, nE, nF, d1] <;> and_intros <;> first | (apply hK1; clear hK1 K1) | (intros; first | omega | decide) | skip))))
    refine awp_cond (t := _) rfl (fun h6 => ?_) (fun h6 => ?_)
    ·simp only [decide_eq_true_eq] at h6
     (repeat (first | refine gO rfl ?_ | ((first | refine gR ?_ | (with_reducible refine wM ?_ ?_) | ((with_reducible refine xS ?_); refine uD 8 zM30 zP1AE zP1AP 54 rfl (by kernel_rfl) ?_)) <;> ((try with_reducible intro K1 hK1); simp only [go_sem, ↓reduceIte, reduceCtorEq, nA, nB, nC, nD, nE, nF] <;> and_intros <;> first | (apply hK1; clear hK1 K1) | (intros; first | omega | decide) | skip))))
     refine ⟨n - 1, by omega, h5, by omega, by omega, ?_, hgr4.trans hgr5, ?_⟩
     ·rw [← hlg]
      obtain ⟨m, rfl⟩ : ∃ m, n = m + 1 := ⟨n - 1, by omega⟩
      rw [Nat.add_sub_cancel, longN, if_pos ⟨c2, h6⟩]
     ·rw [show (((n - 1 : Nat) : Int)) = (n : Int) - 1 from by omega]; rfl
    ·simp only [decide_eq_false_iff_not] at h6
     have hln : longN f wide x x.length = n := by
      rw [← hlg]
      obtain ⟨m, rfl⟩ : ∃ m, n = m + 1 := ⟨n - 1, by omega⟩
      rw [longN, if_neg (fun e => h6 e.2)]
     have hjo := a_joinToks (x.take n) none hxl2 (by omega) h5
     have hq5 := hgr5.2 _ _ hq4
     (repeat (first | refine gO rfl ?_ | ((first | refine gR ?_ | (with_reducible refine wM ?_ ?_) | ((with_reducible refine xS ?_); refine uD 8 zM30 zP1AE zP1AP 54 rfl (by kernel_rfl) ?_)) <;> ((try with_reducible intro K1 hK1); simp only [go_sem, ↓reduceIte, reduceCtorEq, nA, nB, nC, nD, nE, nF, hml2, Int.toNat_natCast, Int.toNat_zero, Nat.sub_zero, List.drop_zero, htk, Option.toList_none, Option.toList_some, List.append_eq, List.nil_append, List.cons_append, uside] <;> and_intros <;> first | (apply hK1; clear hK1 K1) | (intros; first | omega | decide) | skip))))
     refine hjo.mono ?_
     rintro _ hz ⟨rfl, hh⟩; apply hK1; clear hK1 K1; rw [hh]; clear hh hz
     (repeat (first | refine gO rfl ?_ | ((first | refine gR ?_ | (with_reducible refine wM ?_ ?_) | ((with_reducible refine xS ?_); refine uD 8 zM30 zP1AE zP1AP 54 rfl (by kernel_rfl) ?_)) <;> ((try with_reducible intro K1 hK1); simp only [go_sem, ↓reduceIte, reduceCtorEq, nA, nB, nC, nD, nE, nF, hlt1, hlo, List.length_cons, List.length_nil, upd_same, upd_upd, List.length_map, Int.toNat_natCast, hcb, Option.toList_none, Option.toList_some, List.append_eq, List.nil_append, List.cons_append, uside] <;> and_intros <;> first | (apply hK1; clear hK1 K1) | (intros; first | omega | decide) | skip))))
     refine ⟨(x.drop n).length, by rw [List.length_drop]; omega, x.drop n, D ++ [x.take n], ⟨h5.H, upd h5.T q (some (.tail (W0.length + D.length + (0 + 1))))⟩, rfl, fun t ht => hxt t (List.mem_of_mem_drop ht), by rw [List.length_drop]; omega, ?_, ?_, ?_, ?_⟩
     ·rw [List.append_assoc, ← hD, cwT_step hg.fob wide c1, hln]; rfl
     ·have h9 := gr_upd (gr_upd hgr2 hgr3) (hgr4.trans hgr5)
      rw [upd_upd]; exact h9
     ·show upd _ q _ q = _
      rw [upd_same, ← List.append_assoc, List.length_append, hlo]; rfl
     ·rw [← List.append_assoc, List.map_append (l₁ := W0 ++ D)]; rfl
   ·have d1 : decide ((1 : Int) < (n : Int)) = false := decide_eq_false (by omega)
    have hln : longN f wide x x.length = n := by
     rw [← hlg, show n = 1 from by omega, longN, if_neg (fun e => by omega)]
    have hjo := a_joinToks (x.take n) none hxl2 (by omega) h4
    (repeat (first | refine gO rfl ?_ | ((first | refine gR ?_ | (with_reducible refine wM ?_ ?_) | ((with_reducible refine xS ?_); refine uD 8 zM30 zP1AE zP1AP 54 rfl (by kernel_rfl) ?_)) <;> ((try with_reducible intro K1 hK1); simp only [go_sem, ↓reduceIte, reduceCtorEq, nA, nB, nC, nD, nE, nF, d1] <;> and_intros <;> first | (apply hK1; clear hK1 K1) | (intros; first | omega | decide) | skip))))
    refine ⟨.v (.bool false), rfl, hK1 _ ?_⟩; clear hK1 K1
    (repeat (first | refine gO rfl ?_ | ((first | refine gR ?_ | (with_reducible refine wM ?_ ?_) | ((with_reducible refine xS ?_); refine uD 8 zM30 zP1AE zP1AP 54 rfl (by kernel_rfl) ?_)) <;> ((try with_reducible intro K1 hK1); simp only [go_sem, ↓reduceIte, reduceCtorEq, nA, nB, nC, nD, nE, nF, d1] <;> and_intros <;> first | (apply hK1; clear hK1 K1) | (intros; first | omega | decide) | skip))))
    ·rfl
    (repeat (first | refine gO rfl ?_ | ((first | refine gR ?_ | (with_reducible refine wM ?_ ?_) | ((with_reducible refine xS ?_); refine uD 8 zM30 zP1AE zP1AP 54 rfl (by kernel_rfl) ?_)) <;> ((try with_reducible intro K1 hK1); simp only [go_sem, ↓reduceIte, reduceCtorEq, nA, nB, nC, nD, nE, nF, d1] <;> and_intros <;> first | (apply hK1; clear hK1 K1) | (intros; first | omega | decide) | skip))))
    ·rfl
    (repeat (first | refine gO rfl ?_ | ((first | refine gR ?_ | (with_reducible refine wM ?_ ?_) | ((with_reducible refine xS ?_); refine uD 8 zM30 zP1AE zP1AP 54 rfl (by kernel_rfl) ?_)) <;> ((try with_reducible intro K1 hK1); simp only [go_sem, ↓reduceIte, reduceCtorEq, nA, nB, nC, nD, nE, nF, d1] <;> and_intros <;> first | (apply hK1; clear hK1 K1) | (intros; first | omega | decide) | skip))))
    refine ⟨.v (.bool false), rfl, hK1 _ ?_⟩; clear hK1 K1
    (repeat (first | refine gO rfl ?_ | ((first | refine gR ?_ | (with_reducible refine wM ?_ ?_) | ((with_reducible refine xS ?_); refine uD 8 zM30 zP1AE zP1AP 54 rfl (by kernel_rfl) ?_)) <;> ((try with_reducible intro K1 hK1); simp only [go_sem, ↓reduceIte, reduceCtorEq, nA, nB, nC, nD, nE, nF, d1] <;> and_intros <;> first | (apply hK1; clear hK1 K1) | (intros; first | omega | decide) | skip))))
    refine awp_cond (t := _) rfl (fun h6 => by cases h6) (fun _ => ?_)
    (repeat (first | refine gO rfl ?_ | ((first | refine gR ?_ | (with_reducible refine wM ?_ ?_) | ((with_reducible refine xS ?_); refine uD 8 zM30 zP1AE zP1AP 54 rfl (by kernel_rfl) ?_)) <;> ((try with_reducible intro K1 hK1); simp only [go_sem, ↓reduceIte, reduceCtorEq, nA, nB, nC, nD, nE, nF, hml2, Int.toNat_natCast, Int.toNat_zero, Nat.sub_zero, List.drop_zero, htk, Option.toList_none, Option.toList_some, List.append_eq, List.nil_append, List.cons_append, uside] <;> and_intros <;> first | (apply hK1; clear hK1 K1) | (intros; first | omega | decide) | skip))))
    refine hjo.mono ?_
    rintro _ hz ⟨rfl, hh⟩; apply hK1; clear hK1 K1; rw [hh]; clear hh hz
    (repeat (first | refine gO rfl ?_ | ((first | refine gR ?_ | (with_reducible refine wM ?_ ?_) | ((with_reducible refine xS ?_); refine uD 8 zM30 zP1AE zP1AP 54 rfl (by kernel_rfl) ?_)) <;> ((try with_reducible intro K1 hK1); simp only [go_sem, ↓reduceIte, reduceCtorEq, nA, nB, nC, nD, nE, nF, hlt1, hlo, List.length_cons, List.length_nil, upd_same, upd_upd, List.length_map, Int.toNat_natCast, hcb, Option.toList_none, Option.toList_some, List.append_eq, List.nil_append, List.cons_append, uside] <;> and_intros <;> first | (apply hK1; clear hK1 K1) | (intros; first | omega | decide) | skip))))
    refine ⟨(x.drop n).length, by rw [List.length_drop]; omega, x.drop n, D ++ [x.take n], ⟨h4.H, upd h4.T q (some (.tail (W0.length + D.length + (0 + 1))))⟩, rfl, fun t ht => hxt t (List.mem_of_mem_drop ht), by rw [List.length_drop]; omega, ?_, ?_, ?_, ?_⟩
    ·rw [List.append_assoc, ← hD, cwT_step hg.fob wide c1, hln]; rfl
    ·have h9 := gr_upd (gr_upd hgr2 hgr3) hgr4
     rw [upd_upd]; exact h9
    ·show upd _ q _ q = _
     rw [upd_same, ← List.append_assoc, List.length_append, hlo]; rfl
    ·rw [← List.append_assoc, List.map_append (l₁ := W0 ++ D)]; rfl
 ·simp only [decide_eq_false_iff_not] at h5
  have hjl : j = P.length := by omega
  subst hjl
  rw [List.take_length]
  (repeat (first | refine gO rfl ?_ | ((first | refine gR ?_ | (with_reducible refine wM ?_ ?_) | ((with_reducible refine xS ?_); refine uD 8 zM30 zP1AE zP1AP 54 rfl (by kernel_rfl) ?_)) <;> ((try with_reducible intro K1 hK1); simp only [go_sem, ↓reduceIte, reduceCtorEq, nA, nB, nC, nD, nE, nF] <;> and_intros <;> first | (apply hK1; clear hK1 K1) | (intros; first | omega | decide) | skip))))
  simp only [Tryz.results57, go_sem, ↓reduceIte, reduceCtorEq, nA, nB, nC, nD, nE, nF]
  exact ⟨_, _, Weak.row _ _ _, Hp.le.refl _, rfl, hgr⟩
abbrev zP1BE : List Nat := [0, 1, 2, 3, 4, 5, 6, 7, 8, 9, 10, 11, 12, 13, 14, 15, 16]
abbrev zP1BP : List (Nat × List Nat × List Nat) := [(18, [], [])]
abbrev zP1CE : List Nat := [0, 1, 2, 3, 4]
abbrev zP1CP : List (Nat × List Nat × List Nat) := [(5, [1], [6, 7]), (8, [], [])]
abbrev zP1DE : List Nat := [0, 1, 2, 3, 4, 5, 6, 7, 8, 9, 10, 11, 12, 13, 14, 15, 16, 17, 18, 19, 20, 21, 22, 23, 24, 25, 26, 27]
abbrev zP1DP : List (Nat × List Nat × List Nat) := []
attribute [go_sem] zP1BE zP1BP zP1CE zP1CP zP1DE zP1DP
set_option maxHeartbeats 16000000
theorem innerR_step (blank wide : Int) (l : List Int) (k : Nat) (w : Int) (hk : l[k]? = some w) (n : Int) (c : Nat) (cur : Way) : innerR blank wide (l.drop k) (waysT blank wide (l.drop (k + 1))) n c cur =
  if 0 < c ∧ wide < n + (blank + w) then cur
  else innerR blank wide (l.drop (k + 1)) (waysT blank wide (l.drop (k + 1 + 1))) (n + (blank + w)) (c + 1) (if wayLe (wayN blank wide l k (n + (blank + w)) c) cur = true then wayN blank wide l k (n + (blank + w)) c else cur) := by
 obtain ⟨hkl, rfl⟩ := List.getElem?_eq_some_iff.1 hk
 have hX : ∀ n', wayX wide (wayAt blank wide l (k + 1)) (l.drop (k + 1)) n' c = wayN blank wide l k n' c := fun n' => by
  unfold wayX wayN
  by_cases e : k + 1 < l.length
  ·rw [if_pos e, if_neg (by simp; omega)]
  ·rw [if_neg e, if_pos (by simp; omega)]
 obtain ⟨tl, ht⟩ := ways_cons blank wide (l.drop (k + 1))
 have ht2 : innerR blank wide (l.drop (k + 1)) tl = innerR blank wide (l.drop (k + 1)) (waysT blank wide (l.drop (k + 1 + 1))) := by
  by_cases e : k + 1 < l.length
  ·rw [List.drop_eq_getElem_cons e, waysT] at ht
   rw [(List.cons.inj ht).2]
  ·rw [List.drop_eq_nil_of_le (by omega)]
   funext a b c
   cases tl <;> rfl
 rw [ht, List.drop_eq_getElem_cons hkl, innerR, ht2]
 show (if _ then _ else innerR _ _ _ _ _ _ (if wayLe (wayX wide (wayAt blank wide l (k + 1)) _ _ c) cur = true then wayX wide (wayAt blank wide l (k + 1)) _ _ c else cur)) = _
 rw [hX]
theorem innerR_end (blank wide : Int) (l : List Int) (k : Nat) (hk : l.length ≤ k) (ys : List Way) (n : Int) (c : Nat) (cur : Way) : innerR blank wide (l.drop k) ys n c cur = cur := by
 rw [List.drop_eq_nil_of_le hk]; cases ys <;> rfl
theorem innerR_start (blank wide : Int) (l : List Int) (i : Nat) (hi : i < l.length) : innerR blank wide (l.drop i) (waysT blank wide (l.drop (i + 1))) (-blank) 0 (((l.length : Nat) : Int) + 1, 0, 0) = wayAt blank wide l i := by
 have h := inner_start blank wide l[i] (l.drop (i + 1)) l.length (by rw [List.length_drop]; omega)
 rw [← List.drop_eq_getElem_cons hi] at h
 exact h
theorem rowY_fin (blank wide : Int) (L : List Int) (i : Nat) (hi : i < L.length) : rowY blank wide L i (wayAt blank wide L i) = (List.replicate i (0, 0, 0) ++ waysT blank wide (L.drop i)).map encY := by
 rw [← rowY_end blank wide L i hi]
 unfold wayAt
 rw [ways_at _ _ _ _ hi]; rfl
theorem lineW_succ (blank : Int) (l : List Int) (i c : Nat) (w : Int) (h : l[i + c]? = some w) : lineW blank ((l.drop i).take (c + 1)) = lineW blank ((l.drop i).take c) + (blank + w) := by
 obtain ⟨hl, rfl⟩ := List.getElem?_eq_some_iff.1 h
 rw [List.take_succ_eq_append_getElem (by rw [List.length_drop]; omega), List.getElem_drop]
 simp [lineW]; omega
theorem gr_set {a b : Hp} {q : Nat} (h : Gr a b) (hq : a.T q = none) (x : Option TO) : Gr a ⟨b.H, upd b.T q x⟩ :=
 ⟨h.1, fun k y e => (upd_other _ _ (by rintro rfl; rw [hq] at e; cases e)).trans (h.2 _ _ e)⟩
theorem a_joinBl (V : List (List Tok)) (kk : Option Nat) (hts : ∀ w ∈ V, ∀ t ∈ w, t ∈ toks) (hn : V.length ≤ 10000) (hl : V.flatten.length ≤ 100000) (h : Hp) : ACalls Tryz.prog 34 [.row 1 (V.map encLn) kk, .v (.string ⟨#[32]⟩)] h (fun r h' => r = .v (.string (bsOf (joinT V).flatten)) ∧ h' = h) := by
 have hjn := g_joinS (V.map fun w => bsOf w.flatten) kk ⟨#[32]⟩
 have hm1 : (V.map fun w => bsOf w.flatten).map (·.data.toList) = V.map List.flatten := by rw [List.map_map]; rfl
 have hm2 : (V.map fun w => bsOf w.flatten).map encS = V.map encLn := by rw [List.map_map]; rfl
 have hz := join_len hts
 rw [hm1, hm2, List.length_map, show (⟨#[32]⟩ : ByteArray).data.toList = [32] from rfl, joinT_lib] at hjn
 rw [joinT_lib] at hz
 exact hjn h (by omega) (by omega)
theorem joinT_toks {V : List (List Tok)} (hts : ∀ w ∈ V, ∀ t ∈ w, t ∈ toks) : ∀ t ∈ joinT V, t ∈ toks := fun t ht => by
 rcases mem_joinT ht with rfl | ⟨w, hw, h⟩
 ·decide
 ·exact hts w hw t h
theorem g_linesOfR (f : Fo) (kk : Option Nat) (ts : List Tok) (wide : Int) (hts : ∀ t ∈ ts, t ∈ toks) (hn : ts.length ≤ 2000) (hw : 1 ≤ wide ∧ wide ≤ 100000) (hg : Good f) (k0 : Nat) (h : Hp) (hT : h.T k0 = some (.glb tabU)) :
  ACalls Tryz.prog 19 [encFo f kk, .v (.string (bsOf ts.flatten)), .v (.int .i64 wide)] h (fun r h' => r = .tup [.row 1 ((linesT f wide ts).map encLn) none, .v (.bool true)] ∧ Gr h h') := by
 have hfl : ∀ x, (encFo f x) = .agg [.v (.string f.key), .v (.int .i64 f.hi), .v (.int .i64 f.ot), .row 3 (f.ws.map encW) x] := fun _ => rfl
 have hf2 := flat_le2 ts hts
 have hsp := g_split ts.flatten 10 (by omega)
 rw [splitB_toks 10 lf_ok ts hts] at hsp
 obtain ⟨P, hP⟩ : ∃ P, P = splitT [10] ts := ⟨_, rfl⟩
 have hml : ((P.map List.flatten).map encL1).length = P.length := by rw [List.length_map, List.length_map]
 have hsl : P.length ≤ ts.length + 1 := by rw [hP]; exact splitT_len _ _
 have hPt : ∀ p ∈ P, (∀ t ∈ p, t ∈ toks) ∧ p.length ≤ ts.length := fun p hp => ⟨fun t ht => hts t (splitT_mem (hP ▸ hp) t ht).1, piece_len (hP ▸ hp)⟩
 have hlT : linesT f wide ts = P.flatMap fun p => paragraphT f (widS f blT) wide (wordsT f wide p) := by rw [hP]; rfl
 have hbl := hg.fob.widS blT
 rw [← hP] at hsp
 rw [hlT]
 clear hlT hP
 refine gE Tryz.func19 rfl (by kernel_rfl) 167 rfl fun c => ?_
 (repeat (first | refine gO rfl ?_ | ((first | refine gM zM31 ?_ | (with_reducible refine wM ?_ ?_) | ((with_reducible refine xS ?_); refine uF 20 zM31 17 zP1BE zP1BP 170 rfl (by kernel_rfl) ?_) | ((with_reducible refine xR ?_); refine uE 22 zM31 zP1CE zP1CP 170 rfl (by kernel_rfl) ?_) | ((with_reducible refine xS ?_); refine uD 23 zM31 zP1DE zP1DP 170 rfl (by kernel_rfl) ?_)) <;> ((try with_reducible intro K1 hK1); simp only [go_sem, ↓reduceIte, reduceCtorEq, nA, nB, nC, nD, nE, nF, hfl] <;> and_intros <;> first | (apply hK1; clear hK1 K1) | (intros; first | omega | decide) | skip))))
 refine (hsp h).mono ?_; rintro _ hz ⟨rfl, hh⟩; apply hK1; clear hK1 K1; rw [hh]; clear hh hz
 (repeat (first | refine gO rfl ?_ | ((first | refine gM zM31 ?_ | (with_reducible refine wM ?_ ?_) | ((with_reducible refine xS ?_); refine uF 20 zM31 17 zP1BE zP1BP 170 rfl (by kernel_rfl) ?_) | ((with_reducible refine xR ?_); refine uE 22 zM31 zP1CE zP1CP 170 rfl (by kernel_rfl) ?_) | ((with_reducible refine xS ?_); refine uD 23 zM31 zP1DE zP1DP 170 rfl (by kernel_rfl) ?_)) <;> ((try with_reducible intro K1 hK1); simp only [go_sem, ↓reduceIte, reduceCtorEq, nA, nB, nC, nD, nE, nF, hml] <;> and_intros <;> first | (apply hK1; clear hK1 K1) | (intros; first | omega | decide) | skip))))
 refine awp_own 8 1 rfl ⟨rfl, rfl⟩ (fun q hq => ?_)
 replace hq : h.T q = none := hq
 refine awp_loopC (rl false [2, 2, 4, 1, 10, 3, 148]) 0 (fun g s => ∃ (j : Nat) (h1 : Hp), g + j = P.length ∧ Gr h h1 ∧ h1.T q = some (.tail ((P.take j).flatMap fun p => paragraphT f (widS f blT) wide (wordsT f wide p)).length) ∧
  s = ⟨(AV.junk :: AV.junk :: ((.v (.int .i64 wide)) :: (.ref [.v (.string f.key), .v (.int .i64 f.hi), .v (.int .i64 f.ot), .row 3 (f.ws.map encW) kk] 0) :: (jnk 4 ((.row 1 (((P.take j).flatMap fun p => paragraphT f (widS f blT) wide (wordsT f wide p)).map encLn) (some q)) :: (jnk 10 ((.row 1 ((P.map List.flatten).map encL1) none) :: (.v (.int .i64 P.length)) :: (.v (.int .i64 j)) :: (jnk 148 []))))))), [], h1⟩) P.length ⟨0, ⟨h.H, upd h.T q (some (.tail 0))⟩, by omega, Gr.put hq _, upd_same _ _ _, rfl⟩ ?_
 rintro g _ ⟨j, h1, hj, hgr, hq1, rfl⟩
 (repeat (first | refine gO rfl ?_ | ((first | refine gM zM31 ?_ | (with_reducible refine wM ?_ ?_) | ((with_reducible refine xS ?_); refine uF 20 zM31 17 zP1BE zP1BP 170 rfl (by kernel_rfl) ?_) | ((with_reducible refine xR ?_); refine uE 22 zM31 zP1CE zP1CP 170 rfl (by kernel_rfl) ?_) | ((with_reducible refine xS ?_); refine uD 23 zM31 zP1DE zP1DP 170 rfl (by kernel_rfl) ?_)) <;> ((try with_reducible intro K1 hK1); simp only [go_sem, ↓reduceIte, reduceCtorEq, nA, nB, nC, nD, nE, nF] <;> and_intros <;> first | (apply hK1; clear hK1 K1) | (intros; first | omega | decide) | skip))))
 refine awp_cond (t := _) rfl (fun h5 => ?_) (fun h5 => ?_)
 ·simp only [decide_eq_true_eq] at h5
  have hjl : j < P.length := by omega
  have gx := row_piece P j hjl
  have hls : ∀ b, (encL1 b).length = 1 := fun _ => rfl
  have hgs : ∀ b d, (encL1 b).getD 0 d = .v (.string (bsOf b)) := fun _ _ => rfl
  obtain ⟨hp1, hp2⟩ := hPt _ (List.getElem_mem hjl)
  have hcw := g_cutWords f kk P[j] wide hp1 (by omega) hw hg k0 h1 (hgr.2 _ _ hT)
  rw [hfl] at hcw
  have hfm := flatMap_len (fun p => paragraphT f (widS f blT) wide (wordsT f wide p)) 2001 (P.take j) (fun p hp => by
   have h1 := paragraph_len f (widS f blT) wide (wordsT f wide p)
   have h2 := wordsT_len f wide p
   have h3 := (hPt p (List.mem_of_mem_take hp)).2
   omega)
  rw [List.length_take] at hfm
  have htk : ((P.take (j + 1)).flatMap fun p => paragraphT f (widS f blT) wide (wordsT f wide p)) = ((P.take j).flatMap fun p => paragraphT f (widS f blT) wide (wordsT f wide p)) ++ paragraphT f (widS f blT) wide (wordsT f wide P[j]) := by
   rw [List.take_succ_eq_append_getElem hjl, List.flatMap_append]; simp
  have hwn := wordsT_len f wide P[j]
  have hwt : ∀ w ∈ wordsT f wide P[j], ∀ t ∈ w, t ∈ toks := fun w hw' t ht => hp1 t (wordsT_mem hw' t ht).1
  have hwf := words_flat f wide P[j]
  have hjs : ∀ V : List (List Tok), V ≠ [] → sumW f (joinT V) = lineW (widS f blT) (V.map (sumW f)) := joinT_sum f
  have hM : ∀ w ∈ (wordsT f wide P[j]).map (sumW f), 0 ≤ w ∧ w ≤ 10000000 := fun w hw' => by
   obtain ⟨x, hx, rfl⟩ := List.mem_map.1 hw'
   have h1 := hg.fob.sum x
   have h2 := words_one hx
   omega
  generalize widS f blT = blank at *
  generalize ((P.take j).flatMap fun p => paragraphT f blank wide (wordsT f wide p)) = D at *
  generalize wordsT f wide P[j] = ws at *
  have hDl : (D.map encLn).length = D.length := List.length_map _
  have hwl : (ws.map encLn).length = ws.length := List.length_map _
  (repeat (first | refine gO rfl ?_ | ((first | refine gM zM31 ?_ | (with_reducible refine wM ?_ ?_) | ((with_reducible refine xS ?_); refine uF 20 zM31 17 zP1BE zP1BP 170 rfl (by kernel_rfl) ?_) | ((with_reducible refine xR ?_); refine uE 22 zM31 zP1CE zP1CP 170 rfl (by kernel_rfl) ?_) | ((with_reducible refine xS ?_); refine uD 23 zM31 zP1DE zP1DP 170 rfl (by kernel_rfl) ?_)) <;> ((try with_reducible intro K1 hK1); simp only [go_sem, ↓reduceIte, reduceCtorEq, nA, nB, nC, nD, nE, nF, hml, Int.toNat_natCast, gx, hls, hgs] <;> and_intros <;> first | (apply hK1; clear hK1 K1) | (intros; first | omega | decide) | skip))))
  refine hcw.mono ?_
  rintro _ h2 ⟨rfl, hgr2⟩; apply hK1; clear hK1 K1
  have hq2 := hgr2.2 _ _ hq1
  (repeat (first | refine gO rfl ?_ | ((first | refine gM zM31 ?_ | (with_reducible refine wM ?_ ?_) | ((with_reducible refine xS ?_); refine uF 20 zM31 17 zP1BE zP1BP 170 rfl (by kernel_rfl) ?_) | ((with_reducible refine xR ?_); refine uE 22 zM31 zP1CE zP1CP 170 rfl (by kernel_rfl) ?_) | ((with_reducible refine xS ?_); refine uD 23 zM31 zP1DE zP1DP 170 rfl (by kernel_rfl) ?_)) <;> ((try with_reducible intro K1 hK1); simp only [go_sem, ↓reduceIte, reduceCtorEq, nA, nB, nC, nD, nE, nF, hwl] <;> and_intros <;> first | (apply hK1; clear hK1 K1) | (intros; first | omega | decide) | skip))))
  refine awp_cond (t := _) rfl (fun h6 => ?_) (fun _ => ?_)
  ·exact absurd h6 (by simp; omega)
  (repeat (first | refine gO rfl ?_ | ((first | refine gM zM31 ?_ | (with_reducible refine wM ?_ ?_) | ((with_reducible refine xS ?_); refine uF 20 zM31 17 zP1BE zP1BP 170 rfl (by kernel_rfl) ?_) | ((with_reducible refine xR ?_); refine uE 22 zM31 zP1CE zP1CP 170 rfl (by kernel_rfl) ?_) | ((with_reducible refine xS ?_); refine uD 23 zM31 zP1DE zP1DP 170 rfl (by kernel_rfl) ?_)) <;> ((try with_reducible intro K1 hK1); simp only [go_sem, ↓reduceIte, reduceCtorEq, nA, nB, nC, nD, nE, nF, hwl] <;> and_intros <;> first | (apply hK1; clear hK1 K1) | (intros; first | omega | decide) | skip))))
  refine awp_cond (t := _) rfl (fun h6 => ?_) (fun h6 => ?_)
  ·have h0 : ws = [] := List.eq_nil_of_length_eq_zero (by simpa using h6)
   have hpe : paragraphT f blank wide ws = [[]] := by unfold paragraphT; rw [if_pos h0]
   rw [hpe] at htk
   (repeat (first | refine gO rfl ?_ | ((first | refine gM zM31 ?_ | (with_reducible refine wM ?_ ?_) | ((with_reducible refine xS ?_); refine uF 20 zM31 17 zP1BE zP1BP 170 rfl (by kernel_rfl) ?_) | ((with_reducible refine xR ?_); refine uE 22 zM31 zP1CE zP1CP 170 rfl (by kernel_rfl) ?_) | ((with_reducible refine xS ?_); refine uD 23 zM31 zP1DE zP1DP 170 rfl (by kernel_rfl) ?_)) <;> ((try with_reducible intro K1 hK1); simp only [go_sem, ↓reduceIte, reduceCtorEq, nA, nB, nC, nD, nE, nF, hDl, hq2, List.length_cons, List.length_nil] <;> and_intros <;> first | (apply hK1; clear hK1 K1) | (intros; first | omega | decide) | skip))))
   refine ⟨g - 1, by omega, j + 1, ⟨h2.H, upd h2.T q (some (.tail (D.length + 1)))⟩, by omega, ⟨hgr2.1.trans hgr.1, fun k x e => ?_⟩, ?_, ?_⟩
   ·show upd h2.T q _ k = _
    rw [upd_other _ _ (by rintro rfl; rw [hq] at e; cases e)]
    exact hgr2.2 _ _ (hgr.2 _ _ e)
   ·rw [htk, List.length_append]; exact upd_same _ _ _
   ·rw [htk, List.map_append]; rfl
  have h0 : ws ≠ [] := fun e => by rw [e] at h6; simp at h6
  have h0l := List.length_pos_iff.2 h0
  clear h6
  have hpe : paragraphT f blank wide ws = paraT ws.length ws (waysT blank wide (ws.map (sumW f))) := by unfold paragraphT; rw [if_neg h0]
  have hLl : (ws.map (sumW f)).length = ws.length := List.length_map _
  obtain ⟨L, hL⟩ : ∃ L, L = ws.map (sumW f) := ⟨_, rfl⟩
  rw [← hL] at hpe hLl hM
  have hC : wide * wide ≤ 10000000000 := Int.mul_le_mul hw.2 hw.2 (by omega) (by omega)
  have hC0 : 0 ≤ wide * wide := Int.mul_nonneg (by omega) (by omega)
  have hwb := fun k => wayAt_bd hbl.1 (by omega) (fun w hw => (hM w hw).1) (blank := blank) (wide := wide) (l := L) k
  (repeat (first | refine gO rfl ?_ | ((first | refine gM zM31 ?_ | (with_reducible refine wM ?_ ?_) | ((with_reducible refine xS ?_); refine uF 20 zM31 17 zP1BE zP1BP 170 rfl (by kernel_rfl) ?_) | ((with_reducible refine xR ?_); refine uE 22 zM31 zP1CE zP1CP 170 rfl (by kernel_rfl) ?_) | ((with_reducible refine xS ?_); refine uD 23 zM31 zP1DE zP1DP 170 rfl (by kernel_rfl) ?_)) <;> ((try with_reducible intro K1 hK1); simp only [go_sem, ↓reduceIte, reduceCtorEq, nA, nB, nC, nD, nE, nF, hwl] <;> and_intros <;> first | (apply hK1; clear hK1 K1) | (intros; first | omega | decide) | skip))))
  intro p hp
  and_intros <;> first | (refine hK1 _ ?_; clear hK1 K1) | exact .inl trivial | exact .inr rfl | exact .inr True.intro | exact True.intro | omega
  (repeat (first | refine gO rfl ?_ | ((first | refine gM zM31 ?_ | (with_reducible refine wM ?_ ?_) | ((with_reducible refine xS ?_); refine uF 20 zM31 17 zP1BE zP1BP 170 rfl (by kernel_rfl) ?_) | ((with_reducible refine xR ?_); refine uE 22 zM31 zP1CE zP1CP 170 rfl (by kernel_rfl) ?_) | ((with_reducible refine xS ?_); refine uD 23 zM31 zP1DE zP1DP 170 rfl (by kernel_rfl) ?_)) <;> ((try with_reducible intro K1 hK1); simp only [go_sem, ↓reduceIte, reduceCtorEq, nA, nB, nC, nD, nE, nF, hwl] <;> and_intros <;> first | (apply hK1; clear hK1 K1) | (intros; first | omega | decide) | skip))))
  replace hp : h2.T p = none := hp
  have hT2 := hgr2.2 _ _ (hgr.2 _ _ hT)
  refine awp_loopC (rl false [2, 2, 4, 1, 2, 3, 5, 3, 148]) 0 (fun i s => ∃ (hx : Hp), i ≤ L.length ∧ Gr h2 hx ∧ hx.T p = some (.cont 3 ((List.replicate i (0, 0, 0) ++ waysT blank wide (L.drop i)).map encY)) ∧
   s = ⟨(AV.junk :: AV.junk :: ((.v (.int .i64 wide)) :: (.ref [.v (.string f.key), .v (.int .i64 f.hi), .v (.int .i64 f.ot), .row 3 (f.ws.map encW) kk] 0) :: (jnk 4 ((.row 1 (D.map encLn) (some q)) :: AV.junk :: AV.junk :: ((.row 1 (ws.map encLn) none) :: (.arr 3 p (ws.length + 1)) :: (.v (.int .i64 ((i : Int) - 1))) :: (jnk 5 ((.row 1 ((P.map List.flatten).map encL1) none) :: (.v (.int .i64 P.length)) :: (.v (.int .i64 j)) :: (jnk 148 [])))))))), [], hx⟩) L.length ⟨_, Nat.le_refl _, gr_set (Gr.refl h2) hp _, ?_, by rw [hLl]; rfl⟩ ?_
  ·show upd h2.T p _ p = _
   rw [upd_same, List.drop_length, hLl]
   have e1 : (List.replicate ws.length ((0, 0, 0) : Way) ++ waysT blank wide []).map encY = List.replicate (ws.length + 1) [.v (.int .i64 0), .v (.int .i64 0), .v (.int .i64 0)] := by
    show (List.replicate ws.length ((0, 0, 0) : Way) ++ [(0, 0, 0)]).map encY = _
    rw [← List.replicate_succ', List.map_replicate]; rfl
   rw [e1]; rfl
  rintro i' _ ⟨hx, hi', hgx, hxp, rfl⟩
  (repeat (first | refine gO rfl ?_ | ((first | refine gM zM31 ?_ | (with_reducible refine wM ?_ ?_) | ((with_reducible refine xS ?_); refine uF 20 zM31 17 zP1BE zP1BP 170 rfl (by kernel_rfl) ?_) | ((with_reducible refine xR ?_); refine uE 22 zM31 zP1CE zP1CP 170 rfl (by kernel_rfl) ?_) | ((with_reducible refine xS ?_); refine uD 23 zM31 zP1DE zP1DP 170 rfl (by kernel_rfl) ?_)) <;> ((try with_reducible intro K1 hK1); simp only [go_sem, ↓reduceIte, reduceCtorEq, nA, nB, nC, nD, nE, nF] <;> and_intros <;> first | (apply hK1; clear hK1 K1) | (intros; first | omega | decide) | skip))))
  refine awp_cond (t := _) rfl (fun h7 => ?_) (fun h7 => ?_)
  ·simp only [decide_eq_true_eq] at h7
   obtain ⟨i, rfl⟩ : ∃ i, i' = i + 1 := ⟨i' - 1, by omega⟩
   have ei : ((i + 1 : Nat) : Int) - 1 = (i : Int) := by omega
   rw [rowY_start] at hxp
   rw [ei]
   have hi : i < L.length := by omega
   have hrl := rowY_len blank wide L i (0, 0, 0) hi
   rw [hLl] at hrl
   have hcu := rowY_cur blank wide L i (0, 0, 0)
   have hset := fun w => rowY_set blank wide L i (0, 0, 0) w
   (repeat (first | refine gO rfl ?_ | ((first | refine gM zM31 ?_ | (with_reducible refine wM ?_ ?_) | ((with_reducible refine xS ?_); refine uF 20 zM31 17 zP1BE zP1BP 170 rfl (by kernel_rfl) ?_) | ((with_reducible refine xR ?_); refine uE 22 zM31 zP1CE zP1CP 170 rfl (by kernel_rfl) ?_) | ((with_reducible refine xS ?_); refine uD 23 zM31 zP1DE zP1DP 170 rfl (by kernel_rfl) ?_)) <;> ((try with_reducible intro K1 hK1); simp only [go_sem, ↓reduceIte, reduceCtorEq, nA, nB, nC, nD, nE, nF, hwl, hxp, hrl, hcu, Int.toNat_natCast] <;> and_intros <;> first | (apply hK1; clear hK1 K1) | (intros; first | omega | decide) | skip))))
   have hgi := gr_set hgx hp (some (.cont 3 (rowY blank wide L i ((L.length : Int) + 1, 0, 0))))
   have hWs := wayAt_bd hbl.1 (by omega) (fun w hw => (hM w hw).1) (blank := blank) (wide := wide) (l := L) i
   have hst0 := innerR_start blank wide L i hi
   have hfin := rowY_fin blank wide L i hi
   obtain ⟨X, hX⟩ : ∃ X, X = wayAt blank wide L i := ⟨_, rfl⟩
   rw [← hX] at hWs hst0 hfin
   refine awp_loopC (rl false [2, 2, 4, 1, 2, 4, 4, 3, 148]) 0 (fun g3 s => ∃ (c : Nat) (cur : Way) (hy : Hp), g3 + (i + c) = L.length ∧ Gr h2 hy ∧ hy.T p = some (.cont 3 (rowY blank wide L i cur)) ∧ WayB (wide * wide) (L.length + 1) cur ∧
    innerR blank wide (L.drop (i + c)) (waysT blank wide (L.drop (i + c + 1))) (lineW blank ((L.drop i).take c)) c cur = X ∧
    s = ⟨(AV.junk :: AV.junk :: ((.v (.int .i64 wide)) :: (.ref [.v (.string f.key), .v (.int .i64 f.hi), .v (.int .i64 f.ot), .row 3 (f.ws.map encW) kk] 0) :: (jnk 4 ((.row 1 (D.map encLn) (some q)) :: AV.junk :: AV.junk :: ((.row 1 (ws.map encLn) none) :: (.arr 3 p (ws.length + 1)) :: (.v (.int .i64 i)) :: (.v (.int .i64 ((c : Int) + 1))) :: (jnk 4 ((.row 1 ((P.map List.flatten).map encL1) none) :: (.v (.int .i64 P.length)) :: (.v (.int .i64 j)) :: (jnk 148 [])))))))), [], hy⟩) (L.length - i) ⟨0, ((L.length : Int) + 1, 0, 0), ⟨hx.H, upd hx.T p (some (.cont 3 (rowY blank wide L i ((L.length : Int) + 1, 0, 0))))⟩, by omega, hgi, upd_same _ _ _, ?_, ?_, ?_⟩ ?_
   ·exact ⟨⟨by show (0 : Int) ≤ (L.length : Int) + 1; omega, by show (L.length : Int) + 1 ≤ _; omega⟩, ⟨Int.le_refl _, Int.mul_nonneg hC0 (Int.natCast_nonneg _)⟩, Nat.zero_le _⟩
   ·rw [List.take_zero, show lineW blank [] = -blank from by simp [lineW]]; exact hst0
   ·rw [← hset ((L.length : Int) + 1, 0, 0), hLl]
    rfl
   rintro g3 _ ⟨c, cur, hy, hc, hgy, hyp, hcb, hin, rfl⟩
   (repeat (first | refine gO rfl ?_ | ((first | refine gM zM31 ?_ | (with_reducible refine wM ?_ ?_) | ((with_reducible refine xS ?_); refine uF 20 zM31 17 zP1BE zP1BP 170 rfl (by kernel_rfl) ?_) | ((with_reducible refine xR ?_); refine uE 22 zM31 zP1CE zP1CP 170 rfl (by kernel_rfl) ?_) | ((with_reducible refine xS ?_); refine uD 23 zM31 zP1DE zP1DP 170 rfl (by kernel_rfl) ?_)) <;> ((try with_reducible intro K1 hK1); simp only [go_sem, ↓reduceIte, reduceCtorEq, nA, nB, nC, nD, nE, nF, hwl] <;> and_intros <;> first | (apply hK1; clear hK1 K1) | (intros; first | omega | decide) | skip))))
   refine awp_cond (t := _) rfl (fun h8 => ?_) (fun h8 => ?_)
   ·simp only [decide_eq_true_eq] at h8
    have hk : i + c < L.length := by omega
    have hkw : i + c < ws.length := by omega
    obtain ⟨w, hwk⟩ : ∃ w, L[i + c]? = some w := ⟨_, List.getElem?_eq_getElem hk⟩
    have hst := innerR_step blank wide L (i + c) w hwk (lineW blank ((L.drop i).take c)) c cur
    rw [hin, ← lineW_succ blank L i c w hwk] at hst
    obtain ⟨V, hV⟩ : ∃ V, V = (ws.drop i).take (c + 1) := ⟨_, rfl⟩
    have tn : ((i : Int) + ((c : Int) + 1)).toNat = i + (c + 1) := by omega
    have hVm : ((ws.map encLn).drop i).take (c + 1) = V.map encLn := by rw [hV, ← List.map_drop, ← List.map_take]
    have hVl : V.length = c + 1 := by rw [hV, List.length_take, List.length_drop]; omega
    have hcl : (V.map encLn).length = c + 1 := by rw [List.length_map]; exact hVl
    have hVt : ∀ w ∈ V, ∀ t ∈ w, t ∈ toks := fun w hw => hwt w (List.mem_of_mem_drop (List.mem_of_mem_take (hV ▸ hw)))
    have hVf : V.flatten.length ≤ 2000 := by rw [hV]; exact Nat.le_trans (drop_flat_le ws i (c + 1)) (by omega)
    have hjo := a_joinBl V none hVt (by omega) (by omega) hy
    have hjt := joinT_toks hVt
    have hjl2 := joinT_len V
    have hNV : lineW blank ((L.drop i).take (c + 1)) = sumW f (joinT V) := by
     rw [hjs V (fun e => by rw [e] at hVl; simp at hVl), hV, List.map_take, List.map_drop, ← hL]
    have hsb := hg.fob.sum (joinT V)
    rw [hNV] at hst
    obtain ⟨N, hN⟩ : ∃ N, N = sumW f (joinT V) := ⟨_, rfl⟩
    (repeat (first | refine gO rfl ?_ | ((first | refine gM zM31 ?_ | (with_reducible refine wM ?_ ?_) | ((with_reducible refine xS ?_); refine uF 20 zM31 17 zP1BE zP1BP 170 rfl (by kernel_rfl) ?_) | ((with_reducible refine xR ?_); refine uE 22 zM31 zP1CE zP1CP 170 rfl (by kernel_rfl) ?_) | ((with_reducible refine xS ?_); refine uD 23 zM31 zP1DE zP1DP 170 rfl (by kernel_rfl) ?_)) <;> ((try with_reducible intro K1 hK1); simp only [go_sem, ↓reduceIte, reduceCtorEq, nA, nB, nC, nD, nE, nF, hwl, tn, hVm, hcl, Int.toNat_natCast, Nat.add_sub_cancel_left, Option.toList_none, Option.toList_some, List.append_eq, List.nil_append, List.cons_append, uside] <;> and_intros <;> first | (apply hK1; clear hK1 K1) | (intros; first | omega | decide) | skip))))
    refine hjo.mono ?_; rintro _ hz ⟨rfl, hh⟩; apply hK1; clear hK1 K1; rw [hh]; clear hh hz
    first | refine gO rfl ?_ | ((first | refine gM zM31 ?_ | (with_reducible refine wM ?_ ?_) | ((with_reducible refine xS ?_); refine uF 20 zM31 17 zP1BE zP1BP 170 rfl (by kernel_rfl) ?_) | ((with_reducible refine xR ?_); refine uE 22 zM31 zP1CE zP1CP 170 rfl (by kernel_rfl) ?_) | ((with_reducible refine xS ?_); refine uD 23 zM31 zP1DE zP1DP 170 rfl (by kernel_rfl) ?_)) <;> ((try with_reducible intro K1 hK1); simp only [go_sem, ↓reduceIte, reduceCtorEq, nA, nB, nC, nD, nE, nF] <;> and_intros <;> first | (apply hK1; clear hK1 K1) | (intros; first | omega | decide | (simp_all <;> omega)) | skip))
    first | refine gO rfl ?_ | ((first | refine gM zM31 ?_ | (with_reducible refine wM ?_ ?_) | ((with_reducible refine xS ?_); refine uF 20 zM31 17 zP1BE zP1BP 170 rfl (by kernel_rfl) ?_) | ((with_reducible refine xR ?_); refine uE 22 zM31 zP1CE zP1CP 170 rfl (by kernel_rfl) ?_) | ((with_reducible refine xS ?_); refine uD 23 zM31 zP1DE zP1DP 170 rfl (by kernel_rfl) ?_)) <;> ((try with_reducible intro K1 hK1); simp only [go_sem, ↓reduceIte, reduceCtorEq, nA, nB, nC, nD, nE, nF] <;> and_intros <;> first | (apply hK1; clear hK1 K1) | (intros; first | omega | decide | (simp_all <;> omega)) | skip))
    have hwo := g_wideOfR f kk (joinT V) hjt (by omega) hg k0 hy (hgy.2 _ _ hT2)
    rw [hfl, ← hN] at hwo
    rw [← hN] at hst hsb
    refine awp_seqJ (rl false [2, 2, 4, 1, 2, 5, 3, 3, 148]) 0 (fun s => ∃ hz : Hp, Gr hy hz ∧ (c = 0 ∨ N ≤ wide) ∧ s = ⟨(AV.junk :: AV.junk :: ((.v (.int .i64 wide)) :: (.ref [.v (.string f.key), .v (.int .i64 f.hi), .v (.int .i64 f.ot), .row 3 (f.ws.map encW) kk] 0) :: (jnk 4 ((.row 1 (D.map encLn) (some q)) :: AV.junk :: AV.junk :: ((.row 1 (ws.map encLn) none) :: (.arr 3 p (ws.length + 1)) :: (.v (.int .i64 i)) :: (.v (.int .i64 ((c : Int) + 1))) :: (.v (.string (bsOf (joinT V).flatten))) :: (jnk 3 ((.row 1 ((P.map List.flatten).map encL1) none) :: (.v (.int .i64 P.length)) :: (.v (.int .i64 j)) :: (jnk 148 [])))))))), [], hz⟩) ?_ ?_
    ·by_cases c0 : c = 0
     ·have d1 : decide ((1 : Int) < (c : Int) + 1) = false := decide_eq_false (by omega)
      (repeat (first | refine gO rfl ?_ | ((first | refine gM zM31 ?_ | (with_reducible refine wM ?_ ?_) | ((with_reducible refine xS ?_); refine uF 20 zM31 17 zP1BE zP1BP 170 rfl (by kernel_rfl) ?_) | ((with_reducible refine xR ?_); refine uE 22 zM31 zP1CE zP1CP 170 rfl (by kernel_rfl) ?_) | ((with_reducible refine xS ?_); refine uD 23 zM31 zP1DE zP1DP 170 rfl (by kernel_rfl) ?_)) <;> ((try with_reducible intro K1 hK1); simp only [go_sem, ↓reduceIte, reduceCtorEq, nA, nB, nC, nD, nE, nF, d1] <;> and_intros <;> first | (apply hK1; clear hK1 K1) | (intros; first | omega | decide) | skip))))
      refine ⟨.v (.int .i64 0), rfl, hK1 _ ?_⟩; clear hK1 K1
      (repeat (first | refine gO rfl ?_ | ((first | refine gM zM31 ?_ | (with_reducible refine wM ?_ ?_) | ((with_reducible refine xS ?_); refine uF 20 zM31 17 zP1BE zP1BP 170 rfl (by kernel_rfl) ?_) | ((with_reducible refine xR ?_); refine uE 22 zM31 zP1CE zP1CP 170 rfl (by kernel_rfl) ?_) | ((with_reducible refine xS ?_); refine uD 23 zM31 zP1DE zP1DP 170 rfl (by kernel_rfl) ?_)) <;> ((try with_reducible intro K1 hK1); simp only [go_sem, ↓reduceIte, reduceCtorEq, nA, nB, nC, nD, nE, nF, d1] <;> and_intros <;> first | (apply hK1; clear hK1 K1) | (intros; first | omega | decide) | skip))))
      refine awp_cond (t := _) rfl (fun h9 => by cases h9) (fun _ => ?_)
      (repeat (first | refine gO rfl ?_ | ((first | refine gM zM31 ?_ | (with_reducible refine wM ?_ ?_) | ((with_reducible refine xS ?_); refine uF 20 zM31 17 zP1BE zP1BP 170 rfl (by kernel_rfl) ?_) | ((with_reducible refine xR ?_); refine uE 22 zM31 zP1CE zP1CP 170 rfl (by kernel_rfl) ?_) | ((with_reducible refine xS ?_); refine uD 23 zM31 zP1DE zP1DP 170 rfl (by kernel_rfl) ?_)) <;> ((try with_reducible intro K1 hK1); simp only [go_sem, ↓reduceIte, reduceCtorEq, nA, nB, nC, nD, nE, nF] <;> and_intros <;> first | (apply hK1; clear hK1 K1) | (intros; first | omega | decide) | skip))))
      exact ⟨hy, Gr.refl _, .inl c0, rfl⟩
     ·have d1 : decide ((1 : Int) < (c : Int) + 1) = true := decide_eq_true (by omega)
      (repeat (first | refine gO rfl ?_ | ((first | refine gM zM31 ?_ | (with_reducible refine wM ?_ ?_) | ((with_reducible refine xS ?_); refine uF 20 zM31 17 zP1BE zP1BP 170 rfl (by kernel_rfl) ?_) | ((with_reducible refine xR ?_); refine uE 22 zM31 zP1CE zP1CP 170 rfl (by kernel_rfl) ?_) | ((with_reducible refine xS ?_); refine uD 23 zM31 zP1DE zP1DP 170 rfl (by kernel_rfl) ?_)) <;> ((try with_reducible intro K1 hK1); simp only [go_sem, ↓reduceIte, reduceCtorEq, nA, nB, nC, nD, nE, nF, d1] <;> and_intros <;> first | (apply hK1; clear hK1 K1) | (intros; first | omega | decide) | skip))))
      rotate_left
      ·exact fun h => h.elim
      refine hwo.mono ?_
      rintro _ hz ⟨rfl, hgz⟩; refine ⟨rfl, hK1 _ ?_⟩; clear hK1 K1
      (repeat (first | refine gO rfl ?_ | ((first | refine gM zM31 ?_ | (with_reducible refine wM ?_ ?_) | ((with_reducible refine xS ?_); refine uF 20 zM31 17 zP1BE zP1BP 170 rfl (by kernel_rfl) ?_) | ((with_reducible refine xR ?_); refine uE 22 zM31 zP1CE zP1CP 170 rfl (by kernel_rfl) ?_) | ((with_reducible refine xS ?_); refine uD 23 zM31 zP1DE zP1DP 170 rfl (by kernel_rfl) ?_)) <;> ((try with_reducible intro K1 hK1); simp only [go_sem, ↓reduceIte, reduceCtorEq, nA, nB, nC, nD, nE, nF, d1] <;> and_intros <;> first | (apply hK1; clear hK1 K1) | (intros; first | omega | decide) | skip))))
      refine awp_cond (t := _) rfl (fun h9 => ?_) (fun h9 => ?_)
      ·simp only [decide_eq_true_eq] at h9
       rw [if_pos ⟨by omega, h9⟩] at hst
       (repeat (first | refine gO rfl ?_ | ((first | refine gM zM31 ?_ | (with_reducible refine wM ?_ ?_) | ((with_reducible refine xS ?_); refine uF 20 zM31 17 zP1BE zP1BP 170 rfl (by kernel_rfl) ?_) | ((with_reducible refine xR ?_); refine uE 22 zM31 zP1CE zP1CP 170 rfl (by kernel_rfl) ?_) | ((with_reducible refine xS ?_); refine uD 23 zM31 zP1DE zP1DP 170 rfl (by kernel_rfl) ?_)) <;> ((try with_reducible intro K1 hK1); simp only [go_sem, ↓reduceIte, reduceCtorEq, nA, nB, nC, nD, nE, nF] <;> and_intros <;> first | (apply hK1; clear hK1 K1) | (intros; first | omega | decide) | skip))))
       refine ⟨i, by omega, hz, by omega, hgy.trans hgz, ?_, ?_⟩
       ·rw [hgz.2 _ _ hyp, ← hst, hfin]
       ·rfl
      ·simp only [decide_eq_false_iff_not] at h9
       (repeat (first | refine gO rfl ?_ | ((first | refine gM zM31 ?_ | (with_reducible refine wM ?_ ?_) | ((with_reducible refine xS ?_); refine uF 20 zM31 17 zP1BE zP1BP 170 rfl (by kernel_rfl) ?_) | ((with_reducible refine xR ?_); refine uE 22 zM31 zP1CE zP1CP 170 rfl (by kernel_rfl) ?_) | ((with_reducible refine xS ?_); refine uD 23 zM31 zP1DE zP1DP 170 rfl (by kernel_rfl) ?_)) <;> ((try with_reducible intro K1 hK1); simp only [go_sem, ↓reduceIte, reduceCtorEq, nA, nB, nC, nD, nE, nF] <;> and_intros <;> first | (apply hK1; clear hK1 K1) | (intros; first | omega | decide) | skip))))
       exact ⟨hz, hgz, .inr (by omega), rfl⟩
    rintro _ ⟨hz, hgz, hcN, rfl⟩
    rw [if_neg (fun e => by omega)] at hst
    have hzp := hgz.2 _ _ hyp
    have hrl := rowY_len blank wide L i cur hi
    rw [hLl] at hrl
    have hat := rowY_at blank wide L i (i + c) cur (by omega) hk
    have hcu := rowY_cur blank wide L i cur
    have hset := fun w => rowY_set blank wide L i cur w
    have hyb := hwb (i + c + 1)
    obtain ⟨y, hy1⟩ : ∃ y, y = wayAt blank wide L (i + c + 1) := ⟨_, rfl⟩
    rw [← hy1] at hat hyb
    have hyl : 0 ≤ y.1 ∧ y.1 ≤ 20000 := by have := hyb.1; omega
    have hys : 0 ≤ y.2.1 ∧ y.2.1 ≤ 200000000000000 := ⟨hyb.2.1.1, Int.le_trans hyb.2.1.2 (Int.mul_le_mul (a := wide * wide) (b := ((L.length - (i + c + 1) : Nat) : Int)) (c := 10000000000) (d := 20000) hC (by omega) (by omega) (by omega))⟩
    have tk1 : ((i : Int) + ((c : Int) + 1)).toNat = i + c + 1 := by omega
    (repeat (first | refine gO rfl ?_ | ((first | refine gM zM31 ?_ | (with_reducible refine wM ?_ ?_) | ((with_reducible refine xS ?_); refine uF 20 zM31 17 zP1BE zP1BP 170 rfl (by kernel_rfl) ?_) | ((with_reducible refine xR ?_); refine uE 22 zM31 zP1CE zP1CP 170 rfl (by kernel_rfl) ?_) | ((with_reducible refine xS ?_); refine uD 23 zM31 zP1DE zP1DP 170 rfl (by kernel_rfl) ?_)) <;> ((try with_reducible intro K1 hK1); simp only [go_sem, ↓reduceIte, reduceCtorEq, nA, nB, nC, nD, nE, nF, hwl, hzp, hrl, tk1, hat, encY, Int.toNat_natCast] <;> and_intros <;> first | (apply hK1; clear hK1 K1) | (intros; first | omega | decide) | skip))))
    have hsq := g_square f kk (joinT V) wide hjt (by omega) hw hg k0 hz (hgz.2 _ _ (hgy.2 _ _ hT2))
    rw [hfl, ← hN] at hsq
    have hcb2 := cost_sq (n := N) (wide := wide) (by omega) (by omega)
    have hNt : i + c + 1 < L.length → encY (wayN blank wide L (i + c) N c) = [.v (.int .i64 (y.1 + 1)), .v (.int .i64 (y.2.1 + costT N wide)), .v (.int .i64 ((c : Int) + 1))] := fun e => by
     unfold wayN encY
     rw [← hy1, if_pos e]; rfl
    have hNf : ¬ i + c + 1 < L.length → encY (wayN blank wide L (i + c) N c) = [.v (.int .i64 (y.1 + 1)), .v (.int .i64 y.2.1), .v (.int .i64 ((c : Int) + 1))] := fun e => by
     unfold wayN encY
     rw [← hy1, if_neg e]; rfl
    have hNb : WayB (wide * wide) (L.length + 1) (wayN blank wide L (i + c) N c) := by
     have h1 : WayB (wide * wide) (L.length - (i + c + 1) + 1) (wayX wide y (L.drop (i + c + 1)) N 0) := wayX_bd hC0 hyb _ hcb2 (by omega)
     have h2 := h1.mono hC0 (k := L.length + 1) (by omega)
     unfold wayX at h2
     unfold wayN
     rw [← hy1]
     refine ⟨h2.1, ?_, by show c + 1 ≤ _; omega⟩
     have h3 := h2.2.1
     by_cases e : i + c + 1 < L.length
     ·rw [if_pos e]; rw [if_neg (by simp; omega)] at h3; exact h3
     ·rw [if_neg e]; rw [if_pos (by simp; omega)] at h3; exact h3
    generalize wayN blank wide L (i + c) N c = W1 at *
    refine awp_join (rl false [2, 2, 4, 1, 2, 4, 1, 1, 2, 3, 148]) 1 (fun s => ∃ hw2 : Hp, Gr hz hw2 ∧ s = ⟨(AV.junk :: AV.junk :: ((.v (.int .i64 wide)) :: (.ref [.v (.string f.key), .v (.int .i64 f.hi), .v (.int .i64 f.ot), .row 3 (f.ws.map encW) kk] 0) :: (jnk 4 ((.row 1 (D.map encLn) (some q)) :: AV.junk :: AV.junk :: ((.row 1 (ws.map encLn) none) :: (.arr 3 p (ws.length + 1)) :: (.v (.int .i64 i)) :: (.v (.int .i64 ((c : Int) + 1))) :: AV.junk :: ((.loc 0 0) :: AV.junk :: AV.junk :: ((.row 1 ((P.map List.flatten).map encL1) none) :: (.v (.int .i64 P.length)) :: (.v (.int .i64 j)) :: (jnk 148 [])))))))), [encY W1], hw2⟩) ?_ ?_
    ·refine awp_cond (t := _) rfl (fun h8 => ?_) (fun h8 => ?_)
     ·simp only [decide_eq_true_eq] at h8
      (repeat (first | refine gO rfl ?_ | ((first | refine gM zM31 ?_ | (with_reducible refine wM ?_ ?_) | ((with_reducible refine xS ?_); refine uF 20 zM31 17 zP1BE zP1BP 170 rfl (by kernel_rfl) ?_) | ((with_reducible refine xR ?_); refine uE 22 zM31 zP1CE zP1CP 170 rfl (by kernel_rfl) ?_) | ((with_reducible refine xS ?_); refine uD 23 zM31 zP1DE zP1DP 170 rfl (by kernel_rfl) ?_)) <;> ((try with_reducible intro K1 hK1); simp only [go_sem, ↓reduceIte, reduceCtorEq, nA, nB, nC, nD, nE, nF] <;> and_intros <;> first | (apply hK1; clear hK1 K1) | (intros; first | omega | decide) | skip))))
      refine hsq.mono ?_
      rintro _ hv ⟨rfl, hgv⟩; apply hK1; clear hK1 K1
      (repeat (first | refine gO rfl ?_ | ((first | refine gM zM31 ?_ | (with_reducible refine wM ?_ ?_) | ((with_reducible refine xS ?_); refine uF 20 zM31 17 zP1BE zP1BP 170 rfl (by kernel_rfl) ?_) | ((with_reducible refine xR ?_); refine uE 22 zM31 zP1CE zP1CP 170 rfl (by kernel_rfl) ?_) | ((with_reducible refine xS ?_); refine uD 23 zM31 zP1DE zP1DP 170 rfl (by kernel_rfl) ?_)) <;> ((try with_reducible intro K1 hK1); simp only [go_sem, ↓reduceIte, reduceCtorEq, nA, nB, nC, nD, nE, nF] <;> and_intros <;> first | (apply hK1; clear hK1 K1) | (intros; first | omega | decide) | skip))))
      all_goals try with_reducible rfl
      (repeat (first | refine gO rfl ?_ | ((first | refine gM zM31 ?_ | (with_reducible refine wM ?_ ?_) | ((with_reducible refine xS ?_); refine uF 20 zM31 17 zP1BE zP1BP 170 rfl (by kernel_rfl) ?_) | ((with_reducible refine xR ?_); refine uE 22 zM31 zP1CE zP1CP 170 rfl (by kernel_rfl) ?_) | ((with_reducible refine xS ?_); refine uD 23 zM31 zP1DE zP1DP 170 rfl (by kernel_rfl) ?_)) <;> ((try with_reducible intro K1 hK1); simp only [go_sem, ↓reduceIte, reduceCtorEq, nA, nB, nC, nD, nE, nF] <;> and_intros <;> first | (apply hK1; clear hK1 K1) | (intros; first | omega | decide) | skip))))
      all_goals try with_reducible rfl
      refine ⟨hv, hgv, ?_⟩
      rw [hNt (by omega)]; rfl
     ·simp only [decide_eq_false_iff_not] at h8
      (repeat (first | refine gO rfl ?_ | ((first | refine gM zM31 ?_ | (with_reducible refine wM ?_ ?_) | ((with_reducible refine xS ?_); refine uF 20 zM31 17 zP1BE zP1BP 170 rfl (by kernel_rfl) ?_) | ((with_reducible refine xR ?_); refine uE 22 zM31 zP1CE zP1CP 170 rfl (by kernel_rfl) ?_) | ((with_reducible refine xS ?_); refine uD 23 zM31 zP1DE zP1DP 170 rfl (by kernel_rfl) ?_)) <;> ((try with_reducible intro K1 hK1); simp only [go_sem, ↓reduceIte, reduceCtorEq, nA, nB, nC, nD, nE, nF] <;> and_intros <;> first | (apply hK1; clear hK1 K1) | (intros; first | omega | decide) | skip))))
      refine ⟨hz, Gr.refl _, ?_⟩
      rw [hNf (by omega)]; rfl
    rintro _ ⟨hv, hgv, rfl⟩
    clear hNt hNf
    obtain ⟨a1, a2, a3⟩ := W1
    obtain ⟨b1, b2, b3⟩ := cur
    have hx1 : encY (a1, a2, a3) = [.v (.int .i64 a1), .v (.int .i64 a2), .v (.int .i64 a3)] := rfl
    have hx2 : encY (b1, b2, b3) = [.v (.int .i64 b1), .v (.int .i64 b2), .v (.int .i64 b3)] := rfl
    rw [hx2] at hcu
    have hs1 := hset (a1, a2, a3)
    rw [hx1] at hs1 ⊢
    have hvp := hgv.2 _ _ hzp
    by_cases e1 : a1 < b1
    ·have d1 : decide (a1 < b1) = true := decide_eq_true e1
     have hle : wayLe (a1, a2, a3) (b1, b2, b3) = true := by unfold wayLe; simp [e1]
     (repeat (first | refine gO rfl ?_ | ((first | refine gM zM31 ?_ | (with_reducible refine wM ?_ ?_) | ((with_reducible refine xS ?_); refine uF 20 zM31 17 zP1BE zP1BP 170 rfl (by kernel_rfl) ?_) | ((with_reducible refine xR ?_); refine uE 22 zM31 zP1CE zP1CP 170 rfl (by kernel_rfl) ?_) | ((with_reducible refine xS ?_); refine uD 23 zM31 zP1DE zP1DP 170 rfl (by kernel_rfl) ?_)) <;> ((try with_reducible intro K1 hK1); simp only [go_sem, ↓reduceIte, reduceCtorEq, nA, nB, nC, nD, nE, nF, Int.toNat_natCast, hvp, hrl, hcu, d1] <;> and_intros <;> first | (apply hK1; clear hK1 K1) | (intros; first | omega | decide) | skip))))
     all_goals try with_reducible rfl
     refine awp_cond (t := _) rfl (fun _ => ?_) (fun h9 => by cases h9)
     (repeat (first | refine gO rfl ?_ | ((first | refine gM zM31 ?_ | (with_reducible refine wM ?_ ?_) | ((with_reducible refine xS ?_); refine uF 20 zM31 17 zP1BE zP1BP 170 rfl (by kernel_rfl) ?_) | ((with_reducible refine xR ?_); refine uE 22 zM31 zP1CE zP1CP 170 rfl (by kernel_rfl) ?_) | ((with_reducible refine xS ?_); refine uD 23 zM31 zP1DE zP1DP 170 rfl (by kernel_rfl) ?_)) <;> ((try with_reducible intro K1 hK1); simp only [go_sem, ↓reduceIte, reduceCtorEq, nA, nB, nC, nD, nE, nF, Int.toNat_natCast, hvp, hrl, hcu] <;> and_intros <;> first | (apply hK1; clear hK1 K1) | (intros; first | omega | decide) | skip))))
     refine ⟨g3 - 1, by omega, c + 1, (a1, a2, a3), ⟨hv.H, upd hv.T p (some (.cont 3 (rowY blank wide L i (a1, a2, a3))))⟩, by omega, gr_set (hgy.trans (hgz.trans hgv)) hp _, upd_same _ _ _, hNb, ?_, ?_⟩
     ·rw [hNV, ← hN]; rw [if_pos hle] at hst; exact hst.symm
     ·rw [← hs1]; rfl
    ·have d1 : decide (a1 < b1) = false := decide_eq_false e1
     by_cases e2 : a1 = b1
     ·have d2 : (a1 == b1) = true := by simp [e2]
      by_cases e3 : a2 ≤ b2
      ·have d3 : decide (a2 ≤ b2) = true := decide_eq_true e3
       have hle : wayLe (a1, a2, a3) (b1, b2, b3) = true := by unfold wayLe; simp [e2, e3]
       (repeat (first | refine gO rfl ?_ | ((first | refine gM zM31 ?_ | (with_reducible refine wM ?_ ?_) | ((with_reducible refine xS ?_); refine uF 20 zM31 17 zP1BE zP1BP 170 rfl (by kernel_rfl) ?_) | ((with_reducible refine xR ?_); refine uE 22 zM31 zP1CE zP1CP 170 rfl (by kernel_rfl) ?_) | ((with_reducible refine xS ?_); refine uD 23 zM31 zP1DE zP1DP 170 rfl (by kernel_rfl) ?_)) <;> ((try with_reducible intro K1 hK1); simp only [go_sem, ↓reduceIte, reduceCtorEq, nA, nB, nC, nD, nE, nF, Int.toNat_natCast, hvp, hrl, hcu, d1, d2, d3] <;> and_intros <;> first | (apply hK1; clear hK1 K1) | (intros; first | omega | decide) | skip))))
       all_goals try with_reducible rfl
       refine awp_cond (t := _) rfl (fun _ => ?_) (fun h9 => by cases h9)
       (repeat (first | refine gO rfl ?_ | ((first | refine gM zM31 ?_ | (with_reducible refine wM ?_ ?_) | ((with_reducible refine xS ?_); refine uF 20 zM31 17 zP1BE zP1BP 170 rfl (by kernel_rfl) ?_) | ((with_reducible refine xR ?_); refine uE 22 zM31 zP1CE zP1CP 170 rfl (by kernel_rfl) ?_) | ((with_reducible refine xS ?_); refine uD 23 zM31 zP1DE zP1DP 170 rfl (by kernel_rfl) ?_)) <;> ((try with_reducible intro K1 hK1); simp only [go_sem, ↓reduceIte, reduceCtorEq, nA, nB, nC, nD, nE, nF, Int.toNat_natCast, hvp, hrl, hcu] <;> and_intros <;> first | (apply hK1; clear hK1 K1) | (intros; first | omega | decide) | skip))))
       refine ⟨g3 - 1, by omega, c + 1, (a1, a2, a3), ⟨hv.H, upd hv.T p (some (.cont 3 (rowY blank wide L i (a1, a2, a3))))⟩, by omega, gr_set (hgy.trans (hgz.trans hgv)) hp _, upd_same _ _ _, hNb, ?_, ?_⟩
       ·rw [hNV, ← hN]; rw [if_pos hle] at hst; exact hst.symm
       ·rw [← hs1]; rfl
      ·have d3 : decide (a2 ≤ b2) = false := decide_eq_false e3
       have hle : ¬ wayLe (a1, a2, a3) (b1, b2, b3) = true := by unfold wayLe; simp [e2, e3]
       (repeat (first | refine gO rfl ?_ | ((first | refine gM zM31 ?_ | (with_reducible refine wM ?_ ?_) | ((with_reducible refine xS ?_); refine uF 20 zM31 17 zP1BE zP1BP 170 rfl (by kernel_rfl) ?_) | ((with_reducible refine xR ?_); refine uE 22 zM31 zP1CE zP1CP 170 rfl (by kernel_rfl) ?_) | ((with_reducible refine xS ?_); refine uD 23 zM31 zP1DE zP1DP 170 rfl (by kernel_rfl) ?_)) <;> ((try with_reducible intro K1 hK1); simp only [go_sem, ↓reduceIte, reduceCtorEq, nA, nB, nC, nD, nE, nF, Int.toNat_natCast, hvp, hrl, hcu, d1, d2, d3] <;> and_intros <;> first | (apply hK1; clear hK1 K1) | (intros; first | omega | decide) | skip))))
       all_goals try with_reducible rfl
       refine awp_cond (t := _) rfl (fun h9 => by cases h9) (fun _ => ?_)
       (repeat (first | refine gO rfl ?_ | ((first | refine gM zM31 ?_ | (with_reducible refine wM ?_ ?_) | ((with_reducible refine xS ?_); refine uF 20 zM31 17 zP1BE zP1BP 170 rfl (by kernel_rfl) ?_) | ((with_reducible refine xR ?_); refine uE 22 zM31 zP1CE zP1CP 170 rfl (by kernel_rfl) ?_) | ((with_reducible refine xS ?_); refine uD 23 zM31 zP1DE zP1DP 170 rfl (by kernel_rfl) ?_)) <;> ((try with_reducible intro K1 hK1); simp only [go_sem, ↓reduceIte, reduceCtorEq, nA, nB, nC, nD, nE, nF] <;> and_intros <;> first | (apply hK1; clear hK1 K1) | (intros; first | omega | decide) | skip))))
       refine ⟨g3 - 1, by omega, c + 1, (b1, b2, b3), hv, by omega, hgy.trans (hgz.trans hgv), hvp, hcb, ?_, rfl⟩
       rw [hNV, ← hN]; rw [if_neg hle] at hst; exact hst.symm
     ·have d2 : (a1 == b1) = false := by simp [e2]
      have hle : ¬ wayLe (a1, a2, a3) (b1, b2, b3) = true := by unfold wayLe; simp [e1, e2]
      (repeat (first | refine gO rfl ?_ | ((first | refine gM zM31 ?_ | (with_reducible refine wM ?_ ?_) | ((with_reducible refine xS ?_); refine uF 20 zM31 17 zP1BE zP1BP 170 rfl (by kernel_rfl) ?_) | ((with_reducible refine xR ?_); refine uE 22 zM31 zP1CE zP1CP 170 rfl (by kernel_rfl) ?_) | ((with_reducible refine xS ?_); refine uD 23 zM31 zP1DE zP1DP 170 rfl (by kernel_rfl) ?_)) <;> ((try with_reducible intro K1 hK1); simp only [go_sem, ↓reduceIte, reduceCtorEq, nA, nB, nC, nD, nE, nF, Int.toNat_natCast, hvp, hrl, hcu, d1, d2] <;> and_intros <;> first | (apply hK1; clear hK1 K1) | (intros; first | omega | decide) | skip))))
      all_goals try with_reducible rfl
      refine awp_cond (t := _) rfl (fun h9 => by cases h9) (fun _ => ?_)
      (repeat (first | refine gO rfl ?_ | ((first | refine gM zM31 ?_ | (with_reducible refine wM ?_ ?_) | ((with_reducible refine xS ?_); refine uF 20 zM31 17 zP1BE zP1BP 170 rfl (by kernel_rfl) ?_) | ((with_reducible refine xR ?_); refine uE 22 zM31 zP1CE zP1CP 170 rfl (by kernel_rfl) ?_) | ((with_reducible refine xS ?_); refine uD 23 zM31 zP1DE zP1DP 170 rfl (by kernel_rfl) ?_)) <;> ((try with_reducible intro K1 hK1); simp only [go_sem, ↓reduceIte, reduceCtorEq, nA, nB, nC, nD, nE, nF] <;> and_intros <;> first | (apply hK1; clear hK1 K1) | (intros; first | omega | decide) | skip))))
      refine ⟨g3 - 1, by omega, c + 1, (b1, b2, b3), hv, by omega, hgy.trans (hgz.trans hgv), hvp, hcb, ?_, rfl⟩
      rw [hNV, ← hN]; rw [if_neg hle] at hst; exact hst.symm
   ·simp only [decide_eq_false_iff_not] at h8
    have hcl : i + c = L.length := by omega
    rw [innerR_end _ _ _ _ (by omega)] at hin
    (repeat (first | refine gO rfl ?_ | ((first | refine gM zM31 ?_ | (with_reducible refine wM ?_ ?_) | ((with_reducible refine xS ?_); refine uF 20 zM31 17 zP1BE zP1BP 170 rfl (by kernel_rfl) ?_) | ((with_reducible refine xR ?_); refine uE 22 zM31 zP1CE zP1CP 170 rfl (by kernel_rfl) ?_) | ((with_reducible refine xS ?_); refine uD 23 zM31 zP1DE zP1DP 170 rfl (by kernel_rfl) ?_)) <;> ((try with_reducible intro K1 hK1); simp only [go_sem, ↓reduceIte, reduceCtorEq, nA, nB, nC, nD, nE, nF] <;> and_intros <;> first | (apply hK1; clear hK1 K1) | (intros; first | omega | decide) | skip))))
    refine ⟨i, by omega, hy, by omega, hgy, ?_, ?_⟩
    ·rw [hyp, hin, hfin]
    ·rfl
  ·simp only [decide_eq_false_iff_not] at h7
   have hj0 : i' = 0 := by omega
   subst hj0
   rw [List.drop_zero, List.replicate_zero, List.nil_append] at hxp
   obtain ⟨Y, hY⟩ : ∃ Y, Y = waysT blank wide L := ⟨_, rfl⟩
   rw [← hY] at hxp hpe
   have hYl : Y.length = ws.length + 1 := by rw [hY, waysT_len, hLl]
   have hq3 : hx.T q = some (.tail D.length) := hgx.2 _ _ hq2
   have hpq : p ≠ q := by rintro rfl; rw [hp] at hq2; cases hq2
   have hyl : (Y.map encY).length = ws.length + 1 := by rw [List.length_map]; exact hYl
   (repeat (first | refine gO rfl ?_ | ((first | refine gM zM31 ?_ | (with_reducible refine wM ?_ ?_) | ((with_reducible refine xS ?_); refine uF 20 zM31 17 zP1BE zP1BP 170 rfl (by kernel_rfl) ?_) | ((with_reducible refine xR ?_); refine uE 22 zM31 zP1CE zP1CP 170 rfl (by kernel_rfl) ?_) | ((with_reducible refine xS ?_); refine uD 23 zM31 zP1DE zP1DP 170 rfl (by kernel_rfl) ?_)) <;> ((try with_reducible intro K1 hK1); simp only [go_sem, ↓reduceIte, reduceCtorEq, nA, nB, nC, nD, nE, nF] <;> and_intros <;> first | (apply hK1; clear hK1 K1) | (intros; first | omega | decide) | skip))))
   refine awp_loopC (rl false [2, 2, 4, 1, 2, 2, 4, 1, 1, 3, 148]) 0 (fun g4 s => ∃ (i : Nat) (E : List (List Tok)) (g' : Nat), g4 + i = ws.length ∧ ws.length - i ≤ g' ∧ E ++ paraT g' (ws.drop i) (Y.drop i) = paraT ws.length ws Y ∧ E.length ≤ i ∧
    s = ⟨(AV.junk :: AV.junk :: ((.v (.int .i64 wide)) :: (.ref [.v (.string f.key), .v (.int .i64 f.hi), .v (.int .i64 f.ot), .row 3 (f.ws.map encW) kk] 0) :: (jnk 4 ((.row 1 ((D ++ E).map encLn) (some q)) :: AV.junk :: AV.junk :: ((.row 1 (ws.map encLn) none) :: (.arr 3 p (ws.length + 1)) :: (jnk 4 ((.v (.int .i64 i)) :: AV.junk :: ((.row 1 ((P.map List.flatten).map encL1) none) :: (.v (.int .i64 P.length)) :: (.v (.int .i64 j)) :: (jnk 148 []))))))))), [], ⟨hx.H, upd hx.T q (some (.tail (D ++ E).length))⟩⟩) ws.length ⟨0, [], ws.length, by omega, by omega, rfl, by simp, ?_⟩ ?_
   ·rw [List.append_nil, upd_self _ hq3]; rfl
   rintro g4 _ ⟨i, E, g', hg4, hg', hE, hEl, rfl⟩
   (repeat (first | refine gO rfl ?_ | ((first | refine gM zM31 ?_ | (with_reducible refine wM ?_ ?_) | ((with_reducible refine xS ?_); refine uF 20 zM31 17 zP1BE zP1BP 170 rfl (by kernel_rfl) ?_) | ((with_reducible refine xR ?_); refine uE 22 zM31 zP1CE zP1CP 170 rfl (by kernel_rfl) ?_) | ((with_reducible refine xS ?_); refine uD 23 zM31 zP1DE zP1DP 170 rfl (by kernel_rfl) ?_)) <;> ((try with_reducible intro K1 hK1); simp only [go_sem, ↓reduceIte, reduceCtorEq, nA, nB, nC, nD, nE, nF, hwl] <;> and_intros <;> first | (apply hK1; clear hK1 K1) | (intros; first | omega | decide) | skip))))
   refine awp_cond (t := _) rfl (fun h8 => ?_) (fun h8 => ?_)
   ·simp only [decide_eq_true_eq] at h8
    have hi : i < ws.length := by omega
    have hfo := ways_first blank wide (L.drop i) (fun e => by have := congrArg List.length e; simp at this; omega) (0, 0, 0)
    have hfi : (Y.drop i).getD 0 (0, 0, 0) = wayAt blank wide L i := by rw [hY, waysT_drop _ _ _ _ (by omega)]; rfl
    have hyi : (Y.map encY).getD i [] = encY (wayAt blank wide L i) := by
     rw [← ways_getD blank wide L i (by omega) (0, 0, 0), ← hY, List.getD_eq_getElem?_getD, List.getElem?_map, List.getD_eq_getElem?_getD, List.getElem?_eq_getElem (by omega)]
     rfl
    change firstOk blank wide (L.drop i) (wayAt blank wide L i).2.2 at hfo
    generalize wayAt blank wide L i = y at hfo hyi hfi
    obtain ⟨y1, y2, fi⟩ := y
    obtain ⟨hf1, hf2, _⟩ := hfo
    rw [List.length_drop] at hf2
    change 1 ≤ fi at hf1
    change fi ≤ _ at hf2
    have hye : encY (y1, y2, fi) = [.v (.int .i64 y1), .v (.int .i64 y2), .v (.int .i64 fi)] := rfl
    rw [hye] at hyi
    have tn : ((i : Int) + (fi : Int)).toNat = i + fi := by omega
    obtain ⟨V, hV⟩ : ∃ V, V = (ws.drop i).take fi := ⟨_, rfl⟩
    have hVm : ((ws.map encLn).drop i).take fi = V.map encLn := by rw [hV, ← List.map_drop, ← List.map_take]
    have hVl : V.length = fi := by rw [hV, List.length_take, List.length_drop]; omega
    have hcl : (V.map encLn).length = fi := by rw [List.length_map]; exact hVl
    have hVt : ∀ w ∈ V, ∀ t ∈ w, t ∈ toks := fun w hw => hwt w (List.mem_of_mem_drop (List.mem_of_mem_take (hV ▸ hw)))
    have hVf : V.flatten.length ≤ 2000 := by rw [hV]; exact Nat.le_trans (drop_flat_le ws i fi) (by omega)
    have hjo := a_joinBl V none hVt (by omega) (by omega)
    have hkp : upd hx.T q (some (TO.tail (D ++ E).length)) p = some (.cont 3 (Y.map encY)) := (upd_other _ _ hpq).trans hxp
    have hkp2 : upd hx.T q (some (TO.tail (D.length + E.length + 1))) p = some (.cont 3 (Y.map encY)) := (upd_other _ _ hpq).trans hxp
    have hlo : (D ++ E).length = D.length + E.length := List.length_append
    rw [hlo] at hkp ⊢
    have hlm : ((D ++ E).map encLn).length = D.length + E.length := by rw [List.length_map]; exact hlo
    (repeat (first | refine gO rfl ?_ | ((first | refine gM zM31 ?_ | (with_reducible refine wM ?_ ?_) | ((with_reducible refine xS ?_); refine uF 20 zM31 17 zP1BE zP1BP 170 rfl (by kernel_rfl) ?_) | ((with_reducible refine xR ?_); refine uE 22 zM31 zP1CE zP1CP 170 rfl (by kernel_rfl) ?_) | ((with_reducible refine xS ?_); refine uD 23 zM31 zP1DE zP1DP 170 rfl (by kernel_rfl) ?_)) <;> ((try with_reducible intro K1 hK1); simp only [go_sem, ↓reduceIte, reduceCtorEq, nA, nB, nC, nD, nE, nF, hwl, hkp, hyl, hyi, Int.toNat_natCast, tn, Nat.add_sub_cancel_left, hVm, hcl, Option.toList_none, Option.toList_some, List.append_eq, List.nil_append, List.cons_append, uside] <;> and_intros <;> first | (apply hK1; clear hK1 K1) | (intros; first | omega | decide) | skip))))
    refine (hjo _).mono ?_; rintro _ hz ⟨rfl, hh⟩; apply hK1; clear hK1 K1; rw [hh]; clear hh hz
    (repeat (first | refine gO rfl ?_ | ((first | refine gM zM31 ?_ | (with_reducible refine wM ?_ ?_) | ((with_reducible refine xS ?_); refine uF 20 zM31 17 zP1BE zP1BP 170 rfl (by kernel_rfl) ?_) | ((with_reducible refine xR ?_); refine uE 22 zM31 zP1CE zP1CP 170 rfl (by kernel_rfl) ?_) | ((with_reducible refine xS ?_); refine uD 23 zM31 zP1DE zP1DP 170 rfl (by kernel_rfl) ?_)) <;> ((try with_reducible intro K1 hK1); simp only [go_sem, ↓reduceIte, reduceCtorEq, nA, nB, nC, nD, nE, nF, hlm, hkp2, hyl, hyi, upd_same, upd_upd, Int.toNat_natCast] <;> and_intros <;> first | (apply hK1; clear hK1 K1) | (intros; first | omega | decide) | skip))))
    obtain ⟨g'', rfl⟩ : ∃ g'', g' = g'' + 1 := ⟨g' - 1, by omega⟩
    rw [paraT, if_neg (fun e => by have := congrArg List.length e; simp at this; omega), hfi, ← hV, List.drop_drop, List.drop_drop] at hE
    refine ⟨g4 - fi, by omega, i + fi, E ++ [joinT V], g'', by omega, by omega, ?_, ?_, ?_⟩
    ·rw [List.append_assoc]; exact hE
    ·rw [List.length_append]; simp only [List.length_cons, List.length_nil]; omega
    ·rw [← List.append_assoc, List.map_append (l₁ := D ++ E), List.length_append, hlo]; rfl
   ·simp only [decide_eq_false_iff_not] at h8
    have hie : i = ws.length := by omega
    subst hie
    have hpn : paraT g' (ws.drop ws.length) (Y.drop ws.length) = [] := by
     rw [List.drop_length]
     cases g' with
     | zero => rfl
     | succ g' => rw [paraT, if_pos rfl]
    rw [hpn, List.append_nil] at hE
    rw [hpe, ← hE] at htk
    (repeat (first | refine gO rfl ?_ | ((first | refine gM zM31 ?_ | (with_reducible refine wM ?_ ?_) | ((with_reducible refine xS ?_); refine uF 20 zM31 17 zP1BE zP1BP 170 rfl (by kernel_rfl) ?_) | ((with_reducible refine xR ?_); refine uE 22 zM31 zP1CE zP1CP 170 rfl (by kernel_rfl) ?_) | ((with_reducible refine xS ?_); refine uD 23 zM31 zP1DE zP1DP 170 rfl (by kernel_rfl) ?_)) <;> ((try with_reducible intro K1 hK1); simp only [go_sem, ↓reduceIte, reduceCtorEq, nA, nB, nC, nD, nE, nF] <;> and_intros <;> first | (apply hK1; clear hK1 K1) | (intros; first | omega | decide) | skip))))
    refine ⟨g - 1, by omega, j + 1, ⟨hx.H, upd hx.T q (some (.tail (D ++ E).length))⟩, by omega, gr_set (hgr.trans (hgr2.trans hgx)) hq _, ?_, ?_⟩
    ·rw [htk]; exact upd_same _ _ _
    ·rw [htk]; rfl
 ·simp only [decide_eq_false_iff_not] at h5
  have hjl : j = P.length := by omega
  subst hjl
  rw [List.take_length]
  (repeat (first | refine gO rfl ?_ | ((first | refine gM zM31 ?_ | (with_reducible refine wM ?_ ?_) | ((with_reducible refine xS ?_); refine uF 20 zM31 17 zP1BE zP1BP 170 rfl (by kernel_rfl) ?_) | ((with_reducible refine xR ?_); refine uE 22 zM31 zP1CE zP1CP 170 rfl (by kernel_rfl) ?_) | ((with_reducible refine xS ?_); refine uD 23 zM31 zP1DE zP1DP 170 rfl (by kernel_rfl) ?_)) <;> ((try with_reducible intro K1 hK1); simp only [go_sem, ↓reduceIte, reduceCtorEq, nA, nB, nC, nD, nE, nF] <;> and_intros <;> first | (apply hK1; clear hK1 K1) | (intros; first | omega | decide) | skip))))
  simp only [Tryz.results19, go_sem, ↓reduceIte, reduceCtorEq, nA, nB, nC, nD, nE, nF]
  exact ⟨_, _, Weak.tup1 (Weak.row _ _ _) (Weak.refl _), Hp.le.refl _, rfl, hgr⟩
set_option maxHeartbeats 8000000
theorem upd_comm {α : Type} (f : Nat → Option α) {i j : Nat} (x y : Option α) (h : i ≠ j) : upd (upd f i x) j y = upd (upd f j y) i x := by
 funext q
 by_cases e : q = j
 ·subst e; rw [upd_same, upd_other _ _ (fun e => h e.symm), upd_same]
 ·rw [upd_other _ _ e]
  by_cases e2 : q = i
  ·subst e2; rw [upd_same, upd_same]
  ·rw [upd_other _ _ e2, upd_other _ _ e2, upd_other _ _ e]
theorem st_upd {h : Hp} {i b k : Nat} {l : List Int} {a : Int} {o : Option AO} {t : Option TO} (n : b ≠ i) : (⟨upd (h.st i l a).H b o, upd (h.st i l a).T k t⟩ : Hp) = Hp.st ⟨upd h.H b o, upd h.T k t⟩ i l a := by
 simp only [Hp.st]
 congr 1
 exact (upd_comm _ _ _ n).symm
theorem st_updH {h : Hp} {i b : Nat} {l : List Int} {a : Int} {o : Option AO} (n : b ≠ i) : (⟨upd (h.st i l a).H b o, h.T⟩ : Hp) = Hp.st ⟨upd h.H b o, h.T⟩ i l a := by
 simp only [Hp.st]
 congr 1
 exact (upd_comm _ _ _ n).symm
open Go.RowKit in
theorem bString_nil (b : Nat) (p : Value) (w : World) (hbk : w.heap[b]? = some (.cells #[p, .slice none 0 0] 74 (0, 0))) :
  Calls Tryz.prog 42 #[.pointer (some ⟨b, 0, none⟩)] w fun e w' => e = .returned (.string ⟨#[]⟩) ∧ w' = w.drew := by
 have c1 : w.drew.cell? ⟨b, 1, none⟩ = some (.slice none 0 0) := by
  have : w.drew.heap[b]? = some (.cells #[p, .slice none 0 0] 74 (0, 0)) := hbk
  rw [Lib.cell_of_heap this]; rfl
 have hSD : (Builtin.unsafeSliceData_ #[72] 116 #[.slice none 0 0]).run Tryz.prog w.drew = .ok (.pointer none) w.drew := rfl
 have hUS : (Builtin.unsafeString_ #[116, 3] 9 #[.pointer none, .int .i64 0]).run Tryz.prog w.drew = .ok (.string .empty) w.drew := Lib.run_unsafeString_none _ _ _ _ _
 have mixed : Tryz.prog.follows .mixedOrders = true := by kernel_rfl
 go_enter Tryz.func42, Tryz.ntmps42
 go_wp2
 go_region_o
 all_goals (go_wp2; go_ret; exact ⟨rfl, rfl⟩)
theorem g_bString0 (b : Nat) (h : Hp) (hb : h.H b = some (.obj 74 [.v (.pointer none), .v (.slice none 0 0)])) :
  ACalls Tryz.prog 42 [.ptr b 0] h (fun r h' => r = .v (.string ⟨#[]⟩) ∧ h' = h) := by
 refine acalls_mk (by kernel_rfl) fun G w vs hs hv ha => ?_
 obtain ⟨p, rfl, hat⟩ := one_ptr (h := h) (w := w) hv ha
 obtain ⟨p', ob, e', hh, ⟨us, rfl, hrr⟩, hval⟩ := hs.obj b _ hb
 rw [hat] at e'; cases e'
 obtain ⟨x, y, rfl, hx, hy⟩ := two_cells hrr
 cases hx
 cases hy
 refine (bString_nil p _ w hh).mono ?_
 rintro e w' ⟨rfl, rfl⟩
 have hbel : RowKit.Below w.heap.size w w.drew := RowKit.Below.drew (RowKit.Below.refl _ w)
 have hb' : ∀ b, b < w.heap.size → w.drew.heap[b]? = w.heap[b]? := fun _ _ => rfl
 exact ⟨_, rfl, .v (.string ⟨#[]⟩), h, G, ⟨rfl, rfl⟩, GLe.refl _, Fr.below (Fr.refl _ _ _) hb' hbel.os hbel.tape hbel.output hbel.size, hs.below hb', .v _ rfl⟩
def eightT : List (List Tok) := [[[97], [97], [97]], [[98], [98]], [[105]], [[99], [99], [99], [99]], [[97], [98], [99], [100], [101], [102], [103], [104], [105]], [[195, 169], [105]], [[255]], [[97]]]
def sixT : List (List Tok) := [[[32]], [[32]], [[32]], [[32], [32]], [[10]], [[32], [10]]]
theorem eightT_ok : ∀ x ∈ eightT, (∀ t ∈ x, t ∈ toks) ∧ 1 ≤ x.length ∧ x.length ≤ 9 := by decide
theorem sixT_ok : ∀ x ∈ sixT, (∀ t ∈ x, t ∈ toks) ∧ 1 ≤ x.length ∧ x.length ≤ 2 := by decide
def bsT (x : List Tok) : ByteArray := bsOf x.flatten
theorem flat_ge (ts : List Tok) (hts : ∀ t ∈ ts, t ∈ toks) : ts.length ≤ ts.flatten.length := by
 induction ts with
 | nil => simp
 | cons t ts ih =>
  have := toks_pos t (hts t (by simp))
  have := ih fun x hx => hts x (by simp [hx])
  simp only [List.flatten_cons, List.length_append, List.length_cons]
  omega
theorem g_wording (i : Nat) (l : List Int) (a : Int) (h : Hp) (hl : SOk l) (ha : 0 ≤ a ∧ a ≤ 1000000) :
  ACalls Tryz.prog 8 [.ptr i 0] (h.st i l a) (fun r h' => ∃ (ts : List Tok) (a' : Int), r = .v (.string (bsOf ts.flatten)) ∧ (∀ t ∈ ts, t ∈ toks) ∧ ts.length ≤ 200 ∧ (a ≤ a' ∧ a' ≤ a + 30) ∧ h' = h.st i l a') := by
 have hsw := fun a h ha => g_some i l a (eightT.map bsT) none h hl ha (by decide)
 have hsg := fun a h ha => g_some i l a (sixT.map bsT) none h hl ha (by decide)
 have e1 : (eightT.map bsT).map encS = [[.v (.string ⟨#[97, 97, 97]⟩)], [.v (.string ⟨#[98, 98]⟩)], [.v (.string ⟨#[105]⟩)], [.v (.string ⟨#[99, 99, 99, 99]⟩)], [.v (.string ⟨#[97, 98, 99, 100, 101, 102, 103, 104, 105]⟩)], [.v (.string ⟨#[195, 169, 105]⟩)], [.v (.string ⟨#[255]⟩)], [.v (.string ⟨#[97]⟩)]] := rfl
 have e2 : (sixT.map bsT).map encS = [[.v (.string ⟨#[32]⟩)], [.v (.string ⟨#[32]⟩)], [.v (.string ⟨#[32]⟩)], [.v (.string ⟨#[32, 32]⟩)], [.v (.string ⟨#[10]⟩)], [.v (.string ⟨#[32, 10]⟩)]] := rfl
 rw [e1] at hsw
 rw [e2] at hsg
 refine gE Tryz.func8 rfl (by kernel_rfl) 17 rfl fun c => ?_
 (first | refine gO rfl ?_ | (refine gM zM32 fun K1 hK1 => ?_; simp only [go_sem, ↓reduceIte, reduceCtorEq, nA, nB, nC, nD, nE, nF] <;> and_intros <;> first | (apply hK1; clear hK1 K1) | (intros; first | omega | decide | (simp_all <;> omega)) | skip)); (first | refine gO rfl ?_ | (refine gM zM32 fun K1 hK1 => ?_; simp only [go_sem, ↓reduceIte, reduceCtorEq, nA, nB, nC, nD, nE, nF] <;> and_intros <;> first | (apply hK1; clear hK1 K1) | (intros; first | omega | decide | (simp_all <;> omega)) | skip))
 refine awp_seq (awp_allocT tyok rfl rfl ty74 (fun b hb => ?_))
 replace hb : (h.st i l a).H b = none := hb
 have hbi : b ≠ i := by rintro rfl; rw [st_at] at hb; cases hb
 have hb0 : h.H b = none := by rw [← hb]; exact (upd_other _ _ hbi).symm
 refine (?_ : Awp _ c _ _ ⟨((.ptr i 0) :: AV.junk :: ((.v (.string ⟨#[]⟩)) :: (.ptr b 0) :: (jnk 14 []))), [], ⟨upd (h.st i l a).H b (some (.obj 74 [.v (.pointer none), .v (.slice none 0 0)])), h.T⟩⟩)
 rw [st_updH hbi]
 (repeat (first | refine gO rfl ?_ | (refine gM zM32 fun K1 hK1 => ?_; simp only [go_sem, ↓reduceIte, reduceCtorEq, nA, nB, nC, nD, nE, nF] <;> and_intros <;> first | (apply hK1; clear hK1 K1) | (intros; first | omega | decide | (simp_all <;> omega)) | skip)))
 refine (g_next i l a 12 _ hl (by omega) (by omega)).mono ?_
 rintro _ h9 ⟨x, hx, rfl, rfl⟩
 apply hK1; clear hK1 K1
 (repeat (first | refine gO rfl ?_ | (refine gM zM32 fun K1 hK1 => ?_; simp only [go_sem, ↓reduceIte, reduceCtorEq, nA, nB, nC, nD, nE, nF] <;> and_intros <;> first | (apply hK1; clear hK1 K1) | (intros; first | omega | decide | (simp_all <;> omega)) | skip)))
 by_cases hx0 : x = 0
 ·subst hx0
  refine awp_loopC (rl false [0, 1, 2, 1, 1, 2, 11]) 0 (fun g s => s = ⟨((.ptr i 0) :: AV.junk :: AV.junk :: ((.ptr b 0) :: AV.junk :: ((.v (.int .i64 0)) :: (.v (.int .i64 0)) :: (jnk 11 [])))), [], Hp.st ⟨upd h.H b (some (.obj 74 [.v (.pointer none), .v (.slice none 0 0)])), h.T⟩ i l (a + 1)⟩) 0 rfl ?_
  rintro g _ rfl
  (repeat (first | refine gO rfl ?_ | (refine gM zM32 fun K1 hK1 => ?_; simp only [go_sem, ↓reduceIte, reduceCtorEq, nA, nB, nC, nD, nE, nF] <;> and_intros <;> first | (apply hK1; clear hK1 K1) | (intros; first | omega | decide | (simp_all <;> omega)) | skip)))
  refine awp_cond (t := _) rfl (fun h5 => by cases h5) (fun h5 => ?_)
  (repeat (first | refine gO rfl ?_ | (refine gM zM32 fun K1 hK1 => ?_; simp only [go_sem, ↓reduceIte, reduceCtorEq, nA, nB, nC, nD, nE, nF] <;> and_intros <;> first | (apply hK1; clear hK1 K1) | (intros; first | omega | decide | (simp_all <;> omega)) | skip)))
  refine (g_bString0 b _ ((upd_other _ _ hbi).trans (upd_same _ _ _))).mono ?_
  rintro _ h9 ⟨rfl, rfl⟩
  apply hK1; clear hK1 K1
  (repeat (first | refine gO rfl ?_ | (refine gM zM32 fun K1 hK1 => ?_; simp only [go_sem, ↓reduceIte, reduceCtorEq, nA, nB, nC, nD, nE, nF] <;> and_intros <;> first | (apply hK1; clear hK1 K1) | (intros; first | omega | decide | (simp_all <;> omega)) | skip)))
  simp only [Tryz.results8, go_sem, ↓reduceIte, reduceCtorEq, nA, nB, nC, nD, nE, nF]
  refine ⟨_, h.st i l (a + 1), Weak.refl _, ⟨fun q => ?_, fun q => ?_⟩, [], a + 1, rfl, by simp, by simp, by omega, rfl⟩
  ·by_cases e : q = b
   ·left; subst e; exact (upd_other _ _ hbi).trans hb0
   ·right
    show upd h.H i _ q = upd (upd h.H b _) i _ q
    by_cases e2 : q = i
    ·subst e2; rw [upd_same, upd_same]
    ·rw [upd_other _ _ e2, upd_other _ _ e2, upd_other _ _ e]
  ·right; rfl
 ·obtain ⟨many, hm⟩ : ∃ m : Nat, x = (m : Int) := ⟨x.toNat, by omega⟩
  subst hm
  rw [← st_updH hbi]
  refine awp_ownBuf b 1 74 5 (cs := [.v (.pointer none), .v (.slice none 0 0)]) (upd_same _ _ _) rfl (fun k hk => ?_)
  replace hk : h.T k = none := hk
  simp only [upd_upd]
  refine awp_loopC (rl false [0, 1, 2, 1, 1, 2, 11]) 0 (fun g s => ∃ (j : Nat) (X : AV) (ts : List Tok), g + j = many ∧ (X = .v (.pointer none) ∨ X = .ptr b 0) ∧ (∀ t ∈ ts, t ∈ toks) ∧ (j ≤ ts.length ∧ ts.length ≤ 11 * j) ∧
   s = ⟨((.ptr i 0) :: AV.junk :: AV.junk :: ((.ptr b 0) :: AV.junk :: ((.v (.int .i64 many)) :: (.v (.int .i64 j)) :: (jnk 11 [])))), [], Hp.st ⟨upd h.H b (some (.obj 74 [X, .arr 1 k ts.flatten.length])), upd h.T k (some (.buf 5 (rowB ts.flatten)))⟩ i l (a + 1 + 2 * j)⟩) many ⟨0, _, [], by omega, .inl rfl, by simp, by simp, ?_⟩ ?_
  ·rw [← st_upd hbi, show a + 1 + 2 * ((0 : Nat) : Int) = a + 1 by omega]; rfl
  rintro g _ ⟨j, X, ts, hj, hX, htt, hbd, rfl⟩
  have hf1 := flat_ge ts htt
  have hf2 := flat_le2 ts htt
  (repeat (first | refine gO rfl ?_ | (refine gM zM32 fun K1 hK1 => ?_; simp only [go_sem, ↓reduceIte, reduceCtorEq, nA, nB, nC, nD, nE, nF] <;> and_intros <;> first | (apply hK1; clear hK1 K1) | (intros; first | omega | decide | (simp_all <;> omega)) | skip)))
  refine awp_cond (t := _) rfl (fun h5 => ?_) (fun h5 => ?_)
  ·simp only [decide_eq_true_eq] at h5
   (repeat (first | refine gO rfl ?_ | (refine gM zM32 fun K1 hK1 => ?_; simp only [go_sem, ↓reduceIte, reduceCtorEq, nA, nB, nC, nD, nE, nF] <;> and_intros <;> first | (apply hK1; clear hK1 K1) | (intros; first | omega | decide | (simp_all <;> omega)) | skip)))
   refine (hsw (a + 1 + 2 * j) _ (by omega)).mono ?_
   rintro _ h9 ⟨x, hx, rfl, rfl⟩
   obtain ⟨w, hw, rfl⟩ := List.mem_map.1 hx
   obtain ⟨w1, w2, w3⟩ := eightT_ok w hw
   apply hK1; clear hK1 K1
   (repeat (first | refine gO rfl ?_ | (refine gM zM32 fun K1 hK1 => ?_; simp only [go_sem, ↓reduceIte, reduceCtorEq, nA, nB, nC, nD, nE, nF] <;> and_intros <;> first | (apply hK1; clear hK1 K1) | (intros; first | omega | decide | (simp_all <;> omega)) | skip)))
   refine (hsg (a + 1 + 2 * j + 1) _ (by omega)).mono ?_
   rintro _ h9 ⟨y, hy, rfl, rfl⟩
   obtain ⟨v, hv, rfl⟩ := List.mem_map.1 hy
   obtain ⟨v1, v2, v3⟩ := sixT_ok v hv
   apply hK1; clear hK1 K1
   have hs1 : (bsT w).size ≤ 18 := by
    have := flat_le2 w w1
    show w.flatten.length ≤ 18
    omega
   have hs2 : (bsT v).size ≤ 4 := by
    have := flat_le2 v v1
    show v.flatten.length ≤ 4
    omega
   have hcat : bsT w ++ bsT v = bsT (w ++ v) := by unfold bsT; rw [bsOf_append, List.flatten_append]
   (repeat (first | refine gO rfl ?_ | (refine gM zM32 fun K1 hK1 => ?_; simp only [go_sem, ↓reduceIte, reduceCtorEq, nA, nB, nC, nD, nE, nF, hcat] <;> and_intros <;> first | (apply hK1; clear hK1 K1) | (intros; first | omega | decide | (simp_all <;> omega)) | skip)))
   have hd : (bsT (w ++ v)).data.toList = (w ++ v).flatten := rfl
   have hs3 : (bsT (w ++ v)).size = (w ++ v).flatten.length := size_bs _
   have hwv : ∀ t ∈ w ++ v, t ∈ toks := fun t ht => (List.mem_append.1 ht).elim (w1 t) (v1 t)
   have hs4 : (w ++ v).flatten.length ≤ 22 := by
    have := flat_le2 (w ++ v) hwv
    rw [List.length_append] at this
    omega
   refine (g_writeString b k ts.flatten.length X (bsT (w ++ v)) ts.flatten _ ((upd_other _ _ hbi).trans (upd_same _ _ _)) hX (upd_same _ _ _) rfl (by omega)).mono ?_
   rintro _ h9 ⟨rfl, rfl⟩
   apply hK1; clear hK1 K1
   (repeat (first | refine gO rfl ?_ | (refine gM zM32 fun K1 hK1 => ?_; simp only [go_sem, ↓reduceIte, reduceCtorEq, nA, nB, nC, nD, nE, nF] <;> and_intros <;> first | (apply hK1; clear hK1 K1) | (intros; first | omega | decide | (simp_all <;> omega)) | skip)))
   refine ⟨g - 1, by omega, j + 1, _, ts ++ (w ++ v), by omega, .inr rfl, ?_, ?_, ?_⟩
   ·intro t ht
    rcases List.mem_append.1 ht with h | h
    ·exact htt t h
    ·exact hwv t h
   ·simp only [List.length_append]; omega
   ·have hlx : (ts ++ (w ++ v)).flatten = ts.flatten ++ (w ++ v).flatten := List.flatten_append
    rw [hlx, List.length_append, st_upd hbi, hd, hs3]
    simp only [upd_upd]
    rw [show a + 1 + 2 * ((j + 1 : Nat) : Int) = a + 1 + 2 * j + 1 + 1 by omega]; rfl
  ·simp only [decide_eq_false_iff_not] at h5
   obtain rfl : j = many := by omega
   (repeat (first | refine gO rfl ?_ | (refine gM zM32 fun K1 hK1 => ?_; simp only [go_sem, ↓reduceIte, reduceCtorEq, nA, nB, nC, nD, nE, nF] <;> and_intros <;> first | (apply hK1; clear hK1 K1) | (intros; first | omega | decide | (simp_all <;> omega)) | skip)))
   refine (g_bString b k X ts.flatten _ ((upd_other _ _ hbi).trans (upd_same _ _ _)) (upd_same _ _ _) (by intro e; have := congrArg List.length e; simp only [List.length_nil] at this; omega)).mono ?_
   rintro _ h9 ⟨rfl, rfl⟩
   apply hK1; clear hK1 K1
   (repeat (first | refine gO rfl ?_ | (refine gM zM32 fun K1 hK1 => ?_; simp only [go_sem, ↓reduceIte, reduceCtorEq, nA, nB, nC, nD, nE, nF] <;> and_intros <;> first | (apply hK1; clear hK1 K1) | (intros; first | omega | decide | (simp_all <;> omega)) | skip)))
   simp only [Tryz.results8, go_sem, ↓reduceIte, reduceCtorEq, nA, nB, nC, nD, nE, nF]
   refine ⟨_, h.st i l (a + 1 + 2 * j), Weak.refl _, ⟨fun q => ?_, fun q => ?_⟩, ts, _, rfl, htt, by omega, ?_, rfl⟩
   ·by_cases e : q = b
    ·left; subst e; exact (upd_other _ _ hbi).trans hb0
    ·right
     show upd h.H i _ q = upd (upd (upd h.H b _) i _) b none q
     rw [upd_other _ _ e]
     by_cases e2 : q = i
     ·subst e2; rw [upd_same, upd_same]
     ·rw [upd_other _ _ e2, upd_other _ _ e2, upd_other _ _ e]
   ·by_cases e : q = k
    ·left; rw [e]; exact hk
    ·right; show _ = upd (upd _ _ _) _ _ _; rw [upd_other _ _ e, upd_other _ _ e]; rfl
   ·omega
theorem g_clW0 (h : Hp) : ACalls Tryz.prog 39 [.v (.slice none 0 0)] h (fun r h' => r = .v (.slice none 0 0) ∧ h' = h) := by
 refine gE Tryz.func39 rfl (by kernel_rfl) 7 rfl fun c => ?_
 (repeat (first | refine gO rfl ?_ | (refine gM zM33 fun K1 hK1 => ?_; simp only [go_sem, ↓reduceIte, reduceCtorEq, nA, nB, nC, nD, nE, nF] <;> and_intros <;> first | (apply hK1; clear hK1 K1) | (intros; first | omega | decide | (simp_all <;> omega)) | skip)))
 refine awp_cond (t := _) rfl (fun _ => ?_) (fun h1 => by cases h1)
 (repeat (first | refine gO rfl ?_ | (refine gM zM33 fun K1 hK1 => ?_; simp only [go_sem, ↓reduceIte, reduceCtorEq, nA, nB, nC, nD, nE, nF] <;> and_intros <;> first | (apply hK1; clear hK1 K1) | (intros; first | omega | decide | (simp_all <;> omega)) | skip)))
 simp only [Tryz.results39, go_sem, ↓reduceIte, reduceCtorEq, nA, nB, nC, nD, nE, nF]
 exact ⟨_, _, Weak.refl _, Hp.le.refl _, rfl, rfl⟩
theorem g_clW (x : List AV) (xs : List (List AV)) (k : Option Nat) (h : Hp) (hb : xs.length ≤ 1000) : ACalls Tryz.prog 39 [.row 3 (x :: xs) k] h (fun r h' => ∃ q, h.T q = none ∧ r = .row 3 (x :: xs) (some q) ∧ h' = { h with T := upd h.T q (some (.tail (xs.length + 1))) }) := by
 refine gE Tryz.func39 rfl (by kernel_rfl) 7 rfl fun c => ?_
 (repeat (first | refine gO rfl ?_ | (refine gM zM33 fun K1 hK1 => ?_; simp only [go_sem, ↓reduceIte, reduceCtorEq, nA, nB, nC, nD, nE, nF] <;> and_intros <;> first | (apply hK1; clear hK1 K1) | (intros; first | omega | decide | (simp_all <;> omega)) | skip)))
 refine awp_cond (t := _) rfl (fun h1 => by cases h1) (fun _ => ?_)
 (repeat (first | refine gO rfl ?_ | (refine gM zM33 fun K1 hK1 => ?_; simp only [go_sem, ↓reduceIte, reduceCtorEq, nA, nB, nC, nD, nE, nF] <;> and_intros <;> first | (apply hK1; clear hK1 K1) | (intros; first | omega | decide | (simp_all <;> omega)) | skip)))
 intro q hq
 and_intros <;> first | (refine hK1 _ ?_; clear hK1 K1) | exact .inl trivial | exact .inr rfl | exact .inr True.intro | exact True.intro | omega
 (repeat (first | refine gO rfl ?_ | (refine gM zM33 fun K1 hK1 => ?_; simp only [go_sem, ↓reduceIte, reduceCtorEq, nA, nB, nC, nD, nE, nF] <;> and_intros <;> first | (apply hK1; clear hK1 K1) | (intros; first | omega | decide | (simp_all <;> omega)) | skip)))
 simp only [Tryz.results39, go_sem, ↓reduceIte, reduceCtorEq, nA, nB, nC, nD, nE, nF]
 exact ⟨_, _, Weak.refl _, Hp.le.refl _, q, hq, rfl, rfl⟩
theorem WL.of4 {a b c d a' b' c' d' : AV} (h1 : Weak a a') (h2 : Weak b b') (h3 : Weak c c') (h4 : Weak d d') : WL [a, b, c, d] [a', b', c', d'] := WL.cons h1 (WL.cons h2 (WL.cons h3 (WL.cons h4 WL.nil)))
theorem weak_fo (key : ByteArray) (hi ot : Int) (ws : List Wd) (kk : Option Nat) : Weak (.agg [.v (.string key), .v (.int .i64 hi), .v (.int .i64 ot), .row 3 (ws.map encW) kk]) (encFo ⟨key, hi, ot, ws⟩ none) :=
 Weak.agg (WL.of4 (Weak.refl _) (Weak.refl _) (Weak.refl _) (Weak.row _ _ _))
theorem weak_fo0 (key : ByteArray) (hi ot : Int) : Weak (.agg [.v (.string key), .v (.int .i64 hi), .v (.int .i64 ot), .v (.slice none 0 0)]) (encFo ⟨key, hi, ot, []⟩ none) :=
 Weak.agg (WL.of4 (Weak.refl _) (Weak.refl _) (Weak.refl _) (Weak.nil _ _ _ ⟨rfl, rfl⟩))
theorem le_tok {h : Hp} {i q : Nat} {l : List Int} {a : Int} {o : Option TO} (hq : h.T q = none) : Hp.le (h.st i l a) ⟨(h.st i l a).H, upd (h.st i l a).T q o⟩ := ⟨fun _ => .inr rfl, fun j => by
 by_cases e : j = q
 ·left; rw [e]; exact hq
 ·right; exact (upd_other _ _ e).symm⟩
theorem two_len (k : ByteArray) : 1 ≤ [k, (⟨#[]⟩ : ByteArray)].length ∧ [k, (⟨#[]⟩ : ByteArray)].length ≤ 100 := ⟨by simp, by simp⟩
theorem two_mem {k x : ByteArray} (h : x ∈ [k, (⟨#[]⟩ : ByteArray)]) : x = k ∨ x = ⟨#[]⟩ := by simpa using h
theorem g_font (i : Nat) (l : List Int) (a : Int) (key : ByteArray) (h : Hp) (hl : SOk l) (ha : 0 ≤ a ∧ a ≤ 1000000) :
  ACalls Tryz.prog 7 [.ptr i 0, .v (.string key)] (h.st i l a) (fun r h' => ∃ (f : Fo) (a' : Int), r = encFo f none ∧ (f.key = key ∨ f.key = ⟨#[]⟩) ∧ f.ws.length ≤ 4 ∧ (a ≤ a' ∧ a' ≤ a + 30) ∧ h' = h.st i l a') := by
 refine gE Tryz.func7 rfl (by kernel_rfl) 57 rfl fun c => ?_
 (repeat (first | refine gO rfl ?_ | (refine gM zM34 fun K1 hK1 => ?_; simp only [go_sem, ↓reduceIte, reduceCtorEq, nA, nB, nC, nD, nE, nF] <;> and_intros <;> first | (apply hK1; clear hK1 K1) | (intros; first | omega | decide | (simp_all <;> omega)) | skip)))
 refine (g_pick i l a [1, 8, 10, 16] none h hl (by omega) (by decide)).mono ?_
 rintro _ h9 ⟨hi, _, rfl, rfl⟩
 apply hK1; clear hK1 K1
 (repeat (first | refine gO rfl ?_ | (refine gM zM34 fun K1 hK1 => ?_; simp only [go_sem, ↓reduceIte, reduceCtorEq, nA, nB, nC, nD, nE, nF] <;> and_intros <;> first | (apply hK1; clear hK1 K1) | (intros; first | omega | decide | (simp_all <;> omega)) | skip)))
 refine (g_pick i l (a + 1) [0, 1, 1, 2] none h hl (by omega) (by decide)).mono ?_
 rintro _ h9 ⟨ot, _, rfl, rfl⟩
 apply hK1; clear hK1 K1
 (repeat (first | refine gO rfl ?_ | (refine gM zM34 fun K1 hK1 => ?_; simp only [go_sem, ↓reduceIte, reduceCtorEq, nA, nB, nC, nD, nE, nF] <;> and_intros <;> first | (apply hK1; clear hK1 K1) | (intros; first | omega | decide | (simp_all <;> omega)) | skip)))
 refine (g_flip i l (a + 1 + 1) 2 h hl (by omega) (by omega)).mono ?_
 rintro _ h9 ⟨b, rfl, rfl⟩
 apply hK1; clear hK1 K1
 (repeat (first | refine gO rfl ?_ | (refine gM zM34 fun K1 hK1 => ?_; simp only [go_sem, ↓reduceIte, reduceCtorEq, nA, nB, nC, nD, nE, nF] <;> and_intros <;> first | (apply hK1; clear hK1 K1) | (intros; first | omega | decide | (simp_all <;> omega)) | skip)))
 refine awp_cond (t := _) rfl (fun hb => ?_) (fun hb => ?_)
 ·(repeat (first | refine gO rfl ?_ | (refine gM zM34 fun K1 hK1 => ?_; simp only [go_sem, ↓reduceIte, reduceCtorEq, nA, nB, nC, nD, nE, nF] <;> and_intros <;> first | (apply hK1; clear hK1 K1) | (intros; first | omega | decide | (simp_all <;> omega)) | skip)))
  refine (g_pick i l (a + 1 + 1 + 1) [0, 1, 1] none _ hl (by omega) (by decide)).mono ?_
  rintro _ h9 ⟨x1, _, rfl, rfl⟩
  apply hK1; clear hK1 K1
  (repeat (first | refine gO rfl ?_ | (refine gM zM34 fun K1 hK1 => ?_; simp only [go_sem, ↓reduceIte, reduceCtorEq, nA, nB, nC, nD, nE, nF] <;> and_intros <;> first | (apply hK1; clear hK1 K1) | (intros; first | omega | decide | (simp_all <;> omega)) | skip)))
  refine (g_pick i l (a + 1 + 1 + 1 + 1) [1, 2] none _ hl (by omega) (by decide)).mono ?_
  rintro _ h9 ⟨x2, _, rfl, rfl⟩
  apply hK1; clear hK1 K1
  (repeat (first | refine gO rfl ?_ | (refine gM zM34 fun K1 hK1 => ?_; simp only [go_sem, ↓reduceIte, reduceCtorEq, nA, nB, nC, nD, nE, nF] <;> and_intros <;> first | (apply hK1; clear hK1 K1) | (intros; first | omega | decide | (simp_all <;> omega)) | skip)))
  refine (g_pick i l (a + 1 + 1 + 1 + 1 + 1) [0, 1, 3] none _ hl (by omega) (by decide)).mono ?_
  rintro _ h9 ⟨x3, _, rfl, rfl⟩
  apply hK1; clear hK1 K1
  (repeat (first | refine gO rfl ?_ | (refine gM zM34 fun K1 hK1 => ?_; simp only [go_sem, ↓reduceIte, reduceCtorEq, nA, nB, nC, nD, nE, nF] <;> and_intros <;> first | (apply hK1; clear hK1 K1) | (intros; first | omega | decide | (simp_all <;> omega)) | skip)))
  refine (g_flip i l (a + 1 + 1 + 1 + 1 + 1 + 1) 15 _ hl (by omega) (by omega)).mono ?_
  rintro _ h9 ⟨b2, rfl, rfl⟩
  apply hK1; clear hK1 K1
  (repeat (first | refine gO rfl ?_ | (refine gM zM34 fun K1 hK1 => ?_; simp only [go_sem, ↓reduceIte, reduceCtorEq, nA, nB, nC, nD, nE, nF] <;> and_intros <;> first | (apply hK1; clear hK1 K1) | (intros; first | omega | decide | (simp_all <;> omega)) | skip)))
  refine awp_cond (t := _) rfl (fun hb2 => ?_) (fun hb2 => ?_)
  ·(repeat (first | refine gO rfl ?_ | (refine gM zM34 fun K1 hK1 => ?_; simp only [go_sem, ↓reduceIte, reduceCtorEq, nA, nB, nC, nD, nE, nF] <;> and_intros <;> first | (apply hK1; clear hK1 K1) | (intros; first | omega | decide | (simp_all <;> omega)) | skip)))
   refine (g_some i l (a + 1 + 1 + 1 + 1 + 1 + 1 + 1) [key, ⟨#[]⟩] none _ hl (by omega) (two_len key)).mono ?_
   rintro _ h9 ⟨key2, hk2, rfl, rfl⟩
   apply hK1; clear hK1 K1
   (repeat (first | refine gO rfl ?_ | (refine gM zM34 fun K1 hK1 => ?_; simp only [go_sem, ↓reduceIte, reduceCtorEq, nA, nB, nC, nD, nE, nF] <;> and_intros <;> first | (apply hK1; clear hK1 K1) | (intros; first | omega | decide | (simp_all <;> omega)) | skip)))
   refine (g_odd i l (a + 1 + 1 + 1 + 1 + 1 + 1 + 1 + 1) 1 1000 _ hl (by omega) (by omega) (by omega) (by omega)).mono ?_
   rintro _ h9 ⟨hi2, p1, hhi2, hp1, rfl, rfl⟩
   apply hK1; clear hK1 K1
   (repeat (first | refine gO rfl ?_ | (refine gM zM34 fun K1 hK1 => ?_; simp only [go_sem, ↓reduceIte, reduceCtorEq, nA, nB, nC, nD, nE, nF] <;> and_intros <;> first | (apply hK1; clear hK1 K1) | (intros; first | omega | decide | (simp_all <;> omega)) | skip)))
   refine (g_odd i l (p1) 0 1000 _ hl (by omega) (by omega) (by omega) (by omega)).mono ?_
   rintro _ h9 ⟨ot2, p2, hot2, hp2, rfl, rfl⟩
   apply hK1; clear hK1 K1
   (repeat (first | refine gO rfl ?_ | (refine gM zM34 fun K1 hK1 => ?_; simp only [go_sem, ↓reduceIte, reduceCtorEq, nA, nB, nC, nD, nE, nF] <;> and_intros <;> first | (apply hK1; clear hK1 K1) | (intros; first | omega | decide | (simp_all <;> omega)) | skip)))
   refine (g_clW _ _ none _ (by simp)).mono ?_
   rintro _ h9 ⟨q, hq, rfl, rfl⟩
   replace hq : h.T q = none := hq
   apply hK1; clear hK1 K1
   (repeat (first | refine gO rfl ?_ | (refine gM zM34 fun K1 hK1 => ?_; simp only [go_sem, ↓reduceIte, reduceCtorEq, nA, nB, nC, nD, nE, nF] <;> and_intros <;> first | (apply hK1; clear hK1 K1) | (intros; first | omega | decide | (simp_all <;> omega)) | skip)))
   refine (g_pick i l (p2) [106, 97, -1] none ⟨h.H, upd h.T q (some (.tail 3))⟩ hl (by omega) (by decide)).mono ?_
   rintro _ h9 ⟨y1, _, rfl, rfl⟩
   apply hK1; clear hK1 K1
   (repeat (first | refine gO rfl ?_ | (refine gM zM34 fun K1 hK1 => ?_; simp only [go_sem, ↓reduceIte, reduceCtorEq, nA, nB, nC, nD, nE, nF] <;> and_intros <;> first | (apply hK1; clear hK1 K1) | (intros; first | omega | decide | (simp_all <;> omega)) | skip)))
   refine (g_pick i l (p2 + 1) [106, 122, 1114112] none ⟨h.H, upd h.T q (some (.tail 3))⟩ hl (by omega) (by decide)).mono ?_
   rintro _ h9 ⟨y2, _, rfl, rfl⟩
   apply hK1; clear hK1 K1
   (repeat (first | refine gO rfl ?_ | (refine gM zM34 fun K1 hK1 => ?_; simp only [go_sem, ↓reduceIte, reduceCtorEq, nA, nB, nC, nD, nE, nF] <;> and_intros <;> first | (apply hK1; clear hK1 K1) | (intros; first | omega | decide | (simp_all <;> omega)) | skip)))
   refine (g_odd i l (p2 + 1 + 1) 0 1000 ⟨h.H, upd h.T q (some (.tail 3))⟩ hl (by omega) (by omega) (by omega) (by omega)).mono ?_
   rintro _ h9 ⟨y3, p3, hy3, hp3, rfl, rfl⟩
   apply hK1; clear hK1 K1
   have hTq : (Hp.st ⟨h.H, upd h.T q (some (.tail 3))⟩ i l p3).T q = some (.tail 3) := upd_same _ _ _
   (repeat (first | refine gO rfl ?_ | (refine gM zM34 fun K1 hK1 => ?_; simp only [go_sem, ↓reduceIte, reduceCtorEq, nA, nB, nC, nD, nE, nF, hTq] <;> and_intros <;> first | (apply hK1; clear hK1 K1) | (intros; first | omega | decide | (simp_all <;> omega)) | skip)))
   simp only [Tryz.results7, go_sem, ↓reduceIte, reduceCtorEq, nA, nB, nC, nD, nE, nF]
   have hle : Hp.le (h.st i l p3) ⟨(Hp.st ⟨h.H, upd h.T q (some (.tail 3))⟩ i l p3).H, upd (upd h.T q (some (.tail 3))) q (some (.tail 4))⟩ := by
    rw [upd_upd]; exact le_tok hq
   exact ⟨_, h.st i l p3, weak_fo key2 hi2 ot2 [(32, 32, x1), (97, 102, x2), (105, 105, x3), (y1, y2, y3)] (some q), hle, ⟨key2, hi2, ot2, [(32, 32, x1), (97, 102, x2), (105, 105, x3), (y1, y2, y3)]⟩, p3, rfl, two_mem hk2, by simp, by omega, rfl⟩
  ·(repeat (first | refine gO rfl ?_ | (refine gM zM34 fun K1 hK1 => ?_; simp only [go_sem, ↓reduceIte, reduceCtorEq, nA, nB, nC, nD, nE, nF] <;> and_intros <;> first | (apply hK1; clear hK1 K1) | (intros; first | omega | decide | (simp_all <;> omega)) | skip)))
   simp only [Tryz.results7, go_sem, ↓reduceIte, reduceCtorEq, nA, nB, nC, nD, nE, nF]
   exact ⟨_, _, weak_fo key hi ot [(32, 32, x1), (97, 102, x2), (105, 105, x3)] none, Hp.le.refl _, ⟨key, hi, ot, [(32, 32, x1), (97, 102, x2), (105, 105, x3)]⟩, _, rfl, .inl rfl, by simp, by omega, rfl⟩
 ·(repeat (first | refine gO rfl ?_ | (refine gM zM34 fun K1 hK1 => ?_; simp only [go_sem, ↓reduceIte, reduceCtorEq, nA, nB, nC, nD, nE, nF] <;> and_intros <;> first | (apply hK1; clear hK1 K1) | (intros; first | omega | decide | (simp_all <;> omega)) | skip)))
  refine (g_flip i l (a + 1 + 1 + 1) 15 _ hl (by omega) (by omega)).mono ?_
  rintro _ h9 ⟨b2, rfl, rfl⟩
  apply hK1; clear hK1 K1
  (repeat (first | refine gO rfl ?_ | (refine gM zM34 fun K1 hK1 => ?_; simp only [go_sem, ↓reduceIte, reduceCtorEq, nA, nB, nC, nD, nE, nF] <;> and_intros <;> first | (apply hK1; clear hK1 K1) | (intros; first | omega | decide | (simp_all <;> omega)) | skip)))
  refine awp_cond (t := _) rfl (fun hb2 => ?_) (fun hb2 => ?_)
  ·(repeat (first | refine gO rfl ?_ | (refine gM zM34 fun K1 hK1 => ?_; simp only [go_sem, ↓reduceIte, reduceCtorEq, nA, nB, nC, nD, nE, nF] <;> and_intros <;> first | (apply hK1; clear hK1 K1) | (intros; first | omega | decide | (simp_all <;> omega)) | skip)))
   refine (g_some i l (a + 1 + 1 + 1 + 1) [key, ⟨#[]⟩] none _ hl (by omega) (two_len key)).mono ?_
   rintro _ h9 ⟨key2, hk2, rfl, rfl⟩
   apply hK1; clear hK1 K1
   (repeat (first | refine gO rfl ?_ | (refine gM zM34 fun K1 hK1 => ?_; simp only [go_sem, ↓reduceIte, reduceCtorEq, nA, nB, nC, nD, nE, nF] <;> and_intros <;> first | (apply hK1; clear hK1 K1) | (intros; first | omega | decide | (simp_all <;> omega)) | skip)))
   refine (g_odd i l (a + 1 + 1 + 1 + 1 + 1) 1 1000 _ hl (by omega) (by omega) (by omega) (by omega)).mono ?_
   rintro _ h9 ⟨hi2, p1, hhi2, hp1, rfl, rfl⟩
   apply hK1; clear hK1 K1
   (repeat (first | refine gO rfl ?_ | (refine gM zM34 fun K1 hK1 => ?_; simp only [go_sem, ↓reduceIte, reduceCtorEq, nA, nB, nC, nD, nE, nF] <;> and_intros <;> first | (apply hK1; clear hK1 K1) | (intros; first | omega | decide | (simp_all <;> omega)) | skip)))
   refine (g_odd i l (p1) 0 1000 _ hl (by omega) (by omega) (by omega) (by omega)).mono ?_
   rintro _ h9 ⟨ot2, p2, hot2, hp2, rfl, rfl⟩
   apply hK1; clear hK1 K1
   (repeat (first | refine gO rfl ?_ | (refine gM zM34 fun K1 hK1 => ?_; simp only [go_sem, ↓reduceIte, reduceCtorEq, nA, nB, nC, nD, nE, nF] <;> and_intros <;> first | (apply hK1; clear hK1 K1) | (intros; first | omega | decide | (simp_all <;> omega)) | skip)))
   refine (g_clW0 _).mono ?_
   rintro _ h9 ⟨rfl, rfl⟩
   apply hK1; clear hK1 K1
   (repeat (first | refine gO rfl ?_ | (refine gM zM34 fun K1 hK1 => ?_; simp only [go_sem, ↓reduceIte, reduceCtorEq, nA, nB, nC, nD, nE, nF] <;> and_intros <;> first | (apply hK1; clear hK1 K1) | (intros; first | omega | decide | (simp_all <;> omega)) | skip)))
   refine (g_pick i l (p2) [106, 97, -1] none _ hl (by omega) (by decide)).mono ?_
   rintro _ h9 ⟨y1, _, rfl, rfl⟩
   apply hK1; clear hK1 K1
   (repeat (first | refine gO rfl ?_ | (refine gM zM34 fun K1 hK1 => ?_; simp only [go_sem, ↓reduceIte, reduceCtorEq, nA, nB, nC, nD, nE, nF] <;> and_intros <;> first | (apply hK1; clear hK1 K1) | (intros; first | omega | decide | (simp_all <;> omega)) | skip)))
   refine (g_pick i l (p2 + 1) [106, 122, 1114112] none _ hl (by omega) (by decide)).mono ?_
   rintro _ h9 ⟨y2, _, rfl, rfl⟩
   apply hK1; clear hK1 K1
   (repeat (first | refine gO rfl ?_ | (refine gM zM34 fun K1 hK1 => ?_; simp only [go_sem, ↓reduceIte, reduceCtorEq, nA, nB, nC, nD, nE, nF] <;> and_intros <;> first | (apply hK1; clear hK1 K1) | (intros; first | omega | decide | (simp_all <;> omega)) | skip)))
   refine (g_odd i l (p2 + 1 + 1) 0 1000 _ hl (by omega) (by omega) (by omega) (by omega)).mono ?_
   rintro _ h9 ⟨y3, p3, hy3, hp3, rfl, rfl⟩
   apply hK1; clear hK1 K1
   (repeat (first | refine gO rfl ?_ | (refine gM zM34 fun K1 hK1 => ?_; simp only [go_sem, ↓reduceIte, reduceCtorEq, nA, nB, nC, nD, nE, nF] <;> and_intros <;> first | (apply hK1; clear hK1 K1) | (intros; first | omega | decide | (simp_all <;> omega)) | skip)))
   intro q hq
   replace hq : h.T q = none := hq
   apply hK1; clear hK1 K1
   (repeat (first | refine gO rfl ?_ | (refine gM zM34 fun K1 hK1 => ?_; simp only [go_sem, ↓reduceIte, reduceCtorEq, nA, nB, nC, nD, nE, nF] <;> and_intros <;> first | (apply hK1; clear hK1 K1) | (intros; first | omega | decide | (simp_all <;> omega)) | skip)))
   simp only [Tryz.results7, go_sem, ↓reduceIte, reduceCtorEq, nA, nB, nC, nD, nE, nF]
   exact ⟨_, _, weak_fo key2 hi2 ot2 [(y1, y2, y3)] (some q), le_tok hq, ⟨key2, hi2, ot2, [(y1, y2, y3)]⟩, _, rfl, two_mem hk2, by simp, by omega, rfl⟩
  ·(repeat (first | refine gO rfl ?_ | (refine gM zM34 fun K1 hK1 => ?_; simp only [go_sem, ↓reduceIte, reduceCtorEq, nA, nB, nC, nD, nE, nF] <;> and_intros <;> first | (apply hK1; clear hK1 K1) | (intros; first | omega | decide | (simp_all <;> omega)) | skip)))
   simp only [Tryz.results7, go_sem, ↓reduceIte, reduceCtorEq, nA, nB, nC, nD, nE, nF]
   exact ⟨_, _, weak_fo0 key hi ot, Hp.le.refl _, ⟨key, hi, ot, []⟩, _, rfl, .inl rfl, by simp, by omega, rfl⟩
abbrev zP1EE : List Nat := [0, 1, 2, 3, 4, 5, 6, 7, 8]
abbrev zP1EP : List (Nat × List Nat × List Nat) := []
attribute [go_sem] zP1EE zP1EP
def orI : List Int → Int
 | [] => 0
 | x :: l => if x = 0 then orI l else x
theorem orI_at (l : List Int) (j : Nat) (h : j < l.length) (h0 : ∀ i, i < j → l.getD i 0 = 0) (hn : l.getD j 0 ≠ 0) : orI l = l.getD j 0 := by
 induction l generalizing j with
 | nil => simp at h
 | cons x l ih =>
  cases j with
  | zero => rw [orI, if_neg (by simpa using hn)]; rfl
  | succ j =>
   have hx := h0 0 (by omega)
   simp only [List.getD_cons_zero] at hx
   rw [orI, if_pos hx, List.getD_cons_succ]
   exact ih j (by simpa using h) (fun i hi => by simpa using h0 (i + 1) (by omega)) (by simpa using hn)
theorem orI_zero (l : List Int) (h : ∀ i, i < l.length → l.getD i 0 = 0) : orI l = 0 := by
 induction l with
 | nil => rfl
 | cons x l ih =>
  have hx := h 0 (by simp)
  simp only [List.getD_cons_zero] at hx
  rw [orI, if_pos hx]
  exact ih fun i hi => by simpa using h (i + 1) (by simpa using hi)
theorem g_orG (l : List Int) (h : Hp) (hl : l.length ≤ 1000) : ACalls Tryz.prog 16 [.row 1 (l.map encI) none] h (fun r h' => r = .v (.int .i64 (orI l)) ∧ h' = h) := by
 refine gE Tryz.func16 rfl (by kernel_rfl) 17 rfl fun c => ?_
 (repeat (first | refine gO rfl ?_ | (refine gR fun K1 hK1 => ?_; simp only [go_sem, ↓reduceIte, reduceCtorEq, nA, nB, nC, nD, nE, nF] <;> and_intros <;> first | (apply hK1; clear hK1 K1) | (intros; first | omega | decide | (simp_all <;> omega)) | skip)))
 refine awp_loopC (rl false [3, 1, 2, 3, 9]) 0 (fun g s => ∃ j : Nat, g + j = l.length ∧ (∀ i, i < j → l.getD i 0 = 0) ∧
  s = ⟨((jnk 3 ((.v (.int .i64 0)) :: AV.junk :: AV.junk :: ((.row 1 (l.map encI) none) :: (.v (.int .i64 l.length)) :: (.v (.int .i64 j)) :: (jnk 9 []))))), [], h⟩) l.length ⟨0, by omega, by omega, rfl⟩ ?_
 rintro g _ ⟨j, hj, h0, rfl⟩
 (repeat (first | refine gO rfl ?_ | (refine gR fun K1 hK1 => ?_; simp only [go_sem, ↓reduceIte, reduceCtorEq, nA, nB, nC, nD, nE, nF] <;> and_intros <;> first | (apply hK1; clear hK1 K1) | (intros; first | omega | decide | (simp_all <;> omega)) | skip)))
 refine awp_cond (t := _) rfl (fun h3 => ?_) (fun h3 => ?_)
 ·simp only [decide_eq_true_eq] at h3
  have hjl : j < l.length := by omega
  have hgx : (l.map encI).getD j [] = [.v (.int .i64 (l.getD j 0))] := getD_enc encI l j 0 hjl
  have hat := orI_at l j hjl h0
  obtain ⟨x, hx⟩ : ∃ x, x = l.getD j 0 := ⟨_, rfl⟩
  rw [← hx] at hgx hat
  (repeat (first | refine gO rfl ?_ | (refine gR fun K1 hK1 => ?_; simp only [go_sem, ↓reduceIte, reduceCtorEq, nA, nB, nC, nD, nE, nF, Int.toNat_natCast, hgx] <;> and_intros <;> first | (apply hK1; clear hK1 K1) | (intros; first | omega | decide | (simp_all <;> omega)) | skip)))
  refine awp_cond (t := _) rfl (fun h4 => ?_) (fun h4 => ?_)
  ·have h4' : x ≠ 0 := by simpa using h4
   (repeat (first | refine gO rfl ?_ | (refine gR fun K1 hK1 => ?_; simp only [go_sem, ↓reduceIte, reduceCtorEq, nA, nB, nC, nD, nE, nF] <;> and_intros <;> first | (apply hK1; clear hK1 K1) | (intros; first | omega | decide | (simp_all <;> omega)) | skip)))
   simp only [Tryz.results16, go_sem, ↓reduceIte, reduceCtorEq, nA, nB, nC, nD, nE, nF]
   exact ⟨_, _, Weak.refl _, Hp.le.refl _, by rw [hat h4'], rfl⟩
  ·have h4' : x = 0 := by simpa using h4
   (repeat (first | refine gO rfl ?_ | (refine gR fun K1 hK1 => ?_; simp only [go_sem, ↓reduceIte, reduceCtorEq, nA, nB, nC, nD, nE, nF] <;> and_intros <;> first | (apply hK1; clear hK1 K1) | (intros; first | omega | decide | (simp_all <;> omega)) | skip)))
   exact ⟨g - 1, by omega, j + 1, by omega, fun i hi => by
    by_cases e : i = j
    ·rw [e, ← hx]; exact h4'
    ·exact h0 i (by omega), rfl⟩
 ·simp only [decide_eq_false_iff_not] at h3
  have hjl : j = l.length := by omega
  subst hjl
  (repeat (first | refine gO rfl ?_ | (refine gR fun K1 hK1 => ?_; simp only [go_sem, ↓reduceIte, reduceCtorEq, nA, nB, nC, nD, nE, nF] <;> and_intros <;> first | (apply hK1; clear hK1 K1) | (intros; first | omega | decide | (simp_all <;> omega)) | skip)))
  simp only [Tryz.results16, go_sem, ↓reduceIte, reduceCtorEq, nA, nB, nC, nD, nE, nF]
  exact ⟨_, _, Weak.refl _, Hp.le.refl _, by rw [orI_zero l h0], rfl⟩
theorem g_when (b : Bool) (e : Int) (h : Hp) : ACalls Tryz.prog 20 [.v (.bool b), .v (.int .i64 e)] h (fun r h' => r = .v (.int .i64 (if b then e else 0)) ∧ h' = h) := by
 refine gE Tryz.func20 rfl (by kernel_rfl) 5 rfl fun c => ?_
 (repeat (first | refine gO rfl ?_ | (refine gR fun K1 hK1 => ?_; simp only [go_sem, ↓reduceIte, reduceCtorEq, nA, nB, nC, nD, nE, nF] <;> and_intros <;> first | (apply hK1; clear hK1 K1) | (intros; first | omega | decide) | skip)))
 cases b
 ·refine awp_cond (t := _) rfl (fun h6 => by cases h6) (fun _ => ?_)
  (repeat (first | refine gO rfl ?_ | (refine gR fun K1 hK1 => ?_; simp only [go_sem, ↓reduceIte, reduceCtorEq, nA, nB, nC, nD, nE, nF] <;> and_intros <;> first | (apply hK1; clear hK1 K1) | (intros; first | omega | decide) | skip)))
  simp only [Tryz.results20, go_sem, ↓reduceIte, reduceCtorEq, nA, nB, nC, nD, nE, nF]
  exact ⟨_, _, Weak.refl _, Hp.le.refl _, rfl, rfl⟩
 ·refine awp_cond (t := _) rfl (fun _ => ?_) (fun h6 => by cases h6)
  (repeat (first | refine gO rfl ?_ | (refine gR fun K1 hK1 => ?_; simp only [go_sem, ↓reduceIte, reduceCtorEq, nA, nB, nC, nD, nE, nF] <;> and_intros <;> first | (apply hK1; clear hK1 K1) | (intros; first | omega | decide) | skip)))
  simp only [Tryz.results20, go_sem, ↓reduceIte, reduceCtorEq, nA, nB, nC, nD, nE, nF]
  exact ⟨_, _, Weak.refl _, Hp.le.refl _, rfl, rfl⟩
theorem b_same (x : ByteArray) : (x == x) = true := by rw [ba_beq]; simp
theorem s_same (x : ByteArray) : (x != x) = false := by rw [bne, ba_beq]; simp
theorem g_eqLn (xs : List (List Tok)) (h : Hp) (hl : xs.length ≤ 1000000) : ACalls Tryz.prog 21 [.row 1 (xs.map encLn) none, .row 1 (xs.map encLn) none] h (fun r h' => r = .v (.bool true) ∧ h' = h) := by
 have hlm : (xs.map encLn).length = xs.length := List.length_map _
 have nself : ((xs.length : Int) != (xs.length : Int)) = false := by simp
 refine gE Tryz.func21 rfl (by kernel_rfl) 24 rfl fun c => ?_
 (repeat (first | refine gO rfl ?_ | ((first | refine gR ?_ | (with_reducible refine wM ?_ ?_) | ((with_reducible refine xS ?_); refine uD 6 zM30 zP1EE zP1EP 26 rfl (by kernel_rfl) ?_)) <;> ((try with_reducible intro K1 hK1); simp only [go_sem, ↓reduceIte, reduceCtorEq, nA, nB, nC, nD, nE, nF, hlm, nself] <;> and_intros <;> first | (apply hK1; clear hK1 K1) | (intros; first | omega | decide | (simp_all <;> omega)) | skip))))
 refine awp_cond (t := _) rfl (fun h9 => by cases h9) (fun _ => ?_)
 (repeat (first | refine gO rfl ?_ | ((first | refine gR ?_ | (with_reducible refine wM ?_ ?_) | ((with_reducible refine xS ?_); refine uD 6 zM30 zP1EE zP1EP 26 rfl (by kernel_rfl) ?_)) <;> ((try with_reducible intro K1 hK1); simp only [go_sem, ↓reduceIte, reduceCtorEq, nA, nB, nC, nD, nE, nF, hlm] <;> and_intros <;> first | (apply hK1; clear hK1 K1) | (intros; first | omega | decide | (simp_all <;> omega)) | skip))))
 refine awp_loopC (rl false [0, 2, 9, 3, 12]) 0 (fun g s => ∃ j : Nat, g + j = xs.length ∧
  s = ⟨((.row 1 (xs.map encLn) none) :: (.row 1 (xs.map encLn) none) :: (jnk 9 ((.row 1 (xs.map encLn) none) :: (.v (.int .i64 xs.length)) :: (.v (.int .i64 j)) :: (jnk 12 [])))), [], h⟩) xs.length ⟨0, by omega, rfl⟩ ?_
 rintro g _ ⟨j, hj, rfl⟩
 (repeat (first | refine gO rfl ?_ | ((first | refine gR ?_ | (with_reducible refine wM ?_ ?_) | ((with_reducible refine xS ?_); refine uD 6 zM30 zP1EE zP1EP 26 rfl (by kernel_rfl) ?_)) <;> ((try with_reducible intro K1 hK1); simp only [go_sem, ↓reduceIte, reduceCtorEq, nA, nB, nC, nD, nE, nF] <;> and_intros <;> first | (apply hK1; clear hK1 K1) | (intros; first | omega | decide | (simp_all <;> omega)) | skip))))
 refine awp_cond (t := _) rfl (fun h1 => ?_) (fun h1 => ?_)
 ·simp only [decide_eq_true_eq] at h1
  have hjl : j < xs.length := by omega
  have gx := row_line xs j hjl
  generalize bsOf xs[j].flatten = x at gx
  (repeat (first | refine gO rfl ?_ | ((first | refine gR ?_ | (with_reducible refine wM ?_ ?_) | ((with_reducible refine xS ?_); refine uD 6 zM30 zP1EE zP1EP 26 rfl (by kernel_rfl) ?_)) <;> ((try with_reducible intro K1 hK1); simp only [go_sem, ↓reduceIte, reduceCtorEq, nA, nB, nC, nD, nE, nF, Int.toNat_natCast, gx, hlm, hjl, s_same, b_same] <;> and_intros <;> first | (apply hK1; clear hK1 K1) | (intros; first | omega | decide | (simp_all <;> omega)) | skip))))
  refine awp_cond (t := _) rfl (fun h9 => by cases h9) (fun _ => ?_)
  (repeat (first | refine gO rfl ?_ | ((first | refine gR ?_ | (with_reducible refine wM ?_ ?_) | ((with_reducible refine xS ?_); refine uD 6 zM30 zP1EE zP1EP 26 rfl (by kernel_rfl) ?_)) <;> ((try with_reducible intro K1 hK1); simp only [go_sem, ↓reduceIte, reduceCtorEq, nA, nB, nC, nD, nE, nF] <;> and_intros <;> first | (apply hK1; clear hK1 K1) | (intros; first | omega | decide | (simp_all <;> omega)) | skip))))
  exact ⟨g - 1, by omega, j + 1, by omega, rfl⟩
 ·(repeat (first | refine gO rfl ?_ | ((first | refine gR ?_ | (with_reducible refine wM ?_ ?_) | ((with_reducible refine xS ?_); refine uD 6 zM30 zP1EE zP1EP 26 rfl (by kernel_rfl) ?_)) <;> ((try with_reducible intro K1 hK1); simp only [go_sem, ↓reduceIte, reduceCtorEq, nA, nB, nC, nD, nE, nF] <;> and_intros <;> first | (apply hK1; clear hK1 K1) | (intros; first | omega | decide | (simp_all <;> omega)) | skip))))
  simp only [Tryz.results21, go_sem, ↓reduceIte, reduceCtorEq, nA, nB, nC, nD, nE, nF]
  exact ⟨_, _, Weak.refl _, Hp.le.refl _, rfl, rfl⟩
theorem flatMap_sum {α β : Type} (F : List α → List β) : ∀ P : List (List α), (∀ p ∈ P, (F p).length ≤ p.length + 1) → (P.flatMap F).length ≤ P.flatten.length + P.length
 | [], _ => by simp
 | p :: P, h => by
  have h1 := h p (by simp)
  have h2 := flatMap_sum F P (fun y hy => h y (by simp [hy]))
  rw [List.flatMap_cons, List.length_append, List.length_cons, List.flatten_cons, List.length_append]
  omega
theorem lines_few (f : Fo) (wide : Int) (ts : List Tok) : (linesT f wide ts).length ≤ 2 * ts.length + 1 := by
 have h1 := flatMap_sum (fun p => paragraphT f (widS f blT) wide (wordsT f wide p)) (splitT lfT ts) (fun p _ => by
  have h1 := paragraph_len f (widS f blT) wide (wordsT f wide p)
  have h2 := wordsT_len f wide p
  omega)
 have h2 := splitT_len lfT ts
 have h3 : (splitT lfT ts).flatten.length ≤ ts.length := by rw [splitT_flat]; exact List.length_filter_le _ _
 unfold linesT
 omega
theorem g_pixels (i : Nat) (l : List Int) (a : Int) (h : Hp) (hl : SOk l) (ha : 0 ≤ a ∧ a ≤ 1000000) :
  ACalls Tryz.prog 9 [.ptr i 0] (h.st i l a) (fun r h' => ∃ (x a' : Int), r = .v (.int .i64 x) ∧ (-5000000000000000 ≤ x ∧ x ≤ 5000000000000000) ∧ (a ≤ a' ∧ a' ≤ a + 30) ∧ h' = h.st i l a') := by
 refine gE Tryz.func9 rfl (by kernel_rfl) 7 rfl fun c => ?_
 (repeat (first | refine gO rfl ?_ | (refine gR fun K1 hK1 => ?_; simp only [go_sem, ↓reduceIte, reduceCtorEq, nA, nB, nC, nD, nE, nF] <;> and_intros <;> first | (apply hK1; clear hK1 K1) | (intros; first | omega | decide | (simp_all <;> omega)) | skip)))
 refine (g_odd i l a 1 100000 h hl (by omega) (by omega) (by omega) (by omega)).mono ?_
 rintro _ h9 ⟨o, a2, ho, ha2, rfl, rfl⟩
 apply hK1; clear hK1 K1
 (repeat (first | refine gO rfl ?_ | (refine gR fun K1 hK1 => ?_; simp only [go_sem, ↓reduceIte, reduceCtorEq, nA, nB, nC, nD, nE, nF] <;> and_intros <;> first | (apply hK1; clear hK1 K1) | (intros; first | omega | decide | (simp_all <;> omega)) | skip)))
 refine (g_pick i l a2 [1, 3, 5, 6, 8, 10, 14, 20, o] none h hl (by omega) ⟨by simp, by simp⟩).mono ?_
 rintro _ h9 ⟨x, hx, rfl, rfl⟩
 apply hK1; clear hK1 K1
 have hxb : -5000000000000000 ≤ x ∧ x ≤ 5000000000000000 := by
  simp only [List.mem_cons, List.not_mem_nil, or_false] at hx
  omega
 clear hx
 (repeat (first | refine gO rfl ?_ | (refine gR fun K1 hK1 => ?_; simp only [go_sem, ↓reduceIte, reduceCtorEq, nA, nB, nC, nD, nE, nF] <;> and_intros <;> first | (apply hK1; clear hK1 K1) | (intros; first | omega | decide | (simp_all <;> omega)) | skip)))
 simp only [Tryz.results9, go_sem, ↓reduceIte, reduceCtorEq, nA, nB, nC, nD, nE, nF]
 exact ⟨_, _, Weak.refl _, Hp.le.refl _, x, a2 + 1, rfl, hxb, by omega, rfl⟩
abbrev zP1FE : List Nat := [0, 1, 2, 3, 4, 5]
abbrev zP1FP : List (Nat × List Nat × List Nat) := [(6, [], [7]), (8, [], [])]
attribute [go_sem] zP1FE zP1FP
def sC : ByteArray := ⟨#[110, 32, 62, 32, 51]⟩
def sG : ByteArray := ⟨#[62]⟩
def s3 : ByteArray := ⟨#[51]⟩
def sRow : ByteArray := ⟨#[114, 111, 119]⟩
def sEnd : ByteArray := ⟨#[101, 110, 100]⟩
theorem c_keyByte (n : Int) (b : Bool) (hn : (n = 110 ∧ b = true) ∨ (n = 51 ∧ b = true) ∨ (n = 62 ∧ b = false) ∨ (n = 32 ∧ b = false)) (h : Hp) : ACalls Tryz.prog 252 [.v (.int .u8 n)] h (fun r h' => r = .v (.bool b) ∧ h' = h) := by
 rcases hn with ⟨rfl, rfl⟩ | ⟨rfl, rfl⟩ | ⟨rfl, rfl⟩ | ⟨rfl, rfl⟩
 ·refine gE Tryz.func252 rfl (by kernel_rfl) 24 rfl fun c => ?_
  (repeat (first | refine gO rfl ?_ | (refine gR fun K1 hK1 => ?_; simp only [go_sem, ↓reduceIte, reduceCtorEq, nA, nB, nC, nD, nE, nF, Int.reduceBEq, Int.reduceTMod, Int.reduceTDiv, Int.reduceMul, Int.reduceBNe, Int.reduceLT, Int.reduceLE, Int.reduceAdd, Int.reduceSub, Int.reduceNeg, decide_true, decide_false, Bool.true_and, Bool.false_and, Bool.and_true, Bool.and_false, Bool.or_false, Bool.or_true, Bool.true_or, Bool.false_or, Bool.not_true, Bool.not_false, true_implies, false_implies, true_and, and_true, Int.reduceToNat] <;> and_intros <;> first | (apply hK1; clear hK1 K1) | (intros; first | omega | decide) | skip) | (refine awp_cond (t := _) rfl (fun hq => ?_) (fun hq => ?_) <;> first | (exact absurd hq (by decide)) | (cases hq; done) | (clear hq)) | (refine awp_un 8 ?_) | (with_reducible exact rfl) | (with_reducible exact trivial) | ((with_reducible show uside _); first | exact True.intro | exact rfl) | ((with_reducible show opS _ _); exact True.intro) | (refine ⟨AV.v (.bool true), rfl, hK1 _ ?_⟩; clear hK1 K1)))
  simp only [Tryz.results252, go_sem, ↓reduceIte, reduceCtorEq, nA, nB, nC, nD, nE, nF]
  exact ⟨_, _, Weak.refl _, Hp.le.refl _, rfl, rfl⟩
 ·refine gE Tryz.func252 rfl (by kernel_rfl) 24 rfl fun c => ?_
  (repeat (first | refine gO rfl ?_ | (refine gR fun K1 hK1 => ?_; simp only [go_sem, ↓reduceIte, reduceCtorEq, nA, nB, nC, nD, nE, nF, Int.reduceBEq, Int.reduceTMod, Int.reduceTDiv, Int.reduceMul, Int.reduceBNe, Int.reduceLT, Int.reduceLE, Int.reduceAdd, Int.reduceSub, Int.reduceNeg, decide_true, decide_false, Bool.true_and, Bool.false_and, Bool.and_true, Bool.and_false, Bool.or_false, Bool.or_true, Bool.true_or, Bool.false_or, Bool.not_true, Bool.not_false, true_implies, false_implies, true_and, and_true, Int.reduceToNat] <;> and_intros <;> first | (apply hK1; clear hK1 K1) | (intros; first | omega | decide) | skip) | (refine awp_cond (t := _) rfl (fun hq => ?_) (fun hq => ?_) <;> first | (exact absurd hq (by decide)) | (cases hq; done) | (clear hq)) | (refine awp_un 8 ?_) | (with_reducible exact rfl) | (with_reducible exact trivial) | ((with_reducible show uside _); first | exact True.intro | exact rfl) | ((with_reducible show opS _ _); exact True.intro) | (refine ⟨AV.v (.bool true), rfl, hK1 _ ?_⟩; clear hK1 K1)))
  simp only [Tryz.results252, go_sem, ↓reduceIte, reduceCtorEq, nA, nB, nC, nD, nE, nF]
  exact ⟨_, _, Weak.refl _, Hp.le.refl _, rfl, rfl⟩
 ·refine gE Tryz.func252 rfl (by kernel_rfl) 24 rfl fun c => ?_
  (repeat (first | refine gO rfl ?_ | (refine gR fun K1 hK1 => ?_; simp only [go_sem, ↓reduceIte, reduceCtorEq, nA, nB, nC, nD, nE, nF, Int.reduceBEq, Int.reduceTMod, Int.reduceTDiv, Int.reduceMul, Int.reduceBNe, Int.reduceLT, Int.reduceLE, Int.reduceAdd, Int.reduceSub, Int.reduceNeg, decide_true, decide_false, Bool.true_and, Bool.false_and, Bool.and_true, Bool.and_false, Bool.or_false, Bool.or_true, Bool.true_or, Bool.false_or, Bool.not_true, Bool.not_false, true_implies, false_implies, true_and, and_true, Int.reduceToNat] <;> and_intros <;> first | (apply hK1; clear hK1 K1) | (intros; first | omega | decide) | skip) | (refine awp_cond (t := _) rfl (fun hq => ?_) (fun hq => ?_) <;> first | (exact absurd hq (by decide)) | (cases hq; done) | (clear hq)) | (refine awp_un 8 ?_) | (with_reducible exact rfl) | (with_reducible exact trivial) | ((with_reducible show uside _); first | exact True.intro | exact rfl) | ((with_reducible show opS _ _); exact True.intro) | (refine ⟨AV.v (.bool true), rfl, hK1 _ ?_⟩; clear hK1 K1)))
  simp only [Tryz.results252, go_sem, ↓reduceIte, reduceCtorEq, nA, nB, nC, nD, nE, nF]
  exact ⟨_, _, Weak.refl _, Hp.le.refl _, rfl, rfl⟩
 ·refine gE Tryz.func252 rfl (by kernel_rfl) 24 rfl fun c => ?_
  (repeat (first | refine gO rfl ?_ | (refine gR fun K1 hK1 => ?_; simp only [go_sem, ↓reduceIte, reduceCtorEq, nA, nB, nC, nD, nE, nF, Int.reduceBEq, Int.reduceTMod, Int.reduceTDiv, Int.reduceMul, Int.reduceBNe, Int.reduceLT, Int.reduceLE, Int.reduceAdd, Int.reduceSub, Int.reduceNeg, decide_true, decide_false, Bool.true_and, Bool.false_and, Bool.and_true, Bool.and_false, Bool.or_false, Bool.or_true, Bool.true_or, Bool.false_or, Bool.not_true, Bool.not_false, true_implies, false_implies, true_and, and_true, Int.reduceToNat] <;> and_intros <;> first | (apply hK1; clear hK1 K1) | (intros; first | omega | decide) | skip) | (refine awp_cond (t := _) rfl (fun hq => ?_) (fun hq => ?_) <;> first | (exact absurd hq (by decide)) | (cases hq; done) | (clear hq)) | (refine awp_un 8 ?_) | (with_reducible exact rfl) | (with_reducible exact trivial) | ((with_reducible show uside _); first | exact True.intro | exact rfl) | ((with_reducible show opS _ _); exact True.intro) | (refine ⟨AV.v (.bool true), rfl, hK1 _ ?_⟩; clear hK1 K1)))
  simp only [Tryz.results252, go_sem, ↓reduceIte, reduceCtorEq, nA, nB, nC, nD, nE, nF]
  exact ⟨_, _, Weak.refl _, Hp.le.refl _, rfl, rfl⟩
theorem c_tok0 (h : Hp) : ACalls Tryz.prog 239 [.v (.string sC), .v (.int .i64 0)] h (fun r h' => r = .agg [vS sRow, vS sN, vI 0, vI 1] ∧ h' = h) := by
 have k1 := fun h => c_keyByte 110 true (by simp) h
 have k2 := fun h => c_keyByte 32 false (by simp) h
 have z : (sC.size : Int) = 5 := rfl
 have z0 : ((sC.data.toList.getD 0 0).toNat : Int) = 110 := rfl
 have z1 : ((sC.data.toList.getD 1 0).toNat : Int) = 32 := rfl
 have x0 : sC.extract 0 1 = sN := by decide
 refine gE Tryz.func239 rfl (by kernel_rfl) 121 rfl fun c => ?_
 (repeat (first | refine gO rfl ?_ | ((first | refine gM zM34 ?_ | (with_reducible refine wM ?_ ?_) | ((with_reducible refine xS ?_); refine uD 11 zM34 zP1FE zP1FP 123 rfl (by kernel_rfl) ?_)) <;> ((try with_reducible intro K1 hK1); simp only [go_sem, ↓reduceIte, reduceCtorEq, nA, nB, nC, nD, nE, nF, Int.reduceBEq, Int.reduceTMod, Int.reduceTDiv, Int.reduceMul, Int.reduceBNe, Int.reduceLT, Int.reduceLE, Int.reduceAdd, Int.reduceSub, Int.reduceNeg, decide_true, decide_false, Bool.true_and, Bool.false_and, Bool.and_true, Bool.and_false, Bool.or_false, Bool.or_true, Bool.true_or, Bool.false_or, Bool.not_true, Bool.not_false, true_implies, false_implies, true_and, and_true, Int.reduceToNat, z, z0, z1, x0] <;> and_intros <;> first | (apply hK1; clear hK1 K1) | (intros; first | omega | decide) | skip)) | (refine awp_cond (t := _) rfl (fun hq => ?_) (fun hq => ?_) <;> first | (exact absurd hq (by decide)) | (cases hq; done) | (clear hq)) | (refine awp_un 8 ?_) | (with_reducible exact rfl) | (with_reducible exact trivial) | ((with_reducible show uside _); first | exact True.intro | exact rfl) | ((with_reducible show opS _ _); exact True.intro) | (refine ⟨AV.v (.bool true), rfl, hK1 _ ?_⟩; clear hK1 K1) | (refine (k1 _).mono ?_; rintro _ hz ⟨rfl, hh⟩; (first | (refine hK1 _ ?_) | (refine ⟨rfl, hK1 _ ?_⟩)); clear hK1 K1; rw [hh]; clear hh hz) | (refine (k2 _).mono ?_; rintro _ hz ⟨rfl, hh⟩; (first | (refine hK1 _ ?_) | (refine ⟨rfl, hK1 _ ?_⟩)); clear hK1 K1; rw [hh]; clear hh hz)))
 simp only [Tryz.results239, go_sem, ↓reduceIte, reduceCtorEq, nA, nB, nC, nD, nE, nF]
 exact ⟨_, _, Weak.refl _, Hp.le.refl _, rfl, rfl⟩
theorem c_hasPre (p : ByteArray) (b : Bool) (hb : Lib.hasPrefix [62, 32, 51] p.data.toList = b) (h : Hp) : ACalls Tryz.prog 206 [.v (.string ⟨#[62, 32, 51]⟩), .v (.string p)] h (fun r h' => r = .v (.bool b) ∧ h' = h) :=
 acalls_pure (by kernel_rfl) [.string ⟨#[62, 32, 51]⟩, .string p] rfl (fun w => (Tryz.strings_HasPrefix ⟨#[62, 32, 51]⟩ p w).mono fun e w' ⟨h1, h2⟩ => ⟨by rw [h1, ← hb], by rw [h2]; exact bel_id w⟩) h
theorem c_tok1 (h : Hp) : ACalls Tryz.prog 239 [.v (.string sC), .v (.int .i64 1)] h (fun r h' => r = .agg [vS sG, vS s0, vI 2, vI 3] ∧ h' = h) := by
 have k1 := fun h => c_keyByte 62 false (by simp) h
 have p1 := fun h => c_hasPre ⟨#[61, 61]⟩ false (by decide) h
 have p2 := fun h => c_hasPre ⟨#[33, 61]⟩ false (by decide) h
 have p3 := fun h => c_hasPre ⟨#[60, 61]⟩ false (by decide) h
 have p4 := fun h => c_hasPre ⟨#[62, 61]⟩ false (by decide) h
 have p5 := fun h => c_hasPre ⟨#[60]⟩ false (by decide) h
 have p6 := fun h => c_hasPre ⟨#[62]⟩ true (by decide) h
 have z : (sC.size : Int) = 5 := rfl
 have z1 : ((sC.data.toList.getD 1 0).toNat : Int) = 32 := rfl
 have z2 : ((sC.data.toList.getD 2 0).toNat : Int) = 62 := rfl
 have x0 : sC.extract 2 5 = ⟨#[62, 32, 51]⟩ := by decide
 have y1 : ((#[62] : Array UInt8).size : Int) = 1 := rfl
 have y2 : (2 : Int) + 1 = 3 := rfl
 refine gE Tryz.func239 rfl (by kernel_rfl) 121 rfl fun c => ?_
 (repeat (first | refine gO rfl ?_ | ((first | refine gM zM34 ?_ | (with_reducible refine wM ?_ ?_) | ((with_reducible refine xS ?_); refine uD 11 zM34 zP1FE zP1FP 123 rfl (by kernel_rfl) ?_)) <;> ((try with_reducible intro K1 hK1); simp only [go_sem, ↓reduceIte, reduceCtorEq, nA, nB, nC, nD, nE, nF, Int.reduceBEq, Int.reduceTMod, Int.reduceTDiv, Int.reduceMul, Int.reduceBNe, Int.reduceLT, Int.reduceLE, Int.reduceAdd, Int.reduceSub, Int.reduceNeg, decide_true, decide_false, Bool.true_and, Bool.false_and, Bool.and_true, Bool.and_false, Bool.or_false, Bool.or_true, Bool.true_or, Bool.false_or, Bool.not_true, Bool.not_false, true_implies, false_implies, true_and, and_true, Int.reduceToNat, z, z1, z2, x0, y1, y2] <;> and_intros <;> first | (apply hK1; clear hK1 K1) | (intros; first | omega | decide) | skip)) | (refine awp_cond (t := _) rfl (fun hq => ?_) (fun hq => ?_) <;> first | (exact absurd hq (by decide)) | (cases hq; done) | (clear hq)) | (refine awp_un 8 ?_) | (with_reducible exact rfl) | (with_reducible exact trivial) | ((with_reducible show uside _); first | exact True.intro | exact rfl) | ((with_reducible show opS _ _); exact True.intro) | (refine ⟨AV.v (.bool true), rfl, hK1 _ ?_⟩; clear hK1 K1) | (refine (k1 _).mono ?_; rintro _ hz ⟨rfl, hh⟩; (first | (refine hK1 _ ?_) | (refine ⟨rfl, hK1 _ ?_⟩)); clear hK1 K1; rw [hh]; clear hh hz) | (refine (p1 _).mono ?_; rintro _ hz ⟨rfl, hh⟩; (first | (refine hK1 _ ?_) | (refine ⟨rfl, hK1 _ ?_⟩)); clear hK1 K1; rw [hh]; clear hh hz) | (refine (p2 _).mono ?_; rintro _ hz ⟨rfl, hh⟩; (first | (refine hK1 _ ?_) | (refine ⟨rfl, hK1 _ ?_⟩)); clear hK1 K1; rw [hh]; clear hh hz) | (refine (p3 _).mono ?_; rintro _ hz ⟨rfl, hh⟩; (first | (refine hK1 _ ?_) | (refine ⟨rfl, hK1 _ ?_⟩)); clear hK1 K1; rw [hh]; clear hh hz) | (refine (p4 _).mono ?_; rintro _ hz ⟨rfl, hh⟩; (first | (refine hK1 _ ?_) | (refine ⟨rfl, hK1 _ ?_⟩)); clear hK1 K1; rw [hh]; clear hh hz) | (refine (p5 _).mono ?_; rintro _ hz ⟨rfl, hh⟩; (first | (refine hK1 _ ?_) | (refine ⟨rfl, hK1 _ ?_⟩)); clear hK1 K1; rw [hh]; clear hh hz) | (refine (p6 _).mono ?_; rintro _ hz ⟨rfl, hh⟩; (first | (refine hK1 _ ?_) | (refine ⟨rfl, hK1 _ ?_⟩)); clear hK1 K1; rw [hh]; clear hh hz)))
 simp only [Tryz.results239, go_sem, ↓reduceIte, reduceCtorEq, nA, nB, nC, nD, nE, nF]
 exact ⟨_, _, Weak.refl _, Hp.le.refl _, rfl, rfl⟩
theorem c_tok3 (h : Hp) : ACalls Tryz.prog 239 [.v (.string sC), .v (.int .i64 3)] h (fun r h' => r = .agg [vS sRow, vS s3, vI 4, vI 5] ∧ h' = h) := by
 have k1 := fun h => c_keyByte 51 true (by simp) h
 have z : (sC.size : Int) = 5 := rfl
 have z3 : ((sC.data.toList.getD 3 0).toNat : Int) = 32 := rfl
 have z4 : ((sC.data.toList.getD 4 0).toNat : Int) = 51 := rfl
 have x0 : sC.extract 4 5 = s3 := by decide
 refine gE Tryz.func239 rfl (by kernel_rfl) 121 rfl fun c => ?_
 (repeat (first | refine gO rfl ?_ | ((first | refine gM zM34 ?_ | (with_reducible refine wM ?_ ?_) | ((with_reducible refine xS ?_); refine uD 11 zM34 zP1FE zP1FP 123 rfl (by kernel_rfl) ?_)) <;> ((try with_reducible intro K1 hK1); simp only [go_sem, ↓reduceIte, reduceCtorEq, nA, nB, nC, nD, nE, nF, Int.reduceBEq, Int.reduceTMod, Int.reduceTDiv, Int.reduceMul, Int.reduceBNe, Int.reduceLT, Int.reduceLE, Int.reduceAdd, Int.reduceSub, Int.reduceNeg, decide_true, decide_false, Bool.true_and, Bool.false_and, Bool.and_true, Bool.and_false, Bool.or_false, Bool.or_true, Bool.true_or, Bool.false_or, Bool.not_true, Bool.not_false, true_implies, false_implies, true_and, and_true, Int.reduceToNat, z, z3, z4, x0] <;> and_intros <;> first | (apply hK1; clear hK1 K1) | (intros; first | omega | decide) | skip)) | (refine awp_cond (t := _) rfl (fun hq => ?_) (fun hq => ?_) <;> first | (exact absurd hq (by decide)) | (cases hq; done) | (clear hq)) | (refine awp_un 8 ?_) | (with_reducible exact rfl) | (with_reducible exact trivial) | ((with_reducible show uside _); first | exact True.intro | exact rfl) | ((with_reducible show opS _ _); exact True.intro) | (refine ⟨AV.v (.bool true), rfl, hK1 _ ?_⟩; clear hK1 K1) | (refine (k1 _).mono ?_; rintro _ hz ⟨rfl, hh⟩; (first | (refine hK1 _ ?_) | (refine ⟨rfl, hK1 _ ?_⟩)); clear hK1 K1; rw [hh]; clear hh hz)))
 simp only [Tryz.results239, go_sem, ↓reduceIte, reduceCtorEq, nA, nB, nC, nD, nE, nF]
 exact ⟨_, _, Weak.refl _, Hp.le.refl _, rfl, rfl⟩
theorem c_tok5 (h : Hp) : ACalls Tryz.prog 239 [.v (.string sC), .v (.int .i64 5)] h (fun r h' => r = .agg [vS sEnd, vS s0, vI 5, vI 5] ∧ h' = h) := by
 have z : (sC.size : Int) = 5 := rfl
 refine gE Tryz.func239 rfl (by kernel_rfl) 121 rfl fun c => ?_
 (repeat (first | refine gO rfl ?_ | ((first | refine gM zM34 ?_ | (with_reducible refine wM ?_ ?_) | ((with_reducible refine xS ?_); refine uD 11 zM34 zP1FE zP1FP 123 rfl (by kernel_rfl) ?_)) <;> ((try with_reducible intro K1 hK1); simp only [go_sem, ↓reduceIte, reduceCtorEq, nA, nB, nC, nD, nE, nF, Int.reduceBEq, Int.reduceTMod, Int.reduceTDiv, Int.reduceMul, Int.reduceBNe, Int.reduceLT, Int.reduceLE, Int.reduceAdd, Int.reduceSub, Int.reduceNeg, decide_true, decide_false, Bool.true_and, Bool.false_and, Bool.and_true, Bool.and_false, Bool.or_false, Bool.or_true, Bool.true_or, Bool.false_or, Bool.not_true, Bool.not_false, true_implies, false_implies, true_and, and_true, Int.reduceToNat, z] <;> and_intros <;> first | (apply hK1; clear hK1 K1) | (intros; first | omega | decide) | skip)) | (refine awp_cond (t := _) rfl (fun hq => ?_) (fun hq => ?_) <;> first | (exact absurd hq (by decide)) | (cases hq; done) | (clear hq)) | (refine awp_un 8 ?_) | (with_reducible exact rfl) | (with_reducible exact trivial) | ((with_reducible show uside _); first | exact True.intro | exact rfl) | ((with_reducible show opS _ _); exact True.intro) | (refine ⟨AV.v (.bool true), rfl, hK1 _ ?_⟩; clear hK1 K1)))
 simp only [Tryz.results239, go_sem, ↓reduceIte, reduceCtorEq, nA, nB, nC, nD, nE, nF]
 exact ⟨_, _, Weak.refl _, Hp.le.refl _, rfl, rfl⟩
abbrev zP1GE : List Nat := [0, 1, 2, 3, 4, 5, 6, 7, 8, 9]
abbrev zP1GP : List (Nat × List Nat × List Nat) := [(10, [], [11, 12]), (13, [], [])]
abbrev zP1HE : List Nat := [0, 1, 2, 3, 4, 5, 6, 7, 8, 9, 10, 11]
abbrev zP1HP : List (Nat × List Nat × List Nat) := []
attribute [go_sem] zP1GE zP1GP zP1HE zP1HP
def crC (kd tx : ByteArray) (a e : Int) : List AV := [vS sC, vS kd, vS tx, vI a, vI e, nl, vB false, vI 0, vI 0, vI 0]
theorem c_next (r : Nat) (kd tx kd' tx' : ByteArray) (a e a' e' : Int) (h : Hp) (hr : h.H r = some (.cells (crC kd tx a e)))
  (ht : ACalls Tryz.prog 239 [.v (.string sC), .v (.int .i64 e)] h (fun r h' => r = .agg [vS kd', vS tx', vI a', vI e'] ∧ h' = h)) :
  ACalls Tryz.prog 217 [.ptr r 0] h (fun x h' => x = .tup [] ∧ h' = ⟨upd h.H r (some (.cells (crC kd' tx' a' e'))), h.T⟩) := by
 unfold crC vS vI vB nl at *
 refine gE Tryz.func217 rfl (by kernel_rfl) 14 rfl fun c => ?_
 (repeat (first | refine gO rfl ?_ | ((first | refine gR ?_ | (with_reducible refine wM ?_ ?_) | ((with_reducible refine xR ?_); refine uE 0 zM30 zP1GE zP1GP 15 rfl (by kernel_rfl) ?_)) <;> ((try with_reducible intro K1 hK1); simp only [go_sem, ↓reduceIte, reduceCtorEq, nA, nB, nC, nD, nE, nF, Int.reduceBEq, Int.reduceTMod, Int.reduceTDiv, Int.reduceMul, Int.reduceBNe, Int.reduceLT, Int.reduceLE, Int.reduceAdd, Int.reduceSub, Int.reduceNeg, decide_true, decide_false, Bool.true_and, Bool.false_and, Bool.and_true, Bool.and_false, Bool.or_false, Bool.or_true, Bool.true_or, Bool.false_or, Bool.not_true, Bool.not_false, true_implies, false_implies, true_and, and_true, Int.reduceToNat, hr] <;> and_intros <;> first | (apply hK1; clear hK1 K1) | (intros; first | omega | decide) | skip)) | (refine awp_cond (t := _) rfl (fun hq => ?_) (fun hq => ?_) <;> first | (exact absurd hq (by decide)) | (cases hq; done) | (clear hq)) | (refine awp_un 8 ?_) | (with_reducible exact rfl) | (with_reducible exact trivial) | ((with_reducible show uside _); first | exact True.intro | exact rfl) | ((with_reducible show opS _ _); exact True.intro) | (refine ⟨AV.v (.bool true), rfl, hK1 _ ?_⟩; clear hK1 K1) | (refine (ht).mono ?_; rintro _ hz ⟨rfl, hh⟩; (first | (refine hK1 _ ?_) | (refine ⟨rfl, hK1 _ ?_⟩)); clear hK1 K1; rw [hh]; clear hh hz)))
 simp only [Tryz.results217, go_sem, ↓reduceIte, reduceCtorEq, nA, nB, nC, nD, nE, nF]
 exact ⟨_, _, Weak.refl _, Hp.le.refl _, rfl, rfl⟩
theorem c_isRow (r : Nat) (kd tx w : ByteArray) (a e : Int) (b : Bool) (h : Hp) (hr : h.H r = some (.cells (crC kd tx a e))) (hk : (kd == sRow) = b) (ht : (tx == w) = false) :
  ACalls Tryz.prog 254 [.ptr r 0, .v (.string w)] h (fun x h' => x = .v (.bool false) ∧ h' = h) := by
 unfold crC vS vI vB nl at *
 unfold sRow at hk
 cases b with
 | true =>
  refine gE Tryz.func254 rfl (by kernel_rfl) 25 rfl fun c => ?_
  (repeat (first | refine gO rfl ?_ | (refine gR fun K1 hK1 => ?_; simp only [go_sem, ↓reduceIte, reduceCtorEq, nA, nB, nC, nD, nE, nF, Int.reduceBEq, Int.reduceTMod, Int.reduceTDiv, Int.reduceMul, Int.reduceBNe, Int.reduceLT, Int.reduceLE, Int.reduceAdd, Int.reduceSub, Int.reduceNeg, decide_true, decide_false, Bool.true_and, Bool.false_and, Bool.and_true, Bool.and_false, Bool.or_false, Bool.or_true, Bool.true_or, Bool.false_or, Bool.not_true, Bool.not_false, true_implies, false_implies, true_and, and_true, Int.reduceToNat, hr, hk, ht] <;> and_intros <;> first | (apply hK1; clear hK1 K1) | (intros; first | omega | decide) | skip) | (refine awp_cond (t := _) rfl (fun hq => ?_) (fun hq => ?_) <;> first | (exact absurd hq (by decide)) | (cases hq; done) | (clear hq)) | (refine awp_un 8 ?_) | (with_reducible exact rfl) | (with_reducible exact trivial) | ((with_reducible show uside _); first | exact True.intro | exact rfl) | ((with_reducible show opS _ _); exact True.intro) | (refine ⟨AV.v (.bool true), rfl, hK1 _ ?_⟩; clear hK1 K1)))
  simp only [Tryz.results254, go_sem, ↓reduceIte, reduceCtorEq, nA, nB, nC, nD, nE, nF]
  exact ⟨_, _, Weak.refl _, Hp.le.refl _, rfl, rfl⟩
 | false =>
  refine gE Tryz.func254 rfl (by kernel_rfl) 25 rfl fun c => ?_
  (repeat (first | refine gO rfl ?_ | (refine gR fun K1 hK1 => ?_; simp only [go_sem, ↓reduceIte, reduceCtorEq, nA, nB, nC, nD, nE, nF, Int.reduceBEq, Int.reduceTMod, Int.reduceTDiv, Int.reduceMul, Int.reduceBNe, Int.reduceLT, Int.reduceLE, Int.reduceAdd, Int.reduceSub, Int.reduceNeg, decide_true, decide_false, Bool.true_and, Bool.false_and, Bool.and_true, Bool.and_false, Bool.or_false, Bool.or_true, Bool.true_or, Bool.false_or, Bool.not_true, Bool.not_false, true_implies, false_implies, true_and, and_true, Int.reduceToNat, hr, hk, ht] <;> and_intros <;> first | (apply hK1; clear hK1 K1) | (intros; first | omega | decide) | skip) | (refine awp_cond (t := _) rfl (fun hq => ?_) (fun hq => ?_) <;> first | (exact absurd hq (by decide)) | (cases hq; done) | (clear hq)) | (refine awp_un 8 ?_) | (with_reducible exact rfl) | (with_reducible exact trivial) | ((with_reducible show uside _); first | exact True.intro | exact rfl) | ((with_reducible show opS _ _); exact True.intro) | (refine ⟨AV.v (.bool true), rfl, hK1 _ ?_⟩; clear hK1 K1)))
  simp only [Tryz.results254, go_sem, ↓reduceIte, reduceCtorEq, nA, nB, nC, nD, nE, nF]
  exact ⟨_, _, Weak.refl _, Hp.le.refl _, rfl, rfl⟩
theorem c_ixSign (h : Hp) : ACalls Tryz.prog 222 [.row 1 [[.v (.string ⟨#[61, 61]⟩)], [.v (.string ⟨#[33, 61]⟩)], [.v (.string ⟨#[60]⟩)], [.v (.string ⟨#[60, 61]⟩)], [.v (.string ⟨#[62]⟩)], [.v (.string ⟨#[62, 61]⟩)]] none, .v (.string sG)] h (fun r h' => r = .v (.int .i64 4) ∧ h' = h) := by
 have e1 : (sG == ⟨#[61, 61]⟩) = false := by decide
 have e2 : (sG == ⟨#[33, 61]⟩) = false := by decide
 have e3 : (sG == ⟨#[60]⟩) = false := by decide
 have e4 : (sG == ⟨#[60, 61]⟩) = false := by decide
 have e5 : (sG == ⟨#[62]⟩) = true := by decide
 refine gE Tryz.func222 rfl (by kernel_rfl) 17 rfl fun c => ?_
 (repeat (first | refine gO rfl ?_ | (refine gR fun K1 hK1 => ?_; simp only [go_sem, ↓reduceIte, reduceCtorEq, nA, nB, nC, nD, nE, nF, Int.reduceBEq, Int.reduceTMod, Int.reduceTDiv, Int.reduceMul, Int.reduceBNe, Int.reduceLT, Int.reduceLE, Int.reduceAdd, Int.reduceSub, Int.reduceNeg, decide_true, decide_false, Bool.true_and, Bool.false_and, Bool.and_true, Bool.and_false, Bool.or_false, Bool.or_true, Bool.true_or, Bool.false_or, Bool.not_true, Bool.not_false, true_implies, false_implies, true_and, and_true, Int.reduceToNat, e1, e2, e3, e4, e5] <;> and_intros <;> first | (apply hK1; clear hK1 K1) | (intros; first | omega | decide) | skip) | (refine awp_cond (t := _) rfl (fun hq => ?_) (fun hq => ?_) <;> first | (exact absurd hq (by decide)) | (cases hq; done) | (clear hq)) | (refine awp_un 8 ?_) | (with_reducible exact rfl) | (with_reducible exact trivial) | ((with_reducible show uside _); first | exact True.intro | exact rfl) | ((with_reducible show opS _ _); exact True.intro) | (refine ⟨AV.v (.bool true), rfl, hK1 _ ?_⟩; clear hK1 K1)))
 simp only [Tryz.results222, go_sem, ↓reduceIte, reduceCtorEq, nA, nB, nC, nD, nE, nF]
 exact ⟨_, _, Weak.refl _, Hp.le.refl _, rfl, rfl⟩
theorem c_hasSign (h : Hp) : ACalls Tryz.prog 198 [.row 1 [[.v (.string ⟨#[61, 61]⟩)], [.v (.string ⟨#[33, 61]⟩)], [.v (.string ⟨#[60]⟩)], [.v (.string ⟨#[60, 61]⟩)], [.v (.string ⟨#[62]⟩)], [.v (.string ⟨#[62, 61]⟩)]] none, .v (.string sG)] h (fun r h' => r = .v (.bool true) ∧ h' = h) := by
 have h1 := fun h => c_ixSign h
 refine gE Tryz.func198 rfl (by kernel_rfl) 7 rfl fun c => ?_
 (repeat (first | refine gO rfl ?_ | (refine gR fun K1 hK1 => ?_; simp only [go_sem, ↓reduceIte, reduceCtorEq, nA, nB, nC, nD, nE, nF, Int.reduceBEq, Int.reduceTMod, Int.reduceTDiv, Int.reduceMul, Int.reduceBNe, Int.reduceLT, Int.reduceLE, Int.reduceAdd, Int.reduceSub, Int.reduceNeg, decide_true, decide_false, Bool.true_and, Bool.false_and, Bool.and_true, Bool.and_false, Bool.or_false, Bool.or_true, Bool.true_or, Bool.false_or, Bool.not_true, Bool.not_false, true_implies, false_implies, true_and, and_true, Int.reduceToNat] <;> and_intros <;> first | (apply hK1; clear hK1 K1) | (intros; first | omega | decide) | skip) | (refine awp_cond (t := _) rfl (fun hq => ?_) (fun hq => ?_) <;> first | (exact absurd hq (by decide)) | (cases hq; done) | (clear hq)) | (refine awp_un 8 ?_) | (with_reducible exact rfl) | (with_reducible exact trivial) | ((with_reducible show uside _); first | exact True.intro | exact rfl) | ((with_reducible show opS _ _); exact True.intro) | (refine ⟨AV.v (.bool true), rfl, hK1 _ ?_⟩; clear hK1 K1) | (refine (h1 _).mono ?_; rintro _ hz ⟨rfl, hh⟩; (first | (refine hK1 _ ?_) | (refine ⟨rfl, hK1 _ ?_⟩)); clear hK1 K1; rw [hh]; clear hh hz)))
 simp only [Tryz.results198, go_sem, ↓reduceIte, reduceCtorEq, nA, nB, nC, nD, nE, nF]
 exact ⟨_, _, Weak.refl _, Hp.le.refl _, rfl, rfl⟩
theorem c_isSign (h : Hp) : ACalls Tryz.prog 270 [.v (.string sG)] h (fun r h' => r = .v (.bool true) ∧ h' = h) := by
 have h1 := fun h => c_hasSign h
 refine gE Tryz.func270 rfl (by kernel_rfl) 5 rfl fun c => ?_
 (repeat (first | refine gO rfl ?_ | (refine gR fun K1 hK1 => ?_; simp only [go_sem, ↓reduceIte, reduceCtorEq, nA, nB, nC, nD, nE, nF, Int.reduceBEq, Int.reduceTMod, Int.reduceTDiv, Int.reduceMul, Int.reduceBNe, Int.reduceLT, Int.reduceLE, Int.reduceAdd, Int.reduceSub, Int.reduceNeg, decide_true, decide_false, Bool.true_and, Bool.false_and, Bool.and_true, Bool.and_false, Bool.or_false, Bool.or_true, Bool.true_or, Bool.false_or, Bool.not_true, Bool.not_false, true_implies, false_implies, true_and, and_true, Int.reduceToNat] <;> and_intros <;> first | (apply hK1; clear hK1 K1) | (intros; first | omega | decide) | skip) | (refine awp_cond (t := _) rfl (fun hq => ?_) (fun hq => ?_) <;> first | (exact absurd hq (by decide)) | (cases hq; done) | (clear hq)) | (refine awp_un 8 ?_) | (with_reducible exact rfl) | (with_reducible exact trivial) | ((with_reducible show uside _); first | exact True.intro | exact rfl) | ((with_reducible show opS _ _); exact True.intro) | (refine ⟨AV.v (.bool true), rfl, hK1 _ ?_⟩; clear hK1 K1) | (refine (h1 _).mono ?_; rintro _ hz ⟨rfl, hh⟩; (first | (refine hK1 _ ?_) | (refine ⟨rfl, hK1 _ ?_⟩)); clear hK1 K1; rw [hh]; clear hh hz)))
 simp only [Tryz.results270, go_sem, ↓reduceIte, reduceCtorEq, nA, nB, nC, nD, nE, nF]
 exact ⟨_, _, Weak.refl _, Hp.le.refl _, rfl, rfl⟩
theorem c_index3 (h : Hp) : ACalls Tryz.prog 101 [.v (.string s3), .v (.string ⟨#[46]⟩)] h (fun r h' => r = .v (.int .i64 (-1)) ∧ h' = h) :=
 acalls_pure (by kernel_rfl) [.string s3, .string ⟨#[46]⟩] rfl (fun w => (Tryz.stringslite_Index_one s3 46 w).mono fun e w' ⟨h1, h2⟩ => ⟨by rw [h1]; rfl, by rw [h2]; exact bel_id w⟩) h
theorem c_cutL3 (h : Hp) : ACalls Tryz.prog 242 [.v (.string s3), .v (.string ⟨#[46]⟩)] h (fun r h' => r = .tup [.v (.string s3), .v (.string ⟨#[]⟩), .v (.bool false)] ∧ h' = h) := by
 have h1 := fun h => c_index3 h
 refine gE Tryz.func242 rfl (by kernel_rfl) 21 rfl fun c => ?_
 (repeat (first | refine gO rfl ?_ | ((first | refine gR ?_ | (with_reducible refine wM ?_ ?_) | ((with_reducible refine xS ?_); refine uD 3 zM30 zP1HE zP1HP 23 rfl (by kernel_rfl) ?_)) <;> ((try with_reducible intro K1 hK1); simp only [go_sem, ↓reduceIte, reduceCtorEq, nA, nB, nC, nD, nE, nF, Int.reduceBEq, Int.reduceTMod, Int.reduceTDiv, Int.reduceMul, Int.reduceBNe, Int.reduceLT, Int.reduceLE, Int.reduceAdd, Int.reduceSub, Int.reduceNeg, decide_true, decide_false, Bool.true_and, Bool.false_and, Bool.and_true, Bool.and_false, Bool.or_false, Bool.or_true, Bool.true_or, Bool.false_or, Bool.not_true, Bool.not_false, true_implies, false_implies, true_and, and_true, Int.reduceToNat] <;> and_intros <;> first | (apply hK1; clear hK1 K1) | (intros; first | omega | decide) | skip)) | (refine awp_cond (t := _) rfl (fun hq => ?_) (fun hq => ?_) <;> first | (exact absurd hq (by decide)) | (cases hq; done) | (clear hq)) | (refine awp_un 8 ?_) | (with_reducible exact rfl) | (with_reducible exact trivial) | ((with_reducible show uside _); first | exact True.intro | exact rfl) | ((with_reducible show opS _ _); exact True.intro) | (refine ⟨AV.v (.bool true), rfl, hK1 _ ?_⟩; clear hK1 K1) | (refine (h1 _).mono ?_; rintro _ hz ⟨rfl, hh⟩; (first | (refine hK1 _ ?_) | (refine ⟨rfl, hK1 _ ?_⟩)); clear hK1 K1; rw [hh]; clear hh hz)))
 simp only [Tryz.results242, go_sem, ↓reduceIte, reduceCtorEq, nA, nB, nC, nD, nE, nF]
 exact ⟨_, _, Weak.refl _, Hp.le.refl _, rfl, rfl⟩
theorem c_cut3 (h : Hp) : ACalls Tryz.prog 220 [.v (.string s3), .v (.string ⟨#[46]⟩)] h (fun r h' => r = .tup [.v (.string s3), .v (.string ⟨#[]⟩), .v (.bool false)] ∧ h' = h) := by
 have h1 := fun h => c_cutL3 h
 refine gE Tryz.func220 rfl (by kernel_rfl) 11 rfl fun c => ?_
 (repeat (first | refine gO rfl ?_ | (refine gR fun K1 hK1 => ?_; simp only [go_sem, ↓reduceIte, reduceCtorEq, nA, nB, nC, nD, nE, nF, Int.reduceBEq, Int.reduceTMod, Int.reduceTDiv, Int.reduceMul, Int.reduceBNe, Int.reduceLT, Int.reduceLE, Int.reduceAdd, Int.reduceSub, Int.reduceNeg, decide_true, decide_false, Bool.true_and, Bool.false_and, Bool.and_true, Bool.and_false, Bool.or_false, Bool.or_true, Bool.true_or, Bool.false_or, Bool.not_true, Bool.not_false, true_implies, false_implies, true_and, and_true, Int.reduceToNat] <;> and_intros <;> first | (apply hK1; clear hK1 K1) | (intros; first | omega | decide) | skip) | (refine awp_cond (t := _) rfl (fun hq => ?_) (fun hq => ?_) <;> first | (exact absurd hq (by decide)) | (cases hq; done) | (clear hq)) | (refine awp_un 8 ?_) | (with_reducible exact rfl) | (with_reducible exact trivial) | ((with_reducible show uside _); first | exact True.intro | exact rfl) | ((with_reducible show opS _ _); exact True.intro) | (refine ⟨AV.v (.bool true), rfl, hK1 _ ?_⟩; clear hK1 K1) | (refine (h1 _).mono ?_; rintro _ hz ⟨rfl, hh⟩; (first | (refine hK1 _ ?_) | (refine ⟨rfl, hK1 _ ?_⟩)); clear hK1 K1; rw [hh]; clear hh hz)))
 simp only [Tryz.results220, go_sem, ↓reduceIte, reduceCtorEq, nA, nB, nC, nD, nE, nF]
 exact ⟨_, _, Weak.refl _, Hp.le.refl _, rfl, rfl⟩
theorem c_isName3 (h : Hp) : ACalls Tryz.prog 139 [.v (.string s3)] h (fun x h' => x = .v (.bool false) ∧ h' = h) := by
 have h2 := fun h => a_isKey s3 (by decide) h
 rw [show keyB s3 = false by decide] at h2
 refine gE Tryz.func139 rfl (by kernel_rfl) 9 rfl fun c => ?_
 (repeat (first | refine gO rfl ?_ | (refine gR fun K1 hK1 => ?_; simp only [go_sem, ↓reduceIte, reduceCtorEq, nA, nB, nC, nD, nE, nF, Int.reduceBEq, Int.reduceTMod, Int.reduceTDiv, Int.reduceMul, Int.reduceBNe, Int.reduceLT, Int.reduceLE, Int.reduceAdd, Int.reduceSub, Int.reduceNeg, decide_true, decide_false, Bool.true_and, Bool.false_and, Bool.and_true, Bool.and_false, Bool.or_false, Bool.or_true, Bool.true_or, Bool.false_or, Bool.not_true, Bool.not_false, true_implies, false_implies, true_and, and_true, Int.reduceToNat] <;> and_intros <;> first | (apply hK1; clear hK1 K1) | (intros; first | omega | decide) | skip) | (refine awp_cond (t := _) rfl (fun hq => ?_) (fun hq => ?_) <;> first | (exact absurd hq (by decide)) | (cases hq; done) | (clear hq)) | (refine awp_un 8 ?_) | (with_reducible exact rfl) | (with_reducible exact trivial) | ((with_reducible show uside _); first | exact True.intro | exact rfl) | ((with_reducible show opS _ _); exact True.intro) | (refine ⟨AV.v (.bool true), rfl, hK1 _ ?_⟩; clear hK1 K1) | (refine (h2 _).mono ?_; rintro _ hz ⟨rfl, hh⟩; (first | (refine hK1 _ ?_) | (refine ⟨rfl, hK1 _ ?_⟩)); clear hK1 K1; rw [hh]; clear hh hz)))
 simp only [Tryz.results139, go_sem, ↓reduceIte, reduceCtorEq, nA, nB, nC, nD, nE, nF]
 exact ⟨_, _, Weak.refl _, Hp.le.refl _, rfl, rfl⟩
theorem c_refOf3 (h : Hp) : ACalls Tryz.prog 196 [.v (.string s3), nl] h (fun x h' => x = .tup [.agg [vS s0, vS s3], .v (.bool false)] ∧ h' = h) := by
 have h1 := fun h => c_cut3 h
 have h2 := fun h => c_isName3 h
 have h3 := fun s h => c_hasNil s h
 unfold nl vS s0 at *
 refine gE Tryz.func196 rfl (by kernel_rfl) 35 rfl fun c => ?_
 (repeat (first | refine gO rfl ?_ | (refine gM zM35 fun K1 hK1 => ?_; simp only [go_sem, ↓reduceIte, reduceCtorEq, nA, nB, nC, nD, nE, nF, Int.reduceBEq, Int.reduceTMod, Int.reduceTDiv, Int.reduceMul, Int.reduceBNe, Int.reduceLT, Int.reduceLE, Int.reduceAdd, Int.reduceSub, Int.reduceNeg, decide_true, decide_false, Bool.true_and, Bool.false_and, Bool.and_true, Bool.and_false, Bool.or_false, Bool.or_true, Bool.true_or, Bool.false_or, Bool.not_true, Bool.not_false, true_implies, false_implies, true_and, and_true, Int.reduceToNat] <;> and_intros <;> first | (apply hK1; clear hK1 K1) | (intros; first | omega | decide) | skip) | (refine awp_cond (t := _) rfl (fun hq => ?_) (fun hq => ?_) <;> first | (exact absurd hq (by decide)) | (cases hq; done) | (clear hq)) | (refine awp_un 8 ?_) | (with_reducible exact rfl) | (with_reducible exact trivial) | ((with_reducible show uside _); first | exact True.intro | exact rfl) | ((with_reducible show opS _ _); exact True.intro) | (refine ⟨AV.v (.bool true), rfl, hK1 _ ?_⟩; clear hK1 K1) | (refine (h1 _).mono ?_; rintro _ hz ⟨rfl, hh⟩; (first | (refine hK1 _ ?_) | (refine ⟨rfl, hK1 _ ?_⟩)); clear hK1 K1; rw [hh]; clear hh hz) | (refine (h2 _).mono ?_; rintro _ hz ⟨rfl, hh⟩; (first | (refine hK1 _ ?_) | (refine ⟨rfl, hK1 _ ?_⟩)); clear hK1 K1; rw [hh]; clear hh hz) | (refine (h3 _ _).mono ?_; rintro _ hz ⟨rfl, hh⟩; (first | (refine hK1 _ ?_) | (refine ⟨rfl, hK1 _ ?_⟩)); clear hK1 K1; rw [hh]; clear hh hz)))
 intro p hp
 refine hK1 _ ?_; clear hK1 K1
 (repeat (first | refine gO rfl ?_ | (refine gM zM35 fun K1 hK1 => ?_; simp only [go_sem, ↓reduceIte, reduceCtorEq, nA, nB, nC, nD, nE, nF, Int.reduceBEq, Int.reduceTMod, Int.reduceTDiv, Int.reduceMul, Int.reduceBNe, Int.reduceLT, Int.reduceLE, Int.reduceAdd, Int.reduceSub, Int.reduceNeg, decide_true, decide_false, Bool.true_and, Bool.false_and, Bool.and_true, Bool.and_false, Bool.or_false, Bool.or_true, Bool.true_or, Bool.false_or, Bool.not_true, Bool.not_false, true_implies, false_implies, true_and, and_true, Int.reduceToNat] <;> and_intros <;> first | (apply hK1; clear hK1 K1) | (intros; first | omega | decide) | skip) | (refine awp_cond (t := _) rfl (fun hq => ?_) (fun hq => ?_) <;> first | (exact absurd hq (by decide)) | (cases hq; done) | (clear hq)) | (refine awp_un 8 ?_) | (with_reducible exact rfl) | (with_reducible exact trivial) | ((with_reducible show uside _); first | exact True.intro | exact rfl) | ((with_reducible show opS _ _); exact True.intro) | (refine ⟨AV.v (.bool true), rfl, hK1 _ ?_⟩; clear hK1 K1) | (refine (h1 _).mono ?_; rintro _ hz ⟨rfl, hh⟩; (first | (refine hK1 _ ?_) | (refine ⟨rfl, hK1 _ ?_⟩)); clear hK1 K1; rw [hh]; clear hh hz) | (refine (h2 _).mono ?_; rintro _ hz ⟨rfl, hh⟩; (first | (refine hK1 _ ?_) | (refine ⟨rfl, hK1 _ ?_⟩)); clear hK1 K1; rw [hh]; clear hh hz) | (refine (h3 _ _).mono ?_; rintro _ hz ⟨rfl, hh⟩; (first | (refine hK1 _ ?_) | (refine ⟨rfl, hK1 _ ?_⟩)); clear hK1 K1; rw [hh]; clear hh hz)))
 simp only [Tryz.results196, go_sem, ↓reduceIte, reduceCtorEq, nA, nB, nC, nD, nE, nF]
 exact ⟨_, h, Weak.refl _, hle_obj hp, rfl, rfl⟩
abbrev zP1IE : List Nat := [0, 1, 2, 3, 4, 5, 6, 7, 8]
abbrev zP1IP : List (Nat × List Nat × List Nat) := [(9, [], [10, 11, 12]), (14, [], [15])]
abbrev zP1JE : List Nat := [0, 1, 2, 3, 4, 5, 6]
abbrev zP1JP : List (Nat × List Nat × List Nat) := [(8, [], [])]
abbrev zP1KE : List Nat := [0, 1, 2, 3, 4, 5, 6, 7, 8]
abbrev zP1KP : List (Nat × List Nat × List Nat) := [(9, [], [10, 11, 12]), (14, [], [15])]
attribute [go_sem] zP1IE zP1IP zP1JE zP1JP zP1KE zP1KP
open Go.RowKit in
theorem w_number3 (w : World) : Calls Tryz.prog 243 #[.string s3, .int .i64 10] w fun e w' => e = .returned (.tuple #[.int .i64 3, .bool true]) ∧ Below w.heap.size w w' := by
 have hb0 : s3.toList = [51] := by rw [Lib.toList_data]; rfl
 have hb1 : s3.toList.isEmpty = false := by rw [hb0]; rfl
 have hb2 : ¬ s3.toList = [] := by rw [hb0]; simp
 have mixed : Tryz.prog.follows .mixedOrders = true := by kernel_rfl
 have hz : s3.size = 1 := rfl
 have hx0 : (s3[0]'(by decide)).toNat = 51 := rfl
 have hx1 : ((s3[0]'(by decide)).toNat : Int) = 51 := rfl
 clear hb0
 have et : (⟨(Lib.trimPrefix s3.data.toList (⟨#[45]⟩ : ByteArray).data.toList).toArray⟩ : ByteArray) = s3 := rfl
 go_enter Tryz.func243, Tryz.ntmps243
 go_wp2_with fail
 refine (Tryz.strings_TrimPrefix s3 ⟨#[45]⟩ w).mono ?_
 rintro e w' ⟨rfl, hw⟩
 rw [hw, et]
 clear hw w'
 go_wp2_with fail
 go_loopg [7] 1 (fun g s7 wx => s7 = .int .i64 (1 - g : Int) ∧ wx = w ∧ g ≤ 1)
 case atStart => exact ⟨rfl, rfl, by omega⟩
 case round =>
  obtain ⟨rfl, rfl, hg⟩ := hrel
  cases gk with
  | zero =>
   go_wp2_with fail
   refine (Tryz.strconv_Atoi s3 3 (by decide) (by decide) _).mono ?_
   rintro e w' ⟨rfl, t, hw⟩
   have HB := Lib.hid (Lib.bytesWorld_below wr 5 t)
   rw [← hw] at HB
   clear hw
   go_wp2_with fail
   go_region_o
   all_goals (go_wp2_with fail; go_ret2; exact ⟨rfl, Below.drew HB.out⟩)
  | succ g =>
   obtain rfl : g = 0 := by omega
   go_wp2_with fail
   go_roundg 0
   case measure => omega
   case rel => exact ⟨rfl, rfl, by omega⟩
theorem c_number3 (h : Hp) : ACalls Tryz.prog 243 [.v (.string s3), .v (.int .i64 10)] h (fun r h' => r = .tup [.v (.int .i64 3), .v (.bool true)] ∧ h' = h) :=
 acalls_pureT (by kernel_rfl) [.string s3, .int .i64 10] [.int .i64 3, .bool true] (by simp [Value.oneCell']) (fun w => w_number3 w) h
def cdC : List AV := [vI 4, nl, vS s0, vS sN, vS sG, vI 2, vS s0, vI 3, vB false, vS s0, vS s0]
def endH (r : Nat) (h : Hp) : Hp := ⟨upd h.H r (some (.cells (crC sEnd s0 5 5))), h.T⟩
theorem c_test (r : Nat) (h : Hp) (hr : h.H r = some (.cells (crC sRow sN 0 1))) : ACalls Tryz.prog 263 [.ptr r 0] h (fun x h' => x = .agg cdC ∧ h' = endH r h) := by
 have r1 := fun h => c_refOf h
 have n1 := c_next r sRow sN sG s0 0 1 2 3 h hr (c_tok1 h)
 have i1 := fun h => c_isSign h
 have n2 := fun h hr => c_next r sG s0 sRow s3 2 3 4 5 h hr (c_tok3 h)
 have u1 := fun h => c_number3 h
 have r2 := fun h => c_refOf3 h
 have n3 := fun h hr => c_next r sRow s3 sEnd s0 4 5 5 5 h hr (c_tok5 h)
 have e1 : (sRow == ⟨#[114, 111, 119]⟩) = true := by decide
 have e2 : (sRow == ⟨#[119, 111, 114, 100, 115]⟩) = false := by decide
 have e3 : (s3 == ⟨#[116, 114, 117, 101]⟩) = false := by decide
 have e4 : (s3 == ⟨#[102, 97, 108, 115, 101]⟩) = false := by decide
 unfold endH cdC
 unfold crC vS vI vB nl s0 at *
 refine gE Tryz.func263 rfl (by kernel_rfl) 143 rfl fun c => ?_
 (repeat (first | refine gO rfl ?_ | ((first | refine gM zM36 ?_ | (with_reducible refine wM ?_ ?_) | ((with_reducible refine xS ?_); refine uF 1 zM36 13 zP1IE zP1IP 144 rfl (by kernel_rfl) ?_) | ((with_reducible refine xS ?_); refine uF 7 zM36 7 zP1JE zP1JP 144 rfl (by kernel_rfl) ?_) | ((with_reducible refine xS ?_); refine uF 10 zM36 13 zP1KE zP1KP 144 rfl (by kernel_rfl) ?_)) <;> ((try with_reducible intro K1 hK1); simp only [go_sem, ↓reduceIte, reduceCtorEq, nA, nB, nC, nD, nE, nF, Int.reduceBEq, Int.reduceTMod, Int.reduceTDiv, Int.reduceMul, Int.reduceBNe, Int.reduceLT, Int.reduceLE, Int.reduceAdd, Int.reduceSub, Int.reduceNeg, decide_true, decide_false, Bool.true_and, Bool.false_and, Bool.and_true, Bool.and_false, Bool.or_false, Bool.or_true, Bool.true_or, Bool.false_or, Bool.not_true, Bool.not_false, true_implies, false_implies, true_and, and_true, Int.reduceToNat, hr, e1, e2, e3, e4, upd_same, upd_upd] <;> and_intros <;> first | (apply hK1; clear hK1 K1) | (intros; first | omega | decide) | skip)) | (refine awp_cond (t := _) rfl (fun hq => ?_) (fun hq => ?_) <;> first | (exact absurd hq (by decide)) | (cases hq; done) | (clear hq)) | (refine awp_un 8 ?_) | (with_reducible exact rfl) | (with_reducible exact trivial) | ((with_reducible show uside _); first | exact True.intro | exact rfl) | ((with_reducible show opS _ _); exact True.intro) | (refine ⟨AV.v (.bool true), rfl, hK1 _ ?_⟩; clear hK1 K1) | (refine (r1 _).mono ?_; rintro _ hz ⟨rfl, hh⟩; (first | (refine hK1 _ ?_) | (refine ⟨rfl, hK1 _ ?_⟩)); clear hK1 K1; rw [hh]; clear hh hz) | (refine (n1).mono ?_; rintro _ hz ⟨rfl, hh⟩; (first | (refine hK1 _ ?_) | (refine ⟨rfl, hK1 _ ?_⟩)); clear hK1 K1; rw [hh]; clear hh hz) | (refine (i1 _).mono ?_; rintro _ hz ⟨rfl, hh⟩; (first | (refine hK1 _ ?_) | (refine ⟨rfl, hK1 _ ?_⟩)); clear hK1 K1; rw [hh]; clear hh hz) | (refine (n2 _ (upd_same _ _ _)).mono ?_; rintro _ hz ⟨rfl, hh⟩; (first | (refine hK1 _ ?_) | (refine ⟨rfl, hK1 _ ?_⟩)); clear hK1 K1; rw [hh]; clear hh hz) | (refine (u1 _).mono ?_; rintro _ hz ⟨rfl, hh⟩; (first | (refine hK1 _ ?_) | (refine ⟨rfl, hK1 _ ?_⟩)); clear hK1 K1; rw [hh]; clear hh hz) | (refine (r2 _).mono ?_; rintro _ hz ⟨rfl, hh⟩; (first | (refine hK1 _ ?_) | (refine ⟨rfl, hK1 _ ?_⟩)); clear hK1 K1; rw [hh]; clear hh hz) | (refine (n3 _ (upd_same _ _ _)).mono ?_; rintro _ hz ⟨rfl, hh⟩; (first | (refine hK1 _ ?_) | (refine ⟨rfl, hK1 _ ?_⟩)); clear hK1 K1; rw [hh]; clear hh hz)))
 simp only [Tryz.results263, go_sem, ↓reduceIte, reduceCtorEq, nA, nB, nC, nD, nE, nF]
 exact ⟨_, _, Weak.refl _, Hp.le.refl _, rfl, rfl⟩
abbrev zP1LE : List Nat := [0, 1, 2, 3, 4, 5, 6, 7, 8, 9, 10, 11, 12, 13]
abbrev zP1LP : List (Nat × List Nat × List Nat) := [(14, [4, 8, 12], [15, 16, 17])]
attribute [go_sem] zP1LE zP1LP
theorem c_not (r : Nat) (h : Hp) (hr : h.H r = some (.cells (crC sRow sN 0 1))) : ACalls Tryz.prog 255 ([.ptr r 0] ++ []) h (fun x h' => x = .agg cdC ∧ h' = endH r h) := by
 have i1 := c_isRow r sRow sN ⟨#[110, 111, 116]⟩ 0 1 true h hr (by decide) (by decide)
 have t1 := c_test r h hr
 have e1 : (sRow == ⟨#[40]⟩) = false := by decide
 unfold endH cdC at *
 unfold crC vS vI vB nl s0 at *
 refine gE Tryz.func255 rfl (by kernel_rfl) 52 rfl fun c => ?_
 (repeat (first | refine gO rfl ?_ | (refine gM zM37 fun K1 hK1 => ?_; simp only [go_sem, ↓reduceIte, reduceCtorEq, nA, nB, nC, nD, nE, nF, Int.reduceBEq, Int.reduceTMod, Int.reduceTDiv, Int.reduceMul, Int.reduceBNe, Int.reduceLT, Int.reduceLE, Int.reduceAdd, Int.reduceSub, Int.reduceNeg, decide_true, decide_false, Bool.true_and, Bool.false_and, Bool.and_true, Bool.and_false, Bool.or_false, Bool.or_true, Bool.true_or, Bool.false_or, Bool.not_true, Bool.not_false, true_implies, false_implies, true_and, and_true, Int.reduceToNat, hr, e1] <;> and_intros <;> first | (apply hK1; clear hK1 K1) | (intros; first | omega | decide) | skip) | (refine awp_cond (t := _) rfl (fun hq => ?_) (fun hq => ?_) <;> first | (exact absurd hq (by decide)) | (cases hq; done) | (clear hq)) | (refine awp_un 8 ?_) | (with_reducible exact rfl) | (with_reducible exact trivial) | ((with_reducible show uside _); first | exact True.intro | exact rfl) | ((with_reducible show opS _ _); exact True.intro) | (refine ⟨AV.v (.bool true), rfl, hK1 _ ?_⟩; clear hK1 K1) | (refine (i1).mono ?_; rintro _ hz ⟨rfl, hh⟩; (first | (refine hK1 _ ?_) | (refine ⟨rfl, hK1 _ ?_⟩)); clear hK1 K1; rw [hh]; clear hh hz) | (refine (t1).mono ?_; rintro _ hz ⟨rfl, hh⟩; (first | (refine hK1 _ ?_) | (refine ⟨rfl, hK1 _ ?_⟩)); clear hK1 K1; rw [hh]; clear hh hz)))
 simp only [Tryz.results255, go_sem, ↓reduceIte, reduceCtorEq, nA, nB, nC, nD, nE, nF]
 exact ⟨_, _, Weak.refl _, Hp.le.refl _, rfl, rfl⟩
theorem c_sev (f : Nat) (k : Int) (w : ByteArray) (r : Nat) (h : Hp) (hw : (s0 == w) = false) (hf : ACalls Tryz.prog f ([.ptr r 0] ++ []) h (fun x h' => x = .agg cdC ∧ h' = endH r h)) :
  ACalls Tryz.prog 240 [.ptr r 0, .v (.int .i64 k), .v (.string w), .bfn f [.ptr r 0]] h (fun x h' => x = .agg cdC ∧ h' = endH r h) := by
 have i1 := c_isRow r sEnd s0 w 5 5 false (endH r h) (upd_same _ _ _) (by decide) hw
 unfold endH cdC at *
 unfold crC vS vI vB nl s0 at *
 refine gE Tryz.func240 rfl (by kernel_rfl) 41 rfl fun c => ?_
 (repeat (first | refine gO rfl ?_ | (refine gM zM38 fun K1 hK1 => ?_; simp only [go_sem, ↓reduceIte, reduceCtorEq, nA, nB, nC, nD, nE, nF, Int.reduceBEq, Int.reduceTMod, Int.reduceTDiv, Int.reduceMul, Int.reduceBNe, Int.reduceLT, Int.reduceLE, Int.reduceAdd, Int.reduceSub, Int.reduceNeg, decide_true, decide_false, Bool.true_and, Bool.false_and, Bool.and_true, Bool.and_false, Bool.or_false, Bool.or_true, Bool.true_or, Bool.false_or, Bool.not_true, Bool.not_false, true_implies, false_implies, true_and, and_true, Int.reduceToNat] <;> and_intros <;> first | (apply hK1; clear hK1 K1) | (intros; first | omega | decide) | skip) | (refine awp_cond (t := _) rfl (fun hq => ?_) (fun hq => ?_) <;> first | (exact absurd hq (by decide)) | (cases hq; done) | (clear hq)) | (refine awp_un 8 ?_) | (with_reducible exact rfl) | (with_reducible exact trivial) | ((with_reducible show uside _); first | exact True.intro | exact rfl) | ((with_reducible show opS _ _); exact True.intro) | (refine ⟨AV.v (.bool true), rfl, hK1 _ ?_⟩; clear hK1 K1) | (refine (hf).mono ?_; rintro _ hz ⟨rfl, hh⟩; (first | (refine hK1 _ ?_) | (refine ⟨rfl, hK1 _ ?_⟩)); clear hK1 K1; rw [hh]; clear hh hz) | (refine (i1).mono ?_; rintro _ hz ⟨rfl, hh⟩; (first | (refine hK1 _ ?_) | (refine ⟨rfl, hK1 _ ?_⟩)); clear hK1 K1; rw [hh]; clear hh hz)))
 simp only [Tryz.results240, go_sem, ↓reduceIte, reduceCtorEq, nA, nB, nC, nD, nE, nF]
 exact ⟨_, _, Weak.refl _, Hp.le.refl _, rfl, rfl⟩
theorem c_and (r : Nat) (h : Hp) (hr : h.H r = some (.cells (crC sRow sN 0 1))) : ACalls Tryz.prog 241 ([.ptr r 0] ++ []) h (fun x h' => x = .agg cdC ∧ h' = endH r h) := by
 have t1 := c_sev 255 1 ⟨#[97, 110, 100]⟩ r h (by decide) (c_not r h hr)
 unfold endH cdC at *
 unfold crC vS vI vB nl s0 at *
 refine gE Tryz.func241 rfl (by kernel_rfl) 6 rfl fun c => ?_
 (repeat (first | refine gO rfl ?_ | (refine gM zM39 fun K1 hK1 => ?_; simp only [go_sem, ↓reduceIte, reduceCtorEq, nA, nB, nC, nD, nE, nF, Int.reduceBEq, Int.reduceTMod, Int.reduceTDiv, Int.reduceMul, Int.reduceBNe, Int.reduceLT, Int.reduceLE, Int.reduceAdd, Int.reduceSub, Int.reduceNeg, decide_true, decide_false, Bool.true_and, Bool.false_and, Bool.and_true, Bool.and_false, Bool.or_false, Bool.or_true, Bool.true_or, Bool.false_or, Bool.not_true, Bool.not_false, true_implies, false_implies, true_and, and_true, Int.reduceToNat] <;> and_intros <;> first | (apply hK1; clear hK1 K1) | (intros; first | omega | decide) | skip) | (refine awp_cond (t := _) rfl (fun hq => ?_) (fun hq => ?_) <;> first | (exact absurd hq (by decide)) | (cases hq; done) | (clear hq)) | (refine awp_un 8 ?_) | (with_reducible exact rfl) | (with_reducible exact trivial) | ((with_reducible show uside _); first | exact True.intro | exact rfl) | ((with_reducible show opS _ _); exact True.intro) | (refine ⟨AV.v (.bool true), rfl, hK1 _ ?_⟩; clear hK1 K1) | (refine (t1).mono ?_; rintro _ hz ⟨rfl, hh⟩; (first | (refine hK1 _ ?_) | (refine ⟨rfl, hK1 _ ?_⟩)); clear hK1 K1; rw [hh]; clear hh hz)))
 simp only [Tryz.results241, go_sem, ↓reduceIte, reduceCtorEq, nA, nB, nC, nD, nE, nF]
 exact ⟨_, _, Weak.refl _, Hp.le.refl _, rfl, rfl⟩
theorem c_or (r : Nat) (h : Hp) (hr : h.H r = some (.cells (crC sRow sN 0 1))) : ACalls Tryz.prog 218 [.ptr r 0] h (fun x h' => x = .agg cdC ∧ h' = endH r h) := by
 have t1 := c_sev 241 0 ⟨#[111, 114]⟩ r h (by decide) (c_and r h hr)
 unfold endH cdC at *
 unfold crC vS vI vB nl s0 at *
 refine gE Tryz.func218 rfl (by kernel_rfl) 6 rfl fun c => ?_
 (repeat (first | refine gO rfl ?_ | (refine gM zM39 fun K1 hK1 => ?_; simp only [go_sem, ↓reduceIte, reduceCtorEq, nA, nB, nC, nD, nE, nF, Int.reduceBEq, Int.reduceTMod, Int.reduceTDiv, Int.reduceMul, Int.reduceBNe, Int.reduceLT, Int.reduceLE, Int.reduceAdd, Int.reduceSub, Int.reduceNeg, decide_true, decide_false, Bool.true_and, Bool.false_and, Bool.and_true, Bool.and_false, Bool.or_false, Bool.or_true, Bool.true_or, Bool.false_or, Bool.not_true, Bool.not_false, true_implies, false_implies, true_and, and_true, Int.reduceToNat] <;> and_intros <;> first | (apply hK1; clear hK1 K1) | (intros; first | omega | decide) | skip) | (refine awp_cond (t := _) rfl (fun hq => ?_) (fun hq => ?_) <;> first | (exact absurd hq (by decide)) | (cases hq; done) | (clear hq)) | (refine awp_un 8 ?_) | (with_reducible exact rfl) | (with_reducible exact trivial) | ((with_reducible show uside _); first | exact True.intro | exact rfl) | ((with_reducible show opS _ _); exact True.intro) | (refine ⟨AV.v (.bool true), rfl, hK1 _ ?_⟩; clear hK1 K1) | (refine (t1).mono ?_; rintro _ hz ⟨rfl, hh⟩; (first | (refine hK1 _ ?_) | (refine ⟨rfl, hK1 _ ?_⟩)); clear hK1 K1; rw [hh]; clear hh hz)))
 simp only [Tryz.results218, go_sem, ↓reduceIte, reduceCtorEq, nA, nB, nC, nD, nE, nF]
 exact ⟨_, _, Weak.refl _, Hp.le.refl _, rfl, rfl⟩
theorem c_readCond (h : Hp) : ACalls Tryz.prog 192 [.v (.string sC), nl] h (fun x h' => x = .tup [.agg cdC, .v (.int .i64 0), .v (.int .i64 0), .v (.bool true)] ∧ h' = h) := by
 have n1 := fun r h hr => c_next r s0 s0 sRow sN 0 0 0 1 h hr (c_tok0 h)
 have o1 := fun r h hr => c_or r h hr
 have e1 : (sEnd == ⟨#[101, 110, 100]⟩) = true := by decide
 unfold endH cdC at *
 unfold crC vS vI vB nl s0 at *
 refine gE Tryz.func192 rfl (by kernel_rfl) 44 rfl fun c => ?_
 (repeat (first | refine gO rfl ?_ | ((first | refine gM zM3A ?_ | (with_reducible refine wM ?_ ?_) | ((with_reducible refine xS ?_); refine uD 6 zM3A zP1LE zP1LP 46 rfl (by kernel_rfl) ?_)) <;> ((try with_reducible intro K1 hK1); simp only [go_sem, ↓reduceIte, reduceCtorEq, nA, nB, nC, nD, nE, nF, Int.reduceBEq, Int.reduceTMod, Int.reduceTDiv, Int.reduceMul, Int.reduceBNe, Int.reduceLT, Int.reduceLE, Int.reduceAdd, Int.reduceSub, Int.reduceNeg, decide_true, decide_false, Bool.true_and, Bool.false_and, Bool.and_true, Bool.and_false, Bool.or_false, Bool.or_true, Bool.true_or, Bool.false_or, Bool.not_true, Bool.not_false, true_implies, false_implies, true_and, and_true, Int.reduceToNat, e1] <;> and_intros <;> first | (apply hK1; clear hK1 K1) | (intros; first | omega | decide) | skip)) | (refine awp_cond (t := _) rfl (fun hq => ?_) (fun hq => ?_) <;> first | (exact absurd hq (by decide)) | (cases hq; done) | (clear hq)) | (refine awp_un 8 ?_) | (with_reducible exact rfl) | (with_reducible exact trivial) | ((with_reducible show uside _); first | exact True.intro | exact rfl) | ((with_reducible show opS _ _); exact True.intro) | (refine ⟨AV.v (.bool true), rfl, hK1 _ ?_⟩; clear hK1 K1)))
 intro r hr
 refine hK1 _ ?_; clear hK1 K1
 (repeat (first | refine gO rfl ?_ | ((first | refine gM zM3A ?_ | (with_reducible refine wM ?_ ?_) | ((with_reducible refine xS ?_); refine uD 6 zM3A zP1LE zP1LP 46 rfl (by kernel_rfl) ?_)) <;> ((try with_reducible intro K1 hK1); simp only [go_sem, ↓reduceIte, reduceCtorEq, nA, nB, nC, nD, nE, nF, Int.reduceBEq, Int.reduceTMod, Int.reduceTDiv, Int.reduceMul, Int.reduceBNe, Int.reduceLT, Int.reduceLE, Int.reduceAdd, Int.reduceSub, Int.reduceNeg, decide_true, decide_false, Bool.true_and, Bool.false_and, Bool.and_true, Bool.and_false, Bool.or_false, Bool.or_true, Bool.true_or, Bool.false_or, Bool.not_true, Bool.not_false, true_implies, false_implies, true_and, and_true, Int.reduceToNat, e1, upd_same, upd_upd] <;> and_intros <;> first | (apply hK1; clear hK1 K1) | (intros; first | omega | decide) | skip)) | (refine awp_cond (t := _) rfl (fun hq => ?_) (fun hq => ?_) <;> first | (exact absurd hq (by decide)) | (cases hq; done) | (clear hq)) | (refine awp_un 8 ?_) | (with_reducible exact rfl) | (with_reducible exact trivial) | ((with_reducible show uside _); first | exact True.intro | exact rfl) | ((with_reducible show opS _ _); exact True.intro) | (refine ⟨AV.v (.bool true), rfl, hK1 _ ?_⟩; clear hK1 K1) | (refine (n1 r _ (upd_same _ _ _)).mono ?_; rintro _ hz ⟨rfl, hh⟩; (first | (refine hK1 _ ?_) | (refine ⟨rfl, hK1 _ ?_⟩)); clear hK1 K1; rw [hh]; clear hh hz) | (refine (o1 r _ (upd_same _ _ _)).mono ?_; rintro _ hz ⟨rfl, hh⟩; (first | (refine hK1 _ ?_) | (refine ⟨rfl, hK1 _ ?_⟩)); clear hK1 K1; rw [hh]; clear hh hz)))
 simp only [Tryz.results192, go_sem, ↓reduceIte, reduceCtorEq, nA, nB, nC, nD, nE, nF]
 exact ⟨_, h, Weak.refl _, hle_obj hr, rfl, rfl⟩
abbrev zP1ME : List Nat := [0, 1, 2, 3, 4, 5, 6, 7, 8, 9, 10, 11, 12]
abbrev zP1MP : List (Nat × List Nat × List Nat) := []
abbrev zP1NE : List Nat := [0, 2, 7, 8]
abbrev zP1NP : List (Nat × List Nat × List Nat) := [(1, [7], []), (3, [7], [4, 5, 6]), (9, [], [10, 11]), (12, [], [])]
attribute [go_sem] zP1ME zP1MP zP1NE zP1NP
def sB : ByteArray := ⟨#[123, 105, 102, 32, 110, 32, 62, 32, 51, 125, 43, 123, 110, 125, 123, 101, 108, 115, 101, 125, 45, 123, 101, 110, 100, 125]⟩
def sB10 : ByteArray := ⟨#[43, 123, 110, 125, 123, 101, 108, 115, 101, 125, 45, 123, 101, 110, 100, 125]⟩
def sB11 : ByteArray := ⟨#[123, 110, 125, 123, 101, 108, 115, 101, 125, 45, 123, 101, 110, 100, 125]⟩
def sB14 : ByteArray := ⟨#[123, 101, 108, 115, 101, 125, 45, 123, 101, 110, 100, 125]⟩
def sB20 : ByteArray := ⟨#[45, 123, 101, 110, 100, 125]⟩
def sB21 : ByteArray := ⟨#[123, 101, 110, 100, 125]⟩
def sIf : ByteArray := ⟨#[105, 102, 32, 110, 32, 62, 32, 51]⟩
def sElse : ByteArray := ⟨#[101, 108, 115, 101]⟩
def sPlus : ByteArray := ⟨#[43]⟩
def sMinus : ByteArray := ⟨#[45]⟩
theorem c_ixAny (s : ByteArray) (n : Int) (hs : Lib.indexAny s.data.toList [123, 125] = n) (h8 : s.size ≤ 1000) (ha : ∀ x ∈ s.data.toList, x.toNat < 128) (h : Hp) : ACalls Tryz.prog 136 [.v (.string s), .v (.string ⟨#[123, 125]⟩)] h (fun r h' => r = .v (.int .i64 n) ∧ h' = h) :=
 acalls_pure (by kernel_rfl) [.string s, .string ⟨#[123, 125]⟩] rfl (fun w => (Tryz.strings_IndexAny_laid s ⟨#[123, 125]⟩ w (by omega) (by decide) (fun j b hb => ha b (List.mem_of_getElem? hb)) (fun j b hb => by
  have hm : b ∈ [(123 : UInt8), 125] := List.mem_of_getElem? hb
  have hall : ∀ x ∈ [(123 : UInt8), 125], x.toNat < 128 := by decide
  exact hall b hm)).mono fun e w' ⟨h1, h2⟩ => ⟨by rw [h1]; show Ending.returned (.int .i64 (Lib.indexAny s.data.toList [123, 125])) = _; rw [hs], h2⟩) h
theorem c_ixByte (s : ByteArray) (n : Int) (hs : Lib.indexByte s.data.toList 125 = n) (h : Hp) : ACalls Tryz.prog 73 [.v (.string s), .v (.int .u8 125)] h (fun r h' => r = .v (.int .i64 n) ∧ h' = h) :=
 acalls_pure (by kernel_rfl) [.string s, .int .u8 125] rfl (fun w => (Tryz.strings_IndexByte s 125 w).mono fun e w' ⟨h1, h2⟩ => ⟨by rw [h1]; show Ending.returned (.int .i64 (Lib.indexByte s.data.toList 125)) = _; rw [hs], by rw [h2]; exact bel_id w⟩) h
theorem c_cutIf (s p x : ByteArray) (b : Bool) (hp : (⟨(Lib.trimPrefix s.data.toList p.data.toList).toArray⟩ : ByteArray) = x ∧ Lib.hasPrefix s.data.toList p.data.toList = b) (h : Hp) : ACalls Tryz.prog 162 [.v (.string s), .v (.string p)] h (fun r h' => r = .tup [.v (.string x), .v (.bool b)] ∧ h' = h) :=
 acalls_pureT (by kernel_rfl) [.string s, .string p] [.string x, .bool b] (by simp [Value.oneCell']) (fun w => (Tryz.strings_CutPrefix s p w).mono fun e w' ⟨h1, h2⟩ => ⟨by rw [h1, hp.1, hp.2], by rw [h2]; exact bel_id w⟩) h
def rdB (i : Int) (k n : Nat) : List AV := [vS sB, vI i, .arr 1 k n, vB false]
theorem c_top1 (r k b1 : Nat) (i : Int) (h : Hp) (hr : h.H r = some (.cells (rdB i k 1))) (hk : h.T k = some (.cont 1 [[.ptr b1 0]])) : ACalls Tryz.prog 159 [.ptr r 0] h (fun x h' => x = .ptr b1 0 ∧ h' = h) := by
 unfold rdB vS vI vB at hr
 refine gE Tryz.func159 rfl (by kernel_rfl) 14 rfl fun c => ?_
 (repeat (first | refine gO rfl ?_ | ((first | refine gR ?_ | (with_reducible refine wM ?_ ?_) | ((with_reducible refine xS ?_); refine uD 1 zM30 zP1ME zP1MP 15 rfl (by kernel_rfl) ?_)) <;> ((try with_reducible intro K1 hK1); simp only [go_sem, ↓reduceIte, reduceCtorEq, nA, nB, nC, nD, nE, nF, Int.reduceBEq, Int.reduceTMod, Int.reduceTDiv, Int.reduceMul, Int.reduceBNe, Int.reduceLT, Int.reduceLE, Int.reduceAdd, Int.reduceSub, Int.reduceNeg, decide_true, decide_false, Bool.true_and, Bool.false_and, Bool.and_true, Bool.and_false, Bool.or_false, Bool.or_true, Bool.true_or, Bool.false_or, Bool.not_true, Bool.not_false, true_implies, false_implies, true_and, and_true, Int.reduceToNat, hr, hk, nc1] <;> and_intros <;> first | (apply hK1; clear hK1 K1) | (intros; first | omega | decide) | skip)) | (refine awp_cond (t := _) rfl (fun hq => ?_) (fun hq => ?_) <;> first | (exact absurd hq (by decide)) | (cases hq; done) | (clear hq)) | (refine awp_un 8 ?_) | (with_reducible exact rfl) | (with_reducible exact trivial) | ((with_reducible show uside _); first | exact True.intro | exact rfl) | ((with_reducible show opS _ _); exact True.intro) | (refine ⟨AV.v (.bool true), rfl, hK1 _ ?_⟩; clear hK1 K1)))
 simp only [Tryz.results159, go_sem, ↓reduceIte, reduceCtorEq, nA, nB, nC, nD, nE, nF]
 exact ⟨_, _, Weak.refl _, Hp.le.refl _, rfl, rfl⟩
theorem nc2 : ((2 : Nat) : Int) = 2 := rfl
theorem c_top2 (r k b1 b2 : Nat) (i : Int) (h : Hp) (hr : h.H r = some (.cells (rdB i k 2))) (hk : h.T k = some (.cont 1 [[.ptr b1 0], [.ptr b2 0]])) : ACalls Tryz.prog 159 [.ptr r 0] h (fun x h' => x = .ptr b2 0 ∧ h' = h) := by
 unfold rdB vS vI vB at hr
 refine gE Tryz.func159 rfl (by kernel_rfl) 14 rfl fun c => ?_
 (repeat (first | refine gO rfl ?_ | ((first | refine gR ?_ | (with_reducible refine wM ?_ ?_) | ((with_reducible refine xS ?_); refine uD 1 zM30 zP1ME zP1MP 15 rfl (by kernel_rfl) ?_)) <;> ((try with_reducible intro K1 hK1); simp only [go_sem, ↓reduceIte, reduceCtorEq, nA, nB, nC, nD, nE, nF, Int.reduceBEq, Int.reduceTMod, Int.reduceTDiv, Int.reduceMul, Int.reduceBNe, Int.reduceLT, Int.reduceLE, Int.reduceAdd, Int.reduceSub, Int.reduceNeg, decide_true, decide_false, Bool.true_and, Bool.false_and, Bool.and_true, Bool.and_false, Bool.or_false, Bool.or_true, Bool.true_or, Bool.false_or, Bool.not_true, Bool.not_false, true_implies, false_implies, true_and, and_true, Int.reduceToNat, hr, hk, nc2] <;> and_intros <;> first | (apply hK1; clear hK1 K1) | (intros; first | omega | decide) | skip)) | (refine awp_cond (t := _) rfl (fun hq => ?_) (fun hq => ?_) <;> first | (exact absurd hq (by decide)) | (cases hq; done) | (clear hq)) | (refine awp_un 8 ?_) | (with_reducible exact rfl) | (with_reducible exact trivial) | ((with_reducible show uside _); first | exact True.intro | exact rfl) | ((with_reducible show opS _ _); exact True.intro) | (refine ⟨AV.v (.bool true), rfl, hK1 _ ?_⟩; clear hK1 K1)))
 simp only [Tryz.results159, go_sem, ↓reduceIte, reduceCtorEq, nA, nB, nC, nD, nE, nF]
 exact ⟨_, _, Weak.refl _, Hp.le.refl _, rfl, rfl⟩
theorem c_addNil (r b : Nat) (x0 x1 x2 x3 x4 x5 x6 x7 x8 x9 x10 x11 x12 x13 x14 x15 x16 x17 x18 els : AV) (n : List AV) (hn : n.length = 19) (h : Hp) (h1 : ACalls Tryz.prog 159 [.ptr r 0] h (fun x h' => x = .ptr b 0 ∧ h' = h)) (hb : h.H b = some (.cells [x0, x1, x2, x3, x4, x5, x6, x7, x8, x9, x10, x11, x12, x13, x14, x15, x16, x17, x18, nl, els])) :
  ACalls Tryz.prog 137 [.ptr r 0, .agg n] h (fun x h' => x = .tup [] ∧ ∃ k, h.T k = none ∧ h' = ⟨upd h.H b (some (.cells [x0, x1, x2, x3, x4, x5, x6, x7, x8, x9, x10, x11, x12, x13, x14, x15, x16, x17, x18, .row 19 [n] (some k), els])), upd h.T k (some (.tail 1))⟩) := by
 have ht : List.take 19 n = n := List.take_of_length_le (by omega)
 unfold nl at *
 refine gE Tryz.func137 rfl (by kernel_rfl) 14 rfl fun c => ?_
 (repeat (first | refine gO rfl ?_ | ((first | refine gR ?_ | (with_reducible refine wM ?_ ?_) | ((with_reducible refine xR ?_); refine uE 1 zM30 zP1NE zP1NP 16 rfl (by kernel_rfl) ?_)) <;> ((try with_reducible intro K1 hK1); simp only [go_sem, ↓reduceIte, reduceCtorEq, nA, nB, nC, nD, nE, nF, Int.reduceBEq, Int.reduceTMod, Int.reduceTDiv, Int.reduceMul, Int.reduceBNe, Int.reduceLT, Int.reduceLE, Int.reduceAdd, Int.reduceSub, Int.reduceNeg, decide_true, decide_false, Bool.true_and, Bool.false_and, Bool.and_true, Bool.and_false, Bool.or_false, Bool.or_true, Bool.true_or, Bool.false_or, Bool.not_true, Bool.not_false, true_implies, false_implies, true_and, and_true, Int.reduceToNat, hb, hn, ht] <;> and_intros <;> first | (apply hK1; clear hK1 K1) | (intros; first | omega | decide) | skip)) | (refine awp_cond (t := _) rfl (fun hq => ?_) (fun hq => ?_) <;> first | (exact absurd hq (by decide)) | (cases hq; done) | (clear hq)) | (refine awp_un 8 ?_) | (with_reducible exact rfl) | (with_reducible exact trivial) | ((with_reducible show uside _); first | exact True.intro | exact rfl) | ((with_reducible show opS _ _); exact True.intro) | (refine ⟨AV.v (.bool true), rfl, hK1 _ ?_⟩; clear hK1 K1) | (refine (h1).mono ?_; rintro _ hz ⟨rfl, hh⟩; (first | (refine hK1 _ ?_) | (refine ⟨rfl, hK1 _ ?_⟩)); clear hK1 K1; rw [hh]; clear hh hz)))
 intro k hk
 refine hK1 _ ?_; clear hK1 K1
 (repeat (first | refine gO rfl ?_ | ((first | refine gR ?_ | (with_reducible refine wM ?_ ?_) | ((with_reducible refine xR ?_); refine uE 1 zM30 zP1NE zP1NP 16 rfl (by kernel_rfl) ?_)) <;> ((try with_reducible intro K1 hK1); simp only [go_sem, ↓reduceIte, reduceCtorEq, nA, nB, nC, nD, nE, nF, Int.reduceBEq, Int.reduceTMod, Int.reduceTDiv, Int.reduceMul, Int.reduceBNe, Int.reduceLT, Int.reduceLE, Int.reduceAdd, Int.reduceSub, Int.reduceNeg, decide_true, decide_false, Bool.true_and, Bool.false_and, Bool.and_true, Bool.and_false, Bool.or_false, Bool.or_true, Bool.true_or, Bool.false_or, Bool.not_true, Bool.not_false, true_implies, false_implies, true_and, and_true, Int.reduceToNat, hb] <;> and_intros <;> first | (apply hK1; clear hK1 K1) | (intros; first | omega | decide) | skip)) | (refine awp_cond (t := _) rfl (fun hq => ?_) (fun hq => ?_) <;> first | (exact absurd hq (by decide)) | (cases hq; done) | (clear hq)) | (refine awp_un 8 ?_) | (with_reducible exact rfl) | (with_reducible exact trivial) | ((with_reducible show uside _); first | exact True.intro | exact rfl) | ((with_reducible show opS _ _); exact True.intro) | (refine ⟨AV.v (.bool true), rfl, hK1 _ ?_⟩; clear hK1 K1)))
 simp only [Tryz.results137, go_sem, ↓reduceIte, reduceCtorEq, nA, nB, nC, nD, nE, nF]
 exact ⟨_, _, Weak.refl _, Hp.le.refl _, rfl, k, hk, rfl⟩
theorem c_addOne (r b q : Nat) (x0 x1 x2 x3 x4 x5 x6 x7 x8 x9 x10 x11 x12 x13 x14 x15 x16 x17 x18 els : AV) (m n : List AV) (hn : n.length = 19) (h : Hp) (h1 : ACalls Tryz.prog 159 [.ptr r 0] h (fun x h' => x = .ptr b 0 ∧ h' = h)) (hb : h.H b = some (.cells [x0, x1, x2, x3, x4, x5, x6, x7, x8, x9, x10, x11, x12, x13, x14, x15, x16, x17, x18, .row 19 [m] (some q), els])) (hq : h.T q = some (.tail 1)) :
  ACalls Tryz.prog 137 [.ptr r 0, .agg n] h (fun x h' => x = .tup [] ∧ h' = ⟨upd h.H b (some (.cells [x0, x1, x2, x3, x4, x5, x6, x7, x8, x9, x10, x11, x12, x13, x14, x15, x16, x17, x18, .row 19 [m, n] (some q), els])), upd h.T q (some (.tail 2))⟩) := by
 have ht : List.take 19 n = n := List.take_of_length_le (by omega)
 refine gE Tryz.func137 rfl (by kernel_rfl) 14 rfl fun c => ?_
 (repeat (first | refine gO rfl ?_ | ((first | refine gR ?_ | (with_reducible refine wM ?_ ?_) | ((with_reducible refine xR ?_); refine uE 1 zM30 zP1NE zP1NP 16 rfl (by kernel_rfl) ?_)) <;> ((try with_reducible intro K1 hK1); simp only [go_sem, ↓reduceIte, reduceCtorEq, nA, nB, nC, nD, nE, nF, Int.reduceBEq, Int.reduceTMod, Int.reduceTDiv, Int.reduceMul, Int.reduceBNe, Int.reduceLT, Int.reduceLE, Int.reduceAdd, Int.reduceSub, Int.reduceNeg, decide_true, decide_false, Bool.true_and, Bool.false_and, Bool.and_true, Bool.and_false, Bool.or_false, Bool.or_true, Bool.true_or, Bool.false_or, Bool.not_true, Bool.not_false, true_implies, false_implies, true_and, and_true, Int.reduceToNat, hb, hn, ht, hq] <;> and_intros <;> first | (apply hK1; clear hK1 K1) | (intros; first | omega | decide) | skip)) | (refine awp_cond (t := _) rfl (fun hq => ?_) (fun hq => ?_) <;> first | (exact absurd hq (by decide)) | (cases hq; done) | (clear hq)) | (refine awp_un 8 ?_) | (with_reducible exact rfl) | (with_reducible exact trivial) | ((with_reducible show uside _); first | exact True.intro | exact rfl) | ((with_reducible show opS _ _); exact True.intro) | (refine ⟨AV.v (.bool true), rfl, hK1 _ ?_⟩; clear hK1 K1) | (refine (h1).mono ?_; rintro _ hz ⟨rfl, hh⟩; (first | (refine hK1 _ ?_) | (refine ⟨rfl, hK1 _ ?_⟩)); clear hK1 K1; rw [hh]; clear hh hz)))
 simp only [Tryz.results137, go_sem, ↓reduceIte, reduceCtorEq, nA, nB, nC, nD, nE, nF]
 exact ⟨_, _, Weak.refl _, Hp.le.refl _, rfl, rfl⟩
end Go.Proofs.YtlaakjlpfgfdkaaGreatDoor
