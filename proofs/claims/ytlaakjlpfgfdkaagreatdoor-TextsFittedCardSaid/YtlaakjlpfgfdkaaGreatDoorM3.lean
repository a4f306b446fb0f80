/- signref1.cutWords in trees. -/
import Derived.Test.YtlaakjlpfgfdkaaGreatDoorM2
import Derived.Lib.AtoiErrMem
namespace Go.Proofs.YtlaakjlpfgfdkaaGreatDoor
open Go
set_option linter.unusedVariables false
set_option linter.unusedSimpArgs false
open Nat renaming reduceAdd → nA, reduceSub → nB, reduceMul → nC, reduceLT → nD, reduceLeDiff → nE, reduceEqDiff → nF, reduceMod → nG, reduceDiv → nH, reducePow → nI
abbrev zM30 : Option Tmp → Nat := mdL []
abbrev zM31 : Option Tmp → Nat := mdL [(16, 1)]
abbrev zM32 : Option Tmp → Nat := mdL [(10, 1)]
abbrev zM33 : Option Tmp → Nat := mdL [(14, 2)]
abbrev zM34 : Option Tmp → Nat := mdL [(12, 2)]
abbrev zM35 : Option Tmp → Nat := mdL [(4, 1), (5, 1)]
abbrev zM36 : Option Tmp → Nat := mdL [(4, 2)]
abbrev zM37 : Option Tmp → Nat := mdL [(2, 1), (3, 1), (5, 1), (8, 1)]
abbrev zM38 : Option Tmp → Nat := mdL [(2, 1), (3, 1)]
abbrev zM39 : Option Tmp → Nat := mdL [(8, 1), (9, 1), (10, 1)]
abbrev zM3A : Option Tmp → Nat := mdL [(2, 1)]
abbrev zM3B : Option Tmp → Nat := mdL [(4, 1), (12, 2)]
attribute [go_sem] zM30 zM31 zM32 zM33 zM34 zM35 zM36 zM37 zM38 zM39 zM3A zM3B
abbrev zP1AE : List Nat := [0, 1, 2, 3, 4, 5, 6, 9]
abbrev zP1AP : List (Nat × List Nat × List Nat) := [(7, [3], []), (8, [], [10, 11])]
attribute [go_sem] zP1AE zP1AP
set_option maxRecDepth 100000
set_option maxHeartbeats 8000000
def cwT (f : Fo) (wide : Int) (l : List Tok) : List (List Tok) := if l = [] then [] else cutT f wide l []
theorem cwT_step {f : Fo} (hf : FoB f) (wide : Int) {l : List Tok} (h : l ≠ []) : cwT f wide l = l.take (longN f wide l l.length) :: cwT f wide (l.drop (longN f wide l l.length)) := by
 have h1 := (longN_ok f wide l l.length (List.length_pos_iff.2 h)).1
 obtain ⟨g, hg⟩ : ∃ g, l.length = g + 1 := ⟨l.length - 1, by have := List.length_pos_iff.2 h; omega⟩
 have e1 := cutR_eq hf wide l.length l (Nat.le_refl _)
 have e2 := cutR_eq hf wide g (l.drop (longN f wide l l.length)) (by rw [List.length_drop]; omega)
 unfold cwT
 rw [← e1, ← e2]
 rw (occs := .pos [1]) [hg]
 rw [cutR, if_neg h]
theorem cwT_len (f : Fo) (wide : Int) (l : List Tok) : (cwT f wide l).length ≤ l.length + 1 := by
 unfold cwT
 split
 ·simp
 ·exact cutT_len f wide l []
theorem join_toks (l : List Tok) : Lib.join ((l.map bsOf).map (·.data.toList)) [] = l.flatten := by
 have : (l.map bsOf).map (·.data.toList) = l := by rw [List.map_map]; exact List.map_id l
 rw [this, join_nil]
theorem a_joinToks (l : List Tok) (kk : Option Nat) (hn : l.length ≤ 10000) (hl : l.flatten.length ≤ 100000) (h : Hp) : ACalls Tryz.prog 34 [.row 1 (l.map fun t => encS (bsOf t)) kk, .v (.string ⟨#[]⟩)] h (fun r h' => r = .v (.string (bsOf l.flatten)) ∧ h' = h) := by
 have hj := g_joinS (l.map bsOf) kk ⟨#[]⟩ h (by rw [List.length_map]; omega) (by show (Lib.join _ []).length ≤ _; rw [join_toks]; omega)
 rw [List.map_map, show (⟨#[]⟩ : ByteArray).data.toList = [] from rfl, join_toks] at hj
 exact hj
theorem cut_bytes (l : List Tok) (m : Nat) : (bsOf l.flatten).extract (bsOf (l.take m).flatten).size (bsOf l.flatten).size = bsOf (l.drop m).flatten := by
 have e : l.flatten = (l.take m).flatten ++ (l.drop m).flatten := by rw [← List.flatten_append, List.take_append_drop]
 rw [size_bs, size_bs, bsOf_drop _ _ _ rfl]
 congr 1
 rw [e, List.drop_left]
theorem gr_upd {a b c : Hp} {q : Nat} (h1 : Gr a ⟨b.H, upd b.T q (a.T q)⟩) (h2 : Gr b c) : Gr a ⟨c.H, upd c.T q (a.T q)⟩ := by
 refine ⟨h2.1.trans h1.1, fun k x e => ?_⟩
 by_cases ek : k = q
 ·rw [ek] at e ⊢; exact (upd_same _ _ _).trans e
 ·exact (upd_other _ _ ek).trans (h2.2 _ _ ((upd_other _ _ ek).symm.trans (h1.2 _ _ e)))
theorem g_cutWords (f : Fo) (kk : Option Nat) (ts : List Tok) (wide : Int) (hts : ∀ t ∈ ts, t ∈ toks) (hn : ts.length ≤ 10000) (hw : 1 ≤ wide ∧ wide ≤ 100000) (hg : Good f) (k0 : Nat) (h : Hp) (hT : h.T k0 = some (.glb tabU)) :
  ACalls Tryz.prog 57 [encFo f kk, .v (.string (bsOf ts.flatten)), .v (.int .i64 wide)] h (fun r h' => r = .row 1 ((wordsT f wide ts).map encLn) none ∧ Gr h h') := by
 have hfl : ∀ x, (encFo f x) = .agg [.v (.string f.key), .v (.int .i64 f.hi), .v (.int .i64 f.ot), .row 3 (f.ws.map encW) x] := fun _ => rfl
 have hf2 := flat_le2 ts hts
 have hsp := g_split ts.flatten 32 (by omega)
 rw [splitB_toks 32 sp_ok ts hts] at hsp
 obtain ⟨P, hP⟩ : ∃ P, P = splitT [32] ts := ⟨_, rfl⟩
 have hwT : wordsT f wide ts = wordsP f wide P := by rw [hP]; rfl
 have hsl : P.length ≤ ts.length + 1 := by rw [hP]; exact splitT_len _ _
 have hPt : ∀ p ∈ P, (∀ t ∈ p, t ∈ toks) ∧ p.length ≤ ts.length := fun p hp => ⟨fun t ht => hts t (splitT_mem (hP ▸ hp) t ht).1, piece_len (hP ▸ hp)⟩
 have hfP : P.flatten.length ≤ ts.length := by rw [hP, splitT_flat]; exact List.length_filter_le _ _
 have hml : ((P.map List.flatten).map encL1).length = P.length := by rw [List.length_map, List.length_map]
 rw [← hP] at hsp
 rw [hwT]
 clear hwT hP
 refine gE Tryz.func57 rfl (by kernel_rfl) 51 rfl fun c => ?_
 (repeat (first | refine gO rfl ?_ | ((refine gR fun K1 hK1 => ?_; simp only [go_sem, ↓reduceIte, reduceCtorEq, nA, nB, nC, nD, nE, nF, hfl] <;> and_intros <;> first | (apply hK1; clear hK1 K1) | skip))))
 refine (hsp h).mono ?_; rintro _ hz ⟨rfl, hh⟩; apply hK1; clear hK1 K1; rw [hh]; clear hh hz
 (repeat (first | refine gO rfl ?_ | ((refine gR fun K1 hK1 => ?_; simp only [go_sem, ↓reduceIte, reduceCtorEq, nA, nB, nC, nD, nE, nF, hml] <;> and_intros <;> (apply hK1; clear hK1 K1)))))
 refine awp_own 7 1 rfl ⟨rfl, rfl⟩ (fun q hq => ?_)
 replace hq : h.T q = none := hq
 have hkq : k0 ≠ q := by rintro rfl; rw [hT] at hq; cases hq
 refine awp_loopC (rl false [2, 2, 3, 1, 6, 3, 37]) 0 (fun g s => ∃ (j : Nat) (h1 : Hp), g + j = P.length ∧ Gr h h1 ∧ h1.T q = some (.tail (wordsP f wide (P.take j)).length) ∧
  s = ⟨(AV.junk :: AV.junk :: ((.v (.int .i64 wide)) :: (.ref [.v (.string f.key), .v (.int .i64 f.hi), .v (.int .i64 f.ot), .row 3 (f.ws.map encW) kk] 0) :: (jnk 3 ((.row 1 ((wordsP f wide (P.take j)).map encLn) (some q)) :: (jnk 6 ((.row 1 ((P.map List.flatten).map encL1) none) :: (.v (.int .i64 P.length)) :: (.v (.int .i64 j)) :: (jnk 37 []))))))), [], h1⟩) P.length ⟨0, ⟨h.H, upd h.T q (some (.tail 0))⟩, by omega, Gr.put hq _, upd_same _ _ _, rfl⟩ ?_
 rintro g _ ⟨j, h1, hj, hgr, hq1, rfl⟩
 (repeat (first | refine gO rfl ?_ | ((refine gR fun K1 hK1 => ?_; simp only [go_sem, ↓reduceIte, reduceCtorEq, nA, nB, nC, nD, nE, nF] <;> and_intros <;> (apply hK1; clear hK1 K1)))))
 refine awp_cond (t := _) rfl (fun h5 => ?_) (fun h5 => ?_)
 ·simp only [decide_eq_true_eq] at h5
  have hjl : j < P.length := by omega
  have gx := row_piece P j hjl
  have hls : ∀ b, (encL1 b).length = 1 := fun _ => rfl
  have hgs : ∀ b d, (encL1 b).getD 0 d = .v (.string (bsOf b)) := fun _ _ => rfl
  obtain ⟨hx1, hx2⟩ := hPt _ (List.getElem_mem hjl)
  have hap := wordsP_app f wide (P.take j) P[j]
  rw [← List.take_succ_eq_append_getElem hjl] at hap
  change wordsP f wide (P.take (j + 1)) = wordsP f wide (P.take j) ++ cwT f wide P[j] at hap
  have hpl := wordsP_len f wide (P.take j)
  have hft : (P.take j).flatten.length ≤ ts.length := by
   have e : P.flatten = (P.take j).flatten ++ (P.drop j).flatten := by rw [← List.flatten_append, List.take_append_drop]
   have h1 := congrArg List.length e
   rw [List.length_append] at h1
   omega
  have hcl := cwT_len f wide P[j]
  generalize P[j] = x0 at *
  obtain ⟨W0, hW0⟩ : ∃ W0, W0 = wordsP f wide (P.take j) := ⟨_, rfl⟩
  rw [← hW0] at hap hq1 hpl ⊢
  (repeat (first | refine gO rfl ?_ | ((refine gR fun K1 hK1 => ?_; simp only [go_sem, ↓reduceIte, reduceCtorEq, nA, nB, nC, nD, nE, nF, hml, Int.toNat_natCast, gx, hls, hgs] <;> and_intros <;> first | (apply hK1; clear hK1 K1) | (intros; (omega))))))
  refine awp_loopC (rl false [2, 2, 3, 1, 1, 1, 4, 3, 37]) 0 (fun g2 s => ∃ (x : List Tok) (D : List (List Tok)) (h2 : Hp), g2 = x.length ∧ (∀ t ∈ x, t ∈ toks) ∧ x.length ≤ ts.length ∧ D ++ cwT f wide x = cwT f wide x0 ∧ Gr h1 ⟨h2.H, upd h2.T q (h1.T q)⟩ ∧ h2.T q = some (.tail (W0 ++ D).length) ∧
   s = ⟨(AV.junk :: AV.junk :: ((.v (.int .i64 wide)) :: (.ref [.v (.string f.key), .v (.int .i64 f.hi), .v (.int .i64 f.ot), .row 3 (f.ws.map encW) kk] 0) :: (jnk 3 ((.row 1 ((W0 ++ D).map encLn) (some q)) :: AV.junk :: ((.v (.string (bsOf x.flatten))) :: (jnk 4 ((.row 1 ((P.map List.flatten).map encL1) none) :: (.v (.int .i64 P.length)) :: (.v (.int .i64 j)) :: (jnk 37 [])))))))), [], h2⟩) x0.length ⟨x0, [], h1, rfl, hx1, hx2, rfl, ?_, ?_, ?_⟩ ?_
  ·rw [upd_self _ rfl]
   exact Gr.refl _
  ·rw [List.append_nil]; exact hq1
  ·rw [List.append_nil]; rfl
  rintro g2 _ ⟨x, D, h2, rfl, hxt, hxl, hD, hgr2, hq2, rfl⟩
  have hbe := bs_empty hxt
  have hT2 : h2.T k0 = some (.glb tabU) := by
   have h9 := hgr2.2 _ _ (hgr.2 _ _ hT)
   exact (upd_other _ _ hkq).symm.trans h9
  (repeat (first | refine gO rfl ?_ | ((refine gR fun K1 hK1 => ?_; simp only [go_sem, ↓reduceIte, reduceCtorEq, nA, nB, nC, nD, nE, nF] <;> and_intros <;> (apply hK1; clear hK1 K1)))))
  by_cases c1 : x = []
  ·have hce : (bsOf x.flatten == (⟨#[]⟩ : ByteArray)) = true := by rw [hbe, c1]; rfl
   refine awp_cond (t := _) rfl (fun h6 => by rw [hce] at h6; cases h6) (fun _ => ?_)
   rw [c1, cwT, if_pos rfl, List.append_nil] at hD
   subst hD
   rw [← hap] at hq2 ⊢
   (repeat (first | refine gO rfl ?_ | ((refine gR fun K1 hK1 => ?_; simp only [go_sem, ↓reduceIte, reduceCtorEq, nA, nB, nC, nD, nE, nF] <;> and_intros <;> first | (apply hK1; clear hK1 K1) | (intros; (omega))))))
   refine ⟨g - 1, by omega, j + 1, h2, by omega, ⟨hgr2.1.trans hgr.1, fun k y e => ?_⟩, hq2, rfl⟩
   have h9 := hgr2.2 _ _ (hgr.2 _ _ e)
   exact (upd_other _ _ (by rintro rfl; rw [hq] at e; cases e)).symm.trans h9
  ·have hce : (bsOf x.flatten == (⟨#[]⟩ : ByteArray)) = false := by rw [hbe]; simp [c1]
   refine awp_cond (t := _) rfl (fun _ => ?_) (fun h6 => by rw [hce] at h6; cases h6)
   have hsg := g_signsR x hxt (by omega) k0 h2 hT2
   (repeat (first | refine gO rfl ?_ | ((refine gR fun K1 hK1 => ?_; simp only [go_sem, ↓reduceIte, reduceCtorEq, nA, nB, nC, nD, nE, nF] <;> and_intros))))
   refine hsg.mono ?_
   rintro _ hz ⟨k, hk, rfl, hh⟩; apply hK1; clear hK1 K1; rw [hh]; clear hh hz
   have hgr3 := Gr.put hk (some (.tail x.length))
   obtain ⟨h3, eh3⟩ : ∃ h3 : Hp, (⟨h2.H, upd h2.T k (some (.tail x.length))⟩ : Hp) = h3 := ⟨_, rfl⟩
   rw [eh3] at hgr3 ⊢
   have hml2 : (x.map fun t => encS (bsOf t)).length = x.length := List.length_map _
   have hx0 := List.length_pos_iff.2 c1
   have hlt1 : ∀ a, List.take 1 [AV.v (.string a)] = [AV.v (.string a)] := fun _ => rfl
   have hlo : (W0 ++ D).length = W0.length + D.length := List.length_append
   (repeat (first | refine gO rfl ?_ | ((refine gR fun K1 hK1 => ?_; simp only [go_sem, ↓reduceIte, reduceCtorEq, nA, nB, nC, nD, nE, nF, hml2] <;> and_intros <;> (apply hK1; clear hK1 K1)))))
   refine awp_loopC (rl false [2, 2, 3, 1, 1, 3, 2, 3, 37]) 0 (fun n s => ∃ (h4 : Hp), 1 ≤ n ∧ n ≤ x.length ∧ longN f wide x n = longN f wide x x.length ∧ Gr h3 h4 ∧
    s = ⟨(AV.junk :: AV.junk :: ((.v (.int .i64 wide)) :: (.ref [.v (.string f.key), .v (.int .i64 f.hi), .v (.int .i64 f.ot), .row 3 (f.ws.map encW) kk] 0) :: (jnk 3 ((.row 1 ((W0 ++ D).map encLn) (some q)) :: AV.junk :: ((.v (.string (bsOf x.flatten))) :: (.row 1 (x.map fun t => encS (bsOf t)) (some k)) :: (.v (.int .i64 n)) :: AV.junk :: AV.junk :: ((.row 1 ((P.map List.flatten).map encL1) none) :: (.v (.int .i64 P.length)) :: (.v (.int .i64 j)) :: (jnk 37 []))))))), [], h4⟩) x.length ⟨h3, hx0, Nat.le_refl _, rfl, Gr.refl _, rfl⟩ ?_
   rintro n _ ⟨h4, hn1, hn2, hlg, hgr4, rfl⟩
   have hT4 : h4.T k0 = some (.glb tabU) := hgr4.2 _ _ (hgr3.2 _ _ hT2)
   have hDl : D.length ≤ x0.length + 1 := by
    have e := congrArg List.length hD
    rw [List.length_append] at e
    omega
   have hqk : q ≠ k := by rintro rfl; rw [hk] at hq2; cases hq2
   have hq4 : h4.T q = some (.tail (W0.length + D.length)) := by rw [← hlo]; exact hgr4.2 _ _ (hgr3.2 _ _ hq2)
   have hnn : 1 ≤ (n : Int) ∧ (n : Int) ≤ x.length := by omega
   have htk : (x.map fun t => encS (bsOf t)).take n = (x.take n).map fun t => encS (bsOf t) := List.map_take.symm
   have hxt2 : ∀ t ∈ x.take n, t ∈ toks := fun t ht => hxt t (List.mem_of_mem_take ht)
   have hxl2 : (x.take n).length ≤ 10000 := by rw [List.length_take]; omega
   have hfl2 := flat_le2 _ hxt2
   have hcb := cut_bytes x n
   have hps : (bsOf (x.take n).flatten).size ≤ (bsOf x.flatten).size := by
    have e : x.flatten = (x.take n).flatten ++ (x.drop n).flatten := by rw [← List.flatten_append, List.take_append_drop]
    rw [size_bs, size_bs, e, List.length_append]
    omega
   have hxs : (bsOf x.flatten).size ≤ 100000 := by
    have := flat_le2 _ hxt
    rw [size_bs]; omega
   by_cases c2 : 1 < n
   ·have d1 : decide ((1 : Int) < (n : Int)) = true := decide_eq_true (by omega)
    (repeat (first | refine gO rfl ?_ | ((((with_reducible refine xS ?_); refine uD 8 zM30 zP1AE zP1AP 54 rfl (by kernel_rfl) ?_)) <;> ((try with_reducible intro K1 hK1); simp only [go_sem, ↓reduceIte, reduceCtorEq, nA, nB, nC, nD, nE, nF, d1, hml2, Int.toNat_natCast, Int.toNat_zero, Nat.sub_zero, List.drop_zero, htk] <;> and_intros))))
    refine ⟨.row 1 ((x.take n).map fun t => encS (bsOf t)) none, ⟨⟨rfl, trivial⟩, ?_⟩, rfl, ?_⟩
    ·simp only [qE, vEff, sliceE, bndE, go_sem, nA, nB, nC, nD, nE, nF]
     refine ⟨⟨by omega, by omega, by omega⟩, ?_⟩
     rw [show Int.toNat 0 = 0 from rfl, Int.toNat_natCast, Nat.sub_zero, List.drop_zero, htk]
    refine hK1 _ ?_; clear hK1 K1
    have hjo := a_joinToks (x.take n) none hxl2 (by omega)
    have hwo := g_wideOfR f kk (x.take n) hxt2 hxl2 hg k0 h4 hT4
    rw [hfl] at hwo
    (repeat (((refine gR fun K1 hK1 => ?_; simp only [go_sem, ↓reduceIte, reduceCtorEq, nA, nB, nC, nD, nE, nF, d1] <;> and_intros))))
    rotate_left
    ·exact fun h => h.elim
    refine (hjo _).mono ?_
    rintro _ hz ⟨rfl, hh⟩; refine ⟨rfl, hK1 _ ?_⟩; clear hK1 K1; rw [hh]; clear hh hz
    (repeat ((((with_reducible refine wM ?_ ?_)) <;> ((try with_reducible intro K1 hK1); simp only [go_sem, ↓reduceIte, reduceCtorEq, nA, nB, nC, nD, nE, nF, d1] <;> and_intros <;> first | (apply hK1; clear hK1 K1) | (intros; (decide)) | skip))))
    ·rfl
    skip
    ·rfl
    (repeat (((refine gR fun K1 hK1 => ?_; simp only [go_sem, ↓reduceIte, reduceCtorEq, nA, nB, nC, nD, nE, nF, d1] <;> and_intros))))
    rotate_left
    ·exact fun h => h.elim
    refine hwo.mono ?_
    rintro _ h5 ⟨rfl, hgr5⟩; refine ⟨rfl, ?_⟩; apply hK1; clear hK1 K1
    (repeat (first | refine gO rfl ?_ | (((with_reducible refine wM ?_ ?_)) <;> ((try with_reducible intro K1 hK1); simp only [go_sem, ↓reduceIte, reduceCtorEq, nA, nB, nC, nD, nE, nF, d1] <;> and_intros <;> (apply hK1; clear hK1 K1)))))
    refine awp_cond (t := _) rfl (fun h6 => ?_) (fun h6 => ?_)
    ·simp only [decide_eq_true_eq] at h6
     (repeat (first | refine gO rfl ?_ | ((refine gR fun K1 hK1 => ?_; simp only [go_sem, ↓reduceIte, reduceCtorEq, nA, nB, nC, nD, nE, nF] <;> and_intros <;> first | (apply hK1; clear hK1 K1) | (intros; (omega))))))
     refine ⟨n - 1, by omega, h5, by omega, by omega, ?_, hgr4.trans hgr5, ?_⟩
     ·rw [← hlg]
      obtain ⟨m, rfl⟩ : ∃ m, n = m + 1 := ⟨n - 1, by omega⟩
      rw [Nat.add_sub_cancel, longN, if_pos ⟨c2, h6⟩]
     ·rw [show (((n - 1 : Nat) : Int)) = (n : Int) - 1 from by omega]; rfl
    ·simp only [decide_eq_false_iff_not] at h6
     have hln : longN f wide x x.length = n := by
      rw [← hlg]
      obtain ⟨m, rfl⟩ : ∃ m, n = m + 1 := ⟨n - 1, by omega⟩
      rw [longN, if_neg (fun e => h6 e.2)]
     have hjo := a_joinToks (x.take n) none hxl2 (by omega) h5
     have hq5 := hgr5.2 _ _ hq4
     (repeat (first | refine gO rfl ?_ | ((refine gR fun K1 hK1 => ?_; simp only [go_sem, ↓reduceIte, reduceCtorEq, nA, nB, nC, nD, nE, nF, hml2, Int.toNat_natCast, Int.toNat_zero, Nat.sub_zero, List.drop_zero, htk, Option.toList_none, Option.toList_some, List.append_eq, List.nil_append, List.cons_append, uside] <;> and_intros <;> first | (intros; (omega)) | skip))))
     refine hjo.mono ?_
     rintro _ hz ⟨rfl, hh⟩; apply hK1; clear hK1 K1; rw [hh]; clear hh hz
     (repeat (first | refine gO rfl ?_ | ((refine gR fun K1 hK1 => ?_; simp only [go_sem, ↓reduceIte, reduceCtorEq, nA, nB, nC, nD, nE, nF, hlt1, hlo, List.length_cons, List.length_nil, upd_same, upd_upd, List.length_map, Int.toNat_natCast, hcb, Option.toList_none, Option.toList_some, List.append_eq, List.nil_append, List.cons_append, uside] <;> and_intros <;> first | (apply hK1; clear hK1 K1) | (intros; first | omega | decide)))))
     refine ⟨(x.drop n).length, by rw [List.length_drop]; omega, x.drop n, D ++ [x.take n], ⟨h5.H, upd h5.T q (some (.tail (W0.length + D.length + (0 + 1))))⟩, rfl, fun t ht => hxt t (List.mem_of_mem_drop ht), by rw [List.length_drop]; omega, ?_, ?_, ?_, ?_⟩
     ·rw [List.append_assoc, ← hD, cwT_step hg.fob wide c1, hln]; rfl
     ·have h9 := gr_upd (gr_upd hgr2 hgr3) (hgr4.trans hgr5)
      rw [upd_upd]; exact h9
     ·show upd _ q _ q = _
      rw [upd_same, ← List.append_assoc, List.length_append, hlo]; rfl
     ·rw [← List.append_assoc, List.map_append (l₁ := W0 ++ D)]; rfl
   ·have d1 : decide ((1 : Int) < (n : Int)) = false := decide_eq_false (by omega)
    have hln : longN f wide x x.length = n := by
     rw [← hlg, show n = 1 from by omega, longN, if_neg (fun e => by omega)]
    have hjo := a_joinToks (x.take n) none hxl2 (by omega) h4
    (repeat (first | refine gO rfl ?_ | ((((with_reducible refine xS ?_); refine uD 8 zM30 zP1AE zP1AP 54 rfl (by kernel_rfl) ?_)) <;> ((try with_reducible intro K1 hK1); simp only [go_sem, ↓reduceIte, reduceCtorEq, nA, nB, nC, nD, nE, nF, d1] <;> and_intros))))
    refine ⟨.v (.bool false), rfl, hK1 _ ?_⟩; clear hK1 K1
    (repeat (((first | refine gR ?_ | (with_reducible refine wM ?_ ?_)) <;> ((try with_reducible intro K1 hK1); simp only [go_sem, ↓reduceIte, reduceCtorEq, nA, nB, nC, nD, nE, nF, d1] <;> and_intros <;> first | (apply hK1; clear hK1 K1) | (intros; (decide)) | skip))))
    ·rfl
    skip
    ·rfl
    (repeat (((first | refine gR ?_ | (with_reducible refine wM ?_ ?_)) <;> ((try with_reducible intro K1 hK1); simp only [go_sem, ↓reduceIte, reduceCtorEq, nA, nB, nC, nD, nE, nF, d1] <;> and_intros <;> first | (apply hK1; clear hK1 K1) | skip))))
    refine ⟨.v (.bool false), rfl, hK1 _ ?_⟩; clear hK1 K1
    (repeat ((refine gO rfl ?_)))
    refine awp_cond (t := _) rfl (fun h6 => by cases h6) (fun _ => ?_)
    (repeat (first | refine gO rfl ?_ | ((refine gR fun K1 hK1 => ?_; simp only [go_sem, ↓reduceIte, reduceCtorEq, nA, nB, nC, nD, nE, nF, hml2, Int.toNat_natCast, Int.toNat_zero, Nat.sub_zero, List.drop_zero, htk, Option.toList_none, Option.toList_some, List.append_eq, List.nil_append, List.cons_append, uside] <;> and_intros <;> first | (intros; (omega)) | skip))))
    refine hjo.mono ?_
    rintro _ hz ⟨rfl, hh⟩; apply hK1; clear hK1 K1; rw [hh]; clear hh hz
    (repeat (first | refine gO rfl ?_ | ((refine gR fun K1 hK1 => ?_; simp only [go_sem, ↓reduceIte, reduceCtorEq, nA, nB, nC, nD, nE, nF, hlt1, hlo, List.length_cons, List.length_nil, upd_same, upd_upd, List.length_map, Int.toNat_natCast, hcb, Option.toList_none, Option.toList_some, List.append_eq, List.nil_append, List.cons_append, uside] <;> and_intros <;> first | (apply hK1; clear hK1 K1) | (intros; first | omega | decide)))))
    refine ⟨(x.drop n).length, by rw [List.length_drop]; omega, x.drop n, D ++ [x.take n], ⟨h4.H, upd h4.T q (some (.tail (W0.length + D.length + (0 + 1))))⟩, rfl, fun t ht => hxt t (List.mem_of_mem_drop ht), by rw [List.length_drop]; omega, ?_, ?_, ?_, ?_⟩
    ·rw [List.append_assoc, ← hD, cwT_step hg.fob wide c1, hln]; rfl
    ·have h9 := gr_upd (gr_upd hgr2 hgr3) hgr4
     rw [upd_upd]; exact h9
    ·show upd _ q _ q = _
     rw [upd_same, ← List.append_assoc, List.length_append, hlo]; rfl
    ·rw [← List.append_assoc, List.map_append (l₁ := W0 ++ D)]; rfl
 ·simp only [decide_eq_false_iff_not] at h5
  have hjl : j = P.length := by omega
  subst hjl
  rw [List.take_length]
  (repeat (first | refine gO rfl ?_ | ((refine gR fun K1 hK1 => ?_; simp only [go_sem, ↓reduceIte, reduceCtorEq, nA, nB, nC, nD, nE, nF] <;> and_intros <;> (apply hK1; clear hK1 K1)))))
  simp only [Tryz.results57, go_sem, ↓reduceIte, reduceCtorEq, nA, nB, nC, nD, nE, nF]
  exact ⟨_, _, Weak.row _ _ _, Hp.le.refl _, rfl, hgr⟩
abbrev zP1BE : List Nat := [0, 1, 2, 3, 4, 5, 6, 7, 8, 9, 10, 11, 12, 13, 14, 15, 16]
abbrev zP1BP : List (Nat × List Nat × List Nat) := [(18, [], [])]
abbrev zP1CE : List Nat := [0, 1, 2, 3, 4]
abbrev zP1CP : List (Nat × List Nat × List Nat) := [(5, [1], [6, 7]), (8, [], [])]
abbrev zP1DE : List Nat := [0, 1, 2, 3, 4, 5, 6, 7, 8, 9, 10, 11, 12, 13, 14, 15, 16, 17, 18, 19, 20, 21, 22, 23, 24, 25, 26, 27]
abbrev zP1DP : List (Nat × List Nat × List Nat) := []
attribute [go_sem] zP1BE zP1BP zP1CE zP1CP zP1DE zP1DP
set_option maxHeartbeats 16000000
theorem innerR_step (blank wide : Int) (l : List Int) (k : Nat) (w : Int) (hk : l[k]? = some w) (n : Int) (c : Nat) (cur : Way) : innerR blank wide (l.drop k) (waysT blank wide (l.drop (k + 1))) n c cur =
  if 0 < c ∧ wide < n + (blank + w) then cur
  else innerR blank wide (l.drop (k + 1)) (waysT blank wide (l.drop (k + 1 + 1))) (n + (blank + w)) (c + 1) (if wayLe (wayN blank wide l k (n + (blank + w)) c) cur = true then wayN blank wide l k (n + (blank + w)) c else cur) := by
 obtain ⟨hkl, rfl⟩ := List.getElem?_eq_some_iff.1 hk
 have hX : ∀ n', wayX wide (wayAt blank wide l (k + 1)) (l.drop (k + 1)) n' c = wayN blank wide l k n' c := fun n' => by
  unfold wayX wayN
  by_cases e : k + 1 < l.length
  ·rw [if_pos e, if_neg (by simp; omega)]
  ·rw [if_neg e, if_pos (by simp; omega)]
 obtain ⟨tl, ht⟩ := ways_cons blank wide (l.drop (k + 1))
 have ht2 : innerR blank wide (l.drop (k + 1)) tl = innerR blank wide (l.drop (k + 1)) (waysT blank wide (l.drop (k + 1 + 1))) := by
  by_cases e : k + 1 < l.length
  ·rw [List.drop_eq_getElem_cons e, waysT] at ht
   rw [(List.cons.inj ht).2]
  ·rw [List.drop_eq_nil_of_le (by omega)]
   funext a b c
   cases tl <;> rfl
 rw [ht, List.drop_eq_getElem_cons hkl, innerR, ht2]
 show (if _ then _ else innerR _ _ _ _ _ _ (if wayLe (wayX wide (wayAt blank wide l (k + 1)) _ _ c) cur = true then wayX wide (wayAt blank wide l (k + 1)) _ _ c else cur)) = _
 rw [hX]
theorem innerR_end (blank wide : Int) (l : List Int) (k : Nat) (hk : l.length ≤ k) (ys : List Way) (n : Int) (c : Nat) (cur : Way) : innerR blank wide (l.drop k) ys n c cur = cur := by
 rw [List.drop_eq_nil_of_le hk]; cases ys <;> rfl
theorem innerR_start (blank wide : Int) (l : List Int) (i : Nat) (hi : i < l.length) : innerR blank wide (l.drop i) (waysT blank wide (l.drop (i + 1))) (-blank) 0 (((l.length : Nat) : Int) + 1, 0, 0) = wayAt blank wide l i := by
 have h := inner_start blank wide l[i] (l.drop (i + 1)) l.length (by rw [List.length_drop]; omega)
 rw [← List.drop_eq_getElem_cons hi] at h
 exact h
theorem rowY_fin (blank wide : Int) (L : List Int) (i : Nat) (hi : i < L.length) : rowY blank wide L i (wayAt blank wide L i) = (List.replicate i (0, 0, 0) ++ waysT blank wide (L.drop i)).map encY := by
 rw [← rowY_end blank wide L i hi]
 unfold wayAt
 rw [ways_at _ _ _ _ hi]; rfl
theorem lineW_succ (blank : Int) (l : List Int) (i c : Nat) (w : Int) (h : l[i + c]? = some w) : lineW blank ((l.drop i).take (c + 1)) = lineW blank ((l.drop i).take c) + (blank + w) := by
 obtain ⟨hl, rfl⟩ := List.getElem?_eq_some_iff.1 h
 rw [List.take_succ_eq_append_getElem (by rw [List.length_drop]; omega), List.getElem_drop]
 simp [lineW]; omega
theorem gr_set {a b : Hp} {q : Nat} (h : Gr a b) (hq : a.T q = none) (x : Option TO) : Gr a ⟨b.H, upd b.T q x⟩ :=
 ⟨h.1, fun k y e => (upd_other _ _ (by rintro rfl; rw [hq] at e; cases e)).trans (h.2 _ _ e)⟩
theorem a_joinBl (V : List (List Tok)) (kk : Option Nat) (hts : ∀ w ∈ V, ∀ t ∈ w, t ∈ toks) (hn : V.length ≤ 10000) (hl : V.flatten.length ≤ 100000) (h : Hp) : ACalls Tryz.prog 34 [.row 1 (V.map encLn) kk, .v (.string ⟨#[32]⟩)] h (fun r h' => r = .v (.string (bsOf (joinT V).flatten)) ∧ h' = h) := by
 have hjn := g_joinS (V.map fun w => bsOf w.flatten) kk ⟨#[32]⟩
 have hm1 : (V.map fun w => bsOf w.flatten).map (·.data.toList) = V.map List.flatten := by rw [List.map_map]; rfl
 have hm2 : (V.map fun w => bsOf w.flatten).map encS = V.map encLn := by rw [List.map_map]; rfl
 have hz := join_len hts
 rw [hm1, hm2, List.length_map, show (⟨#[32]⟩ : ByteArray).data.toList = [32] from rfl, joinT_lib] at hjn
 rw [joinT_lib] at hz
 exact hjn h (by omega) (by omega)
theorem joinT_toks {V : List (List Tok)} (hts : ∀ w ∈ V, ∀ t ∈ w, t ∈ toks) : ∀ t ∈ joinT V, t ∈ toks := fun t ht => by
 rcases mem_joinT ht with rfl | ⟨w, hw, h⟩
 ·decide
 ·exact hts w hw t h
theorem g_linesOfR (f : Fo) (kk : Option Nat) (ts : List Tok) (wide : Int) (hts : ∀ t ∈ ts, t ∈ toks) (hn : ts.length ≤ 2000) (hw : 1 ≤ wide ∧ wide ≤ 100000) (hg : Good f) (k0 : Nat) (h : Hp) (hT : h.T k0 = some (.glb tabU)) :
  ACalls Tryz.prog 19 [encFo f kk, .v (.string (bsOf ts.flatten)), .v (.int .i64 wide)] h (fun r h' => r = .tup [.row 1 ((linesT f wide ts).map encLn) none, .v (.bool true)] ∧ Gr h h') := by
 have hfl : ∀ x, (encFo f x) = .agg [.v (.string f.key), .v (.int .i64 f.hi), .v (.int .i64 f.ot), .row 3 (f.ws.map encW) x] := fun _ => rfl
 have hf2 := flat_le2 ts hts
 have hsp := g_split ts.flatten 10 (by omega)
 rw [splitB_toks 10 lf_ok ts hts] at hsp
 obtain ⟨P, hP⟩ : ∃ P, P = splitT [10] ts := ⟨_, rfl⟩
 have hml : ((P.map List.flatten).map encL1).length = P.length := by rw [List.length_map, List.length_map]
 have hsl : P.length ≤ ts.length + 1 := by rw [hP]; exact splitT_len _ _
 have hPt : ∀ p ∈ P, (∀ t ∈ p, t ∈ toks) ∧ p.length ≤ ts.length := fun p hp => ⟨fun t ht => hts t (splitT_mem (hP ▸ hp) t ht).1, piece_len (hP ▸ hp)⟩
 have hlT : linesT f wide ts = P.flatMap fun p => paragraphT f (widS f blT) wide (wordsT f wide p) := by rw [hP]; rfl
 have hbl := hg.fob.widS blT
 rw [← hP] at hsp
 rw [hlT]
 clear hlT hP
 refine gE Tryz.func19 rfl (by kernel_rfl) 167 rfl fun c => ?_
 (repeat (first | refine gO rfl ?_ | ((refine gM zM31 fun K1 hK1 => ?_; simp only [go_sem, ↓reduceIte, reduceCtorEq, nA, nB, nC, nD, nE, nF, hfl] <;> and_intros <;> first | (apply hK1; clear hK1 K1) | skip))))
 refine (hsp h).mono ?_; rintro _ hz ⟨rfl, hh⟩; apply hK1; clear hK1 K1; rw [hh]; clear hh hz
 (repeat (first | refine gO rfl ?_ | ((refine gM zM31 fun K1 hK1 => ?_; simp only [go_sem, ↓reduceIte, reduceCtorEq, nA, nB, nC, nD, nE, nF, hml] <;> and_intros <;> (apply hK1; clear hK1 K1)))))
 refine awp_own 8 1 rfl ⟨rfl, rfl⟩ (fun q hq => ?_)
 replace hq : h.T q = none := hq
 refine awp_loopC (rl false [2, 2, 4, 1, 10, 3, 148]) 0 (fun g s => ∃ (j : Nat) (h1 : Hp), g + j = P.length ∧ Gr h h1 ∧ h1.T q = some (.tail ((P.take j).flatMap fun p => paragraphT f (widS f blT) wide (wordsT f wide p)).length) ∧
  s = ⟨(AV.junk :: AV.junk :: ((.v (.int .i64 wide)) :: (.ref [.v (.string f.key), .v (.int .i64 f.hi), .v (.int .i64 f.ot), .row 3 (f.ws.map encW) kk] 0) :: (jnk 4 ((.row 1 (((P.take j).flatMap fun p => paragraphT f (widS f blT) wide (wordsT f wide p)).map encLn) (some q)) :: (jnk 10 ((.row 1 ((P.map List.flatten).map encL1) none) :: (.v (.int .i64 P.length)) :: (.v (.int .i64 j)) :: (jnk 148 []))))))), [], h1⟩) P.length ⟨0, ⟨h.H, upd h.T q (some (.tail 0))⟩, by omega, Gr.put hq _, upd_same _ _ _, rfl⟩ ?_
 rintro g _ ⟨j, h1, hj, hgr, hq1, rfl⟩
 (repeat (first | refine gO rfl ?_ | ((refine gM zM31 fun K1 hK1 => ?_; simp only [go_sem, ↓reduceIte, reduceCtorEq, nA, nB, nC, nD, nE, nF] <;> and_intros <;> (apply hK1; clear hK1 K1)))))
 refine awp_cond (t := _) rfl (fun h5 => ?_) (fun h5 => ?_)
 ·simp only [decide_eq_true_eq] at h5
  have hjl : j < P.length := by omega
  have gx := row_piece P j hjl
  have hls : ∀ b, (encL1 b).length = 1 := fun _ => rfl
  have hgs : ∀ b d, (encL1 b).getD 0 d = .v (.string (bsOf b)) := fun _ _ => rfl
  obtain ⟨hp1, hp2⟩ := hPt _ (List.getElem_mem hjl)
  have hcw := g_cutWords f kk P[j] wide hp1 (by omega) hw hg k0 h1 (hgr.2 _ _ hT)
  rw [hfl] at hcw
  have hfm := flatMap_len (fun p => paragraphT f (widS f blT) wide (wordsT f wide p)) 2001 (P.take j) (fun p hp => by
   have h1 := paragraph_len f (widS f blT) wide (wordsT f wide p)
   have h2 := wordsT_len f wide p
   have h3 := (hPt p (List.mem_of_mem_take hp)).2
   omega)
  rw [List.length_take] at hfm
  have htk : ((P.take (j + 1)).flatMap fun p => paragraphT f (widS f blT) wide (wordsT f wide p)) = ((P.take j).flatMap fun p => paragraphT f (widS f blT) wide (wordsT f wide p)) ++ paragraphT f (widS f blT) wide (wordsT f wide P[j]) := by
   rw [List.take_succ_eq_append_getElem hjl, List.flatMap_append]; simp
  have hwn := wordsT_len f wide P[j]
  have hwt : ∀ w ∈ wordsT f wide P[j], ∀ t ∈ w, t ∈ toks := fun w hw' t ht => hp1 t (wordsT_mem hw' t ht).1
  have hwf := words_flat f wide P[j]
  have hjs : ∀ V : List (List Tok), V ≠ [] → sumW f (joinT V) = lineW (widS f blT) (V.map (sumW f)) := joinT_sum f
  have hM : ∀ w ∈ (wordsT f wide P[j]).map (sumW f), 0 ≤ w ∧ w ≤ 10000000 := fun w hw' => by
   obtain ⟨x, hx, rfl⟩ := List.mem_map.1 hw'
   have h1 := hg.fob.sum x
   have h2 := words_one hx
   omega
  generalize widS f blT = blank at *
  generalize ((P.take j).flatMap fun p => paragraphT f blank wide (wordsT f wide p)) = D at *
  generalize wordsT f wide P[j] = ws at *
  have hDl : (D.map encLn).length = D.length := List.length_map _
  have hwl : (ws.map encLn).length = ws.length := List.length_map _
  (repeat (first | refine gO rfl ?_ | ((refine gM zM31 fun K1 hK1 => ?_; simp only [go_sem, ↓reduceIte, reduceCtorEq, nA, nB, nC, nD, nE, nF, hml, Int.toNat_natCast, gx, hls, hgs] <;> and_intros <;> first | (apply hK1; clear hK1 K1) | (intros; (omega)) | skip))))
  refine hcw.mono ?_
  rintro _ h2 ⟨rfl, hgr2⟩; apply hK1; clear hK1 K1
  have hq2 := hgr2.2 _ _ hq1
  (repeat (first | refine gO rfl ?_ | ((refine gM zM31 fun K1 hK1 => ?_; simp only [go_sem, ↓reduceIte, reduceCtorEq, nA, nB, nC, nD, nE, nF, hwl] <;> and_intros <;> (apply hK1; clear hK1 K1)))))
  refine awp_cond (t := _) rfl (fun h6 => ?_) (fun _ => ?_)
  ·exact absurd h6 (by simp; omega)
  (repeat (first | refine gO rfl ?_ | ((refine gM zM31 fun K1 hK1 => ?_; simp only [go_sem, ↓reduceIte, reduceCtorEq, nA, nB, nC, nD, nE, nF, hwl] <;> and_intros <;> (apply hK1; clear hK1 K1)))))
  refine awp_cond (t := _) rfl (fun h6 => ?_) (fun h6 => ?_)
  ·have h0 : ws = [] := List.eq_nil_of_length_eq_zero (by simpa using h6)
   have hpe : paragraphT f blank wide ws = [[]] := by unfold paragraphT; rw [if_pos h0]
   rw [hpe] at htk
   (repeat (first | refine gO rfl ?_ | ((refine gM zM31 fun K1 hK1 => ?_; simp only [go_sem, ↓reduceIte, reduceCtorEq, nA, nB, nC, nD, nE, nF, hDl, hq2, List.length_cons, List.length_nil] <;> and_intros <;> first | (apply hK1; clear hK1 K1) | (intros; first | omega | decide)))))
   refine ⟨g - 1, by omega, j + 1, ⟨h2.H, upd h2.T q (some (.tail (D.length + 1)))⟩, by omega, ⟨hgr2.1.trans hgr.1, fun k x e => ?_⟩, ?_, ?_⟩
   ·show upd h2.T q _ k = _
    rw [upd_other _ _ (by rintro rfl; rw [hq] at e; cases e)]
    exact hgr2.2 _ _ (hgr.2 _ _ e)
   ·rw [htk, List.length_append]; exact upd_same _ _ _
   ·rw [htk, List.map_append]; rfl
  have h0 : ws ≠ [] := fun e => by rw [e] at h6; simp at h6
  have h0l := List.length_pos_iff.2 h0
  clear h6
  have hpe : paragraphT f blank wide ws = paraT ws.length ws (waysT blank wide (ws.map (sumW f))) := by unfold paragraphT; rw [if_neg h0]
  have hLl : (ws.map (sumW f)).length = ws.length := List.length_map _
  obtain ⟨L, hL⟩ : ∃ L, L = ws.map (sumW f) := ⟨_, rfl⟩
  rw [← hL] at hpe hLl hM
  have hC : wide * wide ≤ 10000000000 := Int.mul_le_mul hw.2 hw.2 (by omega) (by omega)
  have hC0 : 0 ≤ wide * wide := Int.mul_nonneg (by omega) (by omega)
  have hwb := fun k => wayAt_bd hbl.1 (by omega) (fun w hw => (hM w hw).1) (blank := blank) (wide := wide) (l := L) k
  (repeat (first | refine gO rfl ?_ | ((refine gM zM31 fun K1 hK1 => ?_; simp only [go_sem, ↓reduceIte, reduceCtorEq, nA, nB, nC, nD, nE, nF, hwl] <;> and_intros <;> first | (intros; (omega)) | skip))))
  intro p hp
  and_intros <;> first | (refine hK1 _ ?_; clear hK1 K1) | exact .inl trivial | exact .inr rfl | exact .inr True.intro | exact True.intro | omega
  (repeat (first | refine gO rfl ?_ | ((refine gM zM31 fun K1 hK1 => ?_; simp only [go_sem, ↓reduceIte, reduceCtorEq, nA, nB, nC, nD, nE, nF, hwl] <;> and_intros <;> first | (apply hK1; clear hK1 K1) | (intros; (omega))))))
  replace hp : h2.T p = none := hp
  have hT2 := hgr2.2 _ _ (hgr.2 _ _ hT)
  refine awp_loopC (rl false [2, 2, 4, 1, 2, 3, 5, 3, 148]) 0 (fun i s => ∃ (hx : Hp), i ≤ L.length ∧ Gr h2 hx ∧ hx.T p = some (.cont 3 ((List.replicate i (0, 0, 0) ++ waysT blank wide (L.drop i)).map encY)) ∧
   s = ⟨(AV.junk :: AV.junk :: ((.v (.int .i64 wide)) :: (.ref [.v (.string f.key), .v (.int .i64 f.hi), .v (.int .i64 f.ot), .row 3 (f.ws.map encW) kk] 0) :: (jnk 4 ((.row 1 (D.map encLn) (some q)) :: AV.junk :: AV.junk :: ((.row 1 (ws.map encLn) none) :: (.arr 3 p (ws.length + 1)) :: (.v (.int .i64 ((i : Int) - 1))) :: (jnk 5 ((.row 1 ((P.map List.flatten).map encL1) none) :: (.v (.int .i64 P.length)) :: (.v (.int .i64 j)) :: (jnk 148 [])))))))), [], hx⟩) L.length ⟨_, Nat.le_refl _, gr_set (Gr.refl h2) hp _, ?_, by rw [hLl]; rfl⟩ ?_
  ·show upd h2.T p _ p = _
   rw [upd_same, List.drop_length, hLl]
   have e1 : (List.replicate ws.length ((0, 0, 0) : Way) ++ waysT blank wide []).map encY = List.replicate (ws.length + 1) [.v (.int .i64 0), .v (.int .i64 0), .v (.int .i64 0)] := by
    show (List.replicate ws.length ((0, 0, 0) : Way) ++ [(0, 0, 0)]).map encY = _
    rw [← List.replicate_succ', List.map_replicate]; rfl
   rw [e1]; rfl
  rintro i' _ ⟨hx, hi', hgx, hxp, rfl⟩
  (repeat (first | refine gO rfl ?_ | ((refine gM zM31 fun K1 hK1 => ?_; simp only [go_sem, ↓reduceIte, reduceCtorEq, nA, nB, nC, nD, nE, nF] <;> and_intros <;> (apply hK1; clear hK1 K1)))))
  refine awp_cond (t := _) rfl (fun h7 => ?_) (fun h7 => ?_)
  ·simp only [decide_eq_true_eq] at h7
   obtain ⟨i, rfl⟩ : ∃ i, i' = i + 1 := ⟨i' - 1, by omega⟩
   have ei : ((i + 1 : Nat) : Int) - 1 = (i : Int) := by omega
   rw [rowY_start] at hxp
   rw [ei]
   have hi : i < L.length := by omega
   have hrl := rowY_len blank wide L i (0, 0, 0) hi
   rw [hLl] at hrl
   have hcu := rowY_cur blank wide L i (0, 0, 0)
   have hset := fun w => rowY_set blank wide L i (0, 0, 0) w
   (repeat (first | refine gO rfl ?_ | ((refine gM zM31 fun K1 hK1 => ?_; simp only [go_sem, ↓reduceIte, reduceCtorEq, nA, nB, nC, nD, nE, nF, hwl, hxp, hrl, hcu, Int.toNat_natCast] <;> and_intros <;> first | (apply hK1; clear hK1 K1) | (intros; (omega))))))
   have hgi := gr_set hgx hp (some (.cont 3 (rowY blank wide L i ((L.length : Int) + 1, 0, 0))))
   have hWs := wayAt_bd hbl.1 (by omega) (fun w hw => (hM w hw).1) (blank := blank) (wide := wide) (l := L) i
   have hst0 := innerR_start blank wide L i hi
   have hfin := rowY_fin blank wide L i hi
   obtain ⟨X, hX⟩ : ∃ X, X = wayAt blank wide L i := ⟨_, rfl⟩
   rw [← hX] at hWs hst0 hfin
   refine awp_loopC (rl false [2, 2, 4, 1, 2, 4, 4, 3, 148]) 0 (fun g3 s => ∃ (c : Nat) (cur : Way) (hy : Hp), g3 + (i + c) = L.length ∧ Gr h2 hy ∧ hy.T p = some (.cont 3 (rowY blank wide L i cur)) ∧ WayB (wide * wide) (L.length + 1) cur ∧
    innerR blank wide (L.drop (i + c)) (waysT blank wide (L.drop (i + c + 1))) (lineW blank ((L.drop i).take c)) c cur = X ∧
    s = ⟨(AV.junk :: AV.junk :: ((.v (.int .i64 wide)) :: (.ref [.v (.string f.key), .v (.int .i64 f.hi), .v (.int .i64 f.ot), .row 3 (f.ws.map encW) kk] 0) :: (jnk 4 ((.row 1 (D.map encLn) (some q)) :: AV.junk :: AV.junk :: ((.row 1 (ws.map encLn) none) :: (.arr 3 p (ws.length + 1)) :: (.v (.int .i64 i)) :: (.v (.int .i64 ((c : Int) + 1))) :: (jnk 4 ((.row 1 ((P.map List.flatten).map encL1) none) :: (.v (.int .i64 P.length)) :: (.v (.int .i64 j)) :: (jnk 148 [])))))))), [], hy⟩) (L.length - i) ⟨0, ((L.length : Int) + 1, 0, 0), ⟨hx.H, upd hx.T p (some (.cont 3 (rowY blank wide L i ((L.length : Int) + 1, 0, 0))))⟩, by omega, hgi, upd_same _ _ _, ?_, ?_, ?_⟩ ?_
   ·exact ⟨⟨by show (0 : Int) ≤ (L.length : Int) + 1; omega, by show (L.length : Int) + 1 ≤ _; omega⟩, ⟨Int.le_refl _, Int.mul_nonneg hC0 (Int.natCast_nonneg _)⟩, Nat.zero_le _⟩
   ·rw [List.take_zero, show lineW blank [] = -blank from by simp [lineW]]; exact hst0
   ·rw [← hset ((L.length : Int) + 1, 0, 0), hLl]
    rfl
   rintro g3 _ ⟨c, cur, hy, hc, hgy, hyp, hcb, hin, rfl⟩
   (repeat (first | refine gO rfl ?_ | ((refine gM zM31 fun K1 hK1 => ?_; simp only [go_sem, ↓reduceIte, reduceCtorEq, nA, nB, nC, nD, nE, nF, hwl] <;> and_intros <;> first | (apply hK1; clear hK1 K1) | (intros; (omega))))))
   refine awp_cond (t := _) rfl (fun h8 => ?_) (fun h8 => ?_)
   ·simp only [decide_eq_true_eq] at h8
    have hk : i + c < L.length := by omega
    have hkw : i + c < ws.length := by omega
    obtain ⟨w, hwk⟩ : ∃ w, L[i + c]? = some w := ⟨_, List.getElem?_eq_getElem hk⟩
    have hst := innerR_step blank wide L (i + c) w hwk (lineW blank ((L.drop i).take c)) c cur
    rw [hin, ← lineW_succ blank L i c w hwk] at hst
    obtain ⟨V, hV⟩ : ∃ V, V = (ws.drop i).take (c + 1) := ⟨_, rfl⟩
    have tn : ((i : Int) + ((c : Int) + 1)).toNat = i + (c + 1) := by omega
    have hVm : ((ws.map encLn).drop i).take (c + 1) = V.map encLn := by rw [hV, ← List.map_drop, ← List.map_take]
    have hVl : V.length = c + 1 := by rw [hV, List.length_take, List.length_drop]; omega
    have hcl : (V.map encLn).length = c + 1 := by rw [List.length_map]; exact hVl
    have hVt : ∀ w ∈ V, ∀ t ∈ w, t ∈ toks := fun w hw => hwt w (List.mem_of_mem_drop (List.mem_of_mem_take (hV ▸ hw)))
    have hVf : V.flatten.length ≤ 2000 := by rw [hV]; exact Nat.le_trans (drop_flat_le ws i (c + 1)) (by omega)
    have hjo := a_joinBl V none hVt (by omega) (by omega) hy
    have hjt := joinT_toks hVt
    have hjl2 := joinT_len V
    have hNV : lineW blank ((L.drop i).take (c + 1)) = sumW f (joinT V) := by
     rw [hjs V (fun e => by rw [e] at hVl; simp at hVl), hV, List.map_take, List.map_drop, ← hL]
    have hsb := hg.fob.sum (joinT V)
    rw [hNV] at hst
    obtain ⟨N, hN⟩ : ∃ N, N = sumW f (joinT V) := ⟨_, rfl⟩
    (repeat (first | refine gO rfl ?_ | ((refine gM zM31 fun K1 hK1 => ?_; simp only [go_sem, ↓reduceIte, reduceCtorEq, nA, nB, nC, nD, nE, nF, hwl, tn, hVm, hcl, Int.toNat_natCast, Nat.add_sub_cancel_left, Option.toList_none, Option.toList_some, List.append_eq, List.nil_append, List.cons_append, uside] <;> and_intros <;> first | (intros; (omega)) | skip))))
    refine hjo.mono ?_; rintro _ hz ⟨rfl, hh⟩; apply hK1; clear hK1 K1; rw [hh]; clear hh hz
    first | refine gO rfl ?_ | ((first | refine gM zM31 ?_ | (with_reducible refine wM ?_ ?_) | ((with_reducible refine xS ?_); refine uF 20 zM31 17 zP1BE zP1BP 170 rfl (by kernel_rfl) ?_) | ((with_reducible refine xR ?_); refine uE 22 zM31 zP1CE zP1CP 170 rfl (by kernel_rfl) ?_) | ((with_reducible refine xS ?_); refine uD 23 zM31 zP1DE zP1DP 170 rfl (by kernel_rfl) ?_)) <;> ((try with_reducible intro K1 hK1); simp only [go_sem, ↓reduceIte, reduceCtorEq, nA, nB, nC, nD, nE, nF] <;> and_intros <;> first | (apply hK1; clear hK1 K1) | (intros; first | omega | decide | (simp_all <;> omega)) | skip))
    first | refine gO rfl ?_ | ((first | refine gM zM31 ?_ | (with_reducible refine wM ?_ ?_) | ((with_reducible refine xS ?_); refine uF 20 zM31 17 zP1BE zP1BP 170 rfl (by kernel_rfl) ?_) | ((with_reducible refine xR ?_); refine uE 22 zM31 zP1CE zP1CP 170 rfl (by kernel_rfl) ?_) | ((with_reducible refine xS ?_); refine uD 23 zM31 zP1DE zP1DP 170 rfl (by kernel_rfl) ?_)) <;> ((try with_reducible intro K1 hK1); simp only [go_sem, ↓reduceIte, reduceCtorEq, nA, nB, nC, nD, nE, nF] <;> and_intros <;> first | (apply hK1; clear hK1 K1) | (intros; first | omega | decide | (simp_all <;> omega)) | skip))
    have hwo := g_wideOfR f kk (joinT V) hjt (by omega) hg k0 hy (hgy.2 _ _ hT2)
    rw [hfl, ← hN] at hwo
    rw [← hN] at hst hsb
    refine awp_seqJ (rl false [2, 2, 4, 1, 2, 5, 3, 3, 148]) 0 (fun s => ∃ hz : Hp, Gr hy hz ∧ (c = 0 ∨ N ≤ wide) ∧ s = ⟨(AV.junk :: AV.junk :: ((.v (.int .i64 wide)) :: (.ref [.v (.string f.key), .v (.int .i64 f.hi), .v (.int .i64 f.ot), .row 3 (f.ws.map encW) kk] 0) :: (jnk 4 ((.row 1 (D.map encLn) (some q)) :: AV.junk :: AV.junk :: ((.row 1 (ws.map encLn) none) :: (.arr 3 p (ws.length + 1)) :: (.v (.int .i64 i)) :: (.v (.int .i64 ((c : Int) + 1))) :: (.v (.string (bsOf (joinT V).flatten))) :: (jnk 3 ((.row 1 ((P.map List.flatten).map encL1) none) :: (.v (.int .i64 P.length)) :: (.v (.int .i64 j)) :: (jnk 148 [])))))))), [], hz⟩) ?_ ?_
    ·by_cases c0 : c = 0
     ·have d1 : decide ((1 : Int) < (c : Int) + 1) = false := decide_eq_false (by omega)
      (repeat (((refine gM zM31 fun K1 hK1 => ?_; simp only [go_sem, ↓reduceIte, reduceCtorEq, nA, nB, nC, nD, nE, nF, d1] <;> and_intros <;> first | (apply hK1; clear hK1 K1) | skip))))
      refine ⟨.v (.int .i64 0), rfl, hK1 _ ?_⟩; clear hK1 K1
      (repeat ((refine gO rfl ?_)))
      refine awp_cond (t := _) rfl (fun h9 => by cases h9) (fun _ => ?_)
      (repeat ((refine gO rfl ?_)))
      exact ⟨hy, Gr.refl _, .inl c0, rfl⟩
     ·have d1 : decide ((1 : Int) < (c : Int) + 1) = true := decide_eq_true (by omega)
      (repeat (((refine gM zM31 fun K1 hK1 => ?_; simp only [go_sem, ↓reduceIte, reduceCtorEq, nA, nB, nC, nD, nE, nF, d1] <;> and_intros))))
      rotate_left
      ·exact fun h => h.elim
      refine hwo.mono ?_
      rintro _ hz ⟨rfl, hgz⟩; refine ⟨rfl, hK1 _ ?_⟩; clear hK1 K1
      (repeat (first | refine gO rfl ?_ | ((refine gM zM31 fun K1 hK1 => ?_; simp only [go_sem, ↓reduceIte, reduceCtorEq, nA, nB, nC, nD, nE, nF, d1] <;> and_intros <;> (apply hK1; clear hK1 K1)))))
      refine awp_cond (t := _) rfl (fun h9 => ?_) (fun h9 => ?_)
      ·simp only [decide_eq_true_eq] at h9
       rw [if_pos ⟨by omega, h9⟩] at hst
       (repeat (first | refine gO rfl ?_ | ((refine gM zM31 fun K1 hK1 => ?_; simp only [go_sem, ↓reduceIte, reduceCtorEq, nA, nB, nC, nD, nE, nF] <;> and_intros <;> first | (apply hK1; clear hK1 K1) | (intros; (omega))))))
       refine ⟨i, by omega, hz, by omega, hgy.trans hgz, ?_, ?_⟩
       ·rw [hgz.2 _ _ hyp, ← hst, hfin]
       ·rfl
      ·simp only [decide_eq_false_iff_not] at h9
       (repeat ((refine gO rfl ?_)))
       exact ⟨hz, hgz, .inr (by omega), rfl⟩
    rintro _ ⟨hz, hgz, hcN, rfl⟩
    rw [if_neg (fun e => by omega)] at hst
    have hzp := hgz.2 _ _ hyp
    have hrl := rowY_len blank wide L i cur hi
    rw [hLl] at hrl
    have hat := rowY_at blank wide L i (i + c) cur (by omega) hk
    have hcu := rowY_cur blank wide L i cur
    have hset := fun w => rowY_set blank wide L i cur w
    have hyb := hwb (i + c + 1)
    obtain ⟨y, hy1⟩ : ∃ y, y = wayAt blank wide L (i + c + 1) := ⟨_, rfl⟩
    rw [← hy1] at hat hyb
    have hyl : 0 ≤ y.1 ∧ y.1 ≤ 20000 := by have := hyb.1; omega
    have hys : 0 ≤ y.2.1 ∧ y.2.1 ≤ 200000000000000 := ⟨hyb.2.1.1, Int.le_trans hyb.2.1.2 (Int.mul_le_mul (a := wide * wide) (b := ((L.length - (i + c + 1) : Nat) : Int)) (c := 10000000000) (d := 20000) hC (by omega) (by omega) (by omega))⟩
    have tk1 : ((i : Int) + ((c : Int) + 1)).toNat = i + c + 1 := by omega
    (repeat (first | refine gO rfl ?_ | ((first | refine gM zM31 ?_ | (with_reducible refine wM ?_ ?_) | ((with_reducible refine xS ?_); refine uF 20 zM31 17 zP1BE zP1BP 170 rfl (by kernel_rfl) ?_)) <;> ((try with_reducible intro K1 hK1); simp only [go_sem, ↓reduceIte, reduceCtorEq, nA, nB, nC, nD, nE, nF, hwl, hzp, hrl, tk1, hat, encY, Int.toNat_natCast] <;> and_intros <;> first | (apply hK1; clear hK1 K1) | (intros; (omega))))))
    have hsq := g_square f kk (joinT V) wide hjt (by omega) hw hg k0 hz (hgz.2 _ _ (hgy.2 _ _ hT2))
    rw [hfl, ← hN] at hsq
    have hcb2 := cost_sq (n := N) (wide := wide) (by omega) (by omega)
    have hNt : i + c + 1 < L.length → encY (wayN blank wide L (i + c) N c) = [.v (.int .i64 (y.1 + 1)), .v (.int .i64 (y.2.1 + costT N wide)), .v (.int .i64 ((c : Int) + 1))] := fun e => by
     unfold wayN encY
     rw [← hy1, if_pos e]; rfl
    have hNf : ¬ i + c + 1 < L.length → encY (wayN blank wide L (i + c) N c) = [.v (.int .i64 (y.1 + 1)), .v (.int .i64 y.2.1), .v (.int .i64 ((c : Int) + 1))] := fun e => by
     unfold wayN encY
     rw [← hy1, if_neg e]; rfl
    have hNb : WayB (wide * wide) (L.length + 1) (wayN blank wide L (i + c) N c) := by
     have h1 : WayB (wide * wide) (L.length - (i + c + 1) + 1) (wayX wide y (L.drop (i + c + 1)) N 0) := wayX_bd hC0 hyb _ hcb2 (by omega)
     have h2 := h1.mono hC0 (k := L.length + 1) (by omega)
     unfold wayX at h2
     unfold wayN
     rw [← hy1]
     refine ⟨h2.1, ?_, by show c + 1 ≤ _; omega⟩
     have h3 := h2.2.1
     by_cases e : i + c + 1 < L.length
     ·rw [if_pos e]; rw [if_neg (by simp; omega)] at h3; exact h3
     ·rw [if_neg e]; rw [if_pos (by simp; omega)] at h3; exact h3
    generalize wayN blank wide L (i + c) N c = W1 at *
    refine awp_join (rl false [2, 2, 4, 1, 2, 4, 1, 1, 2, 3, 148]) 1 (fun s => ∃ hw2 : Hp, Gr hz hw2 ∧ s = ⟨(AV.junk :: AV.junk :: ((.v (.int .i64 wide)) :: (.ref [.v (.string f.key), .v (.int .i64 f.hi), .v (.int .i64 f.ot), .row 3 (f.ws.map encW) kk] 0) :: (jnk 4 ((.row 1 (D.map encLn) (some q)) :: AV.junk :: AV.junk :: ((.row 1 (ws.map encLn) none) :: (.arr 3 p (ws.length + 1)) :: (.v (.int .i64 i)) :: (.v (.int .i64 ((c : Int) + 1))) :: AV.junk :: ((.loc 0 0) :: AV.junk :: AV.junk :: ((.row 1 ((P.map List.flatten).map encL1) none) :: (.v (.int .i64 P.length)) :: (.v (.int .i64 j)) :: (jnk 148 [])))))))), [encY W1], hw2⟩) ?_ ?_
    ·refine awp_cond (t := _) rfl (fun h8 => ?_) (fun h8 => ?_)
     ·simp only [decide_eq_true_eq] at h8
      (repeat (((first | refine gM zM31 ?_ | ((with_reducible refine xR ?_); refine uE 22 zM31 zP1CE zP1CP 170 rfl (by kernel_rfl) ?_)) <;> ((try with_reducible intro K1 hK1); simp only [go_sem, ↓reduceIte, reduceCtorEq, nA, nB, nC, nD, nE, nF] <;> and_intros <;> first | (apply hK1; clear hK1 K1) | skip))))
      refine hsq.mono ?_
      rintro _ hv ⟨rfl, hgv⟩; apply hK1; clear hK1 K1
      (repeat ((((with_reducible refine wM ?_ ?_)) <;> ((try with_reducible intro K1 hK1); simp only [go_sem, ↓reduceIte, reduceCtorEq, nA, nB, nC, nD, nE, nF] <;> and_intros <;> first | (apply hK1; clear hK1 K1) | (intros; (omega)) | skip))))
      all_goals try with_reducible rfl
      (repeat (first | refine gO rfl ?_ | ((first | refine gM zM31 ?_ | (with_reducible refine wM ?_ ?_)) <;> ((try with_reducible intro K1 hK1); simp only [go_sem, ↓reduceIte, reduceCtorEq, nA, nB, nC, nD, nE, nF] <;> and_intros <;> (apply hK1; clear hK1 K1)))))
      all_goals try with_reducible rfl
      refine ⟨hv, hgv, ?_⟩
      rw [hNt (by omega)]; rfl
     ·simp only [decide_eq_false_iff_not] at h8
      (repeat ((refine gO rfl ?_)))
      refine ⟨hz, Gr.refl _, ?_⟩
      rw [hNf (by omega)]; rfl
    rintro _ ⟨hv, hgv, rfl⟩
    clear hNt hNf
    obtain ⟨a1, a2, a3⟩ := W1
    obtain ⟨b1, b2, b3⟩ := cur
    have hx1 : encY (a1, a2, a3) = [.v (.int .i64 a1), .v (.int .i64 a2), .v (.int .i64 a3)] := rfl
    have hx2 : encY (b1, b2, b3) = [.v (.int .i64 b1), .v (.int .i64 b2), .v (.int .i64 b3)] := rfl
    rw [hx2] at hcu
    have hs1 := hset (a1, a2, a3)
    rw [hx1] at hs1 ⊢
    have hvp := hgv.2 _ _ hzp
    by_cases e1 : a1 < b1
    ·have d1 : decide (a1 < b1) = true := decide_eq_true e1
     have hle : wayLe (a1, a2, a3) (b1, b2, b3) = true := by unfold wayLe; simp [e1]
     (repeat (first | refine gO rfl ?_ | ((((with_reducible refine xS ?_); refine uD 23 zM31 zP1DE zP1DP 170 rfl (by kernel_rfl) ?_)) <;> ((try with_reducible intro K1 hK1); simp only [go_sem, ↓reduceIte, reduceCtorEq, nA, nB, nC, nD, nE, nF, Int.toNat_natCast, hvp, hrl, hcu, d1] <;> and_intros <;> first | (apply hK1; clear hK1 K1) | (intros; (omega))))))
     all_goals try with_reducible rfl
     refine awp_cond (t := _) rfl (fun _ => ?_) (fun h9 => by cases h9)
     (repeat (first | refine gO rfl ?_ | ((refine gM zM31 fun K1 hK1 => ?_; simp only [go_sem, ↓reduceIte, reduceCtorEq, nA, nB, nC, nD, nE, nF, Int.toNat_natCast, hvp, hrl, hcu] <;> and_intros <;> first | (apply hK1; clear hK1 K1) | (intros; (omega))))))
     refine ⟨g3 - 1, by omega, c + 1, (a1, a2, a3), ⟨hv.H, upd hv.T p (some (.cont 3 (rowY blank wide L i (a1, a2, a3))))⟩, by omega, gr_set (hgy.trans (hgz.trans hgv)) hp _, upd_same _ _ _, hNb, ?_, ?_⟩
     ·rw [hNV, ← hN]; rw [if_pos hle] at hst; exact hst.symm
     ·rw [← hs1]; rfl
    ·have d1 : decide (a1 < b1) = false := decide_eq_false e1
     by_cases e2 : a1 = b1
     ·have d2 : (a1 == b1) = true := by simp [e2]
      by_cases e3 : a2 ≤ b2
      ·have d3 : decide (a2 ≤ b2) = true := decide_eq_true e3
       have hle : wayLe (a1, a2, a3) (b1, b2, b3) = true := by unfold wayLe; simp [e2, e3]
       (repeat (first | refine gO rfl ?_ | ((((with_reducible refine xS ?_); refine uD 23 zM31 zP1DE zP1DP 170 rfl (by kernel_rfl) ?_)) <;> ((try with_reducible intro K1 hK1); simp only [go_sem, ↓reduceIte, reduceCtorEq, nA, nB, nC, nD, nE, nF, Int.toNat_natCast, hvp, hrl, hcu, d1, d2, d3] <;> and_intros <;> first | (apply hK1; clear hK1 K1) | (intros; (omega))))))
       all_goals try with_reducible rfl
       refine awp_cond (t := _) rfl (fun _ => ?_) (fun h9 => by cases h9)
       (repeat (first | refine gO rfl ?_ | ((refine gM zM31 fun K1 hK1 => ?_; simp only [go_sem, ↓reduceIte, reduceCtorEq, nA, nB, nC, nD, nE, nF, Int.toNat_natCast, hvp, hrl, hcu] <;> and_intros <;> first | (apply hK1; clear hK1 K1) | (intros; (omega))))))
       refine ⟨g3 - 1, by omega, c + 1, (a1, a2, a3), ⟨hv.H, upd hv.T p (some (.cont 3 (rowY blank wide L i (a1, a2, a3))))⟩, by omega, gr_set (hgy.trans (hgz.trans hgv)) hp _, upd_same _ _ _, hNb, ?_, ?_⟩
       ·rw [hNV, ← hN]; rw [if_pos hle] at hst; exact hst.symm
       ·rw [← hs1]; rfl
      ·have d3 : decide (a2 ≤ b2) = false := decide_eq_false e3
       have hle : ¬ wayLe (a1, a2, a3) (b1, b2, b3) = true := by unfold wayLe; simp [e2, e3]
       (repeat (first | refine gO rfl ?_ | ((((with_reducible refine xS ?_); refine uD 23 zM31 zP1DE zP1DP 170 rfl (by kernel_rfl) ?_)) <;> ((try with_reducible intro K1 hK1); simp only [go_sem, ↓reduceIte, reduceCtorEq, nA, nB, nC, nD, nE, nF, Int.toNat_natCast, hvp, hrl, hcu, d1, d2, d3] <;> and_intros <;> first | (apply hK1; clear hK1 K1) | (intros; (omega))))))
       all_goals try with_reducible rfl
       refine awp_cond (t := _) rfl (fun h9 => by cases h9) (fun _ => ?_)
       (repeat (first | refine gO rfl ?_ | ((refine gM zM31 fun K1 hK1 => ?_; simp only [go_sem, ↓reduceIte, reduceCtorEq, nA, nB, nC, nD, nE, nF] <;> and_intros <;> first | (apply hK1; clear hK1 K1) | (intros; (omega))))))
       refine ⟨g3 - 1, by omega, c + 1, (b1, b2, b3), hv, by omega, hgy.trans (hgz.trans hgv), hvp, hcb, ?_, rfl⟩
       rw [hNV, ← hN]; rw [if_neg hle] at hst; exact hst.symm
     ·have d2 : (a1 == b1) = false := by simp [e2]
      have hle : ¬ wayLe (a1, a2, a3) (b1, b2, b3) = true := by unfold wayLe; simp [e1, e2]
      (repeat (first | refine gO rfl ?_ | ((((with_reducible refine xS ?_); refine uD 23 zM31 zP1DE zP1DP 170 rfl (by kernel_rfl) ?_)) <;> ((try with_reducible intro K1 hK1); simp only [go_sem, ↓reduceIte, reduceCtorEq, nA, nB, nC, nD, nE, nF, Int.toNat_natCast, hvp, hrl, hcu, d1, d2] <;> and_intros <;> first | (apply hK1; clear hK1 K1) | (intros; (omega))))))
      all_goals try with_reducible rfl
      refine awp_cond (t := _) rfl (fun h9 => by cases h9) (fun _ => ?_)
      (repeat (first | refine gO rfl ?_ | ((refine gM zM31 fun K1 hK1 => ?_; simp only [go_sem, ↓reduceIte, reduceCtorEq, nA, nB, nC, nD, nE, nF] <;> and_intros <;> first | (apply hK1; clear hK1 K1) | (intros; (omega))))))
      refine ⟨g3 - 1, by omega, c + 1, (b1, b2, b3), hv, by omega, hgy.trans (hgz.trans hgv), hvp, hcb, ?_, rfl⟩
      rw [hNV, ← hN]; rw [if_neg hle] at hst; exact hst.symm
   ·simp only [decide_eq_false_iff_not] at h8
    have hcl : i + c = L.length := by omega
    rw [innerR_end _ _ _ _ (by omega)] at hin
    (repeat (first | refine gO rfl ?_ | ((refine gM zM31 fun K1 hK1 => ?_; simp only [go_sem, ↓reduceIte, reduceCtorEq, nA, nB, nC, nD, nE, nF] <;> and_intros <;> first | (apply hK1; clear hK1 K1) | (intros; (omega))))))
    refine ⟨i, by omega, hy, by omega, hgy, ?_, ?_⟩
    ·rw [hyp, hin, hfin]
    ·rfl
  ·simp only [decide_eq_false_iff_not] at h7
   have hj0 : i' = 0 := by omega
   subst hj0
   rw [List.drop_zero, List.replicate_zero, List.nil_append] at hxp
   obtain ⟨Y, hY⟩ : ∃ Y, Y = waysT blank wide L := ⟨_, rfl⟩
   rw [← hY] at hxp hpe
   have hYl : Y.length = ws.length + 1 := by rw [hY, waysT_len, hLl]
   have hq3 : hx.T q = some (.tail D.length) := hgx.2 _ _ hq2
   have hpq : p ≠ q := by rintro rfl; rw [hp] at hq2; cases hq2
   have hyl : (Y.map encY).length = ws.length + 1 := by rw [List.length_map]; exact hYl
   (repeat (first | refine gO rfl ?_ | ((refine gM zM31 fun K1 hK1 => ?_; simp only [go_sem, ↓reduceIte, reduceCtorEq, nA, nB, nC, nD, nE, nF] <;> and_intros <;> (apply hK1; clear hK1 K1)))))
   refine awp_loopC (rl false [2, 2, 4, 1, 2, 2, 4, 1, 1, 3, 148]) 0 (fun g4 s => ∃ (i : Nat) (E : List (List Tok)) (g' : Nat), g4 + i = ws.length ∧ ws.length - i ≤ g' ∧ E ++ paraT g' (ws.drop i) (Y.drop i) = paraT ws.length ws Y ∧ E.length ≤ i ∧
    s = ⟨(AV.junk :: AV.junk :: ((.v (.int .i64 wide)) :: (.ref [.v (.string f.key), .v (.int .i64 f.hi), .v (.int .i64 f.ot), .row 3 (f.ws.map encW) kk] 0) :: (jnk 4 ((.row 1 ((D ++ E).map encLn) (some q)) :: AV.junk :: AV.junk :: ((.row 1 (ws.map encLn) none) :: (.arr 3 p (ws.length + 1)) :: (jnk 4 ((.v (.int .i64 i)) :: AV.junk :: ((.row 1 ((P.map List.flatten).map encL1) none) :: (.v (.int .i64 P.length)) :: (.v (.int .i64 j)) :: (jnk 148 []))))))))), [], ⟨hx.H, upd hx.T q (some (.tail (D ++ E).length))⟩⟩) ws.length ⟨0, [], ws.length, by omega, by omega, rfl, by simp, ?_⟩ ?_
   ·rw [List.append_nil, upd_self _ hq3]; rfl
   rintro g4 _ ⟨i, E, g', hg4, hg', hE, hEl, rfl⟩
   (repeat (first | refine gO rfl ?_ | ((refine gM zM31 fun K1 hK1 => ?_; simp only [go_sem, ↓reduceIte, reduceCtorEq, nA, nB, nC, nD, nE, nF, hwl] <;> and_intros <;> (apply hK1; clear hK1 K1)))))
   refine awp_cond (t := _) rfl (fun h8 => ?_) (fun h8 => ?_)
   ·simp only [decide_eq_true_eq] at h8
    have hi : i < ws.length := by omega
    have hfo := ways_first blank wide (L.drop i) (fun e => by have := congrArg List.length e; simp at this; omega) (0, 0, 0)
    have hfi : (Y.drop i).getD 0 (0, 0, 0) = wayAt blank wide L i := by rw [hY, waysT_drop _ _ _ _ (by omega)]; rfl
    have hyi : (Y.map encY).getD i [] = encY (wayAt blank wide L i) := by
     rw [← ways_getD blank wide L i (by omega) (0, 0, 0), ← hY, List.getD_eq_getElem?_getD, List.getElem?_map, List.getD_eq_getElem?_getD, List.getElem?_eq_getElem (by omega)]
     rfl
    change firstOk blank wide (L.drop i) (wayAt blank wide L i).2.2 at hfo
    generalize wayAt blank wide L i = y at hfo hyi hfi
    obtain ⟨y1, y2, fi⟩ := y
    obtain ⟨hf1, hf2, _⟩ := hfo
    rw [List.length_drop] at hf2
    change 1 ≤ fi at hf1
    change fi ≤ _ at hf2
    have hye : encY (y1, y2, fi) = [.v (.int .i64 y1), .v (.int .i64 y2), .v (.int .i64 fi)] := rfl
    rw [hye] at hyi
    have tn : ((i : Int) + (fi : Int)).toNat = i + fi := by omega
    obtain ⟨V, hV⟩ : ∃ V, V = (ws.drop i).take fi := ⟨_, rfl⟩
    have hVm : ((ws.map encLn).drop i).take fi = V.map encLn := by rw [hV, ← List.map_drop, ← List.map_take]
    have hVl : V.length = fi := by rw [hV, List.length_take, List.length_drop]; omega
    have hcl : (V.map encLn).length = fi := by rw [List.length_map]; exact hVl
    have hVt : ∀ w ∈ V, ∀ t ∈ w, t ∈ toks := fun w hw => hwt w (List.mem_of_mem_drop (List.mem_of_mem_take (hV ▸ hw)))
    have hVf : V.flatten.length ≤ 2000 := by rw [hV]; exact Nat.le_trans (drop_flat_le ws i fi) (by omega)
    have hjo := a_joinBl V none hVt (by omega) (by omega)
    have hkp : upd hx.T q (some (TO.tail (D ++ E).length)) p = some (.cont 3 (Y.map encY)) := (upd_other _ _ hpq).trans hxp
    have hkp2 : upd hx.T q (some (TO.tail (D.length + E.length + 1))) p = some (.cont 3 (Y.map encY)) := (upd_other _ _ hpq).trans hxp
    have hlo : (D ++ E).length = D.length + E.length := List.length_append
    rw [hlo] at hkp ⊢
    have hlm : ((D ++ E).map encLn).length = D.length + E.length := by rw [List.length_map]; exact hlo
    (repeat (first | refine gO rfl ?_ | ((refine gM zM31 fun K1 hK1 => ?_; simp only [go_sem, ↓reduceIte, reduceCtorEq, nA, nB, nC, nD, nE, nF, hwl, hkp, hyl, hyi, Int.toNat_natCast, tn, Nat.add_sub_cancel_left, hVm, hcl, Option.toList_none, Option.toList_some, List.append_eq, List.nil_append, List.cons_append, uside] <;> and_intros <;> first | (intros; (omega)) | skip))))
    refine (hjo _).mono ?_; rintro _ hz ⟨rfl, hh⟩; apply hK1; clear hK1 K1; rw [hh]; clear hh hz
    (repeat (first | refine gO rfl ?_ | ((refine gM zM31 fun K1 hK1 => ?_; simp only [go_sem, ↓reduceIte, reduceCtorEq, nA, nB, nC, nD, nE, nF, hlm, hkp2, hyl, hyi, upd_same, upd_upd, Int.toNat_natCast] <;> and_intros <;> first | (apply hK1; clear hK1 K1) | (intros; first | omega | decide)))))
    obtain ⟨g'', rfl⟩ : ∃ g'', g' = g'' + 1 := ⟨g' - 1, by omega⟩
    rw [paraT, if_neg (fun e => by have := congrArg List.length e; simp at this; omega), hfi, ← hV, List.drop_drop, List.drop_drop] at hE
    refine ⟨g4 - fi, by omega, i + fi, E ++ [joinT V], g'', by omega, by omega, ?_, ?_, ?_⟩
    ·rw [List.append_assoc]; exact hE
    ·rw [List.length_append]; simp only [List.length_cons, List.length_nil]; omega
    ·rw [← List.append_assoc, List.map_append (l₁ := D ++ E), List.length_append, hlo]; rfl
   ·simp only [decide_eq_false_iff_not] at h8
    have hie : i = ws.length := by omega
    subst hie
    have hpn : paraT g' (ws.drop ws.length) (Y.drop ws.length) = [] := by
     rw [List.drop_length]
     cases g' with
     | zero => rfl
     | succ g' => rw [paraT, if_pos rfl]
    rw [hpn, List.append_nil] at hE
    rw [hpe, ← hE] at htk
    (repeat (first | refine gO rfl ?_ | ((refine gM zM31 fun K1 hK1 => ?_; simp only [go_sem, ↓reduceIte, reduceCtorEq, nA, nB, nC, nD, nE, nF] <;> and_intros <;> first | (apply hK1; clear hK1 K1) | (intros; (omega))))))
    refine ⟨g - 1, by omega, j + 1, ⟨hx.H, upd hx.T q (some (.tail (D ++ E).length))⟩, by omega, gr_set (hgr.trans (hgr2.trans hgx)) hq _, ?_, ?_⟩
    ·rw [htk]; exact upd_same _ _ _
    ·rw [htk]; rfl
 ·simp only [decide_eq_false_iff_not] at h5
  have hjl : j = P.length := by omega
  subst hjl
  rw [List.take_length]
  (repeat (first | refine gO rfl ?_ | ((refine gM zM31 fun K1 hK1 => ?_; simp only [go_sem, ↓reduceIte, reduceCtorEq, nA, nB, nC, nD, nE, nF] <;> and_intros <;> (apply hK1; clear hK1 K1)))))
  simp only [Tryz.results19, go_sem, ↓reduceIte, reduceCtorEq, nA, nB, nC, nD, nE, nF]
  exact ⟨_, _, Weak.tup1 (Weak.row _ _ _) (Weak.refl _), Hp.le.refl _, rfl, hgr⟩
set_option maxHeartbeats 8000000
theorem a_trimBl (l : List Tok) (hl : ∀ t ∈ l, t ∈ toks) (hn : l.length ≤ 10000) (h : Hp) : ACalls Tryz.prog 60 [.v (.string (bsOf l.flatten)), .v (.string ⟨#[32]⟩)] h (fun r h' => r = .v (.string (bsOf (l.take (trN l l.length)).flatten)) ∧ h' = h) := by
 have hsz : (bsOf l.flatten).size = l.flatten.length := size_bs _
 have hf := flat_le2 l hl
 have ht := trim_toks l hl l.length (Nat.le_refl _)
 rw [List.take_length] at ht
 exact acalls_pure (by kernel_rfl) [.string (bsOf l.flatten), .string ⟨#[32]⟩] rfl (fun w => (Tryz.strings_TrimRight_one (bsOf l.flatten) 32 (by decide) w (by omega)).mono fun e w' ⟨h1, h2⟩ => ⟨by rw [h1, show (bsOf l.flatten).data.toList = l.flatten from rfl, ht]; rfl, by rw [h2]; exact bel_id w⟩) h
theorem trN_take (l : List Tok) : ∀ n m, n ≤ m → trN (l.take m) n = trN l n
 | 0, _, _ => rfl
 | n + 1, m, h => by
  rw [trN, trN, trN_take l n m (by omega)]
  have : (l.take m).getD n [] = l.getD n [] := by
   rw [List.getD_eq_getElem?_getD, List.getD_eq_getElem?_getD, List.getElem?_take, if_pos (by omega)]
  rw [this]
def shX (f : Fo) (wide : Int) (l : List Tok) : Nat → List Tok
 | 0 => dotsR f wide 3
 | n + 1 => shR f wide l n
theorem shX_step (f : Fo) (wide : Int) (l : List Tok) (n : Nat) : shX f wide l (n + 1) = if sumW f (l.take (trN l n) ++ dots3) ≤ wide then l.take (trN l n) ++ dots3 else shX f wide l n := by
 cases n with
 | zero => show shR f wide l 0 = _; rw [shR]; rfl
 | succ n => show shR f wide l (n + 1) = _; rw [shR]; rfl
theorem rep_toks (m : Nat) : ∀ t ∈ List.replicate m dotT, t ∈ toks := fun t ht => by rw [(List.mem_replicate.1 ht).2]; decide
theorem g_shortenOf (f : Fo) (kk : Option Nat) (ts : List Tok) (wide : Int) (hts : ∀ t ∈ ts, t ∈ toks) (hn : ts.length ≤ 2000) (hw : 1 ≤ wide ∧ wide ≤ 100000) (hg : Good f) (k0 : Nat) (h : Hp) (hT : h.T k0 = some (.glb tabU)) :
  ACalls Tryz.prog 25 [encFo f kk, .v (.string (bsOf ts.flatten)), .v (.int .i64 wide)] h (fun r h' => r = .v (.string (bsOf (shortT f wide ts).flatten)) ∧ Gr h h') := by
 have hfl : ∀ x, (encFo f x) = .agg [.v (.string f.key), .v (.int .i64 f.hi), .v (.int .i64 f.ot), .row 3 (f.ws.map encW) x] := fun _ => rfl
 have hsr := short_ref hg.fob hw.1 ts
 have hwo := g_wideOfR f kk ts hts (by omega) hg k0 h hT
 rw [hfl] at hwo
 refine gE Tryz.func25 rfl (by kernel_rfl) 42 rfl fun c => ?_
 (repeat (first | refine gO rfl ?_ | (refine gR fun K1 hK1 => ?_; simp only [go_sem, ↓reduceIte, reduceCtorEq, nA, nB, nC, nD, nE, nF, hfl] <;> and_intros <;> first | (apply hK1; clear hK1 K1) | skip)))
 refine hwo.mono ?_
 rintro _ h1 ⟨rfl, hg1⟩; apply hK1; clear hK1 K1
 (repeat (first | refine gO rfl ?_ | (refine gR fun K1 hK1 => ?_; simp only [go_sem, ↓reduceIte, reduceCtorEq, nA, nB, nC, nD, nE, nF] <;> and_intros <;> (apply hK1; clear hK1 K1))))
 refine awp_cond (t := _) rfl (fun h5 => ?_) (fun h5 => ?_)
 ·simp only [decide_eq_true_eq] at h5
  rw [if_pos h5] at hsr
  (repeat (first | refine gO rfl ?_ | (refine gR fun K1 hK1 => ?_; simp only [go_sem, ↓reduceIte, reduceCtorEq, nA, nB, nC, nD, nE, nF] <;> and_intros <;> (apply hK1; clear hK1 K1))))
  simp only [Tryz.results25, go_sem, ↓reduceIte, reduceCtorEq, nA, nB, nC, nD, nE, nF]
  exact ⟨_, _, Weak.refl _, Hp.le.refl _, by rw [← hsr], hg1⟩
 simp only [decide_eq_false_iff_not] at h5
 rw [if_neg h5] at hsr
 change shX f wide ts (ts.length + 1) = _ at hsr
 have hsg := g_signsR ts hts (by omega) k0 h1 (hg1.2 _ _ hT)
 (repeat (first | refine gO rfl ?_ | (refine gR fun K1 hK1 => ?_; simp only [go_sem, ↓reduceIte, reduceCtorEq, nA, nB, nC, nD, nE, nF] <;> and_intros)))
 refine hsg.mono ?_
 rintro _ hz ⟨k, hk, rfl, hh⟩; apply hK1; clear hK1 K1; rw [hh]; clear hh hz
 have hgr3 := Gr.put hk (some (.tail ts.length))
 obtain ⟨h3, eh3⟩ : ∃ h3 : Hp, (⟨h1.H, upd h1.T k (some (.tail ts.length))⟩ : Hp) = h3 := ⟨_, rfl⟩
 rw [eh3] at hgr3 ⊢
 replace hgr3 := hg1.trans hgr3
 have hml2 : (ts.map fun t => encS (bsOf t)).length = ts.length := List.length_map _
 (repeat (first | refine gO rfl ?_ | (refine gR fun K1 hK1 => ?_; simp only [go_sem, ↓reduceIte, reduceCtorEq, nA, nB, nC, nD, nE, nF, hml2] <;> and_intros <;> (apply hK1; clear hK1 K1))))
 refine awp_loopC (rl false [2, 2, 3, 2, 36]) 0 (fun n s => ∃ (h4 : Hp), n ≤ ts.length + 1 ∧ shX f wide ts n = shortT f wide ts ∧ Gr h h4 ∧
  s = ⟨(AV.junk :: AV.junk :: ((.v (.int .i64 wide)) :: (.ref [.v (.string f.key), .v (.int .i64 f.hi), .v (.int .i64 f.ot), .row 3 (f.ws.map encW) kk] 0) :: (jnk 3 ((.row 1 (ts.map fun t => encS (bsOf t)) (some k)) :: (.v (.int .i64 ((n : Int) - 1))) :: (jnk 36 []))))), [], h4⟩) (ts.length + 1) ⟨h3, Nat.le_refl _, hsr, hgr3, ?_⟩ ?_
 ·rw [show ((ts.length + 1 : Nat) : Int) - 1 = (ts.length : Int) from by omega]; rfl
 rintro n' _ ⟨h4, hn', hs4, hgr4, rfl⟩
 (repeat (first | refine gO rfl ?_ | (refine gR fun K1 hK1 => ?_; simp only [go_sem, ↓reduceIte, reduceCtorEq, nA, nB, nC, nD, nE, nF] <;> and_intros <;> (apply hK1; clear hK1 K1))))
 refine awp_cond (t := _) rfl (fun h6 => ?_) (fun h6 => ?_)
 ·simp only [decide_eq_true_eq] at h6
  obtain ⟨n, rfl⟩ : ∃ n, n' = n + 1 := ⟨n' - 1, by omega⟩
  have ei : ((n + 1 : Nat) : Int) - 1 = (n : Int) := by omega
  rw [ei]
  rw [shX_step] at hs4
  have hnn : (n : Int) ≤ ts.length := by omega
  have htk : (ts.map fun t => encS (bsOf t)).take n = (ts.take n).map fun t => encS (bsOf t) := List.map_take.symm
  have hxt2 : ∀ t ∈ ts.take n, t ∈ toks := fun t ht => hts t (List.mem_of_mem_take ht)
  have hln : (ts.take n).length = n := by rw [List.length_take]; omega
  have hfl2 := flat_le2 _ hxt2
  have hjo := a_joinToks (ts.take n) none (by omega) (by omega) h4
  have htr := a_trimBl (ts.take n) hxt2 (by omega) h4
  have htn := (trN_ok ts n).1
  rw [hln, trN_take ts n n (Nat.le_refl _), List.take_take, Nat.min_eq_left htn] at htr
  have hzt : ∀ t ∈ ts.take (trN ts n) ++ dots3, t ∈ toks := fun t ht => (List.mem_append.1 ht).elim (fun h => hts t (List.mem_of_mem_take h)) (fun h => by
   have : t = dotT := by simpa [dots3] using h
   rw [this]; decide)
  have hzl : (ts.take (trN ts n) ++ dots3).length ≤ 10000 := by rw [List.length_append, List.length_take, show dots3.length = 3 from rfl]; omega
  have hcat : bsOf (ts.take (trN ts n)).flatten ++ ⟨#[46, 46, 46]⟩ = bsOf (ts.take (trN ts n) ++ dots3).flatten := by
   rw [List.flatten_append, ← bsOf_append]; rfl
  have hszt : (bsOf (ts.take (trN ts n)).flatten).size ≤ 20000 := by
   have := flat_le2 (ts.take (trN ts n)) (fun t ht => hts t (List.mem_of_mem_take ht))
   rw [size_bs]; rw [List.length_take] at this; omega
  have hwo := g_wideOfR f kk _ hzt hzl hg k0 h4 (hgr4.2 _ _ hT)
  rw [hfl] at hwo
  (repeat (first | refine gO rfl ?_ | (refine gR fun K1 hK1 => ?_; simp only [go_sem, ↓reduceIte, reduceCtorEq, nA, nB, nC, nD, nE, nF, hml2, Int.toNat_natCast, Int.toNat_zero, Nat.sub_zero, List.drop_zero, htk, Option.toList_none, Option.toList_some, List.append_eq, List.nil_append, List.cons_append, uside] <;> and_intros <;> first | (intros; (omega)) | skip)))
  refine hjo.mono ?_; rintro _ hz ⟨rfl, hh⟩; apply hK1; clear hK1 K1; rw [hh]; clear hh hz
  (repeat ((refine gR fun K1 hK1 => ?_; simp only [go_sem, ↓reduceIte, reduceCtorEq, nA, nB, nC, nD, nE, nF] <;> and_intros)))
  refine htr.mono ?_; rintro _ hz ⟨rfl, hh⟩; apply hK1; clear hK1 K1; rw [hh]; clear hh hz
  have h3s : (#[46, 46, 46] : Array UInt8).size = 3 := rfl
  (repeat (first | refine gO rfl ?_ | (refine gR fun K1 hK1 => ?_; simp only [go_sem, ↓reduceIte, reduceCtorEq, nA, nB, nC, nD, nE, nF, hcat, h3s] <;> and_intros <;> first | (apply hK1; clear hK1 K1) | (intros; (omega)) | skip)))
  refine hwo.mono ?_
  rintro _ h5 ⟨rfl, hgr5⟩; apply hK1; clear hK1 K1
  (repeat (first | refine gO rfl ?_ | (refine gR fun K1 hK1 => ?_; simp only [go_sem, ↓reduceIte, reduceCtorEq, nA, nB, nC, nD, nE, nF] <;> and_intros <;> (apply hK1; clear hK1 K1))))
  refine awp_cond (t := _) rfl (fun h7 => ?_) (fun h7 => ?_)
  ·simp only [decide_eq_true_eq] at h7
   rw [if_pos h7] at hs4
   (repeat (first | refine gO rfl ?_ | (refine gR fun K1 hK1 => ?_; simp only [go_sem, ↓reduceIte, reduceCtorEq, nA, nB, nC, nD, nE, nF] <;> and_intros <;> (apply hK1; clear hK1 K1))))
   simp only [Tryz.results25, go_sem, ↓reduceIte, reduceCtorEq, nA, nB, nC, nD, nE, nF]
   exact ⟨_, _, Weak.refl _, Hp.le.refl _, by rw [← hs4], hgr4.trans hgr5⟩
  ·simp only [decide_eq_false_iff_not] at h7
   rw [if_neg h7] at hs4
   (repeat (first | refine gO rfl ?_ | (refine gR fun K1 hK1 => ?_; simp only [go_sem, ↓reduceIte, reduceCtorEq, nA, nB, nC, nD, nE, nF] <;> and_intros <;> first | (apply hK1; clear hK1 K1) | (intros; (omega)))))
   exact ⟨n, by omega, h5, by omega, hs4, hgr4.trans hgr5, rfl⟩
 ·simp only [decide_eq_false_iff_not] at h6
  have hn0 : n' = 0 := by omega
  subst hn0
  change dotsR f wide 3 = _ at hs4
  (repeat (first | refine gO rfl ?_ | (refine gR fun K1 hK1 => ?_; simp only [go_sem, ↓reduceIte, reduceCtorEq, nA, nB, nC, nD, nE, nF] <;> and_intros <;> (apply hK1; clear hK1 K1))))
  refine awp_loopC (rl false [2, 2, 6, 1, 34]) 0 (fun m s => ∃ (h5 : Hp), m ≤ 3 ∧ dotsR f wide m = shortT f wide ts ∧ Gr h h5 ∧
   s = ⟨(AV.junk :: AV.junk :: ((.v (.int .i64 wide)) :: (.ref [.v (.string f.key), .v (.int .i64 f.hi), .v (.int .i64 f.ot), .row 3 (f.ws.map encW) kk] 0) :: (jnk 6 ((.v (.string (bsOf (List.replicate m dotT).flatten))) :: (jnk 34 []))))), [], h5⟩) 3 ⟨h4, Nat.le_refl _, hs4, hgr4, rfl⟩ ?_
  rintro m _ ⟨h5, hm, hs5, hgr5, rfl⟩
  have hwo := g_wideOfR f kk _ (rep_toks m) (by rw [List.length_replicate]; omega) hg k0 h5 (hgr5.2 _ _ hT)
  rw [hfl] at hwo
  (repeat (first | refine gO rfl ?_ | (refine gR fun K1 hK1 => ?_; simp only [go_sem, ↓reduceIte, reduceCtorEq, nA, nB, nC, nD, nE, nF] <;> and_intros)))
  refine hwo.mono ?_
  rintro _ h8 ⟨rfl, hgr8⟩; apply hK1; clear hK1 K1
  (repeat (first | refine gO rfl ?_ | (refine gR fun K1 hK1 => ?_; simp only [go_sem, ↓reduceIte, reduceCtorEq, nA, nB, nC, nD, nE, nF] <;> and_intros <;> (apply hK1; clear hK1 K1))))
  refine awp_cond (t := _) rfl (fun h7 => ?_) (fun h7 => ?_)
  ·simp only [decide_eq_true_eq] at h7
   cases m with
   | zero => exfalso; rw [List.replicate_zero, sumW_nil] at h7; omega
   | succ m =>
    rw [dotsR, if_pos h7] at hs5
    have hcb := cut_bytes (List.replicate (m + 1) dotT) 1
    have h1s : (bsOf ((List.replicate (m + 1) dotT).take 1).flatten).size = 1 := by rw [List.replicate_succ]; rfl
    have hds : (List.replicate (m + 1) dotT).drop 1 = List.replicate m dotT := by rw [List.replicate_succ]; rfl
    rw [h1s, hds] at hcb
    have hsz : (bsOf (List.replicate (m + 1) dotT).flatten).size = m + 1 := by
     rw [size_bs, List.length_flatten]; simp [dotT]
    rw [hsz] at hcb
    (repeat (first | refine gO rfl ?_ | (refine gR fun K1 hK1 => ?_; simp only [go_sem, ↓reduceIte, reduceCtorEq, nA, nB, nC, nD, nE, nF, hsz, hcb, Int.toNat_natCast, Option.toList_none, Option.toList_some, List.append_eq, List.nil_append, List.cons_append, uside] <;> and_intros <;> first | (apply hK1; clear hK1 K1) | (intros; (omega)))))
    refine ⟨m, by omega, h8, by omega, hs5, hgr5.trans hgr8, ?_⟩
    rw [show Int.toNat 1 = 1 from rfl, hcb]; rfl
  ·simp only [decide_eq_false_iff_not] at h7
   have hr : dotsR f wide m = List.replicate m dotT := by
    cases m with
    | zero => rfl
    | succ m => rw [dotsR, if_neg h7]
   rw [hr] at hs5
   (repeat (first | refine gO rfl ?_ | (refine gR fun K1 hK1 => ?_; simp only [go_sem, ↓reduceIte, reduceCtorEq, nA, nB, nC, nD, nE, nF] <;> and_intros <;> (apply hK1; clear hK1 K1))))
   simp only [Tryz.results25, go_sem, ↓reduceIte, reduceCtorEq, nA, nB, nC, nD, nE, nF]
   exact ⟨_, _, Weak.refl _, Hp.le.refl _, by rw [← hs5], hgr5.trans hgr8⟩
theorem g_shortX (f : Fo) (kk : Option Nat) (s : ByteArray) (wide : Int) (hx : fwF f wide ≠ 0) (hks : f.key.size ≤ 1000) (hlw : f.ws.length ≤ 1000) (h : Hp) :
  ACalls Tryz.prog 24 [encFo f kk, .v (.string s), .v (.int .i64 wide)] h (fun r h' => r = .tup [.v (.string ⟨#[]⟩), .v (.int .i64 (fwF f wide))] ∧ h' = h) := by
 have hcf := g_checkFontX f kk hks hlw h
 have hfl : ∀ x, (encFo f x) = .agg [.v (.string f.key), .v (.int .i64 f.hi), .v (.int .i64 f.ot), .row 3 (f.ws.map encW) x] := fun _ => rfl
 unfold fwF at *
 by_cases hg : fontF f = 0
 ·rw [if_pos hg] at hx ⊢
  rw [hg] at hcf
  have hw : ¬ (1 ≤ wide ∧ wide ≤ 100000) := fun e => hx (by unfold pixF; rw [if_pos e])
  have hp : pixF wide = 1 := by unfold pixF; rw [if_neg hw]
  rw [hp]
  refine gE Tryz.func24 rfl (by kernel_rfl) 21 rfl fun c => ?_
  (repeat (first | refine gO rfl ?_ | (refine gR fun K1 hK1 => ?_; simp only [go_sem, ↓reduceIte, reduceCtorEq, nA, nB, nC, nD, nE, nF, hfl] <;> and_intros <;> first | (apply hK1; clear hK1 K1) | skip)))
  refine hcf.mono ?_; rintro _ hz ⟨rfl, hh⟩; apply hK1; clear hK1 K1; rw [hh]; clear hh hz
  (repeat (first | refine gO rfl ?_ | (refine gR fun K1 hK1 => ?_; simp only [go_sem, ↓reduceIte, reduceCtorEq, nA, nB, nC, nD, nE, nF] <;> and_intros <;> (apply hK1; clear hK1 K1))))
  refine awp_cond (t := _) rfl (fun h6 => by cases h6) (fun _ => ?_)
  (repeat (first | refine gO rfl ?_ | (refine gR fun K1 hK1 => ?_; simp only [go_sem, ↓reduceIte, reduceCtorEq, nA, nB, nC, nD, nE, nF] <;> and_intros)))
  refine (g_isNotWide wide hw h).mono ?_; rintro _ hz ⟨rfl, hh⟩; apply hK1; clear hK1 K1; rw [hh]; clear hh hz
  (repeat (first | refine gO rfl ?_ | (refine gR fun K1 hK1 => ?_; simp only [go_sem, ↓reduceIte, reduceCtorEq, nA, nB, nC, nD, nE, nF] <;> and_intros <;> (apply hK1; clear hK1 K1))))
  refine awp_cond (t := _) rfl (fun _ => ?_) (fun h6 => by cases h6)
  (repeat (first | refine gO rfl ?_ | (refine gR fun K1 hK1 => ?_; simp only [go_sem, ↓reduceIte, reduceCtorEq, nA, nB, nC, nD, nE, nF] <;> and_intros <;> (apply hK1; clear hK1 K1))))
  simp only [Tryz.results24, go_sem, ↓reduceIte, reduceCtorEq, nA, nB, nC, nD, nE, nF]
  exact ⟨_, _, Weak.refl _, Hp.le.refl _, rfl, rfl⟩
 ·rw [if_neg hg] at hx ⊢
  have e : (fontF f != 0) = true := by simpa using hg
  generalize fontF f = e0 at *
  refine gE Tryz.func24 rfl (by kernel_rfl) 21 rfl fun c => ?_
  (repeat (first | refine gO rfl ?_ | (refine gR fun K1 hK1 => ?_; simp only [go_sem, ↓reduceIte, reduceCtorEq, nA, nB, nC, nD, nE, nF, hfl] <;> and_intros <;> first | (apply hK1; clear hK1 K1) | skip)))
  refine hcf.mono ?_; rintro _ hz ⟨rfl, hh⟩; apply hK1; clear hK1 K1; rw [hh]; clear hh hz
  (repeat (first | refine gO rfl ?_ | (refine gR fun K1 hK1 => ?_; simp only [go_sem, ↓reduceIte, reduceCtorEq, nA, nB, nC, nD, nE, nF, e] <;> and_intros <;> (apply hK1; clear hK1 K1))))
  refine awp_cond (t := _) rfl (fun _ => ?_) (fun h6 => by first | cases h6 | (rw [e] at h6; cases h6))
  (repeat (first | refine gO rfl ?_ | (refine gR fun K1 hK1 => ?_; simp only [go_sem, ↓reduceIte, reduceCtorEq, nA, nB, nC, nD, nE, nF] <;> and_intros <;> (apply hK1; clear hK1 K1))))
  simp only [Tryz.results24, go_sem, ↓reduceIte, reduceCtorEq, nA, nB, nC, nD, nE, nF]
  exact ⟨_, _, Weak.refl _, Hp.le.refl _, rfl, rfl⟩
def fsF (f : Fo) (wide speed : Int) : Int := if fwF f wide = 0 then pixF speed else fwF f wide
def scrV (W wide speed : Int) : Int := ((W + wide) * 1000 + speed - 1).tdiv speed
theorem scr_eq (W wide speed : Int) (h0 : 0 ≤ W) (h1 : 1 ≤ wide) (h2 : 1 ≤ speed) : scrV W wide speed = if 0 < ((W + wide) * 1000).tmod speed then ((W + wide) * 1000).tdiv speed + 1 else ((W + wide) * 1000).tdiv speed := by
 unfold scrV
 have hx : 0 ≤ (W + wide) * 1000 := by omega
 generalize (W + wide) * 1000 = x at *
 rw [Int.tdiv_eq_ediv_of_nonneg (by omega), Int.tdiv_eq_ediv_of_nonneg hx, Int.tmod_eq_emod_of_nonneg hx]
 have e := Int.emod_add_mul_ediv x speed
 have b1 := Int.emod_nonneg x (show speed ≠ 0 by omega)
 have b2 := Int.emod_lt_of_pos x (show 0 < speed by omega)
 have e2 : x + speed - 1 = (x % speed + speed - 1) + speed * (x / speed) := by omega
 rw [e2, Int.add_mul_ediv_left _ _ (show speed ≠ 0 by omega)]
 split
 ·rw [show x % speed + speed - 1 = (x % speed - 1) + speed * 1 by omega, Int.add_mul_ediv_left _ _ (show speed ≠ 0 by omega), Int.ediv_eq_zero_of_lt (by omega) (by omega)]; omega
 ·rw [Int.ediv_eq_zero_of_lt (by omega) (by omega)]; omega
theorem tdiv_bd {x speed : Int} (hx : 0 ≤ x) (h2 : 1 ≤ speed) : 0 ≤ x.tdiv speed ∧ x.tdiv speed ≤ x := by
 rw [Int.tdiv_eq_ediv_of_nonneg hx]
 exact ⟨Int.ediv_nonneg hx (by omega), Int.ediv_le_self _ hx⟩
theorem g_scrollOf (f : Fo) (kk : Option Nat) (ts : List Tok) (wide speed : Int) (hts : ∀ t ∈ ts, t ∈ toks) (hn : ts.length ≤ 2000) (hw : 1 ≤ wide ∧ wide ≤ 100000) (hsp : 1 ≤ speed ∧ speed ≤ 100000) (hg : Good f) (k0 : Nat) (h : Hp) (hT : h.T k0 = some (.glb tabU)) :
  ACalls Tryz.prog 27 [encFo f kk, .v (.string (bsOf ts.flatten)), .v (.int .i64 wide), .v (.int .i64 speed)] h (fun r h' => r = .v (.int .i64 (scrV (sumW f ts) wide speed)) ∧ Gr h h') := by
 have hfl : ∀ x, (encFo f x) = .agg [.v (.string f.key), .v (.int .i64 f.hi), .v (.int .i64 f.ot), .row 3 (f.ws.map encW) x] := fun _ => rfl
 have hwo := g_wideOfR f kk ts hts (by omega) hg k0 h hT
 have hsb := hg.fob.sum ts
 rw [hfl] at hwo
 have hse := scr_eq (sumW f ts) wide speed hsb.1 hw.1 hsp.1
 generalize sumW f ts = W at *
 have hb := tdiv_bd (x := (W + wide) * 1000) (by omega) hsp.1
 refine gE Tryz.func27 rfl (by kernel_rfl) 23 rfl fun c => ?_
 (repeat (first | refine gO rfl ?_ | (refine gR fun K1 hK1 => ?_; simp only [go_sem, ↓reduceIte, reduceCtorEq, nA, nB, nC, nD, nE, nF, hfl] <;> and_intros <;> first | (apply hK1; clear hK1 K1) | skip)))
 refine hwo.mono ?_
 rintro _ h1 ⟨rfl, hg1⟩; apply hK1; clear hK1 K1
 (repeat (first | refine gO rfl ?_ | (refine gR fun K1 hK1 => ?_; simp only [go_sem, ↓reduceIte, reduceCtorEq, nA, nB, nC, nD, nE, nF] <;> and_intros <;> first | (apply hK1; clear hK1 K1) | (intros; (omega)))))
 refine awp_cond (t := _) rfl (fun h5 => ?_) (fun h5 => ?_)
 ·simp only [decide_eq_true_eq] at h5
  rw [if_pos h5] at hse
  (repeat (first | refine gO rfl ?_ | (refine gR fun K1 hK1 => ?_; simp only [go_sem, ↓reduceIte, reduceCtorEq, nA, nB, nC, nD, nE, nF] <;> and_intros <;> first | (apply hK1; clear hK1 K1) | (intros; (omega)))))
  simp only [Tryz.results27, go_sem, ↓reduceIte, reduceCtorEq, nA, nB, nC, nD, nE, nF]
  exact ⟨_, _, Weak.refl _, Hp.le.refl _, by rw [hse], hg1⟩
 ·simp only [decide_eq_false_iff_not] at h5
  rw [if_neg h5] at hse
  (repeat (first | refine gO rfl ?_ | (refine gR fun K1 hK1 => ?_; simp only [go_sem, ↓reduceIte, reduceCtorEq, nA, nB, nC, nD, nE, nF] <;> and_intros <;> (apply hK1; clear hK1 K1))))
  simp only [Tryz.results27, go_sem, ↓reduceIte, reduceCtorEq, nA, nB, nC, nD, nE, nF]
  exact ⟨_, _, Weak.refl _, Hp.le.refl _, by rw [hse], hg1⟩
theorem g_scroll (f : Fo) (kk : Option Nat) (ts : List Tok) (wide speed : Int) (hts : ∀ t ∈ ts, t ∈ toks) (hn : ts.length ≤ 2000) (hw : 1 ≤ wide ∧ wide ≤ 100000) (hsp : 1 ≤ speed ∧ speed ≤ 100000) (hg : Good f) (hks : f.key.size ≤ 1000) (k0 : Nat) (h : Hp) (hT : h.T k0 = some (.glb tabU)) :
  ACalls Tryz.prog 26 [encFo f kk, .v (.string (bsOf ts.flatten)), .v (.int .i64 wide), .v (.int .i64 speed)] h (fun r h' => r = .tup [.v (.int .i64 (scrV (sumW f ts) wide speed)), .v (.int .i64 0)] ∧ Gr h h') := by
 have hcf := g_checkFont f kk hg hks h
 have hfl : ∀ x, (encFo f x) = .agg [.v (.string f.key), .v (.int .i64 f.hi), .v (.int .i64 f.ot), .row 3 (f.ws.map encW) x] := fun _ => rfl
 have hwo := g_wideAll f kk ts hts (by omega) hg.ws hg.fob (by have := hg.len; omega) k0 h hT
 have hsb := hg.fob.sum ts
 rw [hfl] at hwo
 have hsz : (bsOf ts.flatten).size = ts.flatten.length := size_bs _
 have hle := flat_le2 ts hts
 have d1 : ((20000 : Int) < (ts.flatten.length : Int)) = False := eq_false (by omega)
 have hse : scrV (sumW f ts) wide speed = ((sumW f ts + wide) * 1000 + speed - 1).tdiv speed := rfl
 generalize sumW f ts = W at *
 have hb := tdiv_bd (x := (W + wide) * 1000 + speed - 1) (by omega) hsp.1
 refine gE Tryz.func26 rfl (by kernel_rfl) 34 rfl fun c => ?_
 (repeat (first | refine gO rfl ?_ | (refine gR fun K1 hK1 => ?_; simp only [go_sem, ↓reduceIte, reduceCtorEq, nA, nB, nC, nD, nE, nF, hfl] <;> and_intros <;> first | (apply hK1; clear hK1 K1) | skip)))
 refine hcf.mono ?_; rintro _ hz ⟨rfl, hh⟩; apply hK1; clear hK1 K1; rw [hh]; clear hh hz
 (repeat (first | refine gO rfl ?_ | (refine gR fun K1 hK1 => ?_; simp only [go_sem, ↓reduceIte, reduceCtorEq, nA, nB, nC, nD, nE, nF] <;> and_intros <;> (apply hK1; clear hK1 K1))))
 refine awp_cond (t := _) rfl (fun h6 => by cases h6) (fun _ => ?_)
 (repeat (first | refine gO rfl ?_ | (refine gR fun K1 hK1 => ?_; simp only [go_sem, ↓reduceIte, reduceCtorEq, nA, nB, nC, nD, nE, nF] <;> and_intros)))
 refine (g_isWide wide hw h).mono ?_; rintro _ hz ⟨rfl, hh⟩; apply hK1; clear hK1 K1; rw [hh]; clear hh hz
 (repeat ((refine gR fun K1 hK1 => ?_; simp only [go_sem, ↓reduceIte, reduceCtorEq, nA, nB, nC, nD, nE, nF, Bool.not_true, Bool.not_false] <;> and_intros)))
 rotate_left
 ·exact fun h => h.elim
 refine (g_isWide speed hsp h).mono ?_; rintro _ hz ⟨rfl, hh⟩; refine ⟨rfl, hK1 _ ?_⟩; clear hK1 K1; rw [hh]; clear hh hz
 (repeat (first | refine gO rfl ?_ | (refine gR fun K1 hK1 => ?_; simp only [go_sem, ↓reduceIte, reduceCtorEq, nA, nB, nC, nD, nE, nF, Bool.not_true, Bool.not_false] <;> and_intros <;> (apply hK1; clear hK1 K1))))
 refine awp_cond (t := _) rfl (fun h6 => by cases h6) (fun _ => ?_)
 (repeat (first | refine gO rfl ?_ | (refine gR fun K1 hK1 => ?_; simp only [go_sem, ↓reduceIte, reduceCtorEq, nA, nB, nC, nD, nE, nF, hsz, d1, decide_false] <;> and_intros <;> (apply hK1; clear hK1 K1))))
 refine awp_cond (t := _) rfl (fun h6 => by cases h6) (fun _ => ?_)
 (repeat (first | refine gO rfl ?_ | (refine gR fun K1 hK1 => ?_; simp only [go_sem, ↓reduceIte, reduceCtorEq, nA, nB, nC, nD, nE, nF] <;> and_intros)))
 refine hwo.mono ?_
 rintro _ h1 ⟨rfl, hg1⟩; apply hK1; clear hK1 K1
 (repeat (first | refine gO rfl ?_ | (refine gR fun K1 hK1 => ?_; simp only [go_sem, ↓reduceIte, reduceCtorEq, nA, nB, nC, nD, nE, nF] <;> and_intros <;> first | (apply hK1; clear hK1 K1) | (intros; (omega)))))
 simp only [Tryz.results26, go_sem, ↓reduceIte, reduceCtorEq, nA, nB, nC, nD, nE, nF]
 exact ⟨_, _, Weak.refl _, Hp.le.refl _, by rw [hse], hg1⟩
theorem g_scrollX (f : Fo) (kk : Option Nat) (s : ByteArray) (wide speed : Int) (hx : fsF f wide speed ≠ 0) (hks : f.key.size ≤ 1000) (hlw : f.ws.length ≤ 1000) (h : Hp) :
  ACalls Tryz.prog 26 [encFo f kk, .v (.string s), .v (.int .i64 wide), .v (.int .i64 speed)] h (fun r h' => r = .tup [.v (.int .i64 0), .v (.int .i64 (fsF f wide speed))] ∧ h' = h) := by
 have hcf := g_checkFontX f kk hks hlw h
 have hfl : ∀ x, (encFo f x) = .agg [.v (.string f.key), .v (.int .i64 f.hi), .v (.int .i64 f.ot), .row 3 (f.ws.map encW) x] := fun _ => rfl
 unfold fsF fwF at *
 by_cases hg : fontF f = 0
 ·simp only [hg, if_true] at hx ⊢
  rw [hg] at hcf
  by_cases hw : 1 ≤ wide ∧ wide ≤ 100000
  ·have hp : pixF wide = 0 := by unfold pixF; rw [if_pos hw]
   rw [hp, if_pos rfl] at hx ⊢
   have hs : ¬ (1 ≤ speed ∧ speed ≤ 100000) := fun e => hx (by unfold pixF; rw [if_pos e])
   have hp2 : pixF speed = 1 := by unfold pixF; rw [if_neg hs]
   rw [hp2]
   refine gE Tryz.func26 rfl (by kernel_rfl) 34 rfl fun c => ?_
   (repeat (first | refine gO rfl ?_ | (refine gR fun K1 hK1 => ?_; simp only [go_sem, ↓reduceIte, reduceCtorEq, nA, nB, nC, nD, nE, nF, hfl] <;> and_intros <;> first | (apply hK1; clear hK1 K1) | skip)))
   refine hcf.mono ?_; rintro _ hz ⟨rfl, hh⟩; apply hK1; clear hK1 K1; rw [hh]; clear hh hz
   (repeat (first | refine gO rfl ?_ | (refine gR fun K1 hK1 => ?_; simp only [go_sem, ↓reduceIte, reduceCtorEq, nA, nB, nC, nD, nE, nF] <;> and_intros <;> (apply hK1; clear hK1 K1))))
   refine awp_cond (t := _) rfl (fun h6 => by cases h6) (fun _ => ?_)
   (repeat (first | refine gO rfl ?_ | (refine gR fun K1 hK1 => ?_; simp only [go_sem, ↓reduceIte, reduceCtorEq, nA, nB, nC, nD, nE, nF] <;> and_intros)))
   refine (g_isWide wide hw h).mono ?_; rintro _ hz ⟨rfl, hh⟩; apply hK1; clear hK1 K1; rw [hh]; clear hh hz
   (repeat ((refine gR fun K1 hK1 => ?_; simp only [go_sem, ↓reduceIte, reduceCtorEq, nA, nB, nC, nD, nE, nF, Bool.not_true, Bool.not_false] <;> and_intros)))
   rotate_left
   ·exact fun h => h.elim
   refine (g_isNotWide speed hs h).mono ?_; rintro _ hz ⟨rfl, hh⟩; refine ⟨rfl, hK1 _ ?_⟩; clear hK1 K1; rw [hh]; clear hh hz
   (repeat (first | refine gO rfl ?_ | (refine gR fun K1 hK1 => ?_; simp only [go_sem, ↓reduceIte, reduceCtorEq, nA, nB, nC, nD, nE, nF, Bool.not_true, Bool.not_false] <;> and_intros <;> (apply hK1; clear hK1 K1))))
   refine awp_cond (t := _) rfl (fun _ => ?_) (fun h6 => by cases h6)
   (repeat (first | refine gO rfl ?_ | (refine gR fun K1 hK1 => ?_; simp only [go_sem, ↓reduceIte, reduceCtorEq, nA, nB, nC, nD, nE, nF] <;> and_intros <;> (apply hK1; clear hK1 K1))))
   simp only [Tryz.results26, go_sem, ↓reduceIte, reduceCtorEq, nA, nB, nC, nD, nE, nF]
   exact ⟨_, _, Weak.refl _, Hp.le.refl _, rfl, rfl⟩
  ·have hp : pixF wide = 1 := by unfold pixF; rw [if_neg hw]
   rw [hp, if_neg (by decide)]
   refine gE Tryz.func26 rfl (by kernel_rfl) 34 rfl fun c => ?_
   (repeat (first | refine gO rfl ?_ | (refine gR fun K1 hK1 => ?_; simp only [go_sem, ↓reduceIte, reduceCtorEq, nA, nB, nC, nD, nE, nF, hfl] <;> and_intros <;> first | (apply hK1; clear hK1 K1) | skip)))
   refine hcf.mono ?_; rintro _ hz ⟨rfl, hh⟩; apply hK1; clear hK1 K1; rw [hh]; clear hh hz
   (repeat (first | refine gO rfl ?_ | (refine gR fun K1 hK1 => ?_; simp only [go_sem, ↓reduceIte, reduceCtorEq, nA, nB, nC, nD, nE, nF] <;> and_intros <;> (apply hK1; clear hK1 K1))))
   refine awp_cond (t := _) rfl (fun h6 => by cases h6) (fun _ => ?_)
   (repeat (first | refine gO rfl ?_ | (refine gR fun K1 hK1 => ?_; simp only [go_sem, ↓reduceIte, reduceCtorEq, nA, nB, nC, nD, nE, nF] <;> and_intros)))
   refine (g_isNotWide wide hw h).mono ?_; rintro _ hz ⟨rfl, hh⟩; apply hK1; clear hK1 K1; rw [hh]; clear hh hz
   (repeat (first | refine gO rfl ?_ | (refine gR fun K1 hK1 => ?_; simp only [go_sem, ↓reduceIte, reduceCtorEq, nA, nB, nC, nD, nE, nF, Bool.not_true, Bool.not_false] <;> and_intros <;> (apply hK1; clear hK1 K1))))
   refine awp_cond (t := _) rfl (fun _ => ?_) (fun h6 => by cases h6)
   (repeat (first | refine gO rfl ?_ | (refine gR fun K1 hK1 => ?_; simp only [go_sem, ↓reduceIte, reduceCtorEq, nA, nB, nC, nD, nE, nF] <;> and_intros <;> (apply hK1; clear hK1 K1))))
   simp only [Tryz.results26, go_sem, ↓reduceIte, reduceCtorEq, nA, nB, nC, nD, nE, nF]
   exact ⟨_, _, Weak.refl _, Hp.le.refl _, rfl, rfl⟩
 ·simp only [hg, if_false] at hx ⊢
  have e : (fontF f != 0) = true := by simpa using hg
  generalize fontF f = e0 at *
  refine gE Tryz.func26 rfl (by kernel_rfl) 34 rfl fun c => ?_
  (repeat (first | refine gO rfl ?_ | (refine gR fun K1 hK1 => ?_; simp only [go_sem, ↓reduceIte, reduceCtorEq, nA, nB, nC, nD, nE, nF, hfl] <;> and_intros <;> first | (apply hK1; clear hK1 K1) | skip)))
  refine hcf.mono ?_; rintro _ hz ⟨rfl, hh⟩; apply hK1; clear hK1 K1; rw [hh]; clear hh hz
  (repeat (first | refine gO rfl ?_ | (refine gR fun K1 hK1 => ?_; simp only [go_sem, ↓reduceIte, reduceCtorEq, nA, nB, nC, nD, nE, nF, e] <;> and_intros <;> (apply hK1; clear hK1 K1))))
  refine awp_cond (t := _) rfl (fun _ => ?_) (fun h6 => by first | cases h6 | (rw [e] at h6; cases h6))
  (repeat (first | refine gO rfl ?_ | (refine gR fun K1 hK1 => ?_; simp only [go_sem, ↓reduceIte, reduceCtorEq, nA, nB, nC, nD, nE, nF] <;> and_intros <;> (apply hK1; clear hK1 K1))))
  simp only [Tryz.results26, go_sem, ↓reduceIte, reduceCtorEq, nA, nB, nC, nD, nE, nF]
  exact ⟨_, _, Weak.refl _, Hp.le.refl _, rfl, rfl⟩
abbrev zP1EE : List Nat := [0, 1, 2, 3, 4, 5, 6, 7, 8]
abbrev zP1EP : List (Nat × List Nat × List Nat) := []
attribute [go_sem] zP1EE zP1EP
def orI : List Int → Int
 | [] => 0
 | x :: l => if x = 0 then orI l else x
theorem orI_at (l : List Int) (j : Nat) (h : j < l.length) (h0 : ∀ i, i < j → l.getD i 0 = 0) (hn : l.getD j 0 ≠ 0) : orI l = l.getD j 0 := by
 induction l generalizing j with
 | nil => simp at h
 | cons x l ih =>
  cases j with
  | zero => rw [orI, if_neg (by simpa using hn)]; rfl
  | succ j =>
   have hx := h0 0 (by omega)
   simp only [List.getD_cons_zero] at hx
   rw [orI, if_pos hx, List.getD_cons_succ]
   exact ih j (by simpa using h) (fun i hi => by simpa using h0 (i + 1) (by omega)) (by simpa using hn)
theorem orI_zero (l : List Int) (h : ∀ i, i < l.length → l.getD i 0 = 0) : orI l = 0 := by
 induction l with
 | nil => rfl
 | cons x l ih =>
  have hx := h 0 (by simp)
  simp only [List.getD_cons_zero] at hx
  rw [orI, if_pos hx]
  exact ih fun i hi => by simpa using h (i + 1) (by simpa using hi)
theorem g_orG (l : List Int) (h : Hp) (hl : l.length ≤ 1000) : ACalls Tryz.prog 16 [.row 1 (l.map encI) none] h (fun r h' => r = .v (.int .i64 (orI l)) ∧ h' = h) := by
 refine gE Tryz.func16 rfl (by kernel_rfl) 17 rfl fun c => ?_
 (repeat (first | refine gO rfl ?_ | (refine gR fun K1 hK1 => ?_; simp only [go_sem, ↓reduceIte, reduceCtorEq, nA, nB, nC, nD, nE, nF] <;> and_intros <;> first | (apply hK1; clear hK1 K1) | (intros; first | omega | decide | (simp_all <;> omega)) | skip)))
 refine awp_loopC (rl false [3, 1, 2, 3, 9]) 0 (fun g s => ∃ j : Nat, g + j = l.length ∧ (∀ i, i < j → l.getD i 0 = 0) ∧
  s = ⟨((jnk 3 ((.v (.int .i64 0)) :: AV.junk :: AV.junk :: ((.row 1 (l.map encI) none) :: (.v (.int .i64 l.length)) :: (.v (.int .i64 j)) :: (jnk 9 []))))), [], h⟩) l.length ⟨0, by omega, by omega, rfl⟩ ?_
 rintro g _ ⟨j, hj, h0, rfl⟩
 (repeat (first | refine gO rfl ?_ | (refine gR fun K1 hK1 => ?_; simp only [go_sem, ↓reduceIte, reduceCtorEq, nA, nB, nC, nD, nE, nF] <;> and_intros <;> first | (apply hK1; clear hK1 K1) | (intros; first | omega | decide | (simp_all <;> omega)) | skip)))
 refine awp_cond (t := _) rfl (fun h3 => ?_) (fun h3 => ?_)
 ·simp only [decide_eq_true_eq] at h3
  have hjl : j < l.length := by omega
  have hgx : (l.map encI).getD j [] = [.v (.int .i64 (l.getD j 0))] := getD_enc encI l j 0 hjl
  have hat := orI_at l j hjl h0
  obtain ⟨x, hx⟩ : ∃ x, x = l.getD j 0 := ⟨_, rfl⟩
  rw [← hx] at hgx hat
  (repeat (first | refine gO rfl ?_ | (refine gR fun K1 hK1 => ?_; simp only [go_sem, ↓reduceIte, reduceCtorEq, nA, nB, nC, nD, nE, nF, Int.toNat_natCast, hgx] <;> and_intros <;> first | (apply hK1; clear hK1 K1) | (intros; first | omega | decide | (simp_all <;> omega)) | skip)))
  refine awp_cond (t := _) rfl (fun h4 => ?_) (fun h4 => ?_)
  ·have h4' : x ≠ 0 := by simpa using h4
   (repeat (first | refine gO rfl ?_ | (refine gR fun K1 hK1 => ?_; simp only [go_sem, ↓reduceIte, reduceCtorEq, nA, nB, nC, nD, nE, nF] <;> and_intros <;> first | (apply hK1; clear hK1 K1) | (intros; first | omega | decide | (simp_all <;> omega)) | skip)))
   simp only [Tryz.results16, go_sem, ↓reduceIte, reduceCtorEq, nA, nB, nC, nD, nE, nF]
   exact ⟨_, _, Weak.refl _, Hp.le.refl _, by rw [hat h4'], rfl⟩
  ·have h4' : x = 0 := by simpa using h4
   (repeat (first | refine gO rfl ?_ | (refine gR fun K1 hK1 => ?_; simp only [go_sem, ↓reduceIte, reduceCtorEq, nA, nB, nC, nD, nE, nF] <;> and_intros <;> first | (apply hK1; clear hK1 K1) | (intros; first | omega | decide | (simp_all <;> omega)) | skip)))
   exact ⟨g - 1, by omega, j + 1, by omega, fun i hi => by
    by_cases e : i = j
    ·rw [e, ← hx]; exact h4'
    ·exact h0 i (by omega), rfl⟩
 ·simp only [decide_eq_false_iff_not] at h3
  have hjl : j = l.length := by omega
  subst hjl
  (repeat (first | refine gO rfl ?_ | (refine gR fun K1 hK1 => ?_; simp only [go_sem, ↓reduceIte, reduceCtorEq, nA, nB, nC, nD, nE, nF] <;> and_intros <;> first | (apply hK1; clear hK1 K1) | (intros; first | omega | decide | (simp_all <;> omega)) | skip)))
  simp only [Tryz.results16, go_sem, ↓reduceIte, reduceCtorEq, nA, nB, nC, nD, nE, nF]
  exact ⟨_, _, Weak.refl _, Hp.le.refl _, by rw [orI_zero l h0], rfl⟩
theorem b_same (x : ByteArray) : (x == x) = true := by rw [ba_beq]; simp
theorem s_same (x : ByteArray) : (x != x) = false := by rw [bne, ba_beq]; simp
theorem g_eqLn (xs : List (List Tok)) (h : Hp) (hl : xs.length ≤ 1000000) : ACalls Tryz.prog 21 [.row 1 (xs.map encLn) none, .row 1 (xs.map encLn) none] h (fun r h' => r = .v (.bool true) ∧ h' = h) := by
 have hlm : (xs.map encLn).length = xs.length := List.length_map _
 have nself : ((xs.length : Int) != (xs.length : Int)) = false := by simp
 refine gE Tryz.func21 rfl (by kernel_rfl) 24 rfl fun c => ?_
 (repeat (first | refine gO rfl ?_ | ((first | refine gR ?_ | (with_reducible refine wM ?_ ?_) | ((with_reducible refine xS ?_); refine uD 6 zM30 zP1EE zP1EP 26 rfl (by kernel_rfl) ?_)) <;> ((try with_reducible intro K1 hK1); simp only [go_sem, ↓reduceIte, reduceCtorEq, nA, nB, nC, nD, nE, nF, hlm, nself] <;> and_intros <;> first | (apply hK1; clear hK1 K1) | (intros; first | omega | decide | (simp_all <;> omega)) | skip))))
 refine awp_cond (t := _) rfl (fun h9 => by cases h9) (fun _ => ?_)
 (repeat (first | refine gO rfl ?_ | ((first | refine gR ?_ | (with_reducible refine wM ?_ ?_) | ((with_reducible refine xS ?_); refine uD 6 zM30 zP1EE zP1EP 26 rfl (by kernel_rfl) ?_)) <;> ((try with_reducible intro K1 hK1); simp only [go_sem, ↓reduceIte, reduceCtorEq, nA, nB, nC, nD, nE, nF, hlm] <;> and_intros <;> first | (apply hK1; clear hK1 K1) | (intros; first | omega | decide | (simp_all <;> omega)) | skip))))
 refine awp_loopC (rl false [0, 2, 9, 3, 12]) 0 (fun g s => ∃ j : Nat, g + j = xs.length ∧
  s = ⟨((.row 1 (xs.map encLn) none) :: (.row 1 (xs.map encLn) none) :: (jnk 9 ((.row 1 (xs.map encLn) none) :: (.v (.int .i64 xs.length)) :: (.v (.int .i64 j)) :: (jnk 12 [])))), [], h⟩) xs.length ⟨0, by omega, rfl⟩ ?_
 rintro g _ ⟨j, hj, rfl⟩
 (repeat (first | refine gO rfl ?_ | ((first | refine gR ?_ | (with_reducible refine wM ?_ ?_) | ((with_reducible refine xS ?_); refine uD 6 zM30 zP1EE zP1EP 26 rfl (by kernel_rfl) ?_)) <;> ((try with_reducible intro K1 hK1); simp only [go_sem, ↓reduceIte, reduceCtorEq, nA, nB, nC, nD, nE, nF] <;> and_intros <;> first | (apply hK1; clear hK1 K1) | (intros; first | omega | decide | (simp_all <;> omega)) | skip))))
 refine awp_cond (t := _) rfl (fun h1 => ?_) (fun h1 => ?_)
 ·simp only [decide_eq_true_eq] at h1
  have hjl : j < xs.length := by omega
  have gx := row_line xs j hjl
  generalize bsOf xs[j].flatten = x at gx
  (repeat (first | refine gO rfl ?_ | ((first | refine gR ?_ | (with_reducible refine wM ?_ ?_) | ((with_reducible refine xS ?_); refine uD 6 zM30 zP1EE zP1EP 26 rfl (by kernel_rfl) ?_)) <;> ((try with_reducible intro K1 hK1); simp only [go_sem, ↓reduceIte, reduceCtorEq, nA, nB, nC, nD, nE, nF, Int.toNat_natCast, gx, hlm, hjl, s_same, b_same] <;> and_intros <;> first | (apply hK1; clear hK1 K1) | (intros; first | omega | decide | (simp_all <;> omega)) | skip))))
  refine awp_cond (t := _) rfl (fun h9 => by cases h9) (fun _ => ?_)
  (repeat (first | refine gO rfl ?_ | ((first | refine gR ?_ | (with_reducible refine wM ?_ ?_) | ((with_reducible refine xS ?_); refine uD 6 zM30 zP1EE zP1EP 26 rfl (by kernel_rfl) ?_)) <;> ((try with_reducible intro K1 hK1); simp only [go_sem, ↓reduceIte, reduceCtorEq, nA, nB, nC, nD, nE, nF] <;> and_intros <;> first | (apply hK1; clear hK1 K1) | (intros; first | omega | decide | (simp_all <;> omega)) | skip))))
  exact ⟨g - 1, by omega, j + 1, by omega, rfl⟩
 ·(repeat (first | refine gO rfl ?_ | ((first | refine gR ?_ | (with_reducible refine wM ?_ ?_) | ((with_reducible refine xS ?_); refine uD 6 zM30 zP1EE zP1EP 26 rfl (by kernel_rfl) ?_)) <;> ((try with_reducible intro K1 hK1); simp only [go_sem, ↓reduceIte, reduceCtorEq, nA, nB, nC, nD, nE, nF] <;> and_intros <;> first | (apply hK1; clear hK1 K1) | (intros; first | omega | decide | (simp_all <;> omega)) | skip))))
  simp only [Tryz.results21, go_sem, ↓reduceIte, reduceCtorEq, nA, nB, nC, nD, nE, nF]
  exact ⟨_, _, Weak.refl _, Hp.le.refl _, rfl, rfl⟩
theorem flatMap_sum {α β : Type} (F : List α → List β) : ∀ P : List (List α), (∀ p ∈ P, (F p).length ≤ p.length + 1) → (P.flatMap F).length ≤ P.flatten.length + P.length
 | [], _ => by simp
 | p :: P, h => by
  have h1 := h p (by simp)
  have h2 := flatMap_sum F P (fun y hy => h y (by simp [hy]))
  rw [List.flatMap_cons, List.length_append, List.length_cons, List.flatten_cons, List.length_append]
  omega
theorem lines_few (f : Fo) (wide : Int) (ts : List Tok) : (linesT f wide ts).length ≤ 2 * ts.length + 1 := by
 have h1 := flatMap_sum (fun p => paragraphT f (widS f blT) wide (wordsT f wide p)) (splitT lfT ts) (fun p _ => by
  have h1 := paragraph_len f (widS f blT) wide (wordsT f wide p)
  have h2 := wordsT_len f wide p
  omega)
 have h2 := splitT_len lfT ts
 have h3 : (splitT lfT ts).flatten.length ≤ ts.length := by rw [splitT_flat]; exact List.length_filter_le _ _
 unfold linesT
 omega
theorem g_pixels (i : Nat) (l : List Int) (a : Int) (h : Hp) (hl : SOk l) (ha : 0 ≤ a ∧ a ≤ 1000000) :
  ACalls Tryz.prog 9 [.ptr i 0] (h.st i l a) (fun r h' => ∃ (x a' : Int), r = .v (.int .i64 x) ∧ (-5000000000000000 ≤ x ∧ x ≤ 5000000000000000) ∧ (a ≤ a' ∧ a' ≤ a + 30) ∧ h' = h.st i l a') := by
 refine gE Tryz.func9 rfl (by kernel_rfl) 7 rfl fun c => ?_
 (repeat (first | refine gO rfl ?_ | (refine gR fun K1 hK1 => ?_; simp only [go_sem, ↓reduceIte, reduceCtorEq, nA, nB, nC, nD, nE, nF] <;> and_intros <;> first | (apply hK1; clear hK1 K1) | (intros; first | omega | decide | (simp_all <;> omega)) | skip)))
 refine (g_odd i l a 1 100000 h hl (by omega) (by omega) (by omega) (by omega)).mono ?_
 rintro _ h9 ⟨o, a2, ho, ha2, rfl, rfl⟩
 apply hK1; clear hK1 K1
 (repeat (first | refine gO rfl ?_ | (refine gR fun K1 hK1 => ?_; simp only [go_sem, ↓reduceIte, reduceCtorEq, nA, nB, nC, nD, nE, nF] <;> and_intros <;> first | (apply hK1; clear hK1 K1) | (intros; first | omega | decide | (simp_all <;> omega)) | skip)))
 refine (g_pick i l a2 [1, 3, 5, 6, 8, 10, 14, 20, o] none h hl (by omega) ⟨by simp, by simp⟩).mono ?_
 rintro _ h9 ⟨x, hx, rfl, rfl⟩
 apply hK1; clear hK1 K1
 have hxb : -5000000000000000 ≤ x ∧ x ≤ 5000000000000000 := by
  simp only [List.mem_cons, List.not_mem_nil, or_false] at hx
  omega
 clear hx
 (repeat (first | refine gO rfl ?_ | (refine gR fun K1 hK1 => ?_; simp only [go_sem, ↓reduceIte, reduceCtorEq, nA, nB, nC, nD, nE, nF] <;> and_intros <;> first | (apply hK1; clear hK1 K1) | (intros; first | omega | decide | (simp_all <;> omega)) | skip)))
 simp only [Tryz.results9, go_sem, ↓reduceIte, reduceCtorEq, nA, nB, nC, nD, nE, nF]
 exact ⟨_, _, Weak.refl _, Hp.le.refl _, x, a2 + 1, rfl, hxb, by omega, rfl⟩
abbrev zP1FE : List Nat := [0, 1, 3]
abbrev zP1FP : List (Nat × List Nat × List Nat) := [(2, [3], [4, 5])]
abbrev zP1GE : List Nat := [0, 1, 3]
abbrev zP1GP : List (Nat × List Nat × List Nat) := [(2, [3], [4, 5])]
attribute [go_sem] zP1FE zP1FP zP1GE zP1GP
def encF4 (f : Fo) : List AV := [.v (.string f.key), .v (.int .i64 f.hi), .v (.int .i64 f.ot), .row 3 (f.ws.map encW) none]
theorem g_over (f : Fo) (l : List Tok) (wide : Int) (k : Nat) (hl : ∀ t ∈ l, t ∈ toks) (hn : l.length ≤ 10000) (hg : Good f) (k0 : Nat) (h : Hp) (hT : h.T k0 = some (.glb tabU)) (hk : h.H k = some (.cells (encF4 f))) :
  ACalls Tryz.prog 62 [.v (.string (bsOf l.flatten)), .ptr k 0, .ref [.v (.int .i64 wide)] 0] h (fun r h' => r = .v (.bool (decide (wide < sumW f l))) ∧ Gr h h') := by
 have hfl : ∀ x, (encFo f x) = .agg [.v (.string f.key), .v (.int .i64 f.hi), .v (.int .i64 f.ot), .row 3 (f.ws.map encW) x] := fun _ => rfl
 have hwo := g_wideAll f none l hl hn hg.ws hg.fob (by have := hg.len; omega) k0 h hT
 rw [hfl] at hwo
 unfold encF4 at hk
 refine gE Tryz.func62 rfl (by kernel_rfl) 7 rfl fun c => ?_
 (repeat (first | refine gO rfl ?_ | ((first | refine gR ?_ | ((with_reducible refine xS ?_); refine uD 1 zM30 zP1FE zP1FP 10 rfl (by kernel_rfl) ?_)) <;> ((try with_reducible intro K1 hK1); simp only [go_sem, ↓reduceIte, reduceCtorEq, nA, nB, nC, nD, nE, nF, hk] <;> and_intros <;> first | (apply hK1; clear hK1 K1) | skip))))
 refine hwo.mono ?_
 rintro _ h2 ⟨rfl, hg2⟩; apply hK1; clear hK1 K1
 have hk2 := hk
 rw [← hg2.1] at hk2
 (repeat ((((with_reducible refine wM ?_ ?_)) <;> ((try with_reducible intro K1 hK1); simp only [go_sem, ↓reduceIte, reduceCtorEq, nA, nB, nC, nD, nE, nF, hk2] <;> and_intros <;> first | (apply hK1; clear hK1 K1) | (intros; (decide)) | skip))))
 all_goals try with_reducible rfl
 (repeat ((refine gO rfl ?_)))
 simp only [Tryz.results62, go_sem, ↓reduceIte, reduceCtorEq, nA, nB, nC, nD, nE, nF]
 exact ⟨_, _, Weak.refl _, Hp.le.refl _, rfl, hg2⟩
theorem g_overR (f : Fo) (l : List Tok) (wide : Int) (k : Nat) (hl : ∀ t ∈ l, t ∈ toks) (hn : l.length ≤ 10000) (hg : Good f) (k0 : Nat) (h : Hp) (hT : h.T k0 = some (.glb tabU)) (hk : h.H k = some (.cells (encF4 f))) :
  ACalls Tryz.prog 63 [.v (.string (bsOf l.flatten)), .ptr k 0, .ref [.v (.int .i64 wide)] 0] h (fun r h' => r = .v (.bool (decide (wide < sumW f l))) ∧ Gr h h') := by
 have hfl : ∀ x, (encFo f x) = .agg [.v (.string f.key), .v (.int .i64 f.hi), .v (.int .i64 f.ot), .row 3 (f.ws.map encW) x] := fun _ => rfl
 have hwo := g_wideOfR f none l hl hn hg k0 h hT
 rw [hfl] at hwo
 unfold encF4 at hk
 refine gE Tryz.func63 rfl (by kernel_rfl) 7 rfl fun c => ?_
 (repeat (first | refine gO rfl ?_ | ((first | refine gR ?_ | ((with_reducible refine xS ?_); refine uD 1 zM30 zP1GE zP1GP 10 rfl (by kernel_rfl) ?_)) <;> ((try with_reducible intro K1 hK1); simp only [go_sem, ↓reduceIte, reduceCtorEq, nA, nB, nC, nD, nE, nF, hk] <;> and_intros <;> first | (apply hK1; clear hK1 K1) | skip))))
 refine hwo.mono ?_
 rintro _ h2 ⟨rfl, hg2⟩; apply hK1; clear hK1 K1
 have hk2 := hk
 rw [← hg2.1] at hk2
 (repeat ((((with_reducible refine wM ?_ ?_)) <;> ((try with_reducible intro K1 hK1); simp only [go_sem, ↓reduceIte, reduceCtorEq, nA, nB, nC, nD, nE, nF, hk2] <;> and_intros <;> first | (apply hK1; clear hK1 K1) | (intros; (decide)) | skip))))
 all_goals try with_reducible rfl
 (repeat ((refine gO rfl ?_)))
 simp only [Tryz.results63, go_sem, ↓reduceIte, reduceCtorEq, nA, nB, nC, nD, nE, nF]
 exact ⟨_, _, Weak.refl _, Hp.le.refl _, rfl, hg2⟩
theorem g_idxOv (fid : Nat) (caps : List AV) (W : List (List Tok)) (p : List Tok → Bool) (hl : W.length ≤ 100000) (h : Hp) (step : ∀ l ∈ W, ∀ h', Gr h h' → ACalls Tryz.prog fid (.v (.string (bsOf l.flatten)) :: caps) h' (fun r h'' => r = .v (.bool (p l)) ∧ Gr h' h'')) :
  ACalls Tryz.prog 81 [.row 1 (W.map encLn) none, .fn fid caps] h (fun r h' => ∃ i : Int, r = .v (.int .i64 i) ∧ decide (0 ≤ i) = W.any p ∧ Gr h h') := by
 have hll : (W.map encLn).length = W.length := List.length_map _
 refine gE Tryz.func81 rfl (by kernel_rfl) 17 rfl fun c => ?_
 (repeat (first | refine gO rfl ?_ | (refine gR fun K1 hK1 => ?_; simp only [go_sem, ↓reduceIte, reduceCtorEq, nA, nB, nC, nD, nE, nF, hll] <;> and_intros <;> (apply hK1; clear hK1 K1))))
 refine awp_loopC (rl false [0, 2, 5, 2, 10]) 0 (fun g s => ∃ (j : Nat) (h1 : Hp), g + j = W.length ∧ Gr h h1 ∧ (W.take j).any p = false ∧ s = ⟨((.row 1 (W.map encLn) none) :: (.fn fid caps) :: (jnk 5 ((.v (.int .i64 W.length)) :: (.v (.int .i64 j)) :: (jnk 10 [])))), [], h1⟩) W.length ⟨0, h, by omega, Gr.refl _, rfl, rfl⟩ ?_
 rintro g _ ⟨j, h1, hj, hgr, hno, rfl⟩
 (repeat (first | refine gO rfl ?_ | (refine gR fun K1 hK1 => ?_; simp only [go_sem, ↓reduceIte, reduceCtorEq, nA, nB, nC, nD, nE, nF] <;> and_intros <;> (apply hK1; clear hK1 K1))))
 refine awp_cond (t := _) rfl (fun h5 => ?_) (fun h5 => ?_)
 ·simp only [decide_eq_true_eq] at h5
  have hjk : j < W.length := by omega
  have hg := row_line W j hjk
  have st := step W[j] (List.getElem_mem _) h1 hgr
  have hta : (W.take (j + 1)).any p = ((W.take j).any p || p W[j]) := by rw [List.take_succ_eq_append_getElem hjk, List.any_append]; simp
  (repeat (first | refine gO rfl ?_ | (refine gR fun K1 hK1 => ?_; simp only [go_sem, ↓reduceIte, reduceCtorEq, nA, nB, nC, nD, nE, nF, Int.toNat_natCast, hg, hll] <;> and_intros <;> first | (apply hK1; clear hK1 K1) | (intros; (omega)) | skip)))
  refine st.mono ?_
  rintro _ h2 ⟨rfl, hg2⟩; apply hK1; clear hK1 K1
  (repeat ((refine gO rfl ?_)))
  refine awp_cond (t := _) rfl (fun h6 => ?_) (fun h6 => ?_)
  ·(repeat (first | refine gO rfl ?_ | (refine gR fun K1 hK1 => ?_; simp only [go_sem, ↓reduceIte, reduceCtorEq, nA, nB, nC, nD, nE, nF] <;> and_intros <;> (apply hK1; clear hK1 K1))))
   simp only [Tryz.results81, go_sem, ↓reduceIte, reduceCtorEq, nA, nB, nC, nD, nE, nF]
   refine ⟨_, _, Weak.refl _, Hp.le.refl _, (j : Int), rfl, ?_, hgr.trans hg2⟩
   rw [h6, Bool.or_true] at hta
   have e : W.any p = ((W.take (j + 1)).any p || (W.drop (j + 1)).any p) := by rw [← List.any_append, List.take_append_drop]
   rw [e, hta, Bool.true_or]
   exact decide_eq_true (by omega)
  ·(repeat (first | refine gO rfl ?_ | (refine gR fun K1 hK1 => ?_; simp only [go_sem, ↓reduceIte, reduceCtorEq, nA, nB, nC, nD, nE, nF] <;> and_intros <;> first | (apply hK1; clear hK1 K1) | (intros; (omega)))))
   exact ⟨g - 1, by omega, j + 1, h2, by omega, hgr.trans hg2, by rw [hta, hno, h6]; rfl, rfl⟩
 ·simp only [decide_eq_false_iff_not] at h5
  have hjk : j = W.length := by omega
  subst hjk
  rw [List.take_length] at hno
  (repeat (first | refine gO rfl ?_ | (refine gR fun K1 hK1 => ?_; simp only [go_sem, ↓reduceIte, reduceCtorEq, nA, nB, nC, nD, nE, nF] <;> and_intros <;> (apply hK1; clear hK1 K1))))
  simp only [Tryz.results81, go_sem, ↓reduceIte, reduceCtorEq, nA, nB, nC, nD, nE, nF]
  exact ⟨_, _, Weak.refl _, Hp.le.refl _, -1, rfl, by rw [hno]; rfl, hgr⟩
theorem g_anyOv (fid : Nat) (caps : List AV) (W : List (List Tok)) (p : List Tok → Bool) (hl : W.length ≤ 100000) (h : Hp) (step : ∀ l ∈ W, ∀ h', Gr h h' → ACalls Tryz.prog fid (.v (.string (bsOf l.flatten)) :: caps) h' (fun r h'' => r = .v (.bool (p l)) ∧ Gr h' h'')) :
  ACalls Tryz.prog 52 [.row 1 (W.map encLn) none, .fn fid caps] h (fun r h' => r = .v (.bool (W.any p)) ∧ Gr h h') := by
 refine gE Tryz.func52 rfl (by kernel_rfl) 7 rfl fun c => ?_
 (repeat (first | refine gO rfl ?_ | (refine gR fun K1 hK1 => ?_; simp only [go_sem, ↓reduceIte, reduceCtorEq, nA, nB, nC, nD, nE, nF] <;> and_intros <;> first | (apply hK1; clear hK1 K1) | skip)))
 refine (g_idxOv fid caps W p hl h step).mono ?_
 rintro _ h2 ⟨i, rfl, hi, hg2⟩; apply hK1; clear hK1 K1
 (repeat (first | refine gO rfl ?_ | (refine gR fun K1 hK1 => ?_; simp only [go_sem, ↓reduceIte, reduceCtorEq, nA, nB, nC, nD, nE, nF, hi] <;> and_intros <;> (apply hK1; clear hK1 K1))))
 simp only [Tryz.results52, go_sem, ↓reduceIte, reduceCtorEq, nA, nB, nC, nD, nE, nF]
 exact ⟨_, _, Weak.refl _, Hp.le.refl _, by simp [hi], hg2⟩
def allF (fs : List Fo) (wide high : Int) : List Int := fs.map fontF ++ [pixF wide, pixF high]
theorem orI_all {l : List Int} (h : orI l = 0) : ∀ x ∈ l, x = 0 := by
 induction l with
 | nil => simp
 | cons x l ih =>
  rw [orI] at h
  split at h
  ·rename_i e
   intro y hy
   rcases List.mem_cons.1 hy with rfl | hy
   ·exact e
   ·exact ih h y hy
  ·rename_i e; exact absurd h e
theorem orI_skip {l m : List Int} (h : ∀ x ∈ l, x = 0) : orI (l ++ m) = orI m := by
 induction l with
 | nil => rfl
 | cons x l ih => rw [List.cons_append, orI, if_pos (h x (by simp)), ih fun y hy => h y (by simp [hy])]
theorem row_font (fs : List Fo) (j : Nat) (hj : j < fs.length) : (fs.map encF4).getD j [] = encF4 fs[j] := by
 rw [List.getD_eq_getElem?_getD, List.getElem?_map, List.getElem?_eq_getElem hj]; rfl
theorem g_bestFault (fs : List Fo) (s : ByteArray) (wide high : Int) (hs : s.size ≤ 20000) (hfs : ∀ f ∈ fs, f.key.size ≤ 1000 ∧ f.ws.length ≤ 1000) (hl : fs.length ≤ 20) (h : Hp) :
  ACalls Tryz.prog 61 [.row 4 (fs.map encF4) none, .v (.string s), .v (.int .i64 wide), .v (.int .i64 high)] h (fun r h' => r = .v (.int .i64 (orI (allF fs wide high))) ∧ h' = h) := by
 have hml : (fs.map encF4).length = fs.length := List.length_map _
 have d0 : ((20 : Int) < (fs.length : Int)) = False := eq_false (by omega)
 have d1 : ((20000 : Int) < (s.size : Int)) = False := eq_false (by omega)
 refine gE Tryz.func61 rfl (by kernel_rfl) 34 rfl fun c => ?_
 (repeat (first | refine gO rfl ?_ | (refine gM zM32 fun K1 hK1 => ?_; simp only [go_sem, ↓reduceIte, reduceCtorEq, nA, nB, nC, nD, nE, nF, hml, d0, decide_false] <;> and_intros <;> (apply hK1; clear hK1 K1))))
 refine awp_cond (t := _) rfl (fun h6 => by cases h6) (fun _ => ?_)
 (repeat (first | refine gO rfl ?_ | (refine gM zM32 fun K1 hK1 => ?_; simp only [go_sem, ↓reduceIte, reduceCtorEq, nA, nB, nC, nD, nE, nF, hml] <;> and_intros <;> (apply hK1; clear hK1 K1))))
 refine awp_loopC (rl false [1, 3, 11, 3, 20]) 0 (fun g st => ∃ (j : Nat), g + j = fs.length ∧ (∀ x ∈ (fs.take j).map fontF, x = 0) ∧
  st = ⟨(AV.junk :: ((.v (.string s)) :: (.v (.int .i64 wide)) :: (.v (.int .i64 high)) :: (jnk 11 ((.row 4 (fs.map encF4) none) :: (.v (.int .i64 fs.length)) :: (.v (.int .i64 j)) :: (jnk 20 []))))), [], h⟩) fs.length ⟨0, by omega, by simp, rfl⟩ ?_
 rintro g _ ⟨j, hj, hz, rfl⟩
 (repeat (first | refine gO rfl ?_ | (refine gM zM32 fun K1 hK1 => ?_; simp only [go_sem, ↓reduceIte, reduceCtorEq, nA, nB, nC, nD, nE, nF] <;> and_intros <;> (apply hK1; clear hK1 K1))))
 refine awp_cond (t := _) rfl (fun h5 => ?_) (fun h5 => ?_)
 ·simp only [decide_eq_true_eq] at h5
  have hjl : j < fs.length := by omega
  have gx := row_font fs j hjl
  have hf := hfs _ (List.getElem_mem hjl)
  have hcf := g_checkFontX fs[j] none hf.1 hf.2 h
  have htk : (fs.take (j + 1)).map fontF = (fs.take j).map fontF ++ [fontF fs[j]] := by rw [List.take_succ_eq_append_getElem hjl, List.map_append]; rfl
  have hall : allF fs wide high = (fs.take j).map fontF ++ (fontF fs[j] :: (allF (fs.drop (j + 1)) wide high)) := by
   have e : fs = fs.take j ++ fs[j] :: fs.drop (j + 1) := by rw [← List.drop_eq_getElem_cons hjl, List.take_append_drop]
   unfold allF
   rw (occs := .pos [1]) [e]
   rw [List.map_append, List.map_cons, List.append_assoc]; rfl
  have ht4 : ∀ f : Fo, List.take 4 (encF4 f) = encF4 f := fun _ => rfl
  have hl4 : ∀ f : Fo, (encF4 f).length = 4 := fun _ => rfl
  have hfl : (encFo fs[j] none) = .agg (encF4 fs[j]) := rfl
  rw [hfl] at hcf
  generalize fs[j] = f at *
  have hef : encF4 f = [.v (.string f.key), .v (.int .i64 f.hi), .v (.int .i64 f.ot), .row 3 (f.ws.map encW) none] := rfl
  rw [hef] at hcf
  (repeat (first | refine gO rfl ?_ | (refine gM zM32 fun K1 hK1 => ?_; simp only [go_sem, ↓reduceIte, reduceCtorEq, nA, nB, nC, nD, nE, nF, hml, Int.toNat_natCast, gx, ht4, hl4, hef] <;> and_intros <;> first | (apply hK1; clear hK1 K1) | (intros; (omega)) | skip)))
  refine hcf.mono ?_; rintro _ hz ⟨rfl, hh⟩; apply hK1; clear hK1 K1; rw [hh]; clear hh hz
  (repeat (first | refine gO rfl ?_ | (refine gM zM32 fun K1 hK1 => ?_; simp only [go_sem, ↓reduceIte, reduceCtorEq, nA, nB, nC, nD, nE, nF] <;> and_intros <;> (apply hK1; clear hK1 K1))))
  by_cases e : fontF f = 0
  ·have e1 : (fontF f != 0) = false := by simp [e]
   refine awp_cond (t := _) rfl (fun h6 => by rw [e1] at h6; cases h6) (fun _ => ?_)
   (repeat (first | refine gO rfl ?_ | (refine gM zM32 fun K1 hK1 => ?_; simp only [go_sem, ↓reduceIte, reduceCtorEq, nA, nB, nC, nD, nE, nF] <;> and_intros <;> first | (apply hK1; clear hK1 K1) | (intros; (omega)))))
   refine ⟨g - 1, by omega, j + 1, by omega, ?_, rfl⟩
   rw [htk]
   intro x hx
   rcases List.mem_append.1 hx with hx | hx
   ·exact hz x hx
   ·rw [List.mem_singleton.1 hx]; exact e
  ·have e1 : (fontF f != 0) = true := by simpa using e
   refine awp_cond (t := _) rfl (fun _ => ?_) (fun h6 => by rw [e1] at h6; cases h6)
   (repeat (first | refine gO rfl ?_ | (refine gM zM32 fun K1 hK1 => ?_; simp only [go_sem, ↓reduceIte, reduceCtorEq, nA, nB, nC, nD, nE, nF] <;> and_intros <;> (apply hK1; clear hK1 K1))))
   simp only [Tryz.results61, go_sem, ↓reduceIte, reduceCtorEq, nA, nB, nC, nD, nE, nF]
   exact ⟨_, _, Weak.refl _, Hp.le.refl _, by rw [hall, orI_skip hz, orI, if_neg e], rfl⟩
 ·simp only [decide_eq_false_iff_not] at h5
  have hjl : j = fs.length := by omega
  subst hjl
  rw [List.take_length] at hz
  have hall : orI (allF fs wide high) = orI [pixF wide, pixF high] := orI_skip hz
  rw [hall]
  (repeat (first | refine gO rfl ?_ | (refine gM zM32 fun K1 hK1 => ?_; simp only [go_sem, ↓reduceIte, reduceCtorEq, nA, nB, nC, nD, nE, nF] <;> and_intros)))
  by_cases hw : 1 ≤ wide ∧ wide ≤ 100000
  ·have hp : pixF wide = 0 := by unfold pixF; rw [if_pos hw]
   refine (g_isWide wide hw h).mono ?_; rintro _ hz ⟨rfl, hh⟩; apply hK1; clear hK1 K1; rw [hh]; clear hh hz
   (repeat ((refine gM zM32 fun K1 hK1 => ?_; simp only [go_sem, ↓reduceIte, reduceCtorEq, nA, nB, nC, nD, nE, nF, Bool.not_true, Bool.not_false] <;> and_intros)))
   rotate_left
   ·exact fun h => h.elim
   by_cases hh : 1 ≤ high ∧ high ≤ 100000
   ·have hp2 : pixF high = 0 := by unfold pixF; rw [if_pos hh]
    refine (g_isWide high hh h).mono ?_; rintro _ hz ⟨rfl, hh⟩; refine ⟨rfl, hK1 _ ?_⟩; clear hK1 K1; rw [hh]; clear hh hz
    (repeat (first | refine gO rfl ?_ | (refine gM zM32 fun K1 hK1 => ?_; simp only [go_sem, ↓reduceIte, reduceCtorEq, nA, nB, nC, nD, nE, nF, Bool.not_true, Bool.not_false] <;> and_intros <;> (apply hK1; clear hK1 K1))))
    refine awp_cond (t := _) rfl (fun h6 => by cases h6) (fun _ => ?_)
    (repeat (first | refine gO rfl ?_ | (refine gM zM32 fun K1 hK1 => ?_; simp only [go_sem, ↓reduceIte, reduceCtorEq, nA, nB, nC, nD, nE, nF, d1, decide_false] <;> and_intros <;> (apply hK1; clear hK1 K1))))
    refine awp_cond (t := _) rfl (fun h6 => by cases h6) (fun _ => ?_)
    (repeat (first | refine gO rfl ?_ | (refine gM zM32 fun K1 hK1 => ?_; simp only [go_sem, ↓reduceIte, reduceCtorEq, nA, nB, nC, nD, nE, nF] <;> and_intros <;> (apply hK1; clear hK1 K1))))
    simp only [Tryz.results61, go_sem, ↓reduceIte, reduceCtorEq, nA, nB, nC, nD, nE, nF]
    exact ⟨_, _, Weak.refl _, Hp.le.refl _, by rw [hp, hp2]; rfl, rfl⟩
   ·have hp2 : pixF high = 1 := by unfold pixF; rw [if_neg hh]
    refine (g_isNotWide high hh h).mono ?_; rintro _ hz ⟨rfl, hh⟩; refine ⟨rfl, hK1 _ ?_⟩; clear hK1 K1; rw [hh]; clear hh hz
    (repeat (first | refine gO rfl ?_ | (refine gM zM32 fun K1 hK1 => ?_; simp only [go_sem, ↓reduceIte, reduceCtorEq, nA, nB, nC, nD, nE, nF, Bool.not_true, Bool.not_false] <;> and_intros <;> (apply hK1; clear hK1 K1))))
    refine awp_cond (t := _) rfl (fun _ => ?_) (fun h6 => by cases h6)
    (repeat (first | refine gO rfl ?_ | (refine gM zM32 fun K1 hK1 => ?_; simp only [go_sem, ↓reduceIte, reduceCtorEq, nA, nB, nC, nD, nE, nF] <;> and_intros <;> (apply hK1; clear hK1 K1))))
    simp only [Tryz.results61, go_sem, ↓reduceIte, reduceCtorEq, nA, nB, nC, nD, nE, nF]
    exact ⟨_, _, Weak.refl _, Hp.le.refl _, by rw [hp, hp2]; rfl, rfl⟩
  ·have hp : pixF wide = 1 := by unfold pixF; rw [if_neg hw]
   refine (g_isNotWide wide hw h).mono ?_; rintro _ hz ⟨rfl, hh⟩; apply hK1; clear hK1 K1; rw [hh]; clear hh hz
   (repeat (first | refine gO rfl ?_ | (refine gM zM32 fun K1 hK1 => ?_; simp only [go_sem, ↓reduceIte, reduceCtorEq, nA, nB, nC, nD, nE, nF, Bool.not_true, Bool.not_false] <;> and_intros <;> (apply hK1; clear hK1 K1))))
   refine awp_cond (t := _) rfl (fun _ => ?_) (fun h6 => by cases h6)
   (repeat (first | refine gO rfl ?_ | (refine gM zM32 fun K1 hK1 => ?_; simp only [go_sem, ↓reduceIte, reduceCtorEq, nA, nB, nC, nD, nE, nF] <;> and_intros <;> (apply hK1; clear hK1 K1))))
   simp only [Tryz.results61, go_sem, ↓reduceIte, reduceCtorEq, nA, nB, nC, nD, nE, nF]
   exact ⟨_, _, Weak.refl _, Hp.le.refl _, by rw [hp]; rfl, rfl⟩
def okB (wide high : Int) (ts : List Tok) (f : Fo) : Bool := decide (((linesT f wide ts).length : Int) * f.hi ≤ high) && !(linesT f wide ts).any fun l => decide (wide < sumW f l)
def bestB (wide high : Int) (ts : List Tok) : List Fo → Nat → Option (Nat × List (List Tok))
 | [], _ => none
 | f :: fs, j => if okB wide high ts f = true then some (j, linesT f wide ts) else bestB wide high ts fs (j + 1)
def resB : Option (Nat × List (List Tok)) → AV
 | none => .tup [.v (.int .i64 0), .v (.slice none 0 0), .v (.bool false), .v (.int .i64 0)]
 | some (j, l) => .tup [.v (.int .i64 j), .row 1 (l.map encLn) none, .v (.bool true), .v (.int .i64 0)]
def resR : Option (Nat × List (List Tok)) → AV
 | none => .tup [.v (.int .i64 (-1)), .v (.slice none 0 0), .v (.int .i64 0)]
 | some (j, l) => .tup [.v (.int .i64 j), .row 1 (l.map encLn) none, .v (.int .i64 0)]
theorem bestB_drop (wide high : Int) (ts : List Tok) (fs : List Fo) (j : Nat) (h : j < fs.length) : bestB wide high ts (fs.drop j) j = if okB wide high ts fs[j] = true then some (j, linesT fs[j] wide ts) else bestB wide high ts (fs.drop (j + 1)) (j + 1) := by
 rw [List.drop_eq_getElem_cons h, bestB]
theorem bestB_lines {wide high : Int} {ts : List Tok} : ∀ (fs : List Fo) (k : Nat) {j : Nat} {l : List (List Tok)}, bestB wide high ts fs k = some (j, l) → ∃ f ∈ fs, l = linesT f wide ts
 | [], _, _, _, h => by cases h
 | f :: fs, k, j, l, h => by
  rw [bestB] at h
  split at h
  ·cases h; exact ⟨f, by simp, rfl⟩
  ·obtain ⟨g, hg, e⟩ := bestB_lines fs (k + 1) h
   exact ⟨g, by simp [hg], e⟩
def Tr (h h' : Hp) : Prop := ∀ k x, h.T k = some x → h'.T k = some x
theorem Gr.tr {a b : Hp} (h : Gr a b) : Tr a b := h.2
theorem Tr.trans {a b c : Hp} (h1 : Tr a b) (h2 : Tr b c) : Tr a c := fun k x e => h2 k x (h1 k x e)
theorem g_best (fs : List Fo) (ts : List Tok) (wide high : Int) (hts : ∀ t ∈ ts, t ∈ toks) (hn : ts.length ≤ 200) (hw : 1 ≤ wide ∧ wide ≤ 100000) (hh : 1 ≤ high ∧ high ≤ 100000) (hfs : ∀ f ∈ fs, f.key.size ≤ 1000 ∧ f.ws.length ≤ 1000 ∧ Good f) (hl : fs.length ≤ 20) (k0 : Nat) (h : Hp) (hT : h.T k0 = some (.glb tabU)) :
  ACalls Tryz.prog 28 [.row 4 (fs.map encF4) none, .v (.string (bsOf ts.flatten)), .v (.int .i64 wide), .v (.int .i64 high)] h (fun r h' => r = resB (bestB wide high ts fs 0) ∧ Tr h h') := by
 have hml : (fs.map encF4).length = fs.length := List.length_map _
 have hf2 := flat_le2 ts hts
 refine gE Tryz.func28 rfl (by kernel_rfl) 54 rfl fun c => ?_
 (repeat (first | refine gO rfl ?_ | (refine gM zM33 fun K1 hK1 => ?_; simp only [go_sem, ↓reduceIte, reduceCtorEq, nA, nB, nC, nD, nE, nF] <;> and_intros <;> first | (apply hK1; clear hK1 K1) | skip)))
 refine (g_bestFault fs (bsOf ts.flatten) wide high (by rw [size_bs]; omega) (fun f hf => ⟨(hfs f hf).1, (hfs f hf).2.1⟩) hl h).mono ?_; rintro _ hz ⟨rfl, hh⟩; apply hK1; clear hK1 K1; rw [hh]; clear hh hz
 have hz : orI (allF fs wide high) = 0 := by
  have e1 : ∀ x ∈ fs.map fontF, x = 0 := fun x hx => by
   obtain ⟨f, hf, rfl⟩ := List.mem_map.1 hx
   exact good_fontF (hfs f hf).2.2
  have e2 : pixF wide = 0 := by unfold pixF; rw [if_pos hw]
  have e3 : pixF high = 0 := by unfold pixF; rw [if_pos hh]
  show orI (fs.map fontF ++ [pixF wide, pixF high]) = 0
  rw [orI_skip e1, e2, e3]; rfl
 rw [hz]
 (repeat (first | refine gO rfl ?_ | (refine gM zM33 fun K1 hK1 => ?_; simp only [go_sem, ↓reduceIte, reduceCtorEq, nA, nB, nC, nD, nE, nF] <;> and_intros <;> (apply hK1; clear hK1 K1))))
 refine awp_cond (t := _) rfl (fun h6 => by cases h6) (fun _ => ?_)
 (repeat (first | refine gO rfl ?_ | (refine gM zM33 fun K1 hK1 => ?_; simp only [go_sem, ↓reduceIte, reduceCtorEq, nA, nB, nC, nD, nE, nF, hml] <;> and_intros <;> (apply hK1; clear hK1 K1))))
 refine awp_loopC (rl false [1, 1, 1, 1, 2, 1, 18, 3, 30]) 0 (fun g st => ∃ (j : Nat) (h1 : Hp), g + j = fs.length ∧ Tr h h1 ∧ bestB wide high ts (fs.drop j) j = bestB wide high ts fs 0 ∧
  st = ⟨(AV.junk :: ((.v (.string (bsOf ts.flatten))) :: AV.junk :: ((.v (.int .i64 high)) :: AV.junk :: AV.junk :: ((.ref [.v (.int .i64 wide)] 0) :: (jnk 18 ((.row 4 (fs.map encF4) none) :: (.v (.int .i64 fs.length)) :: (.v (.int .i64 j)) :: (jnk 30 []))))))), [], h1⟩) fs.length ⟨0, h, by omega, fun _ _ e => e, rfl, rfl⟩ ?_
 rintro g _ ⟨j, h1, hj, htr, hbe, rfl⟩
 (repeat (first | refine gO rfl ?_ | (refine gM zM33 fun K1 hK1 => ?_; simp only [go_sem, ↓reduceIte, reduceCtorEq, nA, nB, nC, nD, nE, nF] <;> and_intros <;> (apply hK1; clear hK1 K1))))
 refine awp_cond (t := _) rfl (fun h5 => ?_) (fun h5 => ?_)
 ·simp only [decide_eq_true_eq] at h5
  have hjl : j < fs.length := by omega
  have gx := row_font fs j hjl
  obtain ⟨hks, hlw, hg⟩ := hfs _ (List.getElem_mem hjl)
  have hbd := bestB_drop wide high ts fs j hjl
  rw [hbe] at hbd
  have ht4 : ∀ f : Fo, List.take 4 (encF4 f) = encF4 f := fun _ => rfl
  have hl4 : ∀ f : Fo, (encF4 f).length = 4 := fun _ => rfl
  generalize fs[j] = f at *
  have hef : encF4 f = [.v (.string f.key), .v (.int .i64 f.hi), .v (.int .i64 f.ot), .row 3 (f.ws.map encW) none] := rfl
  have hfl : (encFo f none) = .agg [.v (.string f.key), .v (.int .i64 f.hi), .v (.int .i64 f.ot), .row 3 (f.ws.map encW) none] := rfl
  (repeat (first | refine gO rfl ?_ | (refine gM zM33 fun K1 hK1 => ?_; simp only [go_sem, ↓reduceIte, reduceCtorEq, nA, nB, nC, nD, nE, nF, hml, Int.toNat_natCast, gx, ht4, hl4, hef] <;> and_intros <;> first | (intros; (omega)) | skip)))
  intro i hi
  refine hK1 _ ?_; clear hK1 K1
  have hi3 : (upd h1.H i (some (.cells [.v (.string f.key), .v (.int .i64 f.hi), .v (.int .i64 f.ot), .row 3 (f.ws.map encW) none]))) i = some (.cells (encF4 f)) := upd_same _ _ _
  have ht3 : Tr h ⟨upd h1.H i (some (.cells [.v (.string f.key), .v (.int .i64 f.hi), .v (.int .i64 f.ot), .row 3 (f.ws.map encW) none])), h1.T⟩ := htr
  obtain ⟨h3, hh3⟩ : ∃ h3, h3 = (⟨upd h1.H i (some (.cells [.v (.string f.key), .v (.int .i64 f.hi), .v (.int .i64 f.ot), .row 3 (f.ws.map encW) none])), h1.T⟩ : Hp) := ⟨_, rfl⟩
  have hi4 : h3.H i = some (.cells (encF4 f)) := by rw [hh3]; exact hi3
  rw [← hh3] at ht3 ⊢
  clear hi3 hh3
  have hi5 := hi4
  rw [hef] at hi5
  have hlo := g_linesOf f none ts wide hts (by omega) hw hg k0 h3 (ht3 _ _ hT)
  rw [hfl] at hlo
  (repeat (first | refine gO rfl ?_ | (refine gM zM33 fun K1 hK1 => ?_; simp only [go_sem, ↓reduceIte, reduceCtorEq, nA, nB, nC, nD, nE, nF, hi5] <;> and_intros)))
  refine hlo.mono ?_
  rintro _ h4 ⟨rfl, hg4⟩; apply hK1; clear hK1 K1
  (repeat (first | refine gO rfl ?_ | (refine gM zM33 fun K1 hK1 => ?_; simp only [go_sem, ↓reduceIte, reduceCtorEq, nA, nB, nC, nD, nE, nF] <;> and_intros <;> (apply hK1; clear hK1 K1))))
  refine awp_cond (t := _) rfl (fun h6 => by cases h6) (fun _ => ?_)
  have hfw := lines_few f wide ts
  have hlt := lines_toks f wide hts
  have hsz := lines_size f wide ts
  have hll : ∀ x ∈ linesT f wide ts, (∀ t ∈ x, t ∈ toks) ∧ x.length ≤ 10000 := fun x hx => ⟨hlt x hx, by
   have := List.Sublist.length_le (List.sublist_flatten_of_mem hx)
   omega⟩
  have hok : okB wide high ts f = (decide (((linesT f wide ts).length : Int) * f.hi ≤ high) && !(linesT f wide ts).any fun l => decide (wide < sumW f l)) := rfl
  have hi6 : h4.H i = some (.cells (encF4 f)) := by rw [hg4.1]; exact hi4
  have hany := g_anyOv 62 [.ptr i 0, .ref [.v (.int .i64 wide)] 0] (linesT f wide ts) (fun l => decide (wide < sumW f l)) (by omega) h4 (fun l hl h' hg' =>
   g_over f l wide i (hll l hl).1 (hll l hl).2 hg k0 h' (hg'.2 _ _ (hg4.2 _ _ (ht3 _ _ hT))) (by rw [hg'.1]; exact hi6))
  generalize linesT f wide ts = X at *
  have hXl : (X.map encLn).length = X.length := List.length_map _
  have hmul : 0 ≤ (X.length : Int) * f.hi ∧ (X.length : Int) * f.hi ≤ 401000 := ⟨Int.mul_nonneg (by omega) (by have := hg.hi; omega), Int.mul_le_mul (show (X.length : Int) ≤ 401 by omega) hg.hi.2 (by have := hg.hi; omega) (by omega)⟩
  rw [hef] at hi6
  generalize (X.any fun l => decide (wide < sumW f l)) = av at *
  by_cases c1 : (X.length : Int) * f.hi ≤ high
  ·have d1 : decide ((X.length : Int) * f.hi ≤ high) = true := decide_eq_true c1
   rw [d1, Bool.true_and] at hok
   (repeat (first | refine gO rfl ?_ | (refine gM zM33 fun K1 hK1 => ?_; simp only [go_sem, ↓reduceIte, reduceCtorEq, nA, nB, nC, nD, nE, nF, hi6, hXl, d1] <;> and_intros <;> first | (intros; first | omega | decide) | skip)))
   rotate_left
   ·exact fun h => h.elim
   refine hany.mono ?_
   rintro _ h5 ⟨rfl, hg5⟩; refine ⟨rfl, hK1 _ ?_⟩; clear hK1 K1
   cases av with
   | false =>
    rw [hok, if_pos (by decide)] at hbd
    (repeat (first | refine gO rfl ?_ | (refine gM zM33 fun K1 hK1 => ?_; simp only [go_sem, ↓reduceIte, reduceCtorEq, nA, nB, nC, nD, nE, nF, d1, Bool.not_false] <;> and_intros <;> (apply hK1; clear hK1 K1))))
    refine awp_cond (t := _) rfl (fun _ => ?_) (fun h6 => by cases h6)
    (repeat (first | refine gO rfl ?_ | (refine gM zM33 fun K1 hK1 => ?_; simp only [go_sem, ↓reduceIte, reduceCtorEq, nA, nB, nC, nD, nE, nF] <;> and_intros <;> (apply hK1; clear hK1 K1))))
    simp only [Tryz.results28, go_sem, ↓reduceIte, reduceCtorEq, nA, nB, nC, nD, nE, nF]
    exact ⟨_, _, Weak.refl _, Hp.le.refl _, by rw [hbd]; rfl, ht3.trans (hg4.tr.trans hg5.tr)⟩
   | true =>
    rw [hok, if_neg (by decide)] at hbd
    (repeat (first | refine gO rfl ?_ | (refine gM zM33 fun K1 hK1 => ?_; simp only [go_sem, ↓reduceIte, reduceCtorEq, nA, nB, nC, nD, nE, nF, d1, Bool.not_true] <;> and_intros <;> (apply hK1; clear hK1 K1))))
    refine awp_cond (t := _) rfl (fun h6 => by cases h6) (fun _ => ?_)
    (repeat (first | refine gO rfl ?_ | (refine gM zM33 fun K1 hK1 => ?_; simp only [go_sem, ↓reduceIte, reduceCtorEq, nA, nB, nC, nD, nE, nF] <;> and_intros <;> first | (apply hK1; clear hK1 K1) | (intros; (omega)))))
    exact ⟨g - 1, by omega, j + 1, h5, by omega, ht3.trans (hg4.tr.trans hg5.tr), hbd.symm, rfl⟩
  ·have d1 : decide ((X.length : Int) * f.hi ≤ high) = false := decide_eq_false c1
   rw [d1, Bool.false_and] at hok
   rw [hok, if_neg (by decide)] at hbd
   (repeat (first | refine gO rfl ?_ | (refine gM zM33 fun K1 hK1 => ?_; simp only [go_sem, ↓reduceIte, reduceCtorEq, nA, nB, nC, nD, nE, nF, hi6, hXl, d1] <;> and_intros <;> first | (apply hK1; clear hK1 K1) | (intros; first | omega | decide))))
   refine awp_cond (t := _) rfl (fun h6 => by cases h6) (fun _ => ?_)
   (repeat (first | refine gO rfl ?_ | (refine gM zM33 fun K1 hK1 => ?_; simp only [go_sem, ↓reduceIte, reduceCtorEq, nA, nB, nC, nD, nE, nF] <;> and_intros <;> first | (apply hK1; clear hK1 K1) | (intros; (omega)))))
   exact ⟨g - 1, by omega, j + 1, h4, by omega, ht3.trans hg4.tr, hbd.symm, rfl⟩
 ·simp only [decide_eq_false_iff_not] at h5
  have hjl : j = fs.length := by omega
  subst hjl
  rw [List.drop_length, bestB] at hbe
  (repeat (first | refine gO rfl ?_ | (refine gM zM33 fun K1 hK1 => ?_; simp only [go_sem, ↓reduceIte, reduceCtorEq, nA, nB, nC, nD, nE, nF] <;> and_intros <;> (apply hK1; clear hK1 K1))))
  simp only [Tryz.results28, go_sem, ↓reduceIte, reduceCtorEq, nA, nB, nC, nD, nE, nF]
  exact ⟨_, _, Weak.refl _, Hp.le.refl _, by rw [← hbe]; rfl, htr⟩
theorem g_bestR (fs : List Fo) (ts : List Tok) (wide high : Int) (hts : ∀ t ∈ ts, t ∈ toks) (hn : ts.length ≤ 200) (hw : 1 ≤ wide ∧ wide ≤ 100000) (hh : 1 ≤ high ∧ high ≤ 100000) (hfs : ∀ f ∈ fs, f.key.size ≤ 1000 ∧ f.ws.length ≤ 1000 ∧ Good f) (hl : fs.length ≤ 20) (k0 : Nat) (h : Hp) (hT : h.T k0 = some (.glb tabU)) :
  ACalls Tryz.prog 29 [.row 4 (fs.map encF4) none, .v (.string (bsOf ts.flatten)), .v (.int .i64 wide), .v (.int .i64 high)] h (fun r h' => r = resR (bestB wide high ts fs 0) ∧ Tr h h') := by
 have hml : (fs.map encF4).length = fs.length := List.length_map _
 have hf2 := flat_le2 ts hts
 refine gE Tryz.func29 rfl (by kernel_rfl) 43 rfl fun c => ?_
 (repeat (first | refine gO rfl ?_ | (refine gM zM34 fun K1 hK1 => ?_; simp only [go_sem, ↓reduceIte, reduceCtorEq, nA, nB, nC, nD, nE, nF, hml] <;> and_intros <;> (apply hK1; clear hK1 K1))))
 refine awp_loopC (rl false [1, 1, 1, 1, 2, 1, 8, 3, 29]) 0 (fun g st => ∃ (j : Nat) (h1 : Hp), g + j = fs.length ∧ Tr h h1 ∧ bestB wide high ts (fs.drop j) j = bestB wide high ts fs 0 ∧
  st = ⟨(AV.junk :: ((.v (.string (bsOf ts.flatten))) :: AV.junk :: ((.v (.int .i64 high)) :: AV.junk :: AV.junk :: ((.ref [.v (.int .i64 wide)] 0) :: (jnk 8 ((.row 4 (fs.map encF4) none) :: (.v (.int .i64 fs.length)) :: (.v (.int .i64 j)) :: (jnk 29 []))))))), [], h1⟩) fs.length ⟨0, h, by omega, fun _ _ e => e, rfl, rfl⟩ ?_
 rintro g _ ⟨j, h1, hj, htr, hbe, rfl⟩
 (repeat (first | refine gO rfl ?_ | (refine gM zM34 fun K1 hK1 => ?_; simp only [go_sem, ↓reduceIte, reduceCtorEq, nA, nB, nC, nD, nE, nF] <;> and_intros <;> (apply hK1; clear hK1 K1))))
 refine awp_cond (t := _) rfl (fun h5 => ?_) (fun h5 => ?_)
 ·simp only [decide_eq_true_eq] at h5
  have hjl : j < fs.length := by omega
  have gx := row_font fs j hjl
  obtain ⟨hks, hlw, hg⟩ := hfs _ (List.getElem_mem hjl)
  have hbd := bestB_drop wide high ts fs j hjl
  rw [hbe] at hbd
  have ht4 : ∀ f : Fo, List.take 4 (encF4 f) = encF4 f := fun _ => rfl
  have hl4 : ∀ f : Fo, (encF4 f).length = 4 := fun _ => rfl
  generalize fs[j] = f at *
  have hef : encF4 f = [.v (.string f.key), .v (.int .i64 f.hi), .v (.int .i64 f.ot), .row 3 (f.ws.map encW) none] := rfl
  have hfl : (encFo f none) = .agg [.v (.string f.key), .v (.int .i64 f.hi), .v (.int .i64 f.ot), .row 3 (f.ws.map encW) none] := rfl
  (repeat (first | refine gO rfl ?_ | (refine gM zM34 fun K1 hK1 => ?_; simp only [go_sem, ↓reduceIte, reduceCtorEq, nA, nB, nC, nD, nE, nF, hml, Int.toNat_natCast, gx, ht4, hl4, hef] <;> and_intros <;> first | (intros; (omega)) | skip)))
  intro i hi
  refine hK1 _ ?_; clear hK1 K1
  have hi3 : (upd h1.H i (some (.cells [.v (.string f.key), .v (.int .i64 f.hi), .v (.int .i64 f.ot), .row 3 (f.ws.map encW) none]))) i = some (.cells (encF4 f)) := upd_same _ _ _
  have ht3 : Tr h ⟨upd h1.H i (some (.cells [.v (.string f.key), .v (.int .i64 f.hi), .v (.int .i64 f.ot), .row 3 (f.ws.map encW) none])), h1.T⟩ := htr
  obtain ⟨h3, hh3⟩ : ∃ h3, h3 = (⟨upd h1.H i (some (.cells [.v (.string f.key), .v (.int .i64 f.hi), .v (.int .i64 f.ot), .row 3 (f.ws.map encW) none])), h1.T⟩ : Hp) := ⟨_, rfl⟩
  have hi4 : h3.H i = some (.cells (encF4 f)) := by rw [hh3]; exact hi3
  rw [← hh3] at ht3 ⊢
  clear hi3 hh3
  have hi5 := hi4
  rw [hef] at hi5
  have hlo := g_linesOfR f none ts wide hts (by omega) hw hg k0 h3 (ht3 _ _ hT)
  rw [hfl] at hlo
  (repeat (first | refine gO rfl ?_ | (refine gM zM34 fun K1 hK1 => ?_; simp only [go_sem, ↓reduceIte, reduceCtorEq, nA, nB, nC, nD, nE, nF, hi5] <;> and_intros)))
  refine hlo.mono ?_
  rintro _ h4 ⟨rfl, hg4⟩; apply hK1; clear hK1 K1
  (repeat (first | refine gO rfl ?_ | (refine gM zM34 fun K1 hK1 => ?_; simp only [go_sem, ↓reduceIte, reduceCtorEq, nA, nB, nC, nD, nE, nF] <;> and_intros <;> (apply hK1; clear hK1 K1))))
  refine awp_cond (t := _) rfl (fun h6 => by cases h6) (fun _ => ?_)
  have hfw := lines_few f wide ts
  have hlt := lines_toks f wide hts
  have hsz := lines_size f wide ts
  have hll : ∀ x ∈ linesT f wide ts, (∀ t ∈ x, t ∈ toks) ∧ x.length ≤ 10000 := fun x hx => ⟨hlt x hx, by
   have := List.Sublist.length_le (List.sublist_flatten_of_mem hx)
   omega⟩
  have hok : okB wide high ts f = (decide (((linesT f wide ts).length : Int) * f.hi ≤ high) && !(linesT f wide ts).any fun l => decide (wide < sumW f l)) := rfl
  have hi6 : h4.H i = some (.cells (encF4 f)) := by rw [hg4.1]; exact hi4
  have hany := g_anyOv 63 [.ptr i 0, .ref [.v (.int .i64 wide)] 0] (linesT f wide ts) (fun l => decide (wide < sumW f l)) (by omega) h4 (fun l hl h' hg' =>
   g_overR f l wide i (hll l hl).1 (hll l hl).2 hg k0 h' (hg'.2 _ _ (hg4.2 _ _ (ht3 _ _ hT))) (by rw [hg'.1]; exact hi6))
  generalize linesT f wide ts = X at *
  have hXl : (X.map encLn).length = X.length := List.length_map _
  have hmul : 0 ≤ (X.length : Int) * f.hi ∧ (X.length : Int) * f.hi ≤ 401000 := ⟨Int.mul_nonneg (by omega) (by have := hg.hi; omega), Int.mul_le_mul (show (X.length : Int) ≤ 401 by omega) hg.hi.2 (by have := hg.hi; omega) (by omega)⟩
  rw [hef] at hi6
  generalize (X.any fun l => decide (wide < sumW f l)) = av at *
  by_cases c1 : (X.length : Int) * f.hi ≤ high
  ·have d1 : decide ((X.length : Int) * f.hi ≤ high) = true := decide_eq_true c1
   rw [d1, Bool.true_and] at hok
   (repeat (first | refine gO rfl ?_ | (refine gM zM34 fun K1 hK1 => ?_; simp only [go_sem, ↓reduceIte, reduceCtorEq, nA, nB, nC, nD, nE, nF, hi6, hXl, d1] <;> and_intros <;> first | (intros; first | omega | decide) | skip)))
   rotate_left
   ·exact fun h => h.elim
   refine hany.mono ?_
   rintro _ h5 ⟨rfl, hg5⟩; refine ⟨rfl, hK1 _ ?_⟩; clear hK1 K1
   cases av with
   | false =>
    rw [hok, if_pos (by decide)] at hbd
    (repeat (first | refine gO rfl ?_ | (refine gM zM34 fun K1 hK1 => ?_; simp only [go_sem, ↓reduceIte, reduceCtorEq, nA, nB, nC, nD, nE, nF, d1, Bool.not_false] <;> and_intros <;> (apply hK1; clear hK1 K1))))
    refine awp_cond (t := _) rfl (fun _ => ?_) (fun h6 => by cases h6)
    (repeat (first | refine gO rfl ?_ | (refine gM zM34 fun K1 hK1 => ?_; simp only [go_sem, ↓reduceIte, reduceCtorEq, nA, nB, nC, nD, nE, nF] <;> and_intros <;> (apply hK1; clear hK1 K1))))
    simp only [Tryz.results29, go_sem, ↓reduceIte, reduceCtorEq, nA, nB, nC, nD, nE, nF]
    exact ⟨_, _, Weak.refl _, Hp.le.refl _, by rw [hbd]; rfl, ht3.trans (hg4.tr.trans hg5.tr)⟩
   | true =>
    rw [hok, if_neg (by decide)] at hbd
    (repeat (first | refine gO rfl ?_ | (refine gM zM34 fun K1 hK1 => ?_; simp only [go_sem, ↓reduceIte, reduceCtorEq, nA, nB, nC, nD, nE, nF, d1, Bool.not_true] <;> and_intros <;> (apply hK1; clear hK1 K1))))
    refine awp_cond (t := _) rfl (fun h6 => by cases h6) (fun _ => ?_)
    (repeat (first | refine gO rfl ?_ | (refine gM zM34 fun K1 hK1 => ?_; simp only [go_sem, ↓reduceIte, reduceCtorEq, nA, nB, nC, nD, nE, nF] <;> and_intros <;> first | (apply hK1; clear hK1 K1) | (intros; (omega)))))
    exact ⟨g - 1, by omega, j + 1, h5, by omega, ht3.trans (hg4.tr.trans hg5.tr), hbd.symm, rfl⟩
  ·have d1 : decide ((X.length : Int) * f.hi ≤ high) = false := decide_eq_false c1
   rw [d1, Bool.false_and] at hok
   rw [hok, if_neg (by decide)] at hbd
   (repeat (first | refine gO rfl ?_ | (refine gM zM34 fun K1 hK1 => ?_; simp only [go_sem, ↓reduceIte, reduceCtorEq, nA, nB, nC, nD, nE, nF, hi6, hXl, d1] <;> and_intros <;> first | (apply hK1; clear hK1 K1) | (intros; first | omega | decide))))
   refine awp_cond (t := _) rfl (fun h6 => by cases h6) (fun _ => ?_)
   (repeat (first | refine gO rfl ?_ | (refine gM zM34 fun K1 hK1 => ?_; simp only [go_sem, ↓reduceIte, reduceCtorEq, nA, nB, nC, nD, nE, nF] <;> and_intros <;> first | (apply hK1; clear hK1 K1) | (intros; (omega)))))
   exact ⟨g - 1, by omega, j + 1, h4, by omega, ht3.trans hg4.tr, hbd.symm, rfl⟩
 ·simp only [decide_eq_false_iff_not] at h5
  have hjl : j = fs.length := by omega
  subst hjl
  rw [List.drop_length, bestB] at hbe
  (repeat (first | refine gO rfl ?_ | (refine gM zM34 fun K1 hK1 => ?_; simp only [go_sem, ↓reduceIte, reduceCtorEq, nA, nB, nC, nD, nE, nF] <;> and_intros <;> (apply hK1; clear hK1 K1))))
  simp only [Tryz.results29, go_sem, ↓reduceIte, reduceCtorEq, nA, nB, nC, nD, nE, nF]
  exact ⟨_, _, Weak.refl _, Hp.le.refl _, by rw [← hbe]; rfl, htr⟩
abbrev zP1HE : List Nat := [0, 1, 2, 3, 4, 5]
abbrev zP1HP : List (Nat × List Nat × List Nat) := [(6, [], [7]), (8, [], [])]
attribute [go_sem] zP1HE zP1HP
def sC : ByteArray := ⟨#[110, 32, 62, 32, 51]⟩
def sG : ByteArray := ⟨#[62]⟩
def s3 : ByteArray := ⟨#[51]⟩
def sRow : ByteArray := ⟨#[114, 111, 119]⟩
def sEnd : ByteArray := ⟨#[101, 110, 100]⟩
theorem c_keyByte (n : Int) (b : Bool) (hn : (n = 110 ∧ b = true) ∨ (n = 51 ∧ b = true) ∨ (n = 62 ∧ b = false) ∨ (n = 32 ∧ b = false)) (h : Hp) : ACalls Tryz.prog 252 [.v (.int .u8 n)] h (fun r h' => r = .v (.bool b) ∧ h' = h) := by
 rcases hn with ⟨rfl, rfl⟩ | ⟨rfl, rfl⟩ | ⟨rfl, rfl⟩ | ⟨rfl, rfl⟩
 ·refine gE Tryz.func252 rfl (by kernel_rfl) 24 rfl fun c => ?_
  (repeat (first | refine gO rfl ?_ | (refine gR fun K1 hK1 => ?_; simp only [go_sem, ↓reduceIte, reduceCtorEq, nA, nB, nC, nD, nE, nF, Int.reduceBEq, Int.reduceTMod, Int.reduceTDiv, Int.reduceMul, Int.reduceBNe, Int.reduceLT, Int.reduceLE, Int.reduceAdd, Int.reduceSub, Int.reduceNeg, decide_true, decide_false, Bool.true_and, Bool.false_and, Bool.and_true, Bool.and_false, Bool.or_false, Bool.or_true, Bool.true_or, Bool.false_or, Bool.not_true, Bool.not_false, true_implies, false_implies, true_and, and_true, Int.reduceToNat] <;> and_intros <;> first | (apply hK1; clear hK1 K1) | (intros; first | omega | decide) | skip) | (refine awp_cond (t := _) rfl (fun hq => ?_) (fun hq => ?_) <;> first | (exact absurd hq (by decide)) | (cases hq; done) | (clear hq)) | (refine awp_un 8 ?_) | (with_reducible exact rfl) | (with_reducible exact trivial) | ((with_reducible show uside _); first | exact True.intro | exact rfl) | ((with_reducible show opS _ _); exact True.intro) | (refine ⟨AV.v (.bool true), rfl, hK1 _ ?_⟩; clear hK1 K1)))
  simp only [Tryz.results252, go_sem, ↓reduceIte, reduceCtorEq, nA, nB, nC, nD, nE, nF]
  exact ⟨_, _, Weak.refl _, Hp.le.refl _, rfl, rfl⟩
 ·refine gE Tryz.func252 rfl (by kernel_rfl) 24 rfl fun c => ?_
  (repeat (first | refine gO rfl ?_ | (refine gR fun K1 hK1 => ?_; simp only [go_sem, ↓reduceIte, reduceCtorEq, nA, nB, nC, nD, nE, nF, Int.reduceBEq, Int.reduceTMod, Int.reduceTDiv, Int.reduceMul, Int.reduceBNe, Int.reduceLT, Int.reduceLE, Int.reduceAdd, Int.reduceSub, Int.reduceNeg, decide_true, decide_false, Bool.true_and, Bool.false_and, Bool.and_true, Bool.and_false, Bool.or_false, Bool.or_true, Bool.true_or, Bool.false_or, Bool.not_true, Bool.not_false, true_implies, false_implies, true_and, and_true, Int.reduceToNat] <;> and_intros <;> first | (apply hK1; clear hK1 K1) | (intros; first | omega | decide) | skip) | (refine awp_cond (t := _) rfl (fun hq => ?_) (fun hq => ?_) <;> first | (exact absurd hq (by decide)) | (cases hq; done) | (clear hq)) | (refine awp_un 8 ?_) | (with_reducible exact rfl) | (with_reducible exact trivial) | ((with_reducible show uside _); first | exact True.intro | exact rfl) | ((with_reducible show opS _ _); exact True.intro) | (refine ⟨AV.v (.bool true), rfl, hK1 _ ?_⟩; clear hK1 K1)))
  simp only [Tryz.results252, go_sem, ↓reduceIte, reduceCtorEq, nA, nB, nC, nD, nE, nF]
  exact ⟨_, _, Weak.refl _, Hp.le.refl _, rfl, rfl⟩
 ·refine gE Tryz.func252 rfl (by kernel_rfl) 24 rfl fun c => ?_
  (repeat (first | refine gO rfl ?_ | (refine gR fun K1 hK1 => ?_; simp only [go_sem, ↓reduceIte, reduceCtorEq, nA, nB, nC, nD, nE, nF, Int.reduceBEq, Int.reduceTMod, Int.reduceTDiv, Int.reduceMul, Int.reduceBNe, Int.reduceLT, Int.reduceLE, Int.reduceAdd, Int.reduceSub, Int.reduceNeg, decide_true, decide_false, Bool.true_and, Bool.false_and, Bool.and_true, Bool.and_false, Bool.or_false, Bool.or_true, Bool.true_or, Bool.false_or, Bool.not_true, Bool.not_false, true_implies, false_implies, true_and, and_true, Int.reduceToNat] <;> and_intros <;> first | (apply hK1; clear hK1 K1) | (intros; first | omega | decide) | skip) | (refine awp_cond (t := _) rfl (fun hq => ?_) (fun hq => ?_) <;> first | (exact absurd hq (by decide)) | (cases hq; done) | (clear hq)) | (refine awp_un 8 ?_) | (with_reducible exact rfl) | (with_reducible exact trivial) | ((with_reducible show uside _); first | exact True.intro | exact rfl) | ((with_reducible show opS _ _); exact True.intro) | (refine ⟨AV.v (.bool true), rfl, hK1 _ ?_⟩; clear hK1 K1)))
  simp only [Tryz.results252, go_sem, ↓reduceIte, reduceCtorEq, nA, nB, nC, nD, nE, nF]
  exact ⟨_, _, Weak.refl _, Hp.le.refl _, rfl, rfl⟩
 ·refine gE Tryz.func252 rfl (by kernel_rfl) 24 rfl fun c => ?_
  (repeat (first | refine gO rfl ?_ | (refine gR fun K1 hK1 => ?_; simp only [go_sem, ↓reduceIte, reduceCtorEq, nA, nB, nC, nD, nE, nF, Int.reduceBEq, Int.reduceTMod, Int.reduceTDiv, Int.reduceMul, Int.reduceBNe, Int.reduceLT, Int.reduceLE, Int.reduceAdd, Int.reduceSub, Int.reduceNeg, decide_true, decide_false, Bool.true_and, Bool.false_and, Bool.and_true, Bool.and_false, Bool.or_false, Bool.or_true, Bool.true_or, Bool.false_or, Bool.not_true, Bool.not_false, true_implies, false_implies, true_and, and_true, Int.reduceToNat] <;> and_intros <;> first | (apply hK1; clear hK1 K1) | (intros; first | omega | decide) | skip) | (refine awp_cond (t := _) rfl (fun hq => ?_) (fun hq => ?_) <;> first | (exact absurd hq (by decide)) | (cases hq; done) | (clear hq)) | (refine awp_un 8 ?_) | (with_reducible exact rfl) | (with_reducible exact trivial) | ((with_reducible show uside _); first | exact True.intro | exact rfl) | ((with_reducible show opS _ _); exact True.intro) | (refine ⟨AV.v (.bool true), rfl, hK1 _ ?_⟩; clear hK1 K1)))
  simp only [Tryz.results252, go_sem, ↓reduceIte, reduceCtorEq, nA, nB, nC, nD, nE, nF]
  exact ⟨_, _, Weak.refl _, Hp.le.refl _, rfl, rfl⟩
theorem c_tok0 (h : Hp) : ACalls Tryz.prog 239 [.v (.string sC), .v (.int .i64 0)] h (fun r h' => r = .agg [vS sRow, vS sN, vI 0, vI 1] ∧ h' = h) := by
 have k1 := fun h => c_keyByte 110 true (by simp) h
 have k2 := fun h => c_keyByte 32 false (by simp) h
 have z : (sC.size : Int) = 5 := rfl
 have z0 : ((sC.data.toList.getD 0 0).toNat : Int) = 110 := rfl
 have z1 : ((sC.data.toList.getD 1 0).toNat : Int) = 32 := rfl
 have x0 : sC.extract 0 1 = sN := by decide
 refine gE Tryz.func239 rfl (by kernel_rfl) 121 rfl fun c => ?_
 (repeat (first | refine gO rfl ?_ | ((first | refine gM zM35 ?_ | (with_reducible refine wM ?_ ?_) | ((with_reducible refine xS ?_); refine uD 11 zM35 zP1HE zP1HP 123 rfl (by kernel_rfl) ?_)) <;> ((try with_reducible intro K1 hK1); simp only [go_sem, ↓reduceIte, reduceCtorEq, nA, nB, nC, nD, nE, nF, Int.reduceBEq, Int.reduceTMod, Int.reduceTDiv, Int.reduceMul, Int.reduceBNe, Int.reduceLT, Int.reduceLE, Int.reduceAdd, Int.reduceSub, Int.reduceNeg, decide_true, decide_false, Bool.true_and, Bool.false_and, Bool.and_true, Bool.and_false, Bool.or_false, Bool.or_true, Bool.true_or, Bool.false_or, Bool.not_true, Bool.not_false, true_implies, false_implies, true_and, and_true, Int.reduceToNat, z, z0, z1, x0] <;> and_intros <;> first | (apply hK1; clear hK1 K1) | (intros; first | omega | decide) | skip)) | (refine awp_cond (t := _) rfl (fun hq => ?_) (fun hq => ?_) <;> first | (exact absurd hq (by decide)) | (cases hq; done) | (clear hq)) | (refine awp_un 8 ?_) | (with_reducible exact rfl) | (with_reducible exact trivial) | ((with_reducible show uside _); first | exact True.intro | exact rfl) | ((with_reducible show opS _ _); exact True.intro) | (refine ⟨AV.v (.bool true), rfl, hK1 _ ?_⟩; clear hK1 K1) | (refine (k1 _).mono ?_; rintro _ hz ⟨rfl, hh⟩; (first | (refine hK1 _ ?_) | (refine ⟨rfl, hK1 _ ?_⟩)); clear hK1 K1; rw [hh]; clear hh hz) | (refine (k2 _).mono ?_; rintro _ hz ⟨rfl, hh⟩; (first | (refine hK1 _ ?_) | (refine ⟨rfl, hK1 _ ?_⟩)); clear hK1 K1; rw [hh]; clear hh hz)))
 simp only [Tryz.results239, go_sem, ↓reduceIte, reduceCtorEq, nA, nB, nC, nD, nE, nF]
 exact ⟨_, _, Weak.refl _, Hp.le.refl _, rfl, rfl⟩
theorem c_hasPre (p : ByteArray) (b : Bool) (hb : Lib.hasPrefix [62, 32, 51] p.data.toList = b) (h : Hp) : ACalls Tryz.prog 206 [.v (.string ⟨#[62, 32, 51]⟩), .v (.string p)] h (fun r h' => r = .v (.bool b) ∧ h' = h) :=
 acalls_pure (by kernel_rfl) [.string ⟨#[62, 32, 51]⟩, .string p] rfl (fun w => (Tryz.strings_HasPrefix ⟨#[62, 32, 51]⟩ p w).mono fun e w' ⟨h1, h2⟩ => ⟨by rw [h1, ← hb], by rw [h2]; exact bel_id w⟩) h
theorem c_tok1 (h : Hp) : ACalls Tryz.prog 239 [.v (.string sC), .v (.int .i64 1)] h (fun r h' => r = .agg [vS sG, vS s0, vI 2, vI 3] ∧ h' = h) := by
 have k1 := fun h => c_keyByte 62 false (by simp) h
 have p1 := fun h => c_hasPre ⟨#[61, 61]⟩ false (by decide) h
 have p2 := fun h => c_hasPre ⟨#[33, 61]⟩ false (by decide) h
 have p3 := fun h => c_hasPre ⟨#[60, 61]⟩ false (by decide) h
 have p4 := fun h => c_hasPre ⟨#[62, 61]⟩ false (by decide) h
 have p5 := fun h => c_hasPre ⟨#[60]⟩ false (by decide) h
 have p6 := fun h => c_hasPre ⟨#[62]⟩ true (by decide) h
 have z : (sC.size : Int) = 5 := rfl
 have z1 : ((sC.data.toList.getD 1 0).toNat : Int) = 32 := rfl
 have z2 : ((sC.data.toList.getD 2 0).toNat : Int) = 62 := rfl
 have x0 : sC.extract 2 5 = ⟨#[62, 32, 51]⟩ := by decide
 have y1 : ((#[62] : Array UInt8).size : Int) = 1 := rfl
 have y2 : (2 : Int) + 1 = 3 := rfl
 refine gE Tryz.func239 rfl (by kernel_rfl) 121 rfl fun c => ?_
 (repeat (first | refine gO rfl ?_ | ((first | refine gM zM35 ?_ | (with_reducible refine wM ?_ ?_) | ((with_reducible refine xS ?_); refine uD 11 zM35 zP1HE zP1HP 123 rfl (by kernel_rfl) ?_)) <;> ((try with_reducible intro K1 hK1); simp only [go_sem, ↓reduceIte, reduceCtorEq, nA, nB, nC, nD, nE, nF, Int.reduceBEq, Int.reduceTMod, Int.reduceTDiv, Int.reduceMul, Int.reduceBNe, Int.reduceLT, Int.reduceLE, Int.reduceAdd, Int.reduceSub, Int.reduceNeg, decide_true, decide_false, Bool.true_and, Bool.false_and, Bool.and_true, Bool.and_false, Bool.or_false, Bool.or_true, Bool.true_or, Bool.false_or, Bool.not_true, Bool.not_false, true_implies, false_implies, true_and, and_true, Int.reduceToNat, z, z1, z2, x0, y1, y2] <;> and_intros <;> first | (apply hK1; clear hK1 K1) | (intros; first | omega | decide) | skip)) | (refine awp_cond (t := _) rfl (fun hq => ?_) (fun hq => ?_) <;> first | (exact absurd hq (by decide)) | (cases hq; done) | (clear hq)) | (refine awp_un 8 ?_) | (with_reducible exact rfl) | (with_reducible exact trivial) | ((with_reducible show uside _); first | exact True.intro | exact rfl) | ((with_reducible show opS _ _); exact True.intro) | (refine ⟨AV.v (.bool true), rfl, hK1 _ ?_⟩; clear hK1 K1) | (refine (k1 _).mono ?_; rintro _ hz ⟨rfl, hh⟩; (first | (refine hK1 _ ?_) | (refine ⟨rfl, hK1 _ ?_⟩)); clear hK1 K1; rw [hh]; clear hh hz) | (refine (p1 _).mono ?_; rintro _ hz ⟨rfl, hh⟩; (first | (refine hK1 _ ?_) | (refine ⟨rfl, hK1 _ ?_⟩)); clear hK1 K1; rw [hh]; clear hh hz) | (refine (p2 _).mono ?_; rintro _ hz ⟨rfl, hh⟩; (first | (refine hK1 _ ?_) | (refine ⟨rfl, hK1 _ ?_⟩)); clear hK1 K1; rw [hh]; clear hh hz) | (refine (p3 _).mono ?_; rintro _ hz ⟨rfl, hh⟩; (first | (refine hK1 _ ?_) | (refine ⟨rfl, hK1 _ ?_⟩)); clear hK1 K1; rw [hh]; clear hh hz) | (refine (p4 _).mono ?_; rintro _ hz ⟨rfl, hh⟩; (first | (refine hK1 _ ?_) | (refine ⟨rfl, hK1 _ ?_⟩)); clear hK1 K1; rw [hh]; clear hh hz) | (refine (p5 _).mono ?_; rintro _ hz ⟨rfl, hh⟩; (first | (refine hK1 _ ?_) | (refine ⟨rfl, hK1 _ ?_⟩)); clear hK1 K1; rw [hh]; clear hh hz) | (refine (p6 _).mono ?_; rintro _ hz ⟨rfl, hh⟩; (first | (refine hK1 _ ?_) | (refine ⟨rfl, hK1 _ ?_⟩)); clear hK1 K1; rw [hh]; clear hh hz)))
 simp only [Tryz.results239, go_sem, ↓reduceIte, reduceCtorEq, nA, nB, nC, nD, nE, nF]
 exact ⟨_, _, Weak.refl _, Hp.le.refl _, rfl, rfl⟩
theorem c_tok3 (h : Hp) : ACalls Tryz.prog 239 [.v (.string sC), .v (.int .i64 3)] h (fun r h' => r = .agg [vS sRow, vS s3, vI 4, vI 5] ∧ h' = h) := by
 have k1 := fun h => c_keyByte 51 true (by simp) h
 have z : (sC.size : Int) = 5 := rfl
 have z3 : ((sC.data.toList.getD 3 0).toNat : Int) = 32 := rfl
 have z4 : ((sC.data.toList.getD 4 0).toNat : Int) = 51 := rfl
 have x0 : sC.extract 4 5 = s3 := by decide
 refine gE Tryz.func239 rfl (by kernel_rfl) 121 rfl fun c => ?_
 (repeat (first | refine gO rfl ?_ | ((first | refine gM zM35 ?_ | (with_reducible refine wM ?_ ?_) | ((with_reducible refine xS ?_); refine uD 11 zM35 zP1HE zP1HP 123 rfl (by kernel_rfl) ?_)) <;> ((try with_reducible intro K1 hK1); simp only [go_sem, ↓reduceIte, reduceCtorEq, nA, nB, nC, nD, nE, nF, Int.reduceBEq, Int.reduceTMod, Int.reduceTDiv, Int.reduceMul, Int.reduceBNe, Int.reduceLT, Int.reduceLE, Int.reduceAdd, Int.reduceSub, Int.reduceNeg, decide_true, decide_false, Bool.true_and, Bool.false_and, Bool.and_true, Bool.and_false, Bool.or_false, Bool.or_true, Bool.true_or, Bool.false_or, Bool.not_true, Bool.not_false, true_implies, false_implies, true_and, and_true, Int.reduceToNat, z, z3, z4, x0] <;> and_intros <;> first | (apply hK1; clear hK1 K1) | (intros; first | omega | decide) | skip)) | (refine awp_cond (t := _) rfl (fun hq => ?_) (fun hq => ?_) <;> first | (exact absurd hq (by decide)) | (cases hq; done) | (clear hq)) | (refine awp_un 8 ?_) | (with_reducible exact rfl) | (with_reducible exact trivial) | ((with_reducible show uside _); first | exact True.intro | exact rfl) | ((with_reducible show opS _ _); exact True.intro) | (refine ⟨AV.v (.bool true), rfl, hK1 _ ?_⟩; clear hK1 K1) | (refine (k1 _).mono ?_; rintro _ hz ⟨rfl, hh⟩; (first | (refine hK1 _ ?_) | (refine ⟨rfl, hK1 _ ?_⟩)); clear hK1 K1; rw [hh]; clear hh hz)))
 simp only [Tryz.results239, go_sem, ↓reduceIte, reduceCtorEq, nA, nB, nC, nD, nE, nF]
 exact ⟨_, _, Weak.refl _, Hp.le.refl _, rfl, rfl⟩
theorem c_tok5 (h : Hp) : ACalls Tryz.prog 239 [.v (.string sC), .v (.int .i64 5)] h (fun r h' => r = .agg [vS sEnd, vS s0, vI 5, vI 5] ∧ h' = h) := by
 have z : (sC.size : Int) = 5 := rfl
 refine gE Tryz.func239 rfl (by kernel_rfl) 121 rfl fun c => ?_
 (repeat (first | refine gO rfl ?_ | ((first | refine gM zM35 ?_ | (with_reducible refine wM ?_ ?_) | ((with_reducible refine xS ?_); refine uD 11 zM35 zP1HE zP1HP 123 rfl (by kernel_rfl) ?_)) <;> ((try with_reducible intro K1 hK1); simp only [go_sem, ↓reduceIte, reduceCtorEq, nA, nB, nC, nD, nE, nF, Int.reduceBEq, Int.reduceTMod, Int.reduceTDiv, Int.reduceMul, Int.reduceBNe, Int.reduceLT, Int.reduceLE, Int.reduceAdd, Int.reduceSub, Int.reduceNeg, decide_true, decide_false, Bool.true_and, Bool.false_and, Bool.and_true, Bool.and_false, Bool.or_false, Bool.or_true, Bool.true_or, Bool.false_or, Bool.not_true, Bool.not_false, true_implies, false_implies, true_and, and_true, Int.reduceToNat, z] <;> and_intros <;> first | (apply hK1; clear hK1 K1) | (intros; first | omega | decide) | skip)) | (refine awp_cond (t := _) rfl (fun hq => ?_) (fun hq => ?_) <;> first | (exact absurd hq (by decide)) | (cases hq; done) | (clear hq)) | (refine awp_un 8 ?_) | (with_reducible exact rfl) | (with_reducible exact trivial) | ((with_reducible show uside _); first | exact True.intro | exact rfl) | ((with_reducible show opS _ _); exact True.intro) | (refine ⟨AV.v (.bool true), rfl, hK1 _ ?_⟩; clear hK1 K1)))
 simp only [Tryz.results239, go_sem, ↓reduceIte, reduceCtorEq, nA, nB, nC, nD, nE, nF]
 exact ⟨_, _, Weak.refl _, Hp.le.refl _, rfl, rfl⟩
abbrev zP1IE : List Nat := [0, 1, 2, 3, 4, 5, 6, 7, 8, 9]
abbrev zP1IP : List (Nat × List Nat × List Nat) := [(10, [], [11, 12]), (13, [], [])]
abbrev zP1JE : List Nat := [0, 1, 2, 3, 4, 5, 6, 7, 8, 9, 10, 11]
abbrev zP1JP : List (Nat × List Nat × List Nat) := []
attribute [go_sem] zP1IE zP1IP zP1JE zP1JP
def crC (kd tx : ByteArray) (a e : Int) : List AV := [vS sC, vS kd, vS tx, vI a, vI e, nl, vB false, vI 0, vI 0, vI 0]
theorem c_next (r : Nat) (kd tx kd' tx' : ByteArray) (a e a' e' : Int) (h : Hp) (hr : h.H r = some (.cells (crC kd tx a e)))
  (ht : ACalls Tryz.prog 239 [.v (.string sC), .v (.int .i64 e)] h (fun r h' => r = .agg [vS kd', vS tx', vI a', vI e'] ∧ h' = h)) :
  ACalls Tryz.prog 217 [.ptr r 0] h (fun x h' => x = .tup [] ∧ h' = ⟨upd h.H r (some (.cells (crC kd' tx' a' e'))), h.T⟩) := by
 unfold crC vS vI vB nl at *
 refine gE Tryz.func217 rfl (by kernel_rfl) 14 rfl fun c => ?_
 (repeat (first | refine gO rfl ?_ | ((first | refine gR ?_ | (with_reducible refine wM ?_ ?_) | ((with_reducible refine xR ?_); refine uE 0 zM30 zP1IE zP1IP 15 rfl (by kernel_rfl) ?_)) <;> ((try with_reducible intro K1 hK1); simp only [go_sem, ↓reduceIte, reduceCtorEq, nA, nB, nC, nD, nE, nF, Int.reduceBEq, Int.reduceTMod, Int.reduceTDiv, Int.reduceMul, Int.reduceBNe, Int.reduceLT, Int.reduceLE, Int.reduceAdd, Int.reduceSub, Int.reduceNeg, decide_true, decide_false, Bool.true_and, Bool.false_and, Bool.and_true, Bool.and_false, Bool.or_false, Bool.or_true, Bool.true_or, Bool.false_or, Bool.not_true, Bool.not_false, true_implies, false_implies, true_and, and_true, Int.reduceToNat, hr] <;> and_intros <;> first | (apply hK1; clear hK1 K1) | (intros; first | omega | decide) | skip)) | (refine awp_cond (t := _) rfl (fun hq => ?_) (fun hq => ?_) <;> first | (exact absurd hq (by decide)) | (cases hq; done) | (clear hq)) | (refine awp_un 8 ?_) | (with_reducible exact rfl) | (with_reducible exact trivial) | ((with_reducible show uside _); first | exact True.intro | exact rfl) | ((with_reducible show opS _ _); exact True.intro) | (refine ⟨AV.v (.bool true), rfl, hK1 _ ?_⟩; clear hK1 K1) | (refine (ht).mono ?_; rintro _ hz ⟨rfl, hh⟩; (first | (refine hK1 _ ?_) | (refine ⟨rfl, hK1 _ ?_⟩)); clear hK1 K1; rw [hh]; clear hh hz)))
 simp only [Tryz.results217, go_sem, ↓reduceIte, reduceCtorEq, nA, nB, nC, nD, nE, nF]
 exact ⟨_, _, Weak.refl _, Hp.le.refl _, rfl, rfl⟩
theorem c_isRow (r : Nat) (kd tx w : ByteArray) (a e : Int) (b : Bool) (h : Hp) (hr : h.H r = some (.cells (crC kd tx a e))) (hk : (kd == sRow) = b) (ht : (tx == w) = false) :
  ACalls Tryz.prog 254 [.ptr r 0, .v (.string w)] h (fun x h' => x = .v (.bool false) ∧ h' = h) := by
 unfold crC vS vI vB nl at *
 unfold sRow at hk
 cases b with
 | true =>
  refine gE Tryz.func254 rfl (by kernel_rfl) 25 rfl fun c => ?_
  (repeat (first | refine gO rfl ?_ | (refine gR fun K1 hK1 => ?_; simp only [go_sem, ↓reduceIte, reduceCtorEq, nA, nB, nC, nD, nE, nF, Int.reduceBEq, Int.reduceTMod, Int.reduceTDiv, Int.reduceMul, Int.reduceBNe, Int.reduceLT, Int.reduceLE, Int.reduceAdd, Int.reduceSub, Int.reduceNeg, decide_true, decide_false, Bool.true_and, Bool.false_and, Bool.and_true, Bool.and_false, Bool.or_false, Bool.or_true, Bool.true_or, Bool.false_or, Bool.not_true, Bool.not_false, true_implies, false_implies, true_and, and_true, Int.reduceToNat, hr, hk, ht] <;> and_intros <;> first | (apply hK1; clear hK1 K1) | (intros; first | omega | decide) | skip) | (refine awp_cond (t := _) rfl (fun hq => ?_) (fun hq => ?_) <;> first | (exact absurd hq (by decide)) | (cases hq; done) | (clear hq)) | (refine awp_un 8 ?_) | (with_reducible exact rfl) | (with_reducible exact trivial) | ((with_reducible show uside _); first | exact True.intro | exact rfl) | ((with_reducible show opS _ _); exact True.intro) | (refine ⟨AV.v (.bool true), rfl, hK1 _ ?_⟩; clear hK1 K1)))
  simp only [Tryz.results254, go_sem, ↓reduceIte, reduceCtorEq, nA, nB, nC, nD, nE, nF]
  exact ⟨_, _, Weak.refl _, Hp.le.refl _, rfl, rfl⟩
 | false =>
  refine gE Tryz.func254 rfl (by kernel_rfl) 25 rfl fun c => ?_
  (repeat (first | refine gO rfl ?_ | (refine gR fun K1 hK1 => ?_; simp only [go_sem, ↓reduceIte, reduceCtorEq, nA, nB, nC, nD, nE, nF, Int.reduceBEq, Int.reduceTMod, Int.reduceTDiv, Int.reduceMul, Int.reduceBNe, Int.reduceLT, Int.reduceLE, Int.reduceAdd, Int.reduceSub, Int.reduceNeg, decide_true, decide_false, Bool.true_and, Bool.false_and, Bool.and_true, Bool.and_false, Bool.or_false, Bool.or_true, Bool.true_or, Bool.false_or, Bool.not_true, Bool.not_false, true_implies, false_implies, true_and, and_true, Int.reduceToNat, hr, hk, ht] <;> and_intros <;> first | (apply hK1; clear hK1 K1) | (intros; first | omega | decide) | skip) | (refine awp_cond (t := _) rfl (fun hq => ?_) (fun hq => ?_) <;> first | (exact absurd hq (by decide)) | (cases hq; done) | (clear hq)) | (refine awp_un 8 ?_) | (with_reducible exact rfl) | (with_reducible exact trivial) | ((with_reducible show uside _); first | exact True.intro | exact rfl) | ((with_reducible show opS _ _); exact True.intro) | (refine ⟨AV.v (.bool true), rfl, hK1 _ ?_⟩; clear hK1 K1)))
  simp only [Tryz.results254, go_sem, ↓reduceIte, reduceCtorEq, nA, nB, nC, nD, nE, nF]
  exact ⟨_, _, Weak.refl _, Hp.le.refl _, rfl, rfl⟩
theorem c_ixSign (h : Hp) : ACalls Tryz.prog 222 [.row 1 [[.v (.string ⟨#[61, 61]⟩)], [.v (.string ⟨#[33, 61]⟩)], [.v (.string ⟨#[60]⟩)], [.v (.string ⟨#[60, 61]⟩)], [.v (.string ⟨#[62]⟩)], [.v (.string ⟨#[62, 61]⟩)]] none, .v (.string sG)] h (fun r h' => r = .v (.int .i64 4) ∧ h' = h) := by
 have e1 : (sG == ⟨#[61, 61]⟩) = false := by decide
 have e2 : (sG == ⟨#[33, 61]⟩) = false := by decide
 have e3 : (sG == ⟨#[60]⟩) = false := by decide
 have e4 : (sG == ⟨#[60, 61]⟩) = false := by decide
 have e5 : (sG == ⟨#[62]⟩) = true := by decide
 refine gE Tryz.func222 rfl (by kernel_rfl) 17 rfl fun c => ?_
 (repeat (first | refine gO rfl ?_ | (refine gR fun K1 hK1 => ?_; simp only [go_sem, ↓reduceIte, reduceCtorEq, nA, nB, nC, nD, nE, nF, Int.reduceBEq, Int.reduceTMod, Int.reduceTDiv, Int.reduceMul, Int.reduceBNe, Int.reduceLT, Int.reduceLE, Int.reduceAdd, Int.reduceSub, Int.reduceNeg, decide_true, decide_false, Bool.true_and, Bool.false_and, Bool.and_true, Bool.and_false, Bool.or_false, Bool.or_true, Bool.true_or, Bool.false_or, Bool.not_true, Bool.not_false, true_implies, false_implies, true_and, and_true, Int.reduceToNat, e1, e2, e3, e4, e5] <;> and_intros <;> first | (apply hK1; clear hK1 K1) | (intros; first | omega | decide) | skip) | (refine awp_cond (t := _) rfl (fun hq => ?_) (fun hq => ?_) <;> first | (exact absurd hq (by decide)) | (cases hq; done) | (clear hq)) | (refine awp_un 8 ?_) | (with_reducible exact rfl) | (with_reducible exact trivial) | ((with_reducible show uside _); first | exact True.intro | exact rfl) | ((with_reducible show opS _ _); exact True.intro) | (refine ⟨AV.v (.bool true), rfl, hK1 _ ?_⟩; clear hK1 K1)))
 simp only [Tryz.results222, go_sem, ↓reduceIte, reduceCtorEq, nA, nB, nC, nD, nE, nF]
 exact ⟨_, _, Weak.refl _, Hp.le.refl _, rfl, rfl⟩
theorem c_hasSign (h : Hp) : ACalls Tryz.prog 198 [.row 1 [[.v (.string ⟨#[61, 61]⟩)], [.v (.string ⟨#[33, 61]⟩)], [.v (.string ⟨#[60]⟩)], [.v (.string ⟨#[60, 61]⟩)], [.v (.string ⟨#[62]⟩)], [.v (.string ⟨#[62, 61]⟩)]] none, .v (.string sG)] h (fun r h' => r = .v (.bool true) ∧ h' = h) := by
 have h1 := fun h => c_ixSign h
 refine gE Tryz.func198 rfl (by kernel_rfl) 7 rfl fun c => ?_
 (repeat (first | refine gO rfl ?_ | (refine gR fun K1 hK1 => ?_; simp only [go_sem, ↓reduceIte, reduceCtorEq, nA, nB, nC, nD, nE, nF, Int.reduceBEq, Int.reduceTMod, Int.reduceTDiv, Int.reduceMul, Int.reduceBNe, Int.reduceLT, Int.reduceLE, Int.reduceAdd, Int.reduceSub, Int.reduceNeg, decide_true, decide_false, Bool.true_and, Bool.false_and, Bool.and_true, Bool.and_false, Bool.or_false, Bool.or_true, Bool.true_or, Bool.false_or, Bool.not_true, Bool.not_false, true_implies, false_implies, true_and, and_true, Int.reduceToNat] <;> and_intros <;> first | (apply hK1; clear hK1 K1) | (intros; first | omega | decide) | skip) | (refine awp_cond (t := _) rfl (fun hq => ?_) (fun hq => ?_) <;> first | (exact absurd hq (by decide)) | (cases hq; done) | (clear hq)) | (refine awp_un 8 ?_) | (with_reducible exact rfl) | (with_reducible exact trivial) | ((with_reducible show uside _); first | exact True.intro | exact rfl) | ((with_reducible show opS _ _); exact True.intro) | (refine ⟨AV.v (.bool true), rfl, hK1 _ ?_⟩; clear hK1 K1) | (refine (h1 _).mono ?_; rintro _ hz ⟨rfl, hh⟩; (first | (refine hK1 _ ?_) | (refine ⟨rfl, hK1 _ ?_⟩)); clear hK1 K1; rw [hh]; clear hh hz)))
 simp only [Tryz.results198, go_sem, ↓reduceIte, reduceCtorEq, nA, nB, nC, nD, nE, nF]
 exact ⟨_, _, Weak.refl _, Hp.le.refl _, rfl, rfl⟩
theorem c_isSign (h : Hp) : ACalls Tryz.prog 270 [.v (.string sG)] h (fun r h' => r = .v (.bool true) ∧ h' = h) := by
 have h1 := fun h => c_hasSign h
 refine gE Tryz.func270 rfl (by kernel_rfl) 5 rfl fun c => ?_
 (repeat (first | refine gO rfl ?_ | (refine gR fun K1 hK1 => ?_; simp only [go_sem, ↓reduceIte, reduceCtorEq, nA, nB, nC, nD, nE, nF, Int.reduceBEq, Int.reduceTMod, Int.reduceTDiv, Int.reduceMul, Int.reduceBNe, Int.reduceLT, Int.reduceLE, Int.reduceAdd, Int.reduceSub, Int.reduceNeg, decide_true, decide_false, Bool.true_and, Bool.false_and, Bool.and_true, Bool.and_false, Bool.or_false, Bool.or_true, Bool.true_or, Bool.false_or, Bool.not_true, Bool.not_false, true_implies, false_implies, true_and, and_true, Int.reduceToNat] <;> and_intros <;> first | (apply hK1; clear hK1 K1) | (intros; first | omega | decide) | skip) | (refine awp_cond (t := _) rfl (fun hq => ?_) (fun hq => ?_) <;> first | (exact absurd hq (by decide)) | (cases hq; done) | (clear hq)) | (refine awp_un 8 ?_) | (with_reducible exact rfl) | (with_reducible exact trivial) | ((with_reducible show uside _); first | exact True.intro | exact rfl) | ((with_reducible show opS _ _); exact True.intro) | (refine ⟨AV.v (.bool true), rfl, hK1 _ ?_⟩; clear hK1 K1) | (refine (h1 _).mono ?_; rintro _ hz ⟨rfl, hh⟩; (first | (refine hK1 _ ?_) | (refine ⟨rfl, hK1 _ ?_⟩)); clear hK1 K1; rw [hh]; clear hh hz)))
 simp only [Tryz.results270, go_sem, ↓reduceIte, reduceCtorEq, nA, nB, nC, nD, nE, nF]
 exact ⟨_, _, Weak.refl _, Hp.le.refl _, rfl, rfl⟩
theorem c_index3 (h : Hp) : ACalls Tryz.prog 101 [.v (.string s3), .v (.string ⟨#[46]⟩)] h (fun r h' => r = .v (.int .i64 (-1)) ∧ h' = h) :=
 acalls_pure (by kernel_rfl) [.string s3, .string ⟨#[46]⟩] rfl (fun w => (Tryz.stringslite_Index_one s3 46 w).mono fun e w' ⟨h1, h2⟩ => ⟨by rw [h1]; rfl, by rw [h2]; exact bel_id w⟩) h
theorem c_cutL3 (h : Hp) : ACalls Tryz.prog 242 [.v (.string s3), .v (.string ⟨#[46]⟩)] h (fun r h' => r = .tup [.v (.string s3), .v (.string ⟨#[]⟩), .v (.bool false)] ∧ h' = h) := by
 have h1 := fun h => c_index3 h
 refine gE Tryz.func242 rfl (by kernel_rfl) 21 rfl fun c => ?_
 (repeat (first | refine gO rfl ?_ | ((first | refine gR ?_ | (with_reducible refine wM ?_ ?_) | ((with_reducible refine xS ?_); refine uD 3 zM30 zP1JE zP1JP 23 rfl (by kernel_rfl) ?_)) <;> ((try with_reducible intro K1 hK1); simp only [go_sem, ↓reduceIte, reduceCtorEq, nA, nB, nC, nD, nE, nF, Int.reduceBEq, Int.reduceTMod, Int.reduceTDiv, Int.reduceMul, Int.reduceBNe, Int.reduceLT, Int.reduceLE, Int.reduceAdd, Int.reduceSub, Int.reduceNeg, decide_true, decide_false, Bool.true_and, Bool.false_and, Bool.and_true, Bool.and_false, Bool.or_false, Bool.or_true, Bool.true_or, Bool.false_or, Bool.not_true, Bool.not_false, true_implies, false_implies, true_and, and_true, Int.reduceToNat] <;> and_intros <;> first | (apply hK1; clear hK1 K1) | (intros; first | omega | decide) | skip)) | (refine awp_cond (t := _) rfl (fun hq => ?_) (fun hq => ?_) <;> first | (exact absurd hq (by decide)) | (cases hq; done) | (clear hq)) | (refine awp_un 8 ?_) | (with_reducible exact rfl) | (with_reducible exact trivial) | ((with_reducible show uside _); first | exact True.intro | exact rfl) | ((with_reducible show opS _ _); exact True.intro) | (refine ⟨AV.v (.bool true), rfl, hK1 _ ?_⟩; clear hK1 K1) | (refine (h1 _).mono ?_; rintro _ hz ⟨rfl, hh⟩; (first | (refine hK1 _ ?_) | (refine ⟨rfl, hK1 _ ?_⟩)); clear hK1 K1; rw [hh]; clear hh hz)))
 simp only [Tryz.results242, go_sem, ↓reduceIte, reduceCtorEq, nA, nB, nC, nD, nE, nF]
 exact ⟨_, _, Weak.refl _, Hp.le.refl _, rfl, rfl⟩
theorem c_cut3 (h : Hp) : ACalls Tryz.prog 220 [.v (.string s3), .v (.string ⟨#[46]⟩)] h (fun r h' => r = .tup [.v (.string s3), .v (.string ⟨#[]⟩), .v (.bool false)] ∧ h' = h) := by
 have h1 := fun h => c_cutL3 h
 refine gE Tryz.func220 rfl (by kernel_rfl) 11 rfl fun c => ?_
 (repeat (first | refine gO rfl ?_ | (refine gR fun K1 hK1 => ?_; simp only [go_sem, ↓reduceIte, reduceCtorEq, nA, nB, nC, nD, nE, nF, Int.reduceBEq, Int.reduceTMod, Int.reduceTDiv, Int.reduceMul, Int.reduceBNe, Int.reduceLT, Int.reduceLE, Int.reduceAdd, Int.reduceSub, Int.reduceNeg, decide_true, decide_false, Bool.true_and, Bool.false_and, Bool.and_true, Bool.and_false, Bool.or_false, Bool.or_true, Bool.true_or, Bool.false_or, Bool.not_true, Bool.not_false, true_implies, false_implies, true_and, and_true, Int.reduceToNat] <;> and_intros <;> first | (apply hK1; clear hK1 K1) | (intros; first | omega | decide) | skip) | (refine awp_cond (t := _) rfl (fun hq => ?_) (fun hq => ?_) <;> first | (exact absurd hq (by decide)) | (cases hq; done) | (clear hq)) | (refine awp_un 8 ?_) | (with_reducible exact rfl) | (with_reducible exact trivial) | ((with_reducible show uside _); first | exact True.intro | exact rfl) | ((with_reducible show opS _ _); exact True.intro) | (refine ⟨AV.v (.bool true), rfl, hK1 _ ?_⟩; clear hK1 K1) | (refine (h1 _).mono ?_; rintro _ hz ⟨rfl, hh⟩; (first | (refine hK1 _ ?_) | (refine ⟨rfl, hK1 _ ?_⟩)); clear hK1 K1; rw [hh]; clear hh hz)))
 simp only [Tryz.results220, go_sem, ↓reduceIte, reduceCtorEq, nA, nB, nC, nD, nE, nF]
 exact ⟨_, _, Weak.refl _, Hp.le.refl _, rfl, rfl⟩
theorem c_isName3 (h : Hp) : ACalls Tryz.prog 139 [.v (.string s3)] h (fun x h' => x = .v (.bool false) ∧ h' = h) := by
 have h2 := fun h => a_isKey s3 (by decide) h
 rw [show keyB s3 = false by decide] at h2
 refine gE Tryz.func139 rfl (by kernel_rfl) 9 rfl fun c => ?_
 (repeat (first | refine gO rfl ?_ | (refine gR fun K1 hK1 => ?_; simp only [go_sem, ↓reduceIte, reduceCtorEq, nA, nB, nC, nD, nE, nF, Int.reduceBEq, Int.reduceTMod, Int.reduceTDiv, Int.reduceMul, Int.reduceBNe, Int.reduceLT, Int.reduceLE, Int.reduceAdd, Int.reduceSub, Int.reduceNeg, decide_true, decide_false, Bool.true_and, Bool.false_and, Bool.and_true, Bool.and_false, Bool.or_false, Bool.or_true, Bool.true_or, Bool.false_or, Bool.not_true, Bool.not_false, true_implies, false_implies, true_and, and_true, Int.reduceToNat] <;> and_intros <;> first | (apply hK1; clear hK1 K1) | (intros; first | omega | decide) | skip) | (refine awp_cond (t := _) rfl (fun hq => ?_) (fun hq => ?_) <;> first | (exact absurd hq (by decide)) | (cases hq; done) | (clear hq)) | (refine awp_un 8 ?_) | (with_reducible exact rfl) | (with_reducible exact trivial) | ((with_reducible show uside _); first | exact True.intro | exact rfl) | ((with_reducible show opS _ _); exact True.intro) | (refine ⟨AV.v (.bool true), rfl, hK1 _ ?_⟩; clear hK1 K1) | (refine (h2 _).mono ?_; rintro _ hz ⟨rfl, hh⟩; (first | (refine hK1 _ ?_) | (refine ⟨rfl, hK1 _ ?_⟩)); clear hK1 K1; rw [hh]; clear hh hz)))
 simp only [Tryz.results139, go_sem, ↓reduceIte, reduceCtorEq, nA, nB, nC, nD, nE, nF]
 exact ⟨_, _, Weak.refl _, Hp.le.refl _, rfl, rfl⟩
theorem c_refOf3 (h : Hp) : ACalls Tryz.prog 196 [.v (.string s3), nl] h (fun x h' => x = .tup [.agg [vS s0, vS s3], .v (.bool false)] ∧ h' = h) := by
 have h1 := fun h => c_cut3 h
 have h2 := fun h => c_isName3 h
 have h3 := fun s h => c_hasNil s h
 unfold nl vS s0 at *
 refine gE Tryz.func196 rfl (by kernel_rfl) 35 rfl fun c => ?_
 (repeat (first | refine gO rfl ?_ | (refine gM zM36 fun K1 hK1 => ?_; simp only [go_sem, ↓reduceIte, reduceCtorEq, nA, nB, nC, nD, nE, nF, Int.reduceBEq, Int.reduceTMod, Int.reduceTDiv, Int.reduceMul, Int.reduceBNe, Int.reduceLT, Int.reduceLE, Int.reduceAdd, Int.reduceSub, Int.reduceNeg, decide_true, decide_false, Bool.true_and, Bool.false_and, Bool.and_true, Bool.and_false, Bool.or_false, Bool.or_true, Bool.true_or, Bool.false_or, Bool.not_true, Bool.not_false, true_implies, false_implies, true_and, and_true, Int.reduceToNat] <;> and_intros <;> first | (apply hK1; clear hK1 K1) | (intros; first | omega | decide) | skip) | (refine awp_cond (t := _) rfl (fun hq => ?_) (fun hq => ?_) <;> first | (exact absurd hq (by decide)) | (cases hq; done) | (clear hq)) | (refine awp_un 8 ?_) | (with_reducible exact rfl) | (with_reducible exact trivial) | ((with_reducible show uside _); first | exact True.intro | exact rfl) | ((with_reducible show opS _ _); exact True.intro) | (refine ⟨AV.v (.bool true), rfl, hK1 _ ?_⟩; clear hK1 K1) | (refine (h1 _).mono ?_; rintro _ hz ⟨rfl, hh⟩; (first | (refine hK1 _ ?_) | (refine ⟨rfl, hK1 _ ?_⟩)); clear hK1 K1; rw [hh]; clear hh hz) | (refine (h2 _).mono ?_; rintro _ hz ⟨rfl, hh⟩; (first | (refine hK1 _ ?_) | (refine ⟨rfl, hK1 _ ?_⟩)); clear hK1 K1; rw [hh]; clear hh hz) | (refine (h3 _ _).mono ?_; rintro _ hz ⟨rfl, hh⟩; (first | (refine hK1 _ ?_) | (refine ⟨rfl, hK1 _ ?_⟩)); clear hK1 K1; rw [hh]; clear hh hz)))
 intro p hp
 refine hK1 _ ?_; clear hK1 K1
 (repeat (first | refine gO rfl ?_ | (refine gM zM36 fun K1 hK1 => ?_; simp only [go_sem, ↓reduceIte, reduceCtorEq, nA, nB, nC, nD, nE, nF, Int.reduceBEq, Int.reduceTMod, Int.reduceTDiv, Int.reduceMul, Int.reduceBNe, Int.reduceLT, Int.reduceLE, Int.reduceAdd, Int.reduceSub, Int.reduceNeg, decide_true, decide_false, Bool.true_and, Bool.false_and, Bool.and_true, Bool.and_false, Bool.or_false, Bool.or_true, Bool.true_or, Bool.false_or, Bool.not_true, Bool.not_false, true_implies, false_implies, true_and, and_true, Int.reduceToNat] <;> and_intros <;> first | (apply hK1; clear hK1 K1) | (intros; first | omega | decide) | skip) | (refine awp_cond (t := _) rfl (fun hq => ?_) (fun hq => ?_) <;> first | (exact absurd hq (by decide)) | (cases hq; done) | (clear hq)) | (refine awp_un 8 ?_) | (with_reducible exact rfl) | (with_reducible exact trivial) | ((with_reducible show uside _); first | exact True.intro | exact rfl) | ((with_reducible show opS _ _); exact True.intro) | (refine ⟨AV.v (.bool true), rfl, hK1 _ ?_⟩; clear hK1 K1) | (refine (h1 _).mono ?_; rintro _ hz ⟨rfl, hh⟩; (first | (refine hK1 _ ?_) | (refine ⟨rfl, hK1 _ ?_⟩)); clear hK1 K1; rw [hh]; clear hh hz) | (refine (h2 _).mono ?_; rintro _ hz ⟨rfl, hh⟩; (first | (refine hK1 _ ?_) | (refine ⟨rfl, hK1 _ ?_⟩)); clear hK1 K1; rw [hh]; clear hh hz) | (refine (h3 _ _).mono ?_; rintro _ hz ⟨rfl, hh⟩; (first | (refine hK1 _ ?_) | (refine ⟨rfl, hK1 _ ?_⟩)); clear hK1 K1; rw [hh]; clear hh hz)))
 simp only [Tryz.results196, go_sem, ↓reduceIte, reduceCtorEq, nA, nB, nC, nD, nE, nF]
 exact ⟨_, h, Weak.refl _, hle_obj hp, rfl, rfl⟩
abbrev zP1KE : List Nat := [0, 1, 2, 3, 4, 5, 6, 7, 8]
abbrev zP1KP : List (Nat × List Nat × List Nat) := [(9, [], [10, 11, 12]), (14, [], [15])]
abbrev zP1LE : List Nat := [0, 1, 2, 3, 4, 5, 6]
abbrev zP1LP : List (Nat × List Nat × List Nat) := [(8, [], [])]
abbrev zP1ME : List Nat := [0, 1, 2, 3, 4, 5, 6, 7, 8]
abbrev zP1MP : List (Nat × List Nat × List Nat) := [(9, [], [10, 11, 12]), (14, [], [15])]
attribute [go_sem] zP1KE zP1KP zP1LE zP1LP zP1ME zP1MP
open Go.RowKit in
theorem w_number3 (w : World) : Calls Tryz.prog 243 #[.string s3, .int .i64 10] w fun e w' => e = .returned (.tuple #[.int .i64 3, .bool true]) ∧ Below w.heap.size w w' := by
 have hb0 : s3.toList = [51] := by rw [Lib.toList_data]; rfl
 have hb1 : s3.toList.isEmpty = false := by rw [hb0]; rfl
 have hb2 : ¬ s3.toList = [] := by rw [hb0]; simp
 have mixed : Tryz.prog.follows .mixedOrders = true := by kernel_rfl
 have hz : s3.size = 1 := rfl
 have hx0 : (s3[0]'(by decide)).toNat = 51 := rfl
 have hx1 : ((s3[0]'(by decide)).toNat : Int) = 51 := rfl
 clear hb0
 have et : (⟨(Lib.trimPrefix s3.data.toList (⟨#[45]⟩ : ByteArray).data.toList).toArray⟩ : ByteArray) = s3 := rfl
 go_enter Tryz.func243, Tryz.ntmps243
 go_wp2_with fail
 refine (Tryz.strings_TrimPrefix s3 ⟨#[45]⟩ w).mono ?_
 rintro e w' ⟨rfl, hw⟩
 rw [hw, et]
 clear hw w'
 go_wp2_with fail
 go_loopg [7] 1 (fun g s7 wx => s7 = .int .i64 (1 - g : Int) ∧ wx = w ∧ g ≤ 1)
 case atStart => exact ⟨rfl, rfl, by omega⟩
 case round =>
  obtain ⟨rfl, rfl, hg⟩ := hrel
  cases gk with
  | zero =>
   go_wp2_with fail
   refine (Tryz.strconv_Atoi s3 3 (by decide) (by decide) _).mono ?_
   rintro e w' ⟨rfl, t, hw⟩
   have HB := Lib.hid (Lib.bytesWorld_below wr 5 t)
   rw [← hw] at HB
   clear hw
   go_wp2_with fail
   go_region_o
   all_goals (go_wp2_with fail; go_ret2; exact ⟨rfl, Below.drew HB.out⟩)
  | succ g =>
   obtain rfl : g = 0 := by omega
   go_wp2_with fail
   go_roundg 0
   case measure => omega
   case rel => exact ⟨rfl, rfl, by omega⟩
theorem c_number3 (h : Hp) : ACalls Tryz.prog 243 [.v (.string s3), .v (.int .i64 10)] h (fun r h' => r = .tup [.v (.int .i64 3), .v (.bool true)] ∧ h' = h) :=
 acalls_pureT (by kernel_rfl) [.string s3, .int .i64 10] [.int .i64 3, .bool true] (by simp [Value.oneCell']) (fun w => w_number3 w) h
def cdC : List AV := [vI 4, nl, vS s0, vS sN, vS sG, vI 2, vS s0, vI 3, vB false, vS s0, vS s0]
def endH (r : Nat) (h : Hp) : Hp := ⟨upd h.H r (some (.cells (crC sEnd s0 5 5))), h.T⟩
theorem c_test (r : Nat) (h : Hp) (hr : h.H r = some (.cells (crC sRow sN 0 1))) : ACalls Tryz.prog 263 [.ptr r 0] h (fun x h' => x = .agg cdC ∧ h' = endH r h) := by
 have r1 := fun h => c_refOf h
 have n1 := c_next r sRow sN sG s0 0 1 2 3 h hr (c_tok1 h)
 have i1 := fun h => c_isSign h
 have n2 := fun h hr => c_next r sG s0 sRow s3 2 3 4 5 h hr (c_tok3 h)
 have u1 := fun h => c_number3 h
 have r2 := fun h => c_refOf3 h
 have n3 := fun h hr => c_next r sRow s3 sEnd s0 4 5 5 5 h hr (c_tok5 h)
 have e1 : (sRow == ⟨#[114, 111, 119]⟩) = true := by decide
 have e2 : (sRow == ⟨#[119, 111, 114, 100, 115]⟩) = false := by decide
 have e3 : (s3 == ⟨#[116, 114, 117, 101]⟩) = false := by decide
 have e4 : (s3 == ⟨#[102, 97, 108, 115, 101]⟩) = false := by decide
 unfold endH cdC
 unfold crC vS vI vB nl s0 at *
 refine gE Tryz.func263 rfl (by kernel_rfl) 143 rfl fun c => ?_
 (repeat (first | refine gO rfl ?_ | ((first | refine gM zM37 ?_ | (with_reducible refine wM ?_ ?_) | ((with_reducible refine xS ?_); refine uF 1 zM37 13 zP1KE zP1KP 144 rfl (by kernel_rfl) ?_) | ((with_reducible refine xS ?_); refine uF 7 zM37 7 zP1LE zP1LP 144 rfl (by kernel_rfl) ?_) | ((with_reducible refine xS ?_); refine uF 10 zM37 13 zP1ME zP1MP 144 rfl (by kernel_rfl) ?_)) <;> ((try with_reducible intro K1 hK1); simp only [go_sem, ↓reduceIte, reduceCtorEq, nA, nB, nC, nD, nE, nF, Int.reduceBEq, Int.reduceTMod, Int.reduceTDiv, Int.reduceMul, Int.reduceBNe, Int.reduceLT, Int.reduceLE, Int.reduceAdd, Int.reduceSub, Int.reduceNeg, decide_true, decide_false, Bool.true_and, Bool.false_and, Bool.and_true, Bool.and_false, Bool.or_false, Bool.or_true, Bool.true_or, Bool.false_or, Bool.not_true, Bool.not_false, true_implies, false_implies, true_and, and_true, Int.reduceToNat, hr, e1, e2, e3, e4, upd_same, upd_upd] <;> and_intros <;> first | (apply hK1; clear hK1 K1) | (intros; first | omega | decide) | skip)) | (refine awp_cond (t := _) rfl (fun hq => ?_) (fun hq => ?_) <;> first | (exact absurd hq (by decide)) | (cases hq; done) | (clear hq)) | (refine awp_un 8 ?_) | (with_reducible exact rfl) | (with_reducible exact trivial) | ((with_reducible show uside _); first | exact True.intro | exact rfl) | ((with_reducible show opS _ _); exact True.intro) | (refine ⟨AV.v (.bool true), rfl, hK1 _ ?_⟩; clear hK1 K1) | (refine (r1 _).mono ?_; rintro _ hz ⟨rfl, hh⟩; (first | (refine hK1 _ ?_) | (refine ⟨rfl, hK1 _ ?_⟩)); clear hK1 K1; rw [hh]; clear hh hz) | (refine (n1).mono ?_; rintro _ hz ⟨rfl, hh⟩; (first | (refine hK1 _ ?_) | (refine ⟨rfl, hK1 _ ?_⟩)); clear hK1 K1; rw [hh]; clear hh hz) | (refine (i1 _).mono ?_; rintro _ hz ⟨rfl, hh⟩; (first | (refine hK1 _ ?_) | (refine ⟨rfl, hK1 _ ?_⟩)); clear hK1 K1; rw [hh]; clear hh hz) | (refine (n2 _ (upd_same _ _ _)).mono ?_; rintro _ hz ⟨rfl, hh⟩; (first | (refine hK1 _ ?_) | (refine ⟨rfl, hK1 _ ?_⟩)); clear hK1 K1; rw [hh]; clear hh hz) | (refine (u1 _).mono ?_; rintro _ hz ⟨rfl, hh⟩; (first | (refine hK1 _ ?_) | (refine ⟨rfl, hK1 _ ?_⟩)); clear hK1 K1; rw [hh]; clear hh hz) | (refine (r2 _).mono ?_; rintro _ hz ⟨rfl, hh⟩; (first | (refine hK1 _ ?_) | (refine ⟨rfl, hK1 _ ?_⟩)); clear hK1 K1; rw [hh]; clear hh hz) | (refine (n3 _ (upd_same _ _ _)).mono ?_; rintro _ hz ⟨rfl, hh⟩; (first | (refine hK1 _ ?_) | (refine ⟨rfl, hK1 _ ?_⟩)); clear hK1 K1; rw [hh]; clear hh hz)))
 simp only [Tryz.results263, go_sem, ↓reduceIte, reduceCtorEq, nA, nB, nC, nD, nE, nF]
 exact ⟨_, _, Weak.refl _, Hp.le.refl _, rfl, rfl⟩
abbrev zP1NE : List Nat := [0, 1, 2, 3, 4, 5, 6, 7, 8, 9, 10, 11, 12, 13]
abbrev zP1NP : List (Nat × List Nat × List Nat) := [(14, [4, 8, 12], [15, 16, 17])]
attribute [go_sem] zP1NE zP1NP
theorem c_not (r : Nat) (h : Hp) (hr : h.H r = some (.cells (crC sRow sN 0 1))) : ACalls Tryz.prog 255 ([.ptr r 0] ++ []) h (fun x h' => x = .agg cdC ∧ h' = endH r h) := by
 have i1 := c_isRow r sRow sN ⟨#[110, 111, 116]⟩ 0 1 true h hr (by decide) (by decide)
 have t1 := c_test r h hr
 have e1 : (sRow == ⟨#[40]⟩) = false := by decide
 unfold endH cdC at *
 unfold crC vS vI vB nl s0 at *
 refine gE Tryz.func255 rfl (by kernel_rfl) 52 rfl fun c => ?_
 (repeat (first | refine gO rfl ?_ | (refine gM zM38 fun K1 hK1 => ?_; simp only [go_sem, ↓reduceIte, reduceCtorEq, nA, nB, nC, nD, nE, nF, Int.reduceBEq, Int.reduceTMod, Int.reduceTDiv, Int.reduceMul, Int.reduceBNe, Int.reduceLT, Int.reduceLE, Int.reduceAdd, Int.reduceSub, Int.reduceNeg, decide_true, decide_false, Bool.true_and, Bool.false_and, Bool.and_true, Bool.and_false, Bool.or_false, Bool.or_true, Bool.true_or, Bool.false_or, Bool.not_true, Bool.not_false, true_implies, false_implies, true_and, and_true, Int.reduceToNat, hr, e1] <;> and_intros <;> first | (apply hK1; clear hK1 K1) | (intros; first | omega | decide) | skip) | (refine awp_cond (t := _) rfl (fun hq => ?_) (fun hq => ?_) <;> first | (exact absurd hq (by decide)) | (cases hq; done) | (clear hq)) | (refine awp_un 8 ?_) | (with_reducible exact rfl) | (with_reducible exact trivial) | ((with_reducible show uside _); first | exact True.intro | exact rfl) | ((with_reducible show opS _ _); exact True.intro) | (refine ⟨AV.v (.bool true), rfl, hK1 _ ?_⟩; clear hK1 K1) | (refine (i1).mono ?_; rintro _ hz ⟨rfl, hh⟩; (first | (refine hK1 _ ?_) | (refine ⟨rfl, hK1 _ ?_⟩)); clear hK1 K1; rw [hh]; clear hh hz) | (refine (t1).mono ?_; rintro _ hz ⟨rfl, hh⟩; (first | (refine hK1 _ ?_) | (refine ⟨rfl, hK1 _ ?_⟩)); clear hK1 K1; rw [hh]; clear hh hz)))
 simp only [Tryz.results255, go_sem, ↓reduceIte, reduceCtorEq, nA, nB, nC, nD, nE, nF]
 exact ⟨_, _, Weak.refl _, Hp.le.refl _, rfl, rfl⟩
theorem c_sev (f : Nat) (k : Int) (w : ByteArray) (r : Nat) (h : Hp) (hw : (s0 == w) = false) (hf : ACalls Tryz.prog f ([.ptr r 0] ++ []) h (fun x h' => x = .agg cdC ∧ h' = endH r h)) :
  ACalls Tryz.prog 240 [.ptr r 0, .v (.int .i64 k), .v (.string w), .bfn f [.ptr r 0]] h (fun x h' => x = .agg cdC ∧ h' = endH r h) := by
 have i1 := c_isRow r sEnd s0 w 5 5 false (endH r h) (upd_same _ _ _) (by decide) hw
 unfold endH cdC at *
 unfold crC vS vI vB nl s0 at *
 refine gE Tryz.func240 rfl (by kernel_rfl) 41 rfl fun c => ?_
 (repeat (first | refine gO rfl ?_ | (refine gM zM39 fun K1 hK1 => ?_; simp only [go_sem, ↓reduceIte, reduceCtorEq, nA, nB, nC, nD, nE, nF, Int.reduceBEq, Int.reduceTMod, Int.reduceTDiv, Int.reduceMul, Int.reduceBNe, Int.reduceLT, Int.reduceLE, Int.reduceAdd, Int.reduceSub, Int.reduceNeg, decide_true, decide_false, Bool.true_and, Bool.false_and, Bool.and_true, Bool.and_false, Bool.or_false, Bool.or_true, Bool.true_or, Bool.false_or, Bool.not_true, Bool.not_false, true_implies, false_implies, true_and, and_true, Int.reduceToNat] <;> and_intros <;> first | (apply hK1; clear hK1 K1) | (intros; first | omega | decide) | skip) | (refine awp_cond (t := _) rfl (fun hq => ?_) (fun hq => ?_) <;> first | (exact absurd hq (by decide)) | (cases hq; done) | (clear hq)) | (refine awp_un 8 ?_) | (with_reducible exact rfl) | (with_reducible exact trivial) | ((with_reducible show uside _); first | exact True.intro | exact rfl) | ((with_reducible show opS _ _); exact True.intro) | (refine ⟨AV.v (.bool true), rfl, hK1 _ ?_⟩; clear hK1 K1) | (refine (hf).mono ?_; rintro _ hz ⟨rfl, hh⟩; (first | (refine hK1 _ ?_) | (refine ⟨rfl, hK1 _ ?_⟩)); clear hK1 K1; rw [hh]; clear hh hz) | (refine (i1).mono ?_; rintro _ hz ⟨rfl, hh⟩; (first | (refine hK1 _ ?_) | (refine ⟨rfl, hK1 _ ?_⟩)); clear hK1 K1; rw [hh]; clear hh hz)))
 simp only [Tryz.results240, go_sem, ↓reduceIte, reduceCtorEq, nA, nB, nC, nD, nE, nF]
 exact ⟨_, _, Weak.refl _, Hp.le.refl _, rfl, rfl⟩
theorem c_and (r : Nat) (h : Hp) (hr : h.H r = some (.cells (crC sRow sN 0 1))) : ACalls Tryz.prog 241 ([.ptr r 0] ++ []) h (fun x h' => x = .agg cdC ∧ h' = endH r h) := by
 have t1 := c_sev 255 1 ⟨#[97, 110, 100]⟩ r h (by decide) (c_not r h hr)
 unfold endH cdC at *
 unfold crC vS vI vB nl s0 at *
 refine gE Tryz.func241 rfl (by kernel_rfl) 6 rfl fun c => ?_
 (repeat (first | refine gO rfl ?_ | (refine gM zM3A fun K1 hK1 => ?_; simp only [go_sem, ↓reduceIte, reduceCtorEq, nA, nB, nC, nD, nE, nF, Int.reduceBEq, Int.reduceTMod, Int.reduceTDiv, Int.reduceMul, Int.reduceBNe, Int.reduceLT, Int.reduceLE, Int.reduceAdd, Int.reduceSub, Int.reduceNeg, decide_true, decide_false, Bool.true_and, Bool.false_and, Bool.and_true, Bool.and_false, Bool.or_false, Bool.or_true, Bool.true_or, Bool.false_or, Bool.not_true, Bool.not_false, true_implies, false_implies, true_and, and_true, Int.reduceToNat] <;> and_intros <;> first | (apply hK1; clear hK1 K1) | (intros; first | omega | decide) | skip) | (refine awp_cond (t := _) rfl (fun hq => ?_) (fun hq => ?_) <;> first | (exact absurd hq (by decide)) | (cases hq; done) | (clear hq)) | (refine awp_un 8 ?_) | (with_reducible exact rfl) | (with_reducible exact trivial) | ((with_reducible show uside _); first | exact True.intro | exact rfl) | ((with_reducible show opS _ _); exact True.intro) | (refine ⟨AV.v (.bool true), rfl, hK1 _ ?_⟩; clear hK1 K1) | (refine (t1).mono ?_; rintro _ hz ⟨rfl, hh⟩; (first | (refine hK1 _ ?_) | (refine ⟨rfl, hK1 _ ?_⟩)); clear hK1 K1; rw [hh]; clear hh hz)))
 simp only [Tryz.results241, go_sem, ↓reduceIte, reduceCtorEq, nA, nB, nC, nD, nE, nF]
 exact ⟨_, _, Weak.refl _, Hp.le.refl _, rfl, rfl⟩
theorem c_or (r : Nat) (h : Hp) (hr : h.H r = some (.cells (crC sRow sN 0 1))) : ACalls Tryz.prog 218 [.ptr r 0] h (fun x h' => x = .agg cdC ∧ h' = endH r h) := by
 have t1 := c_sev 241 0 ⟨#[111, 114]⟩ r h (by decide) (c_and r h hr)
 unfold endH cdC at *
 unfold crC vS vI vB nl s0 at *
 refine gE Tryz.func218 rfl (by kernel_rfl) 6 rfl fun c => ?_
 (repeat (first | refine gO rfl ?_ | (refine gM zM3A fun K1 hK1 => ?_; simp only [go_sem, ↓reduceIte, reduceCtorEq, nA, nB, nC, nD, nE, nF, Int.reduceBEq, Int.reduceTMod, Int.reduceTDiv, Int.reduceMul, Int.reduceBNe, Int.reduceLT, Int.reduceLE, Int.reduceAdd, Int.reduceSub, Int.reduceNeg, decide_true, decide_false, Bool.true_and, Bool.false_and, Bool.and_true, Bool.and_false, Bool.or_false, Bool.or_true, Bool.true_or, Bool.false_or, Bool.not_true, Bool.not_false, true_implies, false_implies, true_and, and_true, Int.reduceToNat] <;> and_intros <;> first | (apply hK1; clear hK1 K1) | (intros; first | omega | decide) | skip) | (refine awp_cond (t := _) rfl (fun hq => ?_) (fun hq => ?_) <;> first | (exact absurd hq (by decide)) | (cases hq; done) | (clear hq)) | (refine awp_un 8 ?_) | (with_reducible exact rfl) | (with_reducible exact trivial) | ((with_reducible show uside _); first | exact True.intro | exact rfl) | ((with_reducible show opS _ _); exact True.intro) | (refine ⟨AV.v (.bool true), rfl, hK1 _ ?_⟩; clear hK1 K1) | (refine (t1).mono ?_; rintro _ hz ⟨rfl, hh⟩; (first | (refine hK1 _ ?_) | (refine ⟨rfl, hK1 _ ?_⟩)); clear hK1 K1; rw [hh]; clear hh hz)))
 simp only [Tryz.results218, go_sem, ↓reduceIte, reduceCtorEq, nA, nB, nC, nD, nE, nF]
 exact ⟨_, _, Weak.refl _, Hp.le.refl _, rfl, rfl⟩
theorem c_readCond (h : Hp) : ACalls Tryz.prog 192 [.v (.string sC), nl] h (fun x h' => x = .tup [.agg cdC, .v (.int .i64 0), .v (.int .i64 0), .v (.bool true)] ∧ h' = h) := by
 have n1 := fun r h hr => c_next r s0 s0 sRow sN 0 0 0 1 h hr (c_tok0 h)
 have o1 := fun r h hr => c_or r h hr
 have e1 : (sEnd == ⟨#[101, 110, 100]⟩) = true := by decide
 unfold endH cdC at *
 unfold crC vS vI vB nl s0 at *
 refine gE Tryz.func192 rfl (by kernel_rfl) 44 rfl fun c => ?_
 (repeat (first | refine gO rfl ?_ | ((first | refine gM zM3B ?_ | (with_reducible refine wM ?_ ?_) | ((with_reducible refine xS ?_); refine uD 6 zM3B zP1NE zP1NP 46 rfl (by kernel_rfl) ?_)) <;> ((try with_reducible intro K1 hK1); simp only [go_sem, ↓reduceIte, reduceCtorEq, nA, nB, nC, nD, nE, nF, Int.reduceBEq, Int.reduceTMod, Int.reduceTDiv, Int.reduceMul, Int.reduceBNe, Int.reduceLT, Int.reduceLE, Int.reduceAdd, Int.reduceSub, Int.reduceNeg, decide_true, decide_false, Bool.true_and, Bool.false_and, Bool.and_true, Bool.and_false, Bool.or_false, Bool.or_true, Bool.true_or, Bool.false_or, Bool.not_true, Bool.not_false, true_implies, false_implies, true_and, and_true, Int.reduceToNat, e1] <;> and_intros <;> first | (apply hK1; clear hK1 K1) | (intros; first | omega | decide) | skip)) | (refine awp_cond (t := _) rfl (fun hq => ?_) (fun hq => ?_) <;> first | (exact absurd hq (by decide)) | (cases hq; done) | (clear hq)) | (refine awp_un 8 ?_) | (with_reducible exact rfl) | (with_reducible exact trivial) | ((with_reducible show uside _); first | exact True.intro | exact rfl) | ((with_reducible show opS _ _); exact True.intro) | (refine ⟨AV.v (.bool true), rfl, hK1 _ ?_⟩; clear hK1 K1)))
 intro r hr
 refine hK1 _ ?_; clear hK1 K1
 (repeat (first | refine gO rfl ?_ | ((first | refine gM zM3B ?_ | (with_reducible refine wM ?_ ?_) | ((with_reducible refine xS ?_); refine uD 6 zM3B zP1NE zP1NP 46 rfl (by kernel_rfl) ?_)) <;> ((try with_reducible intro K1 hK1); simp only [go_sem, ↓reduceIte, reduceCtorEq, nA, nB, nC, nD, nE, nF, Int.reduceBEq, Int.reduceTMod, Int.reduceTDiv, Int.reduceMul, Int.reduceBNe, Int.reduceLT, Int.reduceLE, Int.reduceAdd, Int.reduceSub, Int.reduceNeg, decide_true, decide_false, Bool.true_and, Bool.false_and, Bool.and_true, Bool.and_false, Bool.or_false, Bool.or_true, Bool.true_or, Bool.false_or, Bool.not_true, Bool.not_false, true_implies, false_implies, true_and, and_true, Int.reduceToNat, e1, upd_same, upd_upd] <;> and_intros <;> first | (apply hK1; clear hK1 K1) | (intros; first | omega | decide) | skip)) | (refine awp_cond (t := _) rfl (fun hq => ?_) (fun hq => ?_) <;> first | (exact absurd hq (by decide)) | (cases hq; done) | (clear hq)) | (refine awp_un 8 ?_) | (with_reducible exact rfl) | (with_reducible exact trivial) | ((with_reducible show uside _); first | exact True.intro | exact rfl) | ((with_reducible show opS _ _); exact True.intro) | (refine ⟨AV.v (.bool true), rfl, hK1 _ ?_⟩; clear hK1 K1) | (refine (n1 r _ (upd_same _ _ _)).mono ?_; rintro _ hz ⟨rfl, hh⟩; (first | (refine hK1 _ ?_) | (refine ⟨rfl, hK1 _ ?_⟩)); clear hK1 K1; rw [hh]; clear hh hz) | (refine (o1 r _ (upd_same _ _ _)).mono ?_; rintro _ hz ⟨rfl, hh⟩; (first | (refine hK1 _ ?_) | (refine ⟨rfl, hK1 _ ?_⟩)); clear hK1 K1; rw [hh]; clear hh hz)))
 simp only [Tryz.results192, go_sem, ↓reduceIte, reduceCtorEq, nA, nB, nC, nD, nE, nF]
 exact ⟨_, h, Weak.refl _, hle_obj hr, rfl, rfl⟩
abbrev zP1OE : List Nat := [0, 1, 2, 3, 4, 5, 6, 7, 8, 9, 10, 11, 12]
abbrev zP1OP : List (Nat × List Nat × List Nat) := []
abbrev zP1PE : List Nat := [0, 2, 7, 8]
abbrev zP1PP : List (Nat × List Nat × List Nat) := [(1, [7], []), (3, [7], [4, 5, 6]), (9, [], [10, 11]), (12, [], [])]
attribute [go_sem] zP1OE zP1OP zP1PE zP1PP
def sB : ByteArray := ⟨#[123, 105, 102, 32, 110, 32, 62, 32, 51, 125, 43, 123, 110, 125, 123, 101, 108, 115, 101, 125, 45, 123, 101, 110, 100, 125]⟩
def sB10 : ByteArray := ⟨#[43, 123, 110, 125, 123, 101, 108, 115, 101, 125, 45, 123, 101, 110, 100, 125]⟩
def sB11 : ByteArray := ⟨#[123, 110, 125, 123, 101, 108, 115, 101, 125, 45, 123, 101, 110, 100, 125]⟩
def sB14 : ByteArray := ⟨#[123, 101, 108, 115, 101, 125, 45, 123, 101, 110, 100, 125]⟩
def sB20 : ByteArray := ⟨#[45, 123, 101, 110, 100, 125]⟩
def sB21 : ByteArray := ⟨#[123, 101, 110, 100, 125]⟩
def sIf : ByteArray := ⟨#[105, 102, 32, 110, 32, 62, 32, 51]⟩
def sElse : ByteArray := ⟨#[101, 108, 115, 101]⟩
def sPlus : ByteArray := ⟨#[43]⟩
def sMinus : ByteArray := ⟨#[45]⟩
theorem c_ixAny (s : ByteArray) (n : Int) (hs : Lib.indexAny s.data.toList [123, 125] = n) (h8 : s.size ≤ 1000) (ha : ∀ x ∈ s.data.toList, x.toNat < 128) (h : Hp) : ACalls Tryz.prog 136 [.v (.string s), .v (.string ⟨#[123, 125]⟩)] h (fun r h' => r = .v (.int .i64 n) ∧ h' = h) :=
 acalls_pure (by kernel_rfl) [.string s, .string ⟨#[123, 125]⟩] rfl (fun w => (Tryz.strings_IndexAny_laid s ⟨#[123, 125]⟩ w (by omega) (by decide) (fun j b hb => ha b (List.mem_of_getElem? hb)) (fun j b hb => by
  have hm : b ∈ [(123 : UInt8), 125] := List.mem_of_getElem? hb
  have hall : ∀ x ∈ [(123 : UInt8), 125], x.toNat < 128 := by decide
  exact hall b hm)).mono fun e w' ⟨h1, h2⟩ => ⟨by rw [h1]; show Ending.returned (.int .i64 (Lib.indexAny s.data.toList [123, 125])) = _; rw [hs], h2⟩) h
theorem c_ixByte (s : ByteArray) (n : Int) (hs : Lib.indexByte s.data.toList 125 = n) (h : Hp) : ACalls Tryz.prog 73 [.v (.string s), .v (.int .u8 125)] h (fun r h' => r = .v (.int .i64 n) ∧ h' = h) :=
 acalls_pure (by kernel_rfl) [.string s, .int .u8 125] rfl (fun w => (Tryz.strings_IndexByte s 125 w).mono fun e w' ⟨h1, h2⟩ => ⟨by rw [h1]; show Ending.returned (.int .i64 (Lib.indexByte s.data.toList 125)) = _; rw [hs], by rw [h2]; exact bel_id w⟩) h
theorem c_cutIf (s p x : ByteArray) (b : Bool) (hp : (⟨(Lib.trimPrefix s.data.toList p.data.toList).toArray⟩ : ByteArray) = x ∧ Lib.hasPrefix s.data.toList p.data.toList = b) (h : Hp) : ACalls Tryz.prog 162 [.v (.string s), .v (.string p)] h (fun r h' => r = .tup [.v (.string x), .v (.bool b)] ∧ h' = h) :=
 acalls_pureT (by kernel_rfl) [.string s, .string p] [.string x, .bool b] (by simp [Value.oneCell']) (fun w => (Tryz.strings_CutPrefix s p w).mono fun e w' ⟨h1, h2⟩ => ⟨by rw [h1, hp.1, hp.2], by rw [h2]; exact bel_id w⟩) h
def rdB (i : Int) (k n : Nat) : List AV := [vS sB, vI i, .arr 1 k n, vB false]
theorem c_top1 (r k b1 : Nat) (i : Int) (h : Hp) (hr : h.H r = some (.cells (rdB i k 1))) (hk : h.T k = some (.cont 1 [[.ptr b1 0]])) : ACalls Tryz.prog 159 [.ptr r 0] h (fun x h' => x = .ptr b1 0 ∧ h' = h) := by
 unfold rdB vS vI vB at hr
 refine gE Tryz.func159 rfl (by kernel_rfl) 14 rfl fun c => ?_
 (repeat (first | refine gO rfl ?_ | ((first | refine gR ?_ | (with_reducible refine wM ?_ ?_) | ((with_reducible refine xS ?_); refine uD 1 zM30 zP1OE zP1OP 15 rfl (by kernel_rfl) ?_)) <;> ((try with_reducible intro K1 hK1); simp only [go_sem, ↓reduceIte, reduceCtorEq, nA, nB, nC, nD, nE, nF, Int.reduceBEq, Int.reduceTMod, Int.reduceTDiv, Int.reduceMul, Int.reduceBNe, Int.reduceLT, Int.reduceLE, Int.reduceAdd, Int.reduceSub, Int.reduceNeg, decide_true, decide_false, Bool.true_and, Bool.false_and, Bool.and_true, Bool.and_false, Bool.or_false, Bool.or_true, Bool.true_or, Bool.false_or, Bool.not_true, Bool.not_false, true_implies, false_implies, true_and, and_true, Int.reduceToNat, hr, hk, nc1] <;> and_intros <;> first | (apply hK1; clear hK1 K1) | (intros; first | omega | decide) | skip)) | (refine awp_cond (t := _) rfl (fun hq => ?_) (fun hq => ?_) <;> first | (exact absurd hq (by decide)) | (cases hq; done) | (clear hq)) | (refine awp_un 8 ?_) | (with_reducible exact rfl) | (with_reducible exact trivial) | ((with_reducible show uside _); first | exact True.intro | exact rfl) | ((with_reducible show opS _ _); exact True.intro) | (refine ⟨AV.v (.bool true), rfl, hK1 _ ?_⟩; clear hK1 K1)))
 simp only [Tryz.results159, go_sem, ↓reduceIte, reduceCtorEq, nA, nB, nC, nD, nE, nF]
 exact ⟨_, _, Weak.refl _, Hp.le.refl _, rfl, rfl⟩
theorem nc2 : ((2 : Nat) : Int) = 2 := rfl
theorem c_top2 (r k b1 b2 : Nat) (i : Int) (h : Hp) (hr : h.H r = some (.cells (rdB i k 2))) (hk : h.T k = some (.cont 1 [[.ptr b1 0], [.ptr b2 0]])) : ACalls Tryz.prog 159 [.ptr r 0] h (fun x h' => x = .ptr b2 0 ∧ h' = h) := by
 unfold rdB vS vI vB at hr
 refine gE Tryz.func159 rfl (by kernel_rfl) 14 rfl fun c => ?_
 (repeat (first | refine gO rfl ?_ | ((first | refine gR ?_ | (with_reducible refine wM ?_ ?_) | ((with_reducible refine xS ?_); refine uD 1 zM30 zP1OE zP1OP 15 rfl (by kernel_rfl) ?_)) <;> ((try with_reducible intro K1 hK1); simp only [go_sem, ↓reduceIte, reduceCtorEq, nA, nB, nC, nD, nE, nF, Int.reduceBEq, Int.reduceTMod, Int.reduceTDiv, Int.reduceMul, Int.reduceBNe, Int.reduceLT, Int.reduceLE, Int.reduceAdd, Int.reduceSub, Int.reduceNeg, decide_true, decide_false, Bool.true_and, Bool.false_and, Bool.and_true, Bool.and_false, Bool.or_false, Bool.or_true, Bool.true_or, Bool.false_or, Bool.not_true, Bool.not_false, true_implies, false_implies, true_and, and_true, Int.reduceToNat, hr, hk, nc2] <;> and_intros <;> first | (apply hK1; clear hK1 K1) | (intros; first | omega | decide) | skip)) | (refine awp_cond (t := _) rfl (fun hq => ?_) (fun hq => ?_) <;> first | (exact absurd hq (by decide)) | (cases hq; done) | (clear hq)) | (refine awp_un 8 ?_) | (with_reducible exact rfl) | (with_reducible exact trivial) | ((with_reducible show uside _); first | exact True.intro | exact rfl) | ((with_reducible show opS _ _); exact True.intro) | (refine ⟨AV.v (.bool true), rfl, hK1 _ ?_⟩; clear hK1 K1)))
 simp only [Tryz.results159, go_sem, ↓reduceIte, reduceCtorEq, nA, nB, nC, nD, nE, nF]
 exact ⟨_, _, Weak.refl _, Hp.le.refl _, rfl, rfl⟩
theorem c_addNil (r b : Nat) (x0 x1 x2 x3 x4 x5 x6 x7 x8 x9 x10 x11 x12 x13 x14 x15 x16 x17 x18 els : AV) (n : List AV) (hn : n.length = 19) (h : Hp) (h1 : ACalls Tryz.prog 159 [.ptr r 0] h (fun x h' => x = .ptr b 0 ∧ h' = h)) (hb : h.H b = some (.cells [x0, x1, x2, x3, x4, x5, x6, x7, x8, x9, x10, x11, x12, x13, x14, x15, x16, x17, x18, nl, els])) :
  ACalls Tryz.prog 137 [.ptr r 0, .agg n] h (fun x h' => x = .tup [] ∧ ∃ k, h.T k = none ∧ h' = ⟨upd h.H b (some (.cells [x0, x1, x2, x3, x4, x5, x6, x7, x8, x9, x10, x11, x12, x13, x14, x15, x16, x17, x18, .row 19 [n] (some k), els])), upd h.T k (some (.tail 1))⟩) := by
 have ht : List.take 19 n = n := List.take_of_length_le (by omega)
 unfold nl at *
 refine gE Tryz.func137 rfl (by kernel_rfl) 14 rfl fun c => ?_
 (repeat (first | refine gO rfl ?_ | ((first | refine gR ?_ | (with_reducible refine wM ?_ ?_) | ((with_reducible refine xR ?_); refine uE 1 zM30 zP1PE zP1PP 16 rfl (by kernel_rfl) ?_)) <;> ((try with_reducible intro K1 hK1); simp only [go_sem, ↓reduceIte, reduceCtorEq, nA, nB, nC, nD, nE, nF, Int.reduceBEq, Int.reduceTMod, Int.reduceTDiv, Int.reduceMul, Int.reduceBNe, Int.reduceLT, Int.reduceLE, Int.reduceAdd, Int.reduceSub, Int.reduceNeg, decide_true, decide_false, Bool.true_and, Bool.false_and, Bool.and_true, Bool.and_false, Bool.or_false, Bool.or_true, Bool.true_or, Bool.false_or, Bool.not_true, Bool.not_false, true_implies, false_implies, true_and, and_true, Int.reduceToNat, hb, hn, ht] <;> and_intros <;> first | (apply hK1; clear hK1 K1) | (intros; first | omega | decide) | skip)) | (refine awp_cond (t := _) rfl (fun hq => ?_) (fun hq => ?_) <;> first | (exact absurd hq (by decide)) | (cases hq; done) | (clear hq)) | (refine awp_un 8 ?_) | (with_reducible exact rfl) | (with_reducible exact trivial) | ((with_reducible show uside _); first | exact True.intro | exact rfl) | ((with_reducible show opS _ _); exact True.intro) | (refine ⟨AV.v (.bool true), rfl, hK1 _ ?_⟩; clear hK1 K1) | (refine (h1).mono ?_; rintro _ hz ⟨rfl, hh⟩; (first | (refine hK1 _ ?_) | (refine ⟨rfl, hK1 _ ?_⟩)); clear hK1 K1; rw [hh]; clear hh hz)))
 intro k hk
 refine hK1 _ ?_; clear hK1 K1
 (repeat (first | refine gO rfl ?_ | ((first | refine gR ?_ | (with_reducible refine wM ?_ ?_) | ((with_reducible refine xR ?_); refine uE 1 zM30 zP1PE zP1PP 16 rfl (by kernel_rfl) ?_)) <;> ((try with_reducible intro K1 hK1); simp only [go_sem, ↓reduceIte, reduceCtorEq, nA, nB, nC, nD, nE, nF, Int.reduceBEq, Int.reduceTMod, Int.reduceTDiv, Int.reduceMul, Int.reduceBNe, Int.reduceLT, Int.reduceLE, Int.reduceAdd, Int.reduceSub, Int.reduceNeg, decide_true, decide_false, Bool.true_and, Bool.false_and, Bool.and_true, Bool.and_false, Bool.or_false, Bool.or_true, Bool.true_or, Bool.false_or, Bool.not_true, Bool.not_false, true_implies, false_implies, true_and, and_true, Int.reduceToNat, hb] <;> and_intros <;> first | (apply hK1; clear hK1 K1) | (intros; first | omega | decide) | skip)) | (refine awp_cond (t := _) rfl (fun hq => ?_) (fun hq => ?_) <;> first | (exact absurd hq (by decide)) | (cases hq; done) | (clear hq)) | (refine awp_un 8 ?_) | (with_reducible exact rfl) | (with_reducible exact trivial) | ((with_reducible show uside _); first | exact True.intro | exact rfl) | ((with_reducible show opS _ _); exact True.intro) | (refine ⟨AV.v (.bool true), rfl, hK1 _ ?_⟩; clear hK1 K1)))
 simp only [Tryz.results137, go_sem, ↓reduceIte, reduceCtorEq, nA, nB, nC, nD, nE, nF]
 exact ⟨_, _, Weak.refl _, Hp.le.refl _, rfl, k, hk, rfl⟩
theorem c_addOne (r b q : Nat) (x0 x1 x2 x3 x4 x5 x6 x7 x8 x9 x10 x11 x12 x13 x14 x15 x16 x17 x18 els : AV) (m n : List AV) (hn : n.length = 19) (h : Hp) (h1 : ACalls Tryz.prog 159 [.ptr r 0] h (fun x h' => x = .ptr b 0 ∧ h' = h)) (hb : h.H b = some (.cells [x0, x1, x2, x3, x4, x5, x6, x7, x8, x9, x10, x11, x12, x13, x14, x15, x16, x17, x18, .row 19 [m] (some q), els])) (hq : h.T q = some (.tail 1)) :
  ACalls Tryz.prog 137 [.ptr r 0, .agg n] h (fun x h' => x = .tup [] ∧ h' = ⟨upd h.H b (some (.cells [x0, x1, x2, x3, x4, x5, x6, x7, x8, x9, x10, x11, x12, x13, x14, x15, x16, x17, x18, .row 19 [m, n] (some q), els])), upd h.T q (some (.tail 2))⟩) := by
 have ht : List.take 19 n = n := List.take_of_length_le (by omega)
 refine gE Tryz.func137 rfl (by kernel_rfl) 14 rfl fun c => ?_
 (repeat (first | refine gO rfl ?_ | ((first | refine gR ?_ | (with_reducible refine wM ?_ ?_) | ((with_reducible refine xR ?_); refine uE 1 zM30 zP1PE zP1PP 16 rfl (by kernel_rfl) ?_)) <;> ((try with_reducible intro K1 hK1); simp only [go_sem, ↓reduceIte, reduceCtorEq, nA, nB, nC, nD, nE, nF, Int.reduceBEq, Int.reduceTMod, Int.reduceTDiv, Int.reduceMul, Int.reduceBNe, Int.reduceLT, Int.reduceLE, Int.reduceAdd, Int.reduceSub, Int.reduceNeg, decide_true, decide_false, Bool.true_and, Bool.false_and, Bool.and_true, Bool.and_false, Bool.or_false, Bool.or_true, Bool.true_or, Bool.false_or, Bool.not_true, Bool.not_false, true_implies, false_implies, true_and, and_true, Int.reduceToNat, hb, hn, ht, hq] <;> and_intros <;> first | (apply hK1; clear hK1 K1) | (intros; first | omega | decide) | skip)) | (refine awp_cond (t := _) rfl (fun hq => ?_) (fun hq => ?_) <;> first | (exact absurd hq (by decide)) | (cases hq; done) | (clear hq)) | (refine awp_un 8 ?_) | (with_reducible exact rfl) | (with_reducible exact trivial) | ((with_reducible show uside _); first | exact True.intro | exact rfl) | ((with_reducible show opS _ _); exact True.intro) | (refine ⟨AV.v (.bool true), rfl, hK1 _ ?_⟩; clear hK1 K1) | (refine (h1).mono ?_; rintro _ hz ⟨rfl, hh⟩; (first | (refine hK1 _ ?_) | (refine ⟨rfl, hK1 _ ?_⟩)); clear hK1 K1; rw [hh]; clear hh hz)))
 simp only [Tryz.results137, go_sem, ↓reduceIte, reduceCtorEq, nA, nB, nC, nD, nE, nF]
 exact ⟨_, _, Weak.refl _, Hp.le.refl _, rfl, rfl⟩
end Go.Proofs.YtlaakjlpfgfdkaaGreatDoor
