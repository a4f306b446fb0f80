/- signkeep1.LinesHaveAllWords returns true for every list of numbers (ready given). -/
import Derived.Test.YtlaakjlpfgfdkaaGreatDoorM3
import Derived.Below
namespace Go.Proofs.YtlaakjlpfgfdkaaGreatDoor
open Go
set_option linter.unusedVariables false
set_option linter.unusedSimpArgs false
open Nat renaming reduceAdd → nA, reduceSub → nB, reduceMul → nC, reduceLT → nD, reduceLeDiff → nE, reduceEqDiff → nF, reduceMod → nG, reduceDiv → nH, reducePow → nI
set_option maxRecDepth 100000
set_option maxHeartbeats 8000000
abbrev zM40 : Option Tmp → Nat := mdL [(4, 1), (16, 2)]
attribute [go_sem] zM40
theorem para_flat : ∀ (g : Nat) (ws : List (List Tok)) (ys : List Way), (paraT g ws ys).flatten.length ≤ ws.flatten.length + ws.length
 | 0, _, _ => by simp [paraT]
 | g + 1, ws, ys => by
  rw [paraT]
  split
  ·simp
  ·have h1 := para_flat g (ws.drop (ys.getD 0 (0, 0, 0)).2.2) (ys.drop (ys.getD 0 (0, 0, 0)).2.2)
   have h2 := joinT_len (ws.take (ys.getD 0 (0, 0, 0)).2.2)
   have e : ws = ws.take (ys.getD 0 (0, 0, 0)).2.2 ++ ws.drop (ys.getD 0 (0, 0, 0)).2.2 := (List.take_append_drop _ _).symm
   have e1 := congrArg (fun l => l.flatten.length + l.length) e
   simp only [List.flatten_append, List.length_append] at e1
   rw [List.flatten_cons, List.length_append]
   omega
theorem paragraph_flat (f : Fo) (blank wide : Int) (ws : List (List Tok)) : (paragraphT f blank wide ws).flatten.length ≤ ws.flatten.length + ws.length := by
 unfold paragraphT
 split
 ·simp
 ·exact para_flat _ _ _
theorem flatMap_flat (F : List Tok → List (List Tok)) : ∀ P : List (List Tok), (∀ p, (F p).flatten.length ≤ 2 * p.length) → (P.flatMap F).flatten.length ≤ 2 * P.flatten.length
 | [], _ => by simp
 | p :: P, h => by
  have h1 := h p
  have h2 := flatMap_flat F P h
  rw [List.flatMap_cons, List.flatten_append, List.length_append, List.flatten_cons, List.length_append]
  omega
theorem lines_size (f : Fo) (wide : Int) (ts : List Tok) : (linesT f wide ts).flatten.length ≤ 2 * ts.length := by
 unfold linesT
 have h1 := flatMap_flat (fun p => paragraphT f (widS f blT) wide (wordsT f wide p)) (splitT lfT ts) (fun p => by
  have h1 := paragraph_flat f (widS f blT) wide (wordsT f wide p)
  have h2 := words_flat f wide p
  have h3 := wordsT_len f wide p
  omega)
 have h2 : (splitT lfT ts).flatten.length ≤ ts.length := by rw [splitT_flat]; exact List.length_filter_le _ _
 omega
theorem lines_many (f : Fo) (wide : Int) (ts : List Tok) : (linesT f wide ts).length ≤ (ts.length + 1) * (ts.length + 1) := by
 unfold linesT
 have h1 := flatMap_len (fun p => paragraphT f (widS f blT) wide (wordsT f wide p)) (ts.length + 1) (splitT lfT ts) (fun p hp => by
  have h1 := paragraph_len f (widS f blT) wide (wordsT f wide p)
  have h2 := wordsT_len f wide p
  have h3 := piece_len hp
  omega)
 have h2 := splitT_len lfT ts
 exact Nat.le_trans h1 (Nat.mul_le_mul_left _ h2)
theorem g_bare (l : List UInt8) (h : Hp) (hl : l.length ≤ 1000000) : ACalls Tryz.prog 32 [.v (.string (bsOf l))] h (fun r h' => r = .v (.string (bsOf (noB 10 (noB 32 l)))) ∧ h' = h) := by
 have h2 : (noB 32 l).length ≤ l.length := List.length_filter_le _ _
 refine gE Tryz.func32 rfl (by kernel_rfl) 5 rfl fun c => ?_
 (repeat (first | refine gO rfl ?_ | (refine gR fun K1 hK1 => ?_; simp only [go_sem, ↓reduceIte, reduceCtorEq, nA, nB, nC, nD, nE, nF] <;> and_intros <;> first | (apply hK1; clear hK1 K1) | (intros; first | omega | decide | (simp_all <;> omega)) | skip)))
 refine (g_replAll l 32 _ hl).mono ?_; rintro _ hz ⟨rfl, hh⟩; apply hK1; clear hK1 K1; rw [hh]; clear hh hz
 (repeat (first | refine gO rfl ?_ | (refine gR fun K1 hK1 => ?_; simp only [go_sem, ↓reduceIte, reduceCtorEq, nA, nB, nC, nD, nE, nF] <;> and_intros <;> first | (apply hK1; clear hK1 K1) | (intros; first | omega | decide) | skip)))
 refine (g_replAll (noB 32 l) 10 _ (by omega)).mono ?_; rintro _ hz ⟨rfl, hh⟩; apply hK1; clear hK1 K1; rw [hh]; clear hh hz
 (repeat (first | refine gO rfl ?_ | (refine gR fun K1 hK1 => ?_; simp only [go_sem, ↓reduceIte, reduceCtorEq, nA, nB, nC, nD, nE, nF] <;> and_intros <;> first | (apply hK1; clear hK1 K1) | (intros; first | omega | decide) | skip)))
 simp only [Tryz.results32, go_sem, ↓reduceIte, reduceCtorEq, nA, nB, nC, nD, nE, nF]
 exact ⟨_, _, Weak.refl _, Hp.le.refl _, rfl, rfl⟩
theorem g_lawLhw (hR : ∀ h, ACalls Tryz.prog 31 [] h (fun r _ => r = .v (.bool true))) (l : List Int) (h : Hp) (hl : SOk l) (k0 : Nat) (hT : h.T k0 = some (.glb tabU)) :
  ACalls Tryz.prog 6 [.row 1 (l.map encI) none] h (fun r h' => r = .v (.bool true)) := by
 have hfl : ∀ f : Fo, (encFo f none) = .agg [.v (.string f.key), .v (.int .i64 f.hi), .v (.int .i64 f.ot), .row 3 (f.ws.map encW) none] := fun _ => rfl
 refine gE Tryz.func6 rfl (by kernel_rfl) 68 rfl fun c => ?_
 (repeat (first | refine gQ rfl ?_ | (refine gM zM40 fun K1 hK1 => ?_; simp only [go_sem, ↓reduceIte, reduceCtorEq, nA, nB, nC, nD, nE, nF] <;> and_intros <;> first | (apply hK1; clear hK1 K1) | (intros; first | omega | decide | (simp_all <;> omega)) | skip)))
 intro i hi
 refine hK1 _ ?_; clear hK1 K1
 have e0 : ({ H := upd h.H i (some (.cells [.row 1 (l.map encI) none, .v (.int .i64 0)])), T := h.T } : Hp) = h.st i l 0 := rfl
 rw [e0]
 (repeat (first | refine gO rfl ?_ | (refine gM zM40 fun K1 hK1 => ?_; simp only [go_sem, ↓reduceIte, reduceCtorEq, nA, nB, nC, nD, nE, nF] <;> and_intros <;> first | (apply hK1; clear hK1 K1) | (intros; first | omega | decide | (simp_all <;> omega)) | skip)))
 refine (g_font i l 0 ⟨#[102, 97]⟩ h hl (by omega)).mono ?_
 rintro _ h9 ⟨f, a1, rfl, hk, hw, ha1, rfl⟩
 have hks : f.key.size ≤ 1000 := by rcases hk with e | e <;> rw [e] <;> decide
 apply hK1; clear hK1 K1
 (repeat (first | refine gO rfl ?_ | (refine gM zM40 fun K1 hK1 => ?_; simp only [go_sem, ↓reduceIte, reduceCtorEq, nA, nB, nC, nD, nE, nF] <;> and_intros <;> first | (apply hK1; clear hK1 K1) | (intros; first | omega | decide | (simp_all <;> omega)) | skip)))
 refine (g_wording i l a1 h hl (by omega)).mono ?_
 rintro _ h9 ⟨ts, a2, rfl, htt, htl, ha2, rfl⟩
 apply hK1; clear hK1 K1
 (repeat (first | refine gO rfl ?_ | (refine gM zM40 fun K1 hK1 => ?_; simp only [go_sem, ↓reduceIte, reduceCtorEq, nA, nB, nC, nD, nE, nF] <;> and_intros <;> first | (apply hK1; clear hK1 K1) | (intros; first | omega | decide | (simp_all <;> omega)) | skip)))
 refine (g_range i l a2 1 20 h hl (by omega) (by omega) (by omega) (by omega)).mono ?_
 rintro _ h9 ⟨wd, hwd, rfl, rfl⟩
 apply hK1; clear hK1 K1
 have hTs : (h.st i l (a2 + 1)).T k0 = some (.glb tabU) := hT
 generalize h.st i l (a2 + 1) = h1 at *
 have hff := g_fontFault f none hks (by omega) h1
 rw [hfl] at hff
 (repeat (first | refine gO rfl ?_ | (refine gM zM40 fun K1 hK1 => ?_; simp only [go_sem, ↓reduceIte, reduceCtorEq, nA, nB, nC, nD, nE, nF, hfl] <;> and_intros <;> first | (apply hK1; clear hK1 K1) | (intros; first | omega | decide | (simp_all <;> omega)) | skip)))
 refine hff.mono ?_
 rintro _ hz ⟨⟨e, rfl, hG⟩, hh⟩
 apply hK1; clear hK1 K1; rw [hh]; clear hh hz hff
 (repeat (first | refine gO rfl ?_ | (refine gM zM40 fun K1 hK1 => ?_; simp only [go_sem, ↓reduceIte, reduceCtorEq, nA, nB, nC, nD, nE, nF] <;> and_intros <;> first | (apply hK1; clear hK1 K1) | (intros; first | omega | decide | (simp_all <;> omega)) | skip)))
 refine awp_cond (t := _) rfl (fun h9 => ?_) (fun h9 => ?_)
 ·(repeat (first | refine gO rfl ?_ | (refine gM zM40 fun K1 hK1 => ?_; simp only [go_sem, ↓reduceIte, reduceCtorEq, nA, nB, nC, nD, nE, nF] <;> and_intros <;> first | (apply hK1; clear hK1 K1) | (intros; first | omega | decide | (simp_all <;> omega)) | skip)))
  refine (hR _).mono ?_
  rintro _ h8 rfl
  apply hK1; clear hK1 K1
  (repeat (first | refine gO rfl ?_ | (refine gM zM40 fun K1 hK1 => ?_; simp only [go_sem, ↓reduceIte, reduceCtorEq, nA, nB, nC, nD, nE, nF] <;> and_intros <;> first | (apply hK1; clear hK1 K1) | (intros; first | omega | decide | (simp_all <;> omega)) | skip)))
  simp only [Tryz.results6, go_sem, ↓reduceIte, reduceCtorEq, nA, nB, nC, nD, nE, nF]
  exact ⟨_, _, Weak.refl _, Hp.le.refl _, rfl⟩
 have hg : Good f := hG (by simpa using h9)
 clear h9 hG
 have hsh := g_lines f none ts wd htt (by omega) (by omega) hg hks k0 h1 hTs
 rw [hfl] at hsh
 (repeat (first | refine gO rfl ?_ | (refine gM zM40 fun K1 hK1 => ?_; simp only [go_sem, ↓reduceIte, reduceCtorEq, nA, nB, nC, nD, nE, nF] <;> and_intros <;> first | (apply hK1; clear hK1 K1) | (intros; first | omega | decide | (simp_all <;> omega)) | skip)))
 refine hsh.mono ?_
 rintro _ h2 ⟨rfl, hgr⟩
 have hTs := hgr.2 _ _ hTs
 apply hK1; clear hK1 K1 hsh hgr
 have hsz := lines_size f wd ts
 have hmn := lines_many f wd ts
 have hlt := lines_toks f wd htt
 have hbr := lines_bare f wd htt
 obtain ⟨_, hfit, _⟩ := lines_ok f wd ts
 generalize linesT f wd ts = T at *
 have hmn2 : T.length ≤ 40401 := Nat.le_trans hmn (Nat.mul_le_mul (show ts.length + 1 ≤ 201 by omega) (show ts.length + 1 ≤ 201 by omega))
 have hll : (T.map encLn).length = T.length := List.length_map _
 have htf : ∀ t ∈ T.flatten, t ∈ toks := fun t ht => by
  obtain ⟨x, hx, h⟩ := List.mem_flatten.1 ht
  exact hlt x hx t h
 have hf2 := flat_le2 T.flatten htf
 have hf3 := flat_le2 ts htt
 have hjn := g_joinS (T.map fun w => bsOf w.flatten) none ⟨#[]⟩
 have hm1 : (T.map fun w => bsOf w.flatten).map (·.data.toList) = T.map List.flatten := by rw [List.map_map]; rfl
 have hm2 : (T.map fun w => bsOf w.flatten).map encS = T.map encLn := by rw [List.map_map]; rfl
 rw [hm1, hm2, List.length_map, show (⟨#[]⟩ : ByteArray).data.toList = [] from rfl, join_nil, ← List.flatten_flatten] at hjn
 (repeat (first | refine gO rfl ?_ | (refine gM zM40 fun K1 hK1 => ?_; simp only [go_sem, ↓reduceIte, reduceCtorEq, nA, nB, nC, nD, nE, nF] <;> and_intros <;> first | (apply hK1; clear hK1 K1) | (intros; first | omega | decide | (simp_all <;> omega)) | skip)))
 refine awp_cond (t := _) rfl (fun h6 => by cases h6) (fun _ => ?_)
 (repeat (first | refine gO rfl ?_ | (refine gM zM40 fun K1 hK1 => ?_; simp only [go_sem, ↓reduceIte, reduceCtorEq, nA, nB, nC, nD, nE, nF] <;> and_intros <;> first | (apply hK1; clear hK1 K1) | (intros; first | omega | decide | (simp_all <;> omega)) | skip)))
 refine (hjn h2 (by omega) (by omega)).mono ?_; rintro _ hz ⟨rfl, hh⟩; apply hK1; clear hK1 K1; rw [hh]; clear hh hz
 (repeat (first | refine gO rfl ?_ | (refine gM zM40 fun K1 hK1 => ?_; simp only [go_sem, ↓reduceIte, reduceCtorEq, nA, nB, nC, nD, nE, nF] <;> and_intros <;> first | (apply hK1; clear hK1 K1) | (intros; first | omega | decide) | skip)))
 have hb1 := g_bare T.flatten.flatten h2 (by omega)
 have hb2 := g_bare ts.flatten h2 (by omega)
 rw [show noB 10 (noB 32 T.flatten.flatten) = noB 10 (noB 32 ts.flatten) from hbr] at hb1
 refine hb1.mono ?_; rintro _ hz ⟨rfl, hh⟩; apply hK1; clear hK1 K1; rw [hh]; clear hh hz
 (repeat (first | refine gO rfl ?_ | (refine gM zM40 fun K1 hK1 => ?_; simp only [go_sem, ↓reduceIte, reduceCtorEq, nA, nB, nC, nD, nE, nF] <;> and_intros <;> first | (apply hK1; clear hK1 K1) | (intros; first | omega | decide) | skip)))
 refine hb2.mono ?_; rintro _ hz ⟨rfl, hh⟩; apply hK1; clear hK1 K1; rw [hh]; clear hh hz
 have e3 : ∀ x : ByteArray, (x == x) = true := fun x => by rw [ba_beq]; simp
 (repeat (first | refine gO rfl ?_ | (refine gM zM40 fun K1 hK1 => ?_; simp only [go_sem, ↓reduceIte, reduceCtorEq, nA, nB, nC, nD, nE, nF] <;> and_intros <;> first | (apply hK1; clear hK1 K1) | (intros; first | omega | decide) | skip)))
 refine awp_cond (t := _) rfl (fun h6 => by rw [e3] at h6; cases h6) (fun _ => ?_)
 (repeat (first | refine gO rfl ?_ | (refine gM zM40 fun K1 hK1 => ?_; simp only [go_sem, ↓reduceIte, reduceCtorEq, nA, nB, nC, nD, nE, nF, hll] <;> and_intros <;> first | (apply hK1; clear hK1 K1) | (intros; first | omega | decide) | skip)))
 refine awp_loopC (rl false [4, 1, 1, 1, 37, 3, 22]) 1 (fun g s => ∃ (j : Nat) (h3 : Hp), g + j = T.length ∧ h3.T k0 = some (.glb tabU) ∧
  s = ⟨((jnk 4 ((.loc 0 0) :: AV.junk :: ((.v (.int .i64 wd)) :: (jnk 37 ((.row 1 (T.map encLn) none) :: (.v (.int .i64 T.length)) :: (.v (.int .i64 j)) :: (jnk 22 []))))))), [[.v (.string f.key), .v (.int .i64 f.hi), .v (.int .i64 f.ot), .row 3 (f.ws.map encW) none]], h3⟩) T.length ⟨0, h2, by omega, hTs, rfl⟩ ?_
 rintro g _ ⟨j, h3, hj, hTs, rfl⟩
 (repeat (first | refine gO rfl ?_ | (refine gM zM40 fun K1 hK1 => ?_; simp only [go_sem, ↓reduceIte, reduceCtorEq, nA, nB, nC, nD, nE, nF] <;> and_intros <;> first | (apply hK1; clear hK1 K1) | (intros; first | omega | decide) | skip)))
 refine awp_cond (t := _) rfl (fun h6 => ?_) (fun h6 => ?_)
 ·simp only [decide_eq_true_eq] at h6
  have hjl : j < T.length := by omega
  have gx : (T.map encLn).getD j [] = [.v (.string (bsOf T[j].flatten))] := by rw [List.getD_eq_getElem?_getD, List.getElem?_map, List.getElem?_eq_getElem hjl]; rfl
  have hm := List.getElem_mem hjl
  have hlj := hlt _ hm
  have hfj := hfit _ hm
  have hsj : T[j].length ≤ T.flatten.length := List.Sublist.length_le (List.sublist_flatten_of_mem hm)
  generalize T[j] = x at *
  have hwx := g_wide f none x hlj (by omega) hg hks k0 h3 hTs
  rw [hfl] at hwx
  (repeat (first | refine gO rfl ?_ | (refine gM zM40 fun K1 hK1 => ?_; simp only [go_sem, ↓reduceIte, reduceCtorEq, nA, nB, nC, nD, nE, nF, hll, Int.toNat_natCast, gx] <;> and_intros <;> first | (apply hK1; clear hK1 K1) | (intros; first | omega | decide) | skip)))
  refine hwx.mono ?_
  rintro _ h4 ⟨rfl, hgr⟩
  have hTs4 := hgr.2 _ _ hTs
  apply hK1; clear hK1 K1
  have e00 : ((0 : Int) != (0 : Int)) = false := rfl
  by_cases c1 : sumW f x ≤ wd
  ·have d2 : (wd < sumW f x) = False := eq_false (by omega)
   (repeat (first | refine gO rfl ?_ | (refine gM zM40 fun K1 hK1 => ?_; simp only [go_sem, ↓reduceIte, reduceCtorEq, nA, nB, nC, nD, nE, nF, d2, e00, decide_false] <;> and_intros <;> first | (apply hK1; clear hK1 K1) | (intros; first | omega | decide) | skip)))
   refine awp_cond (t := _) rfl (fun h7 => by cases h7) (fun _ => ?_)
   (repeat (first | refine gO rfl ?_ | (refine gM zM40 fun K1 hK1 => ?_; simp only [go_sem, ↓reduceIte, reduceCtorEq, nA, nB, nC, nD, nE, nF] <;> and_intros <;> first | (apply hK1; clear hK1 K1) | (intros; first | omega | decide) | skip)))
   exact ⟨g - 1, by omega, j + 1, h4, by omega, hTs4, rfl⟩
  ·have d2 : (wd < sumW f x) = True := eq_true (by omega)
   have hnb : blT ∉ x := fun h => (hfj.resolve_left c1) h
   have hct : decide (0 ≤ Lib.indexByte x.flatten 32) = false := decide_eq_false (fun h => hnb (blank_mem hlj (index_mem h)))
   have hco := a_contains x.flatten 32
   rw [hct] at hco
   (repeat (first | refine gO rfl ?_ | (refine gM zM40 fun K1 hK1 => ?_; simp only [go_sem, ↓reduceIte, reduceCtorEq, nA, nB, nC, nD, nE, nF, d2, e00, decide_true] <;> and_intros <;> first | (apply hK1; clear hK1 K1) | (intros; first | omega | decide) | skip)))
   rotate_left
   ·exact fun h => h.elim
   refine (hco _).mono ?_
   rintro _ _ ⟨rfl, rfl⟩
   refine ⟨rfl, hK1 _ ?_⟩
   clear hK1 K1
   (repeat (first | refine gO rfl ?_ | (refine gM zM40 fun K1 hK1 => ?_; simp only [go_sem, ↓reduceIte, reduceCtorEq, nA, nB, nC, nD, nE, nF] <;> and_intros <;> first | (apply hK1; clear hK1 K1) | (intros; first | omega | decide) | skip)))
   refine awp_cond (t := _) rfl (fun h7 => by cases h7) (fun _ => ?_)
   (repeat (first | refine gO rfl ?_ | (refine gM zM40 fun K1 hK1 => ?_; simp only [go_sem, ↓reduceIte, reduceCtorEq, nA, nB, nC, nD, nE, nF] <;> and_intros <;> first | (apply hK1; clear hK1 K1) | (intros; first | omega | decide) | skip)))
   exact ⟨g - 1, by omega, j + 1, _, by omega, hTs4, rfl⟩
 ·(repeat (first | refine gO rfl ?_ | (refine gM zM40 fun K1 hK1 => ?_; simp only [go_sem, ↓reduceIte, reduceCtorEq, nA, nB, nC, nD, nE, nF] <;> and_intros <;> first | (apply hK1; clear hK1 K1) | (intros; first | omega | decide) | skip)))
  refine (hR _).mono ?_
  rintro _ h8 rfl
  apply hK1; clear hK1 K1
  (repeat (first | refine gO rfl ?_ | (refine gM zM40 fun K1 hK1 => ?_; simp only [go_sem, ↓reduceIte, reduceCtorEq, nA, nB, nC, nD, nE, nF] <;> and_intros <;> first | (apply hK1; clear hK1 K1) | (intros; first | omega | decide | (simp_all <;> omega)) | skip)))
  simp only [Tryz.results6, go_sem, ↓reduceIte, reduceCtorEq, nA, nB, nC, nD, nE, nF]
  exact ⟨_, _, Weak.refl _, Hp.le.refl _, rfl⟩
open Go Go.RowKit
def ARow (w : World) (a : Option Addr) (len cap : Nat) (zs : List Int) : Prop :=
 (a = none ∧ len = 0 ∧ cap = 0 ∧ zs = []) ∨ ∃ b : Addr, a = some b ∧ len ≤ cap ∧ cap ≤ maxLen ∧ zs.length = cap ∧ (∀ i, i < zs.length → w.cell? (b.add i) = some (.int .i64 (zs.getD i 0)) ∧ w.frozen? (b.add i) = false) ∧ (∀ n ∈ zs, (Lit.int .i64 n).wf = true)
def G0 (w : World) : Gh := ⟨fun g o => cellT w g o, fun _ => none, fun _ => none, 0⟩
theorem rep_v_inv0 {G : Gh} {x y : Value} (h : Rep G (.v x) y) : y = x := by cases h; rfl
theorem flat_encI (l : List Int) : (l.map encI).flatten = l.map fun x => AV.v (.int .i64 x) := by
 induction l with
 | nil => rfl
 | cons x q ih => simp [encI, ih]
theorem arow_rep {w : World} {a : Option Addr} {len cap : Nat} {zs : List Int} (h : ARow w a len cap zs) : ∃ l : List Int, SOk l ∧ Rep (G0 w) (.row 1 (l.map encI) none) (.slice a len cap) := by
 rcases h with ⟨rfl, rfl, rfl, _⟩ | ⟨⟨b, o, sp⟩, rfl, hl, hm, hz, hc, hwz⟩
 ·exact ⟨[], ⟨by simp, by simp⟩, .nil 1 none trivial⟩
 ·by_cases h0 : cap = 0
  ·subst h0
   obtain rfl : len = 0 := by omega
   exact ⟨[], ⟨by simp, by simp⟩, .nilA 1 _⟩
  ·have hsp : sp = none := by
    have h1 := (hc 0 (by omega)).1
    rw [show (⟨b, o, sp⟩ : Addr).add 0 = ⟨b, o, sp⟩ from rfl] at h1
    cases sp with
    | none => rfl
    | some s =>
     simp only [World.cell?] at h1
     split at h1 <;> simp at h1
   subst hsp
   refine ⟨zs.take len, ⟨by have hm2 : maxLen = 9223372036854775807 := rfl; rw [List.length_take]; omega, fun x hx => ?_⟩, ?_⟩
   ·have h1 := hwz x (List.mem_of_mem_take hx)
    simp only [Lit.wf, Bool.and_eq_true, decide_eq_true_eq] at h1
    exact ⟨h1.1, h1.2⟩
   ·have hlen : (zs.take len).length = len := by simp; omega
    have h2 := Rep.row_mk (G := G0 w) (z := 1) (xs := (zs.take len).map encI) (g := b) (o := o) (c := cap) (us := (zs.take len).map fun x => Value.int .i64 x) (by rw [List.length_map, hlen]; exact hl)
     (fun y hy => by obtain ⟨x, _, rfl⟩ := List.mem_map.1 hy; rfl) (by
      rw [flat_encI]
      refine ⟨by simp, fun j a b => ?_⟩
      simp only [List.getElem_map]
      exact ⟨.v _ rfl, rfl⟩) (fun j y hy => by
      rw [List.getElem?_map] at hy
      obtain ⟨x, hx, rfl⟩ := Option.map_eq_some_iff.1 hy
      rw [List.getElem?_take] at hx
      split at hx
      ·have hjl := (List.getElem?_eq_some_iff.1 hx).1
       have h3 := hc j hjl
       rw [List.getD_eq_getElem?_getD, hx, Addr.add_lit] at h3
       exact cellT_mk h3.1 (.inr h3.2)
      ·cases hx)
    rwa [List.length_map, hlen] at h2
def GU (w : World) : Gh := ⟨fun g o => cellT w g o, fun _ => none, fun k => if k = 0 then some none else none, 1⟩
def HU : Hp := ⟨fun _ => none, fun k => if k = 0 then some (.glb tabU) else none⟩
theorem tabU_cell {w : World} (ht : Lib.Utf8Tabs 0 1 w) {b o : Nat} {v : Value} (h : tabU b o = some v) : cellT w b o = some v := by
 obtain ⟨h1, h2⟩ := ht
 unfold tabU at h
 split at h
 ·rename_i e
  subst e
  split at h
  ·rename_i hc
   cases h
   exact cellT_mk (h1 o hc) (.inl rfl)
  ·cases h
 ·split at h
  ·rename_i e
   subst e
   split at h
   ·rename_i hc
    have := h2 (o / 2) (by omega)
    by_cases h0 : o % 2 = 0
    ·rw [if_pos h0] at h
     cases h
     have e : 2 * (o / 2) = o := by omega
     rw [e] at this
     exact cellT_mk this.1 (.inl rfl)
    ·rw [if_neg h0] at h
     cases h
     have e : 2 * (o / 2) + 1 = o := by omega
     rw [e] at this
     exact cellT_mk this.2 (.inl rfl)
   ·cases h
  ·cases h
theorem hsimU (w : World) (ht : Lib.Utf8Tabs 0 1 w) : HSim (GU w) HU w where
 val _ _ _ h := h
 obj _ _ h := by cases h
 inj _ _ _ h := absurd rfl h
 tok k m h := by
  have h : (if k = 0 then some (TO.glb tabU) else none) = some m := h
  split at h
  ·rename_i e
   subst e
   cases h
   exact ⟨rfl, fun b o v e => tabU_cell ht e⟩
  ·cases h
 tinj k l s t h _ e _ := by
  have e : (if k = 0 then some none else none) = some (some s) := e
  split at e <;> cases e
 tobj k i t _ h := absurd rfl h
 fat _ _ := rfl
 ftl k hk := by
  show (if k = 0 then some none else none) = none
  rw [if_neg]
  have : 1 ≤ k := hk
  omega
theorem below_of_frU {G' : Gh} {h' : Hp} {w w' : World} (f : Fr (GU w) HU w G' h' w') : Below w.heap.size w w' :=
 ⟨f.os, f.tape, f.output, f.size, fun b hb => (f.keep b hb (fun o => by
  rcases o with ⟨_, h, _⟩ | ⟨k, t, _, h, _⟩
  ·exact h rfl
  ·have h : (if k = 0 then some none else none) = some (some t) := h
   split at h <;> cases h)).1⟩
theorem law_callsU {f : Nat} (hlaw : ∀ (l : List Int) (h : Hp), SOk l → h.T 0 = some (.glb tabU) → ACalls Tryz.prog f [.row 1 (l.map encI) none] h (fun r _ => r = .v (.bool true))) (a : Option Addr) (len cap : Nat) (zs : List Int) (w : World) (h : ARow w a len cap zs)
  (ht : Lib.Utf8Tabs 0 1 w) :
  Calls Tryz.prog f #[.slice a len cap] w fun e w' => e = .returned (.bool true) ∧ Below w.heap.size w w' := by
 obtain ⟨l, hl, hrep⟩ := arow_rep h
 have hle : GLe (G0 w) (GU w) := ⟨fun _ _ _ h => h, (fun _ _ h => by cases h), Nat.zero_le _, (fun k hk => absurd hk (Nat.not_lt_zero k))⟩
 have hrep : Rep (GU w) (.row 1 (l.map encI) none) (.slice a len cap) := hrep.mono hle
 refine ((hlaw l HU hl rfl).calls _ w #[.slice a len cap] (hsimU w ht) rfl (fun j hj => ?_)).mono ?_
 ·simp only [List.length_cons, List.length_nil, Nat.zero_add, Nat.lt_one_iff] at hj
  subst hj
  exact hrep
 ·rintro _ w' ⟨r, h', G', v, rfl, rfl, _, f, _, hv⟩
  exact ⟨by rw [rep_v_inv0 hv], below_of_frU f⟩
theorem g_lawLines (l : List Int) (h : Hp) (hl : SOk l) (k0 : Nat) (hT : h.T k0 = some (.glb tabU)) :
  ACalls Tryz.prog 6 [.row 1 (l.map encI) none] h (fun r _ => r = .v (.bool true)) := g_lawLhw g_ready l h hl k0 hT
end Go.Proofs.YtlaakjlpfgfdkaaGreatDoor
