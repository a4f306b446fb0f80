/- Insertion sort, as the library does it at short rows: plain. -/
import Derived.Test.YtmghfolmgmhabaaGreatDoorAvOwn
import Derived.Test.YtmghfolmgmhabaaGreatDoorAvClr
import Derived.Test.YtmghfolmgmhabaaGreatDoorAvTy
import Derived.Test.YtmghfolmgmhabaaGreatDoorAvMap
import Derived.Test.YtmghfolmgmhabaaGreatDoorShelf
import Derived.Test.YtmghfolmgmhabaaGreatDoorAvOld
import Derived.Test.YtmghfolmgmhabaaGreatDoorAvRun
import Derived.Test.YtmghfolmgmhabaaGreatDoorAvFz
import Derived.WalkKit
import Derived.WalkSpells
import Derived.WalkLawsBesides
import Derived.Deep.QuietTactic
import Derived.BigQuiet
import Derived.Lib.Hide
import Derived.Test.YtmghfolmgmhabaaGreatDoorProg
import Derived.Deep.DeepCutAuto
import Derived.Deep.LoopGhost
import Derived.Shelf.Strings.SlTrimAscii
import Derived.Lib.SlicesS
namespace Go.Proofs.YtmghfolmgmhabaaGreatDoor
open Go
set_option linter.unusedVariables false
set_option linter.unusedSimpArgs false
abbrev zM10 : Option Tmp → Nat := mdL [(41, 1)]
abbrev zM11 : Option Tmp → Nat := mdL []
abbrev zM12 : Option Tmp → Nat := mdL [(16, 3)]
abbrev zM13 : Option Tmp → Nat := mdL [(4, 3), (5, 1)]
attribute [go_sem] zM10 zM11 zM12 zM13
section
variable {α : Type} (cf : α → α → Int)
def insR : List α → α → List α
  | [], x => [x]
  | y :: r, x => if cf x y < 0 then y :: insR r x else x :: y :: r
def insS (xs : List α) : List α := xs.foldl (insR cf) []
def sortI (xs : List α) : List α := (insS cf xs).reverse
theorem insS_snoc (xs : List α) (x : α) : insS cf (xs ++ [x]) = insR cf (insS cf xs) x := by simp [insS]
theorem insR_perm : ∀ (r : List α) (x : α), (insR cf r x).Perm (x :: r)
  | [], _ => List.Perm.refl _
  | y :: r, x => by
    unfold insR
    split
    · exact ((insR_perm r x).cons y).trans (List.Perm.swap x y r)
    · exact List.Perm.refl _
theorem foldI_perm : ∀ (xs r : List α), (xs.foldl (insR cf) r).Perm (r ++ xs)
  | [], r => by simp
  | x :: xs, r => by
    refine (foldI_perm xs (insR cf r x)).trans ?_
    exact ((insR_perm cf r x).append_right xs).trans List.perm_middle.symm
theorem insS_perm (xs : List α) : (insS cf xs).Perm xs := by simpa [insS] using foldI_perm cf xs []
theorem insS_len (xs : List α) : (insS cf xs).length = xs.length := (insS_perm cf xs).length_eq
theorem sortI_perm (xs : List α) : (sortI cf xs).Perm xs := (List.reverse_perm _).trans (insS_perm cf xs)
theorem sortI_len (xs : List α) : (sortI cf xs).length = xs.length := (sortI_perm cf xs).length_eq
end
open Go
set_option linter.unusedVariables false
set_option linter.unusedSimpArgs false
abbrev Kp := ByteArray × Int × Bool × Int × Int × Int
def encKp (x : Kp) : List AV := [.v (.string x.1), .v (.int .i64 x.2.1), .v (.bool x.2.2.1), .v (.int .i64 x.2.2.2.1), .v (.int .i64 x.2.2.2.2.1), .v (.int .i64 x.2.2.2.2.2)]
def cmpI (x y : Int) : Int := if x < y then -1 else if y < x then 1 else 0
def cmpK (rule : Int) (a b : Kp) : Int :=
  if (if rule = 2 then cmpI a.2.2.2.2.2 b.2.2.2.2.2 else if rule = 3 then cmpI a.2.2.2.1 b.2.2.2.1 else if rule = 4 then cmpI b.2.1 a.2.1 else 0) = 0 then cmpI a.2.2.2.2.1 b.2.2.2.2.1
  else if rule = 2 then cmpI a.2.2.2.2.2 b.2.2.2.2.2 else if rule = 3 then cmpI a.2.2.2.1 b.2.2.2.1 else if rule = 4 then cmpI b.2.1 a.2.1 else 0
def orderF (rule : Int) (K : Nat → Kp) (ps : List Nat) : List Nat := sortI (fun p q => cmpK rule (K p) (K q)) (ps.filter fun p => !(K p).2.2.1)
def overF (item : ByteArray) (K : Nat → Kp) : List Nat → Int → Int
  | [], o => o
  | p :: ps, o => overF item K ps (if (K p).1 = item then o else o + (K p).2.1)
def goF (item : ByteArray) (K : Nat → Kp) : List Nat → Int → List Nat × Int
  | [], o => ([], o)
  | p :: ps, o => if o ≤ 0 then ([], o) else if (K p).1 = item then goF item K ps o else (p :: (goF item K ps (o - (K p).2.1)).1, (goF item K ps (o - (K p).2.1)).2)
def goingF (item : ByteArray) (bytes room rule : Int) (K : Nat → Kp) (ps : List Nat) : List Nat × Int := goF item K (orderF rule K ps) (overF item K ps (bytes - room))
theorem orderF_mem {rule : Int} {K : Nat → Kp} {ps : List Nat} {p : Nat} (h : p ∈ orderF rule K ps) : p ∈ ps := (List.mem_filter.1 ((sortI_perm _ _).mem_iff.1 h)).1
theorem orderF_len (rule : Int) (K : Nat → Kp) (ps : List Nat) : (orderF rule K ps).length ≤ ps.length := by
  rw [orderF, sortI_len]; exact List.length_filter_le _ _
theorem goF_mem {item : ByteArray} {K : Nat → Kp} : ∀ {ps : List Nat} {o : Int} {p : Nat}, p ∈ (goF item K ps o).1 → p ∈ ps
  | [], _, _, h => by simp [goF] at h
  | q :: ps, o, p, h => by
    unfold goF at h
    split at h
    · simp at h
    · split at h
      · exact List.mem_cons_of_mem _ (goF_mem h)
      · rcases List.mem_cons.1 h with rfl | h
        · exact List.mem_cons_self
        · exact List.mem_cons_of_mem _ (goF_mem h)
theorem goF_len (item : ByteArray) (K : Nat → Kp) : ∀ (ps : List Nat) (o : Int), (goF item K ps o).1.length ≤ ps.length
  | [], _ => by simp [goF]
  | q :: ps, o => by
    unfold goF
    split
    · simp
    · split
      · have := goF_len item K ps o; simp only [List.length_cons]; omega
      · have := goF_len item K ps (o - (K q).2.1); simp only [List.length_cons]; omega
def stayF (gone ps : List Nat) : List Nat := ps.filter fun p => !gone.contains p
open Nat renaming reduceAdd → nA, reduceSub → nB, reduceMul → nC, reduceLT → nD, reduceLeDiff → nE, reduceEqDiff → nF, reduceMod → nG, reduceDiv → nH, reducePow → nI
set_option maxRecDepth 100000
set_option maxHeartbeats 8000000
def encR (p : Nat) : List AV := [.ptr p 0]
def encRV (p : Nat) : AV := .ptr p 0
def idxR (pr : Nat → Bool) (ps : List Nat) : Int := match ps.findIdx? pr with
 | some j => j
 | none => -1
theorem idxR_at {pr : Nat → Bool} {ps : List Nat} {j : Nat} (hj : j < ps.length) (hp : pr (ps.getD j default) = true) (hn : ∀ i, i < j → pr (ps.getD i default) = false) : idxR pr ps = j := by
 have e : ps.findIdx? pr = some j := by
  rw [List.findIdx?_eq_some_iff_getElem]
  refine ⟨hj, ?_, fun i hi => ?_⟩
  ·rwa [List.getD_eq_getElem?_getD, List.getElem?_eq_getElem hj] at hp
  ·have h9 := hn i hi
   rw [List.getD_eq_getElem?_getD, List.getElem?_eq_getElem (by omega)] at h9
   simpa using h9
 rw [idxR, e]
theorem idxR_no {pr : Nat → Bool} {ps : List Nat} (hn : ∀ i, i < ps.length → pr (ps.getD i default) = false) : idxR pr ps = -1 := by
 have e : ps.findIdx? pr = none := by
  rw [List.findIdx?_eq_none_iff]
  intro x hx
  obtain ⟨i, hi, rfl⟩ := List.getElem_of_mem hx
  have h9 := hn i hi
  rwa [List.getD_eq_getElem?_getD, List.getElem?_eq_getElem hi] at h9
 rw [idxR, e]
theorem g_idxK {f : Nat} {caps : List AV} (pr : Nat → Bool) (k : Nat) (ps : List Nat) (h : Hp) (hT : h.T k = some (.cont 1 (ps.map encR))) (hl : ps.length ≤ 100000)
  (hc : ∀ p ∈ ps, ACalls Tryz.prog f ([.ptr p 0] ++ caps) h (fun r h' => r = .v (.bool (pr p)) ∧ h' = h)) :
  ACalls Tryz.prog 163 [.arr 1 k ps.length, .fn f caps] h (fun r h' => r = .v (.int .i64 (idxR pr ps)) ∧ h' = h) := by
 have hml : (ps.map encR).length = ps.length := List.length_map _
 refine gE Tryz.func163 rfl (by kernel_rfl) 17 rfl fun c => ?_
 (repeat (first | refine gO rfl ?_ | (refine gR fun K1 hK1 => ?_; simp only [go_sem, ↓reduceIte, reduceCtorEq, nA, nB, nC, nD, nE, nF] <;> and_intros <;> first | (apply hK1; clear hK1 K1) | (intros; first | omega | decide | (simp_all <;> omega)) | skip)))
 refine awp_loopC (rl false [0, 2, 5, 2, 10]) 0 (fun g s => ∃ j : Nat, g + j = ps.length ∧ (∀ i, i < j → pr (ps.getD i default) = false) ∧
  s = ⟨((.arr 1 k ps.length) :: (.fn f caps) :: (jnk 5 ((.v (.int .i64 ps.length)) :: (.v (.int .i64 j)) :: (jnk 10 [])))), [], h⟩) ps.length ⟨0, by omega, fun i hi => by omega, rfl⟩ ?_
 rintro g _ ⟨j, hj, hn, rfl⟩
 (repeat (first | refine gO rfl ?_ | (refine gR fun K1 hK1 => ?_; simp only [go_sem, ↓reduceIte, reduceCtorEq, nA, nB, nC, nD, nE, nF] <;> and_intros <;> first | (apply hK1; clear hK1 K1) | (intros; first | omega | decide) | skip)))
 refine awp_cond (t := _) rfl (fun h1 => ?_) (fun h1 => ?_)
 ·simp only [decide_eq_true_eq] at h1
  have hjl : j < ps.length := by omega
  have gx : (ps.map encR).getD j [] = encR (ps.getD j default) := getD_enc encR ps j default hjl
  have hcc := hc (ps.getD j default) (by rw [List.getD_eq_getElem?_getD, List.getElem?_eq_getElem hjl]; exact List.getElem_mem _)
  obtain ⟨p, hp⟩ : ∃ p, ps.getD j default = p := ⟨_, rfl⟩
  rw [hp] at gx hcc
  (repeat (first | refine gO rfl ?_ | (refine gR fun K1 hK1 => ?_; simp only [go_sem, ↓reduceIte, reduceCtorEq, nA, nB, nC, nD, nE, nF, hT, hml, Int.toNat_natCast, gx, encR] <;> and_intros <;> first | (apply hK1; clear hK1 K1) | (intros; first | omega | decide) | skip)))
  refine hcc.mono ?_; rintro _ hz ⟨rfl, hh⟩; apply hK1; clear hK1 K1; rw [hh]; clear hh hz
  cases hb : pr p with
  | true =>
   (repeat (first | refine gO rfl ?_ | (refine gR fun K1 hK1 => ?_; simp only [go_sem, ↓reduceIte, reduceCtorEq, nA, nB, nC, nD, nE, nF] <;> and_intros <;> first | (apply hK1; clear hK1 K1) | (intros; first | omega | decide) | skip)))
   refine awp_cond (t := _) rfl (fun _ => ?_) (fun h9 => by cases h9)
   (repeat (first | refine gO rfl ?_ | (refine gR fun K1 hK1 => ?_; simp only [go_sem, ↓reduceIte, reduceCtorEq, nA, nB, nC, nD, nE, nF] <;> and_intros <;> first | (apply hK1; clear hK1 K1) | (intros; first | omega | decide) | skip)))
   simp only [Tryz.results163, go_sem, ↓reduceIte, reduceCtorEq, nA, nB, nC, nD, nE, nF]
   exact ⟨_, _, Weak.refl _, Hp.le.refl _, by rw [idxR_at hjl (by rw [hp]; exact hb) hn], rfl⟩
  | false =>
   (repeat (first | refine gO rfl ?_ | (refine gR fun K1 hK1 => ?_; simp only [go_sem, ↓reduceIte, reduceCtorEq, nA, nB, nC, nD, nE, nF] <;> and_intros <;> first | (apply hK1; clear hK1 K1) | (intros; first | omega | decide) | skip)))
   refine awp_cond (t := _) rfl (fun h9 => by cases h9) (fun _ => ?_)
   (repeat (first | refine gO rfl ?_ | (refine gR fun K1 hK1 => ?_; simp only [go_sem, ↓reduceIte, reduceCtorEq, nA, nB, nC, nD, nE, nF] <;> and_intros <;> first | (apply hK1; clear hK1 K1) | (intros; first | omega | decide) | skip)))
   refine ⟨g - 1, by omega, j + 1, by omega, fun i hi => ?_, rfl⟩
   rcases Nat.lt_succ_iff_lt_or_eq.1 hi with h9 | rfl
   ·exact hn i h9
   ·rw [hp]; exact hb
 ·simp only [decide_eq_false_iff_not] at h1
  (repeat (first | refine gO rfl ?_ | (refine gR fun K1 hK1 => ?_; simp only [go_sem, ↓reduceIte, reduceCtorEq, nA, nB, nC, nD, nE, nF] <;> and_intros <;> first | (apply hK1; clear hK1 K1) | (intros; first | omega | decide) | skip)))
  simp only [Tryz.results163, go_sem, ↓reduceIte, reduceCtorEq, nA, nB, nC, nD, nE, nF]
  exact ⟨_, _, Weak.refl _, Hp.le.refl _, by rw [idxR_no (fun i hi => hn i (by omega))], rfl⟩
theorem idxR_cases (pr : Nat → Bool) (ps : List Nat) : ((∀ p ∈ ps, pr p = false) ∧ idxR pr ps = -1) ∨ ∃ j, j < ps.length ∧ idxR pr ps = j ∧ pr (ps.getD j default) = true ∧ ∀ i, i < j → pr (ps.getD i default) = false := by
 unfold idxR
 cases e : ps.findIdx? pr with
 | none =>
  rw [List.findIdx?_eq_none_iff] at e
  exact .inl ⟨e, rfl⟩
 | some j =>
  rw [List.findIdx?_eq_some_iff_getElem] at e
  obtain ⟨hj, h1, h2⟩ := e
  refine .inr ⟨j, hj, rfl, ?_, fun i hi => ?_⟩
  ·rw [List.getD_eq_getElem?_getD, List.getElem?_eq_getElem hj]; exact h1
  ·have := h2 i hi
   rw [List.getD_eq_getElem?_getD, List.getElem?_eq_getElem (by omega)]
   simpa using this
theorem getD_mid' {α : Type} (A : List α) (x : α) (B : List α) (d : α) : (A ++ x :: B).getD A.length d = x := by
 rw [List.getD_eq_getElem?_getD, List.getElem?_append_right (Nat.le_refl _), Nat.sub_self]; rfl
theorem set_mid' {α : Type} (A : List α) (x y : α) (B : List α) : (A ++ x :: B).set A.length y = A ++ y :: B := by
 rw [List.set_append_right _ _ (Nat.le_refl _), Nat.sub_self]; rfl
theorem drop_at' {α : Type} (l : List α) (j : Nat) (d : α) (h : j < l.length) : l.drop j = l.getD j d :: l.drop (j + 1) := by
 rw [List.drop_eq_getElem_cons h, List.getD_eq_getElem?_getD, List.getElem?_eq_getElem h]; rfl
theorem take_at' {α : Type} (l : List α) (j : Nat) (d : α) (h : j < l.length) : l.take (j + 1) = l.take j ++ [l.getD j d] := by
 rw [List.take_add_one, List.getElem?_eq_getElem h, List.getD_eq_getElem?_getD, List.getElem?_eq_getElem h]; rfl
theorem g_delK {f : Nat} {caps : List AV} (pr : Nat → Bool) (k : Nat) (ps : List Nat) (h : Hp) (hT : h.T k = some (.cont 1 (ps.map encR))) (hl : ps.length ≤ 100000)
  (hc : ∀ p ∈ ps, ∀ T', ACalls Tryz.prog f ([.ptr p 0] ++ caps) ⟨h.H, T'⟩ (fun r h' => r = .v (.bool (pr p)) ∧ h' = ⟨h.H, T'⟩)) :
  ACalls Tryz.prog 166 [.arr 1 k ps.length, .fn f caps] h (fun r h' => ∃ q, r = .arr 1 q (ps.filter fun p => !pr p).length ∧ h'.H = h.H ∧ h'.T q = some (.cont 1 ((ps.filter fun p => !pr p).map encR)) ∧ ∀ t, t ≠ k → h.T t ≠ none → t ≠ q ∧ h'.T t = h.T t) := by
 have hix := g_idxK pr k ps h hT hl (fun p hp => hc p hp h.T)
 refine gE Tryz.func166 rfl (by kernel_rfl) 40 rfl fun c => ?_
 (repeat (first | refine gO rfl ?_ | (refine gM zM10 fun K1 hK1 => ?_; simp only [go_sem, ↓reduceIte, reduceCtorEq, nA, nB, nC, nD, nE, nF] <;> and_intros <;> first | (apply hK1; clear hK1 K1) | (intros; first | omega | decide | (simp_all <;> omega)) | skip)))
 refine hix.mono ?_; rintro _ hz ⟨rfl, hh⟩; apply hK1; clear hK1 K1; rw [hh]; clear hh hz
 clear hix
 rcases idxR_cases pr ps with ⟨hno, e⟩ | ⟨j0, hj0, e, hp0, hn0⟩
 ·rw [e]
  have ef : ps.filter (fun p => !pr p) = ps := List.filter_eq_self.2 fun p hp => by simp [hno p hp]
  rw [ef]
  have hb : ((-1 : Int) == -1) = true := rfl
  clear hc
  (repeat (first | refine gO rfl ?_ | (refine gM zM10 fun K1 hK1 => ?_; simp only [go_sem, ↓reduceIte, reduceCtorEq, nA, nB, nC, nD, nE, nF, hb] <;> and_intros <;> first | (apply hK1; clear hK1 K1) | (intros; first | omega | decide) | skip)))
  refine awp_cond (t := _) rfl (fun _ => ?_) (fun h9 => by cases h9)
  (repeat (first | refine gO rfl ?_ | (refine gM zM10 fun K1 hK1 => ?_; simp only [go_sem, ↓reduceIte, reduceCtorEq, nA, nB, nC, nD, nE, nF] <;> and_intros <;> first | (apply hK1; clear hK1 K1) | (intros; first | omega | decide) | skip)))
  simp only [Tryz.results166, go_sem, ↓reduceIte, reduceCtorEq, nA, nB, nC, nD, nE, nF]
  exact ⟨_, _, Weak.refl _, Hp.le.refl _, k, rfl, rfl, hT, fun t ht _ => ⟨ht, rfl⟩⟩
 ·rw [e]
  have hb : ((j0 : Int) == -1) = false := by
   rw [beq_eq_false_iff_ne]; omega
  (repeat (first | refine gO rfl ?_ | (refine gM zM10 fun K1 hK1 => ?_; simp only [go_sem, ↓reduceIte, reduceCtorEq, nA, nB, nC, nD, nE, nF, hb] <;> and_intros <;> first | (apply hK1; clear hK1 K1) | (intros; first | omega | decide) | skip)))
  refine awp_cond (t := _) rfl (fun h9 => by cases h9) (fun _ => ?_)
  (repeat (first | refine gO rfl ?_ | (refine gM zM10 fun K1 hK1 => ?_; simp only [go_sem, ↓reduceIte, reduceCtorEq, nA, nB, nC, nD, nE, nF] <;> and_intros <;> first | (apply hK1; clear hK1 K1) | (intros; first | omega | decide) | skip)))
  have hT0 : (ps.take j0).filter (fun p => !pr p) = ps.take j0 := List.filter_eq_self.2 fun p hp => by
   obtain ⟨i, hi, rfl⟩ := List.getElem_of_mem hp
   rw [List.length_take] at hi
   have h9 := hn0 i (by omega)
   rw [List.getD_eq_getElem?_getD, List.getElem?_eq_getElem (by omega)] at h9
   rw [List.getElem_take]
   simpa using h9
  refine awp_loopC (rl false [0, 2, 3, 2, 35]) 0 (fun g s => ∃ (j : Nat) (Fl M : List Nat), g + j = ps.length ∧ Fl = (ps.take j).filter (fun p => !pr p) ∧ M ≠ [] ∧ Fl.length + M.length = j ∧
   s = ⟨((.arr 1 k ps.length) :: (.fn f caps) :: (jnk 3 ((.v (.int .i64 Fl.length)) :: (.v (.int .i64 j)) :: (jnk 35 [])))), [], ⟨h.H, upd h.T k (some (.cont 1 ((Fl ++ (M ++ ps.drop j)).map encR)))⟩⟩) (ps.length - (j0 + 1))
   ⟨j0 + 1, ps.take j0, [ps.getD j0 default], by omega, by rw [take_at' ps j0 default hj0, List.filter_append, hT0, List.filter_cons_of_neg (p := fun p => !pr p) (show ¬ (!pr (ps.getD j0 default)) = true by rw [hp0]; decide)]; simp, by simp, by rw [List.length_take, List.length_singleton]; omega, ?_⟩ ?_
  ·have e1 : ps.take j0 ++ ([ps.getD j0 default] ++ ps.drop (j0 + 1)) = ps := by
    rw [List.singleton_append, ← drop_at' ps j0 default hj0, List.take_append_drop]
   have e2 : upd h.T k (some (TO.cont 1 (ps.map encR))) = h.T := by
    funext q
    by_cases e : q = k
    ·rw [e, upd_same, hT]
    ·rw [upd_other _ _ e]
   have e3 : (ps.take j0).length = j0 := by rw [List.length_take]; omega
   rw [e1, e2, e3]; rfl
  rintro g _ ⟨j, Fl, M, hj, hF, hM, hlen, rfl⟩
  have hTq : ∀ X, upd h.T k (some (TO.cont 1 X)) k = some (.cont 1 X) := fun X => upd_same _ _ _
  have hcl : ((Fl ++ (M ++ ps.drop j)).map encR).length = ps.length := by simp; omega
  (repeat (first | refine gO rfl ?_ | (refine gM zM10 fun K1 hK1 => ?_; simp only [go_sem, ↓reduceIte, reduceCtorEq, nA, nB, nC, nD, nE, nF] <;> and_intros <;> first | (apply hK1; clear hK1 K1) | (intros; first | omega | decide) | skip)))
  refine awp_cond (t := _) rfl (fun h1 => ?_) (fun h1 => ?_)
  ·simp only [decide_eq_true_eq] at h1
   have hjl : j < ps.length := by omega
   have hdj := drop_at' ps j default hjl
   have htj := take_at' ps j default hjl
   have hvm : ps.getD j default ∈ ps := by
    rw [List.getD_eq_getElem?_getD, List.getElem?_eq_getElem hjl]; exact List.getElem_mem _
   obtain ⟨v, hv⟩ : ∃ v, ps.getD j default = v := ⟨_, rfl⟩
   rw [hv] at hdj htj hvm
   have gx : ((Fl ++ (M ++ ps.drop j)).map encR).getD j [] = encR v := by
    rw [hdj, ← List.append_assoc, List.map_append, List.map_cons]
    have := getD_mid' ((Fl ++ M).map encR) (encR v) ((ps.drop (j + 1)).map encR) []
    rwa [List.length_map, List.length_append, hlen] at this
   have hcc := fun T' => hc v hvm T'
   obtain ⟨m0, M1, rfl⟩ := List.exists_cons_of_ne_nil hM
   have gs : (((Fl ++ (m0 :: M1 ++ ps.drop j)).map encR).set Fl.length (encR v)) = (((Fl ++ [v]) ++ ((M1 ++ [v]) ++ ps.drop (j + 1))).map encR) := by
    rw [hdj, List.map_append, List.cons_append, List.map_cons]
    have := set_mid' (Fl.map encR) (encR m0) (encR v) ((M1 ++ v :: ps.drop (j + 1)).map encR)
    rw [List.length_map] at this
    rw [this]; simp
   have hfl : Fl.length < ps.length := by simp at hlen; omega
   have gd : (((Fl ++ (m0 :: M1 ++ ps.drop j)).map encR).getD Fl.length []) = encR m0 := by
    rw [List.map_append, List.cons_append, List.map_cons]
    have := getD_mid' (Fl.map encR) (encR m0) ((M1 ++ ps.drop j).map encR) []
    rwa [List.length_map] at this
   simp only [encR] at gs gd
   generalize hct : (Fl ++ (m0 :: M1 ++ ps.drop j)).map encR = ct at *
   (repeat (first | refine gO rfl ?_ | (refine gM zM10 fun K1 hK1 => ?_; simp only [go_sem, ↓reduceIte, reduceCtorEq, nA, nB, nC, nD, nE, nF, hTq, hcl, Int.toNat_natCast, gx, encR] <;> and_intros <;> first | (apply hK1; clear hK1 K1) | (intros; first | omega | decide) | skip)))
   refine (hcc _).mono ?_; rintro _ hz ⟨rfl, hh⟩; apply hK1; clear hK1 K1; rw [hh]; clear hh hz
   cases hpv : pr v with
   | true =>
    (repeat (first | refine gO rfl ?_ | (refine gM zM10 fun K1 hK1 => ?_; simp only [go_sem, ↓reduceIte, reduceCtorEq, nA, nB, nC, nD, nE, nF] <;> and_intros <;> first | (apply hK1; clear hK1 K1) | (intros; first | omega | decide) | skip)))
    refine awp_cond (t := _) rfl (fun h9 => by cases h9) (fun _ => ?_)
    (repeat (first | refine gO rfl ?_ | (refine gM zM10 fun K1 hK1 => ?_; simp only [go_sem, ↓reduceIte, reduceCtorEq, nA, nB, nC, nD, nE, nF] <;> and_intros <;> first | (apply hK1; clear hK1 K1) | (intros; first | omega | decide) | skip)))
    refine ⟨g - 1, by omega, j + 1, Fl, m0 :: M1 ++ [v], by omega, by rw [htj, List.filter_append, ← hF]; simp [hpv], by simp, by simp at hlen ⊢; omega, ?_⟩
    rw [← hct, hdj]
    simp only [List.append_assoc, List.cons_append, List.nil_append]
    rfl
   | false =>
    (repeat (first | refine gO rfl ?_ | (refine gM zM10 fun K1 hK1 => ?_; simp only [go_sem, ↓reduceIte, reduceCtorEq, nA, nB, nC, nD, nE, nF] <;> and_intros <;> first | (apply hK1; clear hK1 K1) | (intros; first | omega | decide) | skip)))
    refine awp_cond (t := _) rfl (fun _ => ?_) (fun h9 => by cases h9)
    (repeat (first | refine gO rfl ?_ | (refine gM zM10 fun K1 hK1 => ?_; simp only [go_sem, ↓reduceIte, reduceCtorEq, nA, nB, nC, nD, nE, nF, hTq, hcl, Int.toNat_natCast, gd, upd_upd] <;> and_intros <;> first | (apply hK1; clear hK1 K1) | (intros; first | omega | decide) | skip)))
    refine ⟨g - 1, by omega, j + 1, Fl ++ [v], M1 ++ [v], by omega, by rw [htj, List.filter_append, ← hF]; simp [hpv], by simp, by simp at hlen ⊢; omega, ?_⟩
    simp only [List.drop_succ_cons, List.drop_zero, gs, List.length_append, List.length_singleton]
    rfl
  ·simp only [decide_eq_false_iff_not] at h1
   have hjl : j = ps.length := by omega
   subst hjl
   rw [List.take_length] at hF
   rw [List.drop_length, List.append_nil] at *
   clear h1 hj hc
   (repeat refine gO rfl ?_)
   have hml : (Fl ++ M).length = ps.length := by rw [List.length_append]; exact hlen
   have hMl := List.length_pos_iff.2 hM
   refine awp_seq ?_
   refine awp_AL ?_
   refine AL.cons rfl (Quiet.aop (q_move (.inl rfl)) ?_)
   refine AL.cons rfl (Quiet.aop (q_move (.inl rfl)) ?_)
   refine al_clear (z := 1) (k := k) (n := ps.length) (j := Fl.length) (xs := (Fl ++ M).map encR) tyok rfl rfl rfl rfl rfl rfl rfl rfl (upd_same _ _ _) (by rw [List.length_map, hml]) (by omega) (by omega) rfl rfl (by decide) (show 38 < 42 by decide) ?_
   have hfin : ((Fl ++ M).map encR).take ((Fl.length : Int)).toNat ++ List.replicate (ps.length - ((Fl.length : Int)).toNat) [AV.v (Value.pointer none)] = Fl.map encR ++ List.replicate M.length [AV.v (Value.pointer none)] := by
    rw [Int.toNat_natCast, List.map_append, List.take_append_of_le_length (by rw [List.length_map]; exact Nat.le_refl _), List.take_of_length_le (by rw [List.length_map]; exact Nat.le_refl _)]
    congr 2
    omega
   refine awp_cut (rl false [0, 1, 4, 1, 36]) 0 (?_ : Awp _ _ _ _ ⟨((.arr 1 k ps.length) :: (jnk 4 ((.v (.int .i64 Fl.length)) :: (jnk 36 [])))), [], ⟨h.H, upd (upd h.T k (some (.cont 1 ((Fl ++ M).map encR)))) k (some (.cont 1 (((Fl ++ M).map encR).take ((Fl.length : Int)).toNat ++ List.replicate (ps.length - ((Fl.length : Int)).toNat) [AV.v (Value.pointer none)])))⟩⟩)
   rw [hfin, upd_upd]
   have hzl : (Fl.map encR ++ List.replicate M.length [AV.v (Value.pointer none)]).length = ps.length := by simp; omega
   have htk : (Fl.map encR ++ List.replicate M.length [AV.v (Value.pointer none)]).take Fl.length = Fl.map encR := by
    rw [List.take_append_of_le_length (by rw [List.length_map]; exact Nat.le_refl _), List.take_of_length_le (by rw [List.length_map]; exact Nat.le_refl _)]
   generalize Fl.map encR ++ List.replicate M.length [AV.v (Value.pointer none)] = Z at hzl htk ⊢
   have hTz : ∀ X, upd h.T k (some (TO.cont 1 X)) k = some (.cont 1 X) := fun X => upd_same _ _ _
   (repeat (first | refine gO rfl ?_ | (refine gM zM10 fun K1 hK1 => ?_; simp only [go_sem, ↓reduceIte, reduceCtorEq, nA, nB, nC, nD, nE, nF, hTz, hzl] <;> and_intros <;> first | (apply hK1; clear hK1 K1) | (intros; first | omega | decide) | skip)))
   ·trivial
   ·trivial
   intro q hq
   rw [Int.toNat_natCast, htk]
   refine hK1 _ ?_; clear hK1 K1
   have hqk : q ≠ k := by
    intro e
    rw [e, upd_same] at hq; cases hq
   rw [upd_other _ _ hqk] at hq
   (repeat (first | refine gO rfl ?_ | (refine gM zM10 fun K1 hK1 => ?_; simp only [go_sem, ↓reduceIte, reduceCtorEq, nA, nB, nC, nD, nE, nF] <;> and_intros <;> first | (apply hK1; clear hK1 K1) | (intros; first | omega | decide) | skip)))
   rw [← hF]
   simp only [Tryz.results166, go_sem, ↓reduceIte, reduceCtorEq, nA, nB, nC, nD, nE, nF]
   refine ⟨_, _, Weak.refl _, Hp.le.refl _, q, rfl, rfl, upd_same _ _ _, fun t ht hn => ?_⟩
   have htq : t ≠ q := fun e => hn (e ▸ hq)
   exact ⟨htq, (upd_other _ _ htq).trans (upd_other _ _ ht)⟩
abbrev zP0E : List Nat := [0, 1, 2, 3, 4, 5, 6]
abbrev zP0P : List (Nat × List Nat × List Nat) := []
attribute [go_sem] zP0E zP0P
def CacheH (h : Hp) (K : Nat → Kp) (ps : List Nat) : Prop := ∀ p ∈ ps, h.H p = some (.cells (encKp (K p)))
def encCa (room rule now : Int) (k n : Nat) : List AV := [.v (.int .i64 room), .v (.int .i64 rule), .v (.int .i64 now), .arr 1 k n]
def nilP : AV := .v (Value.pointer none)
def findF (item : ByteArray) (K : Nat → Kp) (ps : List Nat) : AV := match ps.find? (fun p => (K p).1 == item) with
 | some p => .ptr p 0
 | none => nilP
theorem g_find1 {item : ByteArray} {x : Kp} {p : Nat} {h : Hp} (hp : h.H p = some (.cells (encKp x))) :
  ACalls Tryz.prog 164 ([.ptr p 0] ++ [.ref [.v (.string item)] 0]) h (fun r h' => r = .v (.bool (x.1 == item)) ∧ h' = h) := by
 obtain ⟨k, b, pi, ca, la, ma⟩ := x
 refine gE Tryz.func164 rfl (by kernel_rfl) 8 rfl fun c => ?_
 (repeat (first | refine gO rfl ?_ | ((first | refine gR ?_ | (with_reducible refine wM ?_ ?_) | ((with_reducible refine xS ?_); refine uD 1 zM11 zP0E zP0P 10 rfl (by kernel_rfl) ?_)) <;> ((try with_reducible intro K1 hK1); simp only [go_sem, ↓reduceIte, reduceCtorEq, nA, nB, nC, nD, nE, nF, hp, encKp] <;> and_intros <;> first | (apply hK1; clear hK1 K1) | (intros; first | omega | decide | (simp_all <;> omega)) | skip))))
 simp only [Tryz.results164, go_sem, ↓reduceIte, reduceCtorEq, nA, nB, nC, nD, nE, nF]
 exact ⟨_, _, Weak.refl _, Hp.le.refl _, rfl, rfl⟩
theorem g_find {item : ByteArray} (K : Nat → Kp) (ci k : Nat) (room rule now : Int) (ps : List Nat) (h : Hp) (hC : h.H ci = some (.cells (encCa room rule now k ps.length))) (hT : h.T k = some (.cont 1 (ps.map encR))) (hl : ps.length ≤ 100000) (hK : CacheH h K ps) :
  ACalls Tryz.prog 120 [.ptr ci 0, .v (.string item)] h (fun r h' => r = findF item K ps ∧ h' = h) := by
 have hix := g_idxK (fun p => (K p).1 == item) k ps h hT hl (fun p hp => g_find1 (item := item) (hK p hp))
 have hml : (ps.map encR).length = ps.length := List.length_map _
 refine gE Tryz.func120 rfl (by kernel_rfl) 19 rfl fun c => ?_
 (repeat (first | refine gO rfl ?_ | (refine gR fun K1 hK1 => ?_; simp only [go_sem, ↓reduceIte, reduceCtorEq, nA, nB, nC, nD, nE, nF, hC, encCa] <;> and_intros <;> first | (apply hK1; clear hK1 K1) | (intros; first | omega | decide | (simp_all <;> omega)) | skip)))
 refine hix.mono ?_; rintro _ hz ⟨rfl, hh⟩; apply hK1; clear hK1 K1; rw [hh]; clear hh hz
 clear hix
 rcases idxR_cases (fun p => (K p).1 == item) ps with ⟨hno, e⟩ | ⟨j0, hj0, e, hp0, hn0⟩
 ·rw [e]
  have ef : findF item K ps = nilP := by
   rw [findF, List.find?_eq_none.2 fun p hp => by simp only [hno p hp]; decide]
  (repeat (first | refine gO rfl ?_ | (refine gR fun K1 hK1 => ?_; simp only [go_sem, ↓reduceIte, reduceCtorEq, nA, nB, nC, nD, nE, nF] <;> and_intros <;> first | (apply hK1; clear hK1 K1) | (intros; first | omega | decide) | skip)))
  refine awp_cond (t := _) rfl (fun _ => ?_) (fun h9 => by simp at h9)
  (repeat (first | refine gO rfl ?_ | (refine gR fun K1 hK1 => ?_; simp only [go_sem, ↓reduceIte, reduceCtorEq, nA, nB, nC, nD, nE, nF] <;> and_intros <;> first | (apply hK1; clear hK1 K1) | (intros; first | omega | decide) | skip)))
  simp only [Tryz.results120, go_sem, ↓reduceIte, reduceCtorEq, nA, nB, nC, nD, nE, nF]
  exact ⟨_, _, Weak.refl _, Hp.le.refl _, by rw [ef]; rfl, rfl⟩
 ·rw [e]
  have ef : findF item K ps = .ptr (ps.getD j0 default) 0 := by
   have hfd : ps.find? (fun p => (K p).1 == item) = some (ps.getD j0 default) := List.find?_eq_some_iff_getElem.2 ⟨hp0, j0, hj0, by rw [List.getD_eq_getElem?_getD, List.getElem?_eq_getElem hj0]; rfl, fun i hi => by
    have := hn0 i hi
    rw [List.getD_eq_getElem?_getD, List.getElem?_eq_getElem (by omega)] at this
    simpa using this⟩
   rw [findF, hfd]
  have gx : (ps.map encR).getD j0 [] = encR (ps.getD j0 default) := getD_enc encR ps j0 default hj0
  (repeat (first | refine gO rfl ?_ | (refine gR fun K1 hK1 => ?_; simp only [go_sem, ↓reduceIte, reduceCtorEq, nA, nB, nC, nD, nE, nF] <;> and_intros <;> first | (apply hK1; clear hK1 K1) | (intros; first | omega | decide) | skip)))
  refine awp_cond (t := _) rfl (fun h9 => by simp at h9; omega) (fun _ => ?_)
  (repeat (first | refine gO rfl ?_ | (refine gR fun K1 hK1 => ?_; simp only [go_sem, ↓reduceIte, reduceCtorEq, nA, nB, nC, nD, nE, nF, hC, encCa, hT, hml, Int.toNat_natCast, gx, encR] <;> and_intros <;> first | (apply hK1; clear hK1 K1) | (intros; first | omega | decide) | skip)))
  simp only [Tryz.results120, go_sem, ↓reduceIte, reduceCtorEq, nA, nB, nC, nD, nE, nF]
  exact ⟨_, _, Weak.refl _, Hp.le.refl _, ef.symm, rfl⟩
def orderL (rule : Int) (L : List Kp) : List Kp := sortI (cmpK rule) (L.filter fun x => !x.2.2.1)
def overL (item : ByteArray) : List Kp → Int → Int
  | [], o => o
  | x :: l, o => overL item l (if x.1 = item then o else o + x.2.1)
def goL (item : ByteArray) : List Kp → Int → List Kp × Int
  | [], o => ([], o)
  | x :: l, o => if o ≤ 0 then ([], o) else if x.1 = item then goL item l o else (x :: (goL item l (o - x.2.1)).1, (goL item l (o - x.2.1)).2)
def goingL (item : ByteArray) (bytes room rule : Int) (L : List Kp) : List Kp × Int := goL item (orderL rule L) (overL item L (bytes - room))
theorem insR_map {α β : Type} (f : α → β) (c : β → β → Int) : ∀ (r : List α) (x : α), (insR (fun a b => c (f a) (f b)) r x).map f = insR c (r.map f) (f x)
  | [], _ => rfl
  | y :: r, x => by
    unfold insR
    simp only [List.map_cons]
    split
    · rw [List.map_cons, insR_map f c r x]
    · simp
theorem foldI_map {α β : Type} (f : α → β) (c : β → β → Int) : ∀ (xs r : List α), (xs.foldl (insR (fun a b => c (f a) (f b))) r).map f = (xs.map f).foldl (insR c) (r.map f)
  | [], _ => rfl
  | x :: xs, r => by rw [List.foldl_cons, foldI_map f c xs, insR_map, List.map_cons, List.foldl_cons]
theorem sortI_map {α β : Type} (f : α → β) (c : β → β → Int) (xs : List α) : (sortI (fun a b => c (f a) (f b)) xs).map f = sortI c (xs.map f) := by
  unfold sortI insS
  rw [List.map_reverse, foldI_map]; rfl
theorem orderF_map (rule : Int) (K : Nat → Kp) (ps : List Nat) : (orderF rule K ps).map K = orderL rule (ps.map K) := by
  unfold orderF orderL
  rw [sortI_map, List.filter_map]; rfl
theorem overF_map (item : ByteArray) (K : Nat → Kp) : ∀ (ps : List Nat) (o : Int), overF item K ps o = overL item (ps.map K) o
  | [], _ => rfl
  | p :: ps, o => by rw [overF, List.map_cons, overL, overF_map item K ps]
theorem goF_map (item : ByteArray) (K : Nat → Kp) : ∀ (ps : List Nat) (o : Int), ((goF item K ps o).1.map K, (goF item K ps o).2) = goL item (ps.map K) o
  | [], _ => rfl
  | p :: ps, o => by
    rw [List.map_cons, goF, goL]
    split
    · rfl
    · split
      · exact goF_map item K ps o
      · have := goF_map item K ps (o - (K p).2.1)
        rw [Prod.ext_iff] at this
        rw [← this.1, ← this.2]; rfl
theorem goingF_map (item : ByteArray) (bytes room rule : Int) (K : Nat → Kp) (ps : List Nat) : ((goingF item bytes room rule K ps).1.map K, (goingF item bytes room rule K ps).2) = goingL item bytes room rule (ps.map K) := by
  unfold goingF goingL
  rw [goF_map, orderF_map, overF_map]
def newK (item : ByteArray) (bytes now : Int) : Kp := (item, bytes, false, now + 1, now + 1, 1)
def askF (t : Int) (x : Kp) : Kp := (x.1, x.2.1, x.2.2.1, x.2.2.2.1, t, x.2.2.2.2.2 + 1)
def setB (b : Int) (x : Kp) : Kp := (x.1, b, x.2.2.1, x.2.2.2.1, x.2.2.2.2.1, x.2.2.2.2.2)
def hasL (item : ByteArray) (L : List Kp) : Bool := L.any fun x => x.1 == item
def atK (item : ByteArray) (f : Kp → Kp) (L : List Kp) : List Kp := L.map fun x => if x.1 = item then f x else x
def leftL (gone L : List Kp) : List Kp := L.filter fun x => !gone.any fun y => y.1 == x.1
def putL (room rule now : Int) (L : List Kp) (item : ByteArray) (bytes : Int) : Option (List Kp × List Kp) :=
  if (goingL item bytes room rule L).2 ≤ 0 then some (if hasL item L then atK item (fun x => askF (now + 1) (setB bytes x)) (leftL (goingL item bytes room rule L).1 L) else leftL (goingL item bytes room rule L).1 L ++ [newK item bytes now], (goingL item bytes room rule L).1) else none
def missL (room rule : Int) : List ByteArray → Int → List Kp → Int → Option Int
  | [], _, _, n => some n
  | s :: l, now, L, n => if hasL s L then missL room rule l (now + 1) (atK s (askF (now + 1)) L) n else
    match putL room rule now L s 1 with
    | some (L', _) => missL room rule l (now + 1) L' (n + 1)
    | none => none
theorem hasL_iff {item : ByteArray} {L : List Kp} : hasL item L = true ↔ ∃ x ∈ L, x.1 = item := by
  unfold hasL
  rw [List.any_eq_true]
  constructor
  · rintro ⟨x, hx, h⟩; exact ⟨x, hx, by rw [ba_beq] at h; simpa using h⟩
  · rintro ⟨x, hx, h⟩; exact ⟨x, hx, by rw [ba_beq]; simpa using h⟩
def KeysOne (L : List Kp) : Prop := L.Pairwise fun x y => x.1 ≠ y.1
theorem keysOne_map {K : Nat → Kp} {ps : List Nat} (h : KeysOne (ps.map K)) {p q : Nat} (hp : p ∈ ps) (hq : q ∈ ps) (e : (K p).1 = (K q).1) : p = q := by
  induction ps with
  | nil => cases hp
  | cons z l ih =>
    rw [List.map_cons] at h
    obtain ⟨h1, h2⟩ := List.pairwise_cons.1 h
    have h1' : ∀ y ∈ l, (K z).1 ≠ (K y).1 := fun y hy => h1 _ (List.mem_map_of_mem hy)
    rcases List.mem_cons.1 hp with ep | hp
    · rcases List.mem_cons.1 hq with eq | hq
      · rw [ep, eq]
      · exact absurd (ep ▸ e) (h1' q hq)
    · rcases List.mem_cons.1 hq with eq | hq
      · exact absurd (eq ▸ e.symm) (h1' p hp)
      · exact ih h2 hp hq
theorem stayF_map {K : Nat → Kp} {gone ps : List Nat} (h : KeysOne (ps.map K)) (hg : ∀ p ∈ gone, p ∈ ps) : (stayF gone ps).map K = leftL (gone.map K) (ps.map K) := by
  unfold stayF leftL
  rw [List.filter_map]
  congr 1
  refine List.filter_congr fun p hp => ?_
  simp only [Function.comp, List.any_map]
  congr 1
  rw [Bool.eq_iff_iff, List.contains_iff_mem, List.any_eq_true]
  constructor
  · intro hm; exact ⟨p, hm, by show ((K p).1 == (K p).1) = true; rw [ba_beq]; simp⟩
  · rintro ⟨q, hq, e⟩
    have e2 : (K q).1 = (K p).1 := by
      have e3 : ((K q).1 == (K p).1) = true := e
      rw [ba_beq] at e3; simpa using e3
    rwa [keysOne_map h (hg q hq) hp e2] at hq
theorem keysOne_filter {L : List Kp} (h : KeysOne L) (p : Kp → Bool) : KeysOne (L.filter p) := h.filter p
theorem atK_map {K : Nat → Kp} {ps : List Nat} {p : Nat} {item : ByteArray} (f : Kp → Kp) (h : KeysOne (ps.map K)) (hp : p ∈ ps) (hk : (K p).1 = item) : ps.map (fun q => if q = p then f (K p) else K q) = atK item f (ps.map K) := by
  unfold atK
  rw [List.map_map]
  refine List.map_congr_left fun q hq => ?_
  simp only [Function.comp]
  by_cases e : q = p
  · subst e; rw [if_pos rfl, if_pos hk]
  · rw [if_neg e, if_neg fun e2 => e (keysOne_map h hq hp (e2.trans hk.symm))]
theorem atK_keys (item : ByteArray) (f : Kp → Kp) (hf : ∀ x, (f x).1 = x.1) (L : List Kp) : (atK item f L).map (·.1) = L.map (·.1) := by
  unfold atK
  rw [List.map_map]
  refine List.map_congr_left fun x _ => ?_
  simp only [Function.comp]
  split <;> simp [hf]
theorem keysOne_iff (L : List Kp) : KeysOne L ↔ (L.map (·.1)).Pairwise (· ≠ ·) := by rw [List.pairwise_map]; rfl
theorem atK_one {item : ByteArray} {f : Kp → Kp} (hf : ∀ x, (f x).1 = x.1) {L : List Kp} (h : KeysOne L) : KeysOne (atK item f L) := by
  rw [keysOne_iff, atK_keys item f hf, ← keysOne_iff]; exact h
theorem leftL_sub {gone L : List Kp} {x : Kp} (h : x ∈ leftL gone L) : x ∈ L := (List.mem_filter.1 h).1
theorem putL_one {room rule now bytes : Int} {L L' g : List Kp} {item : ByteArray} (h : putL room rule now L item bytes = some (L', g)) (h1 : KeysOne L) : KeysOne L' := by
  unfold putL at h
  split at h
  · simp only [Option.some.injEq, Prod.mk.injEq] at h
    obtain ⟨rfl, _⟩ := h
    split
    · exact atK_one (f := fun x => askF (now + 1) (setB bytes x)) (fun _ => rfl) (keysOne_filter h1 _)
    · rename_i hh
      refine List.pairwise_append.2 ⟨keysOne_filter h1 _, by simp, fun x hx y hy => ?_⟩
      simp only [List.mem_singleton] at hy
      subst hy
      intro e
      exact hh (hasL_iff.2 ⟨x, leftL_sub hx, e⟩)
  · cases h
theorem g_ask {x : Kp} {ci p k n : Nat} {room rule now : Int} {h : Hp} (hC : h.H ci = some (.cells (encCa room rule now k n))) (hp : h.H p = some (.cells (encKp x))) (hcp : ci ≠ p)
  (h1 : 0 ≤ now ∧ now ≤ 1000000000) (h2 : 0 ≤ x.2.2.2.2.2 ∧ x.2.2.2.2.2 ≤ 1000000000) :
  ACalls Tryz.prog 121 [.ptr ci 0, .ptr p 0] h (fun r h' => r = .tup [] ∧ h' = ⟨upd (upd h.H ci (some (.cells (encCa room rule (now + 1) k n)))) p (some (.cells (encKp (askF (now + 1) x)))), h.T⟩) := by
 obtain ⟨ke, b, pi, ca, la, ma⟩ := x
 have hpc : p ≠ ci := fun e => hcp e.symm
 refine gE Tryz.func121 rfl (by kernel_rfl) 23 rfl fun c => ?_
 (repeat (first | refine gO rfl ?_ | (refine gR fun K1 hK1 => ?_; simp only [go_sem, ↓reduceIte, reduceCtorEq, nA, nB, nC, nD, nE, nF, hC, hp, encKp, encCa, upd_same, upd_other _ _ hpc, upd_other _ _ hcp] <;> and_intros <;> first | (apply hK1; clear hK1 K1) | (intros; first | omega | decide | (simp_all <;> omega)) | skip)))
 simp only [Tryz.results121, go_sem, ↓reduceIte, reduceCtorEq, nA, nB, nC, nD, nE, nF]
 exact ⟨_, _, Weak.refl _, Hp.le.refl _, rfl, rfl⟩
theorem idxR_contains (p : Nat) (ps : List Nat) : decide (0 ≤ idxR (fun q => p == q) ps) = ps.contains p := by
 rcases idxR_cases (fun q => p == q) ps with ⟨hno, e⟩ | ⟨j, hj, e, hp, _⟩
 ·rw [e]
  cases hc : ps.contains p with
  | false => rfl
  | true => have := hno p (List.contains_iff_mem.1 hc); simp at this
 ·rw [e]
  have hm : ps.contains p = true := by
   rw [List.contains_iff_mem]
   have e1 : p = ps.getD j default := eq_of_beq hp
   rw [e1, List.getD_eq_getElem?_getD, List.getElem?_eq_getElem hj]
   exact List.getElem_mem _
  rw [hm]; simp
theorem g_indexK {K : Nat → Kp} (p k : Nat) (ps : List Nat) (h : Hp) (hp : h.H p = some (.cells (encKp (K p)))) (hK : CacheH h K ps) (hl : ps.length ≤ 100000) :
  ACalls Tryz.prog 192 [.row 1 (ps.map encR) (some k), .ptr p 0] h (fun r h' => r = .v (.int .i64 (idxR (fun q => p == q) ps)) ∧ h' = h) := by
 have hml : (ps.map encR).length = ps.length := List.length_map _
 refine gE Tryz.func192 rfl (by kernel_rfl) 17 rfl fun c => ?_
 (repeat (first | refine gO rfl ?_ | (refine gM zM12 fun K1 hK1 => ?_; simp only [go_sem, ↓reduceIte, reduceCtorEq, nA, nB, nC, nD, nE, nF] <;> and_intros <;> first | (apply hK1; clear hK1 K1) | (intros; first | omega | decide | (simp_all <;> omega)) | skip)))
 refine awp_loopC (rl false [0, 2, 5, 2, 10]) 0 (fun g s => ∃ j : Nat, g + j = ps.length ∧ (∀ i, i < j → (p == ps.getD i default) = false) ∧
  s = ⟨((.row 1 (ps.map encR) (some k)) :: (.ptr p 0) :: (jnk 5 ((.v (.int .i64 ps.length)) :: (.v (.int .i64 j)) :: (jnk 10 [])))), [], h⟩) ps.length ⟨0, by omega, fun i hi => by omega, by rw [← hml]; rfl⟩ ?_
 rintro g _ ⟨j, hj, hn, rfl⟩
 (repeat (first | refine gO rfl ?_ | (refine gM zM12 fun K1 hK1 => ?_; simp only [go_sem, ↓reduceIte, reduceCtorEq, nA, nB, nC, nD, nE, nF] <;> and_intros <;> first | (apply hK1; clear hK1 K1) | (intros; first | omega | decide) | skip)))
 refine awp_cond (t := _) rfl (fun h1 => ?_) (fun h1 => ?_)
 ·simp only [decide_eq_true_eq] at h1
  have hjl : j < ps.length := by omega
  have gx : (ps.map encR).getD j [] = encR (ps.getD j default) := getD_enc encR ps j default hjl
  obtain ⟨q, hq⟩ : ∃ q, ps.getD j default = q := ⟨_, rfl⟩
  have hhq : h.H q = some (.cells (encKp (K q))) := hK q (by rw [← hq, List.getD_eq_getElem?_getD, List.getElem?_eq_getElem hjl]; exact List.getElem_mem _)
  rw [hq] at gx
  (repeat (first | refine gO rfl ?_ | (refine gM zM12 fun K1 hK1 => ?_; simp only [go_sem, ↓reduceIte, reduceCtorEq, nA, nB, nC, nD, nE, nF, hml, Int.toNat_natCast, gx, encR, hp, hhq] <;> and_intros <;> first | (apply hK1; clear hK1 K1) | (intros; first | omega | decide) | skip)))
  cases hb : (p == q) with
  | true =>
   refine awp_cond (t := _) rfl (fun _ => ?_) (fun h9 => by cases h9)
   (repeat (first | refine gO rfl ?_ | (refine gM zM12 fun K1 hK1 => ?_; simp only [go_sem, ↓reduceIte, reduceCtorEq, nA, nB, nC, nD, nE, nF] <;> and_intros <;> first | (apply hK1; clear hK1 K1) | (intros; first | omega | decide) | skip)))
   simp only [Tryz.results192, go_sem, ↓reduceIte, reduceCtorEq, nA, nB, nC, nD, nE, nF]
   exact ⟨_, _, Weak.refl _, Hp.le.refl _, by rw [idxR_at hjl (by rw [hq]; exact hb) hn], rfl⟩
  | false =>
   refine awp_cond (t := _) rfl (fun h9 => by cases h9) (fun _ => ?_)
   (repeat (first | refine gO rfl ?_ | (refine gM zM12 fun K1 hK1 => ?_; simp only [go_sem, ↓reduceIte, reduceCtorEq, nA, nB, nC, nD, nE, nF] <;> and_intros <;> first | (apply hK1; clear hK1 K1) | (intros; first | omega | decide) | skip)))
   refine ⟨g - 1, by omega, j + 1, by omega, fun i hi => ?_, rfl⟩
   rcases Nat.lt_succ_iff_lt_or_eq.1 hi with h9 | rfl
   ·exact hn i h9
   ·rw [hq]; exact hb
 ·simp only [decide_eq_false_iff_not] at h1
  (repeat (first | refine gO rfl ?_ | (refine gM zM12 fun K1 hK1 => ?_; simp only [go_sem, ↓reduceIte, reduceCtorEq, nA, nB, nC, nD, nE, nF] <;> and_intros <;> first | (apply hK1; clear hK1 K1) | (intros; first | omega | decide) | skip)))
  simp only [Tryz.results192, go_sem, ↓reduceIte, reduceCtorEq, nA, nB, nC, nD, nE, nF]
  exact ⟨_, _, Weak.refl _, Hp.le.refl _, by rw [idxR_no (fun i hi => hn i (by omega))], rfl⟩
theorem g_hasK {K : Nat → Kp} (p k : Nat) (ps : List Nat) (h : Hp) (hp : h.H p = some (.cells (encKp (K p)))) (hK : CacheH h K ps) (hl : ps.length ≤ 100000) :
  ACalls Tryz.prog 168 [.row 1 (ps.map encR) (some k), .ptr p 0] h (fun r h' => r = .v (.bool (ps.contains p)) ∧ h' = h) := by
 have hix := g_indexK p k ps h hp hK hl
 rw [← idxR_contains]
 generalize idxR (fun q => p == q) ps = ix at *
 generalize ps.map encR = rw0 at *
 refine gE Tryz.func168 rfl (by kernel_rfl) 7 rfl fun c => ?_
 (repeat (first | refine gO rfl ?_ | (refine gR fun K1 hK1 => ?_; simp only [go_sem, ↓reduceIte, reduceCtorEq, nA, nB, nC, nD, nE, nF] <;> and_intros <;> first | (apply hK1; clear hK1 K1) | (intros; first | omega | decide | (simp_all <;> omega)) | skip)))
 refine hix.mono ?_; rintro _ hz ⟨rfl, hh⟩; apply hK1; clear hK1 K1; rw [hh]; clear hh hz
 (repeat (first | refine gO rfl ?_ | (refine gR fun K1 hK1 => ?_; simp only [go_sem, ↓reduceIte, reduceCtorEq, nA, nB, nC, nD, nE, nF] <;> and_intros <;> first | (apply hK1; clear hK1 K1) | (intros; first | omega | decide) | skip)))
 simp only [Tryz.results168, go_sem, ↓reduceIte, reduceCtorEq, nA, nB, nC, nD, nE, nF]
 exact ⟨_, _, Weak.refl _, Hp.le.refl _, rfl, rfl⟩
theorem g_put1 {K : Nat → Kp} (p k g : Nat) (ps : List Nat) (h : Hp) (hg : h.H g = some (.cells [.row 1 (ps.map encR) (some k)])) (hp : h.H p = some (.cells (encKp (K p)))) (hK : CacheH h K ps) (hl : ps.length ≤ 100000) :
  ACalls Tryz.prog 167 ([.ptr p 0] ++ [.ptr g 0]) h (fun r h' => r = .v (.bool (ps.contains p)) ∧ h' = h) := by
 have hix := g_hasK p k ps h hp hK hl
 generalize ps.contains p = ix at *
 generalize ps.map encR = rw0 at *
 refine gE Tryz.func167 rfl (by kernel_rfl) 5 rfl fun c => ?_
 (repeat (first | refine gO rfl ?_ | (refine gR fun K1 hK1 => ?_; simp only [go_sem, ↓reduceIte, reduceCtorEq, nA, nB, nC, nD, nE, nF, hg] <;> and_intros <;> first | (apply hK1; clear hK1 K1) | (intros; first | omega | decide | (simp_all <;> omega)) | skip)))
 refine hix.mono ?_; rintro _ hz ⟨rfl, hh⟩; apply hK1; clear hK1 K1; rw [hh]; clear hh hz
 (repeat (first | refine gO rfl ?_ | (refine gR fun K1 hK1 => ?_; simp only [go_sem, ↓reduceIte, reduceCtorEq, nA, nB, nC, nD, nE, nF] <;> and_intros <;> first | (apply hK1; clear hK1 K1) | (intros; first | omega | decide) | skip)))
 simp only [Tryz.results167, go_sem, ↓reduceIte, reduceCtorEq, nA, nB, nC, nD, nE, nF]
 exact ⟨_, _, Weak.refl _, Hp.le.refl _, rfl, rfl⟩
theorem g_nan (x : Int) (h : Hp) : ACalls Tryz.prog 132 [.v (.int .i64 x)] h (fun r h' => r = .v (.bool false) ∧ h' = h) := by
 refine gE Tryz.func132 rfl (by kernel_rfl) 5 rfl fun c => ?_
 (repeat (first | refine gO rfl ?_ | (refine gR fun K1 hK1 => ?_; simp only [go_sem, ↓reduceIte, reduceCtorEq, nA, nB, nC, nD, nE, nF] <;> and_intros <;> first | (apply hK1; clear hK1 K1) | (intros; first | omega | decide | (simp_all <;> omega)) | skip)))
 simp only [Tryz.results132, go_sem, ↓reduceIte, reduceCtorEq, nA, nB, nC, nD, nE, nF]
 exact ⟨_, _, Weak.refl _, Hp.le.refl _, by simp, rfl⟩
theorem g_cmpI (x y : Int) (h : Hp) : ACalls Tryz.prog 100 [.v (.int .i64 x), .v (.int .i64 y)] h (fun r h' => r = .v (.int .i64 (cmpI x y)) ∧ h' = h) := by
 have n1 := g_nan x h
 have n2 := g_nan y h
 refine gE Tryz.func100 rfl (by kernel_rfl) 18 rfl fun c => ?_
 (repeat (first | refine gO rfl ?_ | (refine gR fun K1 hK1 => ?_; simp only [go_sem, ↓reduceIte, reduceCtorEq, nA, nB, nC, nD, nE, nF] <;> and_intros <;> first | (apply hK1; clear hK1 K1) | (intros; first | omega | decide | (simp_all <;> omega)) | skip)))
 refine n1.mono ?_; rintro _ hz ⟨rfl, hh⟩; apply hK1; clear hK1 K1; rw [hh]; clear hh hz
 (repeat (first | refine gO rfl ?_ | (refine gR fun K1 hK1 => ?_; simp only [go_sem, ↓reduceIte, reduceCtorEq, nA, nB, nC, nD, nE, nF] <;> and_intros <;> first | (apply hK1; clear hK1 K1) | (intros; first | omega | decide) | skip)))
 refine n2.mono ?_; rintro _ hz ⟨rfl, hh⟩; apply hK1; clear hK1 K1; rw [hh]; clear hh hz
 (repeat (first | refine gO rfl ?_ | (refine gR fun K1 hK1 => ?_; simp only [go_sem, ↓reduceIte, reduceCtorEq, nA, nB, nC, nD, nE, nF] <;> and_intros <;> first | (apply hK1; clear hK1 K1) | (intros; first | omega | decide) | skip)))
 refine awp_cond (t := _) rfl (fun h9 => by cases h9) (fun _ => ?_)
 (repeat (first | refine gO rfl ?_ | (refine gR fun K1 hK1 => ?_; simp only [go_sem, ↓reduceIte, reduceCtorEq, nA, nB, nC, nD, nE, nF] <;> and_intros <;> first | (apply hK1; clear hK1 K1) | (intros; first | omega | decide) | skip)))
 refine awp_cond (t := _) rfl (fun h9 => by cases h9) (fun _ => ?_)
 (repeat (first | refine gO rfl ?_ | (refine gR fun K1 hK1 => ?_; simp only [go_sem, ↓reduceIte, reduceCtorEq, nA, nB, nC, nD, nE, nF] <;> and_intros <;> first | (apply hK1; clear hK1 K1) | (intros; first | omega | decide) | skip)))
 refine awp_cond (t := _) rfl (fun h1 => ?_) (fun h1 => ?_)
 ·simp only [decide_eq_true_eq] at h1
  (repeat (first | refine gO rfl ?_ | (refine gR fun K1 hK1 => ?_; simp only [go_sem, ↓reduceIte, reduceCtorEq, nA, nB, nC, nD, nE, nF] <;> and_intros <;> first | (apply hK1; clear hK1 K1) | (intros; first | omega | decide) | skip)))
  simp only [Tryz.results100, go_sem, ↓reduceIte, reduceCtorEq, nA, nB, nC, nD, nE, nF]
  exact ⟨_, _, Weak.refl _, Hp.le.refl _, by rw [cmpI, if_pos h1], rfl⟩
 ·simp only [decide_eq_false_iff_not] at h1
  (repeat (first | refine gO rfl ?_ | (refine gR fun K1 hK1 => ?_; simp only [go_sem, ↓reduceIte, reduceCtorEq, nA, nB, nC, nD, nE, nF] <;> and_intros <;> first | (apply hK1; clear hK1 K1) | (intros; first | omega | decide) | skip)))
  refine awp_cond (t := _) rfl (fun h2 => ?_) (fun h2 => ?_)
  ·simp only [decide_eq_true_eq] at h2
   (repeat (first | refine gO rfl ?_ | (refine gR fun K1 hK1 => ?_; simp only [go_sem, ↓reduceIte, reduceCtorEq, nA, nB, nC, nD, nE, nF] <;> and_intros <;> first | (apply hK1; clear hK1 K1) | (intros; first | omega | decide) | skip)))
   simp only [Tryz.results100, go_sem, ↓reduceIte, reduceCtorEq, nA, nB, nC, nD, nE, nF]
   exact ⟨_, _, Weak.refl _, Hp.le.refl _, by rw [cmpI, if_neg h1, if_pos (by omega)], rfl⟩
  ·simp only [decide_eq_false_iff_not] at h2
   (repeat (first | refine gO rfl ?_ | (refine gR fun K1 hK1 => ?_; simp only [go_sem, ↓reduceIte, reduceCtorEq, nA, nB, nC, nD, nE, nF] <;> and_intros <;> first | (apply hK1; clear hK1 K1) | (intros; first | omega | decide) | skip)))
   simp only [Tryz.results100, go_sem, ↓reduceIte, reduceCtorEq, nA, nB, nC, nD, nE, nF]
   exact ⟨_, _, Weak.refl _, Hp.le.refl _, by rw [cmpI, if_neg h1, if_neg (by omega)], rfl⟩
theorem g_order1 {x : Kp} {p : Nat} {h : Hp} (hp : h.H p = some (.cells (encKp x))) :
  ACalls Tryz.prog 225 ([.ptr p 0] ++ []) h (fun r h' => r = .v (.bool x.2.2.1) ∧ h' = h) := by
 obtain ⟨k, b, pi, ca, la, ma⟩ := x
 refine gE Tryz.func225 rfl (by kernel_rfl) 6 rfl fun c => ?_
 (repeat (first | refine gO rfl ?_ | (refine gR fun K1 hK1 => ?_; simp only [go_sem, ↓reduceIte, reduceCtorEq, nA, nB, nC, nD, nE, nF, hp, encKp] <;> and_intros <;> first | (apply hK1; clear hK1 K1) | (intros; first | omega | decide | (simp_all <;> omega)) | skip)))
 simp only [Tryz.results225, go_sem, ↓reduceIte, reduceCtorEq, nA, nB, nC, nD, nE, nF]
 exact ⟨_, _, Weak.refl _, Hp.le.refl _, rfl, rfl⟩
theorem g_cloneK (k : Nat) (ps : List Nat) (h : Hp) (hT : h.T k = some (.cont 1 (ps.map encR))) (hl : ps.length ≤ 100000) :
  ACalls Tryz.prog 224 [.arr 1 k ps.length] h (fun r h' => ∃ q, r = .arr 1 q ps.length ∧ h.T q = none ∧ h' = ⟨h.H, upd h.T q (some (.cont 1 (ps.map encR)))⟩) := by
 have hml : (ps.map encR).length = ps.length := List.length_map _
 refine gE Tryz.func224 rfl (by kernel_rfl) 7 rfl fun c => ?_
 (repeat (first | refine gO rfl ?_ | (refine gM zM13 fun K1 hK1 => ?_; simp only [go_sem, ↓reduceIte, reduceCtorEq, nA, nB, nC, nD, nE, nF] <;> and_intros <;> first | (apply hK1; clear hK1 K1) | (intros; first | omega | decide | (simp_all <;> omega)) | skip)))
 ·intro h0
  refine hK1 _ ?_; clear hK1 K1
  (repeat (first | refine gO rfl ?_ | (refine gM zM13 fun K1 hK1 => ?_; simp only [go_sem, ↓reduceIte, reduceCtorEq, nA, nB, nC, nD, nE, nF] <;> and_intros <;> first | (apply hK1; clear hK1 K1) | (intros; first | omega | decide) | skip)))
  refine awp_cond (t := _) rfl (fun _ => ?_) (fun h9 => by cases h9)
  (repeat refine gO rfl ?_)
  refine awp_seq ?_
  refine awp_AL ?_
  refine AL.cons rfl (Quiet.aop (q_move (.inr rfl)) ?_)
  refine AL.nil ?_
  refine awp_ownA 2 1 rfl ⟨rfl, rfl⟩ (fun q hq => ?_)
  refine awp_cut (rl false [2, 1, 5]) 0 (?_ : Awp _ _ _ _ ⟨(AV.junk :: AV.junk :: ((.arr 1 q 0) :: (jnk 5 []))), [], ⟨h.H, upd h.T q (some (.cont 1 []))⟩⟩)
  obtain rfl := List.eq_nil_of_length_eq_zero h0
  (repeat (first | refine gO rfl ?_ | (refine gM zM13 fun K1 hK1 => ?_; simp only [go_sem, ↓reduceIte, reduceCtorEq, nA, nB, nC, nD, nE, nF] <;> and_intros <;> first | (apply hK1; clear hK1 K1) | (intros; first | omega | decide) | skip)))
  simp only [Tryz.results224, go_sem, ↓reduceIte, reduceCtorEq, nA, nB, nC, nD, nE, nF]
  exact ⟨_, _, Weak.refl _, Hp.le.refl _, q, rfl, hq, rfl⟩
 ·(repeat (first | refine gO rfl ?_ | (refine gM zM13 fun K1 hK1 => ?_; simp only [go_sem, ↓reduceIte, reduceCtorEq, nA, nB, nC, nD, nE, nF] <;> and_intros <;> first | (apply hK1; clear hK1 K1) | (intros; first | omega | decide) | skip)))
  refine awp_cond (t := _) rfl (fun h9 => by cases h9) (fun _ => ?_)
  (repeat (first | refine gO rfl ?_ | (refine gM zM13 fun K1 hK1 => ?_; simp only [go_sem, ↓reduceIte, reduceCtorEq, nA, nB, nC, nD, nE, nF, hT, hml] <;> and_intros <;> first | (apply hK1; clear hK1 K1) | (intros; first | omega | decide) | skip)))
  intro q hq
  have hqk : k ≠ q := by rintro rfl; rw [hT] at hq; cases hq
  simp only [upd_other _ _ hqk, hT, hml, and_self, if_true]
  refine ⟨⟨trivial, rfl, .inl trivial⟩, ⟨by simp; omega, by simp; omega⟩, hK1 _ ?_⟩; clear hK1 K1
  (repeat (first | refine gO rfl ?_ | (refine gM zM13 fun K1 hK1 => ?_; simp only [go_sem, ↓reduceIte, reduceCtorEq, nA, nB, nC, nD, nE, nF] <;> and_intros <;> first | (apply hK1; clear hK1 K1) | (intros; first | omega | decide) | skip)))
  simp only [Tryz.results224, go_sem, ↓reduceIte, reduceCtorEq, nA, nB, nC, nD, nE, nF]
  exact ⟨_, _, Weak.refl _, Hp.le.refl _, q, rfl, hq, rfl⟩
abbrev zP1E : List Nat := [0, 1, 2, 3, 4, 5, 6, 7]
abbrev zP1P : List (Nat × List Nat × List Nat) := [(8, [], [9])]
abbrev zP2E : List Nat := [0, 1, 2, 3, 4, 5, 6, 7]
abbrev zP2P : List (Nat × List Nat × List Nat) := [(8, [], [9])]
abbrev zP3E : List Nat := [0, 1, 2, 3, 4, 5, 6, 7]
abbrev zP3P : List (Nat × List Nat × List Nat) := [(8, [], [9])]
abbrev zP4E : List Nat := [0, 1, 2, 3, 4, 5, 6, 7, 8]
abbrev zP4P : List (Nat × List Nat × List Nat) := [(9, [], [10]), (11, [], [12])]
attribute [go_sem] zP1E zP1P zP2E zP2P zP3E zP3P zP4E zP4P
def encJ (x : Int) : List AV := [.v (.int .i64 x)]
def orJ : List Int → Int
 | [] => 0
 | x :: l => if x = 0 then orJ l else x
theorem orJ_at (l : List Int) (j : Nat) (h : j < l.length) (h0 : ∀ i, i < j → l.getD i 0 = 0) (hn : l.getD j 0 ≠ 0) : orJ l = l.getD j 0 := by
 induction l generalizing j with
 | nil => simp at h
 | cons x l ih =>
  cases j with
  | zero => rw [orJ, if_neg (by simpa using hn)]; rfl
  | succ j =>
   have hx := h0 0 (by omega)
   simp only [List.getD_cons_zero] at hx
   rw [orJ, if_pos hx, List.getD_cons_succ]
   exact ih j (by simpa using h) (fun i hi => by simpa using h0 (i + 1) (by omega)) (by simpa using hn)
theorem orJ_zero (l : List Int) (h : ∀ i, i < l.length → l.getD i 0 = 0) : orJ l = 0 := by
 induction l with
 | nil => rfl
 | cons x l ih =>
  have hx := h 0 (by simp)
  simp only [List.getD_cons_zero] at hx
  rw [orJ, if_pos hx]
  exact ih fun i hi => by simpa using h (i + 1) (by simpa using hi)
theorem g_orK (l : List Int) (h : Hp) (hl : l.length ≤ 1000) : ACalls Tryz.prog 99 [.row 1 (l.map encJ) none] h (fun r h' => r = .v (.int .i64 (orJ l)) ∧ h' = h) := by
 refine gE Tryz.func99 rfl (by kernel_rfl) 17 rfl fun c => ?_
 (repeat (first | refine gO rfl ?_ | (refine gR fun K1 hK1 => ?_; simp only [go_sem, ↓reduceIte, reduceCtorEq, nA, nB, nC, nD, nE, nF] <;> and_intros <;> first | (apply hK1; clear hK1 K1) | (intros; first | omega | decide | (simp_all <;> omega)) | skip)))
 refine awp_loopC (rl false [3, 1, 2, 3, 9]) 0 (fun g s => ∃ j : Nat, g + j = l.length ∧ (∀ i, i < j → l.getD i 0 = 0) ∧
  s = ⟨((jnk 3 ((.v (.int .i64 0)) :: AV.junk :: AV.junk :: ((.row 1 (l.map encJ) none) :: (.v (.int .i64 l.length)) :: (.v (.int .i64 j)) :: (jnk 9 []))))), [], h⟩) l.length ⟨0, by omega, by omega, rfl⟩ ?_
 rintro g _ ⟨j, hj, h0, rfl⟩
 (repeat (first | refine gO rfl ?_ | (refine gR fun K1 hK1 => ?_; simp only [go_sem, ↓reduceIte, reduceCtorEq, nA, nB, nC, nD, nE, nF] <;> and_intros <;> first | (apply hK1; clear hK1 K1) | (intros; first | omega | decide | (simp_all <;> omega)) | skip)))
 refine awp_cond (t := _) rfl (fun h3 => ?_) (fun h3 => ?_)
 ·simp only [decide_eq_true_eq] at h3
  have hjl : j < l.length := by omega
  have hgx : (l.map encJ).getD j [] = [.v (.int .i64 (l.getD j 0))] := getD_enc encJ l j 0 hjl
  have hat := orJ_at l j hjl h0
  obtain ⟨x, hx⟩ : ∃ x, x = l.getD j 0 := ⟨_, rfl⟩
  rw [← hx] at hgx hat
  (repeat (first | refine gO rfl ?_ | (refine gR fun K1 hK1 => ?_; simp only [go_sem, ↓reduceIte, reduceCtorEq, nA, nB, nC, nD, nE, nF, Int.toNat_natCast, hgx] <;> and_intros <;> first | (apply hK1; clear hK1 K1) | (intros; first | omega | decide | (simp_all <;> omega)) | skip)))
  refine awp_cond (t := _) rfl (fun h4 => ?_) (fun h4 => ?_)
  ·have h4' : x ≠ 0 := by simpa using h4
   (repeat (first | refine gO rfl ?_ | (refine gR fun K1 hK1 => ?_; simp only [go_sem, ↓reduceIte, reduceCtorEq, nA, nB, nC, nD, nE, nF] <;> and_intros <;> first | (apply hK1; clear hK1 K1) | (intros; first | omega | decide | (simp_all <;> omega)) | skip)))
   simp only [Tryz.results99, go_sem, ↓reduceIte, reduceCtorEq, nA, nB, nC, nD, nE, nF]
   exact ⟨_, _, Weak.refl _, Hp.le.refl _, by rw [hat h4'], rfl⟩
  ·have h4' : x = 0 := by simpa using h4
   (repeat (first | refine gO rfl ?_ | (refine gR fun K1 hK1 => ?_; simp only [go_sem, ↓reduceIte, reduceCtorEq, nA, nB, nC, nD, nE, nF] <;> and_intros <;> first | (apply hK1; clear hK1 K1) | (intros; first | omega | decide | (simp_all <;> omega)) | skip)))
   exact ⟨g - 1, by omega, j + 1, by omega, fun i hi => by
    by_cases e : i = j
    ·rw [e, ← hx]; exact h4'
    ·exact h0 i (by omega), rfl⟩
 ·simp only [decide_eq_false_iff_not] at h3
  have hjl : j = l.length := by omega
  subst hjl
  (repeat (first | refine gO rfl ?_ | (refine gR fun K1 hK1 => ?_; simp only [go_sem, ↓reduceIte, reduceCtorEq, nA, nB, nC, nD, nE, nF] <;> and_intros <;> first | (apply hK1; clear hK1 K1) | (intros; first | omega | decide | (simp_all <;> omega)) | skip)))
  simp only [Tryz.results99, go_sem, ↓reduceIte, reduceCtorEq, nA, nB, nC, nD, nE, nF]
  exact ⟨_, _, Weak.refl _, Hp.le.refl _, by rw [orJ_zero l h0], rfl⟩
theorem g_or2 (x y : Int) (h : Hp) : ACalls Tryz.prog 99 [.row 1 [[.v (.int .i64 x)], [.v (.int .i64 y)]] none] h (fun r h' => r = .v (.int .i64 (if x = 0 then y else x)) ∧ h' = h) := by
 refine (g_orK [x, y] h (by simp)).mono ?_
 rintro _ _ ⟨rfl, rfl⟩
 refine ⟨?_, rfl⟩
 by_cases e : x = 0
 ·rw [orJ, if_pos e, if_pos e, orJ]
  by_cases e2 : y = 0
  ·rw [if_pos e2, orJ, e2]
  ·rw [if_neg e2]
 ·rw [orJ, if_neg e, if_neg e]
theorem g_compK {ci k n a b : Nat} {room rule now : Int} {x y : Kp} {h : Hp} (hC : h.H ci = some (.cells (encCa room rule now k n))) (ha : h.H a = some (.cells (encKp x))) (hb : h.H b = some (.cells (encKp y))) :
  ACalls Tryz.prog 227 ([.ptr ci 0] ++ [.ptr a 0, .ptr b 0]) h (fun r h' => r = .v (.int .i64 (cmpK rule x y)) ∧ h' = h) := by
 obtain ⟨ke, by1, pi, ca, la, ma⟩ := x
 obtain ⟨ke', by2, pi', ca', la', ma'⟩ := y
 have c1 := fun x y => g_cmpI x y h
 have c2 := fun x y => g_or2 x y h
 refine gE Tryz.func227 rfl (by kernel_rfl) 54 rfl fun c => ?_
 (repeat (first | refine gO rfl ?_ | ((first | refine gR ?_ | (with_reducible refine wM ?_ ?_) | ((with_reducible refine xR ?_); refine uE 4 zM11 zP1E zP1P 57 rfl (by kernel_rfl) ?_) | ((with_reducible refine xR ?_); refine uE 6 zM11 zP2E zP2P 57 rfl (by kernel_rfl) ?_) | ((with_reducible refine xR ?_); refine uE 8 zM11 zP3E zP3P 57 rfl (by kernel_rfl) ?_) | ((with_reducible refine xS ?_); refine uD 9 zM11 zP4E zP4P 57 rfl (by kernel_rfl) ?_)) <;> ((try with_reducible intro K1 hK1); simp only [go_sem, ↓reduceIte, reduceCtorEq, nA, nB, nC, nD, nE, nF, hC, encCa] <;> and_intros <;> first | (apply hK1; clear hK1 K1) | (intros; first | omega | decide | (simp_all <;> omega)) | skip))))
 by_cases r2 : rule = 2
 ·subst r2
  refine awp_cond (t := _) rfl (fun _ => ?_) (fun h9 => by simp at h9)
  (repeat (first | refine gO rfl ?_ | ((first | refine gR ?_ | (with_reducible refine wM ?_ ?_) | ((with_reducible refine xR ?_); refine uE 4 zM11 zP1E zP1P 57 rfl (by kernel_rfl) ?_) | ((with_reducible refine xR ?_); refine uE 6 zM11 zP2E zP2P 57 rfl (by kernel_rfl) ?_) | ((with_reducible refine xR ?_); refine uE 8 zM11 zP3E zP3P 57 rfl (by kernel_rfl) ?_) | ((with_reducible refine xS ?_); refine uD 9 zM11 zP4E zP4P 57 rfl (by kernel_rfl) ?_)) <;> ((try with_reducible intro K1 hK1); simp only [go_sem, ↓reduceIte, reduceCtorEq, nA, nB, nC, nD, nE, nF, ha, hb, encKp] <;> and_intros <;> first | (apply hK1; clear hK1 K1) | (intros; first | omega | decide) | skip))))
  refine (c1 _ _).mono ?_; rintro _ hz ⟨rfl, hh⟩; apply hK1; clear hK1 K1; rw [hh]; clear hh hz
  (repeat (first | refine gO rfl ?_ | ((first | refine gR ?_ | (with_reducible refine wM ?_ ?_) | ((with_reducible refine xR ?_); refine uE 4 zM11 zP1E zP1P 57 rfl (by kernel_rfl) ?_) | ((with_reducible refine xR ?_); refine uE 6 zM11 zP2E zP2P 57 rfl (by kernel_rfl) ?_) | ((with_reducible refine xR ?_); refine uE 8 zM11 zP3E zP3P 57 rfl (by kernel_rfl) ?_) | ((with_reducible refine xS ?_); refine uD 9 zM11 zP4E zP4P 57 rfl (by kernel_rfl) ?_)) <;> ((try with_reducible intro K1 hK1); simp only [go_sem, ↓reduceIte, reduceCtorEq, nA, nB, nC, nD, nE, nF, ha, hb, encKp] <;> and_intros <;> first | (apply hK1; clear hK1 K1) | (intros; first | omega | decide) | skip))))
  refine (c1 _ _).mono ?_; rintro _ hz ⟨rfl, hh⟩; apply hK1; clear hK1 K1; rw [hh]; clear hh hz
  (repeat (first | refine gO rfl ?_ | ((first | refine gR ?_ | (with_reducible refine wM ?_ ?_) | ((with_reducible refine xR ?_); refine uE 4 zM11 zP1E zP1P 57 rfl (by kernel_rfl) ?_) | ((with_reducible refine xR ?_); refine uE 6 zM11 zP2E zP2P 57 rfl (by kernel_rfl) ?_) | ((with_reducible refine xR ?_); refine uE 8 zM11 zP3E zP3P 57 rfl (by kernel_rfl) ?_) | ((with_reducible refine xS ?_); refine uD 9 zM11 zP4E zP4P 57 rfl (by kernel_rfl) ?_)) <;> ((try with_reducible intro K1 hK1); simp only [go_sem, ↓reduceIte, reduceCtorEq, nA, nB, nC, nD, nE, nF] <;> and_intros <;> first | (apply hK1; clear hK1 K1) | (intros; first | omega | decide) | skip))))
  refine (c2 _ _).mono ?_; rintro _ hz ⟨rfl, hh⟩; apply hK1; clear hK1 K1; rw [hh]; clear hh hz
  (repeat (first | refine gO rfl ?_ | ((first | refine gR ?_ | (with_reducible refine wM ?_ ?_) | ((with_reducible refine xR ?_); refine uE 4 zM11 zP1E zP1P 57 rfl (by kernel_rfl) ?_) | ((with_reducible refine xR ?_); refine uE 6 zM11 zP2E zP2P 57 rfl (by kernel_rfl) ?_) | ((with_reducible refine xR ?_); refine uE 8 zM11 zP3E zP3P 57 rfl (by kernel_rfl) ?_) | ((with_reducible refine xS ?_); refine uD 9 zM11 zP4E zP4P 57 rfl (by kernel_rfl) ?_)) <;> ((try with_reducible intro K1 hK1); simp only [go_sem, ↓reduceIte, reduceCtorEq, nA, nB, nC, nD, nE, nF] <;> and_intros <;> first | (apply hK1; clear hK1 K1) | (intros; first | omega | decide) | skip))))
  simp only [Tryz.results227, go_sem, ↓reduceIte, reduceCtorEq, nA, nB, nC, nD, nE, nF]
  exact ⟨_, _, Weak.refl _, Hp.le.refl _, by rw [cmpK, if_pos rfl], rfl⟩
 ·refine awp_cond (t := _) rfl (fun h9 => absurd (by simpa using h9) r2) (fun _ => ?_)
  (repeat (first | refine gO rfl ?_ | ((first | refine gR ?_ | (with_reducible refine wM ?_ ?_) | ((with_reducible refine xR ?_); refine uE 4 zM11 zP1E zP1P 57 rfl (by kernel_rfl) ?_) | ((with_reducible refine xR ?_); refine uE 6 zM11 zP2E zP2P 57 rfl (by kernel_rfl) ?_) | ((with_reducible refine xR ?_); refine uE 8 zM11 zP3E zP3P 57 rfl (by kernel_rfl) ?_) | ((with_reducible refine xS ?_); refine uD 9 zM11 zP4E zP4P 57 rfl (by kernel_rfl) ?_)) <;> ((try with_reducible intro K1 hK1); simp only [go_sem, ↓reduceIte, reduceCtorEq, nA, nB, nC, nD, nE, nF] <;> and_intros <;> first | (apply hK1; clear hK1 K1) | (intros; first | omega | decide) | skip))))
  by_cases r3 : rule = 3
  ·subst r3
   refine awp_cond (t := _) rfl (fun _ => ?_) (fun h9 => by simp at h9)
   (repeat (first | refine gO rfl ?_ | ((first | refine gR ?_ | (with_reducible refine wM ?_ ?_) | ((with_reducible refine xR ?_); refine uE 4 zM11 zP1E zP1P 57 rfl (by kernel_rfl) ?_) | ((with_reducible refine xR ?_); refine uE 6 zM11 zP2E zP2P 57 rfl (by kernel_rfl) ?_) | ((with_reducible refine xR ?_); refine uE 8 zM11 zP3E zP3P 57 rfl (by kernel_rfl) ?_) | ((with_reducible refine xS ?_); refine uD 9 zM11 zP4E zP4P 57 rfl (by kernel_rfl) ?_)) <;> ((try with_reducible intro K1 hK1); simp only [go_sem, ↓reduceIte, reduceCtorEq, nA, nB, nC, nD, nE, nF, ha, hb, encKp] <;> and_intros <;> first | (apply hK1; clear hK1 K1) | (intros; first | omega | decide) | skip))))
   refine (c1 _ _).mono ?_; rintro _ hz ⟨rfl, hh⟩; apply hK1; clear hK1 K1; rw [hh]; clear hh hz
   (repeat (first | refine gO rfl ?_ | ((first | refine gR ?_ | (with_reducible refine wM ?_ ?_) | ((with_reducible refine xR ?_); refine uE 4 zM11 zP1E zP1P 57 rfl (by kernel_rfl) ?_) | ((with_reducible refine xR ?_); refine uE 6 zM11 zP2E zP2P 57 rfl (by kernel_rfl) ?_) | ((with_reducible refine xR ?_); refine uE 8 zM11 zP3E zP3P 57 rfl (by kernel_rfl) ?_) | ((with_reducible refine xS ?_); refine uD 9 zM11 zP4E zP4P 57 rfl (by kernel_rfl) ?_)) <;> ((try with_reducible intro K1 hK1); simp only [go_sem, ↓reduceIte, reduceCtorEq, nA, nB, nC, nD, nE, nF, ha, hb, encKp] <;> and_intros <;> first | (apply hK1; clear hK1 K1) | (intros; first | omega | decide) | skip))))
   refine (c1 _ _).mono ?_; rintro _ hz ⟨rfl, hh⟩; apply hK1; clear hK1 K1; rw [hh]; clear hh hz
   (repeat (first | refine gO rfl ?_ | ((first | refine gR ?_ | (with_reducible refine wM ?_ ?_) | ((with_reducible refine xR ?_); refine uE 4 zM11 zP1E zP1P 57 rfl (by kernel_rfl) ?_) | ((with_reducible refine xR ?_); refine uE 6 zM11 zP2E zP2P 57 rfl (by kernel_rfl) ?_) | ((with_reducible refine xR ?_); refine uE 8 zM11 zP3E zP3P 57 rfl (by kernel_rfl) ?_) | ((with_reducible refine xS ?_); refine uD 9 zM11 zP4E zP4P 57 rfl (by kernel_rfl) ?_)) <;> ((try with_reducible intro K1 hK1); simp only [go_sem, ↓reduceIte, reduceCtorEq, nA, nB, nC, nD, nE, nF] <;> and_intros <;> first | (apply hK1; clear hK1 K1) | (intros; first | omega | decide) | skip))))
   refine (c2 _ _).mono ?_; rintro _ hz ⟨rfl, hh⟩; apply hK1; clear hK1 K1; rw [hh]; clear hh hz
   (repeat (first | refine gO rfl ?_ | ((first | refine gR ?_ | (with_reducible refine wM ?_ ?_) | ((with_reducible refine xR ?_); refine uE 4 zM11 zP1E zP1P 57 rfl (by kernel_rfl) ?_) | ((with_reducible refine xR ?_); refine uE 6 zM11 zP2E zP2P 57 rfl (by kernel_rfl) ?_) | ((with_reducible refine xR ?_); refine uE 8 zM11 zP3E zP3P 57 rfl (by kernel_rfl) ?_) | ((with_reducible refine xS ?_); refine uD 9 zM11 zP4E zP4P 57 rfl (by kernel_rfl) ?_)) <;> ((try with_reducible intro K1 hK1); simp only [go_sem, ↓reduceIte, reduceCtorEq, nA, nB, nC, nD, nE, nF] <;> and_intros <;> first | (apply hK1; clear hK1 K1) | (intros; first | omega | decide) | skip))))
   simp only [Tryz.results227, go_sem, ↓reduceIte, reduceCtorEq, nA, nB, nC, nD, nE, nF]
   exact ⟨_, _, Weak.refl _, Hp.le.refl _, by rw [cmpK, if_neg r2, if_pos rfl], rfl⟩
  ·refine awp_cond (t := _) rfl (fun h9 => absurd (by simpa using h9) r3) (fun _ => ?_)
   (repeat (first | refine gO rfl ?_ | ((first | refine gR ?_ | (with_reducible refine wM ?_ ?_) | ((with_reducible refine xR ?_); refine uE 4 zM11 zP1E zP1P 57 rfl (by kernel_rfl) ?_) | ((with_reducible refine xR ?_); refine uE 6 zM11 zP2E zP2P 57 rfl (by kernel_rfl) ?_) | ((with_reducible refine xR ?_); refine uE 8 zM11 zP3E zP3P 57 rfl (by kernel_rfl) ?_) | ((with_reducible refine xS ?_); refine uD 9 zM11 zP4E zP4P 57 rfl (by kernel_rfl) ?_)) <;> ((try with_reducible intro K1 hK1); simp only [go_sem, ↓reduceIte, reduceCtorEq, nA, nB, nC, nD, nE, nF] <;> and_intros <;> first | (apply hK1; clear hK1 K1) | (intros; first | omega | decide) | skip))))
   by_cases r4 : rule = 4
   ·subst r4
    refine awp_cond (t := _) rfl (fun _ => ?_) (fun h9 => by simp at h9)
    (repeat (first | refine gO rfl ?_ | ((first | refine gR ?_ | (with_reducible refine wM ?_ ?_) | ((with_reducible refine xR ?_); refine uE 4 zM11 zP1E zP1P 57 rfl (by kernel_rfl) ?_) | ((with_reducible refine xR ?_); refine uE 6 zM11 zP2E zP2P 57 rfl (by kernel_rfl) ?_) | ((with_reducible refine xR ?_); refine uE 8 zM11 zP3E zP3P 57 rfl (by kernel_rfl) ?_) | ((with_reducible refine xS ?_); refine uD 9 zM11 zP4E zP4P 57 rfl (by kernel_rfl) ?_)) <;> ((try with_reducible intro K1 hK1); simp only [go_sem, ↓reduceIte, reduceCtorEq, nA, nB, nC, nD, nE, nF, ha, hb, encKp] <;> and_intros <;> first | (apply hK1; clear hK1 K1) | (intros; first | omega | decide) | skip))))
    refine (c1 _ _).mono ?_; rintro _ hz ⟨rfl, hh⟩; apply hK1; clear hK1 K1; rw [hh]; clear hh hz
    (repeat (first | refine gO rfl ?_ | ((first | refine gR ?_ | (with_reducible refine wM ?_ ?_) | ((with_reducible refine xR ?_); refine uE 4 zM11 zP1E zP1P 57 rfl (by kernel_rfl) ?_) | ((with_reducible refine xR ?_); refine uE 6 zM11 zP2E zP2P 57 rfl (by kernel_rfl) ?_) | ((with_reducible refine xR ?_); refine uE 8 zM11 zP3E zP3P 57 rfl (by kernel_rfl) ?_) | ((with_reducible refine xS ?_); refine uD 9 zM11 zP4E zP4P 57 rfl (by kernel_rfl) ?_)) <;> ((try with_reducible intro K1 hK1); simp only [go_sem, ↓reduceIte, reduceCtorEq, nA, nB, nC, nD, nE, nF, ha, hb, encKp] <;> and_intros <;> first | (apply hK1; clear hK1 K1) | (intros; first | omega | decide) | skip))))
    refine (c1 _ _).mono ?_; rintro _ hz ⟨rfl, hh⟩; apply hK1; clear hK1 K1; rw [hh]; clear hh hz
    (repeat (first | refine gO rfl ?_ | ((first | refine gR ?_ | (with_reducible refine wM ?_ ?_) | ((with_reducible refine xR ?_); refine uE 4 zM11 zP1E zP1P 57 rfl (by kernel_rfl) ?_) | ((with_reducible refine xR ?_); refine uE 6 zM11 zP2E zP2P 57 rfl (by kernel_rfl) ?_) | ((with_reducible refine xR ?_); refine uE 8 zM11 zP3E zP3P 57 rfl (by kernel_rfl) ?_) | ((with_reducible refine xS ?_); refine uD 9 zM11 zP4E zP4P 57 rfl (by kernel_rfl) ?_)) <;> ((try with_reducible intro K1 hK1); simp only [go_sem, ↓reduceIte, reduceCtorEq, nA, nB, nC, nD, nE, nF] <;> and_intros <;> first | (apply hK1; clear hK1 K1) | (intros; first | omega | decide) | skip))))
    refine (c2 _ _).mono ?_; rintro _ hz ⟨rfl, hh⟩; apply hK1; clear hK1 K1; rw [hh]; clear hh hz
    (repeat (first | refine gO rfl ?_ | ((first | refine gR ?_ | (with_reducible refine wM ?_ ?_) | ((with_reducible refine xR ?_); refine uE 4 zM11 zP1E zP1P 57 rfl (by kernel_rfl) ?_) | ((with_reducible refine xR ?_); refine uE 6 zM11 zP2E zP2P 57 rfl (by kernel_rfl) ?_) | ((with_reducible refine xR ?_); refine uE 8 zM11 zP3E zP3P 57 rfl (by kernel_rfl) ?_) | ((with_reducible refine xS ?_); refine uD 9 zM11 zP4E zP4P 57 rfl (by kernel_rfl) ?_)) <;> ((try with_reducible intro K1 hK1); simp only [go_sem, ↓reduceIte, reduceCtorEq, nA, nB, nC, nD, nE, nF] <;> and_intros <;> first | (apply hK1; clear hK1 K1) | (intros; first | omega | decide) | skip))))
    simp only [Tryz.results227, go_sem, ↓reduceIte, reduceCtorEq, nA, nB, nC, nD, nE, nF]
    exact ⟨_, _, Weak.refl _, Hp.le.refl _, by rw [cmpK, if_neg r2, if_neg r3, if_pos rfl], rfl⟩
   ·refine awp_cond (t := _) rfl (fun h9 => absurd (by simpa using h9) r4) (fun _ => ?_)
    (repeat (first | refine gO rfl ?_ | ((first | refine gR ?_ | (with_reducible refine wM ?_ ?_) | ((with_reducible refine xR ?_); refine uE 4 zM11 zP1E zP1P 57 rfl (by kernel_rfl) ?_) | ((with_reducible refine xR ?_); refine uE 6 zM11 zP2E zP2P 57 rfl (by kernel_rfl) ?_) | ((with_reducible refine xR ?_); refine uE 8 zM11 zP3E zP3P 57 rfl (by kernel_rfl) ?_) | ((with_reducible refine xS ?_); refine uD 9 zM11 zP4E zP4P 57 rfl (by kernel_rfl) ?_)) <;> ((try with_reducible intro K1 hK1); simp only [go_sem, ↓reduceIte, reduceCtorEq, nA, nB, nC, nD, nE, nF, ha, hb, encKp] <;> and_intros <;> first | (apply hK1; clear hK1 K1) | (intros; first | omega | decide) | skip))))
    refine (c1 _ _).mono ?_; rintro _ hz ⟨rfl, hh⟩; apply hK1; clear hK1 K1; rw [hh]; clear hh hz
    (repeat (first | refine gO rfl ?_ | ((first | refine gR ?_ | (with_reducible refine wM ?_ ?_) | ((with_reducible refine xR ?_); refine uE 4 zM11 zP1E zP1P 57 rfl (by kernel_rfl) ?_) | ((with_reducible refine xR ?_); refine uE 6 zM11 zP2E zP2P 57 rfl (by kernel_rfl) ?_) | ((with_reducible refine xR ?_); refine uE 8 zM11 zP3E zP3P 57 rfl (by kernel_rfl) ?_) | ((with_reducible refine xS ?_); refine uD 9 zM11 zP4E zP4P 57 rfl (by kernel_rfl) ?_)) <;> ((try with_reducible intro K1 hK1); simp only [go_sem, ↓reduceIte, reduceCtorEq, nA, nB, nC, nD, nE, nF] <;> and_intros <;> first | (apply hK1; clear hK1 K1) | (intros; first | omega | decide) | skip))))
    refine (c2 _ _).mono ?_; rintro _ hz ⟨rfl, hh⟩; apply hK1; clear hK1 K1; rw [hh]; clear hh hz
    (repeat (first | refine gO rfl ?_ | ((first | refine gR ?_ | (with_reducible refine wM ?_ ?_) | ((with_reducible refine xR ?_); refine uE 4 zM11 zP1E zP1P 57 rfl (by kernel_rfl) ?_) | ((with_reducible refine xR ?_); refine uE 6 zM11 zP2E zP2P 57 rfl (by kernel_rfl) ?_) | ((with_reducible refine xR ?_); refine uE 8 zM11 zP3E zP3P 57 rfl (by kernel_rfl) ?_) | ((with_reducible refine xS ?_); refine uD 9 zM11 zP4E zP4P 57 rfl (by kernel_rfl) ?_)) <;> ((try with_reducible intro K1 hK1); simp only [go_sem, ↓reduceIte, reduceCtorEq, nA, nB, nC, nD, nE, nF] <;> and_intros <;> first | (apply hK1; clear hK1 K1) | (intros; first | omega | decide) | skip))))
    simp only [Tryz.results227, go_sem, ↓reduceIte, reduceCtorEq, nA, nB, nC, nD, nE, nF]
    exact ⟨_, _, Weak.refl _, Hp.le.refl _, by rw [cmpK, if_neg r2, if_neg r3, if_neg r4, if_pos rfl], rfl⟩
abbrev zP5E : List Nat := [0, 1, 2, 3, 4, 5, 6, 7, 8, 9, 10, 11, 12, 13]
abbrev zP5P : List (Nat × List Nat × List Nat) := [(14, [], [15, 16])]
abbrev zP6E : List Nat := [0, 1, 2, 3, 4, 5, 6, 7, 8, 9, 10, 11, 12, 13, 14]
abbrev zP6P : List (Nat × List Nat × List Nat) := [(15, [], [16]), (17, [], [])]
abbrev zP7E : List Nat := [0, 1, 2, 3, 4, 5, 6, 7, 8, 9, 10, 11, 12]
abbrev zP7P : List (Nat × List Nat × List Nat) := [(13, [], [14, 15, 16])]
attribute [go_sem] zP5E zP5P zP6E zP6P zP7E zP7P
theorem getD_mid {α : Type} (A : List α) (x : α) (B : List α) (d : α) : (A ++ x :: B).getD A.length d = x := by
 rw [List.getD_eq_getElem?_getD, List.getElem?_append_right (Nat.le_refl _), Nat.sub_self]; rfl
theorem set_mid {α : Type} (A : List α) (x y : α) (B : List α) : (A ++ x :: B).set A.length y = A ++ y :: B := by
 rw [List.set_append_right _ _ (Nat.le_refl _), Nat.sub_self]; rfl
theorem g_insK {f : Nat} {caps : List AV} (cf : Nat → Nat → Int) (k : Nat) (xs : List Nat) (h : Hp) (hT : h.T k = some (.cont 1 (xs.map encR))) (hl : xs.length ≤ 1000)
  (hc : ∀ x ∈ xs, ∀ y ∈ xs, ∀ T', ACalls Tryz.prog f (caps ++ [encRV x, encRV y]) ⟨h.H, T'⟩ (fun r h' => r = .v (.int .i64 (cf x y)) ∧ h' = ⟨h.H, T'⟩)) :
  ACalls Tryz.prog 303 [.arr 1 k xs.length, .v (.int .i64 0), .v (.int .i64 xs.length), .bfn f caps] h (fun r h' => r = .tup [] ∧ h' = ⟨h.H, upd h.T k (some (.cont 1 ((sortI cf xs).map encR)))⟩) := by
 refine gE Tryz.func303 rfl (by kernel_rfl) 49 rfl fun c => ?_
 (repeat (first | refine gO rfl ?_ | ((first | refine gR ?_ | (with_reducible refine wM ?_ ?_) | ((with_reducible refine xS ?_); refine uD 4 zM11 zP5E zP5P 53 rfl (by kernel_rfl) ?_) | ((with_reducible refine xR ?_); refine uE 6 zM11 zP6E zP6P 53 rfl (by kernel_rfl) ?_)) <;> ((try with_reducible intro K1 hK1); simp only [go_sem, ↓reduceIte, reduceCtorEq, nA, nB, nC, nD, nE, nF] <;> and_intros <;> first | (apply hK1; clear hK1 K1) | (intros; first | omega | decide | (simp_all <;> omega)) | skip))))
 refine awp_loopC (rl false [0, 4, 4, 1, 44]) 0 (fun g s => ∃ i : Nat, 1 ≤ i ∧ g + i = xs.length + 1 ∧
  s = ⟨((.arr 1 k xs.length) :: (.v (.int .i64 0)) :: (.v (.int .i64 xs.length)) :: (.bfn f caps) :: (jnk 4 ((.v (.int .i64 i)) :: (jnk 44 [])))), [], ⟨h.H, upd h.T k (some (.cont 1 (((insS cf (xs.take i)).reverse ++ xs.drop i).map encR)))⟩⟩) xs.length
  ⟨1, by omega, by omega, ?_⟩ ?_
 ·have e1 : (insS cf (xs.take 1)).reverse ++ xs.drop 1 = xs := by cases xs <;> simp [insS, insR]
  have e2 : upd h.T k (some (TO.cont 1 (xs.map encR))) = h.T := by
   funext q
   by_cases e : q = k
   ·rw [e, upd_same, hT]
   ·rw [upd_other _ _ e]
  rw [e1, e2]; rfl
 rintro g _ ⟨i, hi1, hi, rfl⟩
 (repeat (first | refine gO rfl ?_ | ((first | refine gR ?_ | (with_reducible refine wM ?_ ?_) | ((with_reducible refine xS ?_); refine uD 4 zM11 zP5E zP5P 53 rfl (by kernel_rfl) ?_) | ((with_reducible refine xR ?_); refine uE 6 zM11 zP6E zP6P 53 rfl (by kernel_rfl) ?_)) <;> ((try with_reducible intro K1 hK1); simp only [go_sem, ↓reduceIte, reduceCtorEq, nA, nB, nC, nD, nE, nF] <;> and_intros <;> first | (apply hK1; clear hK1 K1) | (intros; first | omega | decide | (simp_all <;> omega)) | skip))))
 refine awp_cond (t := _) rfl (fun h1 => ?_) (fun h1 => ?_)
 ·simp only [decide_eq_true_eq] at h1
  have hil : i < xs.length := by omega
  have hdr : xs.drop i = xs.getD i default :: xs.drop (i + 1) := drop_at' xs i default hil
  have htk : xs.take (i + 1) = xs.take i ++ [xs.getD i default] := take_at' xs i default hil
  have hxm : xs.getD i default ∈ xs := by
   rw [List.getD_eq_getElem?_getD, List.getElem?_eq_getElem hil]; exact List.getElem_mem _
  have hpl : (insS cf (xs.take i)).length = i := by rw [insS_len, List.length_take]; omega
  have hpm : ∀ z ∈ (insS cf (xs.take i)).reverse, z ∈ xs := fun z hz => List.mem_of_mem_take ((insS_perm cf (xs.take i)).mem_iff.1 (List.mem_reverse.1 hz))
  have hin : insS cf (xs.take (i + 1)) = insR cf (insS cf (xs.take i)) (xs.getD i default) := by rw [htk, insS_snoc]
  rw [hdr]
  generalize xs.getD i default = x at hxm hin ⊢
  generalize insS cf (xs.take i) = R at hpl hpm hin ⊢
  generalize hrs : xs.drop (i + 1) = rest
  clear hdr htk
  (repeat (first | refine gO rfl ?_ | ((first | refine gR ?_ | (with_reducible refine wM ?_ ?_) | ((with_reducible refine xS ?_); refine uD 4 zM11 zP5E zP5P 53 rfl (by kernel_rfl) ?_) | ((with_reducible refine xR ?_); refine uE 6 zM11 zP6E zP6P 53 rfl (by kernel_rfl) ?_)) <;> ((try with_reducible intro K1 hK1); simp only [go_sem, ↓reduceIte, reduceCtorEq, nA, nB, nC, nD, nE, nF] <;> and_intros <;> first | (apply hK1; clear hK1 K1) | (intros; first | omega | decide | (simp_all <;> omega)) | skip))))
  refine awp_loopC (rl false [0, 4, 4, 2, 43]) 0 (fun g2 s => ∃ (A B : List Nat), g2 = A.length ∧ insR cf R x = B.reverse ++ insR cf A.reverse x ∧ A.length + B.length = i ∧ (∀ z ∈ A, z ∈ xs) ∧
   s = ⟨((.arr 1 k xs.length) :: (.v (.int .i64 0)) :: (.v (.int .i64 xs.length)) :: (.bfn f caps) :: (jnk 4 ((.v (.int .i64 i)) :: (.v (.int .i64 A.length)) :: (jnk 43 [])))), [], ⟨h.H, upd h.T k (some (.cont 1 ((A ++ x :: (B ++ rest)).map encR)))⟩⟩) i
   ⟨R.reverse, [], by rw [List.length_reverse, hpl], by rw [List.reverse_reverse]; rfl, by rw [List.length_reverse, hpl]; rfl, hpm, by rw [List.length_reverse, hpl]; rfl⟩ ?_
  rintro g2 _ ⟨A, B, rfl, hR, hAB, hA, rfl⟩
  have hTq : ∀ X, upd h.T k (some (TO.cont 1 X)) k = some (.cont 1 X) := fun X => upd_same _ _ _
  have hcl : ((A ++ x :: (B ++ rest)).map encR).length = xs.length := by
   have h9 := congrArg List.length hrs
   rw [List.length_drop] at h9
   simp; omega
  by_cases h0 : A.length = 0
  ·have hd0 : decide (0 < (A.length : Int)) = false := by simp [h0]
   have hA0 : A = [] := List.eq_nil_of_length_eq_zero h0
   clear hc
   have gz : ((A ++ x :: (B ++ rest)).map encR).getD 0 [] = encR x := by rw [hA0]; rfl
   have i0 : ((A.length : Int)).toNat = 0 := by rw [Int.toNat_natCast]; exact h0
   have i1 : ((A.length : Int) - 1).toNat = 0 := by omega
   (repeat (first | refine gO rfl ?_ | ((first | refine gR ?_ | (with_reducible refine wM ?_ ?_) | ((with_reducible refine xS ?_); refine uD 4 zM11 zP5E zP5P 53 rfl (by kernel_rfl) ?_) | ((with_reducible refine xR ?_); refine uE 6 zM11 zP6E zP6P 53 rfl (by kernel_rfl) ?_)) <;> ((try with_reducible intro K1 hK1); simp only [go_sem, ↓reduceIte, reduceCtorEq, nA, nB, nC, nD, nE, nF, hd0, hTq, hcl, i0, i1, gz, encR] <;> and_intros <;> first | (apply hK1; clear hK1 K1) | (intros; first | omega | decide | (simp_all <;> omega)) | skip))))
   refine ⟨.v (.bool false), rfl, hK1 _ ?_⟩; clear hK1 K1
   (repeat (first | refine gO rfl ?_ | ((first | refine gR ?_ | (with_reducible refine wM ?_ ?_) | ((with_reducible refine xS ?_); refine uD 4 zM11 zP5E zP5P 53 rfl (by kernel_rfl) ?_) | ((with_reducible refine xR ?_); refine uE 6 zM11 zP6E zP6P 53 rfl (by kernel_rfl) ?_)) <;> ((try with_reducible intro K1 hK1); simp only [go_sem, ↓reduceIte, reduceCtorEq, nA, nB, nC, nD, nE, nF, hd0] <;> and_intros <;> first | (apply hK1; clear hK1 K1) | (intros; first | omega | decide | (simp_all <;> omega)) | skip))))
   refine awp_cond (t := _) rfl (fun h9 => by cases h9) (fun _ => ?_)
   (repeat (first | refine gO rfl ?_ | ((first | refine gR ?_ | (with_reducible refine wM ?_ ?_) | ((with_reducible refine xS ?_); refine uD 4 zM11 zP5E zP5P 53 rfl (by kernel_rfl) ?_) | ((with_reducible refine xR ?_); refine uE 6 zM11 zP6E zP6P 53 rfl (by kernel_rfl) ?_)) <;> ((try with_reducible intro K1 hK1); simp only [go_sem, ↓reduceIte, reduceCtorEq, nA, nB, nC, nD, nE, nF] <;> and_intros <;> first | (apply hK1; clear hK1 K1) | (intros; first | omega | decide | (simp_all <;> omega)) | skip))))
   refine ⟨g - 1, by omega, i + 1, by omega, by omega, ?_⟩
   subst hA0
   have e3 : (insS cf (xs.take (i + 1))).reverse ++ xs.drop (i + 1) = x :: (B ++ rest) := by rw [hin, hR, hrs]; simp [insR]
   rw [e3]; rfl
  ·obtain ⟨A', y, rfl⟩ : ∃ A' y, A = A' ++ [y] := by
    rcases List.eq_nil_or_concat A with rfl | ⟨A', y, e⟩
    ·exact absurd rfl h0
    ·exact ⟨A', y, by rw [e, List.concat_eq_append]⟩
   have hd0 : decide (0 < ((A' ++ [y]).length : Int)) = true := by simp
   have hti : (((A' ++ [y]).length : Int) - 1).toNat = A'.length := by simp
   have hy : y ∈ xs := hA y (by simp)
   have gx : (((A' ++ [y]) ++ x :: (B ++ rest)).map encR).getD (A' ++ [y]).length [] = encR x := by
    rw [List.map_append, List.map_cons]
    have := getD_mid ((A' ++ [y]).map encR) (encR x) ((B ++ rest).map encR) []
    rwa [List.length_map] at this
   have gy : (((A' ++ [y]) ++ x :: (B ++ rest)).map encR).getD A'.length [] = encR y := by
    rw [List.append_assoc, List.map_append, List.singleton_append, List.map_cons]
    have := getD_mid (A'.map encR) (encR y) ((x :: (B ++ rest)).map encR) []
    rwa [List.length_map] at this
   have hcc := fun T' => hc x hxm y hy T'
   have hlt : (A' ++ [y]).length < xs.length := by omega
   have hlt2 : A'.length < xs.length := by simp at hlt; omega
   generalize hct : ((A' ++ [y]) ++ x :: (B ++ rest)).map encR = ct at *
   (repeat (first | refine gO rfl ?_ | ((first | refine gR ?_ | (with_reducible refine wM ?_ ?_) | ((with_reducible refine xS ?_); refine uD 4 zM11 zP5E zP5P 53 rfl (by kernel_rfl) ?_) | ((with_reducible refine xR ?_); refine uE 6 zM11 zP6E zP6P 53 rfl (by kernel_rfl) ?_)) <;> ((try with_reducible intro K1 hK1); simp only [go_sem, ↓reduceIte, reduceCtorEq, nA, nB, nC, nD, nE, nF, hd0, hTq, hcl, Int.toNat_natCast, hti, gx, gy, encR] <;> and_intros <;> first | (apply hK1; clear hK1 K1) | (intros; first | omega | decide) | skip))))
   rotate_left 1
   ·rintro ⟨⟩
   refine (hcc _).mono ?_; rintro _ hz ⟨rfl, hh⟩; refine ⟨rfl, hK1 _ ?_⟩; clear hK1 K1; rw [hh]; clear hh hz
   (repeat (first | refine gO rfl ?_ | ((first | refine gR ?_ | (with_reducible refine wM ?_ ?_) | ((with_reducible refine xS ?_); refine uD 4 zM11 zP5E zP5P 53 rfl (by kernel_rfl) ?_) | ((with_reducible refine xR ?_); refine uE 6 zM11 zP6E zP6P 53 rfl (by kernel_rfl) ?_)) <;> ((try with_reducible intro K1 hK1); simp only [go_sem, ↓reduceIte, reduceCtorEq, nA, nB, nC, nD, nE, nF, hd0] <;> and_intros <;> first | (apply hK1; clear hK1 K1) | (intros; first | omega | decide) | skip))))
   refine awp_cond (t := _) rfl (fun h9 => ?_) (fun h9 => ?_)
   ·have h8 : cf x y < 0 := by simpa using h9
    have hs9 : ((A' ++ [y]).length : Int) - 1 = A'.length := by simp
    have e4 : (ct.set (A' ++ [y]).length (encR y)).set A'.length (encR x) = (A' ++ x :: (y :: B ++ rest)).map encR := by
     have h5 := set_mid ((A' ++ [y]).map encR) (encR x) (encR y) ((B ++ rest).map encR)
     have h6 := set_mid (A'.map encR) (encR y) (encR x) ((encR y) :: (B ++ rest).map encR)
     rw [List.length_map] at h5 h6
     rw [← hct, List.map_append, List.map_cons, h5, List.map_append, List.append_assoc]
     rw [show [y].map encR ++ encR y :: (B ++ rest).map encR = encR y :: (encR y :: (B ++ rest).map encR) from rfl, h6]
     simp
    have g3 : (ct.set (A' ++ [y]).length (encR y)).getD A'.length [] = encR y := by
     have h5 := set_mid ((A' ++ [y]).map encR) (encR x) (encR y) ((B ++ rest).map encR)
     have h6 := getD_mid (A'.map encR) (encR y) ((encR y) :: (B ++ rest).map encR) []
     rw [List.length_map] at h5 h6
     rw [← hct, List.map_append, List.map_cons, h5, List.map_append, List.append_assoc]
     exact h6
    have hcl2 : (ct.set (A' ++ [y]).length (encR y)).length = xs.length := by rw [List.length_set, hcl]
    simp only [encR] at e4 g3 hcl2
    (repeat (first | refine gO rfl ?_ | ((first | refine gR ?_ | (with_reducible refine wM ?_ ?_) | ((with_reducible refine xS ?_); refine uD 4 zM11 zP5E zP5P 53 rfl (by kernel_rfl) ?_) | ((with_reducible refine xR ?_); refine uE 6 zM11 zP6E zP6P 53 rfl (by kernel_rfl) ?_)) <;> ((try with_reducible intro K1 hK1); simp only [go_sem, ↓reduceIte, reduceCtorEq, nA, nB, nC, nD, nE, nF, hTq, hcl, hcl2, Int.toNat_natCast, hti, gx, gy, encR, upd_upd] <;> and_intros <;> first | (apply hK1; clear hK1 K1) | (intros; first | omega | decide) | skip))))
    refine ⟨A'.length, by simp, A', y :: B, rfl, ?_, ?_, fun z hz => hA z (List.mem_append_left _ hz), ?_⟩
    ·rw [hR, List.reverse_append, List.reverse_singleton, List.singleton_append, insR, if_pos h8]; simp
    ·simp at hAB ⊢; omega
    ·simp only [g3, List.drop_succ_cons, List.drop_zero, e4, hs9]
     rfl
   ·have h8 : ¬ cf x y < 0 := by simpa using h9
    (repeat (first | refine gO rfl ?_ | ((first | refine gR ?_ | (with_reducible refine wM ?_ ?_) | ((with_reducible refine xS ?_); refine uD 4 zM11 zP5E zP5P 53 rfl (by kernel_rfl) ?_) | ((with_reducible refine xR ?_); refine uE 6 zM11 zP6E zP6P 53 rfl (by kernel_rfl) ?_)) <;> ((try with_reducible intro K1 hK1); simp only [go_sem, ↓reduceIte, reduceCtorEq, nA, nB, nC, nD, nE, nF] <;> and_intros <;> first | (apply hK1; clear hK1 K1) | (intros; first | omega | decide) | skip))))
    refine ⟨g - 1, by omega, i + 1, by omega, by omega, ?_⟩
    have e3 : (insS cf (xs.take (i + 1))).reverse ++ xs.drop (i + 1) = (A' ++ [y]) ++ x :: (B ++ rest) := by rw [hin, hR, hrs]; simp [insR, h8]
    rw [e3, hct]; rfl
 ·simp only [decide_eq_false_iff_not] at h1
  have e1 : (insS cf (xs.take i)).reverse ++ xs.drop i = sortI cf xs := by
   rw [List.drop_eq_nil_of_le (by omega), List.take_of_length_le (by omega), List.append_nil]; rfl
  rw [e1]
  (repeat (first | refine gO rfl ?_ | ((first | refine gR ?_ | (with_reducible refine wM ?_ ?_) | ((with_reducible refine xS ?_); refine uD 4 zM11 zP5E zP5P 53 rfl (by kernel_rfl) ?_) | ((with_reducible refine xR ?_); refine uE 6 zM11 zP6E zP6P 53 rfl (by kernel_rfl) ?_)) <;> ((try with_reducible intro K1 hK1); simp only [go_sem, ↓reduceIte, reduceCtorEq, nA, nB, nC, nD, nE, nF] <;> and_intros <;> first | (apply hK1; clear hK1 K1) | (intros; first | omega | decide | (simp_all <;> omega)) | skip))))
  simp only [Tryz.results303, go_sem, ↓reduceIte, reduceCtorEq, nA, nB, nC, nD, nE, nF]
  exact ⟨_, _, Weak.refl _, Hp.le.refl _, rfl, rfl⟩
theorem g_pdqK {f : Nat} {caps : List AV} (cf : Nat → Nat → Int) (k : Nat) (xs : List Nat) (lim : Int) (h : Hp) (hT : h.T k = some (.cont 1 (xs.map encR))) (hl : xs.length ≤ 12)
  (hc : ∀ x ∈ xs, ∀ y ∈ xs, ∀ T', ACalls Tryz.prog f (caps ++ [encRV x, encRV y]) ⟨h.H, T'⟩ (fun r h' => r = .v (.int .i64 (cf x y)) ∧ h' = ⟨h.H, T'⟩)) :
  ACalls Tryz.prog 273 [.arr 1 k xs.length, .v (.int .i64 0), .v (.int .i64 xs.length), .v (.int .i64 lim), .bfn f caps] h (fun r h' => r = .tup [] ∧ h' = ⟨h.H, upd h.T k (some (.cont 1 ((sortI cf xs).map encR)))⟩) := by
 have hd0 : decide (((xs.length : Int) - 0) ≤ 12) = true := by simp; omega
 have hi := g_insK cf k xs h hT (by omega) hc
 clear hc
 refine gE Tryz.func273 rfl (by kernel_rfl) 143 rfl fun c => ?_
 (repeat (first | refine gO rfl ?_ | ((first | refine gR ?_ | (with_reducible refine wM ?_ ?_) | ((with_reducible refine xS ?_); refine uD 17 zM11 zP7E zP7P 148 rfl (by kernel_rfl) ?_)) <;> ((try with_reducible intro K1 hK1); simp only [go_sem, ↓reduceIte, reduceCtorEq, nA, nB, nC, nD, nE, nF] <;> and_intros <;> first | (apply hK1; clear hK1 K1) | (intros; first | omega | decide | (simp_all <;> omega)) | skip))))
 refine awp_loopC (rl false [0, 5, 5, 2, 136]) 0 (fun g s => s = ⟨((.arr 1 k xs.length) :: (.v (.int .i64 0)) :: (.v (.int .i64 xs.length)) :: (.v (.int .i64 lim)) :: (.bfn f caps) :: (jnk 5 ((.v (.bool true)) :: (.v (.bool true)) :: (jnk 136 [])))), [], h⟩) 1 rfl ?_
 rintro g _ rfl
 (repeat (first | refine gO rfl ?_ | ((first | refine gR ?_ | (with_reducible refine wM ?_ ?_) | ((with_reducible refine xS ?_); refine uD 17 zM11 zP7E zP7P 148 rfl (by kernel_rfl) ?_)) <;> ((try with_reducible intro K1 hK1); simp only [go_sem, ↓reduceIte, reduceCtorEq, nA, nB, nC, nD, nE, nF] <;> and_intros <;> first | (apply hK1; clear hK1 K1) | (intros; first | omega | decide) | skip))))
 refine awp_cond (t := _) rfl (fun _ => ?_) (fun h9 => by rw [hd0] at h9; cases h9)
 (repeat (first | refine gO rfl ?_ | ((first | refine gR ?_ | (with_reducible refine wM ?_ ?_) | ((with_reducible refine xS ?_); refine uD 17 zM11 zP7E zP7P 148 rfl (by kernel_rfl) ?_)) <;> ((try with_reducible intro K1 hK1); simp only [go_sem, ↓reduceIte, reduceCtorEq, nA, nB, nC, nD, nE, nF] <;> and_intros <;> first | (apply hK1; clear hK1 K1) | (intros; first | omega | decide) | skip))))
 refine hi.mono ?_
 rintro _ h2 ⟨rfl, rfl⟩
 refine hK1 _ ?_; clear hK1 K1
 (repeat (first | refine gO rfl ?_ | ((first | refine gR ?_ | (with_reducible refine wM ?_ ?_) | ((with_reducible refine xS ?_); refine uD 17 zM11 zP7E zP7P 148 rfl (by kernel_rfl) ?_)) <;> ((try with_reducible intro K1 hK1); simp only [go_sem, ↓reduceIte, reduceCtorEq, nA, nB, nC, nD, nE, nF] <;> and_intros <;> first | (apply hK1; clear hK1 K1) | (intros; first | omega | decide) | skip))))
 simp only [Tryz.results273, go_sem, ↓reduceIte, reduceCtorEq, nA, nB, nC, nD, nE, nF]
 exact ⟨_, _, Weak.refl _, Hp.le.refl _, rfl, rfl⟩
theorem g_bitsLen (n : Nat) (h : Hp) (hn : n ≤ 1000000) : ACalls Tryz.prog 117 [.v (.int .u64 n)] h (fun r h' => ∃ m : Int, r = .v (.int .i64 m) ∧ h' = h) := by
 refine acalls_mk (by kernel_rfl) fun G w vs hs hv ha => ?_
 have r0 := ha 0 (by simp)
 have hvs : vs = #[vs.getD 0 undef] := by
  have hv1 : vs.size = 1 := hv
  apply Array.ext (by simpa using hv1)
  intro j hj hj'
  simp only [List.size_toArray, List.length_cons, List.length_nil] at hj'
  obtain rfl : j = 0 := by omega
  simp [Array.getD, hv1]
 rw [hvs]
 generalize vs.getD 0 undef = v at r0
 simp only [List.getElem_cons_zero] at r0
 cases r0
 refine (Tryz.bits_Len n w (by omega) (by omega)).mono ?_
 rintro e w' ⟨rfl, rfl⟩
 exact ⟨_, rfl, _, h, G, ⟨_, rfl, rfl⟩, GLe.refl _, Fr.refl _ _ _, hs, .v _ rfl⟩
theorem g_srtK {f : Nat} {caps : List AV} (cf : Nat → Nat → Int) (k : Nat) (xs : List Nat) (h : Hp) (hT : h.T k = some (.cont 1 (xs.map encR))) (hl : xs.length ≤ 12)
  (hc : ∀ x ∈ xs, ∀ y ∈ xs, ∀ T', ACalls Tryz.prog f (caps ++ [encRV x, encRV y]) ⟨h.H, T'⟩ (fun r h' => r = .v (.int .i64 (cf x y)) ∧ h' = ⟨h.H, T'⟩)) :
  ACalls Tryz.prog 226 [.arr 1 k xs.length, .bfn f caps] h (fun r h' => r = .tup [] ∧ h' = ⟨h.H, upd h.T k (some (.cont 1 ((sortI cf xs).map encR)))⟩) := by
 have hwr : IntKind.u64.wrap (xs.length : Int) = xs.length := by simp [IntKind.wrap, IntKind.bits, IntKind.signed]; omega
 have hp := fun lim => g_pdqK cf k xs lim h hT hl hc
 have hbl := g_bitsLen xs.length h (by omega)
 clear hc
 refine gE Tryz.func226 rfl (by kernel_rfl) 12 rfl fun c => ?_
 (repeat (first | refine gO rfl ?_ | (refine gR fun K1 hK1 => ?_; simp only [go_sem, ↓reduceIte, reduceCtorEq, nA, nB, nC, nD, nE, nF, hwr] <;> and_intros <;> first | (apply hK1; clear hK1 K1) | (intros; first | omega | decide) | skip)))
 refine hbl.mono ?_
 rintro _ h2 ⟨n, rfl, rfl⟩
 refine hK1 _ ?_; clear hK1 K1
 (repeat (first | refine gO rfl ?_ | (refine gR fun K1 hK1 => ?_; simp only [go_sem, ↓reduceIte, reduceCtorEq, nA, nB, nC, nD, nE, nF] <;> and_intros <;> first | (apply hK1; clear hK1 K1) | (intros; first | omega | decide) | skip)))
 refine (hp _).mono ?_
 rintro _ h3 ⟨rfl, rfl⟩
 refine hK1 _ ?_; clear hK1 K1
 (repeat (first | refine gO rfl ?_ | (refine gR fun K1 hK1 => ?_; simp only [go_sem, ↓reduceIte, reduceCtorEq, nA, nB, nC, nD, nE, nF] <;> and_intros <;> first | (apply hK1; clear hK1 K1) | (intros; first | omega | decide) | skip)))
 simp only [Tryz.results226, go_sem, ↓reduceIte, reduceCtorEq, nA, nB, nC, nD, nE, nF]
 exact ⟨_, _, Weak.refl _, Hp.le.refl _, rfl, rfl⟩
abbrev zP8E : List Nat := [0, 1, 2, 3, 4, 5, 6, 7, 8, 9, 10, 11]
abbrev zP8P : List (Nat × List Nat × List Nat) := []
abbrev zP9E : List Nat := [0, 1, 2, 3, 4, 5, 6, 7, 8, 9, 10, 11]
abbrev zP9P : List (Nat × List Nat × List Nat) := []
attribute [go_sem] zP8E zP8P zP9E zP9P
theorem a_outside (x lo hi : Int) (h : Hp) : ACalls Tryz.prog 72 [.v (.int .i64 x), .v (.int .i64 lo), .v (.int .i64 hi)] h (fun r h' => r = .v (.bool (decide (x < lo) || decide (hi < x))) ∧ h' = h) := by
 refine gE Tryz.func72 rfl (by kernel_rfl) 12 rfl fun c => ?_
 (repeat (first | refine gO rfl ?_ | (refine gR fun K1 hK1 => ?_; simp only [go_sem, ↓reduceIte, reduceCtorEq, nA, nB, nC, nD, nE, nF] <;> and_intros <;> first | (apply hK1; clear hK1 K1) | (intros; first | omega | decide | (simp_all <;> omega)) | skip)))
 simp only [Tryz.results72, go_sem, ↓reduceIte, reduceCtorEq, nA, nB, nC, nD, nE, nF]
 exact ⟨_, _, Weak.refl _, Hp.le.refl _, rfl, rfl⟩
def belowV (x n : Int) : Int := if n < 1 then 0 else x % n
theorem a_below (x n : Int) (h : Hp) (hx : -9223372036854775808 ≤ x ∧ x ≤ 9223372036854775807) (hn : n ≤ 9000000000000000000) : ACalls Tryz.prog 103 [.v (.int .i64 x), .v (.int .i64 n)] h (fun r h' => r = .v (.int .i64 (belowV x n)) ∧ h' = h) := by
 refine gE Tryz.func103 rfl (by kernel_rfl) 14 rfl fun c => ?_
 (repeat (first | refine gO rfl ?_ | (refine gR fun K1 hK1 => ?_; simp only [go_sem, ↓reduceIte, reduceCtorEq, nA, nB, nC, nD, nE, nF] <;> and_intros <;> first | (apply hK1; clear hK1 K1) | (intros; first | omega | decide | (simp_all <;> omega)) | skip)))
 refine awp_cond (t := _) rfl (fun h1 => ?_) (fun h1 => ?_)
 ·(repeat (first | refine gO rfl ?_ | (refine gR fun K1 hK1 => ?_; simp only [go_sem, ↓reduceIte, reduceCtorEq, nA, nB, nC, nD, nE, nF] <;> and_intros <;> first | (apply hK1; clear hK1 K1) | (intros; first | omega | decide | (simp_all <;> omega)) | skip)))
  simp only [Tryz.results103, go_sem, ↓reduceIte, reduceCtorEq, nA, nB, nC, nD, nE, nF]
  exact ⟨_, _, Weak.refl _, Hp.le.refl _, by simp only [belowV]; rw [if_pos (by simpa using h1)], rfl⟩
 ·have h2 : 1 ≤ n := by simpa using h1
  (repeat (first | refine gO rfl ?_ | (refine gR fun K1 hK1 => ?_; simp only [go_sem, ↓reduceIte, reduceCtorEq, nA, nB, nC, nD, nE, nF] <;> and_intros <;> first | (apply hK1; clear hK1 K1) | (intros; first | omega | decide | (simp_all <;> omega)) | skip)))
  have e1 : x.tmod n = if 0 ≤ x ∨ n ∣ x then x % n else x % n - n := by rw [Int.tmod_eq_emod]; split <;> omega
  have m0 := Int.emod_nonneg x (show n ≠ 0 by omega)
  have m1 := Int.emod_lt_of_pos x (show 0 < n by omega)
  refine awp_cond (t := _) rfl (fun h3 => ?_) (fun h3 => ?_)
  ·(repeat (first | refine gO rfl ?_ | (refine gR fun K1 hK1 => ?_; simp only [go_sem, ↓reduceIte, reduceCtorEq, nA, nB, nC, nD, nE, nF] <;> and_intros <;> first | (apply hK1; clear hK1 K1) | (intros; first | omega | decide | (simp_all <;> omega)) | skip)))
   simp only [Tryz.results103, go_sem, ↓reduceIte, reduceCtorEq, nA, nB, nC, nD, nE, nF]
   exact ⟨_, _, Weak.refl _, Hp.le.refl _, by
    simp only [decide_eq_true_eq] at h3
    simp only [belowV]; rw [if_neg (by omega)]
    congr 3; rw [e1] at h3 ⊢; split at h3 <;> simp_all <;> omega, rfl⟩
  ·(repeat (first | refine gO rfl ?_ | (refine gR fun K1 hK1 => ?_; simp only [go_sem, ↓reduceIte, reduceCtorEq, nA, nB, nC, nD, nE, nF] <;> and_intros <;> first | (apply hK1; clear hK1 K1) | (intros; first | omega | decide | (simp_all <;> omega)) | skip)))
   simp only [Tryz.results103, go_sem, ↓reduceIte, reduceCtorEq, nA, nB, nC, nD, nE, nF]
   exact ⟨_, _, Weak.refl _, Hp.le.refl _, by
    simp only [decide_eq_false_iff_not] at h3
    simp only [belowV]; rw [if_neg (by omega)]
    congr 3; rw [e1] at h3 ⊢; split at h3 <;> simp_all <;> omega, rfl⟩
theorem belowV_bd {x n : Int} (hn : 1 ≤ n) : 0 ≤ belowV x n ∧ belowV x n < n := by
 unfold belowV; rw [if_neg (by omega)]
 exact ⟨Int.emod_nonneg x (by omega), Int.emod_lt_of_pos x (by omega)⟩
def encI (x : Int) : List AV := [.v (.int .i64 x)]
def rowI (l : List Int) : AV := .row 1 (l.map encI) none
def strm (l : List Int) (a : Int) : AO := .cells [rowI l, .v (.int .i64 a)]
def nextV (l : List Int) (a n : Int) : Int := if l.length = 0 then belowV ((a + 1) * 7919) n else belowV (belowV (l.getD (a % l.length).toNat 0) 1073741824 + (a / l.length) * (7919 + a % l.length)) n
theorem a_next (i : Nat) (l : List Int) (a n : Int) (h : Hp) (hi : h.H i = some (strm l a)) (ha : 0 ≤ a ∧ a ≤ 1000000000) (hn : n ≤ 9000000000000000000) (hl : l.length ≤ 9223372036854775807) (hv : ∀ x ∈ l, -9223372036854775808 ≤ x ∧ x ≤ 9223372036854775807) :
  ACalls Tryz.prog 54 [.ptr i 0, .v (.int .i64 n)] h (fun r h' => r = .v (.int .i64 (nextV l a n)) ∧ h' = { h with H := upd h.H i (some (strm l (a + 1))) }) := by
 refine gE Tryz.func54 rfl (by kernel_rfl) 62 rfl fun c => ?_
 (repeat (first | refine gO rfl ?_ | ((first | refine gR ?_ | (with_reducible refine wM ?_ ?_) | ((with_reducible refine xS ?_); refine uD 4 zM11 zP8E zP8P 64 rfl (by kernel_rfl) ?_) | ((with_reducible refine xS ?_); refine uD 5 zM11 zP9E zP9P 64 rfl (by kernel_rfl) ?_)) <;> ((try with_reducible intro K1 hK1); simp only [go_sem, ↓reduceIte, reduceCtorEq, nA, nB, nC, nD, nE, nF, hi, strm, rowI] <;> and_intros <;> first | (apply hK1; clear hK1 K1) | (intros; first | omega | decide | (simp_all <;> omega)) | skip))))
 refine awp_cond (t := _) rfl (fun h1 => ?_) (fun h1 => ?_)
 ·have h0 : l.length = 0 := by simpa using h1
  (repeat (first | refine gO rfl ?_ | ((first | refine gR ?_ | (with_reducible refine wM ?_ ?_) | ((with_reducible refine xS ?_); refine uD 4 zM11 zP8E zP8P 64 rfl (by kernel_rfl) ?_) | ((with_reducible refine xS ?_); refine uD 5 zM11 zP9E zP9P 64 rfl (by kernel_rfl) ?_)) <;> ((try with_reducible intro K1 hK1); simp only [go_sem, ↓reduceIte, reduceCtorEq, nA, nB, nC, nD, nE, nF] <;> and_intros <;> first | (apply hK1; clear hK1 K1) | (intros; first | omega | decide | (simp_all <;> omega)) | skip))))
  refine (a_below ((a + 1) * 7919) n _ (by omega) hn).mono ?_; rintro _ _ ⟨rfl, rfl⟩; apply hK1; clear hK1 K1
  (repeat (first | refine gO rfl ?_ | ((first | refine gR ?_ | (with_reducible refine wM ?_ ?_) | ((with_reducible refine xS ?_); refine uD 4 zM11 zP8E zP8P 64 rfl (by kernel_rfl) ?_) | ((with_reducible refine xS ?_); refine uD 5 zM11 zP9E zP9P 64 rfl (by kernel_rfl) ?_)) <;> ((try with_reducible intro K1 hK1); simp only [go_sem, ↓reduceIte, reduceCtorEq, nA, nB, nC, nD, nE, nF] <;> and_intros <;> first | (apply hK1; clear hK1 K1) | (intros; first | omega | decide | (simp_all <;> omega)) | skip))))
  simp only [Tryz.results54, go_sem, ↓reduceIte, reduceCtorEq, nA, nB, nC, nD, nE, nF]
  exact ⟨_, _, Weak.refl _, Hp.le.refl _, by simp only [nextV]; rw [if_pos h0], rfl⟩
 ·have h0 : l.length ≠ 0 := by simpa using h1
  have hq : a.tdiv l.length = a / l.length := Int.tdiv_eq_ediv_of_nonneg ha.1
  have hr : a.tmod l.length = a % l.length := Int.tmod_eq_emod_of_nonneg ha.1
  have q0 : 0 ≤ a / (l.length : Int) := Int.ediv_nonneg ha.1 (by omega)
  have q1 : a / (l.length : Int) ≤ a := Int.ediv_le_self _ ha.1
  have r0 := Int.emod_nonneg a (show (l.length : Int) ≠ 0 by omega)
  have r1 := Int.emod_lt_of_pos a (show (0 : Int) < l.length by omega)
  have r2 : a % (l.length : Int) ≤ a := by
   have := Int.emod_add_mul_ediv a l.length
   have := Int.mul_nonneg (show (0 : Int) ≤ l.length by omega) q0
   omega
  have hg := getD_enc encI l (a % (l.length : Int)).toNat 0 (by omega)
  have hx : -9223372036854775808 ≤ l.getD (a % (l.length : Int)).toNat 0 ∧ l.getD (a % (l.length : Int)).toNat 0 ≤ 9223372036854775807 := by
   rw [List.getD_eq_getElem?_getD, List.getElem?_eq_getElem (show (a % (l.length : Int)).toNat < l.length by omega)]
   exact hv _ (List.getElem_mem _)
  have hm0 : 0 ≤ a / (l.length : Int) * (7919 + a % l.length) := Int.mul_nonneg q0 (by omega)
  have hm1 : a / (l.length : Int) * (7919 + a % l.length) ≤ 7920 * a := by
   have e1 : a / (l.length : Int) * (7919 + a % l.length) = 7919 * (a / l.length) + a / l.length * (a % l.length) := by rw [Int.mul_add, Int.mul_comm _ 7919]
   have e2 : a / (l.length : Int) * (a % l.length) ≤ a / l.length * l.length := Int.mul_le_mul_of_nonneg_left (by omega) q0
   have e3 : a / (l.length : Int) * l.length ≤ a := Int.ediv_mul_le a (by omega)
   omega
  have hb := belowV_bd (x := l.getD (a % (l.length : Int)).toNat 0) (n := 1073741824) (by omega)
  (repeat (first | refine gO rfl ?_ | ((first | refine gR ?_ | (with_reducible refine wM ?_ ?_) | ((with_reducible refine xS ?_); refine uD 4 zM11 zP8E zP8P 64 rfl (by kernel_rfl) ?_) | ((with_reducible refine xS ?_); refine uD 5 zM11 zP9E zP9P 64 rfl (by kernel_rfl) ?_)) <;> ((try with_reducible intro K1 hK1); simp only [go_sem, ↓reduceIte, reduceCtorEq, nA, nB, nC, nD, nE, nF, hq, hr, hg, encI] <;> and_intros <;> first | (apply hK1; clear hK1 K1) | (intros; first | omega | decide | (simp_all <;> omega)) | skip))))
  refine (a_below _ _ _ hx (by omega)).mono ?_; rintro _ _ ⟨rfl, rfl⟩; apply hK1; clear hK1 K1
  (repeat (first | refine gO rfl ?_ | ((first | refine gR ?_ | (with_reducible refine wM ?_ ?_) | ((with_reducible refine xS ?_); refine uD 4 zM11 zP8E zP8P 64 rfl (by kernel_rfl) ?_) | ((with_reducible refine xS ?_); refine uD 5 zM11 zP9E zP9P 64 rfl (by kernel_rfl) ?_)) <;> ((try with_reducible intro K1 hK1); simp only [go_sem, ↓reduceIte, reduceCtorEq, nA, nB, nC, nD, nE, nF] <;> and_intros <;> first | (apply hK1; clear hK1 K1) | (intros; first | omega | decide | (simp_all <;> omega)) | skip))))
  refine (a_below _ _ _ (by omega) hn).mono ?_; rintro _ _ ⟨rfl, rfl⟩; apply hK1; clear hK1 K1
  (repeat (first | refine gO rfl ?_ | ((first | refine gR ?_ | (with_reducible refine wM ?_ ?_) | ((with_reducible refine xS ?_); refine uD 4 zM11 zP8E zP8P 64 rfl (by kernel_rfl) ?_) | ((with_reducible refine xS ?_); refine uD 5 zM11 zP9E zP9P 64 rfl (by kernel_rfl) ?_)) <;> ((try with_reducible intro K1 hK1); simp only [go_sem, ↓reduceIte, reduceCtorEq, nA, nB, nC, nD, nE, nF] <;> and_intros <;> first | (apply hK1; clear hK1 K1) | (intros; first | omega | decide | (simp_all <;> omega)) | skip))))
  simp only [Tryz.results54, go_sem, ↓reduceIte, reduceCtorEq, nA, nB, nC, nD, nE, nF]
  exact ⟨_, _, Weak.refl _, Hp.le.refl _, by simp only [nextV]; rw [if_neg h0], rfl⟩
def SOk (l : List Int) : Prop := l.length ≤ 9223372036854775807 ∧ ∀ x ∈ l, -9223372036854775808 ≤ x ∧ x ≤ 9223372036854775807
def Hp.st (h : Hp) (i : Nat) (l : List Int) (a : Int) : Hp := { h with H := upd h.H i (some (strm l a)) }
theorem st_at (h : Hp) (i : Nat) (l : List Int) (a : Int) : (h.st i l a).H i = some (strm l a) := upd_same _ _ _
theorem st_st (h : Hp) (i : Nat) (l : List Int) (a b : Int) : (h.st i l a).st i l b = h.st i l b := by
 simp only [Hp.st]
 congr 1
 exact upd_upd _ _ _ _
theorem nextV_bd {l : List Int} {a n : Int} (hn : 1 ≤ n) : 0 ≤ nextV l a n ∧ nextV l a n < n := by
 unfold nextV; split <;> exact belowV_bd hn
theorem g_next (i : Nat) (l : List Int) (a n : Int) (h : Hp) (hl : SOk l) (ha : 0 ≤ a ∧ a ≤ 1000000000) (hn : 1 ≤ n ∧ n ≤ 9000000000000000000) :
  ACalls Tryz.prog 54 [.ptr i 0, .v (.int .i64 n)] (h.st i l a) (fun r h' => ∃ x : Int, (0 ≤ x ∧ x < n) ∧ r = .v (.int .i64 x) ∧ h' = h.st i l (a + 1)) :=
 (a_next i l a n (h.st i l a) (st_at _ _ _ _) ha hn.2 hl.1 hl.2).mono fun r h' ⟨e, e2⟩ => ⟨nextV l a n, nextV_bd hn.1, e, e2.trans (st_st _ _ _ _ _)⟩
theorem g_flip (i : Nat) (l : List Int) (a n : Int) (h : Hp) (hl : SOk l) (ha : 0 ≤ a ∧ a ≤ 1000000000) (hn : 1 ≤ n ∧ n ≤ 9000000000000000000) :
  ACalls Tryz.prog 62 [.ptr i 0, .v (.int .i64 n)] (h.st i l a) (fun r h' => ∃ b : Bool, r = .v (.bool b) ∧ h' = h.st i l (a + 1)) := by
 refine gE Tryz.func62 rfl (by kernel_rfl) 7 rfl fun c => ?_
 (repeat (first | refine gO rfl ?_ | (refine gR fun K1 hK1 => ?_; simp only [go_sem, ↓reduceIte, reduceCtorEq, nA, nB, nC, nD, nE, nF] <;> and_intros <;> first | (apply hK1; clear hK1 K1) | (intros; first | omega | decide | (simp_all <;> omega)) | skip)))
 refine (g_next i l a n h hl ha hn).mono ?_; rintro _ _ ⟨x, hx, rfl, rfl⟩; apply hK1; clear hK1 K1
 (repeat (first | refine gO rfl ?_ | (refine gR fun K1 hK1 => ?_; simp only [go_sem, ↓reduceIte, reduceCtorEq, nA, nB, nC, nD, nE, nF] <;> and_intros <;> first | (apply hK1; clear hK1 K1) | (intros; first | omega | decide | (simp_all <;> omega)) | skip)))
 simp only [Tryz.results62, go_sem, ↓reduceIte, reduceCtorEq, nA, nB, nC, nD, nE, nF]
 exact ⟨_, _, Weak.refl _, Hp.le.refl _, _, rfl, rfl⟩
theorem g_range (i : Nat) (l : List Int) (a lo hi : Int) (h : Hp) (hl : SOk l) (ha : 0 ≤ a ∧ a ≤ 1000000000) (h1 : -4000000000000000000 ≤ lo) (h2 : lo ≤ hi) (h3 : hi ≤ 4000000000000000000) :
  ACalls Tryz.prog 9 [.ptr i 0, .v (.int .i64 lo), .v (.int .i64 hi)] (h.st i l a) (fun r h' => ∃ x : Int, (lo ≤ x ∧ x ≤ hi) ∧ r = .v (.int .i64 x) ∧ h' = h.st i l (a + 1)) := by
 refine gE Tryz.func9 rfl (by kernel_rfl) 16 rfl fun c => ?_
 (repeat (first | refine gO rfl ?_ | (refine gR fun K1 hK1 => ?_; simp only [go_sem, ↓reduceIte, reduceCtorEq, nA, nB, nC, nD, nE, nF] <;> and_intros <;> first | (apply hK1; clear hK1 K1) | (intros; first | omega | decide | (simp_all <;> omega)) | skip)))
 refine awp_cond (t := _) rfl (fun h4 => ?_) (fun h4 => ?_)
 ·exfalso; simp only [decide_eq_true_eq] at h4; omega
 ·(repeat (first | refine gO rfl ?_ | (refine gR fun K1 hK1 => ?_; simp only [go_sem, ↓reduceIte, reduceCtorEq, nA, nB, nC, nD, nE, nF] <;> and_intros <;> first | (apply hK1; clear hK1 K1) | (intros; first | omega | decide | (simp_all <;> omega)) | skip)))
  refine (g_next i l a (hi - lo + 1) h hl ha (by omega)).mono ?_; rintro _ _ ⟨x, hx, rfl, rfl⟩; apply hK1; clear hK1 K1
  (repeat (first | refine gO rfl ?_ | (refine gR fun K1 hK1 => ?_; simp only [go_sem, ↓reduceIte, reduceCtorEq, nA, nB, nC, nD, nE, nF] <;> and_intros <;> first | (apply hK1; clear hK1 K1) | (intros; first | omega | decide | (simp_all <;> omega)) | skip)))
  simp only [Tryz.results9, go_sem, ↓reduceIte, reduceCtorEq, nA, nB, nC, nD, nE, nF]
  exact ⟨_, _, Weak.refl _, Hp.le.refl _, lo + x, by omega, rfl, rfl⟩
theorem getD_mem {l : List Int} {x : Int} (h : 0 ≤ x ∧ x < l.length) : l.getD x.toNat 0 ∈ l := by
 rw [List.getD_eq_getElem?_getD, List.getElem?_eq_getElem (show x.toNat < l.length by omega)]
 exact List.getElem_mem _
theorem g_pick (i : Nat) (l : List Int) (a : Int) (ps : List Int) (k : Option Nat) (h : Hp) (hl : SOk l) (ha : 0 ≤ a ∧ a ≤ 1000000000) (hp : 1 ≤ ps.length ∧ ps.length ≤ 100) :
  ACalls Tryz.prog 12 [.ptr i 0, .row 1 (ps.map encI) k] (h.st i l a) (fun r h' => ∃ x ∈ ps, r = .v (.int .i64 x) ∧ h' = h.st i l (a + 1)) := by
 refine gE Tryz.func12 rfl (by kernel_rfl) 10 rfl fun c => ?_
 (repeat (first | refine gO rfl ?_ | (refine gR fun K1 hK1 => ?_; simp only [go_sem, ↓reduceIte, reduceCtorEq, nA, nB, nC, nD, nE, nF] <;> and_intros <;> first | (apply hK1; clear hK1 K1) | (intros; first | omega | decide | (simp_all <;> omega)) | skip)))
 refine (g_next i l a ps.length h hl ha (by omega)).mono ?_; rintro _ _ ⟨x, hx, rfl, rfl⟩; apply hK1; clear hK1 K1
 have hg := getD_enc encI ps x.toNat 0 (by omega)
 (repeat (first | refine gO rfl ?_ | (refine gR fun K1 hK1 => ?_; simp only [go_sem, ↓reduceIte, reduceCtorEq, nA, nB, nC, nD, nE, nF, hg, encI] <;> and_intros <;> first | (apply hK1; clear hK1 K1) | (intros; first | omega | decide | (simp_all <;> omega)) | skip)))
 simp only [Tryz.results12, go_sem, ↓reduceIte, reduceCtorEq, nA, nB, nC, nD, nE, nF]
 exact ⟨_, _, Weak.refl _, Hp.le.refl _, _, getD_mem hx, rfl, rfl⟩
def encS (x : ByteArray) : List AV := [.v (.string x)]
theorem getD_memS {l : List ByteArray} {x : Int} (h : 0 ≤ x ∧ x < l.length) (d : ByteArray) : l.getD x.toNat d ∈ l := by
 rw [List.getD_eq_getElem?_getD, List.getElem?_eq_getElem (show x.toNat < l.length by omega)]
 exact List.getElem_mem _
theorem g_some (i : Nat) (l : List Int) (a : Int) (ps : List ByteArray) (k : Option Nat) (h : Hp) (hl : SOk l) (ha : 0 ≤ a ∧ a ≤ 1000000000) (hp : 1 ≤ ps.length ∧ ps.length ≤ 100) :
  ACalls Tryz.prog 11 [.ptr i 0, .row 1 (ps.map encS) k] (h.st i l a) (fun r h' => ∃ x ∈ ps, r = .v (.string x) ∧ h' = h.st i l (a + 1)) := by
 refine gE Tryz.func11 rfl (by kernel_rfl) 10 rfl fun c => ?_
 (repeat (first | refine gO rfl ?_ | (refine gR fun K1 hK1 => ?_; simp only [go_sem, ↓reduceIte, reduceCtorEq, nA, nB, nC, nD, nE, nF] <;> and_intros <;> first | (apply hK1; clear hK1 K1) | (intros; first | omega | decide | (simp_all <;> omega)) | skip)))
 refine (g_next i l a ps.length h hl ha (by omega)).mono ?_; rintro _ _ ⟨x, hx, rfl, rfl⟩; apply hK1; clear hK1 K1
 have hg := getD_enc encS ps x.toNat default (by omega)
 (repeat (first | refine gO rfl ?_ | (refine gR fun K1 hK1 => ?_; simp only [go_sem, ↓reduceIte, reduceCtorEq, nA, nB, nC, nD, nE, nF, hg, encS] <;> and_intros <;> first | (apply hK1; clear hK1 K1) | (intros; first | omega | decide | (simp_all <;> omega)) | skip)))
 simp only [Tryz.results11, go_sem, ↓reduceIte, reduceCtorEq, nA, nB, nC, nD, nE, nF]
 exact ⟨_, _, Weak.refl _, Hp.le.refl _, _, getD_memS hx _, rfl, rfl⟩
theorem g_odd (i : Nat) (l : List Int) (a lo hi : Int) (h : Hp) (hl : SOk l) (ha : 0 ≤ a ∧ a ≤ 900000000) (h1 : -4000000000000000 ≤ lo) (h2 : lo ≤ hi) (h3 : hi ≤ 4000000000000000) :
  ACalls Tryz.prog 41 [.ptr i 0, .v (.int .i64 lo), .v (.int .i64 hi)] (h.st i l a) (fun r h' => ∃ x a' : Int, (-5000000000000000 ≤ x ∧ x ≤ 5000000000000000) ∧ (a ≤ a' ∧ a' ≤ a + 2) ∧ r = .v (.int .i64 x) ∧ h' = h.st i l a') := by
 refine gE Tryz.func41 rfl (by kernel_rfl) 19 rfl fun c => ?_
 (repeat (first | refine gO rfl ?_ | (refine gR fun K1 hK1 => ?_; simp only [go_sem, ↓reduceIte, reduceCtorEq, nA, nB, nC, nD, nE, nF] <;> and_intros <;> first | (apply hK1; clear hK1 K1) | (intros; first | omega | decide | (simp_all <;> omega)) | skip)))
 refine (g_flip i l a 12 h hl (by omega) (by omega)).mono ?_; rintro _ _ ⟨b, rfl, rfl⟩; apply hK1; clear hK1 K1
 (repeat (first | refine gO rfl ?_ | (refine gR fun K1 hK1 => ?_; simp only [go_sem, ↓reduceIte, reduceCtorEq, nA, nB, nC, nD, nE, nF] <;> and_intros <;> first | (apply hK1; clear hK1 K1) | (intros; first | omega | decide | (simp_all <;> omega)) | skip)))
 refine awp_cond (t := _) rfl (fun h4 => ?_) (fun h4 => ?_)
 ·(repeat (first | refine gO rfl ?_ | (refine gR fun K1 hK1 => ?_; simp only [go_sem, ↓reduceIte, reduceCtorEq, nA, nB, nC, nD, nE, nF] <;> and_intros <;> first | (apply hK1; clear hK1 K1) | (intros; first | omega | decide | (simp_all <;> omega)) | skip)))
  refine (g_pick i l (a + 1) [lo - 1, hi + 1, lo, hi, -1099511627776, 1099511627776] none h hl (by omega) (by simp)).mono ?_; rintro _ _ ⟨x, hx, rfl, rfl⟩; apply hK1; clear hK1 K1
  (repeat (first | refine gO rfl ?_ | (refine gR fun K1 hK1 => ?_; simp only [go_sem, ↓reduceIte, reduceCtorEq, nA, nB, nC, nD, nE, nF] <;> and_intros <;> first | (apply hK1; clear hK1 K1) | (intros; first | omega | decide | (simp_all <;> omega)) | skip)))
  simp only [Tryz.results41, go_sem, ↓reduceIte, reduceCtorEq, nA, nB, nC, nD, nE, nF]
  exact ⟨_, _, Weak.refl _, Hp.le.refl _, x, a + 1 + 1, by simp at hx; omega, by omega, rfl, rfl⟩
 ·(repeat (first | refine gO rfl ?_ | (refine gR fun K1 hK1 => ?_; simp only [go_sem, ↓reduceIte, reduceCtorEq, nA, nB, nC, nD, nE, nF] <;> and_intros <;> first | (apply hK1; clear hK1 K1) | (intros; first | omega | decide | (simp_all <;> omega)) | skip)))
  refine (g_range i l (a + 1) lo hi h hl (by omega) (by omega) h2 (by omega)).mono ?_; rintro _ _ ⟨x, hx, rfl, rfl⟩; apply hK1; clear hK1 K1
  (repeat (first | refine gO rfl ?_ | (refine gR fun K1 hK1 => ?_; simp only [go_sem, ↓reduceIte, reduceCtorEq, nA, nB, nC, nD, nE, nF] <;> and_intros <;> first | (apply hK1; clear hK1 K1) | (intros; first | omega | decide | (simp_all <;> omega)) | skip)))
  simp only [Tryz.results41, go_sem, ↓reduceIte, reduceCtorEq, nA, nB, nC, nD, nE, nF]
  exact ⟨_, _, Weak.refl _, Hp.le.refl _, x, a + 1 + 1, by omega, by omega, rfl, rfl⟩
inductive LT where
 | mk (kind : Int) (item : ByteArray) (long many : Int) (kids : List LT) (shares : List Int)
instance : Inhabited LT := ⟨.mk 0 default 0 0 [] []⟩
def encL : LT → List AV
 | .mk kind item long many kids shares => [.v (.int .i64 kind), .v (.string item), .v (.int .i64 long), .v (.int .i64 many), .row 6 (kids.map encL) none, .row 1 (shares.map encI) none]
theorem encL_eq (kind : Int) (item : ByteArray) (long many : Int) (kids : List LT) (shares : List Int) : encL (.mk kind item long many kids shares) = [.v (.int .i64 kind), .v (.string item), .v (.int .i64 long), .v (.int .i64 many), .row 6 (kids.map encL) none, .row 1 (shares.map encI) none] := by rw [encL]
theorem encL_len (t : LT) : (encL t).length = 6 := by cases t; rw [encL_eq]; rfl
def WL (cs ds : List AV) : Prop := cs.length = ds.length ∧ ∀ j, Weak (cs.getD j .junk) (ds.getD j .junk)
theorem WL.nil : WL [] [] := ⟨rfl, fun _ => Weak.refl _⟩
theorem WL.cons {a b : AV} {cs ds : List AV} (h : Weak a b) (k : WL cs ds) : WL (a :: cs) (b :: ds) := ⟨by simp [k.1], fun j => by
 cases j with
 | zero => exact h
 | succ j => exact k.2 j⟩
theorem Weak.agg {cs ds : List AV} (h : WL cs ds) : Weak (.agg cs) (.agg ds) := fun G v hr => by
 cases hr with
 | agg _ vs u hl hu hr h1 =>
  refine .agg _ vs u (by rw [hl, h.1]) (fun j hj => hu j (by rw [h.1]; exact hj)) (fun j hj => ?_) (fun j hj => h1 j (by rw [h.1]; exact hj))
  have hj' : j < cs.length := by rw [h.1]; exact hj
  have := h.2 j G _ (by rw [List.getD_eq_getElem?_getD, List.getElem?_eq_getElem hj']; exact hr j hj')
  rwa [List.getD_eq_getElem?_getD, List.getElem?_eq_getElem hj] at this
def NB (x : Int) : Prop := -5000000000000000 ≤ x ∧ x ≤ 5000000000000000
def LB : Nat → LT → Prop
 | 0, _ => False
 | d + 1, .mk kind item long many kids shares => NB kind ∧ item.size ≤ 2 ∧ NB long ∧ NB many ∧ kids.length ≤ 3 ∧ shares.length ≤ 4 ∧ (∀ x ∈ shares, NB x) ∧ ∀ k ∈ kids, LB d k
theorem LB.mono : ∀ {d e : Nat} {t : LT}, LB d t → d ≤ e → LB e t
 | 0, _, _, h, _ => h.elim
 | d + 1, 0, _, _, h => by omega
 | d + 1, e + 1, .mk .., h, hd => ⟨h.1, h.2.1, h.2.2.1, h.2.2.2.1, h.2.2.2.2.1, h.2.2.2.2.2.1, h.2.2.2.2.2.2.1, fun k hk => (h.2.2.2.2.2.2.2 k hk).mono (by omega)⟩
def OLd (b : Bool) (T : Nat → Option TO) (S : Nat → Prop) : Nat → List AV → Prop
 | 0, _ => False
 | d + 1, cs => ∃ (kind : Int) (item : ByteArray) (long many : Int) (K Sh : AV), cs = [.v (.int .i64 kind), .v (.string item), .v (.int .i64 long), .v (.int .i64 many), K, Sh] ∧
   (NB kind ∧ item.size ≤ 2 ∧ NB long ∧ NB many) ∧
   (K = .v (.slice none 0 0) ∨ (∃ q css, S q ∧ T q = some (.cont 6 css) ∧ K = .arr 6 q css.length ∧ 0 < css.length ∧ css.length ≤ 3 ∧ ∀ c ∈ css, OLd b T S d c) ∨ (b = false ∧ ∃ css, K = .row 6 css none ∧ css.length ≤ 3 ∧ ∀ c ∈ css, OLd b T S d c)) ∧
   (Sh = .v (.slice none 0 0) ∨ ∃ (xs : List Int) (k : Nat), Sh = .row 1 (xs.map encI) (some k) ∧ xs.length ≤ 5 ∧ (∀ x ∈ xs, NB x) ∧ (b = true → S k ∧ T k = some (.tail xs.length) ∧ xs.length ≤ 4))
theorem OLd.len {b : Bool} {T : Nat → Option TO} {S : Nat → Prop} {d : Nat} {cs : List AV} (h : OLd b T S d cs) : cs.length = 6 := by
 cases d with
 | zero => exact h.elim
 | succ d => obtain ⟨_, _, _, _, _, _, rfl, _⟩ := h; rfl
theorem OLd.keep {b : Bool} {T T' : Nat → Option TO} {S : Nat → Prop} (hT : ∀ k, S k → (∃ x, T k = some (.cont 6 x)) → T' k = T k) (hs : b = true → ∀ k n, T k = some (.tail n) → T' k = some (.tail n)) : ∀ {d : Nat} {cs : List AV}, OLd b T S d cs → OLd b T' S d cs
 | 0, _, h => h.elim
 | d + 1, cs, ⟨kind, item, long, many, K, Sh, e, h1, h2, h3⟩ => by
  refine ⟨kind, item, long, many, K, Sh, e, h1, ?_, ?_⟩
  ·rcases h2 with h2 | ⟨q, css, hq, hTq, hK, hp, hl, hc⟩ | ⟨hbf, css, hK, hl, hc⟩
   ·exact .inl h2
   ·exact .inr (.inl ⟨q, css, hq, by rw [hT q hq ⟨css, hTq⟩]; exact hTq, hK, hp, hl, fun c hc' => (hc c hc').keep hT hs⟩)
   ·exact .inr (.inr ⟨hbf, css, hK, hl, fun c hc' => (hc c hc').keep hT hs⟩)
  ·rcases h3 with h3 | ⟨xs, k, h3, hl, hx, hb⟩
   ·exact .inl h3
   ·exact .inr ⟨xs, k, h3, hl, hx, fun hb' => ⟨(hb hb').1, hs hb' k _ (hb hb').2.1, (hb hb').2.2⟩⟩
theorem OLd.more {b : Bool} {T : Nat → Option TO} {S S' : Nat → Prop} (hS : ∀ k, S k → S' k) : ∀ {d : Nat} {cs : List AV}, OLd b T S d cs → OLd b T S' d cs
 | 0, _, h => h.elim
 | d + 1, cs, ⟨kind, item, long, many, K, Sh, e, h1, h2, h3⟩ => by
  have h3' : Sh = .v (.slice none 0 0) ∨ ∃ (xs : List Int) (k : Nat), Sh = .row 1 (xs.map encI) (some k) ∧ xs.length ≤ 5 ∧ (∀ x ∈ xs, NB x) ∧ (b = true → S' k ∧ T k = some (.tail xs.length) ∧ xs.length ≤ 4) := by
   rcases h3 with h3 | ⟨xs, k, h3, h4, h5, h6⟩
   ·exact .inl h3
   ·exact .inr ⟨xs, k, h3, h4, h5, fun hb => ⟨hS k (h6 hb).1, (h6 hb).2⟩⟩
  refine ⟨kind, item, long, many, K, Sh, e, h1, ?_, h3'⟩
  rcases h2 with h2 | ⟨q, css, hq, hTq, hK, hp, hl, hc⟩ | ⟨hbf, css, hK, hl, hc⟩
  ·exact .inl h2
  ·exact .inr (.inl ⟨q, css, hS q hq, hTq, hK, hp, hl, fun c hc' => (hc c hc').more hS⟩)
  ·exact .inr (.inr ⟨hbf, css, hK, hl, fun c hc' => (hc c hc').more hS⟩)
theorem OLd.up {b : Bool} {T : Nat → Option TO} {S : Nat → Prop} : ∀ {d e : Nat} {cs : List AV}, d ≤ e → OLd b T S d cs → OLd b T S e cs
 | 0, _, _, _, h => h.elim
 | d + 1, 0, _, he, _ => by omega
 | d + 1, e + 1, cs, he, ⟨kind, item, long, many, K, Sh, e', h1, h2, h3⟩ => by
  refine ⟨kind, item, long, many, K, Sh, e', h1, ?_, h3⟩
  rcases h2 with h2 | ⟨q, css, hq, hTq, hK, hp, hl, hc⟩ | ⟨hbf, css, hK, hl, hc⟩
  ·exact .inl h2
  ·exact .inr (.inl ⟨q, css, hq, hTq, hK, hp, hl, fun c hc' => (hc c hc').up (by omega)⟩)
  ·exact .inr (.inr ⟨hbf, css, hK, hl, fun c hc' => (hc c hc').up (by omega)⟩)
theorem RepL.of6 {G G' : Gh} {a b c d e f a' b' c' d' e' f' : AV} {us : List Value} (h : RepL G [a, b, c, d, e, f] us) (h0 : ∀ x, Rep G a x → Rep G' a' x) (h1 : ∀ x, Rep G b x → Rep G' b' x) (h2 : ∀ x, Rep G c x → Rep G' c' x) (h3 : ∀ x, Rep G d x → Rep G' d' x)
  (h4 : ∀ x, Rep G e x → Rep G' e' x) (h5 : ∀ x, Rep G f x → Rep G' f' x) : RepL G' [a', b', c', d', e', f'] us := by
 refine ⟨h.1, fun j hj hj' => ⟨?_, (h.2 j hj hj').2⟩⟩
 have h9 := (h.2 j hj hj').1
 match j, hj with
 | 0, _ => exact h0 _ h9
 | 1, _ => exact h1 _ h9
 | 2, _ => exact h2 _ h9
 | 3, _ => exact h3 _ h9
 | 4, _ => exact h4 _ h9
 | 5, _ => exact h5 _ h9
 | j + 6, hj => simp at hj; omega
def LC : Nat → LT → Prop
 | 0, _ => False
 | d + 1, .mk kind item long many kids shares => NB kind ∧ item.size ≤ 2 ∧ NB long ∧ NB many ∧ kids.length ≤ 3 ∧ shares.length ≤ 5 ∧ (∀ x ∈ shares, NB x) ∧ ∀ k ∈ kids, LC d k
theorem LC.mono : ∀ {d e : Nat} {t : LT}, LC d t → d ≤ e → LC e t
 | 0, _, _, h, _ => h.elim
 | d + 1, 0, _, _, h => by omega
 | d + 1, e + 1, .mk .., h, hd => ⟨h.1, h.2.1, h.2.2.1, h.2.2.2.1, h.2.2.2.2.1, h.2.2.2.2.2.1, h.2.2.2.2.2.2.1, fun k hk => (h.2.2.2.2.2.2.2 k hk).mono (by omega)⟩
theorem OLd.list {b : Bool} {T : Nat → Option TO} {S : Nat → Prop} {G G' : Gh} {d : Nat} (ih : ∀ cs, OLd b T S d cs → ∃ t, LC d t ∧ ∀ us, RepL G cs us → RepL G' (encL t) us) : ∀ (css : List (List AV)) (_ : ∀ c ∈ css, OLd b T S d c),
  ∃ ts : List LT, ts.length = css.length ∧ (∀ t ∈ ts, LC d t) ∧ ∀ us, RepL G css.flatten us → RepL G' (ts.map encL).flatten us
 | [], _ => ⟨[], rfl, by simp, fun us h => by cases us with | nil => exact RepL.nil _ | cons => have := h.1; simp at this⟩
 | c :: css, h => by
  obtain ⟨t, ht, hr⟩ := ih c (h c (by simp))
  obtain ⟨ts, hl, hts, hrs⟩ := OLd.list ih css fun c hc => h c (by simp [hc])
  refine ⟨t :: ts, by simp [hl], by simpa using ⟨ht, hts⟩, fun us hu => ?_⟩
  have h1 := hu.take c.length
  have h2 := hu.drop c.length
  simp only [List.flatten_cons, List.take_left, List.drop_left] at h1 h2
  have := (hr _ h1).append (hrs _ h2)
  rw [List.take_append_drop] at this
  exact this
theorem OLd.freeze {b : Bool} {T : Nat → Option TO} {S : Nat → Prop} {G G' : Gh} (hle : GLe G G') (hf : Fzs T S G G') : ∀ (d : Nat) (cs : List AV), OLd b T S d cs → ∃ t, LC d t ∧ ∀ us, RepL G cs us → RepL G' (encL t) us
 | 0, _, h => h.elim
 | d + 1, cs, ⟨kind, item, long, many, K, Sh, e, ⟨b1, b2, b3, b4⟩, h2, h3⟩ => by
  subst e
  have hK : ∃ ts : List LT, ts.length ≤ 3 ∧ (∀ t ∈ ts, LC d t) ∧ ∀ x, Rep G K x → Rep G' (.row 6 (ts.map encL) none) x := by
   have hz : ∀ ts : List LT, ∀ y ∈ ts.map encL, y.length = 6 := fun ts y hy => by
    obtain ⟨t, _, rfl⟩ := List.mem_map.1 hy
    exact encL_len t
   rcases h2 with rfl | ⟨q, css, hq, hT, rfl, _, hl, hc⟩ | ⟨_, css, rfl, hl, hc⟩
   ·exact ⟨[], by simp, by simp, fun x hx => Weak.nil 6 0 0 ⟨rfl, rfl⟩ G' x (hx.mono hle)⟩
   ·obtain ⟨ts, htl, htb, hts⟩ := OLd.list (OLd.freeze hle hf d) css hc
    exact ⟨ts, by omega, htb, fun x hx => hf q 6 css x hq hT hx _ (by simpa using htl) (hz ts) hts⟩
   ·obtain ⟨ts, htl, htb, hts⟩ := OLd.list (OLd.freeze hle hf d) css hc
    exact ⟨ts, by omega, htb, fun x hx => hx.rowFlat hle (by simpa using htl) (hz ts) hts⟩
  have hS : ∃ xs : List Int, xs.length ≤ 5 ∧ (∀ x ∈ xs, NB x) ∧ ∀ x, Rep G Sh x → Rep G' (.row 1 (xs.map encI) none) x := by
   rcases h3 with rfl | ⟨xs, k, rfl, hl, hx, _⟩
   ·exact ⟨[], by simp, by simp, fun x hx => Weak.nil 1 0 0 ⟨rfl, rfl⟩ G' x (hx.mono hle)⟩
   ·exact ⟨xs, hl, hx, fun x hx => Weak.row _ _ _ G' x (hx.mono hle)⟩
  obtain ⟨ts, hl, htb, hts⟩ := hK
  obtain ⟨xs, hxl, hxb, hxs⟩ := hS
  refine ⟨.mk kind item long many ts xs, ⟨b1, b2, b3, b4, hl, hxl, hxb, htb⟩, fun us hu => ?_⟩
  rw [encL_eq]
  exact hu.of6 (fun x hx => hx.mono hle) (fun x hx => hx.mono hle) (fun x hx => hx.mono hle) (fun x hx => hx.mono hle) hts hxs
open Go.RowKit
theorem gb_refl (w : World) (r : Option Nat) : w.grownBy w r := ⟨rfl, rfl, rfl, Nat.le_refl _, fun _ _ _ => rfl⟩
theorem gb_trans {a b c : World} {r : Option Nat} (h : a.grownBy b r) (k : b.grownBy c r) : a.grownBy c r :=
  ⟨k.os.trans h.os, k.tape.trans h.tape, k.output.trans h.output, Nat.le_trans h.size k.size, fun i hi hn => (k.block i (Nat.lt_of_lt_of_le hi h.size) hn).trans (h.block i hi hn)⟩
theorem gb_alloc {a w : World} {r : Option Nat} (h : a.grownBy w r) (o : Obj) : a.grownBy (w.alloc o) r :=
  ⟨h.os, h.tape, h.output, Nat.le_trans h.size (by simp), fun i hi hne => (Below.heap_alloc w o i (Nat.lt_of_lt_of_le hi h.size)).trans (h.block i hi hne)⟩
theorem gb_below {a w : World} (h : Below a.heap.size a w) (r : Option Nat) : a.grownBy w r := ⟨h.os, h.tape, h.output, h.size, fun i hi _ => h.block i hi⟩
def Lst (w : World) (lo size : Nat) (v : Value) (xs : List Value) : Prop :=
  ∃ (A : Option Addr) (n c : Nat), v = .slice A n c ∧ n ≤ c ∧ c ≤ maxLen ∧ xs.length = n * size ∧
    (0 < n → ∃ g o, A = some ⟨g, o, none⟩ ∧ lo ≤ g ∧ g < w.heap.size ∧ ∀ j u, xs[j]? = some u → w.cell? ⟨g, o + j, none⟩ = some u)
theorem Lst.mono {w : World} {lo lo' size : Nat} {v : Value} {xs : List Value} (h : Lst w lo size v xs) (hl : lo' ≤ lo) : Lst w lo' size v xs := by
  obtain ⟨A, n, c, hv, hn, hc, hx, hr⟩ := h
  exact ⟨A, n, c, hv, hn, hc, hx, fun h0 => let ⟨g, o, hA, hg, hlt, hcell⟩ := hr h0; ⟨g, o, hA, Nat.le_trans hl hg, hlt, hcell⟩⟩
theorem Lst.keep {w w' : World} {lo size : Nat} {v : Value} {xs : List Value} (h : Lst w lo size v xs) (hs : w.heap.size ≤ w'.heap.size)
    (hk : ∀ k, lo ≤ k → k < w.heap.size → w'.heap[k]? = w.heap[k]?) : Lst w' lo size v xs := by
  obtain ⟨A, n, c, hv, hn, hc, hx, hr⟩ := h
  refine ⟨A, n, c, hv, hn, hc, hx, fun h0 => ?_⟩
  obtain ⟨g, o, hA, hg, hlt, hcell⟩ := hr h0
  exact ⟨g, o, hA, hg, Nat.lt_of_lt_of_le hlt hs, fun j u hu => (World.cell?_of_block (w := w) (hk g hg hlt)).trans (hcell j u hu)⟩
theorem Lst.below {w w' : World} {lo size : Nat} {v : Value} {xs : List Value} (h : Lst w lo size v xs) (hb : Below w.heap.size w w') : Lst w' lo size v xs :=
  h.keep hb.size fun k _ hk => hb.block k hk
theorem Lst.nil (w : World) (lo size : Nat) : Lst w lo size (.slice none 0 0) [] := ⟨none, 0, 0, rfl, Nat.le_refl _, Nat.zero_le _, by simp, fun h => absurd h (by omega)⟩
theorem Lst.at_ {w : World} {lo n c k : Nat} {A : Option Addr} {xs : List Value} (h : Lst w lo 1 (.slice A n c) xs) (hk : k < n) :
    ∃ g o u, A = some ⟨g, o, none⟩ ∧ lo ≤ g ∧ g < w.heap.size ∧ xs[k]? = some u ∧ w.cell? ⟨g, o + k, none⟩ = some u := by
  obtain ⟨A', n', c', hv, hn, hc, hx, hr⟩ := h
  simp only [Value.slice.injEq] at hv
  obtain ⟨rfl, rfl, rfl⟩ := hv
  obtain ⟨g, o, hA, hg, hlt, hcell⟩ := hr (by omega)
  have hl : k < xs.length := by omega
  exact ⟨g, o, xs[k], hA, hg, hlt, List.getElem?_eq_getElem hl, hcell k _ (List.getElem?_eq_getElem hl)⟩
def IsStream (ts : TypeId) (w : World) (b M : Nat) : Prop :=
  ∃ (a : Option Addr) (len cap : Nat) (at_ : Nat), w.heap[b]? = some (.cells #[.slice a len cap, .int .i64 (at_ : Int)] ts (0, 0)) ∧ at_ ≤ M ∧ len ≤ 9223372036854775807 ∧
    (0 < len → ∃ x, a = some x ∧ x.block < b ∧ x.spot = none ∧ ∀ i, i < len → ∃ z : Int, w.cell? ⟨x.block, x.off + i, none⟩ = some (.int .i64 z))
theorem block_lt {w : World} {b : Nat} {o : Obj} (h : w.heap[b]? = some o) : b < w.heap.size := by
  rcases Nat.lt_or_ge b w.heap.size with hl | hl
  · exact hl
  · rw [Array.getElem?_eq_none hl] at h; cases h
theorem IsStream.lt {ts : TypeId} {w : World} {b M : Nat} (h : IsStream ts w b M) : b < w.heap.size := by
  obtain ⟨_, _, _, _, hh, _⟩ := h
  exact block_lt hh
theorem IsStream.below {ts : TypeId} {w w' : World} {b M : Nat} (h : IsStream ts w b M) (hb : Below w.heap.size w w') : IsStream ts w' b M := by
  have hlt := h.lt
  obtain ⟨a, len, cap, at_, hh, h1, h2, h3⟩ := h
  refine ⟨a, len, cap, at_, (hb.block b hlt).trans hh, h1, h2, fun h0 => ?_⟩
  obtain ⟨x, hx, hxb, hs, hc⟩ := h3 h0
  refine ⟨x, hx, hxb, hs, fun i hi => ?_⟩
  obtain ⟨z, hz⟩ := hc i hi
  exact ⟨z, (hb.cell (p := ⟨x.block, x.off + i, none⟩) (by show x.block < _; omega)).trans hz⟩
theorem IsStream.mono {ts : TypeId} {w : World} {b M M' : Nat} (h : IsStream ts w b M) (hM : M ≤ M') : IsStream ts w b M' := by
  obtain ⟨a, len, cap, at_, hh, h1, h2⟩ := h
  exact ⟨a, len, cap, at_, hh, by omega, h2⟩
theorem IsStream.alloc {ts : TypeId} {w : World} {b M : Nat} (h : IsStream ts w b M) (o : Obj) : IsStream ts (w.alloc o) b M :=
  h.below ((Below.refl _ _).alloc (Nat.le_refl _) o)
structure Goes (ts : TypeId) (b M k : Nat) (w w' : World) : Prop where
  is : IsStream ts w' b (M + k)
  gb : w.grownBy w' (some b)
theorem Goes.refl {ts : TypeId} {b M k : Nat} {w : World} (h : IsStream ts w b M) : Goes ts b M k w w := ⟨h.mono (by omega), gb_refl _ _⟩
theorem Goes.trans {ts : TypeId} {b M k j m : Nat} {w w1 w2 : World} (h : Goes ts b M k w w1) (h' : Goes ts b (M + k) j w1 w2) (hm : k + j ≤ m) : Goes ts b M m w w2 :=
  ⟨h'.is.mono (by omega), gb_trans h.gb h'.gb⟩
theorem Goes.more {ts : TypeId} {b M k k' : Nat} {w w1 : World} (h : Goes ts b M k w w1) (hk : k ≤ k') : Goes ts b M k' w w1 := ⟨h.is.mono (by omega), h.gb⟩
theorem Goes.below {ts : TypeId} {b M k : Nat} {w w1 w2 : World} (h : Goes ts b M k w w1) (hb : Below w1.heap.size w1 w2) : Goes ts b M k w w2 :=
  ⟨h.is.below hb, gb_trans h.gb (gb_below hb _)⟩
theorem Goes.alloc {ts : TypeId} {b M k : Nat} {w w1 : World} (h : Goes ts b M k w w1) (o : Obj) : Goes ts b M k w (w1.alloc o) := ⟨h.is.alloc o, gb_alloc h.gb o⟩
def outsideB (n lo hi : Int) : Bool := decide (n < lo) || decide (hi < n)
set_option maxHeartbeats 400000 in
theorem in_any (n lo hi : Int) (w : World) :
    Calls Tryz.prog 74 #[.int .i64 n, .int .i64 lo, .int .i64 hi] w fun e w' => e = .returned (.bool (!outsideB n lo hi)) ∧ w = w' := by
  by_cases h1 : lo ≤ n
  · go_enter Tryz.func74, Tryz.ntmps74
    go_wp2
    go_ret
    exact ⟨by have : ¬ n < lo := by omega
              simp [outsideB, this, ← Int.not_lt], rfl⟩
  · have h1' : decide (lo ≤ n) = false := by simpa using h1
    go_enter Tryz.func74, Tryz.ntmps74
    go_wp2
    go_ret
    exact ⟨by have : n < lo := by omega
              simp [outsideB, this], rfl⟩
def keyByte (i n : Nat) : Bool := (decide (97 ≤ n) && decide (n ≤ 122)) || (decide (0 < i) && ((decide (48 ≤ n) && decide (n ≤ 57)) || n == 45 || n == 95))
def keyTo (s : ByteArray) : Nat → Bool
  | 0 => true
  | k + 1 => keyTo s k && keyByte k (s.data.toList.getD k 0).toNat
def keyB (s : ByteArray) : Bool := keyTo s s.size && decide (1 ≤ s.size) && decide (s.size ≤ 40)
theorem keyTo_le (s : ByteArray) {k m : Nat} (h : k ≤ m) (hm : keyTo s m = true) : keyTo s k = true := by
  induction m with
  | zero => obtain rfl : k = 0 := by omega
            rfl
  | succ m ih =>
    by_cases e : k = m + 1
    · rw [e]; exact hm
    · rw [keyTo, Bool.and_eq_true] at hm
      exact ih (by omega) hm.1
theorem keyB_no (s : ByteArray) {k : Nat} (h : k ≤ s.size) (hk : keyTo s k = false) : keyB s = false := by
  have h2 : keyTo s s.size = false := by
    cases h3 : keyTo s s.size with
    | false => rfl
    | true => rw [keyTo_le s h h3] at hk; cases hk
  simp [keyB, h2]
theorem getD_byte (s : ByteArray) (k : Nat) (h : k < s.size) : s.data.toList.getD k 0 = s[k] := by
  have h' : k < s.data.toList.length := h
  simp [List.getD, List.getElem?_eq_getElem h']; rfl
set_option maxRecDepth 100000 in
set_option maxHeartbeats 2000000 in
theorem isKey_any (s : ByteArray) (hsz : s.size ≤ 1000000000000) (w : World) :
    Calls Tryz.prog 66 #[.string s] w fun e w' => e = .returned (.bool (keyB s)) ∧ w = w' := by
  go_enter Tryz.func66, Tryz.ntmps66
  go_wp2_with fail
  go_loopg [3, 4] s.size (fun g i _ wr => ∃ k : Nat, k + g = s.size ∧ i = .int .i64 k ∧ keyTo s k = true ∧ w = wr)
  case atStart => exact ⟨0, by omega, rfl, rfl, rfl⟩
  case round =>
    obtain ⟨k, hk, rfl, hkey, rfl⟩ := hrel
    have HK := Lib.hid hkey
    clear hkey
    by_cases hg : gk = 0
    · obtain rfl : k = s.size := by omega
      by_cases h0 : s.size = 0
      · have e0 : s = ⟨#[]⟩ := by
          obtain ⟨⟨l⟩⟩ := s
          have : l = [] := List.eq_nil_of_length_eq_zero h0
          rw [this]
        subst e0
        go_wp2_with fail
        go_ret
        exact ⟨rfl, rfl⟩
      · have hne : s.toList.isEmpty = false := by
          rw [ByteArray.toList_eq]
          cases hl : s.data.toList with
          | nil => exact absurd (show s.data.toList.length = 0 by rw [hl]; rfl) h0
          | cons _ _ => rfl
        go_wp2_with fail
        go_ret
        refine ⟨?_, rfl⟩
        have e1 : keyB s = decide ((s.size : Int) ≤ 40) := by
          have h1 : decide (1 ≤ s.size) = true := by simp; omega
          rw [keyB, HK.out, h1, Bool.true_and, Bool.true_and, Bool.eq_iff_iff]; simp; omega
        rw [e1]; rfl
    · have hlt : k < s.size := by omega
      have HG := Lib.hid (show keyTo s (k + 1) = (keyTo s k && keyByte k s[k].toNat) by rw [keyTo, getD_byte s k hlt])
      go_upto_region 5 with fail
      generalize s[k].toNat = n at *
      go_cut [40] (fun s40 wx => s40 = .bool (!keyByte k n) ∧ w = wx)
      case first =>
        by_cases c1 : n < 97
        · by_cases ck : k ≤ 0
          · have HV := Lib.hid (show keyByte k n = false by simp [keyByte]; omega)
            go_wp2_with fail
            go_meet
            exact ⟨by rw [HV.out]; first | rfl | (simp; omega), rfl⟩
          · have ck' : 0 < k := by omega
            by_cases c2 : n < 48
            · by_cases c3 : n = 45
              · have b3 : ((n : Int) == 45) = true := by simp; omega
                have HV := Lib.hid (show keyByte k n = true by simp [keyByte]; omega)
                go_wp2_with fail
                go_meet
                exact ⟨by rw [HV.out]; first | rfl | (simp; omega), rfl⟩
              · have b3 : ((n : Int) == 45) = false := by simp; omega
                have b4 : ((n : Int) == 95) = false := by simp; omega
                have HV := Lib.hid (show keyByte k n = false by simp [keyByte]; omega)
                go_wp2_with fail
                go_meet
                exact ⟨by rw [HV.out]; first | rfl | (simp; omega), rfl⟩
            · by_cases c3 : n ≤ 57
              · have HV := Lib.hid (show keyByte k n = true by simp [keyByte]; omega)
                go_wp2_with fail
                go_meet
                exact ⟨by rw [HV.out]; first | rfl | (simp; omega), rfl⟩
              · have b3 : ((n : Int) == 45) = false := by simp; omega
                by_cases c4 : n = 95
                · have b4 : ((n : Int) == 95) = true := by simp; omega
                  have HV := Lib.hid (show keyByte k n = true by simp [keyByte]; omega)
                  go_wp2_with fail
                  go_meet
                  exact ⟨by rw [HV.out]; first | rfl | (simp; omega), rfl⟩
                · have b4 : ((n : Int) == 95) = false := by simp; omega
                  have HV := Lib.hid (show keyByte k n = false by simp [keyByte]; omega)
                  go_wp2_with fail
                  go_meet
                  exact ⟨by rw [HV.out]; first | rfl | (simp; omega), rfl⟩
        · by_cases c2 : n ≤ 122
          · have HV := Lib.hid (show keyByte k n = true by simp [keyByte]; omega)
            go_wp2_with fail
            go_meet
            exact ⟨by rw [HV.out]; first | rfl | (simp; omega), rfl⟩
          · by_cases ck : k ≤ 0
            · have HV := Lib.hid (show keyByte k n = false by simp [keyByte]; omega)
              go_wp2_with fail
              go_meet
              exact ⟨by rw [HV.out]; first | rfl | (simp; omega), rfl⟩
            · have ck' : 0 < k := by omega
              have b3 : ((n : Int) == 45) = false := by simp; omega
              have b4 : ((n : Int) == 95) = false := by simp; omega
              have HV := Lib.hid (show keyByte k n = false by simp [keyByte]; omega)
              go_wp2_with fail
              go_meet
              exact ⟨by rw [HV.out]; first | rfl | (simp; omega), rfl⟩
      case rest =>
        obtain ⟨rfl, rfl⟩ := hcut
        rcases Bool.eq_false_or_eq_true (keyByte k n) with c | c
        · rw [c]
          go_wp2_with fail
          go_roundg (gk - 1)
          case measure => omega
          case rel => exact ⟨k + 1, by omega, by go_num, by rw [HG.out, HK.out, c]; rfl, rfl⟩
        · rw [c]
          go_wp2_with fail
          go_ret
          refine ⟨?_, rfl⟩
          have : keyB s = false := keyB_no s (show k + 1 ≤ s.size by omega) (by rw [HG.out, c, Bool.and_false])
          rw [this]; rfl
theorem dropWhile_nil {α : Type} (p : α → Bool) : ∀ l : List α, (l.dropWhile p).isEmpty = l.all p
  | [] => rfl
  | x :: l => by
    rw [List.dropWhile_cons, List.all_cons]
    cases h : p x with
    | true => simpa using dropWhile_nil p l
    | false => simp
theorem dropWhile_head {α : Type} (p : α → Bool) : ∀ (l : List α) (x : α) (r : List α), l.dropWhile p = x :: r → p x = false
  | [], x, r, h => by simp at h
  | y :: l, x, r, h => by
    rw [List.dropWhile_cons] at h
    cases hy : p y with
    | true => rw [hy] at h; exact dropWhile_head p l x r (by simpa using h)
    | false => rw [hy] at h; simp at h; rw [← h.1]; exact hy
theorem trimS_empty (l cs : List UInt8) : (Lib.trimS l cs).isEmpty = l.all (cs.contains ·) := by
  unfold Lib.trimS Lib.trimLeftS Lib.trimRightS
  rw [dropWhile_nil, List.all_reverse]
  cases h : l.reverse.dropWhile (cs.contains ·) with
  | nil =>
    have := dropWhile_nil (cs.contains ·) l.reverse
    rw [h, List.all_reverse] at this
    rw [← this]; rfl
  | cons x r =>
    have h1 := dropWhile_head _ _ _ _ h
    have h2 := dropWhile_nil (cs.contains ·) l.reverse
    rw [h, List.all_reverse] at h2
    rw [List.all_cons, h1, ← h2]; rfl
def smallL : List UInt8 := [97, 98, 99, 100, 101, 102, 103, 104, 105, 106, 107, 108, 109, 110, 111, 112, 113, 114, 115, 116, 117, 118, 119, 120, 121, 122]
def keySet : List UInt8 := [97, 98, 99, 100, 101, 102, 103, 104, 105, 106, 107, 108, 109, 110, 111, 112, 113, 114, 115, 116, 117, 118, 119, 120, 121, 122, 48, 49, 50, 51, 52, 53, 54, 55, 56, 57, 45, 95]
theorem keySet_byte : ∀ n, n < 256 → keySet.contains (UInt8.ofNat n) = keyByte 1 n := by decide +kernel
theorem small_byte : ∀ n, n < 256 → decide (0 ≤ Lib.indexByte smallL (UInt8.ofNat n)) = keyByte 0 n := by decide +kernel
theorem keyByte_pos (i n : Nat) (h : 0 < i) : keyByte i n = keyByte 1 n := by simp [keyByte, h]
theorem keyByte_zero (n : Nat) (h : keyByte 0 n = true) : keyByte 1 n = true := by simp [keyByte] at h ⊢; omega
theorem ofNat_toNat8 (b : UInt8) : UInt8.ofNat b.toNat = b := by simp
theorem keyTo_all (s : ByteArray) (x : UInt8) (r : List UInt8) (h : s.data.toList = x :: r) : ∀ k, k ≤ r.length → keyTo s (k + 1) = (keyByte 0 x.toNat && (r.take k).all (keySet.contains ·))
  | 0, _ => by simp [keyTo, h]
  | k + 1, hk => by
    rw [keyTo, keyTo_all s x r h k (by omega), h]
    have hg : (x :: r).getD (k + 1) 0 = r[k]'(by omega) := by simp [List.getD, List.getElem?_eq_getElem (show k < r.length by omega)]
    rw [hg, keyByte_pos (k + 1) _ (by omega), ← keySet_byte _ (UInt8.toNat_lt _), ofNat_toNat8, List.take_succ_eq_append_getElem (by omega), List.all_append, List.all_cons, List.all_nil, Bool.and_true, Bool.and_assoc]
theorem keyB_eq (s : ByteArray) (x : UInt8) (r : List UInt8) (h : s.data.toList = x :: r) (h40 : s.size ≤ 40) :
    keyB s = ((x :: r).all (keySet.contains ·) && decide (0 ≤ Lib.indexByte smallL x)) := by
  have hl : s.size = r.length + 1 := by show s.data.toList.length = _; rw [h]; rfl
  have h1 : decide (1 ≤ s.size) = true := by simp; omega
  have h2 : decide (s.size ≤ 40) = true := by simpa using h40
  rw [keyB, h1, h2, Bool.and_true, Bool.and_true, hl, keyTo_all s x r h r.length (Nat.le_refl _), List.take_length, List.all_cons]
  have e := small_byte x.toNat (UInt8.toNat_lt _)
  have e2 := keySet_byte x.toNat (UInt8.toNat_lt _)
  rw [ofNat_toNat8] at e e2
  rw [e, e2]
  cases h0 : keyByte 0 x.toNat with
  | false => simp
  | true => rw [keyByte_zero _ h0]; simp
theorem mk_toList (l : List UInt8) : (ByteArray.mk l.toArray).toList = l := by rw [ByteArray.toList_eq]
set_option maxRecDepth 100000 in
set_option maxHeartbeats 1000000 in
theorem Key_any (s : ByteArray) (hsz : s.size ≤ 1000000000000) (w : World) :
    Calls Tryz.prog 64 #[.string s] w fun e w' => e = .returned (.bool (keyB s)) ∧ Below w.heap.size w w' := by
  rcases Bool.eq_false_or_eq_true (outsideB (s.size : Int) 1 40) with o | o
  · have HV := Lib.hid (show keyB s = false by
      simp [outsideB] at o
      have : (decide (1 ≤ s.size) && decide (s.size ≤ 40)) = false := by simp; omega
      rw [keyB, Bool.and_assoc, this, Bool.and_false])
    go_enter Tryz.func64, Tryz.ntmps64
    go_wp2_with fail
    refine (in_any _ _ _ _).mono ?_
    rintro e w' ⟨rfl, rfl⟩
    rw [o]
    go_wp2_with fail
    go_ret
    exact ⟨by rw [HV.out]; rfl, Below.refl _ _⟩
  · have hb : 1 ≤ s.size ∧ s.size ≤ 40 := by simp [outsideB] at o; omega
    obtain ⟨hb1, hb2⟩ := hb
    obtain ⟨x, r, hl⟩ : ∃ x r, s.data.toList = x :: r := by
      cases hl : s.data.toList with
      | nil => exact absurd (show s.data.toList.length = 0 by rw [hl]; rfl) (by show s.size ≠ 0; omega)
      | cons x r => exact ⟨x, r, rfl⟩
    have hx : s[0]'(by omega) = x := by rw [← getD_byte s 0 (by omega), hl]; rfl
    have HV := Lib.hid (keyB_eq s x r hl hb2)
    have HT := Lib.hid (show (Lib.trimS s.data.toList keySet).isEmpty = (x :: r).all (keySet.contains ·) by rw [trimS_empty, hl])
    clear hl
    go_enter Tryz.func64, Tryz.ntmps64
    go_wp2_with fail
    refine (in_any _ _ _ _).mono ?_
    rintro e w' ⟨rfl, rfl⟩
    rw [o]
    go_wp2_with fail
    refine (Any.strings_Trim_laid Tryz.lays160 (by kernel_rfl) s ⟨keySet.toArray⟩ w (by omega) (by decide) (ascii_of_all (by decide))).mono ?_
    rintro e w1 ⟨rfl, hb⟩
    have hq : (ByteArray.mk (Lib.trimS s.data.toList keySet).toArray).toList.isEmpty = (x :: r).all (keySet.contains ·) := by rw [mk_toList]; exact HT.out
    generalize ByteArray.mk (Lib.trimS s.data.toList keySet).toArray = tr at *
    rcases Bool.eq_false_or_eq_true ((x :: r).all (keySet.contains ·)) with c | c
    · rw [c] at hq HV
      clear c HT
      go_wp2_with fail
      refine (Tryz.strings_IndexByte ⟨smallL.toArray⟩ (x.toNat : Int) w1).mono ?_
      rintro e w2 ⟨rfl, rfl⟩
      rw [show ((x.toNat : Int).toNat.toUInt8) = x by simp]
      go_wp2_with fail
      go_ret
      exact ⟨by rw [HV.out, Bool.true_and]; rfl, hb⟩
    · rw [c] at hq HV
      clear c HT
      go_wp2_with fail
      go_ret
      exact ⟨by rw [HV.out]; rfl, hb⟩
theorem acalls_pure {P : Program} {f : Nat} (hok : fnOk P f = true) (xs : List Value) {v : Value} (h1 : v.oneCell' = true) (hc : ∀ w, Calls P f xs.toArray w fun e w' => e = .returned v ∧ RowKit.Below w.heap.size w w') (h : Hp) : ACalls P f (xs.map .v) h (fun r h' => r = .v v ∧ h' = h) := by
 refine ⟨hok, fun G w vs hs hl ha => ?_⟩
 have e : vs = xs.toArray := by
  apply Array.ext
  ·simpa using hl
  ·intro j hj hj'
   have hjx : j < (xs.map AV.v).length := by rw [← hl]; exact hj
   have := ha j hjx
   simp only [List.getElem_map] at this
   have h2 : vs.getD j undef = vs[j] := by simp [Array.getD, hj]
   rw [h2] at this
   simp only [List.getElem_toArray]
   generalize vs[j] = y at this
   cases this
   rfl
 subst e
 refine (hc w).mono ?_
 rintro _ w' ⟨rfl, hb⟩
 have hb' : ∀ b, b < w.heap.size → w'.heap[b]? = w.heap[b]? := fun b hb2 => hb.block b hb2
 exact ⟨_, h, G, v, rfl, ⟨rfl, rfl⟩, GLe.refl _, Fr.below (Fr.refl _ _ _) hb' hb.os hb.tape hb.output hb.size, hs.below hb', .v _ h1⟩
theorem a_isKey (s : ByteArray) (hs : s.size ≤ 1000000000000) (h : Hp) : ACalls Tryz.prog 66 [.v (.string s)] h (fun r h' => r = .v (.bool (keyB s)) ∧ h' = h) :=
 acalls_pure (by kernel_rfl) [.string s] rfl (fun w => (isKey_any s hs w).mono fun e w' ⟨h1, h2⟩ => ⟨h1, by subst h2; exact ⟨rfl, rfl, rfl, Nat.le_refl _, fun _ _ => rfl⟩⟩) h
theorem a_key (s : ByteArray) (hs : s.size ≤ 1000000000000) (h : Hp) : ACalls Tryz.prog 64 [.v (.string s)] h (fun r h' => r = .v (.bool (keyB s)) ∧ h' = h) :=
 acalls_pure (by kernel_rfl) [.string s] rfl (fun w => Key_any s hs w) h
def ltB (a b : ByteArray) : Bool := Op.bytesLess a.toList b.toList
def leB (a b : ByteArray) : Bool := Op.bytesLess a.toList b.toList || (a == b)
theorem bl_irr : ∀ a : List UInt8, Op.bytesLess a a = false
  | [] => rfl
  | x :: a => by
    rw [Op.bytesLess, bl_irr a]
    simp
theorem bl_trans : ∀ a b c : List UInt8, Op.bytesLess a b = true → Op.bytesLess b c = true → Op.bytesLess a c = true
  | a, b, [], _, h2 => by cases b <;> simp [Op.bytesLess] at h2
  | [], b, z :: c, _, _ => by simp [Op.bytesLess]
  | x :: a, [], z :: c, h1, _ => by simp [Op.bytesLess] at h1
  | x :: a, y :: b, z :: c, h1, h2 => by
    simp only [Op.bytesLess, Bool.or_eq_true, decide_eq_true_eq, Bool.and_eq_true, beq_iff_eq] at h1 h2 ⊢
    rcases h1 with h1 | ⟨rfl, h1⟩
    · rcases h2 with h2 | ⟨rfl, h2⟩
      · exact .inl (UInt8.lt_trans h1 h2)
      · exact .inl h1
    · rcases h2 with h2 | ⟨rfl, h2⟩
      · exact .inl h2
      · exact .inr ⟨rfl, bl_trans a b c h1 h2⟩
theorem bl_tot : ∀ a b : List UInt8, Op.bytesLess a b = false → Op.bytesLess b a = false → a = b
  | [], [], _, _ => rfl
  | [], y :: b, h, _ => by simp [Op.bytesLess] at h
  | x :: a, [], _, h => by simp [Op.bytesLess] at h
  | x :: a, y :: b, h1, h2 => by
    simp only [Op.bytesLess, Bool.or_eq_false_iff, decide_eq_false_iff_not, Bool.and_eq_false_iff, beq_eq_false_iff_ne] at h1 h2
    have hxy : x = y := UInt8.le_antisymm (UInt8.not_lt.1 h2.1) (UInt8.not_lt.1 h1.1)
    subst hxy
    have e1 : Op.bytesLess a b = false := h1.2.resolve_left (fun h => h rfl)
    have e2 : Op.bytesLess b a = false := h2.2.resolve_left (fun h => h rfl)
    rw [bl_tot a b e1 e2]
theorem ltB_trans {a b c : ByteArray} (h1 : ltB a b = true) (h2 : ltB b c = true) : ltB a c = true := bl_trans _ _ _ h1 h2
theorem ltB_irr (a : ByteArray) : ltB a a = false := bl_irr _
theorem ltB_of {a b : ByteArray} (h : leB a b = false) : ltB b a = true := by
  unfold leB at h
  rw [Bool.or_eq_false_iff] at h
  cases e : ltB b a with
  | true => rfl
  | false =>
    exfalso
    have h1 := bl_tot _ _ h.1 e
    have h2 := (MapKept.bytes_beq a b).2 ((Lib.bytes_beq_iff a b).1 (by rw [h1]; simp))
    rw [h.2] at h2
    cases h2
def notAft (s : ByteArray) : Option ByteArray → Bool
  | some q => leB s q
  | none => false
def riseF : List ByteArray → Option ByteArray → Int
  | [], _ => 0
  | s :: l, p => if keyB s = false then 5 else if notAft s p = true then 7 else riseF l (some s)
theorem rise_sorted : ∀ (l : List ByteArray) (p : Option ByteArray), riseF l p = 0 → l.Pairwise (fun a b => ltB a b = true) ∧ (∀ q, p = some q → ∀ s ∈ l, ltB q s = true) ∧ ∀ s ∈ l, keyB s = true
  | [], p, _ => ⟨.nil, by simp, by simp⟩
  | s :: l, p, h => by
    rw [riseF] at h
    by_cases hk : keyB s = false
    · rw [if_pos hk] at h; cases h
    · rw [if_neg hk] at h
      by_cases hq : notAft s p = true
      · rw [if_pos hq] at h; cases h
      · rw [if_neg hq] at h
        obtain ⟨h1, h2, h3⟩ := rise_sorted l (some s) h
        refine ⟨List.pairwise_cons.2 ⟨fun t ht => h2 s rfl t ht, h1⟩, ?_, ?_⟩
        · rintro q rfl t ht
          have hlt : ltB q s = true := ltB_of (by simpa [notAft] using hq)
          rcases List.mem_cons.1 ht with rfl | ht
          · exact hlt
          · exact ltB_trans hlt (h2 s rfl t ht)
        · intro t ht
          rcases List.mem_cons.1 ht with rfl | ht
          · simpa using hk
          · exact h3 t ht
def preK (l : List ByteArray) (j : Nat) : Option ByteArray := if j = 0 then none else some (l.getD (j - 1) ⟨#[]⟩)
theorem rise_step (l : List ByteArray) (j : Nat) (hj : j < l.length) : riseF (l.drop j) (preK l j) = if keyB l[j] = false then 5 else if 0 < j ∧ leB l[j] (l.getD (j - 1) ⟨#[]⟩) = true then 7 else riseF (l.drop (j + 1)) (preK l (j + 1)) := by
  have e1 : preK l (j + 1) = some l[j] := by
    unfold preK
    rw [if_neg (by omega), Nat.add_sub_cancel, List.getD_eq_getElem?_getD, List.getElem?_eq_getElem hj]; rfl
  rw [List.drop_eq_getElem_cons hj, riseF, e1]
  unfold preK
  by_cases h0 : j = 0
  · subst h0; simp [notAft]
  · rw [if_neg h0]
    have : 0 < j := by omega
    simp [this, notAft]
theorem row_str (l : List ByteArray) (j : Nat) (hj : j < l.length) : (l.map encS).getD j [] = [.v (.string l[j])] := by
 rw [List.getD_eq_getElem?_getD, List.getElem?_map, List.getElem?_eq_getElem hj]; rfl
theorem row_strD (l : List ByteArray) (j : Nat) (hj : j < l.length) : (l.map encS).getD j [] = [.v (.string (l.getD j ⟨#[]⟩))] := by
 rw [row_str l j hj, List.getD_eq_getElem?_getD, List.getElem?_eq_getElem hj]; rfl
theorem g_rising (l : List ByteArray) (kk : Option Nat) (hl : l.length ≤ 100000) (hsz : ∀ s ∈ l, s.size ≤ 1000) (h : Hp) :
  ACalls Tryz.prog 111 [.row 1 (l.map encS) kk] h (fun r h' => r = .v (.int .i64 (riseF l none)) ∧ h' = h) := by
 have hml : (l.map encS).length = l.length := List.length_map _
 refine gE Tryz.func111 rfl (by kernel_rfl) 26 rfl fun c => ?_
 (repeat (first | refine gO rfl ?_ | (refine gR fun K1 hK1 => ?_; simp only [go_sem, ↓reduceIte, reduceCtorEq, nA, nB, nC, nD, nE, nF, hml] <;> and_intros <;> first | (apply hK1; clear hK1 K1) | (intros; first | omega | decide) | skip)))
 refine awp_loopC (rl false [0, 1, 4, 3, 19]) 0 (fun g s => ∃ (j : Nat), g + j = l.length ∧ riseF (l.drop j) (preK l j) = riseF l none ∧
  s = ⟨((.row 1 (l.map encS) kk) :: (jnk 4 ((.row 1 (l.map encS) kk) :: (.v (.int .i64 l.length)) :: (.v (.int .i64 j)) :: (jnk 19 [])))), [], h⟩) l.length ⟨0, by omega, rfl, rfl⟩ ?_
 rintro g _ ⟨j, hj, hinv, rfl⟩
 (repeat (first | refine gO rfl ?_ | (refine gR fun K1 hK1 => ?_; simp only [go_sem, ↓reduceIte, reduceCtorEq, nA, nB, nC, nD, nE, nF] <;> and_intros <;> first | (apply hK1; clear hK1 K1) | (intros; first | omega | decide) | skip)))
 refine awp_cond (t := _) rfl (fun h5 => ?_) (fun h5 => ?_)
 ·simp only [decide_eq_true_eq] at h5
  have hjl : j < l.length := by omega
  have gx := row_str l j hjl
  have hs := hsz _ (List.getElem_mem hjl)
  have hst := rise_step l j hjl
  rw [hinv] at hst
  have hpj : ((j : Int) - 1).toNat = j - 1 := by omega
  have gp : (l.map encS).getD (j - 1) [] = [.v (.string (l.getD (j - 1) ⟨#[]⟩))] := row_strD l (j - 1) (by omega)
  have hK := a_isKey l[j] (by omega) h
  generalize l[j] = s at *
  generalize l.getD (j - 1) ⟨#[]⟩ = q at *
  (repeat (first | refine gO rfl ?_ | (refine gR fun K1 hK1 => ?_; simp only [go_sem, ↓reduceIte, reduceCtorEq, nA, nB, nC, nD, nE, nF, hml, Int.toNat_natCast, gx] <;> and_intros <;> first | (apply hK1; clear hK1 K1) | (intros; first | omega | decide) | skip)))
  refine hK.mono ?_; rintro _ hz ⟨rfl, hh⟩; apply hK1; clear hK1 K1; rw [hh]; clear hh hz
  cases hk : keyB s with
  | false =>
   rw [if_pos hk] at hst
   (repeat (first | refine gO rfl ?_ | (refine gR fun K1 hK1 => ?_; simp only [go_sem, ↓reduceIte, reduceCtorEq, nA, nB, nC, nD, nE, nF, hk, Bool.not_false] <;> and_intros <;> first | (apply hK1; clear hK1 K1) | (intros; first | omega | decide) | skip)))
   refine awp_cond (t := _) rfl (fun _ => ?_) (fun h6 => by cases h6)
   (repeat (first | refine gO rfl ?_ | (refine gR fun K1 hK1 => ?_; simp only [go_sem, ↓reduceIte, reduceCtorEq, nA, nB, nC, nD, nE, nF] <;> and_intros <;> first | (apply hK1; clear hK1 K1) | (intros; first | omega | decide) | skip)))
   simp only [Tryz.results111, go_sem, ↓reduceIte, reduceCtorEq, nA, nB, nC, nD, nE, nF]
   exact ⟨_, _, Weak.refl _, Hp.le.refl _, by rw [hst], rfl⟩
  | true =>
   rw [if_neg (by rw [hk]; decide)] at hst
   (repeat (first | refine gO rfl ?_ | (refine gR fun K1 hK1 => ?_; simp only [go_sem, ↓reduceIte, reduceCtorEq, nA, nB, nC, nD, nE, nF, hk, Bool.not_true] <;> and_intros <;> first | (apply hK1; clear hK1 K1) | (intros; first | omega | decide) | skip)))
   refine awp_cond (t := _) rfl (fun h6 => by cases h6) (fun _ => ?_)
   by_cases hj0 : j = 0
   ·have d7 : ((0 : Int) < (j : Int)) = False := eq_false (by omega)
    rw [if_neg (fun e => by omega)] at hst
    (repeat (first | refine gO rfl ?_ | (refine gR fun K1 hK1 => ?_; simp only [go_sem, ↓reduceIte, reduceCtorEq, nA, nB, nC, nD, nE, nF, d7, decide_false, hpj, gp, hml] <;> and_intros <;> first | (apply hK1; clear hK1 K1) | (intros; first | omega | decide) | skip)))
    refine awp_cond (t := _) rfl (fun h6 => by cases h6) (fun _ => ?_)
    (repeat (first | refine gO rfl ?_ | (refine gR fun K1 hK1 => ?_; simp only [go_sem, ↓reduceIte, reduceCtorEq, nA, nB, nC, nD, nE, nF] <;> and_intros <;> first | (apply hK1; clear hK1 K1) | (intros; first | omega | decide) | skip)))
    exact ⟨g - 1, by omega, j + 1, by omega, hst.symm, rfl⟩
   ·have d7 : ((0 : Int) < (j : Int)) = True := eq_true (by omega)
    have hle : (Op.bytesLess s.toList q.toList || (s == q)) = leB s q := rfl
    cases hq : leB s q with
    | true =>
     rw [if_pos ⟨by omega, hq⟩] at hst
     rw [hq] at hle
     (repeat (first | refine gO rfl ?_ | (refine gR fun K1 hK1 => ?_; simp only [go_sem, ↓reduceIte, reduceCtorEq, nA, nB, nC, nD, nE, nF, d7, decide_true, hpj, gp, hml, hle] <;> and_intros <;> first | (apply hK1; clear hK1 K1) | (intros; first | omega | decide) | skip)))
     refine awp_cond (t := _) rfl (fun _ => ?_) (fun h6 => by first | cases h6 | (rw [hle] at h6; cases h6))
     (repeat (first | refine gO rfl ?_ | (refine gR fun K1 hK1 => ?_; simp only [go_sem, ↓reduceIte, reduceCtorEq, nA, nB, nC, nD, nE, nF] <;> and_intros <;> first | (apply hK1; clear hK1 K1) | (intros; first | omega | decide) | skip)))
     simp only [Tryz.results111, go_sem, ↓reduceIte, reduceCtorEq, nA, nB, nC, nD, nE, nF]
     exact ⟨_, _, Weak.refl _, Hp.le.refl _, by rw [hst], rfl⟩
    | false =>
     rw [if_neg (fun e => by rw [hq] at e; cases e.2)] at hst
     rw [hq] at hle
     (repeat (first | refine gO rfl ?_ | (refine gR fun K1 hK1 => ?_; simp only [go_sem, ↓reduceIte, reduceCtorEq, nA, nB, nC, nD, nE, nF, d7, decide_true, hpj, gp, hml, hle] <;> and_intros <;> first | (apply hK1; clear hK1 K1) | (intros; first | omega | decide) | skip)))
     refine awp_cond (t := _) rfl (fun h6 => by first | cases h6 | (rw [hle] at h6; cases h6)) (fun _ => ?_)
     (repeat (first | refine gO rfl ?_ | (refine gR fun K1 hK1 => ?_; simp only [go_sem, ↓reduceIte, reduceCtorEq, nA, nB, nC, nD, nE, nF] <;> and_intros <;> first | (apply hK1; clear hK1 K1) | (intros; first | omega | decide) | skip)))
     exact ⟨g - 1, by omega, j + 1, by omega, hst.symm, rfl⟩
 ·simp only [decide_eq_false_iff_not] at h5
  have hjl : j = l.length := by omega
  subst hjl
  rw [List.drop_length, riseF] at hinv
  (repeat (first | refine gO rfl ?_ | (refine gR fun K1 hK1 => ?_; simp only [go_sem, ↓reduceIte, reduceCtorEq, nA, nB, nC, nD, nE, nF] <;> and_intros <;> first | (apply hK1; clear hK1 K1) | (intros; first | omega | decide) | skip)))
  simp only [Tryz.results111, go_sem, ↓reduceIte, reduceCtorEq, nA, nB, nC, nD, nE, nF]
  exact ⟨_, _, Weak.refl _, Hp.le.refl _, by rw [← hinv], rfl⟩
theorem g_keysF (l : List ByteArray) (kk : Option Nat) (most : Int) (hm : (l.length : Int) ≤ most ∧ most ≤ 100000) (hsz : ∀ s ∈ l, s.size ≤ 1000) (h : Hp) :
  ACalls Tryz.prog 65 [.row 1 (l.map encS) kk, .v (.int .i64 most)] h (fun r h' => r = .v (.int .i64 (riseF l none)) ∧ h' = h) := by
 have hml : (l.map encS).length = l.length := List.length_map _
 refine gE Tryz.func65 rfl (by kernel_rfl) 33 rfl fun c => ?_
 (repeat (first | refine gO rfl ?_ | (refine gR fun K1 hK1 => ?_; simp only [go_sem, ↓reduceIte, reduceCtorEq, nA, nB, nC, nD, nE, nF, hml] <;> and_intros <;> first | (apply hK1; clear hK1 K1) | (intros; first | omega | decide) | skip)))
 refine awp_cond (t := _) rfl (fun h5 => absurd (of_decide_eq_true h5) (by omega)) (fun _ => ?_)
 (repeat (first | refine gO rfl ?_ | (refine gR fun K1 hK1 => ?_; simp only [go_sem, ↓reduceIte, reduceCtorEq, nA, nB, nC, nD, nE, nF, hml] <;> and_intros <;> first | (apply hK1; clear hK1 K1) | (intros; first | omega | decide) | skip)))
 refine awp_loopC (rl false [0, 1, 10, 3, 21]) 0 (fun g s => ∃ (j : Nat), g + j = l.length ∧ riseF (l.drop j) (preK l j) = riseF l none ∧
  s = ⟨((.row 1 (l.map encS) kk) :: (jnk 10 ((.row 1 (l.map encS) kk) :: (.v (.int .i64 l.length)) :: (.v (.int .i64 j)) :: (jnk 21 [])))), [], h⟩) l.length ⟨0, by omega, rfl, rfl⟩ ?_
 rintro g _ ⟨j, hj, hinv, rfl⟩
 (repeat (first | refine gO rfl ?_ | (refine gR fun K1 hK1 => ?_; simp only [go_sem, ↓reduceIte, reduceCtorEq, nA, nB, nC, nD, nE, nF] <;> and_intros <;> first | (apply hK1; clear hK1 K1) | (intros; first | omega | decide) | skip)))
 refine awp_cond (t := _) rfl (fun h5 => ?_) (fun h5 => ?_)
 ·simp only [decide_eq_true_eq] at h5
  have hjl : j < l.length := by omega
  have gx := row_str l j hjl
  have hs := hsz _ (List.getElem_mem hjl)
  have hst := rise_step l j hjl
  rw [hinv] at hst
  have hpj : ((j : Int) - 1).toNat = j - 1 := by omega
  have gp : (l.map encS).getD (j - 1) [] = [.v (.string (l.getD (j - 1) ⟨#[]⟩))] := row_strD l (j - 1) (by omega)
  have hK := a_key l[j] (by omega) h
  generalize l[j] = s at *
  generalize l.getD (j - 1) ⟨#[]⟩ = q at *
  (repeat (first | refine gO rfl ?_ | (refine gR fun K1 hK1 => ?_; simp only [go_sem, ↓reduceIte, reduceCtorEq, nA, nB, nC, nD, nE, nF, hml, Int.toNat_natCast, gx] <;> and_intros <;> first | (apply hK1; clear hK1 K1) | (intros; first | omega | decide) | skip)))
  refine hK.mono ?_; rintro _ hz ⟨rfl, hh⟩; apply hK1; clear hK1 K1; rw [hh]; clear hh hz
  cases hk : keyB s with
  | false =>
   rw [if_pos hk] at hst
   (repeat (first | refine gO rfl ?_ | (refine gR fun K1 hK1 => ?_; simp only [go_sem, ↓reduceIte, reduceCtorEq, nA, nB, nC, nD, nE, nF, hk, Bool.not_false] <;> and_intros <;> first | (apply hK1; clear hK1 K1) | (intros; first | omega | decide) | skip)))
   refine awp_cond (t := _) rfl (fun _ => ?_) (fun h6 => by cases h6)
   (repeat (first | refine gO rfl ?_ | (refine gR fun K1 hK1 => ?_; simp only [go_sem, ↓reduceIte, reduceCtorEq, nA, nB, nC, nD, nE, nF] <;> and_intros <;> first | (apply hK1; clear hK1 K1) | (intros; first | omega | decide) | skip)))
   simp only [Tryz.results65, go_sem, ↓reduceIte, reduceCtorEq, nA, nB, nC, nD, nE, nF]
   exact ⟨_, _, Weak.refl _, Hp.le.refl _, by rw [hst], rfl⟩
  | true =>
   rw [if_neg (by rw [hk]; decide)] at hst
   (repeat (first | refine gO rfl ?_ | (refine gR fun K1 hK1 => ?_; simp only [go_sem, ↓reduceIte, reduceCtorEq, nA, nB, nC, nD, nE, nF, hk, Bool.not_true] <;> and_intros <;> first | (apply hK1; clear hK1 K1) | (intros; first | omega | decide) | skip)))
   refine awp_cond (t := _) rfl (fun h6 => by cases h6) (fun _ => ?_)
   by_cases hj0 : j = 0
   ·have d7 : ((0 : Int) < (j : Int)) = False := eq_false (by omega)
    rw [if_neg (fun e => by omega)] at hst
    (repeat (first | refine gO rfl ?_ | (refine gR fun K1 hK1 => ?_; simp only [go_sem, ↓reduceIte, reduceCtorEq, nA, nB, nC, nD, nE, nF, d7, decide_false, hpj, gp, hml] <;> and_intros <;> first | (apply hK1; clear hK1 K1) | (intros; first | omega | decide) | skip)))
    refine awp_cond (t := _) rfl (fun h6 => by cases h6) (fun _ => ?_)
    (repeat (first | refine gO rfl ?_ | (refine gR fun K1 hK1 => ?_; simp only [go_sem, ↓reduceIte, reduceCtorEq, nA, nB, nC, nD, nE, nF] <;> and_intros <;> first | (apply hK1; clear hK1 K1) | (intros; first | omega | decide) | skip)))
    exact ⟨g - 1, by omega, j + 1, by omega, hst.symm, rfl⟩
   ·have d7 : ((0 : Int) < (j : Int)) = True := eq_true (by omega)
    have hle : (Op.bytesLess s.toList q.toList || (s == q)) = leB s q := rfl
    cases hq : leB s q with
    | true =>
     rw [if_pos ⟨by omega, hq⟩] at hst
     rw [hq] at hle
     (repeat (first | refine gO rfl ?_ | (refine gR fun K1 hK1 => ?_; simp only [go_sem, ↓reduceIte, reduceCtorEq, nA, nB, nC, nD, nE, nF, d7, decide_true, hpj, gp, hml, hle] <;> and_intros <;> first | (apply hK1; clear hK1 K1) | (intros; first | omega | decide) | skip)))
     refine awp_cond (t := _) rfl (fun _ => ?_) (fun h6 => by first | cases h6 | (rw [hle] at h6; cases h6))
     (repeat (first | refine gO rfl ?_ | (refine gR fun K1 hK1 => ?_; simp only [go_sem, ↓reduceIte, reduceCtorEq, nA, nB, nC, nD, nE, nF] <;> and_intros <;> first | (apply hK1; clear hK1 K1) | (intros; first | omega | decide) | skip)))
     simp only [Tryz.results65, go_sem, ↓reduceIte, reduceCtorEq, nA, nB, nC, nD, nE, nF]
     exact ⟨_, _, Weak.refl _, Hp.le.refl _, by rw [hst], rfl⟩
    | false =>
     rw [if_neg (fun e => by rw [hq] at e; cases e.2)] at hst
     rw [hq] at hle
     (repeat (first | refine gO rfl ?_ | (refine gR fun K1 hK1 => ?_; simp only [go_sem, ↓reduceIte, reduceCtorEq, nA, nB, nC, nD, nE, nF, d7, decide_true, hpj, gp, hml, hle] <;> and_intros <;> first | (apply hK1; clear hK1 K1) | (intros; first | omega | decide) | skip)))
     refine awp_cond (t := _) rfl (fun h6 => by first | cases h6 | (rw [hle] at h6; cases h6)) (fun _ => ?_)
     (repeat (first | refine gO rfl ?_ | (refine gR fun K1 hK1 => ?_; simp only [go_sem, ↓reduceIte, reduceCtorEq, nA, nB, nC, nD, nE, nF] <;> and_intros <;> first | (apply hK1; clear hK1 K1) | (intros; first | omega | decide) | skip)))
     exact ⟨g - 1, by omega, j + 1, by omega, hst.symm, rfl⟩
 ·simp only [decide_eq_false_iff_not] at h5
  have hjl : j = l.length := by omega
  subst hjl
  rw [List.drop_length, riseF] at hinv
  (repeat (first | refine gO rfl ?_ | (refine gR fun K1 hK1 => ?_; simp only [go_sem, ↓reduceIte, reduceCtorEq, nA, nB, nC, nD, nE, nF] <;> and_intros <;> first | (apply hK1; clear hK1 K1) | (intros; first | omega | decide) | skip)))
  simp only [Tryz.results65, go_sem, ↓reduceIte, reduceCtorEq, nA, nB, nC, nD, nE, nF]
  exact ⟨_, _, Weak.refl _, Hp.le.refl _, by rw [← hinv], rfl⟩
theorem g_tagsF (l : List ByteArray) (kk : Option Nat) (hm : l.length ≤ 20) (hsz : ∀ s ∈ l, s.size ≤ 1000) (h : Hp) :
  ACalls Tryz.prog 67 [.row 1 (l.map encS) kk] h (fun r h' => r = .v (.int .i64 (riseF l none)) ∧ h' = h) := by
 have hml : (l.map encS).length = l.length := List.length_map _
 refine gE Tryz.func67 rfl (by kernel_rfl) 7 rfl fun c => ?_
 (repeat (first | refine gO rfl ?_ | (refine gR fun K1 hK1 => ?_; simp only [go_sem, ↓reduceIte, reduceCtorEq, nA, nB, nC, nD, nE, nF, hml] <;> and_intros <;> first | (apply hK1; clear hK1 K1) | (intros; first | omega | decide) | skip)))
 refine awp_cond (t := _) rfl (fun h5 => absurd (of_decide_eq_true h5) (by omega)) (fun _ => ?_)
 (repeat (first | refine gO rfl ?_ | (refine gR fun K1 hK1 => ?_; simp only [go_sem, ↓reduceIte, reduceCtorEq, nA, nB, nC, nD, nE, nF, hml] <;> and_intros <;> first | (apply hK1; clear hK1 K1) | (intros; first | omega | decide) | skip)))
 refine (g_rising l kk (by omega) hsz h).mono ?_; rintro _ hz ⟨rfl, hh⟩; apply hK1; clear hK1 K1; rw [hh]; clear hh hz
 (repeat (first | refine gO rfl ?_ | (refine gR fun K1 hK1 => ?_; simp only [go_sem, ↓reduceIte, reduceCtorEq, nA, nB, nC, nD, nE, nF] <;> and_intros <;> first | (apply hK1; clear hK1 K1) | (intros; first | omega | decide) | skip)))
 simp only [Tryz.results67, go_sem, ↓reduceIte, reduceCtorEq, nA, nB, nC, nD, nE, nF]
 exact ⟨_, _, Weak.refl _, Hp.le.refl _, rfl, rfl⟩
theorem Weak.rowE {z : Nat} {xs ys : List (List AV)} {k : Option Nat} (hl : xs.length = ys.length) (hz : ∀ y ∈ ys, y.length = z) (hw : ∀ i, i < xs.length → WL (xs.getD i []) (ys.getD i [])) : Weak (.row z xs k) (.row z ys k) := fun G v hr => by
 cases hr with
 | row _ _ _ g o n c u hn hc hz' hu hr h1 ht =>
  refine .row z ys k g o n c u (by omega) hc hz hu (fun j hj => ?_) h1 ht
  have hfy := flatten_len hz
  have hfx := flatten_len hz'
  have hjn : j < n * z := by rw [hfy, ← hl, hn] at hj; exact hj
  have hz0 : 0 < z := by
   rcases Nat.eq_zero_or_pos z with h | h
   ·rw [h, Nat.mul_zero] at hjn; omega
   ·exact h
  have hi : j / z < ys.length := by
   have := Nat.div_lt_of_lt_mul (by rw [Nat.mul_comm] at hjn; exact hjn)
   omega
  have hr2 := Nat.mod_lt j hz0
  have hj2 : j / z * z + j % z = j := by have := Nat.div_add_mod j z; rw [Nat.mul_comm] at this; exact this
  have ey := flatten_at hz hi hr2
  have ex := flatten_at hz' (show j / z < xs.length by omega) hr2
  rw [hj2] at ey ex
  have hjx : j < xs.flatten.length := by rw [hfx, hn]; exact hjn
  have h2 := hr j hjx
  rw [List.getElem?_eq_getElem hjx] at ex
  rw [List.getElem?_eq_getElem hj] at ey
  have h3 := (hw (j / z) (by omega)).2 (j % z)
  rw [List.getD_eq_getElem?_getD, List.getD_eq_getElem?_getD, List.getD_eq_getElem?_getD, List.getD_eq_getElem?_getD, List.getElem?_eq_getElem hi, List.getElem?_eq_getElem (show j / z < xs.length by omega)] at h3
  simp only [Option.getD_some] at h3
  rw [← ex, ← ey] at h3
  exact h3 G _ h2
 | nil =>
  cases ys with
  | nil => exact .nil z k (by assumption)
  | cons => simp at hl
 | nilA =>
  cases ys with
  | nil => exact .nilA z _
  | cons => simp at hl
theorem WL.refl (cs : List AV) : WL cs cs := ⟨rfl, fun _ => Weak.refl _⟩
section
variable {P : Program} {c : Cx} {Q : Exit → St → Prop} {s : St}
end
open Go
set_option linter.unusedVariables false
set_option linter.unusedSimpArgs false
set_option maxRecDepth 100000
inductive AT where
 | mk (i c : Nat) (kids : List AT)
instance : Inhabited AT := ⟨.mk 0 0 []⟩
inductive PS where
 | mk (had : Int) (of : List Int) (kids : List PS)
instance : Inhabited PS := ⟨.mk 0 [] []⟩
def AT.id : AT → Nat
 | .mk i _ _ => i
def idsT : AT → List Nat
 | .mk i _ ks => i :: (ks.map idsT).flatten
def toksT : AT → List Nat
 | .mk _ c ks => c :: (ks.map toksT).flatten
theorem idsT_eq (i c : Nat) (ks : List AT) : idsT (.mk i c ks) = i :: (ks.map idsT).flatten := by rw [idsT]
theorem toksT_eq (i c : Nat) (ks : List AT) : toksT (.mk i c ks) = c :: (ks.map toksT).flatten := by rw [toksT]
theorem idsT_kid {i c : Nat} {ks : List AT} {j : Nat} (h : j < ks.length) {x : Nat} (hx : x ∈ idsT (ks.getD j default)) : x ∈ idsT (.mk i c ks) := by
 rw [idsT_eq]
 refine List.mem_cons_of_mem _ (List.mem_flatten.2 ⟨_, List.mem_map.2 ⟨_, ?_, rfl⟩, hx⟩)
 rw [List.getD_eq_getElem?_getD, List.getElem?_eq_getElem h]; exact List.getElem_mem _
theorem toksT_kid {i c : Nat} {ks : List AT} {j : Nat} (h : j < ks.length) {x : Nat} (hx : x ∈ toksT (ks.getD j default)) : x ∈ toksT (.mk i c ks) := by
 rw [toksT_eq]
 refine List.mem_cons_of_mem _ (List.mem_flatten.2 ⟨_, List.mem_map.2 ⟨_, ?_, rfl⟩, hx⟩)
 rw [List.getD_eq_getElem?_getD, List.getElem?_eq_getElem h]; exact List.getElem_mem _
structure RK where
 ex : LT → List AV
 cf : Int → List Int → List Int
def kidsC (az : List AT) (K : AV) : Prop := az = [] ∧ K = .v (.slice none 0 0) ∨ ∃ tk, K = .row 1 (az.map fun a => [.ptr a.id 0]) tk
def RAt (X : RK) (h : Hp) : Nat → LT → AT → PS → Prop
 | 0, _, _, _ => False
 | d + 1, .mk kind item long many kids shares, .mk i c az, .mk p cs ks =>
  (∃ K, h.H i = some (.cells ([.v (.int .i64 kind), .v (.string item), .v (.int .i64 long), .v (.int .i64 many), .row 6 (kids.map encL) none, .row 1 (shares.map encI) none, K, .v (.int .i64 p), .arr 1 c kids.length] ++ X.ex (.mk kind item long many kids shares))) ∧ kidsC az K) ∧
  h.T c = some (.cont 1 ((X.cf kind cs).map encI)) ∧ ((X.cf kind cs).length = kids.length ∧ cs.length = kids.length ∧ az.length = kids.length ∧ ks.length = kids.length) ∧
  ∀ j, j < kids.length → RAt X h d (kids.getD j default) (az.getD j default) (ks.getD j default)
theorem RAt.frame {X : RK} {h h' : Hp} : ∀ {d : Nat} {t : LT} {a : AT} {s : PS}, RAt X h d t a s → (∀ i ∈ idsT a, h'.H i = h.H i) → (∀ c ∈ toksT a, h'.T c = h.T c) → RAt X h' d t a s
 | 0, _, _, _, h, _, _ => h.elim
 | d + 1, .mk kind item long many kids shares, .mk i c az, .mk p cs ks, ⟨⟨K, h1, hK⟩, h2, h3, h4⟩, hi, hc =>
  ⟨⟨K, by rw [hi i (by rw [idsT_eq]; simp)]; exact h1, hK⟩, by rw [hc c (by rw [toksT_eq]; simp)]; exact h2, h3, fun j hj =>
   (h4 j hj).frame (fun x hx => hi x (idsT_kid (by omega) hx)) (fun x hx => hc x (toksT_kid (by omega) hx))⟩
def PSB : Nat → LT → PS → Int → Prop
 | 0, _, _, _ => True
 | d + 1, .mk _ _ _ _ kids _, .mk p cs ks, n => (0 ≤ p ∧ p ≤ n) ∧ (∀ x ∈ cs, 0 ≤ x ∧ x ≤ n) ∧ ∀ j, j < kids.length → PSB d (kids.getD j default) (ks.getD j default) n
theorem PSB.mono {n m : Int} (hnm : n ≤ m) : ∀ {d : Nat} {t : LT} {s : PS}, PSB d t s n → PSB d t s m
 | 0, _, _, _ => trivial
 | d + 1, .mk .., .mk p cs ks, ⟨h1, h2, h3⟩ => ⟨by omega, fun x hx => by have := h2 x hx; omega, fun j hj => (h3 j hj).mono hnm⟩
section
variable {P : Program} {c : Cx} {Q : Exit → St → Prop} {s : St}
theorem awp_frz (t k z : Nat) {xs : List (List AV)} {x : Code} (ht : s.sl.getD t .junk = .arr z k xs.length) (hT : s.h.T k = some (.cont z xs)) (hz : ∀ y ∈ xs, y.length = z) (h : Awp P c x Q { s with sl := s.sl.set t (.row z xs none), h := { s.h with T := upd s.h.T k none } }) : Awp P c x Q s := by
 rintro ac w ⟨G, L, sm, hg, hf, hL⟩
 obtain ⟨G', hle, hfr, hs2, hfz⟩ := sm.hs.freeze (h2 := { s.h with T := upd s.h.T k none }) (fun j => j = k) rfl (fun j hj => by subst hj; exact upd_same _ _ _) (fun j hj => upd_other _ _ hj)
 refine h ac w ⟨G', L, ⟨hs2, by simpa using sm.sz, fun u hu => ?_, sm.df, sm.ls.fr hle hfr⟩, hg.trans hle, hf.trans hfr, hL⟩
 have hu' : u < s.sl.length := by simpa using hu
 have h1 := sm.sl u hu'
 simp only [List.getElem_set]
 split
 ·rename_i e
  subst e
  rw [List.getD_eq_getElem?_getD, List.getElem?_eq_getElem hu'] at ht
  simp only [Option.getD_some] at ht
  rw [ht] at h1
  exact RepT.of (hfz k z xs _ rfl hT (h1.base rfl) xs rfl hz fun us hus => hus.mono hle)
 ·exact h1.mono hle
end
open Go
set_option linter.unusedVariables false
set_option linter.unusedSimpArgs false
abbrev Wnd := Int × Int
def pushW (acc : List Wnd) (a b : Int) : List Wnd :=
  match acc.getLast? with
  | some w => if w.2 = a then acc.dropLast ++ [(w.1, b)] else acc ++ [(a, b)]
  | none => acc ++ [(a, b)]
def runsW (f : Int → Bool) : List Int → List Wnd → List Wnd
  | a :: b :: l, acc => runsW f (b :: l) (if f a then pushW acc a b else acc)
  | _, acc => acc
theorem pushW_more (l : List Wnd) (x a b : Int) : pushW (l ++ [(x, a)]) a b = l ++ [(x, b)] := by
  unfold pushW
  rw [List.getLast?_append]
  simp
theorem pushW_two (acc : List Wnd) (a c b : Int) : pushW (pushW acc a c) c b = pushW acc a b := by
  have h : ∀ c, pushW acc a c = (match acc.getLast? with
      | some w => if w.2 = a then acc.dropLast ++ [(w.1, c)] else acc ++ [(a, c)]
      | none => acc ++ [(a, c)]) := fun _ => rfl
  rw [h c, h b]
  cases acc.getLast? with
  | none => exact pushW_more _ _ _ _
  | some w =>
    dsimp only
    split
    · exact pushW_more _ _ _ _
    · exact pushW_more _ _ _ _
theorem runs_finer (f : Int → Bool) : ∀ (R P : List Int) (acc : List Wnd), R.Pairwise (· < ·) → P.Pairwise (· < ·) → (∀ x ∈ P, x ∈ R) → R.head? = P.head? → R.getLast? = P.getLast? →
    (∀ x ∈ R, ∀ y ∈ R, x ≤ y → (∀ p ∈ P, ¬ (x < p ∧ p ≤ y)) → f x = f y) → runsW f R acc = runsW f P acc
  | [], P, acc, _, _, h3, _, _, _ => by
    cases P with
    | nil => rfl
    | cons p P => exact absurd (h3 p (by simp)) (by simp)
  | [a], P, acc, _, hp, h3, h4, _, _ => by
    cases P with
    | nil => simp at h4
    | cons p P =>
      simp only [List.head?_cons, Option.some.injEq] at h4
      subst h4
      cases P with
      | nil => rfl
      | cons q P =>
        have h5 := h3 q (by simp)
        simp only [List.mem_singleton] at h5
        have h6 := (List.pairwise_cons.1 hp).1 q (by simp)
        omega
  | a :: b :: R, P, acc, hr, hp, h3, h4, h5, h6 => by
    cases P with
    | nil => simp at h4
    | cons p P =>
      simp only [List.head?_cons, Option.some.injEq] at h4
      subst h4
      have hr1 := List.pairwise_cons.1 hr
      have hr2 := List.pairwise_cons.1 hr1.2
      have hp1 := List.pairwise_cons.1 hp
      have hab := hr1.1 b (by simp)
      cases P with
      | nil =>
        exfalso
        have e1 : (a :: b :: R).getLast? = (b :: R).getLast? := by simp
        rw [e1] at h5
        have hm := List.mem_of_getLast? h5
        have := hr1.1 a hm
        omega
      | cons b' P =>
        have hbm : b' ∈ b :: R := by
          have h7 := h3 b' (by simp)
          rcases List.mem_cons.1 h7 with e | e
          · have := hp1.1 b' (by simp); omega
          · exact e
        have hbb : b ≤ b' := by
          rcases List.mem_cons.1 hbm with e | e
          · omega
          · have := hr2.1 b' e; omega
        have hl1 : (a :: b :: R).getLast? = (b :: R).getLast? := by simp
        have hl2 : (a :: b' :: P).getLast? = (b' :: P).getLast? := by simp
        rw [hl1, hl2] at h5
        have hp2 := List.pairwise_cons.1 hp1.2
        have hmem : ∀ x ∈ b' :: P, x ∈ b :: R := fun x hx => by
          rcases List.mem_cons.1 (h3 x (by simp only [List.mem_cons] at hx ⊢; exact .inr hx)) with e | e
          · have := hp1.1 x hx; omega
          · exact e
        by_cases e : b = b'
        · subst e
          show runsW f (b :: R) _ = runsW f (b :: P) _
          exact runs_finer f (b :: R) (b :: P) _ hr1.2 hp1.2 hmem rfl h5 fun x hx y hy hxy hz => h6 x (by simp only [List.mem_cons] at hx ⊢; exact .inr hx) y (by simp only [List.mem_cons] at hy ⊢; exact .inr hy) hxy fun p hpm => by
            rcases List.mem_cons.1 hpm with e | e
            · have := hr1.1 x hx; omega
            · exact hz p e
        · have hlt : b < b' := by omega
          have hfe : f a = f b := h6 a (by simp) b (by simp) (by omega) fun p hpm hc => by
            rcases List.mem_cons.1 hpm with e1 | e1
            · omega
            · rcases List.mem_cons.1 e1 with e2 | e2
              · omega
              · have := hp2.1 p e2; omega
          have ih := runs_finer f (b :: R) (b :: b' :: P) (if f a then pushW acc a b else acc) hr1.2 (List.pairwise_cons.2 ⟨fun x hx => by
              rcases List.mem_cons.1 hx with e | e
              · omega
              · have := hp2.1 x e; omega, hp1.2⟩) (fun x hx => by
              rcases List.mem_cons.1 hx with e | e
              · rw [e]; simp
              · exact hmem x e) rfl (by rw [h5]; simp) fun x hx y hy hxy hz => h6 x (by simp only [List.mem_cons] at hx ⊢; exact .inr hx) y (by simp only [List.mem_cons] at hy ⊢; exact .inr hy) hxy fun p hpm => by
                rcases List.mem_cons.1 hpm with e1 | e1
                · have := hr1.1 x hx; omega
                · exact hz p (by simp only [List.mem_cons] at e1 ⊢; exact .inr e1)
          show runsW f (b :: R) _ = runsW f (b' :: P) (if f a then pushW acc a b' else acc)
          rw [ih]
          show runsW f (b' :: P) (if f b then pushW _ b b' else _) = _
          rw [← hfe]
          cases f a with
          | false => rfl
          | true => simp only [if_true]; rw [pushW_two]
termination_by R => R.length
abbrev Rt := ByteArray × List ByteArray × Int × Int × Bool
def hasR (r : Rt) (x : Int) : Bool := decide (r.2.2.1 ≤ x) && decide (x < r.2.2.2.1)
def inTags (tags : List ByteArray) (l : List ByteArray) : Bool := l.all fun t => tags.any fun s => decide (s = t)
def hitR (tags : List ByteArray) (item : ByteArray) (x : Int) (r : Rt) : Bool := decide (r.1 = item) && hasR r x && inTags tags r.2.1
def mayL (tags : List ByteArray) (item : ByteArray) (x : Int) : List Rt → Bool → Bool
  | [], o => o
  | r :: l, o => if hitR tags item x r = true then (if r.2.2.2.2 = true then false else mayL tags item x l true) else mayL tags item x l o
def edgesL (l : List Rt) : List Int := l.flatMap fun r => [r.2.2.1, r.2.2.2.1]
def SU (L S : List Int) : Prop := L.Pairwise (· < ·) ∧ ∀ x, x ∈ L ↔ x ∈ S
theorem SU.head {L S : List Int} (h : SU L S) {m : Int} (hm : m ∈ S) (hb : ∀ x ∈ S, m ≤ x) : L.head? = some m := by
  have h1 := (h.2 m).2 hm
  cases L with
  | nil => simp at h1
  | cons a L =>
    have h2 := hb a ((h.2 a).1 (by simp))
    rcases List.mem_cons.1 h1 with e | e
    · rw [e]; rfl
    · have := (List.pairwise_cons.1 h.1).1 m e; omega
theorem SU.last {L S : List Int} (h : SU L S) {m : Int} (hm : m ∈ S) (hb : ∀ x ∈ S, x ≤ m) : L.getLast? = some m := by
  have h1 := (h.2 m).2 hm
  rcases List.eq_nil_or_concat L with e | ⟨L', a, e⟩
  · rw [e] at h1; simp at h1
  · rw [List.concat_eq_append] at e
    subst e
    have h2 := hb a ((h.2 a).1 (by simp))
    have h3 := (List.pairwise_append.1 h.1).2.2
    rcases List.mem_append.1 h1 with e | e
    · have := h3 m e a (by simp); omega
    · rw [List.mem_singleton.1 e]; simp
def cutsP (item : ByteArray) (fr tz : Int) (l : List Rt) : List Int := [fr, tz] ++ ((l.filter fun r => decide (r.1 = item)).flatMap fun r => [r.2.2.1, r.2.2.2.1]).filter fun n => decide (fr < n) && decide (n < tz)
def cutsR (fr tz : Int) (E : List Int) : List Int := [fr, tz] ++ E.filter fun n => decide (fr ≤ n) && decide (n < tz)
theorem may_same (tags : List ByteArray) (item : ByteArray) (x y : Int) : ∀ (l : List Rt) (o : Bool), (∀ r ∈ l, r.1 = item → hasR r x = hasR r y) → mayL tags item x l o = mayL tags item y l o
  | [], o, _ => rfl
  | r :: l, o, h => by
    have h1 : hitR tags item x r = hitR tags item y r := by
      unfold hitR
      by_cases e : r.1 = item
      · rw [h r (by simp) e]
      · simp [e]
    rw [mayL, mayL, h1, may_same tags item x y l o fun r' hr => h r' (by simp [hr]), may_same tags item x y l true fun r' hr => h r' (by simp [hr])]
theorem times_same (tags : List ByteArray) (item : ByteArray) (fr tz : Int) (l : List Rt) (h : fr ≤ tz) {P R E : List Int} (hP : SU P (cutsP item fr tz l)) (hE : ∀ x, x ∈ E ↔ x ∈ edgesL l) (hR : SU R (cutsR fr tz E)) :
    runsW (fun x => mayL tags item x l false) R [] = runsW (fun x => mayL tags item x l false) P [] := by
  have mP : ∀ x, x ∈ P ↔ x = fr ∨ x = tz ∨ ((∃ r ∈ l, r.1 = item ∧ (x = r.2.2.1 ∨ x = r.2.2.2.1)) ∧ fr < x ∧ x < tz) := fun x => by
    rw [hP.2]
    unfold cutsP
    simp only [List.mem_append, List.mem_cons, List.not_mem_nil, or_false, List.mem_filter, List.mem_flatMap, Bool.and_eq_true, decide_eq_true_eq, or_assoc]
    constructor
    · rintro (h | h | ⟨⟨r, ⟨h1, h2⟩, h3⟩, h4⟩)
      · exact .inl h
      · exact .inr (.inl h)
      · exact .inr (.inr ⟨⟨r, h1, h2, h3⟩, h4⟩)
    · rintro (h | h | ⟨⟨r, h1, h2, h3⟩, h4⟩)
      · exact .inl h
      · exact .inr (.inl h)
      · exact .inr (.inr ⟨⟨r, ⟨h1, h2⟩, h3⟩, h4⟩)
  have mR : ∀ x, x ∈ R ↔ x = fr ∨ x = tz ∨ (x ∈ edgesL l ∧ fr ≤ x ∧ x < tz) := fun x => by
    rw [hR.2]
    unfold cutsR
    simp only [List.mem_append, List.mem_cons, List.not_mem_nil, or_false, List.mem_filter, Bool.and_eq_true, decide_eq_true_eq, or_assoc, hE]
  have bR : ∀ x ∈ R, fr ≤ x ∧ x ≤ tz := fun x hx => by
    rcases (mR x).1 hx with e | e | ⟨_, e⟩ <;> omega
  have bP : ∀ x ∈ P, fr ≤ x ∧ x ≤ tz := fun x hx => by
    rcases (mP x).1 hx with e | e | ⟨_, e⟩ <;> omega
  have mE : ∀ {r : Rt}, r ∈ l → r.2.2.1 ∈ edgesL l ∧ r.2.2.2.1 ∈ edgesL l := fun {r} hr => ⟨List.mem_flatMap.2 ⟨r, hr, by simp⟩, List.mem_flatMap.2 ⟨r, hr, by simp⟩⟩
  have hh : R.head? = P.head? := by
    rw [SU.head (S := R) ⟨hR.1, fun _ => Iff.rfl⟩ ((mR fr).2 (.inl rfl)) (fun x hx => (bR x hx).1), SU.head (S := P) ⟨hP.1, fun _ => Iff.rfl⟩ ((mP fr).2 (.inl rfl)) (fun x hx => (bP x hx).1)]
  have hl : R.getLast? = P.getLast? := by
    rw [SU.last (S := R) ⟨hR.1, fun _ => Iff.rfl⟩ ((mR tz).2 (.inr (.inl rfl))) (fun x hx => (bR x hx).2), SU.last (S := P) ⟨hP.1, fun _ => Iff.rfl⟩ ((mP tz).2 (.inr (.inl rfl))) (fun x hx => (bP x hx).2)]
  refine runs_finer _ R P [] hR.1 hP.1 (fun x hx => (mR x).2 ?_) hh hl fun x hx y hy hxy hz => ?_
  · rcases (mP x).1 hx with e | e | ⟨⟨r, h1, _, h3⟩, h4⟩
    · exact .inl e
    · exact .inr (.inl e)
    · refine .inr (.inr ⟨?_, by omega, h4.2⟩)
      rcases h3 with e | e
      · rw [e]; exact (mE h1).1
      · rw [e]; exact (mE h1).2
  · refine may_same tags item x y l false fun r hr he => ?_
    have b1 := bR x hx
    have b2 := bR y hy
    have key : ∀ n, n = r.2.2.1 ∨ n = r.2.2.2.1 → ¬ (x < n ∧ n ≤ y) := fun n hn hc => by
      refine hz n ((mP n).2 ?_) hc
      by_cases e : n = tz
      · exact .inr (.inl e)
      · exact .inr (.inr ⟨⟨r, hr, he, hn⟩, by omega, by omega⟩)
    have k1 := key r.2.2.1 (.inl rfl)
    have k2 := key r.2.2.2.1 (.inr rfl)
    unfold hasR
    rw [decide_eq_decide.2 (show r.2.2.1 ≤ x ↔ r.2.2.1 ≤ y by omega), decide_eq_decide.2 (show x < r.2.2.2.1 ↔ y < r.2.2.2.1 by omega)]
end Go.Proofs.YtmghfolmgmhabaaGreatDoor
