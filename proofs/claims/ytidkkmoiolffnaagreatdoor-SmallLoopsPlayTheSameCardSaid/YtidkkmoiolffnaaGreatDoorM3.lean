/- Rounds of loops: plain. -/
import Derived.Test.YtidkkmoiolffnaaGreatDoorM2
namespace Go.Proofs.YtidkkmoiolffnaaGreatDoor
open Go
set_option linter.unusedVariables false
set_option linter.unusedSimpArgs false
set_option maxRecDepth 100000
abbrev zM30 : Option Tmp → Nat := mdL [(1, 1)]
abbrev zM31 : Option Tmp → Nat := mdL [(4, 1), (6, 1), (8, 1)]
abbrev zM32 : Option Tmp → Nat := mdL []
abbrev zM33 : Option Tmp → Nat := mdL [(8, 1), (9, 1)]
abbrev zM34 : Option Tmp → Nat := mdL [(2, 1), (6, 1), (8, 1), (12, 2)]
abbrev zM35 : Option Tmp → Nat := mdL [(7, 1), (9, 1), (11, 1)]
abbrev zK30 : Nat := 154742654650856545879597411
attribute [go_sem] zM30 zM31 zM32 zM33 zM34 zM35 zK30
theorem firstNZ_all : ∀ (l : List Int), firstNZ l = 0 → ∀ x ∈ l, x = 0
 | [], _, x, hx => by simp at hx
 | y :: l, h, x, hx => by
  simp only [firstNZ] at h
  split at h
  ·rename_i h0
   rcases List.mem_cons.1 hx with rfl | hx
   ·exact h0
   ·exact firstNZ_all l h x hx
  ·rename_i h0; exact absurd h h0
theorem vl_of : ∀ (d : Nat) (t : LT), KC d t → partF t = 0 → VL d t
 | 0, _, h, _ => h.elim
 | d + 1, .mk kind item long many kids shares, hb, hp => by
  obtain ⟨b1, b2, b3, b4, b5, b6, b7, b8⟩ := hb
  rw [partF_eq] at hp
  by_cases h1 : outB kind 1 5
  ·rw [if_pos h1] at hp; omega
  rw [if_neg h1] at hp
  by_cases h2 : formB kind item long many kids.length shares.length
  ·rw [if_pos h2] at hp; omega
  rw [if_neg h2] at hp
  by_cases h3 : (kind == 1 && !keyB item) = true
  ·rw [if_pos h3] at hp; omega
  rw [if_neg h3] at hp
  by_cases h4 : (kind == 1 && outB long 1 3600000) = true
  ·rw [if_pos h4] at hp; omega
  rw [if_neg h4] at hp
  by_cases h5 : (kind == 5 && outB many 1 100) = true
  ·rw [if_pos h5] at hp; omega
  rw [if_neg h5] at hp
  by_cases h6 : shares.any (fun n => outB n 1 1000)
  ·rw [if_pos h6] at hp; omega
  rw [if_neg h6] at hp
  have hk := firstNZ_all _ hp
  simp only [outB, Bool.or_eq_true, decide_eq_true_eq, not_or, Int.not_lt] at h1
  simp only [formB, Bool.or_eq_true, Bool.and_eq_true, beq_iff_eq, bne_iff_ne, ne_eq, not_or, not_and, Decidable.not_not] at h2
  simp only [outB, Bool.and_eq_true, beq_iff_eq, Bool.or_eq_true, decide_eq_true_eq, not_and, not_or, Int.not_lt] at h5
  obtain ⟨⟨⟨⟨⟨⟨g1, g2⟩, g3⟩, g4⟩, g5⟩, g6⟩, g7⟩ := h2
  refine ⟨by omega, fun h => List.eq_nil_of_length_eq_zero (by have := g1 h; omega), fun h hn => by subst hn; exact g3 h rfl, fun h => ⟨by have := g2 h; omega, (h5 h).1, (h5 h).2⟩, fun h => by have := g4 h; omega, fun n hn => ?_, ⟨b5, b6⟩, fun k hkm => vl_of d k (b8 k hkm) (hk _ (List.mem_map.2 ⟨k, hkm, rfl⟩))⟩
  have h7 : outB n 1 1000 = false := by
   cases e : outB n 1 1000 with
   | false => rfl
   | true => exact absurd (List.any_eq_true.2 ⟨n, hn, e⟩) h6
  simp only [outB, Bool.or_eq_false_iff, decide_eq_false_iff_not, Int.not_lt] at h7
  exact h7
theorem psb0 : ∀ (d : Nat) (t : LT), PSB d t (ps0 t) 0
 | 0, _ => trivial
 | d + 1, .mk kind item long many kids shares => by
  rw [ps0_eq]
  refine ⟨by omega, fun x hx => ?_, fun j hj => ?_⟩
  ·obtain ⟨_, _, rfl⟩ := List.mem_map.1 hx; omega
  ·have e : (kids.map ps0).getD j default = ps0 (kids.getD j default) := by
    rw [List.getD_eq_getElem?_getD, List.getD_eq_getElem?_getD, List.getElem?_map, List.getElem?_eq_getElem hj]; rfl
   rw [e]; exact psb0 d _
def passesU (d : Nat) (t : LT) : Nat → PS × List (ByteArray × Int)
 | 0 => (ps0 t, [])
 | n + 1 => ((passU d t (passesU d t n).1).1, (passesU d t n).2 ++ (passU d t (passesU d t n).1).2)
theorem passesU_mono (d : Nat) (t : LT) : ∀ {m n : Nat}, m ≤ n → (passesU d t m).2.length ≤ (passesU d t n).2.length
 | m, 0, h => by
  obtain rfl : m = 0 := by omega
  exact Nat.le_refl _
 | m, n + 1, h => by
  by_cases e : m = n + 1
  ·rw [e]; exact Nat.le_refl _
  ·have := passesU_mono d t (m := m) (n := n) (by omega)
   simp only [passesU, List.length_append]; omega
theorem fits0 : ∀ (d : Nat) (t : LT), VL d t → Fits d t (ps0 t)
 | 0, _, h => h.elim
 | d + 1, .mk kind item long many kids shares, h => by
  obtain ⟨_, _, _, _, _, _, _, v8⟩ := h
  rw [ps0_eq]
  refine ⟨⟨by simp, by simp⟩, fun j hj => ?_⟩
  have e : (kids.map ps0).getD j default = ps0 (kids.getD j default) := by
   rw [List.getD_eq_getElem?_getD, List.getD_eq_getElem?_getD, List.getElem?_map, List.getElem?_eq_getElem hj]; rfl
  rw [e]
  exact fits0 d _ (v8 _ (getD_mem' kids j default hj))
theorem passesU_ok (d : Nat) (t : LT) (hv : VL d t) : ∀ n, PSB d t (passesU d t n).1 (passesU d t n).2.length ∧ Fits d t (passesU d t n).1 ∧ n ≤ (passesU d t n).2.length
 | 0 => ⟨psb0 d t, fits0 d t hv, Nat.zero_le _⟩
 | n + 1 => by
  obtain ⟨h1, h2, h3⟩ := passesU_ok d t hv n
  obtain ⟨q1, q2, q3⟩ := passU_ok d t _ _ hv h2 (by omega) h1
  exact ⟨by simp only [passesU, List.length_append]; exact_mod_cast q2, q3, by simp only [passesU, List.length_append]; omega⟩
def everyF (kind : Int) (nk : Nat) (shares : List Int) : Int := if kind = 3 then nk else if kind = 4 then shares.sum / gcdI shares else 1
def homeF : Nat → LT → PS → Bool
 | 0, _, _ => true
 | d + 1, .mk kind _ _ _ kids shares, .mk p _ ks => (p.tmod (everyF kind kids.length shares) == 0) && (List.range kids.length).all fun j => homeF d (kids.getD j default) (ks.getD j default)
theorem gcdI_le_sum {l : List Int} (h : ∀ x ∈ l, 1 ≤ x ∧ x ≤ 1000) (hn : l ≠ []) : (gcdI l : Int) ≤ l.sum := by
 cases l with
 | nil => exact absurd rfl hn
 | cons x xs =>
  have h1 := Int.le_of_dvd (by have := (h x (by simp)).1; omega) (gcdI_dvd (fun y hy => (h y hy).1) (List.mem_cons_self (a := x) (l := xs)))
  have : ∀ l : List Int, (∀ x ∈ l, 1 ≤ x ∧ x ≤ 1000) → 0 ≤ l.sum := fun l => by
   induction l with
   | nil => simp
   | cons y l ih => intro h; have := h y (by simp); have := ih fun z hz => h z (by simp [hz]); simp only [List.sum_cons]; omega
  have := this xs fun z hz => h z (by simp [hz])
  simp only [List.sum_cons]; omega
theorem every_pos {d : Nat} {kind : Int} {item : ByteArray} {long many : Int} {kids : List LT} {shares : List Int} (hv : VL (d + 1) (.mk kind item long many kids shares)) : 1 ≤ everyF kind kids.length shares ∧ everyF kind kids.length shares ≤ 1000000 := by
 obtain ⟨v1, v2, v3, v4, v5, v6, v7, v8⟩ := hv
 unfold everyF
 split
 ·have := List.length_pos_iff.2 (v3 (by omega)); omega
 ·split
  ·rename_i h4
   have hn : shares ≠ [] := fun e => v3 (by omega) (List.eq_nil_of_length_eq_zero (by rw [← v5 h4, e]; rfl))
   have h1 := gcdI_le_sum v6 hn
   have h2 := gcdI_pos (fun x hx => (v6 x hx).1) hn
   have h3 : ∀ l : List Int, (∀ x ∈ l, 1 ≤ x ∧ x ≤ 1000) → l.sum ≤ l.length * 1000 := fun l => by
    induction l with
    | nil => simp
    | cons y l ih => intro h; have := h y (by simp); have := ih fun z hz => h z (by simp [hz]); simp only [List.sum_cons, List.length_cons]; omega
   have h4 := h3 shares v6
   have h5 : shares.sum / (gcdI shares : Int) ≤ shares.sum := Int.ediv_le_self _ (by omega)
   refine ⟨?_, by omega⟩
   have := Int.le_ediv_of_mul_le (a := 1) (b := shares.sum) (c := (gcdI shares : Int)) (by omega) (by omega)
   omega
  ·omega
def RoundIs (d : Nat) (t : LT) (N : Nat) : Prop := (1 ≤ N ∧ N ≤ 5000) ∧ (passesU d t N).2.length ≤ 5000 ∧ homeF d t (passesU d t N).1 = true ∧ ∀ n, 1 ≤ n → n < N → homeF d t (passesU d t n).1 = false
theorem RoundIs.eq {d : Nat} {t : LT} {N M : Nat} (h : RoundIs d t N) (k : RoundIs d t M) : N = M := by
 obtain ⟨a, _, b, c⟩ := h
 obtain ⟨a', _, b', c'⟩ := k
 rcases Nat.lt_trichotomy N M with h | h | h
 ·rw [c' N a.1 h] at b; cases b
 ·exact h
 ·rw [c M a'.1 h] at b'; cases b'
open Classical in
noncomputable def roundN (d : Nat) (t : LT) : Nat := if h : ∃ N, RoundIs d t N then h.choose else 0
theorem roundN_some {d : Nat} {t : LT} {N : Nat} (h : RoundIs d t N) : roundN d t = N := by
 have hx : ∃ N, RoundIs d t N := ⟨N, h⟩
 rw [roundN, dif_pos hx]
 exact (hx.choose_spec).eq h
theorem roundN_none {d : Nat} {t : LT} (h : ∀ N, ¬ RoundIs d t N) : roundN d t = 0 := by
 rw [roundN, dif_neg fun ⟨N, hN⟩ => h N hN]
theorem roundN_is {d : Nat} {t : LT} (h : roundN d t ≠ 0) : RoundIs d t (roundN d t) := by
 by_cases hx : ∃ N, RoundIs d t N
 ·rw [roundN, dif_pos hx]; exact hx.choose_spec
 ·rw [roundN, dif_neg hx] at h; exact absurd rfl h
theorem round_long {d : Nat} {t : LT} {j : Nat} (hl : 5000 < (passesU d t (j + 1)).2.length) (hn : ∀ n, 1 ≤ n → n ≤ j → homeF d t (passesU d t n).1 = false) : roundN d t = 0 := roundN_none fun N ⟨a, b, c, _⟩ => by
 by_cases h : N ≤ j
 ·rw [hn N a.1 h] at c; cases c
 ·have := passesU_mono d t (m := j + 1) (n := N) (by omega)
  omega
noncomputable def roundS (d : Nat) (t : LT) : List (ByteArray × Int) := if roundN d t = 0 then [] else (passesU d t (roundN d t)).2
noncomputable def roundE (d : Nat) (t : LT) : Int := if roundN d t = 0 then 2 else 0
theorem roundS_len (d : Nat) (t : LT) : (roundS d t).length ≤ 5000 := by
 unfold roundS
 split
 ·simp
 ·rename_i h; exact (roundN_is h).2.1
theorem roundS_pos {d : Nat} {t : LT} (hv : VL d t) (h : roundE d t = 0) : 1 ≤ (roundS d t).length := by
 unfold roundE at h
 split at h
 ·cases h
 ·rename_i h0
  rw [roundS, if_neg h0]
  have := (passesU_ok d t hv (roundN d t)).2.2
  have := (roundN_is h0).1.1
  omega
def IL : Nat → LT → Prop
 | 0, _ => True
 | d + 1, .mk kind _ long _ kids _ => (kind = 1 → 1 ≤ long ∧ long ≤ 3600000) ∧ ∀ k ∈ kids, IL d k
theorem IL.dflt : ∀ d, IL d default
 | 0 => trivial
 | d + 1 => show IL (d + 1) (.mk 0 default 0 0 [] []) from ⟨fun h => (by cases h), fun k hk => (by cases hk)⟩
theorem pass_long : ∀ (d : Nat) (t : LT) (s : PS), IL d t → ∀ x ∈ (passU d t s).2, 1 ≤ x.2 ∧ x.2 ≤ 3600000
 | 0, _, _, _ => by simp [passU]
 | d + 1, .mk kind item long many kids shares, .mk p cs ks, hi => by
  rw [passU_succ]
  have hk : ∀ i, IL d (kids.getD i default) := fun i => by
   by_cases h : i < kids.length
   ·exact hi.2 _ (getD_mem' kids i default h)
   ·rw [List.getD_eq_getElem?_getD, List.getElem?_eq_none (by omega)]; exact IL.dflt d
  have key : ∀ (L : List Nat) (a : (List Int × List PS) × List (ByteArray × Int)), (∀ x ∈ a.2, 1 ≤ x.2 ∧ x.2 ≤ 3600000) → ∀ x ∈ (L.foldl (stepU (passU d) kids) a).2, 1 ≤ x.2 ∧ x.2 ≤ 3600000 := fun L => by
   induction L with
   | nil => intro a h; exact h
   | cons i L ih =>
    intro a h
    refine ih _ (fun x hx => ?_)
    rcases List.mem_append.1 hx with h9 | h9
    ·exact h x h9
    ·exact pass_long d _ _ (hk i) x h9
  refine key _ _ ?_
  split
  ·rename_i h1
   intro x hx
   rw [List.mem_singleton.1 hx]
   exact hi.1 h1
  ·simp
theorem passes_long {d : Nat} {t : LT} (h : IL d t) : ∀ n, ∀ x ∈ (passesU d t n).2, 1 ≤ x.2 ∧ x.2 ≤ 3600000
 | 0 => by simp [passesU]
 | n + 1 => fun x hx => by
  rcases List.mem_append.1 hx with h9 | h9
  ·exact passes_long h n x h9
  ·exact pass_long d t _ h x h9
theorem il_of : ∀ (d : Nat) (t : LT), partF t = 0 → IL d t
 | 0, _, _ => trivial
 | d + 1, .mk kind item long many kids shares, hp => by
  rw [partF_eq] at hp
  by_cases h1 : outB kind 1 5
  ·rw [if_pos h1] at hp; omega
  rw [if_neg h1] at hp
  by_cases h2 : formB kind item long many kids.length shares.length
  ·rw [if_pos h2] at hp; omega
  rw [if_neg h2] at hp
  by_cases h3 : (kind == 1 && !keyB item) = true
  ·rw [if_pos h3] at hp; omega
  rw [if_neg h3] at hp
  by_cases h4 : (kind == 1 && outB long 1 3600000) = true
  ·rw [if_pos h4] at hp; omega
  rw [if_neg h4] at hp
  by_cases h5 : (kind == 5 && outB many 1 100) = true
  ·rw [if_pos h5] at hp; omega
  rw [if_neg h5] at hp
  by_cases h6 : shares.any (fun n => outB n 1 1000)
  ·rw [if_pos h6] at hp; omega
  rw [if_neg h6] at hp
  have hnz : ∀ (l : List Int), firstNZ l = 0 → ∀ x ∈ l, x = 0 := fun l => by
   induction l with
   | nil => intro _ x hx; cases hx
   | cons y l ih =>
    intro h x hx
    simp only [firstNZ] at h
    split at h
    ·rename_i h0
     rcases List.mem_cons.1 hx with rfl | hx
     ·exact h0
     ·exact ih h x hx
    ·rename_i h0; exact absurd h h0
  have hk := hnz _ hp
  refine ⟨fun h => ?_, fun k hkm => il_of d k (hk _ (List.mem_map.2 ⟨k, hkm, rfl⟩))⟩
  subst h
  simpa [outB] using h4
def itemsR : List ByteArray := [⟨#[105, 97]⟩, ⟨#[105, 98]⟩, ⟨#[105, 99]⟩, ⟨#[110, 97]⟩]
def RT : Nat → LT → Prop
 | 0, _ => False
 | d + 1, .mk kind item long many kids shares =>
  (kind = 1 ∧ item ∈ itemsR ∧ (1 ≤ long ∧ long ≤ 5000) ∧ many = 0 ∧ kids = [] ∧ shares = []) ∨
  ((2 ≤ kind ∧ kind ≤ 5) ∧ item = default ∧ long = 0 ∧ (kind = 5 → (1 ≤ many ∧ many ≤ 3) ∧ kids.length = 1) ∧ (kind ≠ 5 → many = 0) ∧ (1 ≤ kids.length ∧ kids.length ≤ 3) ∧ (kind = 4 → shares.length = kids.length) ∧ (kind ≠ 4 → shares = []) ∧ (∀ n ∈ shares, 1 ≤ n ∧ n ≤ 4) ∧ ∀ k ∈ kids, RT d k)
theorem RT.mono : ∀ {d e : Nat} {t : LT}, RT d t → d ≤ e → RT e t
 | 0, _, _, h, _ => h.elim
 | d + 1, 0, _, _, h => by omega
 | d + 1, e + 1, .mk .., h, hd => by
  rcases h with h | ⟨h1, h2, h3, h4, h5, h6, h7, h8, h9, h10⟩
  ·exact .inl h
  ·exact .inr ⟨h1, h2, h3, h4, h5, h6, h7, h8, h9, fun k hk => (h10 k hk).mono (by omega)⟩
theorem items_size : ∀ x ∈ itemsR, x.size ≤ 2 ∧ keyB x = true := by decide
theorem RT.lc : ∀ {d : Nat} {t : LT}, RT d t → LC d t
 | 0, _, h => h.elim
 | d + 1, .mk kind item long many kids shares, h => by
  rcases h with ⟨h1, h2, h3, h4, rfl, rfl⟩ | ⟨h1, h2, h3, h4, h5, h6, h7, h8, h9, h10⟩
  ·exact ⟨by unfold NB; omega, (items_size _ h2).1, by unfold NB; omega, by unfold NB; omega, by simp, by simp, by simp, by simp⟩
  ·have hm : NB many := by
    unfold NB
    by_cases e : kind = 5
    ·have := h4 e; omega
    ·have := h5 e; omega
   have hs : shares.length ≤ 5 := by
    by_cases e : kind = 4
    ·have := h7 e; omega
    ·rw [h8 e]; simp
   exact ⟨by unfold NB; omega, by rw [h2]; decide, by unfold NB; omega, hm, by omega, hs, fun x hx => by have := h9 x hx; unfold NB; omega, fun k hk => (h10 k hk).lc⟩
theorem firstNZ_none : ∀ (l : List Int), (∀ x ∈ l, x = 0) → firstNZ l = 0
 | [], _ => rfl
 | y :: l, h => by
  simp only [firstNZ]
  rw [if_pos (h y (by simp))]
  exact firstNZ_none l fun x hx => h x (by simp [hx])
theorem RT.part : ∀ {d : Nat} {t : LT}, RT d t → partF t = 0
 | 0, _, h => h.elim
 | d + 1, .mk kind item long many kids shares, h => by
  rw [partF_eq]
  rcases h with ⟨rfl, h2, h3, rfl, rfl, rfl⟩ | ⟨h1, h2, h3, h4, h5, h6, h7, h8, h9, h10⟩
  ·have hk := (items_size _ h2).2
   simp [outB, formB, hk, firstNZ]
   omega
  ·have c1 : outB kind 1 5 = false := by simp [outB]; omega
   have c2 : formB kind item long many kids.length shares.length = false := by
    have e1 : (kind == 1) = false := by simp; omega
    have e2 : (kind == 5 && (kids.length : Int) != 1) = false := by
     by_cases e : kind = 5
     ·have := h4 e; simp; omega
     ·simp [e]
    have e3 : (kind == 4 && (shares.length : Int) != (kids.length : Int)) = false := by
     by_cases e : kind = 4
     ·have := h7 e; simp; omega
     ·simp [e]
    have e4 : (kind != 4 && (shares.length : Int) != 0) = false := by
     by_cases e : kind = 4
     ·simp [e]
     ·have := h8 e; simp [this]
    have e5 : (kind != 5 && many != 0) = false := by
     by_cases e : kind = 5
     ·simp [e]
     ·have := h5 e; simp [this]
    have e6 : ((kids.length : Int) == 0) = false := by simp; intro e; rw [e] at h6; simp at h6
    have e7 : (item != (⟨#[]⟩ : ByteArray)) = false := by rw [h2]; decide
    have e8 : (long != 0) = false := by rw [h3]; rfl
    unfold formB
    rw [e1, e2, e3, e4, e5, e6, e7, e8]
    simp
   have c3 : (kind == 1) = false := by simp; omega
   have c4 : (kind == 5 && outB many 1 100) = false := by
    by_cases e : kind = 5
    ·have := h4 e; simp [outB]; omega
    ·simp [e]
   have c5 : shares.any (fun n => outB n 1 1000) = false := by
    rw [List.any_eq_false]
    intro x hx
    have := h9 x hx
    simp [outB]; omega
   rw [c1, c2, c3, c4, c5]
   simp only [Bool.false_and, Bool.false_eq_true, if_false]
   refine firstNZ_none _ fun x hx => ?_
   obtain ⟨k, hk, rfl⟩ := List.mem_map.1 hx
   exact (h10 k hk).part
def mostR : Nat → Int
 | 0 => 0
 | d + 1 => 3 * mostR d + 1
theorem mostR_nonneg : ∀ d, 0 ≤ mostR d
 | 0 => Int.le_refl _
 | d + 1 => by have := mostR_nonneg d; simp only [mostR]; omega
theorem RT.many : ∀ {d : Nat} {t : LT}, RT d t → 0 ≤ manyF t ∧ manyF t ≤ mostR d ∧ deepF t ≤ d
 | 0, _, h => h.elim
 | d + 1, .mk kind item long many kids shares, h => by
  rw [manyF_eq, deepF_eq]
  have hm := mostR_nonneg d
  have hk : kids.length ≤ 3 ∧ ∀ k ∈ kids, RT d k := by
   rcases h with ⟨h1, h2, h3, h4, rfl, rfl⟩ | ⟨h1, h2, h3, h4, h5, h6, h7, h8, h9, h10⟩
   ·simp
   ·exact ⟨h6.2, h10⟩
  have h1 := sum_bd manyF (mostR d) hm kids fun k hk' => ⟨(hk.2 k hk').many.1, (hk.2 k hk').many.2.1⟩
  have h2 := max_bd deepF d kids 0 (by omega) fun k hk' => (hk.2 k hk').many.2.2
  have h3 : (kids.length : Int) * mostR d ≤ 3 * mostR d := Int.mul_le_mul_of_nonneg_right (by omega) hm
  simp only [mostR]
  refine ⟨by omega, by omega, by omega⟩
theorem RT.fault {t : LT} (h : RT 4 t) : faultF t = 0 := by
 have h1 := h.many
 have e : mostR 4 = 40 := rfl
 unfold faultF
 rw [if_neg (by omega)]
 exact h.part
theorem RT.vl {t : LT} (h : RT 4 t) : VL 23 t := vl_of 23 t (h.mono (by omega)).lc.kc h.part
open Nat renaming reduceAdd → nA, reduceSub → nB, reduceMul → nC, reduceLT → nD, reduceLeDiff → nE, reduceEqDiff → nF, reduceMod → nG, reduceDiv → nH, reducePow → nI
abbrev zP1BE : List Nat := [0, 1, 3, 4]
abbrev zP1BP : List (Nat × List Nat × List Nat) := [(2, [3], []), (5, [], [6]), (7, [], [])]
abbrev zP1CE : List Nat := [0, 1, 2, 3]
abbrev zP1CP : List (Nat × List Nat × List Nat) := [(4, [0], [5]), (6, [], []), (8, [], [])]
abbrev zP1DE : List Nat := [0, 1, 2, 3]
abbrev zP1DP : List (Nat × List Nat × List Nat) := [(4, [1], [5]), (6, [], [7]), (8, [], [])]
attribute [go_sem] zP1BE zP1BP zP1CE zP1CP zP1DE zP1DP
set_option maxHeartbeats 8000000
theorem g_itemK (i : Nat) (l : List Int) (a : Int) (h : Hp) (hl : SOk l) (ha : 0 ≤ a ∧ a ≤ 900000000) :
  ACalls Tryz.prog 66 [.ref [.ptr i 0] 0] (h.st i l a) (fun r h' => ∃ t, RT 1 t ∧ r = .agg (encX t) ∧ h' = h.st i l (a + 2)) := by
 refine gE Tryz.func66 rfl (by kernel_rfl) 8 rfl fun c => ?_
 (repeat (first | refine gO rfl ?_ | ((first | refine gM zM30 ?_ | ((with_reducible refine xS ?_); refine uD 1 zM30 zP1BE zP1BP 9 rfl (by kernel_rfl) ?_)) <;> ((try with_reducible intro K1 hK1); simp only [go_sem, ↓reduceIte, reduceCtorEq, nA, nB, nC, nD, nE, nF] <;> and_intros <;> first | (apply hK1; clear hK1 K1) | (intros; (decide)) | skip))))
 refine (g_some i l a [⟨#[105, 97]⟩, ⟨#[105, 97]⟩, ⟨#[105, 98]⟩, ⟨#[105, 99]⟩, ⟨#[110, 97]⟩] none h hl (by omega) (by simp)).mono ?_; rintro _ _ ⟨x, hx, rfl, rfl⟩; apply hK1; clear hK1 K1
 (repeat (((first | refine gM zM30 ?_ | (with_reducible refine wM ?_ ?_)) <;> ((try with_reducible intro K1 hK1); simp only [go_sem, ↓reduceIte, reduceCtorEq, nA, nB, nC, nD, nE, nF] <;> and_intros <;> first | (apply hK1; clear hK1 K1) | (intros; (simp_all <;> omega)) | skip))))
 refine (g_pick i l (a + 1) [1000, 2000, 5000] none h hl (by omega) (by simp)).mono ?_; rintro _ _ ⟨y, hy, rfl, rfl⟩; apply hK1; clear hK1 K1
 (repeat (first | refine gO rfl ?_ | ((first | refine gM zM30 ?_ | (with_reducible refine wM ?_ ?_)) <;> ((try with_reducible intro K1 hK1); simp only [go_sem, ↓reduceIte, reduceCtorEq, nA, nB, nC, nD, nE, nF] <;> and_intros <;> (apply hK1; clear hK1 K1)))))
 simp only [Tryz.results66, go_sem, ↓reduceIte, reduceCtorEq, nA, nB, nC, nD, nE, nF]
 refine ⟨_, _, Weak.refl _, Hp.le.refl _, .mk 1 x y 0 [] [], ?_, by rw [encX_eq]; rfl, by rw [show a + 1 + 1 = a + 2 by omega]⟩
 simp at hx hy
 refine .inl ⟨rfl, ?_, by omega, rfl, rfl, rfl⟩
 rcases hx with rfl | rfl | rfl | rfl <;> simp [itemsR]
def costR : Nat → Int
 | 0 => 20
 | n + 1 => 20 + 3 * (costR n + 10)
theorem costR_ge : ∀ d, 20 ≤ costR d
 | 0 => Int.le_refl _
 | n + 1 => by have := costR_ge n; show 20 ≤ 20 + 3 * (costR n + 10); omega
def RightIK (d : Nat) (deep : Int) (i : Nat) (l : List Int) (h : Hp) (kd mn many a' : Int) (k1 : Nat) (g : Nat) (s : St) : Prop :=
 ∃ (kids : List LT) (shares : List Int) (S : AV) (T2 : Nat → Option TO) (a2 : Int), (g : Int) + kids.length = many ∧ T2 k1 = some (.tail kids.length) ∧
  (kd = 4 ∧ (∃ k2, k2 ≠ k1 ∧ h.T k2 = none ∧ S = .row 1 (shares.map encI) (some k2) ∧ T2 k2 = some (.tail shares.length) ∧ shares.length = kids.length) ∨ kd ≠ 4 ∧ shares = [] ∧ S = .v (.slice none 0 0)) ∧
  (∀ k, h.T k ≠ none → T2 k = h.T k) ∧ (∀ t ∈ kids, RT (d + 1) t) ∧ (∀ x ∈ shares, 1 ≤ x ∧ x ≤ 4) ∧ (a' ≤ a2 ∧ a2 ≤ a' + kids.length * (costR d + 3)) ∧
  s = ⟨(AV.junk :: ((.v (.int .i64 deep)) :: (.ref [.ptr i 0] 0) :: AV.junk :: ((.loc 0 0) :: AV.junk :: ((.loc 1 0) :: (jnk 25 ((.v (.int .i64 many)) :: (.v (.int .i64 kids.length)) :: (jnk 42 []))))))),
   [[.v (.int .i64 0), .v (.string { data := #[] }), .v (.int .i64 0), .v (.int .i64 0), .v (.slice none 0 0), .v (.slice none 0 0)], [.v (.int .i64 kd), .v (.string { data := #[] }), .v (.int .i64 0), .v (.int .i64 mn), .row 6 (kids.map encX) (some k1), S]], Hp.st ⟨h.H, T2⟩ i l a2⟩
theorem g_rightK (d : Nat) : ∀ (deep : Int) (_ : deep ≤ d ∧ -10 ≤ deep ∧ d ≤ 100) (i : Nat) (l : List Int) (a : Int) (h : Hp) (_ : SOk l) (_ : 0 ≤ a ∧ a + costR d ≤ 900000000),
  ACalls Tryz.prog 13 [.ptr i 0, .v (.int .i64 deep)] (h.st i l a) (fun r h' => ∃ t a', RT (d + 1) t ∧ (a ≤ a' ∧ a' ≤ a + costR d) ∧ r = .agg (encX t) ∧ h' = h.st i l a') := by
 induction d with
 | zero =>
  intro deep hd i l a h hl ha
  have hc : costR 0 = 20 := rfl
  refine gE Tryz.func13 rfl (by kernel_rfl) 74 rfl fun c => ?_
  (repeat (first | refine gO rfl ?_ | ((refine gM zM31 fun K1 hK1 => ?_; simp only [go_sem, ↓reduceIte, reduceCtorEq, nA, nB, nC, nD, nE, nF] <;> and_intros <;> first | (apply hK1; clear hK1 K1) | (intros; first | decide | (simp_all <;> omega)) | skip))))
  intro h1
  refine hK1 _ ?_; clear hK1 K1
  (repeat (first | refine gO rfl ?_ | ((refine gM zM31 fun K1 hK1 => ?_; simp only [go_sem, ↓reduceIte, reduceCtorEq, nA, nB, nC, nD, nE, nF, h1] <;> and_intros <;> (apply hK1; clear hK1 K1)))))
  refine awp_cond (t := _) rfl (fun _ => ?_) (fun h2 => by cases h2)
  (repeat (((refine gM zM31 fun K1 hK1 => ?_; simp only [go_sem, ↓reduceIte, reduceCtorEq, nA, nB, nC, nD, nE, nF] <;> and_intros))))
  refine (g_itemK i l a h hl (by omega)).mono ?_; rintro _ _ ⟨t, ht, rfl, rfl⟩; apply hK1; clear hK1 K1
  have hlen := encX_len t
  have htk : List.take 6 (encX t) = encX t := List.take_of_length_le (Nat.le_of_eq hlen)
  (repeat (first | refine gO rfl ?_ | ((refine gM zM31 fun K1 hK1 => ?_; simp only [go_sem, ↓reduceIte, reduceCtorEq, nA, nB, nC, nD, nE, nF, hlen] <;> and_intros <;> (apply hK1; clear hK1 K1)))))
  simp only [Tryz.results13, go_sem, ↓reduceIte, reduceCtorEq, nA, nB, nC, nD, nE, nF, hlen, htk]
  exact ⟨_, _, Weak.refl _, Hp.le.refl _, t, a + 2, ht, by omega, rfl, rfl⟩
 | succ d ih =>
  intro deep hd i l a h hl ha
  have hc : costR (d + 1) = 20 + 3 * (costR d + 10) := rfl
  have hc0 : 20 ≤ costR d := costR_ge d
  refine gE Tryz.func13 rfl (by kernel_rfl) 74 rfl fun c => ?_
  (repeat (first | refine gO rfl ?_ | ((refine gM zM31 fun K1 hK1 => ?_; simp only [go_sem, ↓reduceIte, reduceCtorEq, nA, nB, nC, nD, nE, nF] <;> and_intros <;> first | (apply hK1; clear hK1 K1) | (intros; (decide)) | skip))))
  rotate_left
  ·intro h1
   refine hK1 _ ?_; clear hK1 K1
   (repeat (first | refine gO rfl ?_ | ((refine gM zM31 fun K1 hK1 => ?_; simp only [go_sem, ↓reduceIte, reduceCtorEq, nA, nB, nC, nD, nE, nF, h1] <;> and_intros <;> (apply hK1; clear hK1 K1)))))
   refine awp_cond (t := _) rfl (fun _ => ?_) (fun h2 => by cases h2)
   (repeat (((refine gM zM31 fun K1 hK1 => ?_; simp only [go_sem, ↓reduceIte, reduceCtorEq, nA, nB, nC, nD, nE, nF] <;> and_intros))))
   refine (g_itemK i l a h hl (by omega)).mono ?_; rintro _ _ ⟨t, ht, rfl, rfl⟩; apply hK1; clear hK1 K1
   have hlen := encX_len t
   have htk : List.take 6 (encX t) = encX t := List.take_of_length_le (Nat.le_of_eq hlen)
   (repeat (first | refine gO rfl ?_ | ((refine gM zM31 fun K1 hK1 => ?_; simp only [go_sem, ↓reduceIte, reduceCtorEq, nA, nB, nC, nD, nE, nF, hlen] <;> and_intros <;> (apply hK1; clear hK1 K1)))))
   simp only [Tryz.results13, go_sem, ↓reduceIte, reduceCtorEq, nA, nB, nC, nD, nE, nF, hlen, htk]
   exact ⟨_, _, Weak.refl _, Hp.le.refl _, t, a + 2, ht.mono (by omega), by omega, rfl, rfl⟩
  ·intro h1
   refine ⟨h1, ?_⟩
   refine (g_flip i l a 5 h hl (by omega) (by omega)).mono ?_
   rintro _ _ ⟨b, rfl, rfl⟩
   refine ⟨rfl, hK1 _ ?_⟩; clear hK1 K1
   (repeat (first | refine gO rfl ?_ | ((refine gM zM31 fun K1 hK1 => ?_; simp only [go_sem, ↓reduceIte, reduceCtorEq, nA, nB, nC, nD, nE, nF, h1] <;> and_intros <;> (apply hK1; clear hK1 K1)))))
   refine awp_cond (t := _) rfl (fun _ => ?_) (fun h2 => ?_)
   ·(repeat (((refine gM zM31 fun K1 hK1 => ?_; simp only [go_sem, ↓reduceIte, reduceCtorEq, nA, nB, nC, nD, nE, nF] <;> and_intros))))
    refine (g_itemK i l (a + 1) h hl (by omega)).mono ?_; rintro _ _ ⟨t, ht, rfl, rfl⟩; apply hK1; clear hK1 K1
    have hlen := encX_len t
    have htk : List.take 6 (encX t) = encX t := List.take_of_length_le (Nat.le_of_eq hlen)
    (repeat (first | refine gO rfl ?_ | ((refine gM zM31 fun K1 hK1 => ?_; simp only [go_sem, ↓reduceIte, reduceCtorEq, nA, nB, nC, nD, nE, nF, hlen] <;> and_intros <;> (apply hK1; clear hK1 K1)))))
    simp only [Tryz.results13, go_sem, ↓reduceIte, reduceCtorEq, nA, nB, nC, nD, nE, nF, hlen, htk]
    exact ⟨_, _, Weak.refl _, Hp.le.refl _, t, a + 1 + 2, ht.mono (by omega), by omega, rfl, rfl⟩
   ·(repeat (first | refine gO rfl ?_ | ((refine gM zM31 fun K1 hK1 => ?_; simp only [go_sem, ↓reduceIte, reduceCtorEq, nA, nB, nC, nD, nE, nF] <;> and_intros <;> first | (intros; (decide)) | skip))))
    refine (g_pick i l (a + 1) [2, 2, 3, 4, 5] none h hl (by omega) (by simp)).mono ?_; rintro _ _ ⟨kd, hkd, rfl, rfl⟩; apply hK1; clear hK1 K1
    (repeat (first | refine gO rfl ?_ | ((refine gM zM31 fun K1 hK1 => ?_; simp only [go_sem, ↓reduceIte, reduceCtorEq, nA, nB, nC, nD, nE, nF] <;> and_intros <;> first | (apply hK1; clear hK1 K1) | skip))))
    refine (g_range i l (a + 1 + 1) 1 3 h hl (by omega) (by omega) (by omega) (by omega)).mono ?_; rintro _ _ ⟨many, hmany, rfl, rfl⟩; apply hK1; clear hK1 K1
    (repeat (first | refine gO rfl ?_ | ((refine gM zM31 fun K1 hK1 => ?_; simp only [go_sem, ↓reduceIte, reduceCtorEq, nA, nB, nC, nD, nE, nF] <;> and_intros <;> (apply hK1; clear hK1 K1)))))
    have hk5 : 2 ≤ kd ∧ kd ≤ 5 := by simp at hkd; omega
    clear hkd
    refine awp_join (rl false [1, 2, 1, 1, 1, 2, 68]) 2 (fun s => ∃ mn many a' : Int, (0 ≤ mn ∧ mn ≤ 3) ∧ (1 ≤ many ∧ many ≤ 3) ∧ (a ≤ a' ∧ a' ≤ a + 4) ∧ ((kd = 5 → (1 ≤ mn ∧ mn ≤ 3) ∧ many = 1) ∧ (kd ≠ 5 → mn = 0)) ∧
     s = ⟨(AV.junk :: ((.v (.int .i64 deep)) :: (.ref [.ptr i 0] 0) :: AV.junk :: ((.loc 0 0) :: AV.junk :: ((.loc 1 0) :: (.v (.int .i64 many)) :: (jnk 68 []))))),
      [[.v (.int .i64 0), .v (.string { data := #[] }), .v (.int .i64 0), .v (.int .i64 0), .v (.slice none 0 0), .v (.slice none 0 0)], [.v (.int .i64 kd), .v (.string { data := #[] }), .v (.int .i64 0), .v (.int .i64 mn), .v (.slice none 0 0), .v (.slice none 0 0)]], h.st i l a'⟩) ?_ ?_
    ·refine awp_cond (t := _) rfl (fun h5 => ?_) (fun h5 => ?_)
     ·(repeat (((refine gM zM31 fun K1 hK1 => ?_; simp only [go_sem, ↓reduceIte, reduceCtorEq, nA, nB, nC, nD, nE, nF] <;> and_intros <;> first | (intros; (decide)) | skip))))
      refine (g_pick i l (a + 1 + 1 + 1) [1, 2, 3] none h hl (by omega) (by simp)).mono ?_; rintro _ _ ⟨mn, hmn, rfl, rfl⟩; apply hK1; clear hK1 K1
      (repeat (first | refine gO rfl ?_ | ((refine gM zM31 fun K1 hK1 => ?_; simp only [go_sem, ↓reduceIte, reduceCtorEq, nA, nB, nC, nD, nE, nF] <;> and_intros <;> (apply hK1; clear hK1 K1)))))
      exact ⟨mn, 1, _, by simp at hmn; omega, by omega, by omega, ⟨fun _ => ⟨by simp at hmn; omega, rfl⟩, fun h => absurd (by simpa using h5) h⟩, rfl⟩
     ·(repeat ((refine gO rfl ?_)))
      exact ⟨0, many, _, by omega, hmany, by omega, ⟨fun h => absurd h (by simpa using h5), fun _ => rfl⟩, rfl⟩
    ·rintro _ ⟨mn, many, a', hmn, hmany2, ha', hm5, rfl⟩
     refine awp_ownLoc 1 4 6 rfl rfl (fun k1 hk1 => ?_)
     simp only [List.set_cons_zero, List.set_cons_succ]
     refine awp_via (fun s => ∃ (S : AV) (T' : Nat → Option TO), T' k1 = some (.tail 0) ∧ (kd = 4 ∧ (∃ k2, k2 ≠ k1 ∧ h.T k2 = none ∧ S = .row 1 [] (some k2) ∧ T' k2 = some (.tail 0)) ∨ kd ≠ 4 ∧ S = .v (.slice none 0 0)) ∧ (∀ k, h.T k ≠ none → T' k = h.T k) ∧
      s = ⟨(AV.junk :: ((.v (.int .i64 deep)) :: (.ref [.ptr i 0] 0) :: AV.junk :: ((.loc 0 0) :: AV.junk :: ((.loc 1 0) :: (.v (.int .i64 many)) :: (jnk 68 []))))),
       [[.v (.int .i64 0), .v (.string { data := #[] }), .v (.int .i64 0), .v (.int .i64 0), .v (.slice none 0 0), .v (.slice none 0 0)], [.v (.int .i64 kd), .v (.string { data := #[] }), .v (.int .i64 0), .v (.int .i64 mn), .row 6 [] (some k1), S]], Hp.st ⟨h.H, T'⟩ i l a'⟩) ?_ ?_
     rotate_left
     ·intro main
      by_cases h4 : kd = 4
      ·refine awp_ownLoc 1 5 1 rfl rfl (fun k2 hk2 => ?_)
       simp only [List.set_cons_zero, List.set_cons_succ]
       have hne : k2 ≠ k1 := fun e => by subst e; simp [upd_same] at hk2
       simp only [upd_other _ _ hne] at hk2
       refine main _ ⟨_, upd (upd h.T k1 (some (.tail 0))) k2 (some (.tail 0)), by rw [upd_other _ _ hne.symm, upd_same], .inl ⟨h4, k2, hne, hk2, rfl, upd_same _ _ _⟩, fun k hk => ?_, rfl⟩
       have e1 : k ≠ k1 := fun e => hk (e ▸ hk1)
       have e2 : k ≠ k2 := fun e => hk (e ▸ hk2)
       rw [upd_other _ _ e2, upd_other _ _ e1]
      ·refine main _ ⟨_, upd h.T k1 (some (.tail 0)), upd_same _ _ _, .inr ⟨h4, rfl⟩, fun k hk => ?_, rfl⟩
       have e1 : k ≠ k1 := fun e => hk (e ▸ hk1)
       rw [upd_other _ _ e1]
     ·rintro _ ⟨S, T', hT1, hS, hTT, rfl⟩
      (repeat (first | refine gO rfl ?_ | ((refine gM zM31 fun K1 hK1 => ?_; simp only [go_sem, ↓reduceIte, reduceCtorEq, nA, nB, nC, nD, nE, nF] <;> and_intros <;> (apply hK1; clear hK1 K1)))))
      refine awp_loopC (rl false [1, 2, 1, 1, 1, 1, 25, 2, 42]) 2 (fun g s => RightIK d deep i l h kd mn many a' k1 g s) many.toNat ⟨[], [], S, T', a', by simp; omega, hT1, by
       rcases hS with ⟨x1, k2, x2, x5, x3, x4⟩ | ⟨x1, x2⟩
       ·exact .inl ⟨x1, k2, x2, x5, x3, x4, rfl⟩
       ·exact .inr ⟨x1, rfl, x2⟩, hTT, by simp, by simp, by simp, rfl⟩ ?_
      rintro n _ ⟨kids, shares, S, T2, a2, hn, hT1, hS, hTT, hkl, hsb, ha2, rfl⟩
      have hkn : (kids.length : Int) ≤ 3 := by omega
      have hcd : (kids.length : Int) * (costR d + 3) ≤ 3 * (costR d + 3) := Int.mul_le_mul_of_nonneg_right hkn (by omega)
      (repeat (first | refine gO rfl ?_ | ((refine gM zM31 fun K1 hK1 => ?_; simp only [go_sem, ↓reduceIte, reduceCtorEq, nA, nB, nC, nD, nE, nF] <;> and_intros <;> (apply hK1; clear hK1 K1)))))
      refine awp_cond (t := _) rfl (fun h5 => ?_) (fun h5 => ?_)
      rotate_left
      ·(repeat (first | refine gO rfl ?_ | ((refine gM zM31 fun K1 hK1 => ?_; simp only [go_sem, ↓reduceIte, reduceCtorEq, nA, nB, nC, nD, nE, nF] <;> and_intros <;> (apply hK1; clear hK1 K1)))))
       simp only [Tryz.results13, go_sem, ↓reduceIte, reduceCtorEq, nA, nB, nC, nD, nE, nF]
       have hkl2 : (kids.length : Int) = many := by simp only [decide_eq_false_iff_not] at h5; omega
       refine ⟨_, _, ?_, le_st hTT i l a2, .mk kd default 0 mn kids shares, a2, ?_, by omega, rfl, rfl⟩
       ·rw [encX_eq]
        refine Weak.agg (.cons (Weak.refl _) (.cons (Weak.refl _) (.cons (Weak.refl _) (.cons (Weak.refl _) (.cons ?_ (.cons ?_ .nil))))))
        ·cases kids with
         | nil => simp at hkl2; omega
         | cons x xs => exact Weak.row _ _ _
        ·rcases hS with ⟨_, k2, _, _, rfl, _, h6⟩ | ⟨_, rfl, rfl⟩
         ·cases shares with
          | nil => simp at h6; omega
          | cons x xs => exact Weak.row _ _ _
         ·exact Weak.refl _
       ·refine .inr ⟨hk5, rfl, rfl, fun h8 => ⟨(hm5.1 h8).1, by have := (hm5.1 h8).2; omega⟩, hm5.2, by omega, fun h8 => ?_, fun h8 => ?_, hsb, hkl⟩
        ·rcases hS with ⟨_, k2, _, _, _, _, h6⟩ | ⟨h9, _⟩
         ·exact h6
         ·exact absurd h8 h9
        ·rcases hS with ⟨h9, _⟩ | ⟨_, h9, _⟩
         ·exact absurd h9 h8
         ·exact h9
      ·simp only [decide_eq_true_eq] at h5
       have hcd2 : (kids.length : Int) * (costR d + 3) ≤ 2 * (costR d + 3) := Int.mul_le_mul_of_nonneg_right (by omega) (by omega)
       have hd1 : 1 ≤ deep := by simp only [decide_eq_false_iff_not] at h1; omega
       (repeat (first | refine gO rfl ?_ | ((first | refine gM zM31 ?_ | ((with_reducible refine xS ?_); refine uF 10 zM31 7 zP1CE zP1CP 76 rfl (by kernel_rfl) ?_)) <;> ((try with_reducible intro K1 hK1); simp only [go_sem, ↓reduceIte, reduceCtorEq, nA, nB, nC, nD, nE, nF] <;> and_intros <;> first | (apply hK1; clear hK1 K1) | (intros; (decide)) | skip))))
       refine (g_pick i l a2 [1, 1, 2] none ⟨h.H, T2⟩ hl (by omega) (by simp)).mono ?_; rintro _ _ ⟨dx, hdx, rfl, rfl⟩; apply hK1; clear hK1 K1
       have hdx2 : 1 ≤ dx ∧ dx ≤ 2 := by simp at hdx; omega
       (repeat (((first | refine gM zM31 ?_ | (with_reducible refine wM ?_ ?_)) <;> ((try with_reducible intro K1 hK1); simp only [go_sem, ↓reduceIte, reduceCtorEq, nA, nB, nC, nD, nE, nF] <;> and_intros <;> first | (apply hK1; clear hK1 K1) | (intros; first | omega | (simp_all <;> omega)) | skip))))
       refine (ih (deep - dx) (by omega) i l (a2 + 1) ⟨h.H, T2⟩ hl (by omega)).mono ?_; rintro _ _ ⟨t, a3, ht, ha3, rfl, rfl⟩; apply hK1; clear hK1 K1
       have hlen := encX_len t
       (repeat (first | refine gQ rfl ?_ | ((first | refine gM zM31 ?_ | (with_reducible refine wM ?_ ?_)) <;> ((try with_reducible intro K1 hK1); simp only [go_sem, ↓reduceIte, reduceCtorEq, nA, nB, nC, nD, nE, nF, hlen] <;> and_intros <;> (apply hK1; clear hK1 K1)))))
       refine awp_seq ?_
       refine awp_join (rl false [1, 2, 1, 1, 1, 1, 1, 1, 23, 2, 42]) 3 (fun s => ∃ t a4, RT (d + 1) t ∧ (a2 ≤ a4 ∧ a4 ≤ a2 + costR d + 2) ∧
        s = ⟨(AV.junk :: ((.v (.int .i64 deep)) :: (.ref [.ptr i 0] 0) :: AV.junk :: ((.loc 0 0) :: AV.junk :: ((.loc 1 0) :: AV.junk :: ((.loc 2 0) :: (jnk 23 ((.v (.int .i64 many)) :: (.v (.int .i64 kids.length)) :: (jnk 42 [])))))))),
         [[.v (.int .i64 0), .v (.string { data := #[] }), .v (.int .i64 0), .v (.int .i64 0), .v (.slice none 0 0), .v (.slice none 0 0)], [.v (.int .i64 kd), .v (.string { data := #[] }), .v (.int .i64 0), .v (.int .i64 mn), .row 6 (kids.map encX) (some k1), S], encX t], Hp.st ⟨h.H, T2⟩ i l a4⟩) ?_ ?_
       ·(repeat (first | refine gO rfl ?_ | ((refine gM zM31 fun K1 hK1 => ?_; simp only [go_sem, ↓reduceIte, reduceCtorEq, nA, nB, nC, nD, nE, nF] <;> and_intros <;> first | (apply hK1; clear hK1 K1) | skip))))
        rotate_left
        ·intro h6
         refine hK1 _ ?_; clear hK1 K1
         (repeat (first | refine gO rfl ?_ | ((refine gM zM31 fun K1 hK1 => ?_; simp only [go_sem, ↓reduceIte, reduceCtorEq, nA, nB, nC, nD, nE, nF, h6] <;> and_intros <;> (apply hK1; clear hK1 K1)))))
         refine awp_cond (t := _) rfl (fun h7 => by cases h7) (fun h7 => ?_)
         (repeat ((refine gO rfl ?_)))
         exact ⟨t, a3, ht, by omega, rfl⟩
        ·intro h6
         refine ⟨h6, ?_⟩
         refine (g_flip i l a3 3 ⟨h.H, T2⟩ hl (by omega) (by omega)).mono ?_
         rintro _ _ ⟨b2, rfl, rfl⟩
         refine ⟨rfl, hK1 _ ?_⟩; clear hK1 K1
         (repeat (first | refine gO rfl ?_ | ((refine gM zM31 fun K1 hK1 => ?_; simp only [go_sem, ↓reduceIte, reduceCtorEq, nA, nB, nC, nD, nE, nF, h6] <;> and_intros <;> (apply hK1; clear hK1 K1)))))
         refine awp_cond (t := _) rfl (fun h7 => ?_) (fun h7 => ?_)
         ·simp only [decide_eq_true_eq] at h6
          have hg : (kids.map encX).getD ((kids.length : Int) - 1).toNat [] = encX (kids.getD ((kids.length : Int) - 1).toNat default) := getD_encX (by omega)
          have hm : kids.getD ((kids.length : Int) - 1).toNat default ∈ kids := by
           rw [List.getD_eq_getElem?_getD, List.getElem?_eq_getElem (show ((kids.length : Int) - 1).toNat < kids.length by omega)]
           exact List.getElem_mem _
          generalize kids.getD ((kids.length : Int) - 1).toNat default = t2 at hg hm
          have hlen2 := encX_len t2
          have htk2 : List.take 6 (encX t2) = encX t2 := List.take_of_length_le (Nat.le_of_eq hlen2)
          have hdr : List.drop 6 (encX t) = [] := List.drop_of_length_le (Nat.le_of_eq hlen)
          (repeat (first | refine gO rfl ?_ | ((refine gM zM31 fun K1 hK1 => ?_; simp only [go_sem, ↓reduceIte, reduceCtorEq, nA, nB, nC, nD, nE, nF, hg, hlen, hlen2, htk2, hdr] <;> and_intros <;> first | (apply hK1; clear hK1 K1) | (intros; (omega))))))
          exact ⟨t2, a3 + 1, hkl _ hm, by omega, rfl⟩
         ·(repeat ((refine gO rfl ?_)))
          exact ⟨t, a3 + 1, ht, by omega, rfl⟩
       ·clear ht ha3 hlen t a3
        rintro _ ⟨t, a4, ht, ha4, rfl⟩
        have hlen := encX_len t
        have htk : List.take 6 (encX t) = encX t := List.take_of_length_le (Nat.le_of_eq hlen)
        (repeat (first | refine gO rfl ?_ | ((refine gM zM31 fun K1 hK1 => ?_; simp only [go_sem, ↓reduceIte, reduceCtorEq, nA, nB, nC, nD, nE, nF, hlen, htk, hT1, st_T] <;> and_intros <;> first | (apply hK1; clear hK1 K1) | (intros; first | omega | decide)))))
        rcases hS with ⟨h4, k2, hne, hk2, rfl, hT3, hsl⟩ | ⟨h4, rfl, rfl⟩
        ·refine awp_cond (t := _) rfl (fun _ => ?_) (fun h7 => absurd h4 (by simpa using h7))
         have hT4 : upd T2 k1 (some (.tail (kids.length + 1))) k2 = some (.tail shares.length) := by rw [upd_other _ _ hne]; exact hT3
         (repeat (((first | refine gM zM31 ?_ | ((with_reducible refine xR ?_); refine uE 16 zM31 zP1DE zP1DP 76 rfl (by kernel_rfl) ?_)) <;> ((try with_reducible intro K1 hK1); simp only [go_sem, ↓reduceIte, reduceCtorEq, nA, nB, nC, nD, nE, nF, hT4, st_T] <;> and_intros <;> first | (apply hK1; clear hK1 K1) | (intros; (decide)) | skip))))
         refine (g_pick i l a4 [1, 1, 2, 3, 4] none ⟨h.H, upd T2 k1 (some (.tail (kids.length + 1)))⟩ hl (by omega) (by simp)).mono ?_; rintro _ _ ⟨sx, hsx, rfl, rfl⟩; apply hK1; clear hK1 K1
         (repeat (first | refine gO rfl ?_ | ((first | refine gM zM31 ?_ | (with_reducible refine wM ?_ ?_)) <;> ((try with_reducible intro K1 hK1); simp only [go_sem, ↓reduceIte, reduceCtorEq, nA, nB, nC, nD, nE, nF, hT4, st_T, encI] <;> and_intros <;> first | (apply hK1; clear hK1 K1) | (intros; first | omega | decide | (simp_all <;> omega))))))
         refine ⟨n - 1, by omega, kids ++ [t], shares ++ [sx], _, upd (upd T2 k1 (some (.tail (kids.length + 1)))) k2 (some (.tail (shares.length + 1))), a4 + 1, by simp; omega, by rw [upd_other _ _ hne.symm, upd_same]; simp, .inl ⟨h4, k2, hne, hk2, by simp [encI]; rfl, by rw [upd_same]; simp, by simp; omega⟩, ?_, ?_, ?_, ?_, ?_⟩
         ·intro k hk
          have e1 : k ≠ k1 := fun e => hk (e ▸ hk1)
          by_cases e2 : k = k2
          ·subst e2; exact absurd hk2 hk
          ·rw [upd_other _ _ e2, upd_other _ _ e1]; exact hTT k hk
         ·intro x hx
          rcases List.mem_append.1 hx with hx | hx
          ·exact hkl x hx
          ·simp at hx; subst hx; exact ht
         ·intro x hx
          rcases List.mem_append.1 hx with hx | hx
          ·exact hsb x hx
          ·simp at hx hsx; subst hx; omega
         ·have e9 : ((kids ++ [t]).length : Int) * (costR d + 3) = kids.length * (costR d + 3) + (costR d + 3) := by simp [Int.add_mul]
          rw [e9]; omega
         ·simp; rfl
        ·refine awp_cond (t := _) rfl (fun h7 => absurd (by simpa using h7) h4) (fun _ => ?_)
         (repeat (first | refine gO rfl ?_ | ((refine gM zM31 fun K1 hK1 => ?_; simp only [go_sem, ↓reduceIte, reduceCtorEq, nA, nB, nC, nD, nE, nF] <;> and_intros <;> first | (apply hK1; clear hK1 K1) | (intros; (omega))))))
         refine ⟨n - 1, by omega, kids ++ [t], [], _, upd T2 k1 (some (.tail (kids.length + 1))), a4, by simp; omega, by rw [upd_same]; simp, .inr ⟨h4, rfl, rfl⟩, ?_, ?_, ?_, ?_, ?_⟩
         ·intro k hk
          have e1 : k ≠ k1 := fun e => hk (e ▸ hk1)
          rw [upd_other _ _ e1]; exact hTT k hk
         ·intro x hx
          rcases List.mem_append.1 hx with hx | hx
          ·exact hkl x hx
          ·simp at hx; subst hx; exact ht
         ·simp
         ·have e9 : ((kids ++ [t]).length : Int) * (costR d + 3) = kids.length * (costR d + 3) + (costR d + 3) := by simp [Int.add_mul]
          rw [e9]; omega
         ·simp; rfl
theorem bestTo_max (f : Nat → Int) : ∀ n j, j < n → f j ≤ f (bestTo f n)
 | 0, j, h => by omega
 | n + 1, j, h => by
  simp only [bestTo]
  by_cases e : j = n
  ·subst e
   split
   ·exact Int.le_refl _
   ·omega
  ·have := bestTo_max f n j (by omega)
   split
   ·omega
   ·exact this
theorem bestTo_cong {f g : Nat → Int} : ∀ n, (∀ j, j < n → f j = g j) → bestTo f n = bestTo g n
 | 0, _ => rfl
 | n + 1, h => by
  have ih := bestTo_cong (f := f) (g := g) n fun j hj => h j (by omega)
  simp only [bestTo, ih]
  cases n with
  | zero => simp [bestTo]
  | succ n =>
   have h1 := bestTo_lt g (n + 1) (by omega)
   rw [h (bestTo g (n + 1)) (by omega), h (n + 1) (by omega)]
def cntS (shares : List Int) : Nat → List Int
 | 0 => shares.map fun _ => 0
 | n + 1 => (cntS shares n).set (nextF shares n (cntS shares n)) ((cntS shares n).getD (nextF shares n (cntS shares n)) 0 + 1)
theorem cntS_len (shares : List Int) : ∀ n, (cntS shares n).length = shares.length
 | 0 => by simp [cntS]
 | n + 1 => by simp [cntS, cntS_len shares n]
theorem sum_set : ∀ (l : List Int) (x : Nat), x < l.length → (l.set x (l.getD x 0 + 1)).sum = l.sum + 1
 | [], x, h => by simp at h
 | y :: l, 0, _ => by simp; omega
 | y :: l, x + 1, h => by
  have := sum_set l x (by simpa using h)
  simp only [List.set_cons_succ, List.sum_cons, List.getD_cons_succ]; omega
theorem getD_setI (l : List Int) (x i : Nat) (v : Int) : (l.set x v).getD i 0 = if i = x ∧ x < l.length then v else l.getD i 0 := by
 rw [List.getD_eq_getElem?_getD, List.getD_eq_getElem?_getD, List.getElem?_set]
 by_cases e : x = i
 ·subst e
  by_cases h : x < l.length
  ·simp [h]
  ·simp [h]
 ·rw [if_neg e, if_neg (fun h => e h.1.symm)]
theorem sum_le (m S : Int) : ∀ (a b : List Int), a.length = b.length → (∀ i, i < a.length → b.getD i 0 * S ≤ a.getD i 0 * m) → b.sum * S ≤ a.sum * m
 | [], [], _, _ => by simp
 | x :: a, y :: b, hl, h => by
  have h0 := h 0 (by simp)
  have ih := sum_le m S a b (by simpa using hl) fun i hi => by simpa using h (i + 1) (by simpa using hi)
  simp only [List.getD_cons_zero] at h0
  simp only [List.sum_cons, Int.add_mul]; omega
theorem sum_ge (m S : Int) (a b : List Int) (hl : a.length = b.length) (h : ∀ i, i < a.length → a.getD i 0 * m ≤ b.getD i 0 * S) : a.sum * m ≤ b.sum * S :=
 sum_le S m b a hl.symm fun i hi => h i (by omega)
theorem sum_same (m S : Int) : ∀ (a b : List Int), a.length = b.length → (∀ i, i < a.length → b.getD i 0 * S ≤ a.getD i 0 * m) → b.sum * S = a.sum * m → ∀ i, i < a.length → b.getD i 0 * S = a.getD i 0 * m
 | [], _, _, _, _, i, hi => by simp at hi
 | x :: a, y :: b, hl, h, hs, i, hi => by
  have h0 := h 0 (by simp)
  have hr := fun i (hi : i < a.length) => by simpa using h (i + 1) (by simpa using hi)
  have ih := sum_le m S a b (by simpa using hl) hr
  simp only [List.getD_cons_zero] at h0
  simp only [List.sum_cons, Int.add_mul] at hs
  cases i with
  | zero => simp only [List.getD_cons_zero]; omega
  | succ i =>
   simp only [List.getD_cons_succ]
   exact sum_same m S a b (by simpa using hl) hr (by omega) i (by simpa using hi)
structure Fair (shares : List Int) (n : Nat) : Prop where
 tot : (cntS shares n).sum = n
 ahead : ∀ i, i < shares.length → (cntS shares n).getD i 0 * shares.sum - shares.getD i 0 * n < shares.sum
theorem sum_pos {l : List Int} (h : ∀ x ∈ l, 1 ≤ x) (hn : l ≠ []) : 1 ≤ l.sum := by
 cases l with
 | nil => exact absurd rfl hn
 | cons x l =>
  have h1 := h x (by simp)
  have : ∀ l : List Int, (∀ x ∈ l, 1 ≤ x) → 0 ≤ l.sum := fun l => by
   induction l with
   | nil => simp
   | cons x l ih =>
    intro h
    have := h x (by simp); have := ih fun y hy => h y (by simp [hy])
    simp only [List.sum_cons]; omega
  have := this l fun y hy => h y (by simp [hy])
  simp only [List.sum_cons]; omega
theorem zero_sum (l : List Int) : (l.map fun _ => (0 : Int)).sum = 0 := by
 induction l with
 | nil => rfl
 | cons x l ih => simp only [List.map_cons, List.sum_cons, ih]; rfl
theorem zero_getD (l : List Int) (i : Nat) : (l.map fun _ => (0 : Int)).getD i 0 = 0 := by
 rw [List.getD_eq_getElem?_getD, List.getElem?_map]
 cases l[i]? <;> rfl
theorem fair {shares : List Int} (h : ∀ x ∈ shares, 1 ≤ x) (hn : shares ≠ []) : ∀ n, Fair shares n
 | 0 => ⟨by simp only [cntS, zero_sum]; rfl, fun i hi => by
   have := sum_pos h hn
   simp only [cntS, zero_getD]; omega⟩
 | n + 1 => by
  obtain ⟨h1, h2⟩ := fair h hn n
  have hS := sum_pos h hn
  have hl := cntS_len shares n
  have h0 : 0 < shares.length := List.length_pos_iff.2 hn
  have hx : nextF shares n (cntS shares n) < shares.length := bestTo_lt _ _ h0
  have hm := fun j hj => bestTo_max (shareV shares n (cntS shares n)) shares.length j hj
  have hpos : 0 < shareV shares n (cntS shares n) (nextF shares n (cntS shares n)) := by
   rcases Int.lt_or_le 0 (shareV shares n (cntS shares n) (nextF shares n (cntS shares n))) with h3 | h3
   ·exact h3
   ·exfalso
    have := sum_ge ((n : Int) + 1) shares.sum shares (cntS shares n) hl.symm fun i hi => by
     have := hm i hi
     have h4 : shareV shares n (cntS shares n) i ≤ 0 := Int.le_trans this h3
     simp only [shareV] at h4; omega
    rw [h1, Int.mul_add] at this
    have e : shares.sum * (n : Int) = (n : Int) * shares.sum := Int.mul_comm _ _
    omega
  refine ⟨?_, fun i hi => ?_⟩
  ·simp only [cntS]
   rw [sum_set _ _ (by omega), h1]; omega
  ·simp only [cntS]
   rw [getD_setI]
   have h3 := h2 i hi
   have e1 : shares.getD i 0 * ((n + 1 : Nat) : Int) = shares.getD i 0 * n + shares.getD i 0 := by rw [Int.natCast_add, Int.mul_add]; simp
   have h4 := h _ (getD_mem' shares i 0 hi)
   rw [e1]
   split
   ·rename_i hc
    obtain ⟨hc, _⟩ := hc
    rw [← hc] at hpos ⊢
    simp only [shareV] at hpos
    rw [Int.mul_add, Int.mul_one] at hpos
    rw [Int.add_mul, Int.one_mul]
    omega
   ·omega
theorem fair_exact {shares : List Int} (h : ∀ x ∈ shares, 1 ≤ x) (hn : shares ≠ []) {n : Nat} (hd : ∀ i, i < shares.length → shares.sum ∣ shares.getD i 0 * n) : ∀ i, i < shares.length → (cntS shares n).getD i 0 * shares.sum = shares.getD i 0 * n := by
 obtain ⟨h1, h2⟩ := fair h hn n
 have hS := sum_pos h hn
 refine sum_same n shares.sum shares (cntS shares n) (cntS_len shares n).symm (fun i hi => ?_) ?_
 ·obtain ⟨q, hq⟩ := hd i hi
  have h3 := h2 i hi
  rw [hq] at h3 ⊢
  have e : (cntS shares n).getD i 0 * shares.sum - shares.sum * q = ((cntS shares n).getD i 0 - q) * shares.sum := by rw [Int.sub_mul, Int.mul_comm q]
  rw [e] at h3
  have : (cntS shares n).getD i 0 - q < 1 := by
   rcases Int.lt_or_le ((cntS shares n).getD i 0 - q) 1 with h5 | h5
   ·exact h5
   ·have := Int.mul_le_mul_of_nonneg_right h5 (show 0 ≤ shares.sum by omega)
    omega
  have h6 : (cntS shares n).getD i 0 ≤ q := by omega
  have := Int.mul_le_mul_of_nonneg_right h6 (show 0 ≤ shares.sum by omega)
  rw [Int.mul_comm shares.sum q]; exact this
 ·rw [h1, Int.mul_comm]
theorem every4 {shares : List Int} (h : ∀ x ∈ shares, 1 ≤ x) (hn : shares ≠ []) : ∃ (g E : Nat), 0 < g ∧ 0 < E ∧ shares.sum / (gcdI shares : Int) = E ∧ shares.sum = g * E ∧ ∀ i, i < shares.length → ∃ q : Int, shares.getD i 0 = g * q := by
 have hg := gcdI_pos h hn
 have hd : ∀ l : List Int, (∀ x ∈ l, (gcdI shares : Int) ∣ x) → (gcdI shares : Int) ∣ l.sum := fun l => by
  induction l with
  | nil => intro _; exact ⟨0, by simp⟩
  | cons x l ih =>
   intro hl
   rw [List.sum_cons]
   exact Int.dvd_add (hl x (by simp)) (ih fun y hy => hl y (by simp [hy]))
 obtain ⟨q, hq⟩ := hd shares fun x hx => gcdI_dvd h hx
 have hS := sum_pos h hn
 have hq0 : 0 < q := by
  rcases Int.lt_or_le 0 q with h1 | h1
  ·exact h1
  ·have := Int.mul_le_mul_of_nonneg_left h1 (show (0 : Int) ≤ gcdI shares by omega)
   omega
 refine ⟨gcdI shares, q.toNat, hg, by omega, ?_, by rw [hq]; congr 1; omega, fun i hi => ?_⟩
 ·rw [hq, Int.mul_ediv_cancel_left _ (by omega)]; omega
 ·obtain ⟨r, hr⟩ := gcdI_dvd h (getD_mem' shares i 0 hi)
  exact ⟨r, hr⟩
theorem cntS_round {shares : List Int} (h : ∀ x ∈ shares, 1 ≤ x) (hn : shares ≠ []) {g E : Nat} (hg : 0 < g) (hE : shares.sum = g * E) (hq : ∀ i, i < shares.length → ∃ q : Int, shares.getD i 0 = g * q) :
  ∀ n i, i < shares.length → (cntS shares (n + E)).getD i 0 * g = (cntS shares n).getD i 0 * g + shares.getD i 0
 | 0, i, hi => by
  have h1 := fair_exact h hn (n := E) (fun j hj => by
   obtain ⟨q, e⟩ := hq j hj
   exact ⟨q, by rw [e, hE, Int.mul_assoc, Int.mul_assoc, Int.mul_comm q]⟩) i hi
  have hS := sum_pos h hn
  have hE0 : (E : Int) ≠ 0 := by
   intro e; rw [e, Int.mul_zero] at hE; omega
  rw [hE, ← Int.mul_assoc] at h1
  have h2 := Int.eq_of_mul_eq_mul_right hE0 h1
  rw [Nat.zero_add, h2]
  simp only [cntS, zero_getD]
  omega
 | n + 1, i, hi => by
  have ih := cntS_round h hn hg hE hq n
  have hS := sum_pos h hn
  have e : nextF shares ((n + E : Nat) : Int) (cntS shares (n + E)) = nextF shares (n : Nat) (cntS shares n) := by
   refine bestTo_cong _ fun j hj => ?_
   have h1 := ih j hj
   obtain ⟨q, hq⟩ := hq j hj
   have hg0 : (g : Int) ≠ 0 := by omega
   have h2 : (cntS shares (n + E)).getD j 0 = (cntS shares n).getD j 0 + q := by
    apply Int.eq_of_mul_eq_mul_right hg0
    rw [h1, hq, Int.add_mul, Int.mul_comm (g : Int) q]
   simp only [shareV]
   rw [h2, hq, hE, Int.add_mul, Int.natCast_add]
   simp only [Int.mul_add, Int.mul_one]
   have e1 : (g : Int) * q * (E : Int) = q * ((g : Int) * E) := by rw [Int.mul_comm (g : Int) q, Int.mul_assoc]
   omega
  rw [show n + 1 + E = (n + E) + 1 by omega]
  have hl := cntS_len shares n
  have hl2 := cntS_len shares (n + E)
  have h0 : 0 < shares.length := by omega
  have hx : nextF shares n (cntS shares n) < shares.length := bestTo_lt _ _ h0
  simp only [cntS]
  rw [e, getD_setI, getD_setI]
  have h1 := ih i hi
  by_cases hc : i = nextF shares n (cntS shares n)
  ·rw [if_pos ⟨hc, by omega⟩, if_pos ⟨hc, by omega⟩, ← hc, Int.add_mul, Int.add_mul]; omega
  ·rw [if_neg (fun h => hc h.1), if_neg (fun h => hc h.1)]; exact h1
def Rch : Nat → LT → PS → Prop
 | 0, _, _ => True
 | d + 1, .mk kind _ _ _ kids shares, .mk p cs ks => 0 ≤ p ∧ (kind = 4 → cs = cntS shares p.toNat) ∧ ks.length = kids.length ∧ ∀ j, j < kids.length → Rch d (kids.getD j default) (ks.getD j default)
def Eqv : Nat → LT → PS → PS → Prop
 | 0, _, _, _ => True
 | d + 1, .mk kind _ _ _ kids shares, .mk p _ ks, .mk p' _ ks' => p % everyF kind kids.length shares = p' % everyF kind kids.length shares ∧ ∀ j, j < kids.length → Eqv d (kids.getD j default) (ks.getD j default) (ks'.getD j default)
theorem getD_setP (l : List PS) (x i : Nat) (v : PS) : (l.set x v).getD i default = if i = x ∧ x < l.length then v else l.getD i default := by
 rw [List.getD_eq_getElem?_getD, List.getD_eq_getElem?_getD, List.getElem?_set]
 by_cases e : x = i
 ·subst e
  by_cases h : x < l.length
  ·simp [h]
  ·simp [h]
 ·rw [if_neg e, if_neg (fun h => e h.1.symm)]
theorem rch0 : ∀ (d : Nat) (t : LT), VL d t → Rch d t (ps0 t)
 | 0, _, _ => trivial
 | d + 1, .mk kind item long many kids shares, h => by
  obtain ⟨_, _, _, _, v5, _, _, v8⟩ := h
  rw [ps0_eq]
  refine ⟨Int.le_refl _, fun h4 => ?_, by simp, fun j hj => ?_⟩
  ·have hl := v5 h4
   show _ = shares.map fun _ => 0
   rw [List.map_const', List.map_const', hl]
  ·have e : (kids.map ps0).getD j default = ps0 (kids.getD j default) := by
    rw [List.getD_eq_getElem?_getD, List.getD_eq_getElem?_getD, List.getElem?_map, List.getElem?_eq_getElem hj]; rfl
   rw [e]
   exact rch0 d _ (v8 _ (getD_mem' kids j default hj))
def KidsQ (d : Nat) (kids : List LT) (ks ks' : List PS) : Prop := (ks.length = kids.length ∧ ks'.length = kids.length) ∧ ∀ j, j < kids.length → (Rch d (kids.getD j default) (ks.getD j default) ∧ Rch d (kids.getD j default) (ks'.getD j default)) ∧ Eqv d (kids.getD j default) (ks.getD j default) (ks'.getD j default)
theorem fold_eqv {d : Nat} {kids : List LT} (hf : ∀ j, j < kids.length → ∀ s s', Rch d (kids.getD j default) s → Rch d (kids.getD j default) s' → Eqv d (kids.getD j default) s s' →
   (passU d (kids.getD j default) s).2 = (passU d (kids.getD j default) s').2 ∧ (Rch d (kids.getD j default) (passU d (kids.getD j default) s).1 ∧ Rch d (kids.getD j default) (passU d (kids.getD j default) s').1) ∧ Eqv d (kids.getD j default) (passU d (kids.getD j default) s).1 (passU d (kids.getD j default) s').1) :
  ∀ (L : List Nat) (cs cs' : List Int) (ks ks' : List PS) (out : List (ByteArray × Int)), (∀ i ∈ L, i < kids.length) → KidsQ d kids ks ks' →
   (L.foldl (stepU (passU d) kids) ((cs, ks), out)).2 = (L.foldl (stepU (passU d) kids) ((cs', ks'), out)).2 ∧ KidsQ d kids (L.foldl (stepU (passU d) kids) ((cs, ks), out)).1.2 (L.foldl (stepU (passU d) kids) ((cs', ks'), out)).1.2
 | [], _, _, _, _, _, _, h => ⟨rfl, h⟩
 | i :: L, cs, cs', ks, ks', out, hL, ⟨⟨hl1, hl2⟩, hq⟩ => by
  have hi := hL i (by simp)
  obtain ⟨⟨q1, q2⟩, q3⟩ := hq i hi
  obtain ⟨e, ⟨r1, r2⟩, r3⟩ := hf i hi _ _ q1 q2 q3
  simp only [List.foldl_cons, stepU]
  rw [e]
  refine fold_eqv hf L _ _ _ _ _ (fun j hj => hL j (by simp [hj])) ⟨⟨by simp [hl1], by simp [hl2]⟩, fun j hj => ?_⟩
  rw [getD_setP, getD_setP]
  by_cases hc : j = i
  ·subst hc
   rw [if_pos ⟨rfl, by omega⟩, if_pos ⟨rfl, by omega⟩]
   exact ⟨⟨r1, r2⟩, r3⟩
  ·rw [if_neg (fun h => hc h.1), if_neg (fun h => hc h.1)]
   exact hq j hj
theorem add_every {p p' e : Int} (h : p % e = p' % e) : (p + 1) % e = (p' + 1) % e := by
 rw [Int.add_emod, h, ← Int.add_emod]
theorem nextF_round {shares : List Int} (h : ∀ x ∈ shares, 1 ≤ x) (hn : shares ≠ []) {E : Nat} (hE : shares.sum / (gcdI shares : Int) = E) (n : Nat) : nextF shares ((n + E : Nat) : Int) (cntS shares (n + E)) = nextF shares (n : Nat) (cntS shares n) := by
 obtain ⟨g, E', hg, hE0, e1, e2, hq⟩ := every4 h hn
 have e3 : E' = E := by omega
 subst e3
 refine bestTo_cong _ fun j hj => ?_
 have h1 := cntS_round h hn hg e2 hq n j hj
 obtain ⟨q, hq⟩ := hq j hj
 have hg0 : (g : Int) ≠ 0 := by omega
 have h2 : (cntS shares (n + E')).getD j 0 = (cntS shares n).getD j 0 + q := by
  apply Int.eq_of_mul_eq_mul_right hg0
  rw [h1, hq, Int.add_mul, Int.mul_comm (g : Int) q]
 simp only [shareV]
 rw [h2, hq, e2, Int.add_mul, Int.natCast_add]
 simp only [Int.mul_add, Int.mul_one]
 have e5 : (g : Int) * q * (E' : Int) = q * ((g : Int) * E') := by rw [Int.mul_comm (g : Int) q, Int.mul_assoc]
 omega
theorem nextF_rounds {shares : List Int} (h : ∀ x ∈ shares, 1 ≤ x) (hn : shares ≠ []) {E : Nat} (hE : shares.sum / (gcdI shares : Int) = E) (n : Nat) : ∀ k : Nat, nextF shares ((n + k * E : Nat) : Int) (cntS shares (n + k * E)) = nextF shares (n : Nat) (cntS shares n)
 | 0 => by simp
 | k + 1 => by
  rw [show n + (k + 1) * E = (n + k * E) + E by rw [Nat.add_mul]; omega, nextF_round h hn hE (n + k * E), nextF_rounds h hn hE n k]
theorem nextF_mod {shares : List Int} (h : ∀ x ∈ shares, 1 ≤ x) (hn : shares ≠ []) {p p' : Int} (hp : 0 ≤ p) (hp' : 0 ≤ p') (he : p % (shares.sum / (gcdI shares : Int)) = p' % (shares.sum / (gcdI shares : Int))) :
  nextF shares p (cntS shares p.toNat) = nextF shares p' (cntS shares p'.toNat) := by
 obtain ⟨g, E, hg, hE0, e1, e2, hq⟩ := every4 h hn
 rw [e1] at he
 have key : ∀ p : Int, 0 ≤ p → nextF shares p (cntS shares p.toNat) = nextF shares ((p % E).toNat : Nat) (cntS shares (p % E).toNat) := fun p hp => by
  have h1 := nextF_rounds h hn e1 (p % E).toNat (p / E).toNat
  have m0 : 0 ≤ p % (E : Int) := Int.emod_nonneg _ (by omega)
  have d0 : 0 ≤ p / (E : Int) := Int.ediv_nonneg hp (by omega)
  have m1 := Int.mul_ediv_add_emod p E
  have e3 : (p % (E : Int)).toNat + (p / (E : Int)).toNat * E = p.toNat := by
   have : (((p % (E : Int)).toNat + (p / (E : Int)).toNat * E : Nat) : Int) = p := by
    rw [Int.natCast_add, Int.natCast_mul, Int.toNat_of_nonneg m0, Int.toNat_of_nonneg d0, Int.mul_comm]; omega
   omega
  rw [e3] at h1
  have e4 : ((p.toNat : Nat) : Int) = p := by omega
  rw [e4] at h1
  exact h1
 rw [key p hp, key p' hp', he]
theorem pass_eqv : ∀ (d : Nat) (t : LT) (s s' : PS), VL d t → Rch d t s → Rch d t s' → Eqv d t s s' → (passU d t s).2 = (passU d t s').2 ∧ (Rch d t (passU d t s).1 ∧ Rch d t (passU d t s').1) ∧ Eqv d t (passU d t s).1 (passU d t s').1
 | 0, _, _, _, h, _, _, _ => h.elim
 | d + 1, .mk kind item long many kids shares, .mk p cs ks, .mk p' cs' ks', hv, ⟨r1, r2, r3, r4⟩, ⟨q1, q2, q3, q4⟩, ⟨he, hk⟩ => by
  obtain ⟨v1, v2, v3, v4, v5, v6, v7, v8⟩ := id hv
  have hf := fun j (hj : j < kids.length) s s' a b c => pass_eqv d (kids.getD j default) s s' (v8 _ (getD_mem' kids j default hj)) a b c
  have hnx : kind = 4 → nextF shares p cs = nextF shares p' cs' := fun h4 => by
   have hl := v5 h4
   have hk0 := List.length_pos_iff.2 (v3 (by omega))
   rw [r2 h4, q2 h4]
   refine nextF_mod (fun x hx => (v6 x hx).1) (fun e => by rw [e] at hl; simp at hl; omega) r1 q1 ?_
   simpa only [everyF, if_neg (show ¬ kind = 3 by omega), if_pos h4] using he
  have hL : idxL kind p many kids.length (nextF shares p cs) = idxL kind p' many kids.length (nextF shares p' cs') := by
   unfold idxL
   by_cases h1 : kind = 1
   ·rw [if_pos h1, if_pos h1]
   by_cases h2 : kind = 2
   ·rw [if_neg h1, if_pos h2, if_neg h1, if_pos h2]
   by_cases h3 : kind = 3
   ·rw [if_neg h1, if_neg h2, if_pos h3, if_neg h1, if_neg h2, if_pos h3]
    simp only [everyF, if_pos h3] at he
    rw [Int.tmod_eq_emod_of_nonneg r1, Int.tmod_eq_emod_of_nonneg q1, he]
   by_cases h4 : kind = 4
   ·rw [if_neg h1, if_neg h2, if_neg h3, if_pos h4, if_neg h1, if_neg h2, if_neg h3, if_pos h4, hnx h4]
   ·rw [if_neg h1, if_neg h2, if_neg h3, if_neg h4, if_neg h1, if_neg h2, if_neg h3, if_neg h4]
  have hlt := idxL_lt (kind := kind) (p := p) (many := many) (nk := kids.length) (nx := nextF shares p cs) v1 (fun h => List.length_pos_iff.2 (v3 h)) (fun h4 => by
   have hl := v5 h4
   have hk0 := List.length_pos_iff.2 (v3 (by omega))
   rw [← hl]
   exact bestTo_lt _ _ (by omega)) r1
  have hfold := fold_eqv hf (idxL kind p many kids.length (nextF shares p cs)) cs cs' ks ks' (if kind = 1 then [(item, long)] else []) hlt ⟨⟨r3, q3⟩, fun j hj => ⟨⟨r4 j hj, q4 j hj⟩, hk j hj⟩⟩
  have hc4 : kind = 4 → ∀ (p : Int) (cs : List Int) (ks : List PS), 0 ≤ p → cs = cntS shares p.toNat → ((idxL kind p many kids.length (nextF shares p cs)).foldl (stepU (passU d) kids) ((cs, ks), if kind = 1 then [(item, long)] else [])).1.1 = cntS shares (p + 1).toNat := fun h4 p cs ks hp hcs => by
   have e : (p + 1).toNat = p.toNat + 1 := by omega
   have e2 : ((p.toNat : Nat) : Int) = p := by omega
   rw [e]
   subst h4
   simp only [idxL, cntS, e2]
   rw [hcs]
   rfl
  rw [passU_succ, passU_succ, ← hL]
  refine ⟨hfold.1, ⟨⟨by omega, fun h4 => hc4 h4 p cs ks r1 (r2 h4), hfold.2.1.1, fun j hj => (hfold.2.2 j hj).1.1⟩, by omega, fun h4 => by rw [hL]; exact hc4 h4 p' cs' ks' q1 (q2 h4), hfold.2.1.2, fun j hj => (hfold.2.2 j hj).1.2⟩, add_every he, fun j hj => (hfold.2.2 j hj).2⟩
theorem eqv_refl : ∀ (d : Nat) (t : LT) (s : PS), Eqv d t s s
 | 0, _, _ => trivial
 | d + 1, .mk .., .mk .. => ⟨rfl, fun _ _ => eqv_refl d _ _⟩
theorem passes_rch {d : Nat} {t : LT} (hv : VL d t) : ∀ n, Rch d t (passesU d t n).1
 | 0 => rch0 d t hv
 | n + 1 => (pass_eqv d t _ _ hv (passes_rch hv n) (passes_rch hv n) (eqv_refl d t _)).2.1.1
theorem home_eqv : ∀ (d : Nat) (t : LT) (s : PS), VL d t → Rch d t s → homeF d t s = true → Eqv d t s (ps0 t)
 | 0, _, _, _, _, _ => trivial
 | d + 1, .mk kind item long many kids shares, .mk p cs ks, hv, ⟨r1, r2, r3, r4⟩, hh => by
  obtain ⟨v1, v2, v3, v4, v5, v6, v7, v8⟩ := id hv
  simp only [homeF, Bool.and_eq_true, beq_iff_eq, List.all_eq_true, List.mem_range] at hh
  rw [ps0_eq]
  refine ⟨?_, fun j hj => ?_⟩
  ·rw [← Int.tmod_eq_emod_of_nonneg r1, hh.1]; simp
  ·have e : (kids.map ps0).getD j default = ps0 (kids.getD j default) := by
    rw [List.getD_eq_getElem?_getD, List.getD_eq_getElem?_getD, List.getElem?_map, List.getElem?_eq_getElem hj]; rfl
   rw [e]
   exact home_eqv d _ _ (v8 _ (getD_mem' kids j default hj)) (r4 j hj) (hh.2 j hj)
theorem passes_again {d : Nat} {t : LT} (hv : VL d t) {N : Nat} (hh : homeF d t (passesU d t N).1 = true) : ∀ m, (passesU d t (N + m)).2 = (passesU d t N).2 ++ (passesU d t m).2 ∧ Eqv d t (passesU d t (N + m)).1 (passesU d t m).1
 | 0 => ⟨by simp [passesU], home_eqv d t _ hv (passes_rch hv N) hh⟩
 | m + 1 => by
  obtain ⟨h1, h2⟩ := passes_again hv hh m
  obtain ⟨h3, _, h5⟩ := pass_eqv d t _ _ hv (passes_rch hv (N + m)) (passes_rch hv m) h2
  refine ⟨?_, h5⟩
  show (passesU d t (N + m)).2 ++ (passU d t (passesU d t (N + m)).1).2 = _
  rw [h1, h3, List.append_assoc]
  rfl
abbrev Pys := List (ByteArray × Int)
def den : Nat → LT → Nat → Pys
 | 0, _, _ => []
 | d + 1, .mk kind item long many kids shares, n =>
  if kind = 1 then [(item, long)]
  else if kind = 2 then kids.flatMap fun k => den d k n
  else if kind = 3 then den d (kids.getD (n % kids.length) default) (n / kids.length)
  else if kind = 4 then den d (kids.getD (nextF shares n (cntS shares n)) default) ((cntS shares n).getD (nextF shares n (cntS shares n)) 0).toNat
  else (List.range many.toNat).flatMap fun i => den d (kids.getD 0 default) (n * many.toNat + i)
def DP : Nat → LT → Prop
 | 0, _ => False
 | d + 1, .mk _ _ _ _ kids _ => ∀ k ∈ kids, DP d k
theorem flatMap_same {α β : Type} {l : List α} {f g : α → List β} (h : ∀ x ∈ l, f x = g x) : l.flatMap f = l.flatMap g := by
 induction l with
 | nil => rfl
 | cons x l ih => rw [List.flatMap_cons, List.flatMap_cons, h x (by simp), ih fun y hy => h y (by simp [hy])]
theorem DP.dflt (d : Nat) : DP (d + 1) default := by
 show DP (d + 1) (.mk 0 default 0 0 [] [])
 intro k hk; cases hk
theorem den_more : ∀ {d e : Nat} {t : LT}, DP d t → d ≤ e → ∀ n, den e t n = den d t n
 | 0, _, _, h, _, _ => h.elim
 | d + 1, 0, _, _, h, _ => by omega
 | d + 1, e + 1, .mk kind item long many kids shares, h, hd, n => by
  have ih := fun k (hk : k ∈ kids) n => den_more (h k hk) (show d ≤ e by omega) n
  simp only [den]
  by_cases h1 : kind = 1
  ·rw [if_pos h1, if_pos h1]
  by_cases h2 : kind = 2
  ·rw [if_neg h1, if_pos h2, if_neg h1, if_pos h2]
   exact flatMap_same fun k hk => ih k hk n
  by_cases hk : kids = []
  ·subst hk
   have e0 : ∀ d n, (∀ j, den d (([] : List LT).getD j default) n = []) := fun d n j => by
    have : ([] : List LT).getD j default = .mk 0 default 0 0 [] [] := by simp; rfl
    rw [this]
    cases d with
    | zero => rfl
    | succ d => simp [den]
   simp only [e0, if_neg h1, if_neg h2]
  have h0 := List.length_pos_iff.2 hk
  by_cases h3 : kind = 3
  ·rw [if_neg h1, if_neg h2, if_pos h3, if_neg h1, if_neg h2, if_pos h3]
   exact ih _ (getD_mem' kids _ default (Nat.mod_lt _ h0)) _
  by_cases h4 : kind = 4
  ·rw [if_neg h1, if_neg h2, if_neg h3, if_pos h4, if_neg h1, if_neg h2, if_neg h3, if_pos h4]
   by_cases hx : nextF shares n (cntS shares n) < kids.length
   ·exact ih _ (getD_mem' kids _ default hx) _
   ·have e1 : kids.getD (nextF shares n (cntS shares n)) default = .mk 0 default 0 0 [] [] := by
     rw [List.getD_eq_getElem?_getD, List.getElem?_eq_none (by omega)]; rfl
    rw [e1]
    have e0 : ∀ d n, den d (.mk 0 default 0 0 [] []) n = [] := fun d n => by
     cases d with
     | zero => rfl
     | succ d => simp [den]
    rw [e0, e0]
  ·rw [if_neg h1, if_neg h2, if_neg h3, if_neg h4, if_neg h1, if_neg h2, if_neg h3, if_neg h4]
   exact flatMap_same fun i _ => ih _ (getD_mem' kids 0 default h0) _
theorem dp_size : ∀ (t : LT), DP (SizeOf.sizeOf t) t
 | .mk kind item long many kids shares => by
  have e : SizeOf.sizeOf (LT.mk kind item long many kids shares) = (SizeOf.sizeOf (LT.mk kind item long many kids shares) - 1) + 1 := by simp only [LT.mk.sizeOf_spec]; omega
  rw [e]
  intro k hk
  have h1 := dp_size k
  have h2 := List.sizeOf_lt_of_mem hk
  have h3 : SizeOf.sizeOf k ≤ SizeOf.sizeOf (LT.mk kind item long many kids shares) - 1 := by simp; omega
  exact dp_mono h1 h3
 termination_by t => SizeOf.sizeOf t
where
 dp_mono : ∀ {d e : Nat} {t : LT}, DP d t → d ≤ e → DP e t
  | 0, _, _, h, _ => h.elim
  | _ + 1, 0, _, _, h => by omega
  | _ + 1, _ + 1, .mk .., h, hd => fun k hk => dp_mono (h k hk) (by omega)
noncomputable def denT (t : LT) (n : Nat) : Pys := den (SizeOf.sizeOf t) t n
theorem den_any {d : Nat} {t : LT} (h : DP d t) (n : Nat) : den d t n = denT t n := by
 unfold denT
 rcases Nat.le_total d (SizeOf.sizeOf t) with h1 | h1
 ·exact (den_more h h1 n).symm
 ·exact den_more (dp_size t) h1 n
theorem denT_eq (kind : Int) (item : ByteArray) (long many : Int) (kids : List LT) (shares : List Int) (n : Nat) : denT (.mk kind item long many kids shares) n =
  if kind = 1 then [(item, long)]
  else if kind = 2 then kids.flatMap fun k => denT k n
  else if kind = 3 then denT (kids.getD (n % kids.length) default) (n / kids.length)
  else if kind = 4 then denT (kids.getD (nextF shares n (cntS shares n)) default) ((cntS shares n).getD (nextF shares n (cntS shares n)) 0).toNat
  else (List.range many.toNat).flatMap fun i => denT (kids.getD 0 default) (n * many.toNat + i) := by
 have e : SizeOf.sizeOf (LT.mk kind item long many kids shares) = (SizeOf.sizeOf (LT.mk kind item long many kids shares) - 1) + 1 := by simp only [LT.mk.sizeOf_spec]; omega
 have hp := dp_size (.mk kind item long many kids shares)
 unfold denT
 rw [e] at hp ⊢
 generalize SizeOf.sizeOf (LT.mk kind item long many kids shares) - 1 = d at hp
 have ih : ∀ k ∈ kids, ∀ n, den d k n = denT k n := fun k hk n => den_any (hp k hk) n
 have id_ : ∀ j n, den d (kids.getD j default) n = denT (kids.getD j default) n := fun j n => by
  by_cases hj : j < kids.length
  ·exact ih _ (getD_mem' kids j default hj) n
  ·have e1 : kids.getD j default = .mk 0 default 0 0 [] [] := by rw [List.getD_eq_getElem?_getD, List.getElem?_eq_none (by omega)]; rfl
   have e0 : ∀ d n, den d (.mk 0 default 0 0 [] []) n = [] := fun d n => by
    cases d with
    | zero => rfl
    | succ d => simp [den]
   rw [e1, denT, e0, e0]
 simp only [den]
 have e2 : (kids.flatMap fun k => den d k n) = kids.flatMap fun k => denT k n := flatMap_same fun k hk => ih k hk n
 simp only [id_, e2]
 rfl
def bump (c : Nat → Nat) (x : Nat) : Nat → Nat := fun i => if i = x then c i + 1 else c i
def outL (D : Nat → Nat → Pys) : List Nat → (Nat → Nat) → Pys
 | [], _ => []
 | x :: L, c => D x (c x) ++ outL D L (bump c x)
theorem bumpL_at : ∀ (L : List Nat) (c : Nat → Nat) (j : Nat), (L.foldl bump c) j = c j + L.count j
 | [], c, j => by simp
 | x :: L, c, j => by
  rw [List.foldl_cons, bumpL_at L, bump, List.count_cons]
  by_cases e : j = x
  ·subst e; simp; omega
  ·rw [if_neg e, if_neg (by simpa using fun h => e h.symm)]; omega
theorem outL_congr (D : Nat → Nat → Pys) : ∀ (L : List Nat) (c c' : Nat → Nat), (∀ x ∈ L, c x = c' x) → outL D L c = outL D L c'
 | [], _, _, _ => rfl
 | x :: L, c, c', h => by
  simp only [outL]
  rw [h x (by simp), outL_congr D L (bump c x) (bump c' x) fun y hy => by
   unfold bump
   rw [h y (by simp [hy])]]
theorem outL_nodup (D : Nat → Nat → Pys) : ∀ (L : List Nat) (c : Nat → Nat), L.Nodup → outL D L c = L.flatMap fun x => D x (c x)
 | [], _, _ => rfl
 | x :: L, c, h => by
  obtain ⟨h1, h2⟩ := List.nodup_cons.1 h
  simp only [outL, List.flatMap_cons]
  rw [outL_congr D L (bump c x) c fun y hy => by
   unfold bump
   rw [if_neg (fun e => h1 (by rw [← e]; exact hy))], outL_nodup D L c h2]
theorem outL_rep (D : Nat → Nat → Pys) : ∀ (m : Nat) (c : Nat → Nat), outL D (List.replicate m 0) c = (List.range m).flatMap fun i => D 0 (c 0 + i)
 | 0, _ => rfl
 | m + 1, c => by
  rw [List.replicate_succ, outL, outL_rep D m, List.range_succ_eq_map, List.flatMap_cons, List.flatMap_map]
  simp only [bump, if_true, Nat.add_zero]
  congr 1
  refine flatMap_same fun i _ => ?_
  rw [show c 0 + 1 + i = c 0 + (i + 1) by omega]
def KS (d : Nat) (kids : List LT) (ks : List PS) (c : Nat → Nat) : Prop := ks.length = kids.length ∧ ∀ j, j < kids.length → ks.getD j default = (passesU d (kids.getD j default) (c j)).1
theorem fold_den {d : Nat} {kids : List LT} (hf : ∀ j, j < kids.length → ∀ m, (passU d (kids.getD j default) (passesU d (kids.getD j default) m).1).2 = denT (kids.getD j default) m) :
  ∀ (L : List Nat) (cs : List Int) (ks : List PS) (out : Pys) (c : Nat → Nat), (∀ i ∈ L, i < kids.length) → KS d kids ks c →
   (L.foldl (stepU (passU d) kids) ((cs, ks), out)).2 = out ++ outL (fun j m => denT (kids.getD j default) m) L c ∧ KS d kids (L.foldl (stepU (passU d) kids) ((cs, ks), out)).1.2 (L.foldl bump c)
 | [], _, _, out, _, _, h => ⟨by simp [outL], h⟩
 | i :: L, cs, ks, out, c, hL, ⟨hl, hq⟩ => by
  have hi := hL i (by simp)
  have e := hf i hi (c i)
  have q := hq i hi
  simp only [List.foldl_cons, stepU, outL]
  rw [q, e, ← List.append_assoc]
  refine fold_den hf L _ _ _ _ (fun j hj => hL j (by simp [hj])) ⟨by simp [hl], fun j hj => ?_⟩
  rw [getD_setP]
  by_cases hc : j = i
  ·subst hc
   rw [if_pos ⟨rfl, by omega⟩, bump, if_pos rfl]
   rfl
  ·rw [if_neg (fun h => hc h.1), bump, if_neg hc]
   exact hq j hj
def cN (kind many : Int) (nk : Nat) (shares : List Int) : Nat → Nat → Nat
 | 0 => fun _ => 0
 | n + 1 => (idxL kind n many nk (nextF shares n (cntS shares n))).foldl bump (cN kind many nk shares n)
theorem tmod_nat (n k : Nat) : ((n : Int).tmod k).toNat = n % k := by
 rw [Int.tmod_eq_emod_of_nonneg (by omega), ← Int.natCast_emod, Int.toNat_natCast]
theorem cN3 (many : Int) {nk : Nat} (h0 : 0 < nk) (shares : List Int) : ∀ n j, j < nk → cN 3 many nk shares n j = n / nk + (if j < n % nk then 1 else 0)
 | 0, j, hj => by simp [cN]
 | n + 1, j, hj => by
  have ih := cN3 many h0 shares n j hj
  have hm := Nat.mod_lt n h0
  have hd := Nat.div_add_mod n nk
  simp only [cN, idxL, show ¬ (3 : Int) = 1 by omega, show ¬ (3 : Int) = 2 by omega, if_false, if_true]
  rw [bumpL_at, ih, tmod_nat]
  by_cases hr : n % nk + 1 < nk
  ·have e1 : (n + 1) % nk = n % nk + 1 ∧ (n + 1) / nk = n / nk := by
    have h1 : n + 1 = nk * (n / nk) + (n % nk + 1) := by omega
    constructor
    ·conv => lhs; rw [h1]
     rw [Nat.mul_add_mod, Nat.mod_eq_of_lt hr]
    ·conv => lhs; rw [h1]
     rw [Nat.mul_add_div h0, Nat.div_eq_of_lt hr]; omega
   rw [e1.1, e1.2]
   by_cases e : j = n % nk
   ·rw [← e]; simp
   ·have e2 : List.count j [n % nk] = 0 := by simp [List.count_cons]; omega
    rw [e2]
    by_cases hj2 : j < n % nk
    ·rw [if_pos hj2, if_pos (by omega)]
    ·rw [if_neg hj2, if_neg (by omega)]
  ·have hr2 : n % nk + 1 = nk := by omega
   have e1 : (n + 1) % nk = 0 ∧ (n + 1) / nk = n / nk + 1 := by
    have h1 : n + 1 = nk * (n / nk + 1) := by rw [Nat.mul_add]; omega
    constructor
    ·rw [h1]; exact Nat.mul_mod_right _ _
    ·rw [h1]; exact Nat.mul_div_cancel_left _ h0
   rw [e1.1, e1.2]
   by_cases e : j = n % nk
   ·rw [← e]; simp
   ·have e2 : List.count j [n % nk] = 0 := by simp [List.count_cons]; omega
    rw [e2, if_pos (by omega)]; simp
theorem cN4 (many : Int) {nk : Nat} {shares : List Int} (hl : shares.length = nk) (h0 : 0 < nk) : ∀ n j, j < nk → ((cN 4 many nk shares n j : Nat) : Int) = (cntS shares n).getD j 0
 | 0, j, hj => by simp only [cN, cntS, zero_getD]; rfl
 | n + 1, j, hj => by
  have ih := cN4 many hl h0 n j hj
  have hx : nextF shares n (cntS shares n) < shares.length := bestTo_lt _ _ (by omega)
  have hcl := cntS_len shares n
  simp only [cN, idxL, show ¬ (4 : Int) = 1 by omega, show ¬ (4 : Int) = 2 by omega, show ¬ (4 : Int) = 3 by omega, if_false, if_true, cntS]
  rw [bumpL_at, getD_setI]
  by_cases e : j = nextF shares n (cntS shares n)
  ·rw [if_pos ⟨e, by omega⟩, ← e, List.count_singleton_self, Int.natCast_add, ih]; rfl
  ·have e2 : List.count j [nextF shares n (cntS shares n)] = 0 := by simp [List.count_cons]; omega
   rw [if_neg (fun h => e h.1), e2]; omega
theorem cN2 (many : Int) (nk : Nat) (shares : List Int) : ∀ n j, j < nk → cN 2 many nk shares n j = n
 | 0, j, _ => rfl
 | n + 1, j, hj => by
  simp only [cN, idxL, show ¬ (2 : Int) = 1 by omega, if_false, if_true]
  rw [bumpL_at, cN2 many nk shares n j hj, List.Nodup.count List.nodup_range, if_pos (List.mem_range.2 hj)]
theorem cN5 (many : Int) (nk : Nat) (shares : List Int) : ∀ n, cN 5 many nk shares n 0 = n * many.toNat
 | 0 => by simp [cN]
 | n + 1 => by
  simp only [cN, idxL, show ¬ (5 : Int) = 1 by omega, show ¬ (5 : Int) = 2 by omega, show ¬ (5 : Int) = 3 by omega, show ¬ (5 : Int) = 4 by omega, if_false]
  rw [bumpL_at, cN5 many nk shares n, List.count_replicate_self, Nat.add_mul]; omega
theorem range_getD {β : Type} (l : List LT) (f : LT → List β) : ((List.range l.length).flatMap fun j => f (l.getD j default)) = l.flatMap f := by
 have e : (List.range l.length).map (fun j => l.getD j default) = l := by
  apply List.ext_getElem (by simp)
  intro i a b
  simp at a
  simp [a]
 conv => rhs; rw [← e]
 rw [List.flatMap_map]
theorem pass_den : ∀ (d : Nat) (t : LT), VL d t → ∀ n, (passU d t (passesU d t n).1).2 = denT t n
 | 0, _, h, _ => h.elim
 | d + 1, .mk kind item long many kids shares, hv, n => by
  obtain ⟨v1, v2, v3, v4, v5, v6, v7, v8⟩ := id hv
  have hf := fun j (hj : j < kids.length) m => pass_den d (kids.getD j default) (v8 _ (getD_mem' kids j default hj)) m
  have hlt := fun (n : Nat) => idxL_lt (kind := kind) (p := (n : Int)) (many := many) (nk := kids.length) (nx := nextF shares n (cntS shares n)) v1 (fun h => List.length_pos_iff.2 (v3 h)) (fun h4 => by
   have hl := v5 h4
   have hk0 := List.length_pos_iff.2 (v3 (by omega))
   rw [← hl]
   exact bestTo_lt _ _ (by omega)) (by omega)
  have st : ∀ n : Nat, ∃ cs ks, (passesU (d + 1) (.mk kind item long many kids shares) n).1 = .mk n cs ks ∧ KS d kids ks (cN kind many kids.length shares n) := fun n => by
   induction n with
   | zero =>
    refine ⟨kids.map fun _ => 0, kids.map ps0, by simp only [passesU]; rw [ps0_eq]; rfl, by simp, fun j hj => ?_⟩
    rw [List.getD_eq_getElem?_getD, List.getD_eq_getElem?_getD, List.getElem?_map, List.getElem?_eq_getElem hj]; rfl
   | succ n ih =>
    obtain ⟨cs, ks, e, hk⟩ := ih
    have hr := passes_rch hv n
    rw [e] at hr
    have hnx : kind = 4 → nextF shares n cs = nextF shares n (cntS shares n) := fun h4 => by
     rw [hr.2.1 h4]; rfl
    have hL : idxL kind n many kids.length (nextF shares n cs) = idxL kind n many kids.length (nextF shares n (cntS shares n)) := by
     by_cases h4 : kind = 4
     ·rw [hnx h4]
     ·simp only [idxL, if_neg h4]
    have := fold_den hf (idxL kind n many kids.length (nextF shares n (cntS shares n))) cs ks (if kind = 1 then [(item, long)] else []) _ (hlt n) hk
    refine ⟨((idxL kind n many kids.length (nextF shares n (cntS shares n))).foldl (stepU (passU d) kids) ((cs, ks), if kind = 1 then [(item, long)] else [])).1.1, _, ?_, this.2⟩
    simp only [passesU]
    rw [e, passU_succ, hL]
    rfl
  obtain ⟨cs, ks, e, hk⟩ := st n
  have hr := passes_rch hv n
  rw [e] at hr
  have hnx : kind = 4 → nextF shares n cs = nextF shares n (cntS shares n) := fun h4 => by
   rw [hr.2.1 h4]; rfl
  have hL : idxL kind n many kids.length (nextF shares n cs) = idxL kind n many kids.length (nextF shares n (cntS shares n)) := by
   by_cases h4 : kind = 4
   ·rw [hnx h4]
   ·simp only [idxL, if_neg h4]
  have hfd := (fold_den hf (idxL kind n many kids.length (nextF shares n (cntS shares n))) cs ks (if kind = 1 then [(item, long)] else []) _ (hlt n) hk).1
  rw [e, passU_succ, hL]
  simp only
  rw [hfd, denT_eq]
  by_cases h1 : kind = 1
  ·subst h1
   simp [idxL, outL]
  rw [if_neg h1, if_neg h1, List.nil_append]
  have hk0 := List.length_pos_iff.2 (v3 h1)
  by_cases h2 : kind = 2
  ·subst h2
   rw [if_pos rfl]
   simp only [idxL, show ¬ (2 : Int) = 1 by omega, if_false, if_true]
   rw [outL_nodup _ _ _ List.nodup_range, ← range_getD kids fun k => denT k n]
   refine flatMap_same fun j hj => ?_
   rw [cN2 many kids.length shares n j (List.mem_range.1 hj)]
  rw [if_neg h2]
  by_cases h3 : kind = 3
  ·subst h3
   rw [if_pos rfl]
   simp only [idxL, show ¬ (3 : Int) = 1 by omega, show ¬ (3 : Int) = 2 by omega, if_false, if_true, outL, List.append_nil]
   rw [tmod_nat, cN3 many hk0 shares n _ (Nat.mod_lt _ hk0)]
   simp
  rw [if_neg h3]
  by_cases h4 : kind = 4
  ·subst h4
   rw [if_pos rfl]
   simp only [idxL, show ¬ (4 : Int) = 1 by omega, show ¬ (4 : Int) = 2 by omega, show ¬ (4 : Int) = 3 by omega, if_false, if_true, outL, List.append_nil]
   have hx : nextF shares n (cntS shares n) < kids.length := by rw [← v5 rfl]; exact bestTo_lt _ _ (by have := v5 rfl; omega)
   rw [← cN4 many (v5 rfl) hk0 n _ hx, Int.toNat_natCast]
  ·rw [if_neg h4]
   have h5 : kind = 5 := by omega
   subst h5
   simp only [idxL, show ¬ (5 : Int) = 1 by omega, show ¬ (5 : Int) = 2 by omega, show ¬ (5 : Int) = 3 by omega, show ¬ (5 : Int) = 4 by omega, if_false]
   rw [outL_rep, cN5]
theorem passes_den {d : Nat} {t : LT} (hv : VL d t) : ∀ n, (passesU d t n).2 = (List.range n).flatMap (denT t)
 | 0 => rfl
 | n + 1 => by
  show (passesU d t n).2 ++ (passU d t (passesU d t n).1).2 = _
  rw [passes_den hv n, pass_den d t hv n, List.range_succ, List.flatMap_append]
  simp
theorem bestTo_scale {f g : Nat → Int} {c : Int} (hc : 0 < c) (h : ∀ j, g j = c * f j) : ∀ n, bestTo g n = bestTo f n
 | 0 => rfl
 | n + 1 => by
  simp only [bestTo, bestTo_scale hc h n]
  have e : (g n > g (bestTo f n)) ↔ (f n > f (bestTo f n)) := by
   rw [h, h]
   exact ⟨fun h1 => Int.lt_of_mul_lt_mul_left h1 (by omega), fun h1 => Int.mul_lt_mul_of_pos_left h1 hc⟩
  by_cases h1 : f n > f (bestTo f n)
  ·rw [if_pos h1, if_pos (e.2 h1)]
  ·rw [if_neg h1, if_neg (fun h2 => h1 (e.1 h2))]
theorem sum_div {g : Int} (hg : 0 < g) : ∀ (l : List Int), (∀ x ∈ l, g ∣ x) → l.sum = g * (l.map fun x => x / g).sum
 | [], _ => by simp
 | x :: l, h => by
  rw [List.map_cons, List.sum_cons, List.sum_cons, sum_div hg l fun y hy => h y (by simp [hy]), Int.mul_add, Int.mul_ediv_cancel' (h x (by simp))]
theorem divI_getD {g : Nat} (l : List Int) (h : ∀ x ∈ l, (g : Int) ∣ x) (j : Nat) : l.getD j 0 = g * (divI g l).getD j 0 := by
 rw [List.getD_eq_getElem?_getD, List.getD_eq_getElem?_getD, divI, List.getElem?_map]
 by_cases hj : j < l.length
 ·rw [List.getElem?_eq_getElem hj]
  show l[j] = g * (l[j] / (g : Int))
  rw [Int.mul_ediv_cancel' (h _ (List.getElem_mem hj))]
 ·rw [List.getElem?_eq_none (by omega)]; simp
theorem next_div {g : Nat} (hg : 0 < g) (l : List Int) (h : ∀ x ∈ l, (g : Int) ∣ x) (p : Int) (cs : List Int) : nextF l p cs = nextF (divI g l) p cs := by
 have e : (divI g l).length = l.length := by simp [divI]
 unfold nextF
 rw [e]
 refine bestTo_scale (c := g) (by omega) (fun j => ?_) _
 simp only [shareV]
 rw [divI_getD l h j, sum_div (by omega) l h]
 show _ = (g : Int) * ((divI g l).getD j 0 * (p + 1) - cs.getD j 0 * (divI g l).sum)
 rw [Int.mul_sub]
 show (g : Int) * (divI g l).getD j 0 * (p + 1) - cs.getD j 0 * (g * (divI g l).sum) = _
 ac_rfl
theorem cnt_div {g : Nat} (hg : 0 < g) (l : List Int) (h : ∀ x ∈ l, (g : Int) ∣ x) : ∀ n, cntS l n = cntS (divI g l) n
 | 0 => by simp [cntS, divI]
 | n + 1 => by simp only [cntS]; rw [cnt_div hg l h n, next_div hg l h]
theorem range_mul {β : Type} (f : Nat → List β) (b : Nat) : ∀ a, (List.range (a * b)).flatMap f = (List.range a).flatMap fun i => (List.range b).flatMap fun j => f (i * b + j)
 | 0 => by simp
 | a + 1 => by
  rw [Nat.add_mul, Nat.one_mul, List.range_add, List.flatMap_append, range_mul f b a, List.range_succ, List.flatMap_append, List.flatMap_map]
  simp
theorem den_item {t : LT} (h : t.kd = 1) (n : Nat) : denT t n = denT t 0 := by
 cases t with
 | mk k i l m ks s =>
  obtain rfl : k = 1 := h
  rw [denT_eq, denT_eq, if_pos rfl, if_pos rfl]
theorem den_rep {ks : List LT} {k : LT} {i : ByteArray} {l m : Int} {s : List Int} (h : ks.getD 0 default = k) (n : Nat) : denT (.mk 5 i l m ks s) n = (List.range m.toNat).flatMap fun j => denT k (n * m.toNat + j) := by
 rw [denT_eq, if_neg (by decide), if_neg (by decide), if_neg (by decide), if_neg (by decide), h]
theorem den_row {ks : List LT} {i : ByteArray} {l m : Int} {s : List Int} (n : Nat) : denT (.mk 2 i l m ks s) n = ks.flatMap fun k => denT k n := by
 rw [denT_eq, if_neg (by decide), if_pos rfl]
def timesL (x : Pys) : Nat → Pys
 | 0 => []
 | n + 1 => x ++ timesL x n
theorem timesL_add (x : Pys) : ∀ a b, timesL x (a + b) = timesL x a ++ timesL x b
 | 0, b => by simp [timesL]
 | a + 1, b => by rw [show a + 1 + b = (a + b) + 1 by omega, timesL, timesL_add x a b, timesL, List.append_assoc]
theorem timesL_range (x : Pys) : ∀ m, ((List.range m).flatMap fun _ => x) = timesL x m
 | 0 => rfl
 | m + 1 => by
  rw [List.range_succ_eq_map, List.flatMap_cons, List.flatMap_map, timesL]
  rw [timesL_range x m]
theorem cnt_den {t it : LT} {m : Int} (hw : WF t) (h : cnt t = some (it, m)) (n : Nat) : denT t n = timesL (denT it 0) m.toNat := by
 cases t with
 | mk k i l mm ks s =>
  rw [cnt_mk] at h
  split at h
  ·rename_i h1
   simp only [Option.some.injEq, Prod.mk.injEq] at h
   obtain ⟨rfl, rfl⟩ := h
   rw [den_item (t := .mk k i l mm ks s) h1]
   show _ = denT _ 0 ++ timesL _ 0
   simp [timesL]
  ·split at h
   ·rename_i h1 h2
    obtain ⟨h5, h2⟩ := h2
    subst h5
    simp only [Option.some.injEq, Prod.mk.injEq] at h
    obtain ⟨rfl, rfl⟩ := h
    rw [den_rep rfl, ← timesL_range]
    exact flatMap_same fun j _ => den_item h2 _
   ·cases h
theorem den_repK (m : Int) (it : LT) (hk : it.kd = 1) (n : Nat) : denT (repK m [it]) n = timesL (denT it 0) m.toNat := by
 rw [repK, den_rep (k := it) rfl, ← timesL_range]
 exact flatMap_same fun j _ => den_item hk _
theorem many_den {it : LT} (hk : it.kd = 1) (n : Nat) (m : Nat) : (manyT it m).flatMap (fun k => denT k n) = timesL (denT it 0) m := by
 have h1 : ∀ q, (List.replicate q (repK 100 [it])).flatMap (fun k => denT k n) = timesL (denT it 0) (100 * q) := fun q => by
  induction q with
  | zero => rfl
  | succ q ih =>
   rw [List.replicate_succ, List.flatMap_cons, ih, den_repK 100 it hk, show 100 * (q + 1) = 100 + 100 * q by omega, timesL_add]
   rfl
 unfold manyT
 rw [List.flatMap_append, h1]
 have e : m = 100 * (m / 100) + m % 100 := by omega
 conv => rhs; rw [e, timesL_add]
 congr 1
 split
 ·rename_i h; rw [h]; rfl
 ·split
  ·rename_i h
   rw [h]
   simp [den_item hk n, timesL]
  ·simp only [List.flatMap_cons, List.flatMap_nil, List.append_nil]
   rw [den_repK _ it hk, Int.toNat_natCast]
theorem run_den (it : LT) (n : Nat) : ∀ l : List LT, (∀ x ∈ l, WF x) → (l.take (runN it l).2).flatMap (fun k => denT k n) = timesL (denT it 0) (runN it l).1.toNat
 | [], _ => by simp [runN, timesL]
 | x :: xs, h => by
  have hb := runN_bd it xs fun y hy => h y (by simp [hy])
  have ih := run_den it n xs fun y hy => h y (by simp [hy])
  rw [runN]
  cases hc : cnt x with
  | none => simp [timesL]
  | some p =>
   obtain ⟨y, m⟩ := p
   have hok := cnt_ok (h x (by simp)) hc
   simp only
   split
   ·rename_i e
    subst e
    simp only [List.take_succ_cons, List.flatMap_cons, ih]
    rw [cnt_den (h x (by simp)) hc n, show (m + (runN y xs).1).toNat = m.toNat + (runN y xs).1.toNat by omega, timesL_add]
   ·simp [timesL]
theorem gath_den (n : Nat) : ∀ (f : Nat) (l : List LT), l.length ≤ f → (∀ x ∈ l, WF x) → (gath l).flatMap (fun k => denT k n) = l.flatMap fun k => denT k n
 | _, [], _, _ => rfl
 | 0, _ :: _, hl, _ => by simp at hl
 | f + 1, x :: xs, hl, hw => by
  simp only [List.length_cons] at hl
  cases hc : cnt x with
  | none => rw [gath_none xs hc, List.flatMap_cons, List.flatMap_cons, gath_den n f xs (by omega) fun y hy => hw y (by simp [hy])]
  | some p =>
   obtain ⟨it, m⟩ := p
   have hok := cnt_ok (hw x (by simp)) hc
   have hb := runN_bd it xs fun y hy => hw y (by simp [hy])
   have hr := run_den it n xs fun y hy => hw y (by simp [hy])
   rw [gath_some xs hc, List.flatMap_append, many_den hok.1, gath_den n f _ (by simp; omega) fun y hy => hw y (by simp [List.mem_of_mem_drop hy]), List.flatMap_cons, cnt_den (hw x (by simp)) hc n,
    show (m + (runN it xs).1).toNat = m.toNat + (runN it xs).1.toNat by omega, timesL_add, ← hr, List.append_assoc, ← List.flatMap_append, List.take_append_drop]
theorem flat_den (n : Nat) : ∀ l : List LT, (flatT l).flatMap (fun k => denT k n) = l.flatMap fun k => denT k n
 | [] => rfl
 | x :: l => by
  have ih := flat_den n l
  unfold flatT at ih ⊢
  rw [List.flatMap_cons, List.flatMap_append, ih, List.flatMap_cons]
  congr 1
  split
  ·rename_i h
   cases x with
   | mk k i l m ks s =>
    obtain rfl : k = 2 := h
    rw [den_row]; rfl
  ·simp
theorem plain_den : ∀ t : LT, plainT t = true → ∀ n m, denT t n = denT t m
 | .mk kind item long many kids shares, h, n, m => by
  rw [plainT_eq] at h
  simp only [Bool.and_eq_true, bne_iff_ne, ne_eq, List.all_eq_true] at h
  obtain ⟨⟨h3, h4⟩, hk⟩ := h
  have ih : ∀ k ∈ kids, ∀ n m, denT k n = denT k m := fun k hkm => plain_den k (hk k hkm)
  rw [denT_eq, denT_eq]
  by_cases h1 : kind = 1
  ·rw [if_pos h1, if_pos h1]
  rw [if_neg h1, if_neg h1]
  by_cases h2 : kind = 2
  ·rw [if_pos h2, if_pos h2]
   exact flatMap_same fun k hkm => ih k hkm n m
  rw [if_neg h2, if_neg h2, if_neg h3, if_neg h3, if_neg h4, if_neg h4]
  refine flatMap_same fun i _ => ?_
  cases kids with
  | nil => exact den_item0 _ _
  | cons k ks => exact ih k (by simp) _ _
where
 den_item0 (n m : Nat) : denT (([] : List LT).getD 0 default) n = denT (([] : List LT).getD 0 default) m := by
  show denT (.mk 0 default 0 0 [] []) n = denT (.mk 0 default 0 0 [] []) m
  rw [denT_eq, denT_eq]
  simp
theorem best_one (f : Nat → Int) : bestTo f 1 = 0 := by
 have := bestTo_lt f 1 (by omega); omega
theorem cN_one {shares : List Int} (h : shares.length = 1) : ∀ n : Nat, nextF shares n (cntS shares n) = 0 ∧ (cntS shares n).getD 0 0 = n
 | 0 => ⟨by unfold nextF; rw [h]; exact best_one _, by simp only [cntS, zero_getD]; rfl⟩
 | n + 1 => by
  obtain ⟨h1, h2⟩ := cN_one h n
  refine ⟨by unfold nextF; rw [h]; exact best_one _, ?_⟩
  have hl := cntS_len shares n
  simp only [cntS]
  rw [h1, getD_setI, if_pos ⟨rfl, by omega⟩, h2]; omega
theorem den_step {t v : LT} (hw : WF t) (hs : stepT t = some v) (n : Nat) : denT v n = denT t n := by
 cases t with
 | mk kind item long many kids shares =>
  have hwk : ∀ k ∈ kids, WF k := hw.kids
  obtain ⟨w1, w2, w3, w4, w5, w6, w7, w8, w9, w10⟩ := (WF_eq ..).mp hw
  rw [stepT_mk] at hs
  by_cases h1 : kind = 1
  ·rw [if_pos h1] at hs; cases hs
  rw [if_neg h1] at hs
  by_cases h5 : kind = 5
  ·rw [if_pos h5] at hs
   subst h5
   by_cases hm : many = 1
   ·rw [if_pos hm] at hs
    cases hs
    subst hm
    rw [den_rep rfl]
    show _ = (List.range 1).flatMap _
    simp
   rw [if_neg hm] at hs
   split at hs
   ·rename_i hc
    obtain ⟨hk5, hmm⟩ := hc
    cases hs
    have hkw := hwk _ (getD0_mem (w3 h1).2.2)
    rw [den_rep rfl]
    obtain ⟨hn, hm1, hm2⟩ := w4 rfl
    generalize kids.getD 0 default = kid at *
    cases kid with
    | mk k i l m ks s =>
     obtain rfl : k = 5 := hk5
     obtain ⟨_, _, _, x4, _⟩ := (WF_eq ..).mp hkw
     obtain ⟨y1, y2, y3⟩ := x4 rfl
     show denT (repK (many * m) ks) n = _
     rw [repK, den_rep rfl]
     have e : (many * m).toNat = many.toNat * m.toNat := by
      have : (((many * m).toNat : Nat) : Int) = ((many.toNat * m.toNat : Nat) : Int) := by
       rw [Int.toNat_of_nonneg (Int.mul_nonneg (by omega) (by omega)), Int.natCast_mul, Int.toNat_of_nonneg (by omega), Int.toNat_of_nonneg (by omega)]
      omega
     rw [e, range_mul]
     refine flatMap_same fun a _ => ?_
     rw [den_rep rfl]
     refine flatMap_same fun b _ => ?_
     congr 1
     rw [Nat.add_mul, Nat.mul_assoc]; omega
   ·cases hs
  rw [if_neg h5] at hs
  by_cases hone : kids.length = 1
  ·rw [if_pos hone] at hs
   cases hs
   match kids, hone with
   | [k], _ =>
    show denT k n = _
    rw [denT_eq, if_neg h1]
    by_cases h2 : kind = 2
    ·rw [if_pos h2]; simp
    rw [if_neg h2]
    by_cases h3 : kind = 3
    ·rw [if_pos h3]
     show denT k n = denT ([k].getD (n % 1) default) (n / 1)
     rw [Nat.mod_one, Nat.div_one]; rfl
    rw [if_neg h3]
    have h4 : kind = 4 := by omega
    rw [if_pos h4]
    have hc := cN_one (shares := shares) (w6 h4) n
    rw [hc.1, hc.2, Int.toNat_natCast]; rfl
  rw [if_neg hone] at hs
  by_cases h2 : kind = 2
  ·rw [if_pos h2] at hs
   split at hs
   ·cases hs
   ·cases hs
    subst h2
    rw [rowT, den_row, den_row, gath_den n _ _ (Nat.le_refl _) (fun x hx => ?_), flat_den]
    unfold flatT at hx
    obtain ⟨k, hk, hxk⟩ := List.mem_flatMap.1 hx
    split at hxk
    ·exact (hwk k hk).kids x hxk
    ·rw [List.mem_singleton.1 hxk]; exact hwk k hk
  rw [if_neg h2] at hs
  by_cases h4 : kind = 4
  ·rw [if_pos h4] at hs
   split at hs
   ·cases hs
    rename_i hg
    have hd : ∀ x ∈ shares, ((gcdI shares : Nat) : Int) ∣ x := fun x hx => gcdI_dvd (fun y hy => (w8 y hy).1) hx
    subst h4
    rw [denT_eq, denT_eq]
    simp only [show ¬ (4 : Int) = 1 by omega, show ¬ (4 : Int) = 2 by omega, show ¬ (4 : Int) = 3 by omega, if_false, if_true]
    rw [← cnt_div (by omega) shares hd, ← next_div (by omega) shares hd]
   ·cases hs
  rw [if_neg h4] at hs
  split at hs
  ·rename_i hc
   obtain ⟨hp, hall⟩ := hc
   cases hs
   have h3 : kind = 3 := by omega
   subst h3
   rw [denT_eq (3 : Int)]
   simp only [show ¬ (3 : Int) = 1 by omega, show ¬ (3 : Int) = 2 by omega, if_false, if_true]
   have h0 := List.length_pos_iff.2 (w3 h1).2.2
   rw [hall _ (getD_mem' kids _ default (Nat.mod_lt n h0))]
   exact plain_den _ hp _ _
  ·cases hs
theorem den_fix {N : Nat} : ∀ (g : Nat) {t : LT}, GoodN N g t → ∀ n, denT (fixT g t) n = denT t n
 | 0, _, _, _ => rfl
 | g + 1, t, h, n => by
  rw [fixT]
  cases e : stepT t with
  | none => rfl
  | some v =>
   simp only
   rw [den_fix g (h.2 v e) n, den_step h.1.1 e]
theorem den_least : ∀ t : LT, WF t → ∀ n, denT (leastF t) n = denT t n
 | .mk kind item long many kids shares, hw, n => by
  have ih : ∀ k ∈ kids, ∀ n, denT (leastF k) n = denT k n := fun k hk n => den_least k (hw.kids k hk) n
  have hg := least_good hw (Nat.le_refl _)
  rw [leastF_eq, den_fix 2 hg, denT_eq, denT_eq]
  have e1 : (kids.map leastF).length = kids.length := List.length_map _
  have e2 : ∀ j n, j < kids.length → denT ((kids.map leastF).getD j default) n = denT (kids.getD j default) n := fun j n hj => by
   rw [List.getD_eq_getElem?_getD, List.getD_eq_getElem?_getD, List.getElem?_map, List.getElem?_eq_getElem hj]
   exact ih _ (List.getElem_mem hj) n
  obtain ⟨w1, w2, w3, w4, w5, w6, w7, w8, w9, w10⟩ := (WF_eq ..).mp hw
  by_cases h1 : kind = 1
  ·rw [if_pos h1, if_pos h1]
  have h0 := List.length_pos_iff.2 (w3 h1).2.2
  rw [if_neg h1, if_neg h1]
  by_cases h2 : kind = 2
  ·rw [if_pos h2, if_pos h2, List.flatMap_map]
   exact flatMap_same fun k hk => ih k hk n
  rw [if_neg h2, if_neg h2]
  by_cases h3 : kind = 3
  ·rw [if_pos h3, if_pos h3, e1]
   exact e2 _ _ (Nat.mod_lt _ h0)
  rw [if_neg h3, if_neg h3]
  by_cases h4 : kind = 4
  ·rw [if_pos h4, if_pos h4]
   exact e2 _ _ (by rw [← w6 h4]; exact bestTo_lt _ _ (by have := w6 h4; omega))
  ·rw [if_neg h4, if_neg h4]
   exact flatMap_same fun i _ => e2 _ _ h0
theorem least_hs : ∀ t : LT, HS t → leastF t = t
 | .mk kind item long many kids shares, h => by
  rw [HS_eq] at h
  have e : kids.map leastF = kids := by
   conv => rhs; rw [← List.map_id kids]
   exact List.map_congr_left fun k hk => least_hs k (h.2 k hk)
  rw [leastF_eq, e, fix_none h.1]
theorem least_least {t : LT} (hw : WF t) : leastF (leastF t) = leastF t := least_hs _ (least_ok t hw).1
theorem passes_least {d e : Nat} {t : LT} (hw : WF t) (h1 : VL d t) (h2 : VL e (leastF t)) (n : Nat) : (passesU e (leastF t) n).2 = (passesU d t n).2 := by
 rw [passes_den h1, passes_den h2]
 exact flatMap_same fun i _ => den_least t hw i
theorem passes_times {d : Nat} {t : LT} (hv : VL d t) {N : Nat} (hh : homeF d t (passesU d t N).1 = true) : ∀ k, (passesU d t (k * N)).2 = timesL (passesU d t N).2 k
 | 0 => by simp [passesU, timesL]
 | k + 1 => by
  rw [show (k + 1) * N = N + k * N by rw [Nat.add_mul]; omega, (passes_again hv hh (k * N)).1, passes_times hv hh k, timesL]
theorem times_at (X : Pys) (hX : X ≠ []) : ∀ (k i : Nat), i < k * X.length → (timesL X k).getD i default = X.getD (i % X.length) default
 | 0, i, h => by omega
 | k + 1, i, h => by
  have h0 := List.length_pos_iff.2 hX
  rw [timesL, List.getD_eq_getElem?_getD]
  by_cases hi : i < X.length
  ·rw [List.getElem?_append_left hi, Nat.mod_eq_of_lt hi, ← List.getD_eq_getElem?_getD]
  ·rw [List.getElem?_append_right (by omega), ← List.getD_eq_getElem?_getD, times_at X hX k (i - X.length) (by rw [Nat.add_mul] at h; omega)]
   congr 1
   conv => rhs; rw [show i = (i - X.length) + X.length by omega]
   rw [Nat.add_mod_right]
theorem rounds_same {d e : Nat} {t u : LT} (h1 : VL d t) (h2 : VL e u) {N M : Nat} (hN : 1 ≤ N) (hM : 1 ≤ M) (hh : homeF d t (passesU d t N).1 = true) (hg : homeF e u (passesU e u M).1 = true)
  (hs : ∀ n, (passesU e u n).2 = (passesU d t n).2) (hX : (passesU d t N).2 ≠ []) (hY : (passesU e u M).2 ≠ []) (i : Nat) :
  (passesU d t N).2.getD (i % (passesU d t N).2.length) default = (passesU e u M).2.getD (i % (passesU e u M).2.length) default := by
 have a1 := passes_times h1 hh ((i + 1) * M)
 have a2 := passes_times h2 hg ((i + 1) * N)
 rw [hs] at a2
 rw [show (i + 1) * M * N = (i + 1) * N * M by ac_rfl] at a1
 have ee := a1.symm.trans a2
 have l1 := List.length_pos_iff.2 hX
 have l2 := List.length_pos_iff.2 hY
 have b1 : i < (i + 1) * M * (passesU d t N).2.length := by
  have := Nat.mul_le_mul_left (i + 1) (Nat.mul_le_mul hM l1)
  rw [Nat.mul_assoc]; omega
 have b2 : i < (i + 1) * N * (passesU e u M).2.length := by
  have := Nat.mul_le_mul_left (i + 1) (Nat.mul_le_mul hN l2)
  rw [Nat.mul_assoc]; omega
 rw [← times_at _ hX _ i b1, ← times_at _ hY _ i b2, ee]
abbrev zP1EE : List Nat := [0, 1, 2, 3, 4, 5, 6, 7, 8]
abbrev zP1EP : List (Nat × List Nat × List Nat) := []
attribute [go_sem] zP1EE zP1EP
def BL : LT → Prop
 | .mk _ _ _ _ kids shares => kids.length ≤ 1000 ∧ shares.length ≤ 1000 ∧ ∀ k ∈ kids, BL k
theorem BL_eq (kind : Int) (item : ByteArray) (long many : Int) (kids : List LT) (shares : List Int) : BL (.mk kind item long many kids shares) = (kids.length ≤ 1000 ∧ shares.length ≤ 1000 ∧ ∀ k ∈ kids, BL k) := by rw [BL]
open Classical in
noncomputable def sameB (a b : LT) : Bool := decide (a = b)
open Classical in
noncomputable def eqKs (a b : List LT) : Bool := decide (a = b)
theorem sameB_true {a b : LT} : sameB a b = true ↔ a = b := by simp [sameB]
theorem sameB_false {a b : LT} : sameB a b = false ↔ a ≠ b := by simp [sameB]
theorem eqKs_true {a b : List LT} : eqKs a b = true ↔ a = b := by simp [eqKs]
theorem eqKs_false {a b : List LT} : eqKs a b = false ↔ a ≠ b := by simp [eqKs]
theorem bytes_beq {a b : ByteArray} : (a == b) = true ↔ a = b := by
 first
 | exact beq_iff_eq
 | (cases a with
   | mk x =>
    cases b with
    | mk y =>
     rw [ByteArray.mk.injEq]
     exact @beq_iff_eq _ _ _ x y)
theorem sameB_mk (k : Int) (i : ByteArray) (l m : Int) (ks : List LT) (s : List Int) (k2 : Int) (i2 : ByteArray) (l2 m2 : Int) (ks2 : List LT) (s2 : List Int) :
  sameB (.mk k i l m ks s) (.mk k2 i2 l2 m2 ks2 s2) = ((k == k2) && (i == i2) && (l == l2) && (m == m2) && decide (s = s2) && eqKs ks ks2) := by
 rw [Bool.eq_iff_iff, sameB_true]
 simp only [Bool.and_eq_true, eqKs_true, decide_eq_true_eq, bytes_beq, beq_iff_eq, LT.mk.injEq]
 exact ⟨fun ⟨a, b, c, d, e, f⟩ => ⟨⟨⟨⟨⟨a, b⟩, c⟩, d⟩, f⟩, e⟩, fun ⟨⟨⟨⟨⟨a, b⟩, c⟩, d⟩, f⟩, e⟩ => ⟨a, b, c, d, e, f⟩⟩
theorem take_snoc {α : Type} (l : List α) (j : Nat) (d : α) (h : j < l.length) : l.take (j + 1) = l.take j ++ [l.getD j d] := by
 rw [List.take_add_one, List.getD_eq_getElem?_getD, List.getElem?_eq_getElem h]; rfl
theorem kid_size {k : LT} {kind : Int} {item : ByteArray} {long many : Int} {kids : List LT} {shares : List Int} (h : k ∈ kids) : SizeOf.sizeOf k < SizeOf.sizeOf (LT.mk kind item long many kids shares) := by
 have := List.sizeOf_lt_of_mem h
 rw [LT.mk.sizeOf_spec]; omega
theorem g_equalI (xs ys : List Int) (h : Hp) (hx : xs.length ≤ 1000) (hy : ys.length ≤ 1000) :
  ACalls Tryz.prog 87 [.row 1 (xs.map encI) none, .row 1 (ys.map encI) none] h (fun r h' => r = .v (.bool (decide (xs = ys))) ∧ h' = h) := by
 refine gE Tryz.func87 rfl (by kernel_rfl) 24 rfl fun c => ?_
 (repeat (first | refine gO rfl ?_ | ((refine gR fun K1 hK1 => ?_; simp only [go_sem, ↓reduceIte, reduceCtorEq, nA, nB, nC, nD, nE, nF] <;> and_intros <;> (apply hK1; clear hK1 K1)))))
 refine awp_cond (t := _) rfl (fun h1 => ?_) (fun h1 => ?_)
 ·(repeat (first | refine gO rfl ?_ | ((refine gR fun K1 hK1 => ?_; simp only [go_sem, ↓reduceIte, reduceCtorEq, nA, nB, nC, nD, nE, nF] <;> and_intros <;> (apply hK1; clear hK1 K1)))))
  simp only [Tryz.results87, go_sem, ↓reduceIte, reduceCtorEq, nA, nB, nC, nD, nE, nF]
  exact ⟨_, _, Weak.refl _, Hp.le.refl _, by rw [decide_eq_false (fun e => by rw [e] at h1; simp at h1)], rfl⟩
 have hlen : xs.length = ys.length := by simp at h1; omega
 (repeat (first | refine gO rfl ?_ | ((refine gR fun K1 hK1 => ?_; simp only [go_sem, ↓reduceIte, reduceCtorEq, nA, nB, nC, nD, nE, nF] <;> and_intros <;> (apply hK1; clear hK1 K1)))))
 refine awp_loopC (rl false [0, 2, 10, 2, 12]) 0 (fun g s => ∃ j : Nat, g + j = xs.length ∧ xs.take j = ys.take j ∧
  s = ⟨((.row 1 (xs.map encI) none) :: (.row 1 (ys.map encI) none) :: (jnk 10 ((.v (.int .i64 xs.length)) :: (.v (.int .i64 j)) :: (jnk 12 [])))), [], h⟩) xs.length ⟨0, by omega, by simp, rfl⟩ ?_
 rintro g _ ⟨j, hj, ht, rfl⟩
 (repeat (first | refine gO rfl ?_ | ((refine gR fun K1 hK1 => ?_; simp only [go_sem, ↓reduceIte, reduceCtorEq, nA, nB, nC, nD, nE, nF] <;> and_intros <;> (apply hK1; clear hK1 K1)))))
 refine awp_cond (t := _) rfl (fun h2 => ?_) (fun h2 => ?_)
 ·simp only [decide_eq_true_eq] at h2
  have hjx : j < xs.length := by omega
  have hjy : j < ys.length := by omega
  have gx : (xs.map encI).getD j [] = encI (xs.getD j 0) := getD_enc encI xs j 0 hjx
  have gy : (ys.map encI).getD j [] = encI (ys.getD j 0) := getD_enc encI ys j 0 hjy
  have tx := take_snoc xs j 0 hjx
  have ty2 := take_snoc ys j 0 hjy
  generalize xs.getD j 0 = a at gx tx
  generalize ys.getD j 0 = b at gy ty2
  (repeat (first | refine gO rfl ?_ | ((first | refine gR ?_ | ((with_reducible refine xS ?_); refine uD 6 zM32 zP1EE zP1EP 26 rfl (by kernel_rfl) ?_)) <;> ((try with_reducible intro K1 hK1); simp only [go_sem, ↓reduceIte, reduceCtorEq, nA, nB, nC, nD, nE, nF, Int.toNat_natCast, gx, gy, encI] <;> and_intros <;> first | (apply hK1; clear hK1 K1) | (intros; (omega))))))
  refine awp_cond (t := _) rfl (fun h3 => ?_) (fun h3 => ?_)
  ·(repeat (first | refine gO rfl ?_ | ((refine gR fun K1 hK1 => ?_; simp only [go_sem, ↓reduceIte, reduceCtorEq, nA, nB, nC, nD, nE, nF] <;> and_intros <;> (apply hK1; clear hK1 K1)))))
   simp only [Tryz.results87, go_sem, ↓reduceIte, reduceCtorEq, nA, nB, nC, nD, nE, nF]
   refine ⟨_, _, Weak.refl _, Hp.le.refl _, ?_, rfl⟩
   rw [decide_eq_false]
   intro e
   rw [e] at tx
   rw [tx] at ty2
   simp at ty2 h3
   exact h3 ty2
  ·(repeat (first | refine gO rfl ?_ | ((refine gR fun K1 hK1 => ?_; simp only [go_sem, ↓reduceIte, reduceCtorEq, nA, nB, nC, nD, nE, nF] <;> and_intros <;> first | (apply hK1; clear hK1 K1) | (intros; (omega))))))
   refine ⟨g - 1, by omega, j + 1, by omega, ?_, rfl⟩
   rw [tx, ty2, ht]
   simp at h3
   rw [h3]
 ·simp only [decide_eq_false_iff_not] at h2
  have hjx : j = xs.length := by omega
  subst hjx
  rw [List.take_length, hlen, List.take_length] at ht
  (repeat (first | refine gO rfl ?_ | ((refine gR fun K1 hK1 => ?_; simp only [go_sem, ↓reduceIte, reduceCtorEq, nA, nB, nC, nD, nE, nF] <;> and_intros <;> (apply hK1; clear hK1 K1)))))
  simp only [Tryz.results87, go_sem, ↓reduceIte, reduceCtorEq, nA, nB, nC, nD, nE, nF]
  exact ⟨_, _, Weak.refl _, Hp.le.refl _, by rw [decide_eq_true ht], rfl⟩
theorem g_equalF (fid : Nat) (xs ys : List LT) (h : Hp) (hx : xs.length ≤ 1000) (hy : ys.length ≤ 1000)
  (hf : ∀ j, j < xs.length → j < ys.length → ACalls Tryz.prog fid [.agg (encL (xs.getD j default)), .agg (encL (ys.getD j default))] h (fun r h' => r = .v (.bool (sameB (xs.getD j default) (ys.getD j default))) ∧ h' = h)) :
  ACalls Tryz.prog 88 [.row 6 (xs.map encL) none, .row 6 (ys.map encL) none, .fn fid []] h (fun r h' => r = .v (.bool (eqKs xs ys)) ∧ h' = h) := by
 refine gE Tryz.func88 rfl (by kernel_rfl) 29 rfl fun c => ?_
 (repeat (first | refine gO rfl ?_ | (refine gM zM33 fun K1 hK1 => ?_; simp only [go_sem, ↓reduceIte, reduceCtorEq, nA, nB, nC, nD, nE, nF] <;> and_intros <;> (apply hK1; clear hK1 K1))))
 refine awp_cond (t := _) rfl (fun h1 => ?_) (fun h1 => ?_)
 ·(repeat (first | refine gO rfl ?_ | (refine gM zM33 fun K1 hK1 => ?_; simp only [go_sem, ↓reduceIte, reduceCtorEq, nA, nB, nC, nD, nE, nF] <;> and_intros <;> (apply hK1; clear hK1 K1))))
  simp only [Tryz.results88, go_sem, ↓reduceIte, reduceCtorEq, nA, nB, nC, nD, nE, nF]
  exact ⟨_, _, Weak.refl _, Hp.le.refl _, by rw [eqKs_false.2 (fun e => by rw [e] at h1; simp at h1)], rfl⟩
 have hlen : xs.length = ys.length := by simp at h1; omega
 (repeat (first | refine gO rfl ?_ | (refine gM zM33 fun K1 hK1 => ?_; simp only [go_sem, ↓reduceIte, reduceCtorEq, nA, nB, nC, nD, nE, nF] <;> and_intros <;> (apply hK1; clear hK1 K1))))
 refine awp_loopC (rl false [1, 2, 12, 3, 14]) 0 (fun g s => ∃ j : Nat, g + j = xs.length ∧ xs.take j = ys.take j ∧
  s = ⟨(AV.junk :: ((.row 6 (ys.map encL) none) :: (.fn fid []) :: (jnk 12 ((.row 6 (xs.map encL) none) :: (.v (.int .i64 xs.length)) :: (.v (.int .i64 j)) :: (jnk 14 []))))), [], h⟩) xs.length ⟨0, by omega, by simp, rfl⟩ ?_
 rintro g _ ⟨j, hj, ht, rfl⟩
 (repeat (first | refine gO rfl ?_ | (refine gM zM33 fun K1 hK1 => ?_; simp only [go_sem, ↓reduceIte, reduceCtorEq, nA, nB, nC, nD, nE, nF] <;> and_intros <;> (apply hK1; clear hK1 K1))))
 refine awp_cond (t := _) rfl (fun h2 => ?_) (fun h2 => ?_)
 ·simp only [decide_eq_true_eq] at h2
  have hjx : j < xs.length := by omega
  have hjy : j < ys.length := by omega
  have gx : (xs.map encL).getD j [] = encL (xs.getD j default) := getD_enc encL xs j default hjx
  have gy : (ys.map encL).getD j [] = encL (ys.getD j default) := getD_enc encL ys j default hjy
  have hc := hf j hjx hjy
  have tx := take_snoc xs j default hjx
  have ty2 := take_snoc ys j default hjy
  generalize xs.getD j default = a at gx tx hc
  generalize ys.getD j default = b at gy ty2 hc
  have la := encL_len a
  have lb := encL_len b
  have ka : List.take 6 (encL a) = encL a := List.take_of_length_le (Nat.le_of_eq la)
  have kb : List.take 6 (encL b) = encL b := List.take_of_length_le (Nat.le_of_eq lb)
  have da : List.drop 6 (encL a) = [] := List.drop_of_length_le (Nat.le_of_eq la)
  have db : List.drop 6 (encL b) = [] := List.drop_of_length_le (Nat.le_of_eq lb)
  (repeat (first | refine gO rfl ?_ | (refine gM zM33 fun K1 hK1 => ?_; simp only [go_sem, ↓reduceIte, reduceCtorEq, nA, nB, nC, nD, nE, nF, Int.toNat_natCast, gx, gy, la, lb, ka, kb, da, db] <;> and_intros <;> first | (apply hK1; clear hK1 K1) | (intros; (omega)) | skip)))
  refine hc.mono ?_; rintro _ hz ⟨rfl, hh⟩; apply hK1; clear hK1 K1; rw [hh]; clear hh hz
  (repeat (first | refine gO rfl ?_ | (refine gM zM33 fun K1 hK1 => ?_; simp only [go_sem, ↓reduceIte, reduceCtorEq, nA, nB, nC, nD, nE, nF] <;> and_intros <;> (apply hK1; clear hK1 K1))))
  refine awp_cond (t := _) rfl (fun h3 => ?_) (fun h3 => ?_)
  ·(repeat (first | refine gO rfl ?_ | (refine gM zM33 fun K1 hK1 => ?_; simp only [go_sem, ↓reduceIte, reduceCtorEq, nA, nB, nC, nD, nE, nF] <;> and_intros <;> (apply hK1; clear hK1 K1))))
   simp only [Tryz.results88, go_sem, ↓reduceIte, reduceCtorEq, nA, nB, nC, nD, nE, nF]
   refine ⟨_, _, Weak.refl _, Hp.le.refl _, ?_, rfl⟩
   rw [eqKs_false.2]
   intro e
   rw [e] at tx
   rw [tx] at ty2
   have e2 : a = b := by simpa using ty2
   rw [sameB_true.2 e2] at h3
   cases h3
  ·(repeat (first | refine gO rfl ?_ | (refine gM zM33 fun K1 hK1 => ?_; simp only [go_sem, ↓reduceIte, reduceCtorEq, nA, nB, nC, nD, nE, nF] <;> and_intros <;> first | (apply hK1; clear hK1 K1) | (intros; (omega)))))
   refine ⟨g - 1, by omega, j + 1, by omega, ?_, rfl⟩
   have e3 : a = b := sameB_true.1 (by simpa using h3)
   rw [tx, ty2, ht, e3]
 ·simp only [decide_eq_false_iff_not] at h2
  have hjx : j = xs.length := by omega
  subst hjx
  rw [List.take_length, hlen, List.take_length] at ht
  (repeat (first | refine gO rfl ?_ | (refine gM zM33 fun K1 hK1 => ?_; simp only [go_sem, ↓reduceIte, reduceCtorEq, nA, nB, nC, nD, nE, nF] <;> and_intros <;> (apply hK1; clear hK1 K1))))
  simp only [Tryz.results88, go_sem, ↓reduceIte, reduceCtorEq, nA, nB, nC, nD, nE, nF]
  exact ⟨_, _, Weak.refl _, Hp.le.refl _, by rw [eqKs_true.2 ht], rfl⟩
theorem g_same (n : Nat) : ∀ (a b : LT) (h : Hp), SizeOf.sizeOf a ≤ n → BL a → BL b → ACalls Tryz.prog 24 [.agg (encL a), .agg (encL b)] h (fun r h' => r = .v (.bool (sameB a b)) ∧ h' = h) := by
 induction n with
 | zero =>
  rintro ⟨k, i, l, m, ks, s⟩ b h hn
  rw [LT.mk.sizeOf_spec] at hn
  omega
 | succ n ih =>
  rintro ⟨k, i, l, m, ks, s⟩ ⟨k2, i2, l2, m2, ks2, s2⟩ h hn ha hb
  rw [BL_eq] at ha hb
  obtain ⟨a1, a2, a3⟩ := ha
  obtain ⟨b1, b2, b3⟩ := hb
  have hks := g_equalF 24 ks ks2 h a1 b1 (fun j hj hj2 => ih _ _ h (by
   have := kid_size (kind := k) (item := i) (long := l) (many := m) (shares := s) (getD_mem' ks j default hj)
   omega) (a3 _ (getD_mem' ks j default hj)) (b3 _ (getD_mem' ks2 j default hj2)))
  have hss := g_equalI s s2 h a2 b2
  rw [sameB_mk, encL_eq, encL_eq]
  have key : ∀ q1 q2 q3 q4 q5 : Bool, (k == k2) = q1 → (i == i2) = q2 → (l == l2) = q3 → (m == m2) = q4 → decide (s = s2) = q5 → ACalls Tryz.prog 24 [.agg [.v (.int .i64 k), .v (.string i), .v (.int .i64 l), .v (.int .i64 m), .row 6 (ks.map encL) none, .row 1 (s.map encI) none], .agg [.v (.int .i64 k2), .v (.string i2), .v (.int .i64 l2), .v (.int .i64 m2), .row 6 (ks2.map encL) none, .row 1 (s2.map encI) none]] h
    (fun r h' => r = .v (.bool (q1 && q2 && q3 && q4 && q5 && eqKs ks ks2)) ∧ h' = h) := by
   intro q1 q2 q3 q4 q5 h1 h2 h3 h4 h5
   refine gE Tryz.func24 rfl (by kernel_rfl) 43 rfl fun c => ?_
   cases q1
   ·(repeat (first | refine gO rfl ?_ | (refine gR fun K1 hK1 => ?_; simp only [go_sem, ↓reduceIte, reduceCtorEq, nA, nB, nC, nD, nE, nF, h1] <;> and_intros <;> (apply hK1; clear hK1 K1))))
    simp only [Tryz.results24, go_sem, ↓reduceIte, reduceCtorEq, nA, nB, nC, nD, nE, nF]
    exact ⟨_, _, Weak.refl _, Hp.le.refl _, rfl, rfl⟩
   cases q2
   ·(repeat (first | refine gO rfl ?_ | (refine gR fun K1 hK1 => ?_; simp only [go_sem, ↓reduceIte, reduceCtorEq, nA, nB, nC, nD, nE, nF, h1, h2] <;> and_intros <;> (apply hK1; clear hK1 K1))))
    simp only [Tryz.results24, go_sem, ↓reduceIte, reduceCtorEq, nA, nB, nC, nD, nE, nF]
    exact ⟨_, _, Weak.refl _, Hp.le.refl _, rfl, rfl⟩
   cases q3
   ·(repeat (first | refine gO rfl ?_ | (refine gR fun K1 hK1 => ?_; simp only [go_sem, ↓reduceIte, reduceCtorEq, nA, nB, nC, nD, nE, nF, h1, h2, h3] <;> and_intros <;> (apply hK1; clear hK1 K1))))
    simp only [Tryz.results24, go_sem, ↓reduceIte, reduceCtorEq, nA, nB, nC, nD, nE, nF]
    exact ⟨_, _, Weak.refl _, Hp.le.refl _, rfl, rfl⟩
   cases q4
   ·(repeat (first | refine gO rfl ?_ | (refine gR fun K1 hK1 => ?_; simp only [go_sem, ↓reduceIte, reduceCtorEq, nA, nB, nC, nD, nE, nF, h1, h2, h3, h4] <;> and_intros <;> (apply hK1; clear hK1 K1))))
    simp only [Tryz.results24, go_sem, ↓reduceIte, reduceCtorEq, nA, nB, nC, nD, nE, nF]
    exact ⟨_, _, Weak.refl _, Hp.le.refl _, rfl, rfl⟩
   (repeat (first | refine gO rfl ?_ | (refine gR fun K1 hK1 => ?_; simp only [go_sem, ↓reduceIte, reduceCtorEq, nA, nB, nC, nD, nE, nF, h1, h2, h3, h4] <;> and_intros <;> first | (apply hK1; clear hK1 K1) | (intros; (simp_all <;> omega)) | skip)))
   refine hss.mono ?_; rintro _ hz ⟨rfl, hh⟩; refine ⟨rfl, hK1 _ ?_⟩; clear hK1 K1; rw [hh]; clear hh hz
   cases q5
   ·(repeat (first | refine gO rfl ?_ | (refine gR fun K1 hK1 => ?_; simp only [go_sem, ↓reduceIte, reduceCtorEq, nA, nB, nC, nD, nE, nF, h5] <;> and_intros <;> (apply hK1; clear hK1 K1))))
    simp only [Tryz.results24, go_sem, ↓reduceIte, reduceCtorEq, nA, nB, nC, nD, nE, nF]
    exact ⟨_, _, Weak.refl _, Hp.le.refl _, rfl, rfl⟩
   (repeat ((refine gR fun K1 hK1 => ?_; simp only [go_sem, ↓reduceIte, reduceCtorEq, nA, nB, nC, nD, nE, nF, h5] <;> and_intros <;> first | (intros; (simp_all <;> omega)) | skip)))
   refine hks.mono ?_; rintro _ hz ⟨rfl, hh⟩; refine ⟨rfl, hK1 _ ?_⟩; clear hK1 K1; rw [hh]; clear hh hz
   (repeat (first | refine gO rfl ?_ | (refine gR fun K1 hK1 => ?_; simp only [go_sem, ↓reduceIte, reduceCtorEq, nA, nB, nC, nD, nE, nF] <;> and_intros <;> (apply hK1; clear hK1 K1))))
   simp only [Tryz.results24, go_sem, ↓reduceIte, reduceCtorEq, nA, nB, nC, nD, nE, nF]
   exact ⟨_, _, Weak.refl _, Hp.le.refl _, rfl, rfl⟩
  exact key _ _ _ _ _ rfl rfl rfl rfl rfl
theorem g_equal (n : Nat) : ∀ (a b : LT) (h : Hp), SizeOf.sizeOf a ≤ n → BL a → BL b → ACalls Tryz.prog 206 [.agg (encL a), .agg (encL b)] h (fun r h' => r = .v (.bool (sameB a b)) ∧ h' = h) := by
 induction n with
 | zero =>
  rintro ⟨k, i, l, m, ks, s⟩ b h hn
  rw [LT.mk.sizeOf_spec] at hn
  omega
 | succ n ih =>
  rintro ⟨k, i, l, m, ks, s⟩ ⟨k2, i2, l2, m2, ks2, s2⟩ h hn ha hb
  rw [BL_eq] at ha hb
  obtain ⟨a1, a2, a3⟩ := ha
  obtain ⟨b1, b2, b3⟩ := hb
  have hks := g_equalF 206 ks ks2 h a1 b1 (fun j hj hj2 => ih _ _ h (by
   have := kid_size (kind := k) (item := i) (long := l) (many := m) (shares := s) (getD_mem' ks j default hj)
   omega) (a3 _ (getD_mem' ks j default hj)) (b3 _ (getD_mem' ks2 j default hj2)))
  have hss := g_equalI s s2 h a2 b2
  rw [sameB_mk, encL_eq, encL_eq]
  have key : ∀ q1 q2 q3 q4 q5 : Bool, (k == k2) = q1 → (i == i2) = q2 → (l == l2) = q3 → (m == m2) = q4 → decide (s = s2) = q5 → ACalls Tryz.prog 206 [.agg [.v (.int .i64 k), .v (.string i), .v (.int .i64 l), .v (.int .i64 m), .row 6 (ks.map encL) none, .row 1 (s.map encI) none], .agg [.v (.int .i64 k2), .v (.string i2), .v (.int .i64 l2), .v (.int .i64 m2), .row 6 (ks2.map encL) none, .row 1 (s2.map encI) none]] h
    (fun r h' => r = .v (.bool (q1 && q2 && q3 && q4 && q5 && eqKs ks ks2)) ∧ h' = h) := by
   intro q1 q2 q3 q4 q5 h1 h2 h3 h4 h5
   refine gE Tryz.func206 rfl (by kernel_rfl) 43 rfl fun c => ?_
   cases q1
   ·(repeat (first | refine gO rfl ?_ | (refine gR fun K1 hK1 => ?_; simp only [go_sem, ↓reduceIte, reduceCtorEq, nA, nB, nC, nD, nE, nF, h1] <;> and_intros <;> (apply hK1; clear hK1 K1))))
    simp only [Tryz.results206, go_sem, ↓reduceIte, reduceCtorEq, nA, nB, nC, nD, nE, nF]
    exact ⟨_, _, Weak.refl _, Hp.le.refl _, rfl, rfl⟩
   cases q2
   ·(repeat (first | refine gO rfl ?_ | (refine gR fun K1 hK1 => ?_; simp only [go_sem, ↓reduceIte, reduceCtorEq, nA, nB, nC, nD, nE, nF, h1, h2] <;> and_intros <;> (apply hK1; clear hK1 K1))))
    simp only [Tryz.results206, go_sem, ↓reduceIte, reduceCtorEq, nA, nB, nC, nD, nE, nF]
    exact ⟨_, _, Weak.refl _, Hp.le.refl _, rfl, rfl⟩
   cases q3
   ·(repeat (first | refine gO rfl ?_ | (refine gR fun K1 hK1 => ?_; simp only [go_sem, ↓reduceIte, reduceCtorEq, nA, nB, nC, nD, nE, nF, h1, h2, h3] <;> and_intros <;> (apply hK1; clear hK1 K1))))
    simp only [Tryz.results206, go_sem, ↓reduceIte, reduceCtorEq, nA, nB, nC, nD, nE, nF]
    exact ⟨_, _, Weak.refl _, Hp.le.refl _, rfl, rfl⟩
   cases q4
   ·(repeat (first | refine gO rfl ?_ | (refine gR fun K1 hK1 => ?_; simp only [go_sem, ↓reduceIte, reduceCtorEq, nA, nB, nC, nD, nE, nF, h1, h2, h3, h4] <;> and_intros <;> (apply hK1; clear hK1 K1))))
    simp only [Tryz.results206, go_sem, ↓reduceIte, reduceCtorEq, nA, nB, nC, nD, nE, nF]
    exact ⟨_, _, Weak.refl _, Hp.le.refl _, rfl, rfl⟩
   (repeat (first | refine gO rfl ?_ | (refine gR fun K1 hK1 => ?_; simp only [go_sem, ↓reduceIte, reduceCtorEq, nA, nB, nC, nD, nE, nF, h1, h2, h3, h4] <;> and_intros <;> first | (apply hK1; clear hK1 K1) | (intros; (simp_all <;> omega)) | skip)))
   refine hss.mono ?_; rintro _ hz ⟨rfl, hh⟩; refine ⟨rfl, hK1 _ ?_⟩; clear hK1 K1; rw [hh]; clear hh hz
   cases q5
   ·(repeat (first | refine gO rfl ?_ | (refine gR fun K1 hK1 => ?_; simp only [go_sem, ↓reduceIte, reduceCtorEq, nA, nB, nC, nD, nE, nF, h5] <;> and_intros <;> (apply hK1; clear hK1 K1))))
    simp only [Tryz.results206, go_sem, ↓reduceIte, reduceCtorEq, nA, nB, nC, nD, nE, nF]
    exact ⟨_, _, Weak.refl _, Hp.le.refl _, rfl, rfl⟩
   (repeat ((refine gR fun K1 hK1 => ?_; simp only [go_sem, ↓reduceIte, reduceCtorEq, nA, nB, nC, nD, nE, nF, h5] <;> and_intros <;> first | (intros; (simp_all <;> omega)) | skip)))
   refine hks.mono ?_; rintro _ hz ⟨rfl, hh⟩; refine ⟨rfl, hK1 _ ?_⟩; clear hK1 K1; rw [hh]; clear hh hz
   (repeat (first | refine gO rfl ?_ | (refine gR fun K1 hK1 => ?_; simp only [go_sem, ↓reduceIte, reduceCtorEq, nA, nB, nC, nD, nE, nF] <;> and_intros <;> (apply hK1; clear hK1 K1))))
   simp only [Tryz.results206, go_sem, ↓reduceIte, reduceCtorEq, nA, nB, nC, nD, nE, nF]
   exact ⟨_, _, Weak.refl _, Hp.le.refl _, rfl, rfl⟩
  exact key _ _ _ _ _ rfl rfl rfl rfl rfl
def DQ : Nat → LT → Prop
 | 0, _ => False
 | n + 1, t => 1 ≤ n ∧ (t.kd = 1 ∨ t.kd = 5 ∧ t.hd.kd = 1 ∨ ∀ k ∈ t.ks, DQ n k)
theorem DQ.mono : ∀ {n m : Nat} {t : LT}, DQ n t → n ≤ m → DQ m t
 | 0, _, _, h, _ => h.elim
 | n + 1, 0, _, _, h => by omega
 | n + 1, m + 1, t, ⟨h1, h2⟩, hm => ⟨by omega, by
   rcases h2 with h | h | h
   ·exact .inl h
   ·exact .inr (.inl h)
   ·exact .inr (.inr fun k hk => (h k hk).mono (by omega))⟩
theorem DQ.two : ∀ {n : Nat} {t : LT}, DQ n t → 2 ≤ n
 | 0, _, h => h.elim
 | n + 1, _, h => by have := h.1; omega
theorem DQ.item {n : Nat} {t : LT} (hn : 2 ≤ n) (h : t.kd = 1) : DQ n t := by
 obtain ⟨m, rfl⟩ : ∃ m, n = m + 1 := ⟨n - 1, by omega⟩
 exact ⟨by omega, .inl h⟩
theorem DQ.rep {n : Nat} {it : LT} (hn : 2 ≤ n) (h : it.kd = 1) (m : Int) : DQ n (repK m [it]) := by
 obtain ⟨k, rfl⟩ : ∃ k, n = k + 1 := ⟨n - 1, by omega⟩
 exact ⟨by omega, .inr (.inl ⟨rfl, h⟩)⟩
theorem DQ.congr {n : Nat} {t u : LT} (h : DQ n t) (h1 : u.kd = t.kd) (h2 : u.ks = t.ks) : DQ n u := by
 cases n with
 | zero => exact h.elim
 | succ n =>
  obtain ⟨a, b⟩ := h
  refine ⟨a, ?_⟩
  have h3 : u.hd = t.hd := by rw [LT.hd, LT.hd, h2]
  rw [h1, h2, h3]; exact b
theorem DQ.kids {n : Nat} {t : LT} (h : DQ (n + 1) t) (h1 : t.kd ≠ 1) (h2 : ¬ (t.kd = 5 ∧ t.hd.kd = 1)) : ∀ k ∈ t.ks, DQ n k := by
 rcases h.2 with h | h | h
 ·exact absurd h h1
 ·exact absurd h h2
 ·exact h
theorem WF.five {t : LT} (h : WF t) (h5 : t.kd = 5) : t.ks = [t.hd] := by
 cases t with
 | mk k i l m ks s =>
  have := ((WF_eq ..).mp h).2.2.2.1 h5
  obtain ⟨x, rfl⟩ : ∃ x, ks = [x] := by
   match ks, this.1 with
   | [x], _ => exact ⟨x, rfl⟩
  rfl
theorem WF.one {t : LT} (h : WF t) (h1 : t.kd = 1) : t.ks = [] := by
 cases t with
 | mk k i l m ks s => exact (((WF_eq ..).mp h).2.1 h1).1
theorem DQ.kid {n : Nat} {t : LT} (h : DQ n t) (hw : WF t) {k : LT} (hk : k ∈ t.ks) : DQ n k := by
 cases n with
 | zero => exact h.elim
 | succ n =>
  have h2 := h.two
  rcases h.2 with e | e | e
  ·rw [hw.one e] at hk; cases hk
  ·rw [hw.five e.1, List.mem_singleton] at hk
   rw [hk]; exact .item h2 e.2
  ·exact (e k hk).mono (by omega)
theorem dq_step {n : Nat} {t v : LT} (h : DQ n t) (hw : WF t) (hs : stepT t = some v) : DQ n v := by
 cases t with
 | mk kind item long many kids shares =>
  have hwk : ∀ k ∈ kids, WF k := hw.kids
  have h2 := h.two
  obtain ⟨m, rfl⟩ : ∃ m, n = m + 1 := ⟨n - 1, by omega⟩
  rw [stepT_mk] at hs
  split at hs
  ·cases hs
  rename_i h1
  have hne : kids ≠ [] := hw.ne (t := .mk kind item long many kids shares) h1
  have hm := getD0_mem hne
  have hf : DQ (m + 1) (kids.getD 0 default) := h.kid hw hm
  split at hs
  ·rename_i h5
   split at hs
   ·cases hs; exact hf
   ·split at hs
    ·rename_i hc
     cases hs
     have hk := (DQ.kids h h1 (by
      rintro ⟨_, h9⟩
      have h9' : (kids.getD 0 default).kd = 1 := h9
      omega)) _ hm
     exact (hk.mono (by omega)).congr (by simp only [repK, LT.kd]; exact hc.1.symm) rfl
    ·cases hs
  rename_i h5
  have hkk : ∀ k ∈ kids, DQ m k := DQ.kids h h1 (fun h9 => h5 h9.1)
  split at hs
  ·cases hs; exact hf
  split at hs
  ·split at hs
   ·cases hs
   ·cases hs
    have hm2 := (hkk _ hm).two
    refine ⟨by omega, .inr (.inr ?_)⟩
    show ∀ k ∈ gath (flatT kids), DQ m k
    refine gath_all (p := fun x => DQ m x) (fun it a _ => ⟨.item hm2 a, fun r _ _ => .rep hm2 a r⟩) _ (flatT kids) (Nat.le_refl _) (flatT_wf hwk) fun x hx _ => ?_
    obtain ⟨k, hk2, hxk⟩ := List.mem_flatMap.1 hx
    split at hxk
    ·exact (hkk k hk2).kid (hwk k hk2) hxk
    ·rw [List.mem_singleton.1 hxk]; exact hkk k hk2
  ·split at hs
   ·split at hs
    ·rename_i h4 _
     cases hs
     exact h.congr (by simp only [LT.kd]; exact h4.symm) rfl
    ·cases hs
   ·split at hs
    ·cases hs; exact hf
    ·cases hs
theorem dq_fix {N : Nat} {n : Nat} : ∀ (m : Nat) (t : LT), GoodN N m t → DQ n t → DQ n (fixT m t)
 | 0, _, _, h => h
 | m + 1, t, hg, h => by
  rw [fixT]
  cases hs : stepT t with
  | none => exact h
  | some v => exact dq_fix m v (hg.2 v hs) (dq_step h hg.1.1 hs)
theorem least_item {t : LT} (hw : WF t) (h1 : t.kd = 1) : leastF t = t := by
 cases t with
 | mk kind item long many kids shares =>
  have e := hw.one h1
  simp only [LT.ks] at e
  subst e
  have h1' : kind = 1 := h1
  rw [leastF_eq, List.map_nil]
  exact fix_none (by rw [stepT_mk, if_pos h1']) 2
theorem dq_least : ∀ (t : LT) (n : Nat), WF t → DQ n t → DQ n (leastF t)
 | .mk kind item long many kids shares, n, hw, h => by
  rw [leastF_eq]
  refine dq_fix 2 _ (least_good hw (Nat.le_refl _)) ?_
  have h2 := h.two
  obtain ⟨m, rfl⟩ : ∃ m, n = m + 1 := ⟨n - 1, by omega⟩
  refine ⟨by omega, ?_⟩
  by_cases h1 : kind = 1
  ·exact .inl h1
  by_cases h5 : kind = 5 ∧ (kids.getD 0 default).kd = 1
  ·have h6 : kids = [kids.getD 0 default] := hw.five (t := .mk kind item long many kids shares) h5.1
   have hw0 : WF (kids.getD 0 default) := hw.kids _ (getD0_mem (hw.ne (t := .mk kind item long many kids shares) h1))
   refine .inr (.inl ⟨h5.1, ?_⟩)
   show ((kids.map leastF).getD 0 default).kd = 1
   generalize kids.getD 0 default = x at *
   rw [h6, List.map_cons, List.map_nil, List.getD_cons_zero, least_item hw0 h5.2]; exact h5.2
  ·refine .inr (.inr fun k hk => ?_)
   obtain ⟨k2, hk2, rfl⟩ := List.mem_map.1 (show k ∈ kids.map leastF from hk)
   exact dq_least k2 m (hw.kids k2 hk2) (DQ.kids h h1 h5 k2 hk2)
theorem many_le : ∀ (n : Nat) (t : LT), WF t → DQ n t → manyF t ≤ lv t * n
 | 0, _, _, h => h.elim
 | n + 1, .mk kind item long many kids shares, hw, h => by
  have hwk : ∀ k ∈ kids, WF k := hw.kids
  have h2 := h.two
  have hl := lv_pos _ hw
  have hl1 : ((1 : Nat) : Int) * (n + 1 : Nat) ≤ (lv (.mk kind item long many kids shares) : Int) * (n + 1 : Nat) := Int.mul_le_mul_of_nonneg_right (by omega) (by omega)
  rw [manyF_eq]
  by_cases h1 : kind = 1
  ·have e := hw.one (t := .mk kind item long many kids shares) h1
   simp only [LT.ks] at e
   rw [e]; rw [e] at hl1
   simp only [List.map_nil, List.sum_nil]
   omega
  by_cases h5 : kind = 5 ∧ (kids.getD 0 default).kd = 1
  ·have h6 : kids = [kids.getD 0 default] := hw.five (t := .mk kind item long many kids shares) h5.1
   have hw0 : WF (kids.getD 0 default) := hw.kids _ (getD0_mem (hw.ne (t := .mk kind item long many kids shares) h1))
   have e := hw0.one h5.2
   generalize kids.getD 0 default = x at *
   have hx : manyF x = 1 := by
    cases x with
    | mk a b c d f g =>
     simp only [LT.ks] at e
     rw [manyF_eq, e]; rfl
   rw [h6]; rw [h6] at hl1
   simp only [List.map_cons, List.map_nil, List.sum_cons, List.sum_nil, hx]
   omega
  ·have hkk : ∀ k ∈ kids, DQ n k := DQ.kids h h1 h5
   have key : ∀ l : List LT, (∀ k ∈ l, manyF k ≤ lv k * n) → (l.map manyF).sum ≤ (((l.map lv).sum : Nat) : Int) * n := fun l => by
    induction l with
    | nil => simp
    | cons x l ih =>
     intro h
     have a := h x (by simp)
     have b := ih fun y hy => h y (by simp [hy])
     simp only [List.map_cons, List.sum_cons]
     rw [show ((lv x + (l.map lv).sum : Nat) : Int) = (lv x : Int) + ((l.map lv).sum : Nat) by omega, Int.add_mul]
     omega
   have hs := key kids fun k hk => many_le n k (hwk k hk) (hkk k hk)
   have hlk := lv_ks (t := .mk kind item long many kids shares) (hw.ne h1)
   simp only [LT.ks] at hlk
   rw [← hlk] at hs
   rw [show ((n + 1 : Nat) : Int) = (n : Int) + 1 by omega, Int.mul_add, Int.mul_one]
   omega
theorem kc_of : ∀ (n : Nat) (t : LT), WF t → DQ n t → lv t ≤ 1000 → KC n t
 | 0, _, _, h, _ => h.elim
 | n + 1, .mk kind item long many kids shares, hw, h, hl => by
  have hwk : ∀ k ∈ kids, WF k := hw.kids
  have h2 := h.two
  have hkl := ks_len hw
  simp only [LT.ks] at hkl
  obtain ⟨w1, w2, w3, w4, w5, w6, w7, w8, w9, w10⟩ := (WF_eq ..).mp hw
  refine ⟨by unfold NB; omega, w9.2, w9.1, ?_, by omega, ?_, fun x hx => by have := w8 x hx; unfold NB; omega, fun k hk => ?_⟩
  ·by_cases h5 : kind = 5
   ·have := w4 h5; unfold NB; omega
   ·have := w5 h5; unfold NB; omega
  ·by_cases h4 : kind = 4
   ·have := w6 h4; omega
   ·rw [w7 h4]; simp
  ·have hk' : k ∈ (LT.mk kind item long many kids shares).ks := hk
   have hlk := lv_kid hk'
   by_cases h1 : kind = 1
   ·rw [(w2 h1).1] at hk; cases hk
   by_cases h5 : kind = 5 ∧ (kids.getD 0 default).kd = 1
   ·have h6 : kids = [kids.getD 0 default] := hw.five (t := .mk kind item long many kids shares) h5.1
    have hkd : k.kd = 1 := by
     rw [h6, List.mem_singleton] at hk
     rw [hk]; exact h5.2
    have hwk' := hwk k hk
    cases k with
    | mk a b c d f g =>
     obtain ⟨v1, v2, v3, v4, v5, v6, v7, v8, v9, v10⟩ := (WF_eq ..).mp hwk'
     obtain ⟨n', rfl⟩ : ∃ n', n = n' + 1 := ⟨n - 1, by omega⟩
     obtain ⟨e1, e2, e3⟩ := v2 hkd
     exact ⟨by unfold NB; omega, v9.2, v9.1, by unfold NB; omega, by rw [e1]; simp, by rw [e2]; simp, by rw [e2]; simp, by rw [e1]; simp⟩
   ·exact kc_of n k (hwk k hk) (DQ.kids h h1 h5 k hk) (by omega)
theorem dq_of_deep : ∀ (n : Nat) (t : LT), WF t → deepF t ≤ n → DQ (n + 1) t
 | 0, .mk kind item long many kids shares, _, h => by
  have := (max_bd deepF ((kids.map deepF).foldl max 0 + 0) kids 0)
  rw [deepF_eq] at h
  have mono : ∀ (l : List Int) (a : Int), a ≤ l.foldl max a := fun l => by
   induction l with
   | nil => intro a; exact Int.le_refl _
   | cons y l ih => intro a; have := ih (max a y); simp only [List.foldl_cons]; omega
  have := mono (kids.map deepF) 0
  omega
 | n + 1, .mk kind item long many kids shares, hw, h => by
  refine ⟨by omega, ?_⟩
  by_cases h1 : kind = 1
  ·exact .inl h1
  refine .inr (.inr fun k hk => ?_)
  have hk' : k ∈ kids := hk
  obtain ⟨j, hj, rfl⟩ := List.mem_iff_getElem.1 hk'
  have hm := max_take kids deepF j hj
  rw [deepF_eq] at h
  rw [List.getD_eq_getElem?_getD, List.getElem?_eq_getElem hj, Option.getD_some] at hm
  exact dq_of_deep n _ (hw.kids _ hk) (by omega)
theorem lv_le : ∀ (t : LT), (lv t : Int) ≤ manyF t
 | .mk kind item long many kids shares => by
  have key : ∀ l : List LT, (∀ k ∈ l, (lv k : Int) ≤ manyF k) → (((l.map lv).sum : Nat) : Int) ≤ (l.map manyF).sum := fun l => by
   induction l with
   | nil => intro _; simp
   | cons x l ih =>
    intro h
    have a := h x (by simp)
    have b := ih fun y hy => h y (by simp [hy])
    simp only [List.map_cons, List.sum_cons]
    omega
  have hk := key kids fun k hk => lv_le k
  rw [lv_eq, manyF_eq]
  split
  ·rename_i h9
   have := List.isEmpty_iff.1 h9
   subst this
   simp
  ·omega
theorem bytes_of_bne {a b : ByteArray} (h : ¬ (a != b) = true) : a = b := by
 rw [bne, Bool.not_eq_true', Bool.not_eq_false] at h
 exact bytes_beq.1 h
theorem wf_of : ∀ (d : Nat) (t : LT), KC d t → partF t = 0 → WF t
 | 0, _, h, _ => h.elim
 | d + 1, .mk kind item long many kids shares, hb, hp => by
  obtain ⟨b1, b2, b3, b4, b5, b6, b7, b8⟩ := hb
  rw [partF_eq] at hp
  by_cases h1 : outB kind 1 5
  ·rw [if_pos h1] at hp; omega
  rw [if_neg h1] at hp
  by_cases h2 : formB kind item long many kids.length shares.length
  ·rw [if_pos h2] at hp; omega
  rw [if_neg h2] at hp
  by_cases h3 : (kind == 1 && !keyB item) = true
  ·rw [if_pos h3] at hp; omega
  rw [if_neg h3] at hp
  by_cases h4 : (kind == 1 && outB long 1 3600000) = true
  ·rw [if_pos h4] at hp; omega
  rw [if_neg h4] at hp
  by_cases h5 : (kind == 5 && outB many 1 100) = true
  ·rw [if_pos h5] at hp; omega
  rw [if_neg h5] at hp
  by_cases h6 : shares.any (fun n => outB n 1 1000)
  ·rw [if_pos h6] at hp; omega
  rw [if_neg h6] at hp
  have hnz : ∀ (l : List Int), firstNZ l = 0 → ∀ x ∈ l, x = 0 := fun l => by
   induction l with
   | nil => intro _ x hx; cases hx
   | cons y l ih =>
    intro h x hx
    simp only [firstNZ] at h
    split at h
    ·rename_i h0
     rcases List.mem_cons.1 hx with rfl | hx
     ·exact h0
     ·exact ih h x hx
    ·rename_i h0; exact absurd h h0
  have hk := hnz _ hp
  simp only [outB, Bool.or_eq_true, decide_eq_true_eq, not_or, Int.not_lt] at h1
  simp only [formB, Bool.or_eq_true, Bool.and_eq_true, beq_iff_eq, bne_iff_ne, ne_eq, not_or, not_and, Decidable.not_not] at h2
  simp only [outB, Bool.and_eq_true, beq_iff_eq, Bool.or_eq_true, decide_eq_true_eq, not_and, not_or, Int.not_lt] at h5
  obtain ⟨⟨⟨⟨⟨⟨g1, g2⟩, g3⟩, g4⟩, g5⟩, g6⟩, g7⟩ := h2
  rw [WF_eq]
  refine ⟨by omega, fun h => ⟨List.eq_nil_of_length_eq_zero (by have := g1 h; omega), List.eq_nil_of_length_eq_zero (by have := g5 (by omega); omega), g7 (by omega)⟩, fun h => ⟨bytes_of_bne (g6 h).1, (g6 h).2, fun hn => by subst hn; exact g3 h rfl⟩,
   fun h => ⟨by have := g2 h; omega, (h5 h).1, (h5 h).2⟩, fun h => g7 h, fun h => by have := g4 h; omega, fun h => List.eq_nil_of_length_eq_zero (by have := g5 h; omega), fun n hn => ?_, ⟨b3, b2⟩, fun k hkm => wf_of d k (b8 k hkm) (hk _ (List.mem_map.2 ⟨k, hkm, rfl⟩))⟩
  have h7 : outB n 1 1000 = false := by
   cases e : outB n 1 1000 with
   | false => rfl
   | true => exact absurd (List.any_eq_true.2 ⟨n, hn, e⟩) h6
  simp only [outB, Bool.or_eq_false_iff, decide_eq_false_iff_not, Int.not_lt] at h7
  exact h7
theorem least_small {d : Nat} {t : LT} (hb : KC d t) (hf : faultF t = 0) : WF t ∧ lv t ≤ 200 ∧ KC 13 t ∧ KC 13 (leastF t) ∧ WF (leastF t) ∧ lv (leastF t) ≤ 200 ∧ manyF (leastF t) ≤ 1000000000000000 := by
 unfold faultF at hf
 split at hf
 ·cases hf
 rename_i h
 have hw := wf_of d t hb hf
 have hl := lv_le t
 have hdq := dq_of_deep 12 t hw (by omega)
 have ho := least_ok t hw
 have hdl := dq_least t 13 hw hdq
 have hm := many_le 13 _ ho.2.1 hdl
 exact ⟨hw, by omega, kc_of 13 t hw hdq (by omega), kc_of 13 _ ho.2.1 hdl (by omega), ho.2.1, by omega, by omega⟩
abbrev zP1FE : List Nat := [0, 1, 2, 3]
abbrev zP1FP : List (Nat × List Nat × List Nat) := [(4, [], []), (5, [], [])]
attribute [go_sem] zP1FE zP1FP
theorem g_gcdP (a b : Nat) (h : Hp) (ha : a ≤ 1000000000000) (hb : b ≤ 1000000000000) : ACalls Tryz.prog 146 [.v (.int .i64 a), .v (.int .i64 b)] h (fun r h' => r = .v (.int .i64 (Nat.gcd a b : Nat)) ∧ h' = h) := by
 refine gE Tryz.func146 rfl (by kernel_rfl) 13 rfl fun c => ?_
 (repeat (first | refine gO rfl ?_ | ((refine gR fun K1 hK1 => ?_; simp only [go_sem, ↓reduceIte, reduceCtorEq, nA, nB, nC, nD, nE, nF] <;> and_intros <;> (apply hK1; clear hK1 K1)))))
 refine awp_loopC (rl false [0, 2, 13]) 0 (fun g s => ∃ x : Nat, Nat.gcd x g = Nat.gcd a b ∧ x ≤ 1000000000000 ∧ g ≤ 1000000000000 ∧ s = ⟨((.v (.int .i64 x)) :: (.v (.int .i64 g)) :: (jnk 13 [])), [], h⟩) b ⟨a, rfl, ha, hb, rfl⟩ ?_
 rintro g _ ⟨x, hx, hx1, hg1, rfl⟩
 (repeat (first | refine gO rfl ?_ | ((refine gR fun K1 hK1 => ?_; simp only [go_sem, ↓reduceIte, reduceCtorEq, nA, nB, nC, nD, nE, nF] <;> and_intros <;> (apply hK1; clear hK1 K1)))))
 refine awp_cond (t := _) rfl (fun h1 => ?_) (fun h1 => ?_)
 ·have hg : g ≠ 0 := by simpa using h1
  have hm : (x : Int).tmod (g : Int) = ((x % g : Nat) : Int) := rfl
  have hlt := Nat.mod_lt x (show 0 < g by omega)
  (repeat (first | refine gO rfl ?_ | ((first | refine gR ?_ | (with_reducible refine wM ?_ ?_) | ((with_reducible refine xR ?_); refine uE 2 zM32 zP1FE zP1FP 15 rfl (by kernel_rfl) ?_)) <;> ((try with_reducible intro K1 hK1); simp only [go_sem, ↓reduceIte, reduceCtorEq, nA, nB, nC, nD, nE, nF, hm] <;> and_intros <;> first | (apply hK1; clear hK1 K1) | (intros; (omega))))))
  exact ⟨x % g, hlt, g, by rw [← hx, Nat.gcd_comm x g, Nat.gcd_rec g x, Nat.gcd_comm], hg1, by omega, rfl⟩
 ·have hg : g = 0 := by simpa using h1
  subst hg
  rw [Nat.gcd_zero_right] at hx
  have hmx : max (x : Int) (-(x : Int)) = x := by omega
  (repeat (first | refine gO rfl ?_ | ((refine gR fun K1 hK1 => ?_; simp only [go_sem, ↓reduceIte, reduceCtorEq, nA, nB, nC, nD, nE, nF, hmx] <;> and_intros <;> first | (apply hK1; clear hK1 K1) | (intros; (omega))))))
  simp only [Tryz.results146, go_sem, ↓reduceIte, reduceCtorEq, nA, nB, nC, nD, nE, nF]
  exact ⟨_, _, Weak.refl _, Hp.le.refl _, by rw [← hx], rfl⟩
def gcdTo (l : List Int) (j : Nat) : Nat := ((l.take j).map Int.toNat).foldl Nat.gcd 0
theorem gcdTo_succ (l : List Int) (j : Nat) (h : j < l.length) : gcdTo l (j + 1) = Nat.gcd (gcdTo l j) (l.getD j 0).toNat := by
 rw [gcdTo, List.take_add_one, List.getElem?_eq_getElem h, List.map_append, List.foldl_append, List.getD_eq_getElem?_getD, List.getElem?_eq_getElem h]; rfl
theorem gcdTo_all (l : List Int) : gcdTo l l.length = gcdI l := by
 rw [gcdTo, List.take_length, foldl_gcd, Nat.gcd_zero_left]; rfl
theorem gcdTo_le (l : List Int) (h : ∀ x ∈ l, 1 ≤ x ∧ x ≤ 1000) : ∀ j, j ≤ l.length → gcdTo l j ≤ 1000
 | 0, _ => by simp [gcdTo]
 | j + 1, hj => by
  have hm : l.getD j 0 ∈ l := by rw [List.getD_eq_getElem?_getD, List.getElem?_eq_getElem (by omega)]; exact List.getElem_mem _
  have := h _ hm
  rw [gcdTo_succ l j (by omega)]
  exact Nat.le_trans (Nat.gcd_le_right _ (by omega)) (by omega)
theorem g_divisorP (l : List Int) (h : Hp) (hl : l.length ≤ 1000) (hs : ∀ x ∈ l, 1 ≤ x ∧ x ≤ 1000) : ACalls Tryz.prog 200 [.row 1 (l.map encI) none] h (fun r h' => r = .v (.int .i64 (gcdI l : Nat)) ∧ h' = h) := by
 refine gE Tryz.func200 rfl (by kernel_rfl) 16 rfl fun c => ?_
 (repeat (first | refine gO rfl ?_ | (refine gR fun K1 hK1 => ?_; simp only [go_sem, ↓reduceIte, reduceCtorEq, nA, nB, nC, nD, nE, nF] <;> and_intros <;> (apply hK1; clear hK1 K1))))
 refine awp_loopC (rl false [3, 1, 2, 3, 8]) 0 (fun g s => ∃ j : Nat, g + j = l.length ∧ s = ⟨((jnk 3 ((.v (.int .i64 (gcdTo l j : Nat))) :: AV.junk :: AV.junk :: ((.row 1 (l.map encI) none) :: (.v (.int .i64 l.length)) :: (.v (.int .i64 j)) :: (jnk 8 []))))), [], h⟩) l.length ⟨0, by omega, rfl⟩ ?_
 rintro g _ ⟨j, hj, rfl⟩
 (repeat (first | refine gO rfl ?_ | (refine gR fun K1 hK1 => ?_; simp only [go_sem, ↓reduceIte, reduceCtorEq, nA, nB, nC, nD, nE, nF] <;> and_intros <;> (apply hK1; clear hK1 K1))))
 refine awp_cond (t := _) rfl (fun h1 => ?_) (fun h1 => ?_)
 ·simp only [decide_eq_true_eq] at h1
  have hjl : j < l.length := by omega
  have gx : (l.map encI).getD j [] = encI (l.getD j 0) := getD_enc encI l j 0 hjl
  have hb := hs _ (getD_mem' l j 0 hjl)
  have e1 := gcdTo_succ l j hjl
  have hl1 := gcdTo_le l hs j (by omega)
  generalize l.getD j 0 = x at gx hb e1
  obtain ⟨y, rfl⟩ : ∃ y : Nat, x = y := ⟨x.toNat, by omega⟩
  rw [Int.toNat_natCast] at e1
  (repeat (first | refine gO rfl ?_ | (refine gR fun K1 hK1 => ?_; simp only [go_sem, ↓reduceIte, reduceCtorEq, nA, nB, nC, nD, nE, nF, Int.toNat_natCast, gx, encI] <;> and_intros <;> first | (apply hK1; clear hK1 K1) | (intros; (omega)) | skip)))
  refine (g_gcdP (gcdTo l j) y h (by omega) (by omega)).mono ?_; rintro _ hz ⟨rfl, hh⟩; apply hK1; clear hK1 K1; rw [hh]; clear hh hz
  (repeat (first | refine gO rfl ?_ | (refine gR fun K1 hK1 => ?_; simp only [go_sem, ↓reduceIte, reduceCtorEq, nA, nB, nC, nD, nE, nF] <;> and_intros <;> first | (apply hK1; clear hK1 K1) | (intros; (omega)))))
  exact ⟨g - 1, by omega, j + 1, by omega, by rw [e1]; rfl⟩
 ·simp only [decide_eq_false_iff_not] at h1
  have hjl : j = l.length := by omega
  subst hjl
  rw [gcdTo_all]
  (repeat (first | refine gO rfl ?_ | (refine gR fun K1 hK1 => ?_; simp only [go_sem, ↓reduceIte, reduceCtorEq, nA, nB, nC, nD, nE, nF] <;> and_intros <;> (apply hK1; clear hK1 K1))))
  simp only [Tryz.results200, go_sem, ↓reduceIte, reduceCtorEq, nA, nB, nC, nD, nE, nF]
  exact ⟨_, _, Weak.refl _, Hp.le.refl _, rfl, rfl⟩
abbrev zP1GE : List Nat := [0, 1, 2, 3, 4, 5, 6, 7, 8]
abbrev zP1GP : List (Nat × List Nat × List Nat) := [(9, [3], [10, 11])]
attribute [go_sem] zP1GE zP1GP
theorem g_ixP (fid : Nat) (xs : List AT) (K : AV) (hK : kidsC xs K) (hl : xs.length ≤ 100000) (I P : Nat → Hp → Prop) (h : Hp) (h0 : I 0 h)
  (step : ∀ j h, j < xs.length → I j h → ACalls Tryz.prog fid [.ptr (xs.getD j default).id 0] h (fun r h' => ∃ b, r = .v (.bool b) ∧ (b = true → P j h') ∧ (b = false → I (j + 1) h'))) :
  ACalls Tryz.prog 256 [K, .fn fid []] h (fun r h' => (∃ j : Nat, j < xs.length ∧ r = .v (.int .i64 j) ∧ P j h') ∨ r = .v (.int .i64 (-1)) ∧ I xs.length h') := by
 rcases hK with ⟨rfl, rfl⟩ | ⟨tk, rfl⟩
 ·refine gE Tryz.func256 rfl (by kernel_rfl) 17 rfl fun c => ?_
  (repeat (first | refine gO rfl ?_ | (refine gR fun K1 hK1 => ?_; simp only [go_sem, ↓reduceIte, reduceCtorEq, nA, nB, nC, nD, nE, nF] <;> and_intros <;> (apply hK1; clear hK1 K1))))
  refine awp_loopC (rl false [7, 2, 10]) 0 (fun g s => s = ⟨((jnk 7 ((.v (.int .i64 0)) :: (.v (.int .i64 0)) :: (jnk 10 [])))), [], h⟩) 0 rfl ?_
  rintro g _ rfl
  (repeat (first | refine gO rfl ?_ | (refine gR fun K1 hK1 => ?_; simp only [go_sem, ↓reduceIte, reduceCtorEq, nA, nB, nC, nD, nE, nF] <;> and_intros <;> (apply hK1; clear hK1 K1))))
  refine awp_cond (t := _) rfl (fun h1 => by cases h1) (fun h1 => ?_)
  (repeat (first | refine gO rfl ?_ | (refine gR fun K1 hK1 => ?_; simp only [go_sem, ↓reduceIte, reduceCtorEq, nA, nB, nC, nD, nE, nF] <;> and_intros <;> (apply hK1; clear hK1 K1))))
  simp only [Tryz.results256, go_sem, ↓reduceIte, reduceCtorEq, nA, nB, nC, nD, nE, nF]
  exact ⟨_, _, Weak.refl _, Hp.le.refl _, .inr ⟨rfl, h0⟩⟩
 ·refine gE Tryz.func256 rfl (by kernel_rfl) 17 rfl fun c => ?_
  (repeat (first | refine gO rfl ?_ | (refine gR fun K1 hK1 => ?_; simp only [go_sem, ↓reduceIte, reduceCtorEq, nA, nB, nC, nD, nE, nF] <;> and_intros <;> (apply hK1; clear hK1 K1))))
  refine awp_loopC (rl false [0, 2, 5, 2, 10]) 0 (fun g s => ∃ (j : Nat) (h' : Hp), g + j = xs.length ∧ I j h' ∧ s = ⟨((.row 1 (xs.map fun a => [.ptr a.id 0]) tk) :: (.fn fid []) :: (jnk 5 ((.v (.int .i64 xs.length)) :: (.v (.int .i64 j)) :: (jnk 10 [])))), [], h'⟩) xs.length ⟨0, h, by omega, h0, rfl⟩ ?_
  rintro g _ ⟨j, h', hj, hI, rfl⟩
  (repeat (first | refine gO rfl ?_ | (refine gR fun K1 hK1 => ?_; simp only [go_sem, ↓reduceIte, reduceCtorEq, nA, nB, nC, nD, nE, nF] <;> and_intros <;> (apply hK1; clear hK1 K1))))
  refine awp_cond (t := _) rfl (fun h1 => ?_) (fun h1 => ?_)
  ·simp only [decide_eq_true_eq] at h1
   have hjk : j < xs.length := by omega
   have hg : (xs.map fun a : AT => [AV.ptr a.id 0]).getD j [] = [.ptr (xs.getD j default).id 0] := getD_enc (fun a : AT => [AV.ptr a.id 0]) xs j default hjk
   have st := step j h' hjk hI
   (repeat (first | refine gO rfl ?_ | (refine gR fun K1 hK1 => ?_; simp only [go_sem, ↓reduceIte, reduceCtorEq, nA, nB, nC, nD, nE, nF, Int.toNat_natCast, hg] <;> and_intros <;> first | (apply hK1; clear hK1 K1) | (intros; (omega)) | skip)))
   refine st.mono ?_; rintro _ _ ⟨b, rfl, hb1, hb2⟩; apply hK1; clear hK1 K1
   (repeat ((refine gO rfl ?_)))
   refine awp_cond (t := _) rfl (fun h2 => ?_) (fun h2 => ?_)
   ·(repeat (first | refine gO rfl ?_ | (refine gR fun K1 hK1 => ?_; simp only [go_sem, ↓reduceIte, reduceCtorEq, nA, nB, nC, nD, nE, nF] <;> and_intros <;> (apply hK1; clear hK1 K1))))
    simp only [Tryz.results256, go_sem, ↓reduceIte, reduceCtorEq, nA, nB, nC, nD, nE, nF]
    exact ⟨_, _, Weak.refl _, Hp.le.refl _, .inl ⟨j, hjk, rfl, hb1 h2⟩⟩
   ·(repeat (first | refine gO rfl ?_ | (refine gR fun K1 hK1 => ?_; simp only [go_sem, ↓reduceIte, reduceCtorEq, nA, nB, nC, nD, nE, nF] <;> and_intros <;> first | (apply hK1; clear hK1 K1) | (intros; (omega)))))
    exact ⟨g - 1, by omega, j + 1, _, by omega, hb2 h2, rfl⟩
  ·simp only [decide_eq_false_iff_not] at h1
   have hjk : j = xs.length := by omega
   subst hjk
   (repeat (first | refine gO rfl ?_ | (refine gR fun K1 hK1 => ?_; simp only [go_sem, ↓reduceIte, reduceCtorEq, nA, nB, nC, nD, nE, nF] <;> and_intros <;> (apply hK1; clear hK1 K1))))
   simp only [Tryz.results256, go_sem, ↓reduceIte, reduceCtorEq, nA, nB, nC, nD, nE, nF]
   exact ⟨_, _, Weak.refl _, Hp.le.refl _, .inr ⟨rfl, hI⟩⟩
theorem g_coP (fid : Nat) (xs : List AT) (K : AV) (hK : kidsC xs K) (hl : xs.length ≤ 100000) (q : Nat → Bool) (h : Hp)
  (step : ∀ j, j < xs.length → ACalls Tryz.prog fid [.ptr (xs.getD j default).id 0] h (fun r h' => r = .v (.bool (!q j)) ∧ h' = h)) :
  ACalls Tryz.prog 201 [K, .fn fid []] h (fun r h' => r = .v (.bool (!(List.range xs.length).all q)) ∧ h' = h) := by
 have hi := g_ixP fid xs K hK hl (fun j h' => h' = h ∧ ∀ l, l < j → q l = true) (fun j h' => h' = h ∧ q j = false) h ⟨rfl, fun l hl => by omega⟩ (fun j h' hj ⟨e, hI⟩ => by
  rw [e]
  refine (step j hj).mono ?_
  rintro _ h2 ⟨rfl, e2⟩
  refine ⟨_, rfl, fun hb => ⟨e2, by simpa using hb⟩, fun hb => ⟨e2, fun l hl => ?_⟩⟩
  by_cases hlj : l = j
  ·rw [hlj]; simpa using hb
  ·exact hI l (by omega))
 have o3 : OneV K := by rcases hK with ⟨_, rfl⟩ | ⟨tk, rfl⟩ <;> exact ⟨rfl, rfl, rfl, rfl, rfl⟩
 obtain ⟨w1, w2, w3, w4, w5⟩ := o3
 unfold uside at w1; unfold unw at w2; unfold AV.noLoc at w3; unfold isOpt at w4; simp only [AV.cellsB, Value.oneCell'] at w5
 refine gE Tryz.func201 rfl (by kernel_rfl) 7 rfl fun c => ?_
 (repeat (first | refine gO rfl ?_ | (refine gR fun K1 hK1 => ?_; simp only [go_sem, ↓reduceIte, reduceCtorEq, nA, nB, nC, nD, nE, nF, w1, w2, w3, w4, w5] <;> and_intros <;> first | (apply hK1; clear hK1 K1) | skip)))
 refine hi.mono ?_
 rintro _ h' (⟨j, hj, rfl, rfl, hp⟩ | ⟨rfl, rfl, hi9⟩)
 ·refine hK1 _ ?_; clear hK1 K1
  have e9 : (List.range xs.length).all q = false := by
   rw [List.all_eq_false]
   exact ⟨j, by simpa using hj, by rw [hp]; simp⟩
  (repeat (first | refine gO rfl ?_ | (refine gR fun K1 hK1 => ?_; simp only [go_sem, ↓reduceIte, reduceCtorEq, nA, nB, nC, nD, nE, nF] <;> and_intros <;> (apply hK1; clear hK1 K1))))
  simp only [Tryz.results201, go_sem, ↓reduceIte, reduceCtorEq, nA, nB, nC, nD, nE, nF]
  exact ⟨_, _, Weak.refl _, Hp.le.refl _, by rw [e9]; simp, rfl⟩
 ·refine hK1 _ ?_; clear hK1 K1
  have e9 : (List.range xs.length).all q = true := by
   rw [List.all_eq_true]
   exact fun l hl => hi9 l (by simpa using hl)
  (repeat (first | refine gO rfl ?_ | (refine gR fun K1 hK1 => ?_; simp only [go_sem, ↓reduceIte, reduceCtorEq, nA, nB, nC, nD, nE, nF] <;> and_intros <;> (apply hK1; clear hK1 K1))))
  simp only [Tryz.results201, go_sem, ↓reduceIte, reduceCtorEq, nA, nB, nC, nD, nE, nF]
  exact ⟨_, _, Weak.refl _, Hp.le.refl _, by rw [e9]; simp, rfl⟩
theorem homeF_eq (d : Nat) (kind : Int) (item : ByteArray) (long many : Int) (kids : List LT) (shares : List Int) (p : Int) (cs : List Int) (ks : List PS) :
  homeF (d + 1) (.mk kind item long many kids shares) (.mk p cs ks) = ((p.tmod (everyF kind kids.length shares) == 0) && (List.range kids.length).all fun j => homeF d (kids.getD j default) (ks.getD j default)) := rfl
theorem sum_bdI {l : List Int} (h : ∀ x ∈ l, 1 ≤ x ∧ x ≤ 1000) (hl : l.length ≤ 1000) : 0 ≤ l.sum ∧ l.sum ≤ 1000000 := by
 have key : ∀ l : List Int, (∀ x ∈ l, 1 ≤ x ∧ x ≤ 1000) → 0 ≤ l.sum ∧ l.sum ≤ l.length * 1000 := fun l => by
  induction l with
  | nil => simp
  | cons y l ih => intro h; have := h y (by simp); have := ih fun z hz => h z (by simp [hz]); simp only [List.sum_cons, List.length_cons]; omega
 have := key l h
 omega
theorem g_beginsG : ∀ (d : Nat) (t : LT) (a : AT) (s : PS) (h : Hp), VL d t → RAt XP h d t a s → PSB d t s 100000 → ACalls Tryz.prog 142 [.ptr a.id 0] h (fun r h' => r = .v (.bool (homeF d t s)) ∧ h' = h)
 | 0, _, _, _, _, hv, _, _ => hv.elim
 | d + 1, .mk kind item long many kids shares, .mk i c0 az, .mk p cs ks, h0, hv, hR, hB => by
  obtain ⟨v1, v2, v3, v4, v5, v6, v7, v8⟩ := id hv
  obtain ⟨⟨K, hH, hK⟩, hT, ⟨l1, l2, l3, l4⟩, hkids⟩ := id hR
  obtain ⟨c1, c2, c3⟩ := id hB
  have hH0 : h0.H i = some (.cells [.v (.int .i64 kind), .v (.string item), .v (.int .i64 long), .v (.int .i64 many), .row 6 (kids.map encL) none, .row 1 (shares.map encI) none, K, .v (.int .i64 p), .arr 1 c0 kids.length, .v (.int .i64 shares.sum)]) := hH
  have o3 : OneV K := by rcases hK with ⟨_, rfl⟩ | ⟨tk, rfl⟩ <;> exact ⟨rfl, rfl, rfl, rfl, rfl⟩
  obtain ⟨w1, w2, w3, w4, w5⟩ := o3
  unfold uside at w1; unfold unw at w2; unfold AV.noLoc at w3; unfold isOpt at w4; simp only [AV.cellsB, Value.oneCell'] at w5
  have hclo : ∀ j, j < az.length → ACalls Tryz.prog 202 [.ptr (az.getD j default).id 0] h0 (fun r h' => r = .v (.bool (!homeF d (kids.getD j default) (ks.getD j default))) ∧ h' = h0) := fun j hj => by
   have g1 := g_beginsG d _ _ _ h0 (v8 _ (getD_mem' kids j default (by omega))) (hkids j (by omega)) (c3 j (by omega))
   refine gE Tryz.func202 rfl (by kernel_rfl) 5 rfl fun c => ?_
   (repeat (first | refine gO rfl ?_ | (refine gR fun K1 hK1 => ?_; simp only [go_sem, ↓reduceIte, reduceCtorEq, nA, nB, nC, nD, nE, nF] <;> and_intros <;> first | (apply hK1; clear hK1 K1) | skip)))
   refine g1.mono ?_; rintro _ hz ⟨rfl, hh⟩; apply hK1; clear hK1 K1; rw [hh]; clear hh hz
   (repeat (first | refine gO rfl ?_ | (refine gR fun K1 hK1 => ?_; simp only [go_sem, ↓reduceIte, reduceCtorEq, nA, nB, nC, nD, nE, nF] <;> and_intros <;> (apply hK1; clear hK1 K1))))
   simp only [Tryz.results202, go_sem, ↓reduceIte, reduceCtorEq, nA, nB, nC, nD, nE, nF]
   exact ⟨_, _, Weak.refl _, Hp.le.refl _, rfl, rfl⟩
  have hcon := g_coP 202 az K hK (by omega) (fun j => homeF d (kids.getD j default) (ks.getD j default)) h0 hclo
  rw [l3] at hcon
  have hdiv := g_divisorP shares h0 v7.2 v6
  have hev := every_pos hv
  show ACalls Tryz.prog 142 [.ptr i 0] h0 _
  rw [homeF_eq]
  have hef : everyF kind kids.length shares = if kind = 3 then (kids.length : Int) else if kind = 4 then shares.sum / gcdI shares else 1 := rfl
  generalize hQ : (List.range kids.length).all (fun j => homeF d (kids.getD j default) (ks.getD j default)) = qq at *
  refine gE Tryz.func142 rfl (by kernel_rfl) 43 rfl fun c => ?_
  (repeat (first | refine gQ rfl ?_ | ((refine gR fun K1 hK1 => ?_; simp only [go_sem, ↓reduceIte, reduceCtorEq, nA, nB, nC, nD, nE, nF, hH0] <;> and_intros <;> (apply hK1; clear hK1 K1)))))
  refine awp_seq ?_
  refine awp_join (rl false [0, 1, 2, 1, 40]) 0 (fun s => s = ⟨((.ptr i 0) :: AV.junk :: AV.junk :: ((.v (.int .i64 (everyF kind kids.length shares))) :: (jnk 40 []))), [], h0⟩) ?_ ?_
  ·by_cases h3 : kind = 3
   ·have e3 : (kind == 3) = true := by simp; exact h3
    obtain ⟨tk, rfl⟩ : ∃ tk, K = .row 1 (az.map fun a => [.ptr a.id 0]) tk := by
     rcases hK with ⟨rfl, _⟩ | h9
     ·simp at l3; exact absurd (List.eq_nil_of_length_eq_zero l3.symm) (v3 (by omega))
     ·exact h9
    (repeat (first | refine gO rfl ?_ | ((refine gR fun K1 hK1 => ?_; simp only [go_sem, ↓reduceIte, reduceCtorEq, nA, nB, nC, nD, nE, nF, hH0, e3] <;> and_intros <;> (apply hK1; clear hK1 K1)))))
    refine awp_cond (t := _) rfl (fun _ => ?_) (fun h => by cases h)
    (repeat (first | refine gO rfl ?_ | ((refine gR fun K1 hK1 => ?_; simp only [go_sem, ↓reduceIte, reduceCtorEq, nA, nB, nC, nD, nE, nF, hH0, l3] <;> and_intros <;> (apply hK1; clear hK1 K1)))))
    rw [hef, if_pos h3]; rfl
   ·have e3 : (kind == 3) = false := by simp; exact h3
    by_cases h4 : kind = 4
    ·have e4 : (kind == 4) = true := by simp; exact h4
     have hne : shares ≠ [] := fun e => v3 (by omega) (List.eq_nil_of_length_eq_zero (by rw [← v5 h4, e]; rfl))
     have hgp := gcdI_pos (fun x hx => (v6 x hx).1) hne
     have hsb := sum_bdI v6 v7.2
     have hq2 : shares.sum.tdiv (gcdI shares : Int) = shares.sum / (gcdI shares : Int) := Int.tdiv_eq_ediv_of_nonneg hsb.1
     have hq3 : 0 ≤ shares.sum / (gcdI shares : Int) ∧ shares.sum / (gcdI shares : Int) ≤ shares.sum := ⟨Int.ediv_nonneg hsb.1 (by omega), Int.ediv_le_self _ hsb.1⟩
     (repeat (first | refine gO rfl ?_ | ((refine gR fun K1 hK1 => ?_; simp only [go_sem, ↓reduceIte, reduceCtorEq, nA, nB, nC, nD, nE, nF, hH0, e3, e4] <;> and_intros <;> (apply hK1; clear hK1 K1)))))
     refine awp_cond (t := _) rfl (fun h => by cases h) (fun _ => ?_)
     (repeat (first | refine gO rfl ?_ | ((refine gR fun K1 hK1 => ?_; simp only [go_sem, ↓reduceIte, reduceCtorEq, nA, nB, nC, nD, nE, nF, hH0, e3, e4] <;> and_intros <;> (apply hK1; clear hK1 K1)))))
     refine awp_cond (t := _) rfl (fun _ => ?_) (fun h => by cases h)
     (repeat (((first | refine gR ?_ | ((with_reducible refine xR ?_); refine uE 6 zM32 zP1GE zP1GP 44 rfl (by kernel_rfl) ?_)) <;> ((try with_reducible intro K1 hK1); simp only [go_sem, ↓reduceIte, reduceCtorEq, nA, nB, nC, nD, nE, nF, hH0, hq2] <;> and_intros <;> first | (apply hK1; clear hK1 K1) | skip))))
     refine hdiv.mono ?_; rintro _ hz ⟨rfl, hh⟩; apply hK1; clear hK1 K1; rw [hh]; clear hh hz
     (repeat (first | refine gO rfl ?_ | (((with_reducible refine wM ?_ ?_)) <;> ((try with_reducible intro K1 hK1); simp only [go_sem, ↓reduceIte, reduceCtorEq, nA, nB, nC, nD, nE, nF, hH0, hq2] <;> and_intros <;> first | (apply hK1; clear hK1 K1) | (intros; first | omega | decide | (simp_all <;> omega))))))
     rw [hef, if_neg h3, if_pos h4]; rfl
    ·have e4 : (kind == 4) = false := by simp; exact h4
     (repeat (first | refine gO rfl ?_ | ((refine gR fun K1 hK1 => ?_; simp only [go_sem, ↓reduceIte, reduceCtorEq, nA, nB, nC, nD, nE, nF, hH0, e3, e4] <;> and_intros <;> (apply hK1; clear hK1 K1)))))
     refine awp_cond (t := _) rfl (fun h => by cases h) (fun _ => ?_)
     (repeat (first | refine gO rfl ?_ | ((refine gR fun K1 hK1 => ?_; simp only [go_sem, ↓reduceIte, reduceCtorEq, nA, nB, nC, nD, nE, nF, hH0, e3, e4] <;> and_intros <;> (apply hK1; clear hK1 K1)))))
     refine awp_cond (t := _) rfl (fun h => by cases h) (fun _ => ?_)
     (repeat ((refine gO rfl ?_)))
     rw [hef, if_neg h3, if_neg h4]; rfl
  ·rintro _ rfl
   generalize everyF kind kids.length shares = ev at *
   rcases hb : (p.tmod ev == 0) with _ | _
   ·(repeat (((refine gR fun K1 hK1 => ?_; simp only [go_sem, ↓reduceIte, reduceCtorEq, nA, nB, nC, nD, nE, nF, hH0, w1, w2, w3, w4, w5, hb] <;> and_intros <;> first | (apply hK1; clear hK1 K1) | (intros; (omega)) | skip))))
    refine ⟨.v (.bool false), rfl, True.intro, hK1 _ ?_⟩; clear hK1 K1
    (repeat ((refine gO rfl ?_)))
    simp only [Tryz.results142, go_sem, ↓reduceIte, reduceCtorEq, nA, nB, nC, nD, nE, nF]
    exact ⟨_, _, Weak.refl _, Hp.le.refl _, rfl, rfl⟩
   ·(repeat (((refine gR fun K1 hK1 => ?_; simp only [go_sem, ↓reduceIte, reduceCtorEq, nA, nB, nC, nD, nE, nF, hH0, w1, w2, w3, w4, w5, hb] <;> and_intros <;> first | (intros; first | omega | (simp_all <;> omega)) | skip))))
    refine hcon.mono ?_; rintro _ hz ⟨rfl, hh⟩; refine ⟨rfl, hK1 _ ?_⟩; clear hK1 K1; rw [hh]; clear hh hz
    (repeat (first | refine gO rfl ?_ | ((refine gR fun K1 hK1 => ?_; simp only [go_sem, ↓reduceIte, reduceCtorEq, nA, nB, nC, nD, nE, nF, hH0, w1, w2, w3, w4, w5, hb] <;> and_intros <;> (apply hK1; clear hK1 K1)))))
    simp only [Tryz.results142, go_sem, ↓reduceIte, reduceCtorEq, nA, nB, nC, nD, nE, nF]
    exact ⟨_, _, Weak.refl _, Hp.le.refl _, by simp, rfl⟩
def PassRel (d : Nat) (t : LT) (s : PS) (out : List (ByteArray × Int)) (s' : PS) (out' : List (ByteArray × Int)) : Prop :=
 (5000 < out.length → s' = s ∧ out' = out) ∧ (out.length ≤ 5000 → out.length + (passU d t s).2.length ≤ 5000 → s' = (passU d t s).1 ∧ out' = out ++ (passU d t s).2) ∧
 (out.length ≤ 5000 → 5000 < out.length + (passU d t s).2.length → out'.length = 5001 ∧ PSB d t s' 5001)
def RunR (d : Nat) (kids : List LT) (out : List (ByteArray × Int)) (acc : (List Int × List PS) × List (ByteArray × Int)) (cs : List Int) (ks : List PS) (out' : List (ByteArray × Int)) : Prop :=
 FOk d kids out'.length (cs, ks) ∧ out'.length ≤ 5001 ∧ (out.length + acc.2.length ≤ 5000 → (cs, ks) = acc.1 ∧ out' = out ++ acc.2) ∧ (5000 < out.length + acc.2.length → out'.length = 5001)
theorem set_getD {α : Type} (l : List α) (x : Nat) (d : α) : l.set x (l.getD x d) = l := by
 by_cases h : x < l.length
 ·rw [List.getD_eq_getElem?_getD, List.getElem?_eq_getElem h]; simp
 ·rw [List.set_eq_of_length_le (by omega)]
theorem RunR.step {d : Nat} {kids : List LT} {out : List (ByteArray × Int)} {acc : (List Int × List PS) × List (ByteArray × Int)} {cs : List Int} {ks : List PS} {out' : List (ByteArray × Int)} (hR : RunR d kids out acc cs ks out') {x : Nat} (hx : x < kids.length)
  (hv : VL d (kids.getD x default)) (hf : Fits d (kids.getD x default) (ks.getD x default)) {s'' : PS} {out'' : List (ByteArray × Int)} (hp : PassRel d (kids.getD x default) (ks.getD x default) out' s'' out'') :
  RunR d kids out (stepU (passU d) kids acc x) (if out.length + acc.2.length ≤ 5000 then cs.set x (cs.getD x 0 + 1) else cs) (ks.set x s'') out'' := by
 obtain ⟨h1, h2, h3, h4⟩ := hR
 obtain ⟨p1, p2, p3⟩ := hp
 obtain ⟨⟨f1, f2⟩, f3, f4⟩ := id h1
 have hpo := passU_ok d (kids.getD x default) (ks.getD x default) out'.length hv hf (by omega) (f4 x hx)
 by_cases hex : out.length + acc.2.length ≤ 5000
 ·rw [if_pos hex]
  obtain ⟨e1, e2⟩ := h3 hex
  have e3 : acc.1.1 = cs := by rw [← e1]
  have e4 : acc.1.2 = ks := by rw [← e1]
  have e5 : out'.length = out.length + acc.2.length := by rw [e2, List.length_append]
  have hst : (stepU (passU d) kids acc x).1 = (cs.set x (cs.getD x 0 + 1), ks.set x (passU d (kids.getD x default) (ks.getD x default)).1) := by simp only [stepU, e3, e4]
  have hs2 : (stepU (passU d) kids acc x).2 = acc.2 ++ (passU d (kids.getD x default) (ks.getD x default)).2 := by simp only [stepU, e4]
  by_cases hk : out'.length + (passU d (kids.getD x default) (ks.getD x default)).2.length ≤ 5000
  ·obtain ⟨rfl, rfl⟩ := p2 (by omega) hk
   have hh : FOk d kids out'.length acc.1 := by rw [← e1]; exact h1
   obtain ⟨s1, s2⟩ := stepU_ok (f := passU d) (a := acc) hh hx (by rw [e4]) hpo.1 (by rw [e4]; exact hpo.2.1)
   rw [hst] at s1
   refine ⟨by rw [List.length_append]; exact_mod_cast s1, by rw [List.length_append]; omega, fun _ => ⟨hst.symm, by rw [hs2, e2, List.append_assoc]⟩, fun h => ?_⟩
   rw [hs2, List.length_append] at h; omega
  ·obtain ⟨q1, q2⟩ := p3 (by omega) (by omega)
   have q1' : (out''.length : Int) = 5001 := by omega
   refine ⟨⟨⟨by simpa using f1, by simpa using f2⟩, fun y hy => ?_, fun j hj => ?_⟩, by omega, fun h => ?_, fun _ => q1⟩
   ·rw [q1']
    rcases mem_set_or hy with h | h
    ·have := f3 y h; omega
    ·have := f3 _ (getD_mem' cs x 0 (show x < cs.length from by have : cs.length = kids.length := f1; omega)); omega
   ·rw [q1']
    show PSB d (kids.getD j default) ((ks.set x s'').getD j default) 5001
    by_cases hxj : x = j
    ·subst hxj; rw [getD_setS _ _ _ _ (by have : ks.length = kids.length := f2; omega)]; exact q2
    ·rw [getD_setN _ _ _ _ _ hxj]; exact (f4 j hj).mono (by omega)
   ·rw [hs2, List.length_append] at h; omega
 ·rw [if_neg hex]
  have e5 := h4 (by omega)
  obtain ⟨rfl, rfl⟩ := p1 (by omega)
  rw [set_getD]
  have hs2 : acc.2.length ≤ (stepU (passU d) kids acc x).2.length := by simp [stepU]
  exact ⟨h1, h2, fun h => by omega, fun _ => e5⟩
def oEx : List AV := [.v (.int .i64 5000)]
def St2 (d : Nat) (t : LT) (kids : List LT) (a : AT) (p : Int) (h : Hp) (o k : Nat) (out : List (ByteArray × Int)) (acc : (List Int × List PS) × List (ByteArray × Int)) (h1 : Hp) (cs : List Int) (ks : List PS) (out' : List (ByteArray × Int)) : Prop :=
 RAt XP h1 (d + 1) t a (.mk p cs ks) ∧ OutAt h1 o k oEx out' ∧ FrP a o k h h1 ∧ RunR d kids out acc cs ks out'
def PRp (d : Nat) (t : LT) (a : AT) (s : PS) (h : Hp) (o k : Nat) (out : List (ByteArray × Int)) (r : AV) (h' : Hp) : Prop :=
 r = .tup [] ∧ ∃ s' out', RAt XP h' d t a s' ∧ OutAt h' o k oEx out' ∧ FrP a o k h h' ∧ PassRel d t s out s' out'
theorem RAt.counts {h : Hp} {d : Nat} {kind : Int} {item : ByteArray} {long many : Int} {kids : List LT} {shares : List Int} {a : AT} {p : Int} {cs cs' : List Int} {ks : List PS} (h4 : kind ≠ 4) (hl : cs'.length = cs.length)
  (hR : RAt XP h (d + 1) (.mk kind item long many kids shares) a (.mk p cs ks)) : RAt XP h (d + 1) (.mk kind item long many kids shares) a (.mk p cs' ks) := by
 cases a with
 | mk i c az =>
  obtain ⟨h1, h2, ⟨l1, l2, l3, l4⟩, h5⟩ := hR
  have e : XP.cf kind cs' = XP.cf kind cs := by simp only [XP, if_neg h4, hl]
  exact ⟨h1, by rw [e]; exact h2, ⟨by rw [e]; exact l1, by omega, l3, l4⟩, h5⟩
theorem St2.next {d : Nat} {kind : Int} {item : ByteArray} {long many : Int} {kids : List LT} {shares : List Int} {i c : Nat} {az : List AT} {p : Int} {h : Hp} {o k : Nat} {out : List (ByteArray × Int)} {acc : (List Int × List PS) × List (ByteArray × Int)} {h1 : Hp} {cs : List Int} {ks : List PS} {out' : List (ByteArray × Int)}
  (hs : St2 d (.mk kind item long many kids shares) kids (.mk i c az) p h o k out acc h1 cs ks out') (h4 : kind ≠ 4) (hS : Sep (d + 1) (.mk i c az)) (ho : o ∉ idsT (.mk i c az)) {x : Nat} (hx : x < kids.length) (hv : VL d (kids.getD x default))
  {r : AV} {h3 : Hp} (hp : PRp d (kids.getD x default) (az.getD x default) (ks.getD x default) h1 o k out' r h3) : ∃ cs' ks' out'', St2 d (.mk kind item long many kids shares) kids (.mk i c az) p h o k out (stepU (passU d) kids acc x) h3 cs' ks' out'' := by
 obtain ⟨g1, g2, g3, g4⟩ := hs
 obtain ⟨rfl, s', out'', r1, r2, r3, r4⟩ := hp
 obtain ⟨_, _, ⟨l1, l2, l3, l4⟩, hk⟩ := id g1
 have hkt := g1.tokNe g2.2
 refine ⟨if out.length + acc.2.length ≤ 5000 then cs.set x (cs.getD x 0 + 1) else cs, ks.set x s', out'', (g1.kid hS ho hkt hx r1 r3).counts h4 (by split <;> simp), r2, g3.trans (r3.kid (by omega)), g4.step hx hv (hk x hx).fits r4⟩
theorem St2.ask {d : Nat} {kind : Int} {item : ByteArray} {long many : Int} {kids : List LT} {shares : List Int} {i c : Nat} {az : List AT} {p : Int} {h : Hp} {o k : Nat} {out : List (ByteArray × Int)} {acc : (List Int × List PS) × List (ByteArray × Int)} {h1 : Hp} {cs : List Int} {ks : List PS} {out' : List (ByteArray × Int)}
  (hs : St2 d (.mk kind item long many kids shares) kids (.mk i c az) p h o k out acc h1 cs ks out') (hS : Sep (d + 1) (.mk i c az)) (ho : o ∉ idsT (.mk i c az)) {x : Nat} (hx : x < kids.length) :
  RAt XP h1 d (kids.getD x default) (az.getD x default) (ks.getD x default) ∧ Sep d (az.getD x default) ∧ PSB d (kids.getD x default) (ks.getD x default) out'.length ∧ OutAt h1 o k oEx out' ∧ o ∉ idsT (az.getD x default) ∧ out'.length ≤ 5001 := by
 obtain ⟨g1, g2, g3, g4⟩ := hs
 obtain ⟨_, _, ⟨l1, l2, l3, l4⟩, hk⟩ := id g1
 exact ⟨hk x hx, (hS x (by omega)).1.2.2, g4.1.2.2 x hx, g2, fun hh => ho (idsT_kid (by omega) hh), g4.2.1⟩
theorem St2.cells {d : Nat} {kind : Int} {item : ByteArray} {long many : Int} {kids : List LT} {shares : List Int} {i c : Nat} {az : List AT} {p : Int} {h : Hp} {o k : Nat} {out : List (ByteArray × Int)} {acc : (List Int × List PS) × List (ByteArray × Int)} {h1 : Hp} {cs : List Int} {ks : List PS} {out' : List (ByteArray × Int)}
  (hs : St2 d (.mk kind item long many kids shares) kids (.mk i c az) p h o k out acc h1 cs ks out') (hne : kids ≠ []) : (∃ tk, h1.H i = some (.cells [.v (.int .i64 kind), .v (.string item), .v (.int .i64 long), .v (.int .i64 many), .row 6 (kids.map encL) none, .row 1 (shares.map encI) none, .row 1 (az.map fun a => [.ptr a.id 0]) tk, .v (.int .i64 p), .arr 1 c kids.length, .v (.int .i64 shares.sum)])) ∧ az.length = kids.length := by
 obtain ⟨⟨⟨K, h1, hK⟩, _, ⟨l1, l2, l3, l4⟩, _⟩, _⟩ := hs
 refine ⟨?_, l3⟩
 rcases hK with ⟨rfl, _⟩ | ⟨tk, rfl⟩
 ·simp at l3; exact absurd (List.eq_nil_of_length_eq_zero l3.symm) hne
 ·exact ⟨tk, h1⟩
abbrev zP1HE : List Nat := [0, 1, 2, 3, 4, 5, 6, 7, 8, 9, 10, 11, 12, 13, 14, 15, 16]
abbrev zP1HP : List (Nat × List Nat × List Nat) := [(17, [], [18, 19]), (20, [], [])]
abbrev zP1IE : List Nat := [0, 1, 2, 3, 4, 5, 6, 7, 8, 9, 10, 11, 12, 13, 14, 15, 16]
abbrev zP1IP : List (Nat × List Nat × List Nat) := [(17, [], [])]
attribute [go_sem] zP1HE zP1HP zP1IE zP1IP
def PassJp (d : Nat) (kind : Int) (item : ByteArray) (long many : Int) (kids : List LT) (shares : List Int) (i c0 : Nat) (az : List AT) (p : Int) (cs : List Int) (ks : List PS) (h : Hp) (o k : Nat) (out : List (ByteArray × Int)) (s : St) : Prop :=
 ∃ h1 cs' ks' out', St2 d (.mk kind item long many kids shares) kids (.mk i c0 az) p h o k out ((idxL kind p many kids.length (nextF shares p cs)).foldl (stepU (passU d) kids) ((cs, ks), if kind = 1 then [(item, long)] else [])) h1 cs' ks' out' ∧
  s = ⟨((.ptr i 0) :: (.ptr o 0) :: (jnk 114 [])), [], h1⟩
theorem g_passP : ∀ (d : Nat) (t : LT) (a : AT) (s : PS) (h : Hp) (o k : Nat) (out : List (ByteArray × Int)), VL d t → RAt XP h d t a s → Sep d a → PSB d t s out.length → OutAt h o k oEx out → o ∉ idsT a → out.length ≤ 5001 →
  ACalls Tryz.prog 76 [.ptr a.id 0, .ptr o 0] h (PRp d t a s h o k out)
 | 0, _, _, _, _, _, _, _, hv, _, _, _, _, _, _ => hv.elim
 | d + 1, .mk kind item long many kids shares, .mk i c0 az, .mk p cs ks, h, o, k, out, hv, hR, hS, hB, hO, ho, hout => by
  have hfit := hR.fits
  have hkt := hR.tokNe hO.2
  obtain ⟨v1, v2, v3, v4, v5, v6, v7, v8⟩ := id hv
  obtain ⟨⟨K, hH, hK⟩, hT, ⟨l1, l2, l3, l4⟩, hkids⟩ := id hR
  have hH0 : h.H i = some (.cells [.v (.int .i64 kind), .v (.string item), .v (.int .i64 long), .v (.int .i64 many), .row 6 (kids.map encL) none, .row 1 (shares.map encI) none, K, .v (.int .i64 p), .arr 1 c0 kids.length, .v (.int .i64 shares.sum)]) := hH
  have hO1 : h.H o = some (.cells [.row 2 (out.map encStep) (some k), .v (.int .i64 5000)]) := hO.1
  have hO2 : h.T k = some (.tail out.length) := hO.2
  have hfr0 : FrP (.mk i c0 az) o k h h := ⟨fun _ _ _ => rfl, fun _ _ _ => rfl⟩
  show ACalls Tryz.prog 76 [.ptr i 0, .ptr o 0] h _
  refine gE Tryz.func76 rfl (by kernel_rfl) 114 rfl fun c => ?_
  (repeat (first | refine gO rfl ?_ | ((((with_reducible refine yS ?_); refine awp_keep zK30 100 (kS ?_))) <;> ((try with_reducible intro K1 hK1); simp only [go_sem, ↓reduceIte, reduceCtorEq, nA, nB, nC, nD, nE, nF, nG, nH, nI] <;> and_intros))))
  refine (g_full28 o k h out hO).mono ?_; rintro _ hz ⟨rfl, hh⟩; apply hK1; clear hK1 K1; rw [hh]; clear hh hz
  (repeat ((refine gO rfl ?_)))
  refine awp_cond (t := _) rfl (fun hf => ?_) (fun hf => ?_)
  ·(repeat ((refine gO rfl ?_)))
   simp only [Tryz.results76, go_sem, ↓reduceIte, reduceCtorEq, nA, nB, nC, nD, nE, nF]
   simp only [decide_eq_true_eq] at hf
   exact ⟨_, _, Weak.refl _, Hp.le.refl _, rfl, _, out, hR, hO, hfr0, fun _ => ⟨rfl, rfl⟩, fun h => by omega, fun h => by omega⟩
  simp only [decide_eq_false_iff_not] at hf
  have hpn : 0 ≤ p ∧ p ≤ 5000 := by have := hB.1; omega
  have hcn : ∀ x ∈ cs, 0 ≤ x ∧ x ≤ 1000000 := fun x hx => by have := hB.2.1 x hx; omega
  (repeat ((refine gQ rfl ?_)))
  refine awp_seq ?_
  refine awp_join (rl false [0, 2, 114]) 0 (fun s => PassJp d kind item long many kids shares i c0 az p cs ks h o k out s) ?_ ?_
  ·rcases (show kind = 1 ∨ kind = 2 ∨ kind = 3 ∨ kind = 4 ∨ kind = 5 by omega) with rfl | rfl | rfl | rfl | rfl
   ·(repeat (first | refine gO rfl ?_ | ((((with_reducible refine yS ?_); refine awp_keep zK30 100 (kS ?_))) <;> ((try with_reducible intro K1 hK1); simp only [go_sem, ↓reduceIte, reduceCtorEq, nA, nB, nC, nD, nE, nF, hH0, nG, nH, nI] <;> and_intros <;> (apply hK1; clear hK1 K1)))))
    refine awp_cond (t := _) rfl (fun _ => ?_) (fun h1 => by cases h1)
    (repeat (first | refine gO rfl ?_ | ((first | refine gR ?_ | (with_reducible refine wM ?_ ?_) | ((with_reducible refine xR ?_); refine awp_keep zK30 100 (uE 7 zM32 zP1HE zP1HP 116 rfl (by kernel_rfl) ?_))) <;> ((try with_reducible intro K1 hK1); simp only [go_sem, ↓reduceIte, reduceCtorEq, nA, nB, nC, nD, nE, nF, hH0, hO1, hO2, nG, nH, nI] <;> and_intros <;> first | (apply hK1; clear hK1 K1) | (intros; first | omega | decide)))))
    have hix : idxL 1 p many kids.length (nextF shares p cs) = [] := by simp [idxL]
    refine ⟨{ H := upd h.H o (some (.cells [.row 2 (out.map encStep ++ [[.v (.string item), .v (.int .i64 long)]]) (some k), .v (.int .i64 5000)])), T := upd h.T k (some (.tail (out.length + 1))) }, cs, ks, out ++ [(item, long)], ⟨hR.frame (fun x hx => upd_other _ _ (fun e => by subst e; exact ho hx)) (fun x hx => upd_other _ _ (fun e => by subst e; exact hkt hx)), ⟨?_, ?_⟩, ⟨fun x _ hx => upd_other _ _ hx, fun x _ hx => upd_other _ _ hx⟩, ?_⟩, rfl⟩
    ·rw [show (out ++ [(item, long)]).map encStep = out.map encStep ++ [[.v (.string item), .v (.int .i64 long)]] by simp [encStep]]
     exact upd_same _ _ _
    ·rw [show (out ++ [(item, long)]).length = out.length + 1 by simp]
     exact upd_same _ _ _
    ·rw [hix]
     have e7 : (out ++ [(item, long)]).length = out.length + 1 := by simp
     refine ⟨⟨⟨l2, l4⟩, fun x hx => ?_, fun j hj => (hB.2.2 j hj).mono (by omega)⟩, by omega, fun _ => ⟨rfl, by simp⟩, fun h => ?_⟩
     ·have := hB.2.1 x hx; omega
     ·simp at h; omega
   ·have hs0 : St2 d (.mk 2 item long many kids shares) kids (.mk i c0 az) p h o k out ((cs, ks), []) h cs ks out := ⟨hR, hO, hfr0, ⟨⟨l2, l4⟩, hB.2.1, hB.2.2⟩, by omega, fun _ => ⟨rfl, by simp⟩, fun h => by simp only [List.length_nil] at h; omega⟩
    obtain ⟨⟨tk, hC0⟩, hz0⟩ := hs0.cells (v3 (by omega))
    have hKe := hH0.symm.trans hC0
    simp only [Option.some.injEq, AO.cells.injEq, List.cons.injEq, true_and, and_true] at hKe
    subst hKe
    (repeat (first | refine gO rfl ?_ | ((((with_reducible refine yS ?_); refine awp_keep zK30 100 (kS ?_))) <;> ((try with_reducible intro K1 hK1); simp only [go_sem, ↓reduceIte, reduceCtorEq, nA, nB, nC, nD, nE, nF, hH0, nG, nH, nI] <;> and_intros <;> (apply hK1; clear hK1 K1)))))
    refine awp_cond (t := _) rfl (fun h1 => by cases h1) (fun _ => ?_)
    (repeat (first | refine gO rfl ?_ | ((((with_reducible refine yS ?_); refine awp_keep zK30 100 (kS ?_))) <;> ((try with_reducible intro K1 hK1); simp only [go_sem, ↓reduceIte, reduceCtorEq, nA, nB, nC, nD, nE, nF, hH0, nG, nH, nI] <;> and_intros <;> (apply hK1; clear hK1 K1)))))
    refine awp_cond (t := _) rfl (fun _ => ?_) (fun h1 => by cases h1)
    (repeat (first | refine gO rfl ?_ | ((((with_reducible refine yS ?_); refine awp_keep zK30 100 (kS ?_))) <;> ((try with_reducible intro K1 hK1); simp only [go_sem, ↓reduceIte, reduceCtorEq, nA, nB, nC, nD, nE, nF, hH0, nG, nH, nI] <;> and_intros <;> (apply hK1; clear hK1 K1)))))
    have hix : idxL 2 p many kids.length (nextF shares p cs) = List.range kids.length := by simp [idxL]
    refine awp_loopC (rl false [0, 2, 55, 3, 56]) 0 (fun g s => ∃ (j : Nat) (h1 : Hp) (cs' : List Int) (ks' : List PS) (out' : List (ByteArray × Int)), g + j = kids.length ∧ St2 d (.mk 2 item long many kids shares) kids (.mk i c0 az) p h o k out ((List.range j).foldl (stepU (passU d) kids) ((cs, ks), [])) h1 cs' ks' out' ∧
     s = ⟨((.ptr i 0) :: (.ptr o 0) :: (jnk 55 ((.row 1 (az.map fun a => [.ptr a.id 0]) tk) :: (.v (.int .i64 kids.length)) :: (.v (.int .i64 j)) :: (jnk 56 [])))), [], h1⟩) kids.length ⟨0, h, cs, ks, out, by omega, hs0, by rw [← hz0]; rfl⟩ ?_
    rintro g _ ⟨j, h1, cs', ks', out', hj, hs, rfl⟩
    (repeat (first | refine gO rfl ?_ | ((((with_reducible refine yS ?_); refine awp_keep zK30 100 (kS ?_))) <;> ((try with_reducible intro K1 hK1); simp only [go_sem, ↓reduceIte, reduceCtorEq, nA, nB, nC, nD, nE, nF, nG, nH, nI] <;> and_intros <;> (apply hK1; clear hK1 K1)))))
    refine awp_cond (t := _) rfl (fun h2 => ?_) (fun h2 => ?_)
    ·simp only [decide_eq_true_eq] at h2
     have hx : j < kids.length := by omega
     have hgz : (az.map fun a : AT => [AV.ptr a.id 0]).getD j [] = [.ptr (az.getD j default).id 0] := getD_enc (fun a : AT => [AV.ptr a.id 0]) az j default (by omega)
     obtain ⟨a1, a2, a3, a4, a5, a6⟩ := hs.ask hS ho hx
     (repeat (first | refine gO rfl ?_ | ((first | ((with_reducible refine yS ?_); refine awp_keep zK30 100 (kS ?_)) | ((with_reducible refine yR ?_); refine awp_keep zK30 100 (kR ?_))) <;> ((try with_reducible intro K1 hK1); simp only [go_sem, ↓reduceIte, reduceCtorEq, nA, nB, nC, nD, nE, nF, Int.toNat_natCast, hgz, hz0, nG, nH, nI] <;> and_intros <;> first | (apply hK1; clear hK1 K1) | (intros; (omega)) | skip))))
     refine (g_passP d _ _ _ h1 o k out' (v8 _ (getD_mem' kids j default hx)) a1 a2 a3 a4 a5 a6).mono ?_
     intro r h3 hres
     obtain ⟨cs2, ks2, out2, hs2⟩ := hs.next (by omega) hS ho hx (v8 _ (getD_mem' kids j default hx)) hres
     obtain ⟨rfl, _⟩ := hres
     refine hK1 _ ?_; clear hK1 K1
     (repeat (first | refine gO rfl ?_ | ((((with_reducible refine yR ?_); refine awp_keep zK30 100 (kR ?_))) <;> ((try with_reducible intro K1 hK1); simp only [go_sem, ↓reduceIte, reduceCtorEq, nA, nB, nC, nD, nE, nF, nG, nH, nI] <;> and_intros <;> first | (apply hK1; clear hK1 K1) | (intros; (omega))))))
     exact ⟨g - 1, by omega, j + 1, h3, cs2, ks2, out2, by omega, by rw [List.range_succ, List.foldl_append]; exact hs2, rfl⟩
    ·simp only [decide_eq_false_iff_not] at h2
     have hjk : j = kids.length := by omega
     subst hjk
     (repeat ((refine gO rfl ?_)))
     exact ⟨h1, cs', ks', out', by rw [hix]; exact hs, rfl⟩
   ·have hs0 : St2 d (.mk 3 item long many kids shares) kids (.mk i c0 az) p h o k out ((cs, ks), []) h cs ks out := ⟨hR, hO, hfr0, ⟨⟨l2, l4⟩, hB.2.1, hB.2.2⟩, by omega, fun _ => ⟨rfl, by simp⟩, fun h => by simp only [List.length_nil] at h; omega⟩
    obtain ⟨⟨tk, hC0⟩, hz0⟩ := hs0.cells (v3 (by omega))
    have hKe := hH0.symm.trans hC0
    simp only [Option.some.injEq, AO.cells.injEq, List.cons.injEq, true_and, and_true] at hKe
    subst hKe
    (repeat (first | refine gO rfl ?_ | ((((with_reducible refine yS ?_); refine awp_keep zK30 100 (kS ?_))) <;> ((try with_reducible intro K1 hK1); simp only [go_sem, ↓reduceIte, reduceCtorEq, nA, nB, nC, nD, nE, nF, hH0, nG, nH, nI] <;> and_intros <;> (apply hK1; clear hK1 K1)))))
    refine awp_cond (t := _) rfl (fun h1 => by cases h1) (fun _ => ?_)
    (repeat (first | refine gO rfl ?_ | ((((with_reducible refine yS ?_); refine awp_keep zK30 100 (kS ?_))) <;> ((try with_reducible intro K1 hK1); simp only [go_sem, ↓reduceIte, reduceCtorEq, nA, nB, nC, nD, nE, nF, hH0, nG, nH, nI] <;> and_intros <;> (apply hK1; clear hK1 K1)))))
    refine awp_cond (t := _) rfl (fun h1 => by cases h1) (fun _ => ?_)
    (repeat (first | refine gO rfl ?_ | ((((with_reducible refine yS ?_); refine awp_keep zK30 100 (kS ?_))) <;> ((try with_reducible intro K1 hK1); simp only [go_sem, ↓reduceIte, reduceCtorEq, nA, nB, nC, nD, nE, nF, hH0, nG, nH, nI] <;> and_intros <;> (apply hK1; clear hK1 K1)))))
    refine awp_cond (t := _) rfl (fun _ => ?_) (fun h1 => by cases h1)
    have hnk : 0 < kids.length := List.length_pos_iff.2 (v3 (by omega))
    have htm := Int.tmod_lt_of_pos p (show (0 : Int) < kids.length by omega)
    have htn := Int.tmod_nonneg (kids.length : Int) hpn.1
    have hix : idxL 3 p many kids.length (nextF shares p cs) = [(p.tmod kids.length).toNat] := by simp [idxL]
    have hx : (p.tmod kids.length).toNat < kids.length := by omega
    have hgz : (az.map fun a : AT => [AV.ptr a.id 0]).getD (p.tmod kids.length).toNat [] = [.ptr (az.getD (p.tmod kids.length).toNat default).id 0] := getD_enc (fun a : AT => [AV.ptr a.id 0]) az _ default (by omega)
    obtain ⟨a1, a2, a3, a4, a5, a6⟩ := hs0.ask hS ho hx
    (repeat (((first | refine gR ?_ | ((with_reducible refine xR ?_); refine awp_keep zK30 100 (uE 15 zM32 zP1IE zP1IP 116 rfl (by kernel_rfl) ?_))) <;> ((try with_reducible intro K1 hK1); simp only [go_sem, ↓reduceIte, reduceCtorEq, nA, nB, nC, nD, nE, nF, hH0, hz0, hgz, nG, nH, nI] <;> and_intros <;> first | (apply hK1; clear hK1 K1) | (intros; (omega)) | skip))))
    refine (g_passP d _ _ _ h o k out (v8 _ (getD_mem' kids _ default hx)) a1 a2 a3 a4 a5 a6).mono ?_
    intro r h3 hres
    obtain ⟨cs2, ks2, out2, hs2⟩ := hs0.next (by omega) hS ho hx (v8 _ (getD_mem' kids _ default hx)) hres
    obtain ⟨rfl, _⟩ := hres
    refine hK1 _ ?_; clear hK1 K1
    (repeat (first | refine gO rfl ?_ | (((with_reducible refine wM ?_ ?_)) <;> ((try with_reducible intro K1 hK1); simp only [go_sem, ↓reduceIte, reduceCtorEq, nA, nB, nC, nD, nE, nF, nG, nH, nI] <;> and_intros <;> (apply hK1; clear hK1 K1)))))
    exact ⟨h3, cs2, ks2, out2, by rw [hix]; exact hs2, rfl⟩
   ·have hs0 : St2 d (.mk 4 item long many kids shares) kids (.mk i c0 az) p h o k out ((cs, ks), []) h cs ks out := ⟨hR, hO, hfr0, ⟨⟨l2, l4⟩, hB.2.1, hB.2.2⟩, by omega, fun _ => ⟨rfl, by simp⟩, fun h => by simp only [List.length_nil] at h; omega⟩
    obtain ⟨⟨tk, hC0⟩, hz0⟩ := hs0.cells (v3 (by omega))
    have hKe := hH0.symm.trans hC0
    simp only [Option.some.injEq, AO.cells.injEq, List.cons.injEq, true_and, and_true] at hKe
    subst hKe
    (repeat (first | refine gO rfl ?_ | ((((with_reducible refine yS ?_); refine awp_keep zK30 100 (kS ?_))) <;> ((try with_reducible intro K1 hK1); simp only [go_sem, ↓reduceIte, reduceCtorEq, nA, nB, nC, nD, nE, nF, hH0, nG, nH, nI] <;> and_intros <;> (apply hK1; clear hK1 K1)))))
    refine awp_cond (t := _) rfl (fun h1 => by cases h1) (fun _ => ?_)
    (repeat (first | refine gO rfl ?_ | ((((with_reducible refine yS ?_); refine awp_keep zK30 100 (kS ?_))) <;> ((try with_reducible intro K1 hK1); simp only [go_sem, ↓reduceIte, reduceCtorEq, nA, nB, nC, nD, nE, nF, hH0, nG, nH, nI] <;> and_intros <;> (apply hK1; clear hK1 K1)))))
    refine awp_cond (t := _) rfl (fun h1 => by cases h1) (fun _ => ?_)
    (repeat (first | refine gO rfl ?_ | ((((with_reducible refine yS ?_); refine awp_keep zK30 100 (kS ?_))) <;> ((try with_reducible intro K1 hK1); simp only [go_sem, ↓reduceIte, reduceCtorEq, nA, nB, nC, nD, nE, nF, hH0, nG, nH, nI] <;> and_intros <;> (apply hK1; clear hK1 K1)))))
    refine awp_cond (t := _) rfl (fun h1 => by cases h1) (fun _ => ?_)
    (repeat (first | refine gO rfl ?_ | ((((with_reducible refine yS ?_); refine awp_keep zK30 100 (kS ?_))) <;> ((try with_reducible intro K1 hK1); simp only [go_sem, ↓reduceIte, reduceCtorEq, nA, nB, nC, nD, nE, nF, hH0, nG, nH, nI] <;> and_intros <;> (apply hK1; clear hK1 K1)))))
    refine awp_cond (t := _) rfl (fun _ => ?_) (fun h1 => by cases h1)
    have hsl := v5 rfl
    have hnk : 0 < kids.length := List.length_pos_iff.2 (v3 (by omega))
    have hx : nextF shares p cs < kids.length := by rw [← hsl]; exact bestTo_lt _ _ (by omega)
    have hix : idxL 4 p many kids.length (nextF shares p cs) = [nextF shares p cs] := by simp [idxL]
    have hT0 : h.T c0 = some (.cont 1 (cs.map encI)) := hT
    have hH4 := hH0
    rw [← hsl] at hH4
    (repeat (((((with_reducible refine yS ?_); refine awp_keep zK30 100 (kS ?_))) <;> ((try with_reducible intro K1 hK1); simp only [go_sem, ↓reduceIte, reduceCtorEq, nA, nB, nC, nD, nE, nF, nG, nH, nI] <;> and_intros))))
    refine (g_behind45 4 item long many (.row 6 (kids.map encL) none) shares (.row 1 (az.map fun a => [.ptr a.id 0]) tk) p i c0 cs h hH4 hT0 (by omega) (by omega) v6 (by omega) hcn).mono ?_; rintro _ hz ⟨rfl, hh⟩; apply hK1; clear hK1 K1; rw [hh]; clear hh hz
    have hcl : cs.length = kids.length := l2
    have hgc : (cs.map encI).getD (nextF shares p cs) [] = encI (cs.getD (nextF shares p cs) 0) := getD_enc encI cs _ 0 (by omega)
    have hcb := hcn _ (getD_mem' cs (nextF shares p cs) 0 (by omega))
    have hgz : (az.map fun a : AT => [AV.ptr a.id 0]).getD (nextF shares p cs) [] = [.ptr (az.getD (nextF shares p cs) default).id 0] := getD_enc (fun a : AT => [AV.ptr a.id 0]) az _ default (by omega)
    generalize hxe : nextF shares p cs = x at *
    (repeat (first | refine gO rfl ?_ | ((first | ((with_reducible refine yS ?_); refine awp_keep zK30 100 (kS ?_)) | ((with_reducible refine yR ?_); refine awp_keep zK30 100 (kR ?_)) | refine gR ?_) <;> ((try with_reducible intro K1 hK1); simp only [go_sem, ↓reduceIte, reduceCtorEq, nA, nB, nC, nD, nE, nF, hH0, hT0, hcl, hgc, hz0, hgz, Int.toNat_natCast, encI, nG, nH, nI] <;> and_intros <;> first | (apply hK1; clear hK1 K1) | (intros; (omega)) | skip))))
    have hck : c0 ≠ k := fun e => hkt (by rw [toksT_eq, e]; simp)
    have hR4 := hR.count hS (cs' := cs.set x (cs.getD x 0 + 1)) (by simp) (by simp [XP]; omega)
    rw [show XP.cf 4 (cs.set x (cs.getD x 0 + 1)) = cs.set x (cs.getD x 0 + 1) from rfl, List.map_set] at hR4
    have hO4 : OutAt { h with T := upd h.T c0 (some (.cont 1 ((cs.map encI).set x (encI (cs.getD x 0 + 1))))) } o k oEx out := ⟨hO.1, (upd_other _ _ (fun e => hck e.symm)).trans hO.2⟩
    have hk4 := hR4.2.2.2 x hx
    have hF4 : FrP (.mk i c0 az) o k h { h with T := upd h.T c0 (some (.cont 1 ((cs.map encI).set x (encI (cs.getD x 0 + 1))))) } := ⟨fun _ _ _ => rfl, fun y hy _ => upd_other _ _ (fun e => hy (by rw [toksT_eq, e]; simp))⟩
    refine (g_passP d _ _ _ _ o k out (v8 _ (getD_mem' kids x default hx)) hk4 (hS x (by omega)).1.2.2 (hB.2.2 x hx) hO4 (fun hh => ho (idsT_kid (by omega) hh)) hout).mono ?_
    rintro r h3 ⟨rfl, s', out2, r1, r2, r3, r4⟩
    refine hK1 _ ?_; clear hK1 K1
    (repeat ((refine gO rfl ?_)))
    have hst := hs0.2.2.2.step hx (v8 _ (getD_mem' kids x default hx)) hk4.fits r4
    rw [if_pos (by simp only [List.length_nil]; omega)] at hst
    exact ⟨h3, _, _, out2, ⟨hR4.kid hS ho (hR4.tokNe hO4.2) hx r1 r3, r2, hF4.trans (r3.kid (by omega)), by rw [hxe, hix]; exact hst⟩, rfl⟩
   ·have hs0 : St2 d (.mk 5 item long many kids shares) kids (.mk i c0 az) p h o k out ((cs, ks), []) h cs ks out := ⟨hR, hO, hfr0, ⟨⟨l2, l4⟩, hB.2.1, hB.2.2⟩, by omega, fun _ => ⟨rfl, by simp⟩, fun h => by simp only [List.length_nil] at h; omega⟩
    obtain ⟨⟨tk, hC0⟩, hz0⟩ := hs0.cells (v3 (by omega))
    have hKe := hH0.symm.trans hC0
    simp only [Option.some.injEq, AO.cells.injEq, List.cons.injEq, true_and, and_true] at hKe
    subst hKe
    (repeat (first | refine gO rfl ?_ | ((((with_reducible refine yS ?_); refine awp_keep zK30 100 (kS ?_))) <;> ((try with_reducible intro K1 hK1); simp only [go_sem, ↓reduceIte, reduceCtorEq, nA, nB, nC, nD, nE, nF, hH0, nG, nH, nI] <;> and_intros <;> (apply hK1; clear hK1 K1)))))
    refine awp_cond (t := _) rfl (fun h1 => by cases h1) (fun _ => ?_)
    (repeat (first | refine gO rfl ?_ | ((((with_reducible refine yS ?_); refine awp_keep zK30 100 (kS ?_))) <;> ((try with_reducible intro K1 hK1); simp only [go_sem, ↓reduceIte, reduceCtorEq, nA, nB, nC, nD, nE, nF, hH0, nG, nH, nI] <;> and_intros <;> (apply hK1; clear hK1 K1)))))
    refine awp_cond (t := _) rfl (fun h1 => by cases h1) (fun _ => ?_)
    (repeat (first | refine gO rfl ?_ | ((((with_reducible refine yS ?_); refine awp_keep zK30 100 (kS ?_))) <;> ((try with_reducible intro K1 hK1); simp only [go_sem, ↓reduceIte, reduceCtorEq, nA, nB, nC, nD, nE, nF, hH0, nG, nH, nI] <;> and_intros <;> (apply hK1; clear hK1 K1)))))
    refine awp_cond (t := _) rfl (fun h1 => by cases h1) (fun _ => ?_)
    (repeat (first | refine gO rfl ?_ | ((((with_reducible refine yS ?_); refine awp_keep zK30 100 (kS ?_))) <;> ((try with_reducible intro K1 hK1); simp only [go_sem, ↓reduceIte, reduceCtorEq, nA, nB, nC, nD, nE, nF, hH0, nG, nH, nI] <;> and_intros <;> (apply hK1; clear hK1 K1)))))
    refine awp_cond (t := _) rfl (fun h1 => by cases h1) (fun _ => ?_)
    have hm5 := v4 rfl
    have hx : 0 < kids.length := by omega
    (repeat (first | refine gO rfl ?_ | ((((with_reducible refine yS ?_); refine awp_keep zK30 100 (kS ?_))) <;> ((try with_reducible intro K1 hK1); simp only [go_sem, ↓reduceIte, reduceCtorEq, nA, nB, nC, nD, nE, nF, hH0, nG, nH, nI] <;> and_intros <;> (apply hK1; clear hK1 K1)))))
    have hix : idxL 5 p many kids.length (nextF shares p cs) = List.replicate many.toNat 0 := by simp [idxL]
    refine awp_loopC (rl false [0, 2, 16, 2, 96]) 0 (fun g s => ∃ (j : Nat) (h1 : Hp) (cs' : List Int) (ks' : List PS) (out' : List (ByteArray × Int)), g + j = many.toNat ∧ St2 d (.mk 5 item long many kids shares) kids (.mk i c0 az) p h o k out ((List.replicate j 0).foldl (stepU (passU d) kids) ((cs, ks), [])) h1 cs' ks' out' ∧
     s = ⟨((.ptr i 0) :: (.ptr o 0) :: (jnk 16 ((.v (.int .i64 many)) :: (.v (.int .i64 j)) :: (jnk 96 [])))), [], h1⟩) many.toNat ⟨0, h, cs, ks, out, by omega, hs0, rfl⟩ ?_
    rintro g _ ⟨j, h1, cs', ks', out', hj, hs, rfl⟩
    (repeat (first | refine gO rfl ?_ | ((((with_reducible refine yS ?_); refine awp_keep zK30 100 (kS ?_))) <;> ((try with_reducible intro K1 hK1); simp only [go_sem, ↓reduceIte, reduceCtorEq, nA, nB, nC, nD, nE, nF, nG, nH, nI] <;> and_intros <;> (apply hK1; clear hK1 K1)))))
    refine awp_cond (t := _) rfl (fun h2 => ?_) (fun h2 => ?_)
    ·simp only [decide_eq_true_eq] at h2
     have hgz : (az.map fun a : AT => [AV.ptr a.id 0]).getD 0 [] = [.ptr (az.getD 0 default).id 0] := getD_enc (fun a : AT => [AV.ptr a.id 0]) az 0 default (by omega)
     obtain ⟨a1, a2, a3, a4, a5, a6⟩ := hs.ask hS ho hx
     obtain ⟨⟨tk1, hC1⟩, _⟩ := hs.cells (v3 (by omega))
     have hgz0 : ∀ tz, (az.map fun a : AT => [AV.ptr a.id 0]).getD (Int.toNat 0) tz = (az.map fun a : AT => [AV.ptr a.id 0]).getD 0 tz := fun _ => rfl
     (repeat (first | refine gO rfl ?_ | ((((with_reducible refine yR ?_); refine awp_keep zK30 100 (kR ?_))) <;> ((try with_reducible intro K1 hK1); simp only [go_sem, ↓reduceIte, reduceCtorEq, nA, nB, nC, nD, nE, nF, hC1, hgz0, hgz, hz0, nG, nH, nI] <;> and_intros <;> first | (intros; (omega)) | skip))))
     refine (g_passP d _ _ _ h1 o k out' (v8 _ (getD_mem' kids 0 default hx)) a1 a2 a3 a4 a5 a6).mono ?_
     intro r h3 hres
     obtain ⟨cs2, ks2, out2, hs2⟩ := hs.next (by omega) hS ho hx (v8 _ (getD_mem' kids 0 default hx)) hres
     obtain ⟨rfl, _⟩ := hres
     refine hK1 _ ?_; clear hK1 K1
     (repeat (first | refine gO rfl ?_ | ((((with_reducible refine yR ?_); refine awp_keep zK30 100 (kR ?_))) <;> ((try with_reducible intro K1 hK1); simp only [go_sem, ↓reduceIte, reduceCtorEq, nA, nB, nC, nD, nE, nF, nG, nH, nI] <;> and_intros <;> first | (apply hK1; clear hK1 K1) | (intros; (omega))))))
     exact ⟨g - 1, by omega, j + 1, h3, cs2, ks2, out2, by omega, by rw [List.replicate_succ', List.foldl_append]; exact hs2, rfl⟩
    ·simp only [decide_eq_false_iff_not] at h2
     have hjk : j = many.toNat := by omega
     subst hjk
     (repeat ((refine gO rfl ?_)))
     exact ⟨h1, cs', ks', out', by rw [hix]; exact hs, rfl⟩
  ·rintro _ ⟨h1, cs', ks', out', ⟨g1, g2, g3, g4⟩, rfl⟩
   obtain ⟨⟨K1', hH1, hK1'⟩, hT1, ⟨m1, m2, m3, m4⟩, hk1⟩ := id g1
   have hH10 : h1.H i = some (.cells [.v (.int .i64 kind), .v (.string item), .v (.int .i64 long), .v (.int .i64 many), .row 6 (kids.map encL) none, .row 1 (shares.map encI) none, K1', .v (.int .i64 p), .arr 1 c0 kids.length, .v (.int .i64 shares.sum)]) := hH1
   have hoi : o ≠ i := fun e => ho (by rw [idsT_eq, e]; simp)
   have hPS := passU_succ d kind item long many kids shares p cs ks
   have hpo := passU_ok (d + 1) _ _ out.length hv hfit (by omega) hB
   generalize (idxL kind p many kids.length (nextF shares p cs)).foldl (stepU (passU d) kids) ((cs, ks), if kind = 1 then [(item, long)] else []) = acc at *
   (repeat (first | refine gO rfl ?_ | ((((with_reducible refine yR ?_); refine awp_keep zK30 100 (kR ?_))) <;> ((try with_reducible intro K1 hK1); simp only [go_sem, ↓reduceIte, reduceCtorEq, nA, nB, nC, nD, nE, nF, hH10, nG, nH, nI] <;> and_intros <;> first | (apply hK1; clear hK1 K1) | (intros; (omega))))))
   simp only [retQ, Tryz.results76, resV, resL]
   refine ⟨_, _, Weak.refl _, Hp.le.refl _, rfl, .mk (p + 1) cs' ks', out', g1.hadOne hS hK1', ⟨(upd_other _ _ hoi).trans g2.1, g2.2⟩, g3.trans ⟨fun y hy _ => upd_other _ _ (fun e => hy (by rw [idsT_eq, e]; simp)), fun _ _ _ => rfl⟩, fun h => by omega, fun _ hle => ?_, fun _ hlt => ?_⟩
   ·rw [hPS] at hle ⊢
    obtain ⟨e1, e2⟩ := g4.2.2.1 hle
    have e3 : acc.1.1 = cs' := by rw [← e1]
    have e4 : acc.1.2 = ks' := by rw [← e1]
    exact ⟨by rw [e3, e4], e2⟩
   ·rw [hPS] at hlt
    have e5 := g4.2.2.2 hlt
    refine ⟨e5, ⟨by omega, ?_, ?_⟩⟩
    ·have := g4.1.2.1; rw [e5] at this; exact this
    ·have := g4.1.2.2; rw [e5] at this; exact this
noncomputable def roundC (d : Nat) (t : LT) : List AV := [.v (.int .i64 (roundN d t : Nat)), .row 2 ((roundS d t).map encStep) none, .v (.int .i64 ((roundS d t).map (·.2)).sum)]
theorem roundS_some {d : Nat} {t : LT} {N : Nat} (h : RoundIs d t N) : roundS d t = (passesU d t N).2 ∧ roundE d t = 0 ∧ roundN d t = N := by
 have e := roundN_some h
 have h1 := h.1.1
 exact ⟨by rw [roundS, if_neg (by omega), e], by rw [roundE, if_neg (by omega)], e⟩
theorem roundS_none {d : Nat} {t : LT} (e : roundN d t = 0) : roundS d t = [] ∧ roundE d t = 2 := ⟨by rw [roundS, if_pos e], by rw [roundE, if_pos e]⟩
theorem roundC_none {d : Nat} {t : LT} (e : roundN d t = 0) : roundC d t = [.v (.int .i64 0), .row 2 [] none, .v (.int .i64 0)] := by
 rw [roundC, e, (roundS_none e).1]; rfl
theorem passesU_len (d : Nat) (t : LT) (j : Nat) : (passesU d t (j + 1)).2.length = (passesU d t j).2.length + (passU d t (passesU d t j).1).2.length := by simp only [passesU, List.length_append]
theorem sum_bdS (xs : List (ByteArray × Int)) (h : ∀ x ∈ xs, 1 ≤ x.2 ∧ x.2 ≤ 3600000) : 0 ≤ (xs.map (·.2)).sum ∧ (xs.map (·.2)).sum ≤ xs.length * 3600000 := by
 induction xs with
 | nil => simp
 | cons y l ih => have := h y (by simp); have := ih fun z hz => h z (by simp [hz]); simp only [List.map_cons, List.sum_cons, List.length_cons]; omega
theorem g_roundP (d : Nat) (t : LT) (h : Hp) (hb : KC d t) (hv : VL d t) (hil : IL d t) : ACalls Tryz.prog 79 [.agg (encL t)] h (fun r _ => r = .tup [.agg (roundC d t), .v (.int .i64 (roundE d t))]) := by
 have hlen := encL_len t
 have htk : List.take 6 (encL t) = encL t := List.take_of_length_le (Nat.le_of_eq hlen)
 have hdk : List.drop 6 (encL t) = [] := List.drop_of_length_le (Nat.le_of_eq hlen)
 refine gE Tryz.func79 rfl (by kernel_rfl) 56 rfl fun c => ?_
 (repeat (first | refine gQ rfl ?_ | (refine gM zM34 fun K1 hK1 => ?_; simp only [go_sem, ↓reduceIte, reduceCtorEq, nA, nB, nC, nD, nE, nF, hlen, htk, hdk] <;> and_intros <;> first | (apply hK1; clear hK1 K1) | skip)))
 refine (g_newPart d t h hb).mono ?_
 rintro _ h1 ⟨a, rfl, hR, hS, hn1, hn2, hk1, hk2⟩
 refine hK1 _ ?_; clear hK1 K1
 first | refine gO rfl ?_ | (refine gM zM34 fun K1 hK1 => ?_; simp only [go_sem, ↓reduceIte, reduceCtorEq, nA, nB, nC, nD, nE, nF] <;> and_intros <;> first | (apply hK1; clear hK1 K1) | (intros; first | omega | decide | (simp_all <;> omega)) | skip)
 intro o ho
 refine hK1 _ ?_; clear hK1 K1
 refine vRem_nil ?_
 refine awp_ownPtr (cs := [.v (.slice none 0 0), .v (.int .i64 5000)]) o 0 2 (upd_same _ _ _) rfl (fun k hk => ?_)
 simp only [List.set_cons_zero, upd_upd]
 replace hk : h1.T k = none := hk
 replace ho : h1.H o = none := ho
 have hoa : o ∉ idsT a := fun hx => hR.ne.1 o hx ho
 have hka : k ∉ toksT a := fun hx => hR.ne.2 k hx hk
 have hok := passesU_ok d t hv
 (repeat (first | refine gQ rfl ?_ | (refine gM zM34 fun K1 hK1 => ?_; simp only [go_sem, ↓reduceIte, reduceCtorEq, nA, nB, nC, nD, nE, nF] <;> and_intros <;> (apply hK1; clear hK1 K1))))
 refine awp_seq ?_
 refine awp_block ?_
 refine awp_loopC (rl false [2, 1, 1, 3, 50]) 2 (fun g s => ∃ (j : Nat) (h2 : Hp), g + j = 5001 ∧ (passesU d t j).2.length ≤ 5000 ∧ (∀ n, 1 ≤ n → n < j → homeF d t (passesU d t n).1 = false) ∧ RAt XP h2 d t a (passesU d t j).1 ∧ OutAt h2 o k oEx (passesU d t j).2 ∧
  s = ⟨(AV.junk :: AV.junk :: ((.loc 0 0) :: AV.junk :: ((.ptr a.id 0) :: (.ptr o 0) :: (.loc 1 0) :: (jnk 50 [])))), [[.v (.int .i64 0), .v (.slice none 0 0), .v (.int .i64 0)], [.v (.int .i64 j), .v (.slice none 0 0), .v (.int .i64 0)]], h2⟩) 5001 ⟨0, _, by omega, by simp [passesU], fun n h1 h2 => by omega, hR.frame (fun i hi => upd_other _ _ (fun e => hoa (by subst e; exact hi))) (fun c hc => upd_other _ _ (fun e => hka (by subst e; exact hc))), ⟨upd_same _ _ _, upd_same _ _ _⟩, rfl⟩ ?_
 rintro g _ ⟨j, h2, hj, hlj, hnh, hR2, hO2, rfl⟩
 have hj5 : j ≤ 5000 := by have := (hok j).2.2; omega
 skip
 refine awp_seq ?_
 refine awp_join (rl false [2, 1, 1, 3, 50]) 2 (fun s => (∀ n, 1 ≤ n → n ≤ j → homeF d t (passesU d t n).1 = false) ∧ s = ⟨(AV.junk :: AV.junk :: ((.loc 0 0) :: AV.junk :: ((.ptr a.id 0) :: (.ptr o 0) :: (.loc 1 0) :: (jnk 50 [])))), [[.v (.int .i64 0), .v (.slice none 0 0), .v (.int .i64 0)], [.v (.int .i64 j), .v (.slice none 0 0), .v (.int .i64 0)]], h2⟩) ?_ ?_
 ·by_cases hj0 : j = 0
  ·have e0 : ((j : Int) == 0) = true := by simp; omega
   (repeat ((refine gM zM34 fun K1 hK1 => ?_; simp only [go_sem, ↓reduceIte, reduceCtorEq, nA, nB, nC, nD, nE, nF, e0] <;> and_intros <;> first | (apply hK1; clear hK1 K1) | skip)))
   refine ⟨.v (.bool true), rfl, hK1 _ ?_⟩; clear hK1 K1
   (repeat ((refine gO rfl ?_)))
   refine awp_cond (t := _) rfl (fun _ => ?_) (fun h => by cases h)
   (repeat ((refine gO rfl ?_)))
   exact ⟨fun n h1 h2 => by omega, rfl⟩
  ·have e0 : ((j : Int) == 0) = false := by simp; omega
   (repeat ((refine gM zM34 fun K1 hK1 => ?_; simp only [go_sem, ↓reduceIte, reduceCtorEq, nA, nB, nC, nD, nE, nF, e0] <;> and_intros <;> first | (intros; (simp_all <;> omega)) | skip)))
   refine (g_beginsG d t a _ h2 hv hR2 ((hok j).1.mono (by omega))).mono ?_; rintro _ hz ⟨rfl, hh⟩; refine ⟨rfl, hK1 _ ?_⟩; clear hK1 K1; rw [hh]; clear hh hz
   (repeat (first | refine gO rfl ?_ | (refine gM zM34 fun K1 hK1 => ?_; simp only [go_sem, ↓reduceIte, reduceCtorEq, nA, nB, nC, nD, nE, nF, e0] <;> and_intros <;> (apply hK1; clear hK1 K1))))
   cases eh : homeF d t (passesU d t j).1 with
   | true =>
    have hri : RoundIs d t j := ⟨by omega, hlj, eh, hnh⟩
    obtain ⟨r1, r2, r3⟩ := roundS_some hri
    have hlong := passes_long hil j
    have hO20 : h2.H o = some (.cells [.row 2 ((passesU d t j).2.map encStep) (some k), .v (.int .i64 5000)]) := hO2.1
    have hrc : roundC d t = [.v (.int .i64 j), .row 2 ((passesU d t j).2.map encStep) none, .v (.int .i64 ((passesU d t j).2.map (·.2)).sum)] := by rw [roundC, r1, r3]
    rw [hrc, r2]
    refine awp_cond (t := _) rfl (fun h => by cases h) (fun _ => ?_)
    generalize (passesU d t j).2 = xs at *
    (repeat (first | refine gQ rfl ?_ | (refine gM zM34 fun K1 hK1 => ?_; simp only [go_sem, ↓reduceIte, reduceCtorEq, nA, nB, nC, nD, nE, nF, hO20] <;> and_intros <;> (apply hK1; clear hK1 K1))))
    refine awp_seq ?_
    (repeat (first | refine gO rfl ?_ | (refine gM zM34 fun K1 hK1 => ?_; simp only [go_sem, ↓reduceIte, reduceCtorEq, nA, nB, nC, nD, nE, nF] <;> and_intros <;> (apply hK1; clear hK1 K1))))
    refine awp_loopC (rl false [2, 1, 3, 1, 36, 3, 11]) 2 (fun g s => ∃ m : Nat, g + m = xs.length ∧ s = ⟨(AV.junk :: AV.junk :: ((.loc 0 0) :: (jnk 3 ((.loc 1 0) :: (jnk 36 ((.row 2 (xs.map encStep) (some k)) :: (.v (.int .i64 xs.length)) :: (.v (.int .i64 m)) :: (jnk 11 []))))))),
     [[.v (.int .i64 0), .v (.slice none 0 0), .v (.int .i64 0)], [.v (.int .i64 j), .row 2 (xs.map encStep) (some k), .v (.int .i64 ((xs.map (·.2)).take m).sum)]], h2⟩) xs.length ⟨0, by omega, rfl⟩ ?_
    rintro g2 _ ⟨m, hm, rfl⟩
    have hsb : 0 ≤ ((xs.map (·.2)).take m).sum ∧ ((xs.map (·.2)).take m).sum ≤ 5000 * 3600000 := by
     have h9 := sum_bdS (xs.take m) fun x hx => hlong x (List.mem_of_mem_take hx)
     rw [← List.map_take]
     have h10 : ((xs.take m).length : Int) ≤ 5000 := by simp; omega
     omega
    (repeat (first | refine gO rfl ?_ | (refine gM zM34 fun K1 hK1 => ?_; simp only [go_sem, ↓reduceIte, reduceCtorEq, nA, nB, nC, nD, nE, nF] <;> and_intros <;> (apply hK1; clear hK1 K1))))
    refine awp_cond (t := _) rfl (fun h9 => ?_) (fun h9 => ?_)
    ·simp only [decide_eq_true_eq] at h9
     have hmx : m < xs.length := by omega
     have hgx : (xs.map encStep).getD m [] = encStep (xs.getD m default) := getD_enc encStep xs m default hmx
     have hxb := hlong _ (getD_mem' xs m default hmx)
     have e9 : ((xs.map (·.2)).take (m + 1)).sum = ((xs.map (·.2)).take m).sum + (xs.getD m default).2 := by
      rw [sum_take_succ _ _ (by simpa using hmx)]
      congr 1
      rw [List.getD_eq_getElem?_getD, List.getD_eq_getElem?_getD, List.getElem?_map, List.getElem?_eq_getElem hmx]; rfl
     generalize xs.getD m default = y at hgx hxb e9
     (repeat (first | refine gO rfl ?_ | (refine gM zM34 fun K1 hK1 => ?_; simp only [go_sem, ↓reduceIte, reduceCtorEq, nA, nB, nC, nD, nE, nF, Int.toNat_natCast, hgx, encStep] <;> and_intros <;> first | (apply hK1; clear hK1 K1) | (intros; (omega)))))
     refine ⟨g2 - 1, by omega, m + 1, by omega, ?_⟩
     rw [e9]; rfl
    ·simp only [decide_eq_false_iff_not] at h9
     have hmx : m = xs.length := by omega
     rw [List.take_of_length_le (by simp; omega)] at hsb ⊢
     (repeat (first | refine gO rfl ?_ | (refine gM zM34 fun K1 hK1 => ?_; simp only [go_sem, ↓reduceIte, reduceCtorEq, nA, nB, nC, nD, nE, nF] <;> and_intros <;> (apply hK1; clear hK1 K1))))
     simp only [Tryz.results79, go_sem, ↓reduceIte, reduceCtorEq, nA, nB, nC, nD, nE, nF]
     refine ⟨_, _, Weak.tup1 (Weak.agg (.cons (Weak.refl _) (.cons (Weak.row _ _ _) (.cons (Weak.refl _) .nil)))) (Weak.refl _), Hp.le.refl _, rfl⟩
   | false =>
    refine awp_cond (t := _) rfl (fun _ => ?_) (fun h => by cases h)
    (repeat ((refine gO rfl ?_)))
    exact ⟨fun n h1 h2 => by
     by_cases e : n = j
     ·rw [e]; exact eh
     ·exact hnh n h1 (by omega), rfl⟩
 ·rintro _ ⟨hnh2, rfl⟩
  (repeat (first | refine gO rfl ?_ | (refine gM zM34 fun K1 hK1 => ?_; simp only [go_sem, ↓reduceIte, reduceCtorEq, nA, nB, nC, nD, nE, nF] <;> and_intros)))
  refine (g_passP d t a _ h2 o k _ hv hR2 hS (hok j).1 hO2 hoa (by omega)).mono ?_
  rintro r h6 ⟨rfl, s2, out2, hR6, hO6, _, q1, q2, q3⟩
  have e5 := passesU_len d t j
  refine hK1 _ ?_; clear hK1 K1
  (repeat (first | refine gO rfl ?_ | (refine gM zM34 fun K1 hK1 => ?_; simp only [go_sem, ↓reduceIte, reduceCtorEq, nA, nB, nC, nD, nE, nF] <;> and_intros <;> first | (apply hK1; clear hK1 K1) | (intros; (omega)) | skip)))
  refine (g_full28 o k h6 _ hO6).mono ?_; rintro _ hz ⟨rfl, hh⟩; apply hK1; clear hK1 K1; rw [hh]; clear hh hz
  by_cases hl6 : (passesU d t (j + 1)).2.length ≤ 5000
  ·obtain ⟨rfl, rfl⟩ := q2 hlj (by omega)
   have hj6 : j + 1 ≤ 5000 := by have := (hok (j + 1)).2.2; omega
   have hnf : decide ((5000 : Int) < ((passesU d t j).2 ++ (passU d t (passesU d t j).1).2).length) = false := by simp only [decide_eq_false_iff_not, List.length_append]; omega
   have hnf2 : decide ((5000 : Int) < (j : Int) + 1) = false := by simp only [decide_eq_false_iff_not]; omega
   (repeat (first | refine gO rfl ?_ | (refine gM zM34 fun K1 hK1 => ?_; simp only [go_sem, ↓reduceIte, reduceCtorEq, nA, nB, nC, nD, nE, nF, hnf, hnf2] <;> and_intros <;> (apply hK1; clear hK1 K1))))
   refine awp_cond (t := _) rfl (fun h => by cases h) (fun _ => ?_)
   (repeat ((refine gO rfl ?_)))
   exact ⟨g - 1, by omega, j + 1, h6, by omega, hl6, fun n h1 h2 => hnh2 n h1 (by omega), hR6, hO6, rfl⟩
  ·obtain ⟨z1, _⟩ := q3 hlj (by omega)
   have hr0 : roundN d t = 0 := round_long (j := j) (by omega) hnh2
   have hnf : decide ((5000 : Int) < out2.length) = true := by simp only [decide_eq_true_eq]; omega
   rw [roundC_none hr0, (roundS_none hr0).2]
   (repeat (first | refine gO rfl ?_ | (refine gM zM34 fun K1 hK1 => ?_; simp only [go_sem, ↓reduceIte, reduceCtorEq, nA, nB, nC, nD, nE, nF, hnf] <;> and_intros <;> (apply hK1; clear hK1 K1))))
   refine awp_cond (t := _) rfl (fun _ => ?_) (fun h => by cases h)
   (repeat (first | refine gO rfl ?_ | (refine gM zM34 fun K1 hK1 => ?_; simp only [go_sem, ↓reduceIte, reduceCtorEq, nA, nB, nC, nD, nE, nF] <;> and_intros <;> (apply hK1; clear hK1 K1))))
   simp only [Tryz.results79, go_sem, ↓reduceIte, reduceCtorEq, nA, nB, nC, nD, nE, nF]
   refine ⟨_, _, Weak.tup1 (Weak.agg (.cons (Weak.refl _) (.cons (Weak.nil 2 0 0 ⟨rfl, rfl⟩) (.cons (Weak.refl _) .nil)))) (Weak.refl _), Hp.le.refl _, rfl⟩
abbrev zP1JE : List Nat := [0, 1, 2, 3, 4, 5, 6, 7]
abbrev zP1JP : List (Nat × List Nat × List Nat) := []
abbrev zP1KE : List Nat := [0, 1, 2, 3, 4, 5, 6, 7, 8, 9, 10, 11, 12, 13, 14]
abbrev zP1KP : List (Nat × List Nat × List Nat) := []
attribute [go_sem] zP1JE zP1JP zP1KE zP1KP
def stepEq (x y : ByteArray × Int) : Bool := x.1 == y.1 && x.2 == y.2
def sameTo (xs ys : List (ByteArray × Int)) (j : Nat) : Bool := (List.range j).all fun i => stepEq (xs.getD (i % xs.length) default) (ys.getD (i % ys.length) default)
def sameS (xs ys : List (ByteArray × Int)) : Bool := sameTo xs ys (xs.length + ys.length)
theorem sameTo_succ (xs ys : List (ByteArray × Int)) (j : Nat) : sameTo xs ys (j + 1) = (sameTo xs ys j && stepEq (xs.getD (j % xs.length) default) (ys.getD (j % ys.length) default)) := by
 rw [sameTo, List.range_succ, List.all_append]; simp [sameTo]
theorem sameTo_false {xs ys : List (ByteArray × Int)} {j : Nat} (h : stepEq (xs.getD (j % xs.length) default) (ys.getD (j % ys.length) default) = false) {n : Nat} (hj : j < n) : sameTo xs ys n = false := by
 rw [sameTo, List.all_eq_false]
 exact ⟨j, by simpa using hj, by rw [h]; simp⟩
theorem part_of_fault {t : LT} (h : faultF t = 0) : partF t = 0 := by
 unfold faultF at h
 split at h
 ·cases h
 ·exact h
noncomputable def sameE (d : Nat) (a b : LT) : Int := if faultF a ≠ 0 then faultF a else if faultF b ≠ 0 then faultF b else if roundE d a ≠ 0 then roundE d a else roundE d b
noncomputable def sameA (d : Nat) (a b : LT) : Bool := if sameE d a b = 0 then sameS (roundS d a) (roundS d b) else false
theorem g_same2 (d : Nat) (a b : LT) (h : Hp) (ha : KC d a) (hda : manyF a ≤ 1000000000000000 ∧ d ≤ 1000) (hb : KC d b) (hdb : manyF b ≤ 1000000000000000) : ACalls Tryz.prog 25 [.agg (encL a), .agg (encL b)] h (fun r _ => r = .tup [.v (.bool (sameA d a b)), .v (.int .i64 (sameE d a b))]) := by
 have hca := fun h => g_check7 d a h ha hda
 have hcb := fun h => g_check7 d b h hb ⟨hdb, hda.2⟩
 have hra := fun h hf => g_roundP d a h ha (vl_of d a ha (part_of_fault hf)) (il_of d a (part_of_fault hf))
 have hrb := fun h hf => g_roundP d b h hb (vl_of d b hb (part_of_fault hf)) (il_of d b (part_of_fault hf))
 have hpa := fun hf e => roundS_pos (vl_of d a ha (part_of_fault hf)) e
 have hpb := fun hf e => roundS_pos (vl_of d b hb (part_of_fault hf)) e
 have hla := roundS_len d a
 have hlb := roundS_len d b
 have hE1 : faultF a ≠ 0 → sameE d a b = faultF a := fun e => by rw [sameE, if_pos e]
 have hE2 : faultF a = 0 → faultF b ≠ 0 → sameE d a b = faultF b := fun e e2 => by rw [sameE, if_neg (by simpa using e), if_pos e2]
 have hE3 : faultF a = 0 → faultF b = 0 → roundE d a ≠ 0 → sameE d a b = roundE d a := fun e e2 e3 => by rw [sameE, if_neg (by simpa using e), if_neg (by simpa using e2), if_pos e3]
 have hE4 : faultF a = 0 → faultF b = 0 → roundE d a = 0 → sameE d a b = roundE d b := fun e e2 e3 => by rw [sameE, if_neg (by simpa using e), if_neg (by simpa using e2), if_neg (by simpa using e3)]
 have hA0 : sameE d a b ≠ 0 → sameA d a b = false := fun e => by rw [sameA, if_neg e]
 have hA1 : sameE d a b = 0 → sameA d a b = sameS (roundS d a) (roundS d b) := fun e => by rw [sameA, if_pos e]
 have hrca : roundC d a = [.v (.int .i64 (roundN d a : Nat)), .row 2 ((roundS d a).map encStep) none, .v (.int .i64 ((roundS d a).map (·.2)).sum)] := rfl
 have hrcb : roundC d b = [.v (.int .i64 (roundN d b : Nat)), .row 2 ((roundS d b).map encStep) none, .v (.int .i64 ((roundS d b).map (·.2)).sum)] := rfl
 generalize faultF a = fa at *
 generalize faultF b = fb at *
 generalize roundC d a = ca at *
 generalize roundC d b = cb at *
 subst hrca hrcb
 generalize roundS d a = xs at *
 generalize roundS d b = ys at *
 generalize roundN d a = na at *
 generalize roundN d b = nb at *
 generalize roundE d a = ea at *
 generalize roundE d b = eb at *
 generalize sameE d a b = E at *
 generalize sameA d a b = B at *
 generalize (xs.map (·.2)).sum = sa at *
 generalize (ys.map (·.2)).sum = sb at *
 clear ha hda hb hdb
 obtain ⟨k, i, l, m, ks, s⟩ := a
 obtain ⟨k2, i2, l2, m2, ks2, s2⟩ := b
 simp only [encL_eq] at hca hcb hra hrb ⊢
 refine gE Tryz.func25 rfl (by kernel_rfl) 69 rfl fun c => ?_
 (repeat (first | refine gO rfl ?_ | ((refine gM zM35 fun K1 hK1 => ?_; simp only [go_sem, ↓reduceIte, reduceCtorEq, nA, nB, nC, nD, nE, nF] <;> and_intros <;> (apply hK1; clear hK1 K1)))))
 refine awp_loopC (rl false [2, 2, 13, 2, 52]) 0 (fun g S => ∃ j : Nat, g + j = 2 ∧ (1 ≤ j → fa = 0) ∧ (2 ≤ j → fb = 0) ∧
  S = ⟨(AV.junk :: AV.junk :: ((.ref [.v (.int .i64 k), .v (.string i), .v (.int .i64 l), .v (.int .i64 m), .row 6 (ks.map encL) none, .row 1 (s.map encI) none] 0) :: (.ref [.v (.int .i64 k2), .v (.string i2), .v (.int .i64 l2), .v (.int .i64 m2), .row 6 (ks2.map encL) none, .row 1 (s2.map encI) none] 0) :: (jnk 13 ((.agg [.v (.int .i64 k), .v (.string i), .v (.int .i64 l), .v (.int .i64 m), .row 6 (ks.map encL) none, .row 1 (s.map encI) none, .v (.int .i64 k2), .v (.string i2), .v (.int .i64 l2), .v (.int .i64 m2), .row 6 (ks2.map encL) none, .row 1 (s2.map encI) none]) :: (.v (.int .i64 j)) :: (jnk 52 []))))), [], h⟩) 2 ⟨0, by omega, by omega, by omega, rfl⟩ ?_
 rintro g _ ⟨j, hj, hj1, hj2, rfl⟩
 (repeat (first | refine gO rfl ?_ | ((refine gM zM35 fun K1 hK1 => ?_; simp only [go_sem, ↓reduceIte, reduceCtorEq, nA, nB, nC, nD, nE, nF] <;> and_intros <;> (apply hK1; clear hK1 K1)))))
 rcases (show j = 0 ∨ j = 1 ∨ j = 2 by omega) with rfl | rfl | rfl
 ·refine awp_cond (t := _) rfl (fun _ => ?_) (fun h9 => by simp at h9)
  (repeat (first | refine gO rfl ?_ | ((refine gM zM35 fun K1 hK1 => ?_; simp only [go_sem, ↓reduceIte, reduceCtorEq, nA, nB, nC, nD, nE, nF, Int.natCast_zero, Int.toNat_zero, Nat.zero_mul, List.drop_zero, List.take_succ_cons, List.take_zero] <;> and_intros <;> first | (apply hK1; clear hK1 K1) | (intros; (omega)) | skip))))
  refine (hca h).mono ?_; rintro _ hz ⟨rfl, hh⟩; apply hK1; clear hK1 K1; rw [hh]; clear hh hz
  (repeat (first | refine gO rfl ?_ | ((refine gM zM35 fun K1 hK1 => ?_; simp only [go_sem, ↓reduceIte, reduceCtorEq, nA, nB, nC, nD, nE, nF] <;> and_intros <;> (apply hK1; clear hK1 K1)))))
  by_cases e : fa = 0
  ·subst e
   refine awp_cond (t := _) rfl (fun h9 => by simp at h9) (fun _ => ?_)
   (repeat (first | refine gO rfl ?_ | ((refine gM zM35 fun K1 hK1 => ?_; simp only [go_sem, ↓reduceIte, reduceCtorEq, nA, nB, nC, nD, nE, nF] <;> and_intros <;> first | (apply hK1; clear hK1 K1) | (intros; (omega))))))
   exact ⟨1, by omega, 1, rfl, fun _ => rfl, by omega, rfl⟩
  ·refine awp_cond (t := _) rfl (fun _ => ?_) (fun h9 => by simp [e] at h9)
   (repeat (first | refine gO rfl ?_ | ((refine gM zM35 fun K1 hK1 => ?_; simp only [go_sem, ↓reduceIte, reduceCtorEq, nA, nB, nC, nD, nE, nF] <;> and_intros <;> (apply hK1; clear hK1 K1)))))
   simp only [Tryz.results25, go_sem, ↓reduceIte, reduceCtorEq, nA, nB, nC, nD, nE, nF]
   exact ⟨_, _, Weak.refl _, Hp.le.refl _, by rw [hA0 (by rw [hE1 e]; exact e), hE1 e]⟩
 ·obtain rfl := hj1 (by omega)
  refine awp_cond (t := _) rfl (fun _ => ?_) (fun h9 => by simp at h9)
  (repeat (first | refine gO rfl ?_ | ((refine gM zM35 fun K1 hK1 => ?_; simp only [go_sem, ↓reduceIte, reduceCtorEq, nA, nB, nC, nD, nE, nF, Int.natCast_one, Int.toNat_one, Nat.one_mul, List.drop_succ_cons, List.drop_zero, List.take_succ_cons, List.take_zero] <;> and_intros <;> first | (apply hK1; clear hK1 K1) | (intros; (omega)) | skip))))
  refine (hcb h).mono ?_; rintro _ hz ⟨rfl, hh⟩; apply hK1; clear hK1 K1; rw [hh]; clear hh hz
  (repeat (first | refine gO rfl ?_ | ((refine gM zM35 fun K1 hK1 => ?_; simp only [go_sem, ↓reduceIte, reduceCtorEq, nA, nB, nC, nD, nE, nF] <;> and_intros <;> (apply hK1; clear hK1 K1)))))
  by_cases e : fb = 0
  ·subst e
   refine awp_cond (t := _) rfl (fun h9 => by simp at h9) (fun _ => ?_)
   (repeat (first | refine gO rfl ?_ | ((refine gM zM35 fun K1 hK1 => ?_; simp only [go_sem, ↓reduceIte, reduceCtorEq, nA, nB, nC, nD, nE, nF] <;> and_intros <;> first | (apply hK1; clear hK1 K1) | (intros; (omega))))))
   exact ⟨0, by omega, 2, rfl, fun _ => rfl, fun _ => rfl, rfl⟩
  ·refine awp_cond (t := _) rfl (fun _ => ?_) (fun h9 => by simp [e] at h9)
   (repeat (first | refine gO rfl ?_ | ((refine gM zM35 fun K1 hK1 => ?_; simp only [go_sem, ↓reduceIte, reduceCtorEq, nA, nB, nC, nD, nE, nF] <;> and_intros <;> (apply hK1; clear hK1 K1)))))
   simp only [Tryz.results25, go_sem, ↓reduceIte, reduceCtorEq, nA, nB, nC, nD, nE, nF]
   exact ⟨_, _, Weak.refl _, Hp.le.refl _, by rw [hA0 (by rw [hE2 rfl e]; exact e), hE2 rfl e]⟩
 ·obtain rfl := hj1 (by omega)
  obtain rfl := hj2 (by omega)
  refine awp_cond (t := _) rfl (fun h9 => by simp at h9) (fun _ => ?_)
  (repeat (first | refine gO rfl ?_ | ((refine gM zM35 fun K1 hK1 => ?_; simp only [go_sem, ↓reduceIte, reduceCtorEq, nA, nB, nC, nD, nE, nF] <;> and_intros))))
  refine (hra h rfl).mono ?_
  rintro _ h1 rfl
  refine hK1 _ ?_; clear hK1 K1
  (repeat (first | refine gO rfl ?_ | ((refine gM zM35 fun K1 hK1 => ?_; simp only [go_sem, ↓reduceIte, reduceCtorEq, nA, nB, nC, nD, nE, nF] <;> and_intros <;> (apply hK1; clear hK1 K1)))))
  by_cases e : ea = 0
  rotate_left
  ·refine awp_cond (t := _) rfl (fun _ => ?_) (fun h9 => by simp [e] at h9)
   (repeat (first | refine gO rfl ?_ | ((refine gM zM35 fun K1 hK1 => ?_; simp only [go_sem, ↓reduceIte, reduceCtorEq, nA, nB, nC, nD, nE, nF] <;> and_intros <;> (apply hK1; clear hK1 K1)))))
   simp only [Tryz.results25, go_sem, ↓reduceIte, reduceCtorEq, nA, nB, nC, nD, nE, nF]
   exact ⟨_, _, Weak.refl _, Hp.le.refl _, by rw [hA0 (by rw [hE3 rfl rfl e]; exact e), hE3 rfl rfl e]⟩
  subst e
  refine awp_cond (t := _) rfl (fun h9 => by simp at h9) (fun _ => ?_)
  (repeat (first | refine gO rfl ?_ | ((refine gM zM35 fun K1 hK1 => ?_; simp only [go_sem, ↓reduceIte, reduceCtorEq, nA, nB, nC, nD, nE, nF] <;> and_intros))))
  refine (hrb h1 rfl).mono ?_
  rintro _ h2 rfl
  refine hK1 _ ?_; clear hK1 K1
  (repeat (first | refine gO rfl ?_ | ((refine gM zM35 fun K1 hK1 => ?_; simp only [go_sem, ↓reduceIte, reduceCtorEq, nA, nB, nC, nD, nE, nF] <;> and_intros <;> (apply hK1; clear hK1 K1)))))
  have hEb := hE4 rfl rfl rfl
  by_cases e : eb = 0
  rotate_left
  ·refine awp_cond (t := _) rfl (fun _ => ?_) (fun h9 => by simp [e] at h9)
   (repeat (first | refine gO rfl ?_ | ((refine gM zM35 fun K1 hK1 => ?_; simp only [go_sem, ↓reduceIte, reduceCtorEq, nA, nB, nC, nD, nE, nF] <;> and_intros <;> (apply hK1; clear hK1 K1)))))
   simp only [Tryz.results25, go_sem, ↓reduceIte, reduceCtorEq, nA, nB, nC, nD, nE, nF]
   exact ⟨_, _, Weak.refl _, Hp.le.refl _, by rw [hA0 (by rw [hEb]; exact e), hEb]⟩
  subst e
  have hx := hpa rfl rfl
  have hy := hpb rfl rfl
  rw [hA1 hEb, hEb]
  clear hA0 hA1 hE1 hE2 hE3 hE4 hca hcb hra hrb hpa hpb hj1 hj2
  refine awp_cond (t := _) rfl (fun h9 => by simp at h9) (fun _ => ?_)
  (repeat (first | refine gO rfl ?_ | ((first | refine gM zM35 ?_ | ((with_reducible refine xS ?_); refine uD 14 zM35 zP1JE zP1JP 71 rfl (by kernel_rfl) ?_)) <;> ((try with_reducible intro K1 hK1); simp only [go_sem, ↓reduceIte, reduceCtorEq, nA, nB, nC, nD, nE, nF] <;> and_intros <;> first | (apply hK1; clear hK1 K1) | (intros; (omega))))))
  refine awp_loopC (rl false [9, 1, 1, 3, 37, 2, 18]) 2 (fun g S => ∃ j : Nat, g + j = xs.length + ys.length ∧ sameTo xs ys j = true ∧
   S = ⟨((jnk 9 ((.loc 0 0) :: AV.junk :: ((.loc 1 0) :: (.v (.int .i64 xs.length)) :: (.v (.int .i64 ys.length)) :: (jnk 37 ((.v (.int .i64 ((xs.length : Int) + ys.length))) :: (.v (.int .i64 j)) :: (jnk 18 []))))))),
    [[.v (.int .i64 na), .row 2 (xs.map encStep) none, .v (.int .i64 sa)], [.v (.int .i64 nb), .row 2 (ys.map encStep) none, .v (.int .i64 sb)]], h2⟩) (xs.length + ys.length) ⟨0, by omega, rfl, rfl⟩ ?_
  rintro g _ ⟨j, hj, hs, rfl⟩
  (repeat (first | refine gO rfl ?_ | ((refine gM zM35 fun K1 hK1 => ?_; simp only [go_sem, ↓reduceIte, reduceCtorEq, nA, nB, nC, nD, nE, nF] <;> and_intros <;> (apply hK1; clear hK1 K1)))))
  refine awp_cond (t := _) rfl (fun h9 => ?_) (fun h9 => ?_)
  ·simp only [decide_eq_true_eq] at h9
   have hm1 : (j : Int).tmod (xs.length : Int) = ((j % xs.length : Nat) : Int) := rfl
   have hm2 : (j : Int).tmod (ys.length : Int) = ((j % ys.length : Nat) : Int) := rfl
   have hl1 := Nat.mod_lt j (show 0 < xs.length by omega)
   have hl2 := Nat.mod_lt j (show 0 < ys.length by omega)
   have hg1 : (xs.map encStep).getD (j % xs.length) [] = encStep (xs.getD (j % xs.length) default) := getD_enc encStep xs _ default hl1
   have hg2 : (ys.map encStep).getD (j % ys.length) [] = encStep (ys.getD (j % ys.length) default) := getD_enc encStep ys _ default hl2
   have hsu := sameTo_succ xs ys j
   have hsf := fun h => sameTo_false (xs := xs) (ys := ys) (j := j) h (n := xs.length + ys.length) (by omega)
   generalize xs.getD (j % xs.length) default = x at hg1 hsu hsf
   generalize ys.getD (j % ys.length) default = y at hg2 hsu hsf
   (repeat (first | refine gO rfl ?_ | ((first | refine gM zM35 ?_ | ((with_reducible refine xS ?_); refine uD 18 zM35 zP1KE zP1KP 71 rfl (by kernel_rfl) ?_)) <;> ((try with_reducible intro K1 hK1); simp only [go_sem, ↓reduceIte, reduceCtorEq, nA, nB, nC, nD, nE, nF, hm1, hm2, Int.toNat_natCast, hg1, hg2, encStep] <;> and_intros <;> first | (apply hK1; clear hK1 K1) | (intros; (omega))))))
   refine awp_cond (t := _) rfl (fun h8 => ?_) (fun h8 => ?_)
   ·have e8 : stepEq x y = false := by rw [stepEq]; revert h8; cases (x.1 == y.1) <;> cases (x.2 == y.2) <;> simp
    (repeat (first | refine gO rfl ?_ | ((refine gM zM35 fun K1 hK1 => ?_; simp only [go_sem, ↓reduceIte, reduceCtorEq, nA, nB, nC, nD, nE, nF] <;> and_intros <;> (apply hK1; clear hK1 K1)))))
    simp only [Tryz.results25, go_sem, ↓reduceIte, reduceCtorEq, nA, nB, nC, nD, nE, nF]
    exact ⟨_, _, Weak.refl _, Hp.le.refl _, by rw [sameS, hsf e8]⟩
   ·have e8 : stepEq x y = true := by rw [stepEq]; revert h8; cases (x.1 == y.1) <;> cases (x.2 == y.2) <;> simp
    (repeat (first | refine gO rfl ?_ | ((refine gM zM35 fun K1 hK1 => ?_; simp only [go_sem, ↓reduceIte, reduceCtorEq, nA, nB, nC, nD, nE, nF] <;> and_intros <;> first | (apply hK1; clear hK1 K1) | (intros; (omega))))))
    exact ⟨g - 1, by omega, j + 1, by omega, by rw [hsu, hs, e8]; rfl, rfl⟩
  ·simp only [decide_eq_false_iff_not] at h9
   have hjn : j = xs.length + ys.length := by omega
   subst hjn
   (repeat (first | refine gO rfl ?_ | ((refine gM zM35 fun K1 hK1 => ?_; simp only [go_sem, ↓reduceIte, reduceCtorEq, nA, nB, nC, nD, nE, nF] <;> and_intros <;> (apply hK1; clear hK1 K1)))))
   simp only [Tryz.results25, go_sem, ↓reduceIte, reduceCtorEq, nA, nB, nC, nD, nE, nF]
   exact ⟨_, _, Weak.refl _, Hp.le.refl _, by rw [sameS, hs]⟩
end Go.Proofs.YtidkkmoiolffnaaGreatDoor
