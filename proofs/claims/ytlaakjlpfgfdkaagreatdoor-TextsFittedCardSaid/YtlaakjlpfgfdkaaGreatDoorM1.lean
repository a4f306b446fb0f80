/- Fonts, signs, and what is made shorter: plain. -/
import Derived.Test.YtlaakjlpfgfdkaaGreatDoorAvOwn
import Derived.Shelf.Unicode.DecodeAny
import Derived.Lib.Bytealg
import Derived.Test.YtlaakjlpfgfdkaaGreatDoorAvRun
import Derived.Test.YtlaakjlpfgfdkaaGreatDoorAvTy
import Derived.Test.YtlaakjlpfgfdkaaGreatDoorShelf
import Derived.Test.YtlaakjlpfgfdkaaGreatDoorAvMap
import Derived.Test.YtlaakjlpfgfdkaaGreatDoorAvOld
import Derived.Test.YtlaakjlpfgfdkaaGreatDoorAvFz
import Derived.WalkKit
import Derived.WalkSpells
import Derived.WalkLawsBesides
import Derived.Deep.QuietTactic
import Derived.BigQuiet
import Derived.Lib.Hide
import Derived.Test.YtlaakjlpfgfdkaaGreatDoorProg
import Derived.Deep.DeepCutAuto
import Derived.Deep.LoopGhost
import Derived.Shelf.Strings.SlTrimAscii
import Derived.Test.YtlaakjlpfgfdkaaGreatDoorAvUn
import Derived.Shelf.GgClosure.Gives
import Derived.Shelf.Strings.Builder1
namespace Go.Proofs.YtlaakjlpfgfdkaaGreatDoor
open Go
set_option linter.unusedVariables false
set_option linter.unusedSimpArgs false
abbrev zM10 : Option Tmp → Nat := mdL []
abbrev zM11 : Option Tmp → Nat := mdL [(4, 1)]
abbrev zM12 : Option Tmp → Nat := mdL [(9, 1)]
abbrev zM13 : Option Tmp → Nat := mdL [(65, 1)]
abbrev zM14 : Option Tmp → Nat := mdL [(4, 2)]
attribute [go_sem] zM10 zM11 zM12 zM13 zM14
abbrev Tok := List UInt8
def toks : List Tok := [[32], [10], [46], [97], [98], [99], [100], [101], [102], [103], [104], [105], [195, 169], [255]]
structure Fo where
  key : ByteArray
  hi : Int
  ot : Int
  ws : List (Int × Int × Int)
def runeT : Tok → Option Int
  | [b] => if b < 128 then some b.toNat else none
  | [a, b] => some ((a.toNat - 192) * 64 + (b.toNat - 128) : Nat)
  | _ => none
def widR (f : Fo) (r : Int) : Int := match f.ws.find? fun w => decide (w.1 ≤ r) && decide (r ≤ w.2.1) with
  | some w => w.2.2
  | none => f.ot
def widS (f : Fo) (t : Tok) : Int := match runeT t with
  | none => f.ot
  | some r => widR f r
def sumW (f : Fo) (ts : List Tok) : Int := (ts.map (widS f)).sum
theorem sumW_cons (f : Fo) (t : Tok) (ts : List Tok) : sumW f (t :: ts) = widS f t + sumW f ts := by simp [sumW]
theorem sumW_nil (f : Fo) : sumW f [] = 0 := rfl
theorem sumW_append (f : Fo) (a b : List Tok) : sumW f (a ++ b) = sumW f a + sumW f b := by simp [sumW]
structure FoB (f : Fo) : Prop where
  ot : 0 ≤ f.ot ∧ f.ot ≤ 1000
  ws : ∀ w ∈ f.ws, 0 ≤ w.2.2 ∧ w.2.2 ≤ 1000
theorem FoB.widR {f : Fo} (h : FoB f) (r : Int) : 0 ≤ widR f r ∧ widR f r ≤ 1000 := by
  unfold Proofs.YtlaakjlpfgfdkaaGreatDoor.widR
  split
  · rename_i w e
    exact h.ws w (List.mem_of_find?_eq_some e)
  · exact h.ot
theorem FoB.widS {f : Fo} (h : FoB f) (t : Tok) : 0 ≤ widS f t ∧ widS f t ≤ 1000 := by
  unfold Proofs.YtlaakjlpfgfdkaaGreatDoor.widS
  split
  · exact h.ot
  · exact h.widR _
theorem FoB.sum {f : Fo} (h : FoB f) (ts : List Tok) : 0 ≤ sumW f ts ∧ sumW f ts ≤ 1000 * ts.length := by
  induction ts with
  | nil => simp [sumW]
  | cons t ts ih => rw [sumW_cons]; have := h.widS t; simp only [List.length_cons]; omega
def bestK (f : Fo) (lim : Int) : List Tok → Int → Nat → Nat → Nat
  | [], _, _, b => b
  | x :: l, s, k, b => bestK f lim l (s + widS f x) (k + 1) (if x ≠ [32] ∧ s + widS f x ≤ lim then k + 1 else b)
def dotT : Tok := [46]
def shortT (f : Fo) (wide : Int) (ts : List Tok) : List Tok :=
  if sumW f ts ≤ wide then ts else if wide < 3 * widS f dotT then List.replicate (wide / widS f dotT).toNat dotT else ts.take (bestK f (wide - 3 * widS f dotT) ts 0 0 0) ++ [dotT, dotT, dotT]
theorem bestK_ok (f : Fo) (lim : Int) (all : List Tok) : ∀ (l : List Tok) (k b : Nat), all.drop k = l → sumW f (all.take b) ≤ lim → sumW f (all.take (bestK f lim l (sumW f (all.take k)) k b)) ≤ lim
  | [], _, _, _, h => h
  | x :: l, k, b, hd, h => by
    have hk : k < all.length := by
      have := congrArg List.length hd
      simp at this; omega
    have hx : all[k] = x ∧ all.drop (k + 1) = l := by
      rw [List.drop_eq_getElem_cons hk] at hd
      exact List.cons.inj hd
    have ht : sumW f (all.take (k + 1)) = sumW f (all.take k) + widS f x := by
      rw [List.take_succ_eq_append_getElem hk, sumW_append, hx.1, sumW_cons, sumW_nil]; omega
    rw [bestK, ← ht]
    refine bestK_ok f lim all l (k + 1) _ hx.2 ?_
    split
    · rename_i e; exact e.2
    · exact h
theorem short_same {f : Fo} {wide : Int} {ts : List Tok} (h : sumW f ts ≤ wide) : shortT f wide ts = ts := by unfold shortT; rw [if_pos h]
def blT : Tok := [32]
def lfT : Tok := [10]
def splitT (c : Tok) : List Tok → List (List Tok)
  | [] => [[]]
  | x :: l => if x = c then [] :: splitT c l else match splitT c l with
    | [] => [[x]]
    | p :: ps => (x :: p) :: ps
theorem splitT_ne (c : Tok) (l : List Tok) : splitT c l ≠ [] := by
  cases l with
  | nil => simp [splitT]
  | cons x l =>
    rw [splitT]
    split
    · simp
    · split <;> simp
theorem splitT_flat (c : Tok) : ∀ l : List Tok, (splitT c l).flatten = l.filter (fun x => !decide (x = c))
  | [] => rfl
  | x :: l => by
    have ih := splitT_flat c l
    rw [splitT]
    split
    · rename_i e
      rw [List.flatten_cons, ih]; simp [e]
    · rename_i e
      split
      · rename_i h; exact absurd h (splitT_ne c l)
      · rename_i p ps h
        rw [h] at ih
        rw [List.flatten_cons, List.cons_append, ← List.flatten_cons, ih]; simp [e]
theorem splitT_mem {c : Tok} : ∀ {l : List Tok} {p : List Tok}, p ∈ splitT c l → ∀ x ∈ p, x ∈ l ∧ x ≠ c
  | [], p, h => by simp [splitT] at h; subst h; simp
  | y :: l, p, h => by
    rw [splitT] at h
    split at h
    · rcases List.mem_cons.1 h with rfl | h
      · simp
      · exact fun x hx => ⟨List.mem_cons_of_mem _ (splitT_mem h x hx).1, (splitT_mem h x hx).2⟩
    · rename_i e
      split at h
      · rename_i h2; exact absurd h2 (splitT_ne c l)
      · rename_i q qs h2
        have hq : ∀ r ∈ q :: qs, ∀ x ∈ r, x ∈ l ∧ x ≠ c := fun r hr => splitT_mem (by rw [h2]; exact hr)
        rcases List.mem_cons.1 h with rfl | h
        · intro x hx
          rcases List.mem_cons.1 hx with rfl | hx
          · exact ⟨by simp, e⟩
          · have := hq q (by simp) x hx
            exact ⟨List.mem_cons_of_mem _ this.1, this.2⟩
        · intro x hx
          have := hq p (by simp [h]) x hx
          exact ⟨List.mem_cons_of_mem _ this.1, this.2⟩
theorem splitT_len (c : Tok) : ∀ l : List Tok, (splitT c l).length ≤ l.length + 1
  | [] => by simp [splitT]
  | x :: l => by
    have ih := splitT_len c l
    rw [splitT]
    split
    · simp only [List.length_cons]; omega
    · split
      · simp
      · rename_i h; rw [h] at ih; simp only [List.length_cons] at *; omega
def cutT (f : Fo) (wide : Int) : List Tok → List Tok → List (List Tok)
  | [], cur => [cur]
  | x :: l, cur => if cur ≠ [] ∧ wide < sumW f cur + widS f x then cur :: cutT f wide l [x] else cutT f wide l (cur ++ [x])
theorem cutT_flat (f : Fo) (wide : Int) : ∀ (l cur : List Tok), (cutT f wide l cur).flatten = cur ++ l
  | [], cur => by simp [cutT]
  | x :: l, cur => by
    rw [cutT]
    split
    · rw [List.flatten_cons, cutT_flat f wide l]; simp
    · rw [cutT_flat f wide l]; simp
theorem cutT_len (f : Fo) (wide : Int) : ∀ (l cur : List Tok), (cutT f wide l cur).length ≤ l.length + 1
  | [], cur => by simp [cutT]
  | x :: l, cur => by
    rw [cutT]
    split
    · have := cutT_len f wide l [x]; simp only [List.length_cons]; omega
    · have := cutT_len f wide l (cur ++ [x]); simp only [List.length_cons]; omega
def wordsT (f : Fo) (wide : Int) (p : List Tok) : List (List Tok) := ((splitT blT p).filter fun w => !w.isEmpty).flatMap fun w => cutT f wide w []
theorem flat_filter_ne {α : Type} : ∀ l : List (List α), (l.filter fun w => !w.isEmpty).flatten = l.flatten
  | [] => rfl
  | [] :: l => by simp [flat_filter_ne l]
  | (x :: w) :: l => by simp [flat_filter_ne l]
theorem wordsT_flat (f : Fo) (wide : Int) (p : List Tok) : (wordsT f wide p).flatten = p.filter fun x => !decide (x = blT) := by
  rw [← splitT_flat, ← flat_filter_ne (splitT blT p)]
  unfold wordsT
  generalize (splitT blT p).filter _ = l
  induction l with
  | nil => rfl
  | cons w l ih => rw [List.flatMap_cons, List.flatten_append, ih, cutT_flat, List.flatten_cons]; rfl
theorem wordsT_mem {f : Fo} {wide : Int} {p w : List Tok} (h : w ∈ wordsT f wide p) : ∀ x ∈ w, x ∈ p ∧ x ≠ blT := fun x hx => by
  have : x ∈ (wordsT f wide p).flatten := List.mem_flatten.2 ⟨w, h, hx⟩
  rw [wordsT_flat, List.mem_filter] at this
  exact ⟨this.1, by simpa using this.2⟩
theorem cutT_ne {f : Fo} {wide : Int} : ∀ {l cur w : List Tok}, (l ≠ [] ∨ cur ≠ []) → w ∈ cutT f wide l cur → w ≠ []
  | [], cur, w, h, hm => by
    simp [cutT] at hm
    subst hm; simpa using h
  | x :: l, cur, w, h, hm => by
    rw [cutT] at hm
    split at hm
    · rename_i e
      rcases List.mem_cons.1 hm with rfl | hm
      · exact e.1
      · exact cutT_ne (.inr (by simp)) hm
    · exact cutT_ne (.inr (by simp)) hm
theorem flat_len {α : Type} : ∀ l : List (List α), (∀ w ∈ l, w ≠ []) → l.length ≤ l.flatten.length
  | [], _ => by simp
  | w :: l, h => by
    have := flat_len l fun x hx => h x (by simp [hx])
    have := List.length_pos_iff.2 (h w (by simp))
    simp only [List.length_cons, List.flatten_cons, List.length_append]; omega
theorem wordsT_ne {f : Fo} {wide : Int} {p w : List Tok} (h : w ∈ wordsT f wide p) : w ≠ [] := by
  obtain ⟨v, hv, hw⟩ := List.mem_flatMap.1 h
  have := (List.mem_filter.1 hv).2
  exact cutT_ne (.inl (by simpa using this)) hw
theorem wordsT_len (f : Fo) (wide : Int) (p : List Tok) : (wordsT f wide p).length ≤ p.length := by
  refine Nat.le_trans (flat_len _ fun w hw => wordsT_ne hw) ?_
  rw [wordsT_flat]; exact List.length_filter_le _ _
abbrev Way := Int × Int × Nat
def costT (n wide : Int) : Int := if wide < n then 0 else (wide - n) * (wide - n)
def wayLe (x y : Way) : Bool := decide (x.1 < y.1) || (decide (x.1 = y.1) && decide (x.2.1 ≤ y.2.1))
def wayX (wide : Int) (y : Way) (ws : List Int) (n : Int) (c : Nat) : Way := (y.1 + 1, if ws.isEmpty then y.2.1 else y.2.1 + costT n wide, c + 1)
def innerT (blank wide : Int) : List Int → List Way → Int → Nat → Way → Way
  | w :: ws, y :: ys, n, c, cur =>
    if 0 < c ∧ wide < n + (blank + w) then cur
    else innerT blank wide ws ys (n + (blank + w)) (c + 1) (if c = 0 ∨ wayLe (wayX wide y ws (n + (blank + w)) c) cur then wayX wide y ws (n + (blank + w)) c else cur)
  | _, _, _, _, cur => cur
def waysT (blank wide : Int) : List Int → List Way
  | [] => [(0, 0, 0)]
  | w :: ws => innerT blank wide (w :: ws) (waysT blank wide ws) (-blank) 0 (0, 0, 0) :: waysT blank wide ws
theorem waysT_len (blank wide : Int) : ∀ l : List Int, (waysT blank wide l).length = l.length + 1
  | [] => rfl
  | w :: ws => by rw [waysT, List.length_cons, waysT_len blank wide ws]; rfl
theorem waysT_drop (blank wide : Int) : ∀ (l : List Int) (k : Nat), k ≤ l.length → (waysT blank wide l).drop k = waysT blank wide (l.drop k)
  | l, 0, _ => by simp
  | [], k + 1, h => by simp at h
  | w :: ws, k + 1, h => by
    rw [waysT, List.drop_succ_cons, List.drop_succ_cons]
    exact waysT_drop blank wide ws k (by simpa using h)
def lineW (blank : Int) (l : List Int) : Int := (l.map fun w => blank + w).sum - blank
def firstOk (blank wide : Int) (all : List Int) (n : Nat) : Prop := 1 ≤ n ∧ n ≤ all.length ∧ (n = 1 ∨ lineW blank (all.take n) ≤ wide)
theorem inner_ok (blank wide : Int) (all : List Int) : ∀ (ws : List Int) (ys : List Way) (c : Nat) (cur : Way), all.drop c = ws → ys.length = ws.length → ws ≠ [] ∨ 0 < c → (0 < c → firstOk blank wide all cur.2.2) →
    firstOk blank wide all (innerT blank wide ws ys (lineW blank (all.take c)) c cur).2.2
  | [], ys, c, cur, _, _, h0, h => by
    have : innerT blank wide [] ys (lineW blank (all.take c)) c cur = cur := by cases ys <;> rfl
    rw [this]
    exact h (h0.resolve_left (by simp))
  | w :: ws, [], c, cur, _, hl, _, _ => by simp at hl
  | w :: ws, y :: ys, c, cur, hd, hl, h0, h => by
    have hc : c < all.length := by have := congrArg List.length hd; simp at this; omega
    have hx : all[c] = w ∧ all.drop (c + 1) = ws := by rw [List.drop_eq_getElem_cons hc] at hd; exact List.cons.inj hd
    have ht : lineW blank (all.take (c + 1)) = lineW blank (all.take c) + (blank + w) := by
      rw [List.take_succ_eq_append_getElem hc, hx.1]; simp [lineW]; omega
    rw [innerT, ← ht]
    split
    · rename_i e; exact h e.1
    · rename_i e
      refine inner_ok blank wide all ws ys (c + 1) _ hx.2 (by simpa using hl) (.inr (by omega)) fun _ => ?_
      split
      · refine ⟨by show 1 ≤ c + 1; omega, by show c + 1 ≤ _; omega, ?_⟩
        show c + 1 = 1 ∨ lineW blank (all.take (c + 1)) ≤ wide
        by_cases e2 : c = 0
        · exact .inl (by omega)
        · exact .inr (by simp only [not_and] at e; have := e (by omega); omega)
      · rename_i e2
        exact h (by by_cases e3 : c = 0
                    · exact absurd (.inl e3) e2
                    · omega)
theorem ways_first (blank wide : Int) (l : List Int) (h : l ≠ []) (d : Way) : firstOk blank wide l ((waysT blank wide l).getD 0 d).2.2 := by
  cases l with
  | nil => exact absurd rfl h
  | cons w ws =>
    rw [waysT]
    have := inner_ok blank wide (w :: ws) (w :: ws) (waysT blank wide ws) 0 (0, 0, 0) rfl (by rw [waysT_len]; rfl) (.inl (by simp)) (fun h => absurd h (by omega))
    have e : lineW blank ((w :: ws).take 0) = -blank := by simp [lineW]
    rw [e] at this
    simpa using this
def joinT : List (List Tok) → List Tok
  | [] => []
  | [w] => w
  | w :: l => w ++ blT :: joinT l
def paraT : Nat → List (List Tok) → List Way → List (List Tok)
  | 0, _, _ => []
  | g + 1, ws, ys => if ws = [] then [] else joinT (ws.take (ys.getD 0 (0, 0, 0)).2.2) :: paraT g (ws.drop (ys.getD 0 (0, 0, 0)).2.2) (ys.drop (ys.getD 0 (0, 0, 0)).2.2)
def paragraphT (f : Fo) (blank wide : Int) (ws : List (List Tok)) : List (List Tok) := if ws = [] then [[]] else paraT ws.length ws (waysT blank wide (ws.map (sumW f)))
def linesT (f : Fo) (wide : Int) (ts : List Tok) : List (List Tok) := (splitT lfT ts).flatMap fun p => paragraphT f (widS f blT) wide (wordsT f wide p)
theorem joinT_cons {w : List Tok} {l : List (List Tok)} (h : l ≠ []) : joinT (w :: l) = w ++ blT :: joinT l := by
  cases l with
  | nil => exact absurd rfl h
  | cons v l => rfl
theorem joinT_sum (f : Fo) : ∀ ws : List (List Tok), ws ≠ [] → sumW f (joinT ws) = lineW (widS f blT) (ws.map (sumW f))
  | [], h => absurd rfl h
  | [w], _ => by simp [joinT, lineW]; omega
  | w :: v :: l, _ => by
    rw [joinT_cons (by simp), sumW_append, sumW_cons, joinT_sum f (v :: l) (by simp)]
    simp [lineW]; omega
theorem sumW_mono {f : Fo} (hf : FoB f) (l : List Tok) {a b : Nat} (h : a ≤ b) : sumW f (l.take a) ≤ sumW f (l.take b) := by
  obtain ⟨d, rfl⟩ : ∃ d, b = a + d := ⟨b - a, by omega⟩
  rw [List.take_add, sumW_append]
  have := (hf.sum ((l.drop a).take d)).1
  omega
def longN (f : Fo) (wide : Int) (l : List Tok) : Nat → Nat
  | 0 => 0
  | n + 1 => if 1 < n + 1 ∧ wide < sumW f (l.take (n + 1)) then longN f wide l n else n + 1
def cutR (f : Fo) (wide : Int) : Nat → List Tok → List (List Tok)
  | 0, _ => []
  | g + 1, l => if l = [] then [] else l.take (longN f wide l l.length) :: cutR f wide g (l.drop (longN f wide l l.length))
theorem longN_ok (f : Fo) (wide : Int) (l : List Tok) : ∀ n, 1 ≤ n → 1 ≤ longN f wide l n ∧ longN f wide l n ≤ n ∧ (longN f wide l n = 1 ∨ sumW f (l.take (longN f wide l n)) ≤ wide) ∧ ∀ k, longN f wide l n < k → k ≤ n → wide < sumW f (l.take k)
  | 0, h => by omega
  | n + 1, _ => by
    rw [longN]
    split
    · rename_i e
      obtain ⟨h1, h2, h3, h4⟩ := longN_ok f wide l n (by omega)
      refine ⟨h1, by omega, h3, fun k hk hk2 => ?_⟩
      by_cases e2 : k = n + 1
      · rw [e2]; exact e.2
      · exact h4 k hk (by omega)
    · rename_i e
      refine ⟨by omega, by omega, ?_, fun k hk hk2 => by omega⟩
      by_cases e2 : n = 0
      · left; omega
      · right
        simp only [not_and] at e
        have := e (by omega); omega
def moreN (f : Fo) (wide : Int) : List Tok → List Tok → Nat
  | [], _ => 0
  | x :: l, cur => if cur ≠ [] ∧ wide < sumW f cur + widS f x then 0 else moreN f wide l (cur ++ [x]) + 1
theorem moreN_le (f : Fo) (wide : Int) : ∀ l cur : List Tok, moreN f wide l cur ≤ l.length
  | [], _ => by simp [moreN]
  | x :: l, cur => by
    rw [moreN]; split
    · omega
    · have := moreN_le f wide l (cur ++ [x]); simp only [List.length_cons]; omega
theorem cutT_more (f : Fo) (wide : Int) : ∀ l cur : List Tok, cur ≠ [] ∨ l ≠ [] → cutT f wide l cur = (cur ++ l.take (moreN f wide l cur)) :: (if l.drop (moreN f wide l cur) = [] then [] else cutT f wide (l.drop (moreN f wide l cur)) [])
  | [], cur, _ => by simp [cutT, moreN]
  | x :: l, cur, _ => by
    rw [cutT, moreN]
    split
    · rename_i e
      simp only [List.take_zero, List.append_nil, List.drop_zero]
      rw [if_neg (by simp)]
      conv => rhs; rw [cutT, if_neg (by simp)]
      rfl
    · rw [cutT_more f wide l (cur ++ [x]) (.inl (by simp)), List.take_succ_cons, List.drop_succ_cons]
      simp
theorem moreN_ok (f : Fo) (wide : Int) (all : List Tok) : ∀ (l : List Tok) (c : Nat), all.drop c = l → (c = 0 ∨ c = 1 ∨ sumW f (all.take c) ≤ wide) →
    (c + moreN f wide l (all.take c) = 0 ∨ c + moreN f wide l (all.take c) = 1 ∨ sumW f (all.take (c + moreN f wide l (all.take c))) ≤ wide) ∧
    (c + moreN f wide l (all.take c) < all.length → 1 ≤ c + moreN f wide l (all.take c) ∧ wide < sumW f (all.take (c + moreN f wide l (all.take c) + 1)))
  | [], c, hd, h => by
    simp only [moreN, Nat.add_zero]
    refine ⟨h, fun hc => ?_⟩
    have := congrArg List.length hd
    simp at this; omega
  | x :: l, c, hd, h => by
    have hc : c < all.length := by have := congrArg List.length hd; simp at this; omega
    have hx : all[c] = x ∧ all.drop (c + 1) = l := by rw [List.drop_eq_getElem_cons hc] at hd; exact List.cons.inj hd
    have ht : all.take (c + 1) = all.take c ++ [x] := by rw [List.take_succ_eq_append_getElem hc, hx.1]
    have hs : sumW f (all.take (c + 1)) = sumW f (all.take c) + widS f x := by rw [ht, sumW_append, sumW_cons, sumW_nil]; omega
    rw [moreN]
    split
    · rename_i e
      simp only [Nat.add_zero]
      refine ⟨h, fun _ => ⟨?_, by rw [hs]; exact e.2⟩⟩
      by_cases e2 : c = 0
      · subst e2; simp at e
      · omega
    · rename_i e
      rw [← ht]
      have ih := moreN_ok f wide all l (c + 1) hx.2 ?_
      · have e3 : c + 1 + moreN f wide l (all.take (c + 1)) = c + (moreN f wide l (all.take (c + 1)) + 1) := by omega
        rw [e3] at ih; exact ih
      · by_cases e2 : c = 0
        · right; left; omega
        · right; right
          simp only [not_and] at e
          have := e (by intro e4; have := congrArg List.length e4; simp at this; rcases this with h | h
                        · omega
                        · subst h; simp at hc)
          omega
theorem long_more {f : Fo} (hf : FoB f) (wide : Int) {l : List Tok} (h : l ≠ []) : moreN f wide l [] = longN f wide l l.length := by
  obtain ⟨a1, a2, a3, a4⟩ := longN_ok f wide l l.length (List.length_pos_iff.2 h)
  obtain ⟨b1, b2⟩ := moreN_ok f wide l l 0 rfl (.inl rfl)
  simp only [List.take_zero, Nat.zero_add] at b1 b2
  have b3 := moreN_le f wide l []
  generalize moreN f wide l [] = m at *
  generalize longN f wide l l.length = n at *
  rcases Nat.lt_trichotomy m n with e | e | e
  · obtain ⟨c1, c2⟩ := b2 (by omega)
    rcases a3 with a3 | a3
    · omega
    · have := sumW_mono hf l (show m + 1 ≤ n by omega)
      omega
  · exact e
  · rcases b1 with b1 | b1 | b1
    · omega
    · omega
    · have := a4 m e b3; omega
theorem cutR_eq {f : Fo} (hf : FoB f) (wide : Int) : ∀ (g : Nat) (l : List Tok), l.length ≤ g → cutR f wide g l = if l = [] then [] else cutT f wide l []
  | 0, l, h => by
    have : l = [] := List.eq_nil_of_length_eq_zero (by omega)
    subst this; simp [cutR]
  | g + 1, l, h => by
    rw [cutR]
    split
    · rfl
    · rename_i e
      have hm := long_more hf wide e
      have h1 := (longN_ok f wide l l.length (List.length_pos_iff.2 e)).1
      rw [cutT_more f wide l [] (.inr e), hm, cutR_eq hf wide g _ (by rw [List.length_drop]; omega), List.nil_append]
def innerR (blank wide : Int) : List Int → List Way → Int → Nat → Way → Way
  | w :: ws, y :: ys, n, c, cur =>
    if 0 < c ∧ wide < n + (blank + w) then cur
    else innerR blank wide ws ys (n + (blank + w)) (c + 1) (if wayLe (wayX wide y ws (n + (blank + w)) c) cur then wayX wide y ws (n + (blank + w)) c else cur)
  | _, _, _, _, cur => cur
theorem innerR_eq (blank wide : Int) : ∀ (ws : List Int) (ys : List Way) (n : Int) (c : Nat) (cur : Way), 0 < c → innerR blank wide ws ys n c cur = innerT blank wide ws ys n c cur
  | [], ys, n, c, cur, _ => by cases ys <;> rfl
  | w :: ws, [], n, c, cur, _ => rfl
  | w :: ws, y :: ys, n, c, cur, h => by
    rw [innerR, innerT]
    have e : (c = 0 ∨ wayLe (wayX wide y ws (n + (blank + w)) c) cur = true) = (wayLe (wayX wide y ws (n + (blank + w)) c) cur = true) := by
      apply propext; constructor
      · rintro (h2 | h2)
        · omega
        · exact h2
      · exact .inr
    simp only [e]
    split
    · rfl
    · exact innerR_eq blank wide ws ys _ (c + 1) _ (by omega)
theorem innerT_lines (blank wide : Int) : ∀ (ws : List Int) (ys : List Way) (n : Int) (c : Nat) (cur : Way), 0 < c → (innerT blank wide ws ys n c cur).1 ≤ cur.1
  | [], ys, n, c, cur, _ => by cases ys <;> exact Int.le_refl _
  | w :: ws, [], n, c, cur, _ => Int.le_refl _
  | w :: ws, y :: ys, n, c, cur, h => by
    rw [innerT]
    split
    · exact Int.le_refl _
    · refine Int.le_trans (innerT_lines blank wide ws ys _ (c + 1) _ (by omega)) ?_
      split
      · rename_i e
        rcases e with e | e
        · omega
        · unfold wayLe at e
          simp at e; omega
      · exact Int.le_refl _
theorem waysT_lines (blank wide : Int) : ∀ l : List Int, ((waysT blank wide l).getD 0 (0, 0, 0)).1 ≤ l.length
  | [] => by simp [waysT]
  | w :: ws => by
    have ih := waysT_lines blank wide ws
    rw [waysT]
    cases hw : waysT blank wide ws with
    | nil => have := waysT_len blank wide ws; rw [hw] at this; simp at this
    | cons y ys =>
      rw [hw] at ih
      show (innerT blank wide (w :: ws) (y :: ys) (-blank) 0 (0, 0, 0)).1 ≤ _
      rw [innerT, if_neg (by omega), if_pos (.inl rfl)]
      refine Int.le_trans (innerT_lines blank wide ws ys _ 1 _ (by omega)) ?_
      show y.1 + 1 ≤ _
      simp at ih ⊢; omega
theorem inner_start (blank wide : Int) (w : Int) (ws : List Int) (L : Nat) (h : ws.length + 1 ≤ L) : innerR blank wide (w :: ws) (waysT blank wide ws) (-blank) 0 (((L : Nat) : Int) + 1, 0, 0) = (waysT blank wide (w :: ws)).getD 0 (0, 0, 0) := by
  have ih := waysT_lines blank wide ws
  rw [waysT]
  cases hw : waysT blank wide ws with
  | nil => have := waysT_len blank wide ws; rw [hw] at this; simp at this
  | cons y ys =>
    rw [hw] at ih
    show _ = innerT blank wide (w :: ws) (y :: ys) (-blank) 0 (0, 0, 0)
    have hc : ¬ (0 < 0 ∧ wide < -blank + (blank + w)) := by omega
    have hw1 : wayLe (wayX wide y ws (-blank + (blank + w)) 0) (((L : Nat) : Int) + 1, 0, 0) = true := by
      unfold wayLe wayX
      simp at ih
      simp; left; omega
    rw [innerR, if_neg hc, if_pos hw1, innerR_eq _ _ _ _ _ _ _ (by omega), innerT, if_neg hc, if_pos (Or.inl rfl)]
def trN (l : List Tok) : Nat → Nat
  | 0 => 0
  | n + 1 => if l.getD n [] = blT then trN l n else n + 1
def dots3 : List Tok := [dotT, dotT, dotT]
def dotsR (f : Fo) (wide : Int) : Nat → List Tok
  | 0 => []
  | n + 1 => if wide < sumW f (List.replicate (n + 1) dotT) then dotsR f wide n else List.replicate (n + 1) dotT
def shR (f : Fo) (wide : Int) (l : List Tok) : Nat → List Tok
  | 0 => if sumW f dots3 ≤ wide then dots3 else dotsR f wide 3
  | n + 1 => if sumW f (l.take (trN l (n + 1)) ++ dots3) ≤ wide then l.take (trN l (n + 1)) ++ dots3 else shR f wide l n
theorem trN_ok (l : List Tok) : ∀ n, trN l n ≤ n ∧ (trN l n = 0 ∨ l.getD (trN l n - 1) [] ≠ blT) ∧ ∀ k, k ≤ n → (k = 0 ∨ l.getD (k - 1) [] ≠ blT) → k ≤ trN l n
  | 0 => ⟨Nat.le_refl _, .inl rfl, fun k h _ => h⟩
  | n + 1 => by
    obtain ⟨h1, h2, h3⟩ := trN_ok l n
    rw [trN]
    split
    · rename_i e
      refine ⟨by omega, h2, fun k hk hk2 => ?_⟩
      by_cases e2 : k = n + 1
      · subst e2
        rcases hk2 with h | h
        · omega
        · exact absurd e h
      · exact h3 k (by omega) hk2
    · rename_i e
      exact ⟨Nat.le_refl _, .inr e, fun k hk _ => hk⟩
theorem bestK_max (f : Fo) (lim : Int) (all : List Tok) : ∀ (l : List Tok) (k b : Nat), all.drop k = l → k ≤ all.length → b ≤ k →
    (b ≤ bestK f lim l (sumW f (all.take k)) k b ∧ bestK f lim l (sumW f (all.take k)) k b ≤ all.length) ∧
    (bestK f lim l (sumW f (all.take k)) k b = b ∨ all.getD (bestK f lim l (sumW f (all.take k)) k b - 1) [] ≠ blT) ∧
    ∀ q, k < q → q ≤ all.length → all.getD (q - 1) [] ≠ blT → sumW f (all.take q) ≤ lim → q ≤ bestK f lim l (sumW f (all.take k)) k b
  | [], k, b, hd, hk, hb => by
    have : k = all.length := by have := congrArg List.length hd; simp at this; omega
    refine ⟨⟨Nat.le_refl _, by show b ≤ _; omega⟩, .inl rfl, fun q h1 h2 => by omega⟩
  | x :: l, k, b, hd, _, hb => by
    have hk : k < all.length := by have := congrArg List.length hd; simp at this; omega
    have hx : all[k] = x ∧ all.drop (k + 1) = l := by rw [List.drop_eq_getElem_cons hk] at hd; exact List.cons.inj hd
    have hg : all.getD k [] = x := by rw [List.getD_eq_getElem?_getD, List.getElem?_eq_getElem hk]; exact hx.1
    have ht : sumW f (all.take (k + 1)) = sumW f (all.take k) + widS f x := by
      rw [List.take_succ_eq_append_getElem hk, sumW_append, hx.1, sumW_cons, sumW_nil]; omega
    rw [bestK, ← ht]
    split
    · rename_i e
      obtain ⟨⟨i1, i2⟩, i3, i4⟩ := bestK_max f lim all l (k + 1) (k + 1) hx.2 hk (Nat.le_refl _)
      refine ⟨⟨by omega, i2⟩, .inr ?_, fun q h1 h2 h3 h4 => ?_⟩
      · rcases i3 with i3 | i3
        · rw [i3, Nat.add_sub_cancel, hg]; exact e.1
        · exact i3
      · by_cases e2 : q = k + 1
        · omega
        · exact i4 q (by omega) h2 h3 h4
    · rename_i e
      obtain ⟨⟨i1, i2⟩, i3, i4⟩ := bestK_max f lim all l (k + 1) b hx.2 hk (by omega)
      refine ⟨⟨i1, i2⟩, i3, fun q h1 h2 h3 h4 => ?_⟩
      by_cases e2 : q = k + 1
      · subst e2
        rw [Nat.add_sub_cancel, hg] at h3
        exact absurd ⟨h3, h4⟩ e
      · exact i4 q (by omega) h2 h3 h4
theorem sum_dots3 (f : Fo) : sumW f dots3 = 3 * widS f dotT := by simp [dots3, sumW]; omega
theorem sum_rep (f : Fo) (n : Nat) : sumW f (List.replicate n dotT) = n * widS f dotT := by
  induction n with
  | zero => simp [sumW]
  | succ n ih => rw [List.replicate_succ, sumW_cons, ih]; rw [show ((n + 1 : Nat) : Int) = (n : Int) + 1 by omega, Int.add_mul]; omega
theorem shR_none {f : Fo} (hf : FoB f) {wide : Int} (h : wide < 3 * widS f dotT) (l : List Tok) : ∀ n, shR f wide l n = dotsR f wide 3
  | 0 => by rw [shR, if_neg (by rw [sum_dots3]; omega)]
  | n + 1 => by
    have := (hf.sum (l.take (trN l (n + 1)))).1
    rw [shR, if_neg (by rw [sumW_append, sum_dots3]; omega)]
    exact shR_none hf h l n
theorem dotsR_eq (f : Fo) {wide : Int} (h1 : 1 ≤ wide) (h : wide < 3 * widS f dotT) : dotsR f wide 3 = List.replicate (wide / widS f dotT).toNat dotT := by
  have key : ∀ q : Nat, (q : Int) * widS f dotT ≤ wide → wide < ((q : Int) + 1) * widS f dotT → (wide / widS f dotT).toNat = q := fun q a b => by
    have : wide / widS f dotT = q := by
      apply Int.le_antisymm
      · have := (Int.ediv_lt_iff_lt_mul (show 0 < widS f dotT by omega)).2 b; omega
      · exact (Int.le_ediv_iff_mul_le (show 0 < widS f dotT by omega)).2 a
    rw [this]; rfl
  simp only [dotsR, sum_rep]
  generalize widS f dotT = d at *
  by_cases c2 : wide < 2 * d
  · by_cases c1 : wide < 1 * d
    · rw [if_pos (by simpa using h), if_pos (by simpa using c2), if_pos (by simpa using c1), key 0 (by simp; omega) (by simp; omega)]; rfl
    · rw [if_pos (by simpa using h), if_pos (by simpa using c2), if_neg (by simpa using c1), key 1 (by omega) (by omega)]
  · rw [if_pos (by simpa using h), if_neg (by simpa using c2), key 2 (by omega) (by omega)]
theorem shR_best {f : Fo} (hf : FoB f) {wide : Int} (h : ¬ wide < 3 * widS f dotT) (l : List Tok) : ∀ n, n ≤ l.length → (∀ k, n < k → k ≤ l.length → l.getD (k - 1) [] ≠ blT → ¬ sumW f (l.take k) ≤ wide - 3 * widS f dotT) → shR f wide l n = l.take (bestK f (wide - 3 * widS f dotT) l 0 0 0) ++ dots3
  | 0, _, hno => by
    obtain ⟨⟨_, b1⟩, b2, _⟩ := bestK_max f (wide - 3 * widS f dotT) l l 0 0 rfl (Nat.zero_le _) (Nat.le_refl _)
    have b3 := bestK_ok f (wide - 3 * widS f dotT) l l 0 0 rfl (by simp [sumW]; omega)
    rw [show sumW f (l.take 0) = 0 by simp [sumW]] at b1 b2 b3
    rw [shR, if_pos (by rw [sum_dots3]; omega)]
    generalize bestK f (wide - 3 * widS f dotT) l 0 0 0 = b at *
    by_cases e : b = 0
    · rw [e]; rfl
    · exact absurd b3 (hno b (by omega) b1 (b2.resolve_left e))
  | n + 1, hn, hno => by
    obtain ⟨⟨_, b1⟩, b2, b4⟩ := bestK_max f (wide - 3 * widS f dotT) l l 0 0 rfl (Nat.zero_le _) (Nat.le_refl _)
    have b3 := bestK_ok f (wide - 3 * widS f dotT) l l 0 0 rfl (by simp [sumW]; omega)
    obtain ⟨t1, t2, t3⟩ := trN_ok l (n + 1)
    rw [show sumW f (l.take 0) = 0 by simp [sumW]] at b1 b2 b3 b4
    rw [shR, sumW_append, sum_dots3]
    split
    · rename_i e
      suffices hh : trN l (n + 1) = bestK f (wide - 3 * widS f dotT) l 0 0 0 by rw [hh]
      generalize bestK f (wide - 3 * widS f dotT) l 0 0 0 = b at *
      generalize trN l (n + 1) = t at *
      have hbn : b ≤ n + 1 := by
        rcases Nat.lt_or_ge (n + 1) b with h9 | h9
        · exact absurd b3 (hno b h9 b1 (b2.resolve_left (by omega)))
        · exact h9
      have h1 : b ≤ t := t3 b hbn (by rcases b2 with h | h
                                      · exact .inl h
                                      · exact .inr h)
      have h2 : t ≤ b := by
        rcases t2 with h | h
        · omega
        · by_cases e0 : t = 0
          · omega
          · exact b4 t (by omega) (by omega) h (by omega)
      omega
    · rename_i e
      refine shR_best hf h l n (by omega) fun k hk hk2 hk3 => ?_
      by_cases e2 : k = n + 1
      · subst e2
        have := t3 (n + 1) (Nat.le_refl _) (.inr hk3)
        have e3 : trN l (n + 1) = n + 1 := by omega
        rw [e3] at e; omega
      · exact hno k (by omega) hk2 hk3
theorem short_ref {f : Fo} (hf : FoB f) {wide : Int} (h1 : 1 ≤ wide) (l : List Tok) : (if sumW f l ≤ wide then l else shR f wide l l.length) = shortT f wide l := by
  unfold shortT
  split
  · rfl
  · split
    · rename_i h
      rw [shR_none hf h, dotsR_eq f h1 h]
    · rename_i h
      exact shR_best hf h l _ (Nat.le_refl _) fun k h1 h2 => by omega
def bsOf (l : List UInt8) : ByteArray := ⟨⟨l⟩⟩
def decT : Tok → Nat × Nat
  | [b] => if b < 128 then (b.toNat, 1) else (65533, 1)
  | _ => (233, 2)
theorem get_bs (l : List UInt8) (k : Nat) (h : k < l.length) : (bsOf l).get! k = l[k] := by
  show (Array.mk l)[k]! = _
  rw [getElem!_pos _ k (by simpa using h)]; rfl
theorem size_bs (l : List UInt8) : (bsOf l).size = l.length := rfl
theorem decode_tok : ∀ t ∈ toks, ∀ rest : List UInt8, Lib.decodeGo (bsOf (t ++ rest)) = decT t := by
  intro t ht rest
  have hsz : ¬ (bsOf (t ++ rest)).size = 0 := by
    rw [size_bs, List.length_append]
    have : 0 < t.length := by
      have : ∀ t ∈ toks, 0 < t.length := by decide
      exact this t ht
    omega
  unfold Lib.decodeGo
  rw [if_neg hsz]
  simp only [toks, List.mem_cons, List.not_mem_nil, or_false] at ht
  rcases ht with rfl | rfl | rfl | rfl | rfl | rfl | rfl | rfl | rfl | rfl | rfl | rfl | rfl | rfl
  all_goals
    unfold Utf8.decode
    simp only [Nat.zero_add, size_bs, List.cons_append, List.nil_append, List.length_cons]
    rw [get_bs _ 0 (by simp)]
  case inr.inr.inr.inr.inr.inr.inr.inr.inr.inr.inr.inr.inl =>
    rw [get_bs _ 1 (by simp)]
    simp [decT]
  all_goals simp [decT, Utf8.runeError]
theorem bsOf_append (a b : List UInt8) : bsOf a ++ bsOf b = bsOf (a ++ b) := by
  apply ByteArray.ext
  simp [bsOf]
theorem bsOf_take (l : List UInt8) (k : Nat) : (bsOf l).extract 0 k = bsOf (l.take k) := by
  apply ByteArray.ext
  rw [ByteArray.data_extract]
  simp [bsOf]
theorem bsOf_drop (l : List UInt8) (k n : Nat) (hn : n = l.length) : (bsOf l).extract k n = bsOf (l.drop k) := by
  subst hn
  apply ByteArray.ext
  rw [ByteArray.data_extract]
  simp [bsOf, List.take_of_length_le]
theorem toks_pos : ∀ t ∈ toks, 1 ≤ t.length ∧ t.length ≤ 2 ∧ (decT t).2 = t.length := by decide
theorem toks_rune : ∀ t ∈ toks, (if t = [255] then (decT t).1 = 65533 else runeT t = some ((decT t).1 : Int)) ∧ (runeT [255] = none) ∧ ((decT t).1 = 65533 → t = [255]) ∧ (decT t).1 ≤ 65533 := by decide
def splitB (c : UInt8) : List UInt8 → List (List UInt8)
  | [] => [[]]
  | x :: l => if x = c then [] :: splitB c l else match splitB c l with
    | [] => [[x]]
    | p :: ps => (x :: p) :: ps
theorem splitB_ne (c : UInt8) (l : List UInt8) : splitB c l ≠ [] := by
  cases l with
  | nil => simp [splitB]
  | cons x l =>
    rw [splitB]
    split
    · simp
    · split <;> simp
theorem splitB_len (c : UInt8) : ∀ l : List UInt8, (splitB c l).length = Lib.countByte l c + 1
  | [] => rfl
  | x :: l => by
    have ih := splitB_len c l
    unfold Lib.countByte at *
    rw [splitB]
    split
    · rename_i e
      rw [List.length_cons, ih, e, List.count_cons_self]
    · rename_i e
      rw [List.count_cons_of_ne (fun h => e h)]
      split
      · rename_i h; exact absurd h (splitB_ne c l)
      · rename_i h; rw [h] at ih; simpa using ih
theorem splitB_none (c : UInt8) : ∀ {l : List UInt8}, Lib.indexByte l c < 0 → splitB c l = [l]
  | [], _ => rfl
  | x :: l, h => by
    rw [Lib.indexByte] at h
    split at h
    · omega
    · rename_i e
      have hx : x ≠ c := by simpa using e
      have hl : Lib.indexByte l c < 0 := by
        split at h
        · rename_i h2; have : Lib.indexByte l c = -1 := by simpa using h2
          omega
        · have := Lib.indexByte_ge l c; omega
      rw [splitB, if_neg hx, splitB_none c hl]
theorem splitB_some (c : UInt8) : ∀ {l : List UInt8} {i : Nat}, Lib.indexByte l c = i → i < l.length ∧ splitB c l = l.take i :: splitB c (l.drop (i + 1))
  | [], i, h => by rw [Lib.indexByte] at h; omega
  | x :: l, i, h => by
    rw [Lib.indexByte] at h
    split at h
    · rename_i e
      have hx : x = c := by simpa using e
      obtain rfl : i = 0 := by omega
      rw [splitB, if_pos hx]
      simp
    · rename_i e
      have hx : x ≠ c := by simpa using e
      split at h
      · omega
      · rename_i h2
        have h3 : Lib.indexByte l c ≠ -1 := by simpa using h2
        have h4 := Lib.indexByte_ge l c
        obtain ⟨j, rfl⟩ : ∃ j, i = j + 1 := ⟨i - 1, by omega⟩
        obtain ⟨h1, h2⟩ := splitB_some c (l := l) (i := j) (by omega)
        refine ⟨by simp only [List.length_cons]; omega, ?_⟩
        rw [splitB, if_neg hx, h2]
        simp
theorem splitB_app (c : UInt8) (t rest : List UInt8) (h : c ∉ t) : splitB c (t ++ rest) = match splitB c rest with
    | [] => [t]
    | p :: ps => (t ++ p) :: ps := by
  induction t with
  | nil =>
    cases h2 : splitB c rest with
    | nil => exact absurd h2 (splitB_ne c rest)
    | cons p ps => simp [h2]
  | cons x t ih =>
    have hx : x ≠ c := fun e => h (by simp [e])
    have ih := ih (fun e => h (by simp [e]))
    rw [List.cons_append, splitB, if_neg hx, ih]
    cases h2 : splitB c rest with
    | nil => exact absurd h2 (splitB_ne c rest)
    | cons p ps => simp
theorem splitB_toks (c : UInt8) (hc : ∀ t ∈ toks, t = [c] ∨ c ∉ t) : ∀ ts : List Tok, (∀ t ∈ ts, t ∈ toks) → splitB c ts.flatten = (splitT [c] ts).map List.flatten
  | [], _ => rfl
  | t :: ts, h => by
    have ih := splitB_toks c hc ts (fun x hx => h x (by simp [hx]))
    rw [List.flatten_cons, splitT]
    rcases hc t (h t (by simp)) with e | e
    · rw [if_pos e, e, List.singleton_append, splitB, if_pos rfl, ih]; rfl
    · have hne : t ≠ [c] := fun e2 => e (by simp [e2])
      rw [if_neg hne, splitB_app c t _ e, ih]
      cases h2 : splitT [c] ts with
      | nil => exact absurd h2 (splitT_ne _ _)
      | cons p ps => simp
theorem sp_ok : ∀ t ∈ toks, t = [32] ∨ (32 : UInt8) ∉ t := by decide
theorem lf_ok : ∀ t ∈ toks, t = [10] ∨ (10 : UInt8) ∉ t := by decide
open Nat renaming reduceAdd → nA, reduceSub → nB, reduceMul → nC, reduceLT → nD, reduceLeDiff → nE, reduceEqDiff → nF, reduceMod → nG, reduceDiv → nH, reducePow → nI
abbrev zP0E : List Nat := [0, 1, 2, 3, 4, 5, 6, 7, 8, 9, 10, 11]
abbrev zP0P : List (Nat × List Nat × List Nat) := []
abbrev zP1E : List Nat := [0, 1, 2, 3, 4, 5, 6, 7, 8, 9, 10, 11]
abbrev zP1P : List (Nat × List Nat × List Nat) := []
attribute [go_sem] zP0E zP0P zP1E zP1P
set_option maxRecDepth 100000
theorem a_outside (x lo hi : Int) (h : Hp) : ACalls Tryz.prog 46 [.v (.int .i64 x), .v (.int .i64 lo), .v (.int .i64 hi)] h (fun r h' => r = .v (.bool (decide (x < lo) || decide (hi < x))) ∧ h' = h) := by
 refine gE Tryz.func46 rfl (by kernel_rfl) 12 rfl fun c => ?_
 (repeat (first | refine gO rfl ?_ | (refine gR fun K1 hK1 => ?_; simp only [go_sem, ↓reduceIte, reduceCtorEq, nA, nB, nC, nD, nE, nF] <;> and_intros <;> first | (apply hK1; clear hK1 K1) | (intros; first | omega | decide | (simp_all <;> omega)) | skip)))
 simp only [Tryz.results46, go_sem, ↓reduceIte, reduceCtorEq, nA, nB, nC, nD, nE, nF]
 exact ⟨_, _, Weak.refl _, Hp.le.refl _, rfl, rfl⟩
def belowV (x n : Int) : Int := if n < 1 then 0 else x % n
theorem a_below (x n : Int) (h : Hp) (hx : -9223372036854775808 ≤ x ∧ x ≤ 9223372036854775807) (hn : n ≤ 9000000000000000000) : ACalls Tryz.prog 70 [.v (.int .i64 x), .v (.int .i64 n)] h (fun r h' => r = .v (.int .i64 (belowV x n)) ∧ h' = h) := by
 refine gE Tryz.func70 rfl (by kernel_rfl) 14 rfl fun c => ?_
 (repeat (first | refine gO rfl ?_ | (refine gR fun K1 hK1 => ?_; simp only [go_sem, ↓reduceIte, reduceCtorEq, nA, nB, nC, nD, nE, nF] <;> and_intros <;> first | (apply hK1; clear hK1 K1) | (intros; first | omega | decide | (simp_all <;> omega)) | skip)))
 refine awp_cond (t := _) rfl (fun h1 => ?_) (fun h1 => ?_)
 ·(repeat (first | refine gO rfl ?_ | (refine gR fun K1 hK1 => ?_; simp only [go_sem, ↓reduceIte, reduceCtorEq, nA, nB, nC, nD, nE, nF] <;> and_intros <;> first | (apply hK1; clear hK1 K1) | (intros; first | omega | decide | (simp_all <;> omega)) | skip)))
  simp only [Tryz.results70, go_sem, ↓reduceIte, reduceCtorEq, nA, nB, nC, nD, nE, nF]
  exact ⟨_, _, Weak.refl _, Hp.le.refl _, by simp only [belowV]; rw [if_pos (by simpa using h1)], rfl⟩
 ·have h2 : 1 ≤ n := by simpa using h1
  (repeat (first | refine gO rfl ?_ | (refine gR fun K1 hK1 => ?_; simp only [go_sem, ↓reduceIte, reduceCtorEq, nA, nB, nC, nD, nE, nF] <;> and_intros <;> first | (apply hK1; clear hK1 K1) | (intros; first | omega | decide | (simp_all <;> omega)) | skip)))
  have e1 : x.tmod n = if 0 ≤ x ∨ n ∣ x then x % n else x % n - n := by rw [Int.tmod_eq_emod]; split <;> omega
  have m0 := Int.emod_nonneg x (show n ≠ 0 by omega)
  have m1 := Int.emod_lt_of_pos x (show 0 < n by omega)
  refine awp_cond (t := _) rfl (fun h3 => ?_) (fun h3 => ?_)
  ·(repeat (first | refine gO rfl ?_ | (refine gR fun K1 hK1 => ?_; simp only [go_sem, ↓reduceIte, reduceCtorEq, nA, nB, nC, nD, nE, nF] <;> and_intros <;> first | (apply hK1; clear hK1 K1) | (intros; first | omega | decide | (simp_all <;> omega)) | skip)))
   simp only [Tryz.results70, go_sem, ↓reduceIte, reduceCtorEq, nA, nB, nC, nD, nE, nF]
   exact ⟨_, _, Weak.refl _, Hp.le.refl _, by
    simp only [decide_eq_true_eq] at h3
    simp only [belowV]; rw [if_neg (by omega)]
    congr 3; rw [e1] at h3 ⊢; split at h3 <;> simp_all <;> omega, rfl⟩
  ·(repeat (first | refine gO rfl ?_ | (refine gR fun K1 hK1 => ?_; simp only [go_sem, ↓reduceIte, reduceCtorEq, nA, nB, nC, nD, nE, nF] <;> and_intros <;> first | (apply hK1; clear hK1 K1) | (intros; first | omega | decide | (simp_all <;> omega)) | skip)))
   simp only [Tryz.results70, go_sem, ↓reduceIte, reduceCtorEq, nA, nB, nC, nD, nE, nF]
   exact ⟨_, _, Weak.refl _, Hp.le.refl _, by
    simp only [decide_eq_false_iff_not] at h3
    simp only [belowV]; rw [if_neg (by omega)]
    congr 3; rw [e1] at h3 ⊢; split at h3 <;> simp_all <;> omega, rfl⟩
theorem belowV_bd {x n : Int} (hn : 1 ≤ n) : 0 ≤ belowV x n ∧ belowV x n < n := by
 unfold belowV; rw [if_neg (by omega)]
 exact ⟨Int.emod_nonneg x (by omega), Int.emod_lt_of_pos x (by omega)⟩
def encI (x : Int) : List AV := [.v (.int .i64 x)]
def rowI (l : List Int) : AV := .row 1 (l.map encI) none
def strm (l : List Int) (a : Int) : AO := .cells [rowI l, .v (.int .i64 a)]
def nextV (l : List Int) (a n : Int) : Int := if l.length = 0 then belowV ((a + 1) * 7919) n else belowV (belowV (l.getD (a % l.length).toNat 0) 1073741824 + (a / l.length) * (7919 + a % l.length)) n
theorem a_next (i : Nat) (l : List Int) (a n : Int) (h : Hp) (hi : h.H i = some (strm l a)) (ha : 0 ≤ a ∧ a ≤ 1000000000) (hn : n ≤ 9000000000000000000) (hl : l.length ≤ 9223372036854775807) (hv : ∀ x ∈ l, -9223372036854775808 ≤ x ∧ x ≤ 9223372036854775807) :
  ACalls Tryz.prog 40 [.ptr i 0, .v (.int .i64 n)] h (fun r h' => r = .v (.int .i64 (nextV l a n)) ∧ h' = { h with H := upd h.H i (some (strm l (a + 1))) }) := by
 refine gE Tryz.func40 rfl (by kernel_rfl) 62 rfl fun c => ?_
 (repeat (first | refine gO rfl ?_ | ((first | refine gR ?_ | (with_reducible refine wM ?_ ?_) | ((with_reducible refine xS ?_); refine uD 4 zM10 zP0E zP0P 64 rfl (by kernel_rfl) ?_) | ((with_reducible refine xS ?_); refine uD 5 zM10 zP1E zP1P 64 rfl (by kernel_rfl) ?_)) <;> ((try with_reducible intro K1 hK1); simp only [go_sem, ↓reduceIte, reduceCtorEq, nA, nB, nC, nD, nE, nF, hi, strm, rowI] <;> and_intros <;> first | (apply hK1; clear hK1 K1) | (intros; first | omega | decide | (simp_all <;> omega)) | skip))))
 refine awp_cond (t := _) rfl (fun h1 => ?_) (fun h1 => ?_)
 ·have h0 : l.length = 0 := by simpa using h1
  (repeat (first | refine gO rfl ?_ | ((first | refine gR ?_ | (with_reducible refine wM ?_ ?_) | ((with_reducible refine xS ?_); refine uD 4 zM10 zP0E zP0P 64 rfl (by kernel_rfl) ?_) | ((with_reducible refine xS ?_); refine uD 5 zM10 zP1E zP1P 64 rfl (by kernel_rfl) ?_)) <;> ((try with_reducible intro K1 hK1); simp only [go_sem, ↓reduceIte, reduceCtorEq, nA, nB, nC, nD, nE, nF] <;> and_intros <;> first | (apply hK1; clear hK1 K1) | (intros; first | omega | decide | (simp_all <;> omega)) | skip))))
  refine (a_below ((a + 1) * 7919) n _ (by omega) hn).mono ?_; rintro _ _ ⟨rfl, rfl⟩; apply hK1; clear hK1 K1
  (repeat (first | refine gO rfl ?_ | ((first | refine gR ?_ | (with_reducible refine wM ?_ ?_) | ((with_reducible refine xS ?_); refine uD 4 zM10 zP0E zP0P 64 rfl (by kernel_rfl) ?_) | ((with_reducible refine xS ?_); refine uD 5 zM10 zP1E zP1P 64 rfl (by kernel_rfl) ?_)) <;> ((try with_reducible intro K1 hK1); simp only [go_sem, ↓reduceIte, reduceCtorEq, nA, nB, nC, nD, nE, nF] <;> and_intros <;> first | (apply hK1; clear hK1 K1) | (intros; first | omega | decide | (simp_all <;> omega)) | skip))))
  simp only [Tryz.results40, go_sem, ↓reduceIte, reduceCtorEq, nA, nB, nC, nD, nE, nF]
  exact ⟨_, _, Weak.refl _, Hp.le.refl _, by simp only [nextV]; rw [if_pos h0], rfl⟩
 ·have h0 : l.length ≠ 0 := by simpa using h1
  have hq : a.tdiv l.length = a / l.length := Int.tdiv_eq_ediv_of_nonneg ha.1
  have hr : a.tmod l.length = a % l.length := Int.tmod_eq_emod_of_nonneg ha.1
  have q0 : 0 ≤ a / (l.length : Int) := Int.ediv_nonneg ha.1 (by omega)
  have q1 : a / (l.length : Int) ≤ a := Int.ediv_le_self _ ha.1
  have r0 := Int.emod_nonneg a (show (l.length : Int) ≠ 0 by omega)
  have r1 := Int.emod_lt_of_pos a (show (0 : Int) < l.length by omega)
  have r2 : a % (l.length : Int) ≤ a := by
   have := Int.emod_add_mul_ediv a l.length
   have := Int.mul_nonneg (show (0 : Int) ≤ l.length by omega) q0
   omega
  have hg := getD_enc encI l (a % (l.length : Int)).toNat 0 (by omega)
  have hx : -9223372036854775808 ≤ l.getD (a % (l.length : Int)).toNat 0 ∧ l.getD (a % (l.length : Int)).toNat 0 ≤ 9223372036854775807 := by
   rw [List.getD_eq_getElem?_getD, List.getElem?_eq_getElem (show (a % (l.length : Int)).toNat < l.length by omega)]
   exact hv _ (List.getElem_mem _)
  have hm0 : 0 ≤ a / (l.length : Int) * (7919 + a % l.length) := Int.mul_nonneg q0 (by omega)
  have hm1 : a / (l.length : Int) * (7919 + a % l.length) ≤ 7920 * a := by
   have e1 : a / (l.length : Int) * (7919 + a % l.length) = 7919 * (a / l.length) + a / l.length * (a % l.length) := by rw [Int.mul_add, Int.mul_comm _ 7919]
   have e2 : a / (l.length : Int) * (a % l.length) ≤ a / l.length * l.length := Int.mul_le_mul_of_nonneg_left (by omega) q0
   have e3 : a / (l.length : Int) * l.length ≤ a := Int.ediv_mul_le a (by omega)
   omega
  have hb := belowV_bd (x := l.getD (a % (l.length : Int)).toNat 0) (n := 1073741824) (by omega)
  (repeat (first | refine gO rfl ?_ | ((first | refine gR ?_ | (with_reducible refine wM ?_ ?_) | ((with_reducible refine xS ?_); refine uD 4 zM10 zP0E zP0P 64 rfl (by kernel_rfl) ?_) | ((with_reducible refine xS ?_); refine uD 5 zM10 zP1E zP1P 64 rfl (by kernel_rfl) ?_)) <;> ((try with_reducible intro K1 hK1); simp only [go_sem, ↓reduceIte, reduceCtorEq, nA, nB, nC, nD, nE, nF, hq, hr, hg, encI] <;> and_intros <;> first | (apply hK1; clear hK1 K1) | (intros; first | omega | decide | (simp_all <;> omega)) | skip))))
  refine (a_below _ _ _ hx (by omega)).mono ?_; rintro _ _ ⟨rfl, rfl⟩; apply hK1; clear hK1 K1
  (repeat (first | refine gO rfl ?_ | ((first | refine gR ?_ | (with_reducible refine wM ?_ ?_) | ((with_reducible refine xS ?_); refine uD 4 zM10 zP0E zP0P 64 rfl (by kernel_rfl) ?_) | ((with_reducible refine xS ?_); refine uD 5 zM10 zP1E zP1P 64 rfl (by kernel_rfl) ?_)) <;> ((try with_reducible intro K1 hK1); simp only [go_sem, ↓reduceIte, reduceCtorEq, nA, nB, nC, nD, nE, nF] <;> and_intros <;> first | (apply hK1; clear hK1 K1) | (intros; first | omega | decide | (simp_all <;> omega)) | skip))))
  refine (a_below _ _ _ (by omega) hn).mono ?_; rintro _ _ ⟨rfl, rfl⟩; apply hK1; clear hK1 K1
  (repeat (first | refine gO rfl ?_ | ((first | refine gR ?_ | (with_reducible refine wM ?_ ?_) | ((with_reducible refine xS ?_); refine uD 4 zM10 zP0E zP0P 64 rfl (by kernel_rfl) ?_) | ((with_reducible refine xS ?_); refine uD 5 zM10 zP1E zP1P 64 rfl (by kernel_rfl) ?_)) <;> ((try with_reducible intro K1 hK1); simp only [go_sem, ↓reduceIte, reduceCtorEq, nA, nB, nC, nD, nE, nF] <;> and_intros <;> first | (apply hK1; clear hK1 K1) | (intros; first | omega | decide | (simp_all <;> omega)) | skip))))
  simp only [Tryz.results40, go_sem, ↓reduceIte, reduceCtorEq, nA, nB, nC, nD, nE, nF]
  exact ⟨_, _, Weak.refl _, Hp.le.refl _, by simp only [nextV]; rw [if_neg h0], rfl⟩
def SOk (l : List Int) : Prop := l.length ≤ 9223372036854775807 ∧ ∀ x ∈ l, -9223372036854775808 ≤ x ∧ x ≤ 9223372036854775807
def Hp.st (h : Hp) (i : Nat) (l : List Int) (a : Int) : Hp := { h with H := upd h.H i (some (strm l a)) }
theorem st_at (h : Hp) (i : Nat) (l : List Int) (a : Int) : (h.st i l a).H i = some (strm l a) := upd_same _ _ _
theorem st_st (h : Hp) (i : Nat) (l : List Int) (a b : Int) : (h.st i l a).st i l b = h.st i l b := by
 simp only [Hp.st]
 congr 1
 exact upd_upd _ _ _ _
theorem nextV_bd {l : List Int} {a n : Int} (hn : 1 ≤ n) : 0 ≤ nextV l a n ∧ nextV l a n < n := by
 unfold nextV; split <;> exact belowV_bd hn
theorem g_next (i : Nat) (l : List Int) (a n : Int) (h : Hp) (hl : SOk l) (ha : 0 ≤ a ∧ a ≤ 1000000000) (hn : 1 ≤ n ∧ n ≤ 9000000000000000000) :
  ACalls Tryz.prog 40 [.ptr i 0, .v (.int .i64 n)] (h.st i l a) (fun r h' => ∃ x : Int, (0 ≤ x ∧ x < n) ∧ r = .v (.int .i64 x) ∧ h' = h.st i l (a + 1)) :=
 (a_next i l a n (h.st i l a) (st_at _ _ _ _) ha hn.2 hl.1 hl.2).mono fun r h' ⟨e, e2⟩ => ⟨nextV l a n, nextV_bd hn.1, e, e2.trans (st_st _ _ _ _ _)⟩
theorem g_flip (i : Nat) (l : List Int) (a n : Int) (h : Hp) (hl : SOk l) (ha : 0 ≤ a ∧ a ≤ 1000000000) (hn : 1 ≤ n ∧ n ≤ 9000000000000000000) :
  ACalls Tryz.prog 36 [.ptr i 0, .v (.int .i64 n)] (h.st i l a) (fun r h' => ∃ b : Bool, r = .v (.bool b) ∧ h' = h.st i l (a + 1)) := by
 refine gE Tryz.func36 rfl (by kernel_rfl) 7 rfl fun c => ?_
 (repeat (first | refine gO rfl ?_ | (refine gR fun K1 hK1 => ?_; simp only [go_sem, ↓reduceIte, reduceCtorEq, nA, nB, nC, nD, nE, nF] <;> and_intros <;> first | (apply hK1; clear hK1 K1) | (intros; first | omega | decide | (simp_all <;> omega)) | skip)))
 refine (g_next i l a n h hl ha hn).mono ?_; rintro _ _ ⟨x, hx, rfl, rfl⟩; apply hK1; clear hK1 K1
 (repeat (first | refine gO rfl ?_ | (refine gR fun K1 hK1 => ?_; simp only [go_sem, ↓reduceIte, reduceCtorEq, nA, nB, nC, nD, nE, nF] <;> and_intros <;> first | (apply hK1; clear hK1 K1) | (intros; first | omega | decide | (simp_all <;> omega)) | skip)))
 simp only [Tryz.results36, go_sem, ↓reduceIte, reduceCtorEq, nA, nB, nC, nD, nE, nF]
 exact ⟨_, _, Weak.refl _, Hp.le.refl _, _, rfl, rfl⟩
theorem g_range (i : Nat) (l : List Int) (a lo hi : Int) (h : Hp) (hl : SOk l) (ha : 0 ≤ a ∧ a ≤ 1000000000) (h1 : -4000000000000000000 ≤ lo) (h2 : lo ≤ hi) (h3 : hi ≤ 4000000000000000000) :
  ACalls Tryz.prog 30 [.ptr i 0, .v (.int .i64 lo), .v (.int .i64 hi)] (h.st i l a) (fun r h' => ∃ x : Int, (lo ≤ x ∧ x ≤ hi) ∧ r = .v (.int .i64 x) ∧ h' = h.st i l (a + 1)) := by
 refine gE Tryz.func30 rfl (by kernel_rfl) 16 rfl fun c => ?_
 (repeat (first | refine gO rfl ?_ | (refine gR fun K1 hK1 => ?_; simp only [go_sem, ↓reduceIte, reduceCtorEq, nA, nB, nC, nD, nE, nF] <;> and_intros <;> first | (apply hK1; clear hK1 K1) | (intros; first | omega | decide | (simp_all <;> omega)) | skip)))
 refine awp_cond (t := _) rfl (fun h4 => ?_) (fun h4 => ?_)
 ·exfalso; simp only [decide_eq_true_eq] at h4; omega
 ·(repeat (first | refine gO rfl ?_ | (refine gR fun K1 hK1 => ?_; simp only [go_sem, ↓reduceIte, reduceCtorEq, nA, nB, nC, nD, nE, nF] <;> and_intros <;> first | (apply hK1; clear hK1 K1) | (intros; first | omega | decide | (simp_all <;> omega)) | skip)))
  refine (g_next i l a (hi - lo + 1) h hl ha (by omega)).mono ?_; rintro _ _ ⟨x, hx, rfl, rfl⟩; apply hK1; clear hK1 K1
  (repeat (first | refine gO rfl ?_ | (refine gR fun K1 hK1 => ?_; simp only [go_sem, ↓reduceIte, reduceCtorEq, nA, nB, nC, nD, nE, nF] <;> and_intros <;> first | (apply hK1; clear hK1 K1) | (intros; first | omega | decide | (simp_all <;> omega)) | skip)))
  simp only [Tryz.results30, go_sem, ↓reduceIte, reduceCtorEq, nA, nB, nC, nD, nE, nF]
  exact ⟨_, _, Weak.refl _, Hp.le.refl _, lo + x, by omega, rfl, rfl⟩
theorem getD_mem {l : List Int} {x : Int} (h : 0 ≤ x ∧ x < l.length) : l.getD x.toNat 0 ∈ l := by
 rw [List.getD_eq_getElem?_getD, List.getElem?_eq_getElem (show x.toNat < l.length by omega)]
 exact List.getElem_mem _
theorem g_pick (i : Nat) (l : List Int) (a : Int) (ps : List Int) (k : Option Nat) (h : Hp) (hl : SOk l) (ha : 0 ≤ a ∧ a ≤ 1000000000) (hp : 1 ≤ ps.length ∧ ps.length ≤ 100) :
  ACalls Tryz.prog 23 [.ptr i 0, .row 1 (ps.map encI) k] (h.st i l a) (fun r h' => ∃ x ∈ ps, r = .v (.int .i64 x) ∧ h' = h.st i l (a + 1)) := by
 refine gE Tryz.func23 rfl (by kernel_rfl) 10 rfl fun c => ?_
 (repeat (first | refine gO rfl ?_ | (refine gR fun K1 hK1 => ?_; simp only [go_sem, ↓reduceIte, reduceCtorEq, nA, nB, nC, nD, nE, nF] <;> and_intros <;> first | (apply hK1; clear hK1 K1) | (intros; first | omega | decide | (simp_all <;> omega)) | skip)))
 refine (g_next i l a ps.length h hl ha (by omega)).mono ?_; rintro _ _ ⟨x, hx, rfl, rfl⟩; apply hK1; clear hK1 K1
 have hg := getD_enc encI ps x.toNat 0 (by omega)
 (repeat (first | refine gO rfl ?_ | (refine gR fun K1 hK1 => ?_; simp only [go_sem, ↓reduceIte, reduceCtorEq, nA, nB, nC, nD, nE, nF, hg, encI] <;> and_intros <;> first | (apply hK1; clear hK1 K1) | (intros; first | omega | decide | (simp_all <;> omega)) | skip)))
 simp only [Tryz.results23, go_sem, ↓reduceIte, reduceCtorEq, nA, nB, nC, nD, nE, nF]
 exact ⟨_, _, Weak.refl _, Hp.le.refl _, _, getD_mem hx, rfl, rfl⟩
def encS (x : ByteArray) : List AV := [.v (.string x)]
theorem getD_memS {l : List ByteArray} {x : Int} (h : 0 ≤ x ∧ x < l.length) (d : ByteArray) : l.getD x.toNat d ∈ l := by
 rw [List.getD_eq_getElem?_getD, List.getElem?_eq_getElem (show x.toNat < l.length by omega)]
 exact List.getElem_mem _
theorem g_some (i : Nat) (l : List Int) (a : Int) (ps : List ByteArray) (k : Option Nat) (h : Hp) (hl : SOk l) (ha : 0 ≤ a ∧ a ≤ 1000000000) (hp : 1 ≤ ps.length ∧ ps.length ≤ 100) :
  ACalls Tryz.prog 37 [.ptr i 0, .row 1 (ps.map encS) k] (h.st i l a) (fun r h' => ∃ x ∈ ps, r = .v (.string x) ∧ h' = h.st i l (a + 1)) := by
 refine gE Tryz.func37 rfl (by kernel_rfl) 10 rfl fun c => ?_
 (repeat (first | refine gO rfl ?_ | (refine gR fun K1 hK1 => ?_; simp only [go_sem, ↓reduceIte, reduceCtorEq, nA, nB, nC, nD, nE, nF] <;> and_intros <;> first | (apply hK1; clear hK1 K1) | (intros; first | omega | decide | (simp_all <;> omega)) | skip)))
 refine (g_next i l a ps.length h hl ha (by omega)).mono ?_; rintro _ _ ⟨x, hx, rfl, rfl⟩; apply hK1; clear hK1 K1
 have hg := getD_enc encS ps x.toNat default (by omega)
 (repeat (first | refine gO rfl ?_ | (refine gR fun K1 hK1 => ?_; simp only [go_sem, ↓reduceIte, reduceCtorEq, nA, nB, nC, nD, nE, nF, hg, encS] <;> and_intros <;> first | (apply hK1; clear hK1 K1) | (intros; first | omega | decide | (simp_all <;> omega)) | skip)))
 simp only [Tryz.results37, go_sem, ↓reduceIte, reduceCtorEq, nA, nB, nC, nD, nE, nF]
 exact ⟨_, _, Weak.refl _, Hp.le.refl _, _, getD_memS hx _, rfl, rfl⟩
theorem g_odd (i : Nat) (l : List Int) (a lo hi : Int) (h : Hp) (hl : SOk l) (ha : 0 ≤ a ∧ a ≤ 900000000) (h1 : -4000000000000000 ≤ lo) (h2 : lo ≤ hi) (h3 : hi ≤ 4000000000000000) :
  ACalls Tryz.prog 38 [.ptr i 0, .v (.int .i64 lo), .v (.int .i64 hi)] (h.st i l a) (fun r h' => ∃ x a' : Int, (-5000000000000000 ≤ x ∧ x ≤ 5000000000000000) ∧ (a ≤ a' ∧ a' ≤ a + 2) ∧ r = .v (.int .i64 x) ∧ h' = h.st i l a') := by
 refine gE Tryz.func38 rfl (by kernel_rfl) 19 rfl fun c => ?_
 (repeat (first | refine gO rfl ?_ | (refine gR fun K1 hK1 => ?_; simp only [go_sem, ↓reduceIte, reduceCtorEq, nA, nB, nC, nD, nE, nF] <;> and_intros <;> first | (apply hK1; clear hK1 K1) | (intros; first | omega | decide | (simp_all <;> omega)) | skip)))
 refine (g_flip i l a 12 h hl (by omega) (by omega)).mono ?_; rintro _ _ ⟨b, rfl, rfl⟩; apply hK1; clear hK1 K1
 (repeat (first | refine gO rfl ?_ | (refine gR fun K1 hK1 => ?_; simp only [go_sem, ↓reduceIte, reduceCtorEq, nA, nB, nC, nD, nE, nF] <;> and_intros <;> first | (apply hK1; clear hK1 K1) | (intros; first | omega | decide | (simp_all <;> omega)) | skip)))
 refine awp_cond (t := _) rfl (fun h4 => ?_) (fun h4 => ?_)
 ·(repeat (first | refine gO rfl ?_ | (refine gR fun K1 hK1 => ?_; simp only [go_sem, ↓reduceIte, reduceCtorEq, nA, nB, nC, nD, nE, nF] <;> and_intros <;> first | (apply hK1; clear hK1 K1) | (intros; first | omega | decide | (simp_all <;> omega)) | skip)))
  refine (g_pick i l (a + 1) [lo - 1, hi + 1, lo, hi, -1099511627776, 1099511627776] none h hl (by omega) (by simp)).mono ?_; rintro _ _ ⟨x, hx, rfl, rfl⟩; apply hK1; clear hK1 K1
  (repeat (first | refine gO rfl ?_ | (refine gR fun K1 hK1 => ?_; simp only [go_sem, ↓reduceIte, reduceCtorEq, nA, nB, nC, nD, nE, nF] <;> and_intros <;> first | (apply hK1; clear hK1 K1) | (intros; first | omega | decide | (simp_all <;> omega)) | skip)))
  simp only [Tryz.results38, go_sem, ↓reduceIte, reduceCtorEq, nA, nB, nC, nD, nE, nF]
  exact ⟨_, _, Weak.refl _, Hp.le.refl _, x, a + 1 + 1, by simp at hx; omega, by omega, rfl, rfl⟩
 ·(repeat (first | refine gO rfl ?_ | (refine gR fun K1 hK1 => ?_; simp only [go_sem, ↓reduceIte, reduceCtorEq, nA, nB, nC, nD, nE, nF] <;> and_intros <;> first | (apply hK1; clear hK1 K1) | (intros; first | omega | decide | (simp_all <;> omega)) | skip)))
  refine (g_range i l (a + 1) lo hi h hl (by omega) (by omega) h2 (by omega)).mono ?_; rintro _ _ ⟨x, hx, rfl, rfl⟩; apply hK1; clear hK1 K1
  (repeat (first | refine gO rfl ?_ | (refine gR fun K1 hK1 => ?_; simp only [go_sem, ↓reduceIte, reduceCtorEq, nA, nB, nC, nD, nE, nF] <;> and_intros <;> first | (apply hK1; clear hK1 K1) | (intros; first | omega | decide | (simp_all <;> omega)) | skip)))
  simp only [Tryz.results38, go_sem, ↓reduceIte, reduceCtorEq, nA, nB, nC, nD, nE, nF]
  exact ⟨_, _, Weak.refl _, Hp.le.refl _, x, a + 1 + 1, by omega, by omega, rfl, rfl⟩
open Go.RowKit
set_option maxHeartbeats 8000000
def tabU (b o : Nat) : Option Value :=
 if b = 0 then (if o < 256 then some (.int .u8 (Lib.firstT o)) else none)
 else if b = 1 then (if o < 32 then some (.int .u8 (if o % 2 = 0 then Lib.accLo (o / 2) else Lib.accHi (o / 2))) else none)
 else none
theorem tabs_of {G : Gh} {h : Hp} {w : World} (hs : HSim G h w) {k0 : Nat} (hT : h.T k0 = some (.glb tabU)) : Lib.Utf8Tabs 0 1 w := by
 obtain ⟨_, hv⟩ := hs.tok k0 _ hT
 have key : ∀ b o v, tabU b o = some v → w.cell? ⟨b, o, none⟩ = some v := fun b o v e => hs.cell _ _ _ (hv b o v e)
 refine ⟨fun c hc => key _ _ _ (by simp [tabU, hc]), fun i hi => ⟨key _ _ _ ?_, key _ _ _ ?_⟩⟩
 ·have h1 : 2 * i < 32 := by omega
  simp [tabU, h1]
 ·have h1 : 2 * i + 1 < 32 := by omega
  have h2 : (2 * i + 1) % 2 = 1 := by omega
  have h3 : (2 * i + 1) / 2 = i := by omega
  simp [tabU, h1, h2, h3]
theorem g_decode (t : Tok) (ht : t ∈ toks) (rest : List UInt8) (k0 : Nat) (h : Hp) (hT : h.T k0 = some (.glb tabU)) :
  ACalls Tryz.prog 49 [.v (.string (bsOf (t ++ rest)))] h (fun r h' => r = .tup [.v (.int .i32 (decT t).1), .v (.int .i64 (decT t).2)] ∧ h' = h) := by
 refine ⟨by kernel_rfl, fun G w vs hs hl ha => ?_⟩
 have e : vs = #[.string (bsOf (t ++ rest))] := by
  apply Array.ext
  ·simpa using hl
  ·intro j hj hj'
   have hj0 : j = 0 := by simp at hj'; omega
   subst hj0
   have := ha 0 (by simp)
   simp only [List.getElem_cons_zero] at this
   have h2 : vs.getD 0 undef = vs[0] := by simp [Array.getD, hj]
   rw [h2] at this
   simp only [List.getElem_toArray, List.getElem_cons_zero]
   generalize vs[0] = y at this
   cases this
   rfl
 subst e
 refine (Tryz.utf8_DecodeRuneInString (bsOf (t ++ rest)) w (tabs_of hs hT)).mono ?_
 rintro _ w' ⟨rfl, hb⟩
 rw [decode_tok t ht rest]
 have hb' : ∀ b, b < w.heap.size → w'.heap[b]? = w.heap[b]? := fun b hb2 => hb.block b hb2
 refine ⟨_, h, G, _, rfl, ⟨rfl, rfl⟩, GLe.refl _, Fr.below (Fr.refl _ _ _) hb' hb.os hb.tape hb.output hb.size, hs.below hb', ?_⟩
 refine .tup _ _ (fun j => #[Value.int .i32 (decT t).1, Value.int .i64 (decT t).2].getD j undef) rfl (fun j hj => ?_) (fun j hj => ?_)
 ·match j, hj with
  | 0, _ => rfl
  | 1, _ => rfl
 ·match j, hj with
  | 0, _ => exact .v _ rfl
  | 1, _ => exact .v _ rfl
theorem g_signsP (ts : List Tok) (hts : ∀ t ∈ ts, t ∈ toks) (hl : ts.length ≤ 10000) (k0 : Nat) (h : Hp) (hT : h.T k0 = some (.glb tabU)) :
  ACalls Tryz.prog 74 [.v (.string (bsOf ts.flatten))] h (fun r h' => ∃ k, h.T k = none ∧ r = .row 1 (ts.map fun t => encS (bsOf t)) (some k) ∧ h' = ⟨h.H, upd h.T k (some (.tail ts.length))⟩) := by
 refine gE Tryz.func74 rfl (by kernel_rfl) 22 rfl fun c => ?_
 (repeat (first | refine gO rfl ?_ | (refine gR fun K1 hK1 => ?_; simp only [go_sem, ↓reduceIte, reduceCtorEq, nA, nB, nC, nD, nE, nF] <;> and_intros <;> first | (apply hK1; clear hK1 K1) | (intros; first | omega | decide) | skip)))
 refine awp_own 3 1 rfl ⟨rfl, rfl⟩ (fun k hk => ?_)
 replace hk : h.T k = none := hk
 have hkk : k0 ≠ k := by rintro rfl; rw [hT] at hk; cases hk
 refine awp_loopC (rl false [0, 1, 2, 1, 19]) 0 (fun g s => ∃ j : Nat, g + j = ts.length ∧
  s = ⟨((.v (.string (bsOf (ts.drop j).flatten))) :: AV.junk :: AV.junk :: ((.row 1 ((ts.take j).map fun t => encS (bsOf t)) (some k)) :: (jnk 19 []))), [], ⟨h.H, upd h.T k (some (.tail j))⟩⟩) ts.length ⟨0, by omega, rfl⟩ ?_
 rintro g _ ⟨j, hj, rfl⟩
 (repeat (first | refine gO rfl ?_ | (refine gR fun K1 hK1 => ?_; simp only [go_sem, ↓reduceIte, reduceCtorEq, nA, nB, nC, nD, nE, nF] <;> and_intros <;> first | (apply hK1; clear hK1 K1) | (intros; first | omega | decide) | skip)))
 by_cases hjl : j < ts.length
 ·have ht : ts[j] ∈ toks := hts _ (List.getElem_mem hjl)
  have e1 : (ts.drop j).flatten = ts[j] ++ (ts.drop (j + 1)).flatten := by rw [List.drop_eq_getElem_cons hjl, List.flatten_cons]
  have e2 : (ts.take (j + 1)).map (fun t => encS (bsOf t)) = (ts.take j).map (fun t => encS (bsOf t)) ++ [[.v (.string (bsOf ts[j]))]] := by rw [List.take_succ_eq_append_getElem hjl, List.map_append]; rfl
  have e3 : ((ts.take j).map fun t => encS (bsOf t)).length = j := by rw [List.length_map, List.length_take]; omega
  have e4 : (ts.take j).length = j := by rw [List.length_take]; omega
  rw [e1]
  obtain ⟨X, hX⟩ : ∃ X, (ts.drop (j + 1)).flatten = X := ⟨_, rfl⟩
  rw [hX] at e1 ⊢
  generalize ts[j] = t at *
  have hd := g_decode t ht X k0 ⟨h.H, upd h.T k (some (.tail j))⟩ ((upd_other _ _ hkk).trans hT)
  obtain ⟨p1, p2, p3⟩ := toks_pos t ht
  have hne : (bsOf (t ++ X) == (⟨#[]⟩ : ByteArray)) = false := by
   rw [ba_beq, decide_eq_false_iff_not]
   intro e
   have := congrArg ByteArray.size e
   rw [size_bs, List.length_append] at this
   have : (⟨#[]⟩ : ByteArray).size = 0 := rfl
   omega
  have hsz : (bsOf (t ++ X)).size = t.length + X.length := by rw [size_bs, List.length_append]
  have hx1 : (bsOf (t ++ X)).extract 0 (decT t).2 = bsOf t := by rw [bsOf_take, p3, List.take_left]
  have hx2 : (bsOf (t ++ X)).extract (decT t).2 (bsOf (t ++ X)).size = bsOf X := by rw [size_bs, bsOf_drop _ _ _ rfl, p3, List.drop_left]
  have hz : Int.toNat 0 = 0 := rfl
  have hle : (decT t).2 ≤ (bsOf (t ++ X)).size := by omega
  have htk : upd h.T k (some (TO.tail j)) k = some (.tail j) := upd_same _ _ _
  refine awp_cond (t := _) rfl (fun _ => ?_) (fun h9 => by rw [hne] at h9; cases h9)
  (repeat (first | refine gO rfl ?_ | (refine gR fun K1 hK1 => ?_; simp only [go_sem, ↓reduceIte, reduceCtorEq, nA, nB, nC, nD, nE, nF] <;> and_intros <;> first | (apply hK1; clear hK1 K1) | (intros; first | omega | decide) | skip)))
  refine hd.mono ?_; rintro _ hz ⟨rfl, hh⟩; apply hK1; clear hK1 K1; rw [hh]; clear hh hz
  clear hd
  (repeat (first | refine gO rfl ?_ | (refine gR fun K1 hK1 => ?_; simp only [go_sem, ↓reduceIte, reduceCtorEq, nA, nB, nC, nD, nE, nF, Int.toNat_natCast, hz, hx1, hx2, htk, e3, e4, List.length_map, Option.toList_none, Option.toList_some, List.append_eq, List.nil_append, List.cons_append, uside] <;> and_intros <;> first | (apply hK1; clear hK1 K1) | (intros; first | omega | decide) | skip)))
  refine ⟨g - 1, by omega, j + 1, by omega, ?_⟩
  rw [e2, hX]
  rfl
 ·have hjl : j = ts.length := by omega
  subst hjl
  have hne : (bsOf (List.drop ts.length ts).flatten == (⟨#[]⟩ : ByteArray)) = true := by rw [List.drop_length, ba_beq, decide_eq_true_eq]; rfl
  refine awp_cond (t := _) rfl (fun h9 => by rw [hne] at h9; cases h9) (fun _ => ?_)
  rw [List.take_length]
  (repeat (first | refine gO rfl ?_ | (refine gR fun K1 hK1 => ?_; simp only [go_sem, ↓reduceIte, reduceCtorEq, nA, nB, nC, nD, nE, nF] <;> and_intros <;> first | (apply hK1; clear hK1 K1) | (intros; first | omega | decide) | skip)))
  simp only [Tryz.results74, go_sem, ↓reduceIte, reduceCtorEq, nA, nB, nC, nD, nE, nF]
  exact ⟨_, _, Weak.refl _, Hp.le.refl _, k, hk, rfl, rfl⟩
theorem g_signsR (ts : List Tok) (hts : ∀ t ∈ ts, t ∈ toks) (hl : ts.length ≤ 10000) (k0 : Nat) (h : Hp) (hT : h.T k0 = some (.glb tabU)) :
  ACalls Tryz.prog 48 [.v (.string (bsOf ts.flatten))] h (fun r h' => ∃ k, h.T k = none ∧ r = .row 1 (ts.map fun t => encS (bsOf t)) (some k) ∧ h' = ⟨h.H, upd h.T k (some (.tail ts.length))⟩) := by
 refine gE Tryz.func48 rfl (by kernel_rfl) 22 rfl fun c => ?_
 (repeat (first | refine gO rfl ?_ | (refine gR fun K1 hK1 => ?_; simp only [go_sem, ↓reduceIte, reduceCtorEq, nA, nB, nC, nD, nE, nF] <;> and_intros <;> first | (apply hK1; clear hK1 K1) | (intros; first | omega | decide) | skip)))
 refine awp_own 3 1 rfl ⟨rfl, rfl⟩ (fun k hk => ?_)
 replace hk : h.T k = none := hk
 have hkk : k0 ≠ k := by rintro rfl; rw [hT] at hk; cases hk
 refine awp_loopC (rl false [0, 1, 2, 1, 19]) 0 (fun g s => ∃ j : Nat, g + j = ts.length ∧
  s = ⟨((.v (.string (bsOf (ts.drop j).flatten))) :: AV.junk :: AV.junk :: ((.row 1 ((ts.take j).map fun t => encS (bsOf t)) (some k)) :: (jnk 19 []))), [], ⟨h.H, upd h.T k (some (.tail j))⟩⟩) ts.length ⟨0, by omega, rfl⟩ ?_
 rintro g _ ⟨j, hj, rfl⟩
 (repeat (first | refine gO rfl ?_ | (refine gR fun K1 hK1 => ?_; simp only [go_sem, ↓reduceIte, reduceCtorEq, nA, nB, nC, nD, nE, nF] <;> and_intros <;> first | (apply hK1; clear hK1 K1) | (intros; first | omega | decide) | skip)))
 by_cases hjl : j < ts.length
 ·have ht : ts[j] ∈ toks := hts _ (List.getElem_mem hjl)
  have e1 : (ts.drop j).flatten = ts[j] ++ (ts.drop (j + 1)).flatten := by rw [List.drop_eq_getElem_cons hjl, List.flatten_cons]
  have e2 : (ts.take (j + 1)).map (fun t => encS (bsOf t)) = (ts.take j).map (fun t => encS (bsOf t)) ++ [[.v (.string (bsOf ts[j]))]] := by rw [List.take_succ_eq_append_getElem hjl, List.map_append]; rfl
  have e3 : ((ts.take j).map fun t => encS (bsOf t)).length = j := by rw [List.length_map, List.length_take]; omega
  have e4 : (ts.take j).length = j := by rw [List.length_take]; omega
  rw [e1]
  obtain ⟨X, hX⟩ : ∃ X, (ts.drop (j + 1)).flatten = X := ⟨_, rfl⟩
  rw [hX] at e1 ⊢
  generalize ts[j] = t at *
  have hd := g_decode t ht X k0 ⟨h.H, upd h.T k (some (.tail j))⟩ ((upd_other _ _ hkk).trans hT)
  obtain ⟨p1, p2, p3⟩ := toks_pos t ht
  have hne : (bsOf (t ++ X) == (⟨#[]⟩ : ByteArray)) = false := by
   rw [ba_beq, decide_eq_false_iff_not]
   intro e
   have := congrArg ByteArray.size e
   rw [size_bs, List.length_append] at this
   have : (⟨#[]⟩ : ByteArray).size = 0 := rfl
   omega
  have hsz : (bsOf (t ++ X)).size = t.length + X.length := by rw [size_bs, List.length_append]
  have hx1 : (bsOf (t ++ X)).extract 0 (decT t).2 = bsOf t := by rw [bsOf_take, p3, List.take_left]
  have hx2 : (bsOf (t ++ X)).extract (decT t).2 (bsOf (t ++ X)).size = bsOf X := by rw [size_bs, bsOf_drop _ _ _ rfl, p3, List.drop_left]
  have hz : Int.toNat 0 = 0 := rfl
  have hle : (decT t).2 ≤ (bsOf (t ++ X)).size := by omega
  have htk : upd h.T k (some (TO.tail j)) k = some (.tail j) := upd_same _ _ _
  refine awp_cond (t := _) rfl (fun _ => ?_) (fun h9 => by rw [hne] at h9; cases h9)
  (repeat (first | refine gO rfl ?_ | (refine gR fun K1 hK1 => ?_; simp only [go_sem, ↓reduceIte, reduceCtorEq, nA, nB, nC, nD, nE, nF] <;> and_intros <;> first | (apply hK1; clear hK1 K1) | (intros; first | omega | decide) | skip)))
  refine hd.mono ?_; rintro _ hz ⟨rfl, hh⟩; apply hK1; clear hK1 K1; rw [hh]; clear hh hz
  clear hd
  (repeat (first | refine gO rfl ?_ | (refine gR fun K1 hK1 => ?_; simp only [go_sem, ↓reduceIte, reduceCtorEq, nA, nB, nC, nD, nE, nF, Int.toNat_natCast, hz, hx1, hx2, htk, e3, e4, List.length_map, Option.toList_none, Option.toList_some, List.append_eq, List.nil_append, List.cons_append, uside] <;> and_intros <;> first | (apply hK1; clear hK1 K1) | (intros; first | omega | decide) | skip)))
  refine ⟨g - 1, by omega, j + 1, by omega, ?_⟩
  rw [e2, hX]
  rfl
 ·have hjl : j = ts.length := by omega
  subst hjl
  have hne : (bsOf (List.drop ts.length ts).flatten == (⟨#[]⟩ : ByteArray)) = true := by rw [List.drop_length, ba_beq, decide_eq_true_eq]; rfl
  refine awp_cond (t := _) rfl (fun h9 => by rw [hne] at h9; cases h9) (fun _ => ?_)
  rw [List.take_length]
  (repeat (first | refine gO rfl ?_ | (refine gR fun K1 hK1 => ?_; simp only [go_sem, ↓reduceIte, reduceCtorEq, nA, nB, nC, nD, nE, nF] <;> and_intros <;> first | (apply hK1; clear hK1 K1) | (intros; first | omega | decide) | skip)))
  simp only [Tryz.results48, go_sem, ↓reduceIte, reduceCtorEq, nA, nB, nC, nD, nE, nF]
  exact ⟨_, _, Weak.refl _, Hp.le.refl _, k, hk, rfl, rfl⟩
abbrev Wd := Int × Int × Int
def encW (w : Wd) : List AV := [.v (.int .i64 w.1), .v (.int .i64 w.2.1), .v (.int .i64 w.2.2)]
def cmpW (w : Wd) (r : Int) : Int := if w.2.1 < r then -1 else if r < w.1 then 1 else 0
def wAt (ws : List Wd) (i : Nat) : Wd := ws.getD i (0, 0, 0)
structure WsOk (ws : List Wd) : Prop where
 up : ∀ i j, i < j → j < ws.length → (wAt ws i).2.1 < (wAt ws j).1
 le : ∀ i, i < ws.length → (wAt ws i).1 ≤ (wAt ws i).2.1
def inW (w : Wd) (r : Int) : Prop := w.1 ≤ r ∧ r ≤ w.2.1
def fnW : AV := .fn 108 []
theorem g_cmpW (w : Wd) (r : Int) (h : Hp) : ACalls Tryz.prog 108 [.agg (encW w), .v (.int .i64 r)] h (fun x h' => x = .v (.int .i64 (cmpW w r)) ∧ h' = h) := by
 obtain ⟨a, b, c⟩ := w
 unfold encW cmpW
 refine gE Tryz.func108 rfl (by kernel_rfl) 13 rfl fun c => ?_
 (repeat (first | refine gO rfl ?_ | (refine gR fun K1 hK1 => ?_; simp only [go_sem, ↓reduceIte, reduceCtorEq, nA, nB, nC, nD, nE, nF] <;> and_intros <;> first | (apply hK1; clear hK1 K1) | (intros; first | omega | decide | (simp_all <;> omega)) | skip)))
 refine awp_cond (t := _) rfl (fun h1 => ?_) (fun h1 => ?_)
 ·simp only [decide_eq_true_eq] at h1
  (repeat (first | refine gO rfl ?_ | (refine gR fun K1 hK1 => ?_; simp only [go_sem, ↓reduceIte, reduceCtorEq, nA, nB, nC, nD, nE, nF] <;> and_intros <;> first | (apply hK1; clear hK1 K1) | (intros; first | omega | decide | (simp_all <;> omega)) | skip)))
  simp only [Tryz.results108, go_sem, ↓reduceIte, reduceCtorEq, nA, nB, nC, nD, nE, nF]
  exact ⟨_, _, Weak.refl _, Hp.le.refl _, by rw [if_pos h1], rfl⟩
 ·simp only [decide_eq_false_iff_not] at h1
  (repeat (first | refine gO rfl ?_ | (refine gR fun K1 hK1 => ?_; simp only [go_sem, ↓reduceIte, reduceCtorEq, nA, nB, nC, nD, nE, nF] <;> and_intros <;> first | (apply hK1; clear hK1 K1) | (intros; first | omega | decide | (simp_all <;> omega)) | skip)))
  refine awp_cond (t := _) rfl (fun h2 => ?_) (fun h2 => ?_)
  ·simp only [decide_eq_true_eq] at h2
   (repeat (first | refine gO rfl ?_ | (refine gR fun K1 hK1 => ?_; simp only [go_sem, ↓reduceIte, reduceCtorEq, nA, nB, nC, nD, nE, nF] <;> and_intros <;> first | (apply hK1; clear hK1 K1) | (intros; first | omega | decide | (simp_all <;> omega)) | skip)))
   simp only [Tryz.results108, go_sem, ↓reduceIte, reduceCtorEq, nA, nB, nC, nD, nE, nF]
   exact ⟨_, _, Weak.refl _, Hp.le.refl _, by rw [if_neg h1, if_pos h2], rfl⟩
  ·simp only [decide_eq_false_iff_not] at h2
   (repeat (first | refine gO rfl ?_ | (refine gR fun K1 hK1 => ?_; simp only [go_sem, ↓reduceIte, reduceCtorEq, nA, nB, nC, nD, nE, nF] <;> and_intros <;> first | (apply hK1; clear hK1 K1) | (intros; first | omega | decide | (simp_all <;> omega)) | skip)))
   simp only [Tryz.results108, go_sem, ↓reduceIte, reduceCtorEq, nA, nB, nC, nD, nE, nF]
   exact ⟨_, _, Weak.refl _, Hp.le.refl _, by rw [if_neg h1, if_neg h2], rfl⟩
theorem cmpW_neg {w : Wd} {r : Int} : cmpW w r < 0 ↔ w.2.1 < r := by
 unfold cmpW
 by_cases h : w.2.1 < r
 ·rw [if_pos h]; exact ⟨fun _ => h, fun _ => by omega⟩
 ·rw [if_neg h]
  by_cases h2 : r < w.1
  ·rw [if_pos h2]; omega
  ·rw [if_neg h2]; omega
theorem cmpW_zero {w : Wd} {r : Int} : cmpW w r = 0 ↔ inW w r := by
 unfold cmpW inW
 by_cases h : w.2.1 < r
 ·rw [if_pos h]; omega
 ·rw [if_neg h]
  by_cases h2 : r < w.1
  ·rw [if_pos h2]; omega
  ·rw [if_neg h2]; omega
theorem g_bsW (ws : List Wd) (r : Int) (kk : Option Nat) (h : Hp) (hl : ws.length ≤ 1000) (hs : WsOk ws) :
  ACalls Tryz.prog 107 [.row 3 (ws.map encW) kk, .v (.int .i64 r), fnW] h
   (fun x h' => (∃ (i : Nat) (b : Bool), x = .tup [.v (.int .i64 i), .v (.bool b)] ∧ (b = true → i < ws.length ∧ inW (wAt ws i) r ∧ ∀ k, k < i → ¬ inW (wAt ws k) r) ∧ (b = false → ∀ k, k < ws.length → ¬ inW (wAt ws k) r)) ∧ h' = h) := by
 have hml : (ws.map encW).length = ws.length := List.length_map _
 have hw1 : ∀ a b : Nat, a + b ≤ 10000 → IntKind.u64.wrap ((a : Int) + (b : Int)) = (a : Int) + (b : Int) := fun a b h => by
  show ((a : Int) + (b : Int)) % (2 ^ 64) = _
  omega
 have ht3 : ∀ w, List.take 3 (encW w) = encW w := fun _ => rfl
 have hl3 : ∀ w, (encW w).length = 3 := fun _ => rfl
 have hw2 : ∀ x : Int, x / 2 ^ min (Int.toNat 1) 64 = x / 2 := fun x => rfl
 refine gE Tryz.func107 rfl (by kernel_rfl) 46 rfl fun c => ?_
 (repeat (first | refine gO rfl ?_ | (refine gR fun K1 hK1 => ?_; simp only [go_sem, ↓reduceIte, reduceCtorEq, nA, nB, nC, nD, nE, nF, hml] <;> and_intros <;> first | (apply hK1; clear hK1 K1) | (intros; first | omega | decide | (simp_all <;> omega)) | skip)))
 refine awp_loopC (rl false [0, 3, 5, 3, 38]) 0 (fun g s => ∃ i j : Nat, g + i = j ∧ j ≤ ws.length ∧ (∀ k, k < i → (wAt ws k).2.1 < r) ∧ (∀ k, j ≤ k → k < ws.length → ¬ (wAt ws k).2.1 < r) ∧
  s = ⟨((.row 3 (ws.map encW) kk) :: (.v (.int .i64 r)) :: (fnW) :: (jnk 5 ((.v (.int .i64 ws.length)) :: (.v (.int .i64 i)) :: (.v (.int .i64 j)) :: (jnk 38 [])))), [], h⟩) ws.length ⟨0, ws.length, by omega, Nat.le_refl _, fun k hk => by omega, fun k h1 h2 => by omega, rfl⟩ ?_
 rintro g _ ⟨i, j, hg, hj, hi1, hj1, rfl⟩
 (repeat (first | refine gO rfl ?_ | (refine gR fun K1 hK1 => ?_; simp only [go_sem, ↓reduceIte, reduceCtorEq, nA, nB, nC, nD, nE, nF] <;> and_intros <;> first | (apply hK1; clear hK1 K1) | (intros; first | omega | decide) | skip)))
 refine awp_cond (t := _) rfl (fun h1 => ?_) (fun h1 => ?_)
 ·simp only [decide_eq_true_eq] at h1
  have hij : i < j := by omega
  obtain ⟨m, hm⟩ : ∃ m : Nat, m = (i + j) / 2 := ⟨_, rfl⟩
  have hm3 : ((i : Int) + (j : Int)) / 2 = (m : Int) := by omega
  have hmj : m < j := by omega
  have him : i ≤ m := by omega
  have hw := hw1 i j (by omega)
  have gx : (ws.map encW).getD m [] = encW (wAt ws m) := getD_enc encW ws m _ (by omega)
  have hc := g_cmpW (wAt ws m) r
  have hup := hs.up
  have hle := hs.le m (by omega)
  clear hm
  (repeat (first | refine gO rfl ?_ | (refine gR fun K1 hK1 => ?_; simp only [go_sem, ↓reduceIte, reduceCtorEq, nA, nB, nC, nD, nE, nF, hw, hw2, hm3, hml, Int.toNat_natCast, gx, ht3, hl3, fnW] <;> and_intros <;> first | (apply hK1; clear hK1 K1) | (intros; first | omega | decide) | skip)))
  refine hc h |>.mono ?_
  rintro _ hz ⟨rfl, hh⟩; apply hK1; clear hK1 K1; rw [hh]; clear hh hz
  (repeat (first | refine gO rfl ?_ | (refine gR fun K1 hK1 => ?_; simp only [go_sem, ↓reduceIte, reduceCtorEq, nA, nB, nC, nD, nE, nF, fnW] <;> and_intros <;> first | (apply hK1; clear hK1 K1) | (intros; first | omega | decide) | skip)))
  have hz : (cmpW (wAt ws m) r < 0) ↔ (wAt ws m).2.1 < r := cmpW_neg
  refine awp_cond (t := _) rfl (fun h2 => ?_) (fun h2 => ?_)
  ·simp only [decide_eq_true_eq] at h2
   have h3 := hz.1 h2
   (repeat (first | refine gO rfl ?_ | (refine gR fun K1 hK1 => ?_; simp only [go_sem, ↓reduceIte, reduceCtorEq, nA, nB, nC, nD, nE, nF] <;> and_intros <;> first | (apply hK1; clear hK1 K1) | (intros; first | omega | decide) | skip)))
   refine ⟨g - (m + 1 - i), by omega, m + 1, j, by omega, hj, fun k hk => ?_, hj1, rfl⟩
   by_cases hkm : k = m
   ·rw [hkm]; exact h3
   ·have := hup k m (by omega) (by omega)
    omega
  ·simp only [decide_eq_false_iff_not] at h2
   have h3 := fun h => h2 (hz.2 h)
   (repeat (first | refine gO rfl ?_ | (refine gR fun K1 hK1 => ?_; simp only [go_sem, ↓reduceIte, reduceCtorEq, nA, nB, nC, nD, nE, nF] <;> and_intros <;> first | (apply hK1; clear hK1 K1) | (intros; first | omega | decide) | skip)))
   refine ⟨g - (j - m), by omega, i, m, by omega, by omega, hi1, fun k hk1 hk2 h4 => ?_, rfl⟩
   by_cases hkm : k = m
   ·rw [hkm] at h4; exact h3 h4
   ·have := hup m k (by omega) hk2
    have := hs.le k hk2
    omega
 ·simp only [decide_eq_false_iff_not] at h1
  by_cases h2 : i < ws.length
  ·have h2d : ((i : Int) < (ws.length : Int)) := by omega
   have gx : (ws.map encW).getD i [] = encW (wAt ws i) := getD_enc encW ws i _ h2
   have hc := g_cmpW (wAt ws i) r
   (repeat (first | refine gO rfl ?_ | (refine gR fun K1 hK1 => ?_; simp only [go_sem, ↓reduceIte, reduceCtorEq, nA, nB, nC, nD, nE, nF, hml, Int.toNat_natCast, gx, ht3, hl3, fnW, h2d, decide_true] <;> and_intros <;> first | (apply hK1; clear hK1 K1) | (intros; first | omega | decide) | skip)))
   rotate_left
   ·exact fun h => h.elim
   refine hc h |>.mono ?_
   rintro _ hz ⟨rfl, hh⟩; refine ⟨rfl, ?_⟩; apply hK1; clear hK1 K1; rw [hh]; clear hh hz
   (repeat (first | refine gO rfl ?_ | (refine gR fun K1 hK1 => ?_; simp only [go_sem, ↓reduceIte, reduceCtorEq, nA, nB, nC, nD, nE, nF, fnW] <;> and_intros <;> first | (apply hK1; clear hK1 K1) | (intros; first | omega | decide) | skip)))
   simp only [Tryz.results107, go_sem, ↓reduceIte, reduceCtorEq, nA, nB, nC, nD, nE, nF]
   refine ⟨_, _, Weak.refl _, Hp.le.refl _, ⟨i, _, rfl, fun h3 => ?_, fun h3 => ?_⟩, rfl⟩
   ·have h3 := of_decide_eq_true h3
    refine ⟨h2, cmpW_zero.1 h3, fun k hk h4 => ?_⟩
    have := hi1 k hk
    unfold inW at h4; omega
   ·have h3 := of_decide_eq_false h3
    intro k hk h4
    rcases Nat.lt_trichotomy k i with h5 | h5 | h5
    ·have := hi1 k h5
     unfold inW at h4
     omega
    ·subst h5
     exact h3 (cmpW_zero.2 h4)
    ·have h6 := hj1 i (by omega) h2
     have h7 := hs.up i k h5 hk
     have h8 := hs.le i h2
     apply h3
     rw [cmpW_zero]
     unfold inW at h4 ⊢
     omega
  ·have h2d : ¬ ((i : Int) < (ws.length : Int)) := by omega
   (repeat (first | refine gO rfl ?_ | (refine gR fun K1 hK1 => ?_; simp only [go_sem, ↓reduceIte, reduceCtorEq, nA, nB, nC, nD, nE, nF, h2d, fnW, decide_false] <;> and_intros <;> first | (apply hK1; clear hK1 K1) | (intros; first | omega | decide) | skip)))
   refine ⟨.v (.bool false), rfl, trivial, ?_⟩
   apply hK1; clear hK1 K1
   (repeat (first | refine gO rfl ?_ | (refine gR fun K1 hK1 => ?_; simp only [go_sem, ↓reduceIte, reduceCtorEq, nA, nB, nC, nD, nE, nF, fnW] <;> and_intros <;> first | (apply hK1; clear hK1 K1) | (intros; first | omega | decide) | skip)))
   simp only [Tryz.results107, go_sem, ↓reduceIte, reduceCtorEq, nA, nB, nC, nD, nE, nF]
   refine ⟨_, _, Weak.refl _, Hp.le.refl _, ⟨i, _, rfl, fun h3 => (Bool.false_ne_true h3).elim, fun _ k hk h4 => ?_⟩, rfl⟩
   have := hi1 k (by omega)
   unfold inW at h4
   omega
def encFo (f : Fo) (kk : Option Nat) : AV := .agg [.v (.string f.key), .v (.int .i64 f.hi), .v (.int .i64 f.ot), .row 3 (f.ws.map encW) kk]
theorem wR_found {f : Fo} {r : Int} {i : Nat} (hi : i < f.ws.length) (h1 : inW (wAt f.ws i) r) (h2 : ∀ k, k < i → ¬ inW (wAt f.ws k) r) : widR f r = (wAt f.ws i).2.2 := by
 have hf : f.ws.find? (fun w => decide (w.1 ≤ r) && decide (r ≤ w.2.1)) = some (wAt f.ws i) := by
  refine List.find?_eq_some_iff_getElem.2 ⟨by simp [h1.1, h1.2], i, hi, ?_, fun k hk => ?_⟩
  ·unfold wAt; rw [List.getD_eq_getElem?_getD, List.getElem?_eq_getElem hi]; rfl
  ·have := h2 k hk
   unfold wAt inW at this
   rw [List.getD_eq_getElem?_getD, List.getElem?_eq_getElem (by omega), Option.getD_some] at this
   simp only [Bool.not_eq_true', Bool.and_eq_false_iff, decide_eq_false_iff_not]
   omega
 unfold widR
 rw [hf]
theorem wR_none {f : Fo} {r : Int} (h : ∀ k, k < f.ws.length → ¬ inW (wAt f.ws k) r) : widR f r = f.ot := by
 have hf : f.ws.find? (fun w => decide (w.1 ≤ r) && decide (r ≤ w.2.1)) = none := by
  refine List.find?_eq_none.2 fun w hw => ?_
  obtain ⟨k, hk, rfl⟩ := List.getElem_of_mem hw
  have := h k hk
  unfold wAt inW at this
  rw [List.getD_eq_getElem?_getD, List.getElem?_eq_getElem hk, Option.getD_some] at this
  simpa only [Bool.and_eq_true, decide_eq_true_eq] using this
 unfold widR
 rw [hf]
theorem g_wideOf (f : Fo) (kk : Option Nat) (t : Tok) (ht : t ∈ toks) (hs : WsOk f.ws) (hl : f.ws.length ≤ 1000) (k0 : Nat) (h : Hp) (hT : h.T k0 = some (.glb tabU)) :
  ACalls Tryz.prog 75 [encFo f kk, .v (.string (bsOf t))] h (fun r h' => r = .v (.int .i64 (widS f t)) ∧ h' = h) := by
 have hd := g_decode t ht [] k0 h hT
 rw [List.append_nil] at hd
 obtain ⟨hr1, hr2, hr3, hr4⟩ := toks_rune t ht
 have hp := toks_pos t ht
 have hbs := g_bsW f.ws (decT t).1 kk h hl hs
 have hml : (f.ws.map encW).length = f.ws.length := List.length_map _
 have hn2 : (decT t).2 = 1 ∨ (decT t).2 = 2 := by omega
 obtain ⟨key, hi, ot, ws⟩ := f
 unfold encFo
 simp only at hbs hml hs hl ⊢
 generalize hdr : decT t = d at *
 obtain ⟨rr, nn⟩ := d
 simp only at hd hr1 hr3 hr4 hbs hn2
 refine gE Tryz.func75 rfl (by kernel_rfl) 38 rfl fun c => ?_
 (repeat (first | refine gO rfl ?_ | (refine gR fun K1 hK1 => ?_; simp only [go_sem, ↓reduceIte, reduceCtorEq, nA, nB, nC, nD, nE, nF] <;> and_intros <;> first | (apply hK1; clear hK1 K1) | (intros; first | omega | decide) | skip)))
 refine hd.mono ?_; rintro _ hz ⟨rfl, hh⟩; apply hK1; clear hK1 K1; rw [hh]; clear hh hz
 clear hd
 (repeat (first | refine gO rfl ?_ | (refine gR fun K1 hK1 => ?_; simp only [go_sem, ↓reduceIte, reduceCtorEq, nA, nB, nC, nD, nE, nF] <;> and_intros <;> first | (apply hK1; clear hK1 K1) | (intros; first | omega | decide) | skip)))
 refine awp_cond (t := _) rfl (fun h1 => ?_) (fun h1 => ?_)
 ·have h2 : (rr : Int) = 65533 := by simp at h1; omega
  have h3 : t = [255] := hr3 (by omega)
  (repeat (first | refine gO rfl ?_ | (refine gR fun K1 hK1 => ?_; simp only [go_sem, ↓reduceIte, reduceCtorEq, nA, nB, nC, nD, nE, nF] <;> and_intros <;> first | (apply hK1; clear hK1 K1) | (intros; first | omega | decide) | skip)))
  simp only [Tryz.results75, go_sem, ↓reduceIte, reduceCtorEq, nA, nB, nC, nD, nE, nF]
  exact ⟨_, _, Weak.refl _, Hp.le.refl _, by rw [h3]; unfold widS; rw [hr2], rfl⟩
 ·have h3 : t ≠ [255] := by
   rintro rfl
   have : decT [255] = (65533, 1) := rfl
   rw [this] at hdr
   cases hdr
   simp at h1
  rw [if_neg h3] at hr1
  have hws : widS ⟨key, hi, ot, ws⟩ t = widR ⟨key, hi, ot, ws⟩ rr := by unfold widS; rw [hr1]
  rw [hws]
  clear hws h1
  have hrr : (rr : Int) ≤ 65533 := by omega
  (repeat (first | refine gO rfl ?_ | (refine gR fun K1 hK1 => ?_; simp only [go_sem, ↓reduceIte, reduceCtorEq, nA, nB, nC, nD, nE, nF] <;> and_intros <;> first | (apply hK1; clear hK1 K1) | (intros; first | omega | decide) | skip)))
  refine hbs.mono ?_
  rintro _ hz ⟨⟨i, b, rfl, hb1, hb2⟩, hh⟩; apply hK1; clear hK1 K1; rw [hh]; clear hh hz
  (repeat (first | refine gO rfl ?_ | (refine gR fun K1 hK1 => ?_; simp only [go_sem, ↓reduceIte, reduceCtorEq, nA, nB, nC, nD, nE, nF] <;> and_intros <;> first | (apply hK1; clear hK1 K1) | (intros; first | omega | decide) | skip)))
  refine awp_cond (t := _) rfl (fun h2 => ?_) (fun h2 => ?_)
  ·have hb : b = false := by simpa using h2
   (repeat (first | refine gO rfl ?_ | (refine gR fun K1 hK1 => ?_; simp only [go_sem, ↓reduceIte, reduceCtorEq, nA, nB, nC, nD, nE, nF] <;> and_intros <;> first | (apply hK1; clear hK1 K1) | (intros; first | omega | decide) | skip)))
   simp only [Tryz.results75, go_sem, ↓reduceIte, reduceCtorEq, nA, nB, nC, nD, nE, nF]
   exact ⟨_, _, Weak.refl _, Hp.le.refl _, by rw [wR_none (f := ⟨key, hi, ot, ws⟩) (hb2 hb)], rfl⟩
  ·have hb : b = true := by simpa using h2
   obtain ⟨hil, hin, hno⟩ := hb1 hb
   have gx : (ws.map encW).getD i [] = encW (wAt ws i) := getD_enc encW ws i _ hil
   have hl3 : ∀ w, (encW w).length = 3 := fun _ => rfl
   have hg2 : ∀ w d, (encW w).getD 2 d = .v (.int .i64 w.2.2) := fun _ _ => rfl
   (repeat (first | refine gO rfl ?_ | (refine gR fun K1 hK1 => ?_; simp only [go_sem, ↓reduceIte, reduceCtorEq, nA, nB, nC, nD, nE, nF, hml, Int.toNat_natCast, gx, hl3, hg2] <;> and_intros <;> first | (apply hK1; clear hK1 K1) | (intros; first | omega | decide) | skip)))
   simp only [Tryz.results75, go_sem, ↓reduceIte, reduceCtorEq, nA, nB, nC, nD, nE, nF]
   exact ⟨_, _, Weak.refl _, Hp.le.refl _, by rw [wR_found (f := ⟨key, hi, ot, ws⟩) hil hin hno], rfl⟩
def Gr (h h' : Hp) : Prop := h'.H = h.H ∧ ∀ k x, h.T k = some x → h'.T k = some x
theorem Gr.refl (h : Hp) : Gr h h := ⟨rfl, fun _ _ e => e⟩
theorem Gr.trans {a b c : Hp} (h1 : Gr a b) (h2 : Gr b c) : Gr a c := ⟨h2.1.trans h1.1, fun k x e => h2.2 k x (h1.2 k x e)⟩
theorem Gr.put {h : Hp} {k : Nat} (hk : h.T k = none) (o : Option TO) : Gr h ⟨h.H, upd h.T k o⟩ := ⟨rfl, fun j x e => by
 show upd h.T k o j = _
 unfold Proofs.YtlaakjlpfgfdkaaGreatDoor.upd
 rw [if_neg (by rintro rfl; rw [hk] at e; cases e)]
 exact e⟩
theorem take_sumW (f : Fo) (ts : List Tok) (j : Nat) (hj : j < ts.length) : sumW f (ts.take (j + 1)) = sumW f (ts.take j) + widS f ts[j] := by
 rw [List.take_succ_eq_append_getElem hj, sumW_append, sumW_cons, sumW_nil]; omega
theorem sumW_take_le {f : Fo} (hb : FoB f) (ts : List Tok) (j : Nat) (hl : ts.length ≤ 10000) : 0 ≤ sumW f (ts.take j) ∧ sumW f (ts.take j) ≤ 10000000 := by
 have := hb.sum (ts.take j)
 rw [List.length_take] at this
 omega
theorem row_tok (ts : List Tok) (j : Nat) (hj : j < ts.length) : (ts.map fun t => encS (bsOf t)).getD j [] = encS (bsOf ts[j]) := by
 rw [List.getD_eq_getElem?_getD, List.getElem?_map, List.getElem?_eq_getElem hj]; rfl
theorem g_wideAll (f : Fo) (kk : Option Nat) (ts : List Tok) (hts : ∀ t ∈ ts, t ∈ toks) (hn : ts.length ≤ 10000) (hs : WsOk f.ws) (hb : FoB f) (hl : f.ws.length ≤ 1000) (k0 : Nat) (h : Hp) (hT : h.T k0 = some (.glb tabU)) :
  ACalls Tryz.prog 47 [encFo f kk, .v (.string (bsOf ts.flatten))] h (fun r h' => r = .v (.int .i64 (sumW f ts)) ∧ Gr h h') := by
 have hsg := g_signsP ts hts hn k0 h hT
 have hml : (ts.map fun t => encS (bsOf t)).length = ts.length := List.length_map _
 have hfl : ∀ x, (encFo f x) = .agg [.v (.string f.key), .v (.int .i64 f.hi), .v (.int .i64 f.ot), .row 3 (f.ws.map encW) x] := fun _ => rfl
 refine gE Tryz.func47 rfl (by kernel_rfl) 20 rfl fun c => ?_
 (repeat (first | refine gO rfl ?_ | (refine gR fun K1 hK1 => ?_; simp only [go_sem, ↓reduceIte, reduceCtorEq, nA, nB, nC, nD, nE, nF, hfl] <;> and_intros <;> first | (apply hK1; clear hK1 K1) | (intros; first | omega | decide) | skip)))
 refine hsg.mono ?_
 rintro _ hz ⟨k, hk, rfl, hh⟩; apply hK1; clear hK1 K1; rw [hh]; clear hh hz
 have hgr := Gr.put hk (some (.tail ts.length))
 generalize (⟨h.H, upd h.T k (some (.tail ts.length))⟩ : Hp) = h1 at *
 have hT1 := hgr.2 _ _ hT
 (repeat (first | refine gO rfl ?_ | (refine gR fun K1 hK1 => ?_; simp only [go_sem, ↓reduceIte, reduceCtorEq, nA, nB, nC, nD, nE, nF, hml] <;> and_intros <;> first | (apply hK1; clear hK1 K1) | (intros; first | omega | decide) | skip)))
 refine awp_loopC (rl false [2, 1, 2, 1, 3, 3, 10]) 0 (fun g s => ∃ j : Nat, g + j = ts.length ∧
  s = ⟨(AV.junk :: AV.junk :: ((.ref [.v (.string f.key), .v (.int .i64 f.hi), .v (.int .i64 f.ot), .row 3 (f.ws.map encW) kk] 0) :: AV.junk :: AV.junk :: ((.v (.int .i64 (sumW f (ts.take j)))) :: (jnk 3 ((.row 1 (ts.map fun t => encS (bsOf t)) (some k)) :: (.v (.int .i64 ts.length)) :: (.v (.int .i64 j)) :: (jnk 10 [])))))), [], h1⟩) ts.length ⟨0, by omega, rfl⟩ ?_
 rintro g _ ⟨j, hj, rfl⟩
 (repeat (first | refine gO rfl ?_ | (refine gR fun K1 hK1 => ?_; simp only [go_sem, ↓reduceIte, reduceCtorEq, nA, nB, nC, nD, nE, nF] <;> and_intros <;> first | (apply hK1; clear hK1 K1) | (intros; first | omega | decide) | skip)))
 refine awp_cond (t := _) rfl (fun h1 => ?_) (fun h1 => ?_)
 ·simp only [decide_eq_true_eq] at h1
  have hjl : j < ts.length := by omega
  have gx := row_tok ts j hjl
  have hw := g_wideOf f kk ts[j] (hts _ (List.getElem_mem _)) hs hl k0 _ hT1
  have hls : ∀ b, (encS b).length = 1 := fun _ => rfl
  have hgs : ∀ b d, (encS b).getD 0 d = .v (.string b) := fun _ _ => rfl
  have hb1 := sumW_take_le hb ts j hn
  have hb2 := sumW_take_le hb ts (j + 1) hn
  have ht := take_sumW f ts j hjl
  rw [ht] at hb2
  rw [hfl] at hw
  (repeat (first | refine gO rfl ?_ | (refine gR fun K1 hK1 => ?_; simp only [go_sem, ↓reduceIte, reduceCtorEq, nA, nB, nC, nD, nE, nF, hml, Int.toNat_natCast, gx, hls, hgs] <;> and_intros <;> first | (apply hK1; clear hK1 K1) | (intros; first | omega | decide) | skip)))
  refine hw.mono ?_; rintro _ hz ⟨rfl, hh⟩; apply hK1; clear hK1 K1; rw [hh]; clear hh hz
  (repeat (first | refine gO rfl ?_ | (refine gR fun K1 hK1 => ?_; simp only [go_sem, ↓reduceIte, reduceCtorEq, nA, nB, nC, nD, nE, nF] <;> and_intros <;> first | (apply hK1; clear hK1 K1) | (intros; first | omega | decide) | skip)))
  refine ⟨g - 1, by omega, j + 1, by omega, ?_⟩
  rw [ht]
  rfl
 ·simp only [decide_eq_false_iff_not] at h1
  have hjl : j = ts.length := by omega
  (repeat (first | refine gO rfl ?_ | (refine gR fun K1 hK1 => ?_; simp only [go_sem, ↓reduceIte, reduceCtorEq, nA, nB, nC, nD, nE, nF] <;> and_intros <;> first | (apply hK1; clear hK1 K1) | (intros; first | omega | decide) | skip)))
  simp only [Tryz.results47, go_sem, ↓reduceIte, reduceCtorEq, nA, nB, nC, nD, nE, nF]
  exact ⟨_, _, Weak.refl _, Hp.le.refl _, by rw [hjl, List.take_length], hgr⟩
theorem flat_le2 (ts : List Tok) (hts : ∀ t ∈ ts, t ∈ toks) : ts.flatten.length ≤ 2 * ts.length := by
 induction ts with
 | nil => simp
 | cons t ts ih =>
  have := toks_pos t (hts t (by simp))
  have := ih fun x hx => hts x (by simp [hx])
  simp only [List.flatten_cons, List.length_append, List.length_cons]
  omega
theorem flat_take (ts : List Tok) (j : Nat) (hj : j < ts.length) : (ts.take (j + 1)).flatten = (ts.take j).flatten ++ ts[j] := by
 rw [List.take_succ_eq_append_getElem hj, List.flatten_append]; simp
theorem take_flat (ts : List Tok) (j : Nat) : ts.flatten.take (ts.take j).flatten.length = (ts.take j).flatten := by
 have e : ts.flatten = (ts.take j).flatten ++ (ts.drop j).flatten := by rw [← List.flatten_append, List.take_append_drop]
 rw [e, List.take_left]
theorem dots_flat (n : Nat) (hn : n ≤ 2) : (bsOf [46, 46, 46]).extract 0 n = bsOf (List.replicate n dotT).flatten := by
 rw [bsOf_take]
 match n, hn with
 | 0, _ => rfl
 | 1, _ => rfl
 | 2, _ => rfl
theorem tok_sp {t : Tok} (ht : t ∈ toks) : (bsOf t == bsOf [32]) = decide (t = [32]) := by
 rw [ba_beq]
 congr 1
 rw [eq_iff_iff]
 exact ⟨fun e => by
  have := congrArg (fun b => b.data.toList) e
  exact this, fun e => by rw [e]⟩
theorem g_shorten (f : Fo) (kk : Option Nat) (ts : List Tok) (wide : Int) (hts : ∀ t ∈ ts, t ∈ toks) (hn : ts.length ≤ 10000) (hw : 1 ≤ wide ∧ wide ≤ 100000) (hs : WsOk f.ws) (hb : FoB f) (hl : f.ws.length ≤ 1000) (k0 : Nat) (h : Hp) (hT : h.T k0 = some (.glb tabU)) :
  ACalls Tryz.prog 59 [encFo f kk, .v (.string (bsOf ts.flatten)), .v (.int .i64 wide)] h (fun r h' => r = .v (.string (bsOf (shortT f wide ts).flatten)) ∧ Gr h h') := by
 have hwa := g_wideAll f kk ts hts hn hs hb hl k0 h hT
 have hdot : bsOf dotT = (⟨#[46]⟩ : ByteArray) := rfl
 have hfl : ∀ x, (encFo f x) = .agg [.v (.string f.key), .v (.int .i64 f.hi), .v (.int .i64 f.ot), .row 3 (f.ws.map encW) x] := fun _ => rfl
 refine gE Tryz.func59 rfl (by kernel_rfl) 60 rfl fun c => ?_
 (repeat (first | refine gO rfl ?_ | (refine gR fun K1 hK1 => ?_; simp only [go_sem, ↓reduceIte, reduceCtorEq, nA, nB, nC, nD, nE, nF, hfl] <;> and_intros <;> first | (apply hK1; clear hK1 K1) | (intros; first | omega | decide) | skip)))
 refine hwa.mono ?_
 rintro _ h2 ⟨rfl, hgr⟩; apply hK1; clear hK1 K1
 have hT2 := hgr.2 _ _ hT
 (repeat (first | refine gO rfl ?_ | (refine gR fun K1 hK1 => ?_; simp only [go_sem, ↓reduceIte, reduceCtorEq, nA, nB, nC, nD, nE, nF] <;> and_intros <;> first | (apply hK1; clear hK1 K1) | (intros; first | omega | decide) | skip)))
 refine awp_cond (t := _) rfl (fun h1 => ?_) (fun h1 => ?_)
 ·simp only [decide_eq_true_eq] at h1
  (repeat (first | refine gO rfl ?_ | (refine gR fun K1 hK1 => ?_; simp only [go_sem, ↓reduceIte, reduceCtorEq, nA, nB, nC, nD, nE, nF] <;> and_intros <;> first | (apply hK1; clear hK1 K1) | (intros; first | omega | decide) | skip)))
  simp only [Tryz.results59, go_sem, ↓reduceIte, reduceCtorEq, nA, nB, nC, nD, nE, nF]
  exact ⟨_, _, Weak.refl _, Hp.le.refl _, by rw [short_same h1], hgr⟩
 ·simp only [decide_eq_false_iff_not] at h1
  have hw1 := g_wideOf f kk dotT (by decide) hs hl k0 h2 hT2
  rw [hdot, hfl] at hw1
  have hd := hb.widS dotT
  have hd3 := Int.mul_comm (widS f dotT) 3
  (repeat (first | refine gO rfl ?_ | (refine gR fun K1 hK1 => ?_; simp only [go_sem, ↓reduceIte, reduceCtorEq, nA, nB, nC, nD, nE, nF] <;> and_intros <;> first | (apply hK1; clear hK1 K1) | (intros; first | omega | decide) | skip)))
  refine hw1.mono ?_; rintro _ hz ⟨rfl, hh⟩; apply hK1; clear hK1 K1; rw [hh]; clear hh hz
  (repeat (first | refine gO rfl ?_ | (refine gR fun K1 hK1 => ?_; simp only [go_sem, ↓reduceIte, reduceCtorEq, nA, nB, nC, nD, nE, nF] <;> and_intros <;> first | (apply hK1; clear hK1 K1) | (intros; first | omega | decide) | skip)))
  refine awp_cond (t := _) rfl (fun h3 => ?_) (fun h3 => ?_)
  ·simp only [decide_eq_true_eq] at h3
   obtain ⟨n, hn1⟩ : ∃ n : Nat, n = (wide / widS f dotT).toNat := ⟨_, rfl⟩
   have hdp : 0 < widS f dotT := by omega
   have hq0 : 0 ≤ wide / widS f dotT := Int.ediv_nonneg (by omega) (by omega)
   have hq : wide.tdiv (widS f dotT) = (n : Int) := by rw [Int.tdiv_eq_ediv_of_nonneg (by omega), hn1, Int.toNat_of_nonneg hq0]
   have hn2 : n ≤ 2 := by
    have : wide / widS f dotT < 3 := Int.ediv_lt_of_lt_mul hdp h3
    omega
   have hdx : (⟨#[46, 46, 46]⟩ : ByteArray).extract 0 n = bsOf (List.replicate n dotT).flatten := dots_flat n hn2
   have hsz : (⟨#[46, 46, 46]⟩ : ByteArray).size = 3 := rfl
   have hz0 : Int.toNat 0 = 0 := rfl
   have hres : shortT f wide ts = List.replicate n dotT := by unfold shortT; rw [if_neg h1, if_pos h3, hn1]
   (repeat (first | refine gO rfl ?_ | (refine gR fun K1 hK1 => ?_; simp only [go_sem, ↓reduceIte, reduceCtorEq, nA, nB, nC, nD, nE, nF, hq, hsz, hz0, Int.toNat_natCast, hdx, Option.toList_none, Option.toList_some, List.append_eq, List.nil_append, List.cons_append, uside] <;> and_intros <;> first | (apply hK1; clear hK1 K1) | (intros; first | omega | decide) | skip)))
   simp only [Tryz.results59, go_sem, ↓reduceIte, reduceCtorEq, nA, nB, nC, nD, nE, nF]
   exact ⟨_, _, Weak.refl _, Hp.le.refl _, by rw [hres], hgr⟩
  ·simp only [decide_eq_false_iff_not] at h3
   have hsg := g_signsP ts hts hn k0 h2 hT2
   have hml : (ts.map fun t => encS (bsOf t)).length = ts.length := List.length_map _
   obtain ⟨B, hB⟩ : ∃ B, bestK f (wide - 3 * widS f dotT) ts 0 0 0 = B := ⟨_, rfl⟩
   have hres : shortT f wide ts = ts.take B ++ [dotT, dotT, dotT] := by unfold shortT; rw [if_neg h1, if_neg h3, hB]
   rw [hres]
   clear hwa hw1
   (repeat (first | refine gO rfl ?_ | (refine gR fun K1 hK1 => ?_; simp only [go_sem, ↓reduceIte, reduceCtorEq, nA, nB, nC, nD, nE, nF] <;> and_intros <;> first | (apply hK1; clear hK1 K1) | (intros; first | omega | decide) | skip)))
   refine hsg.mono ?_
   rintro _ hz ⟨k, hk, rfl, hh⟩; apply hK1; clear hK1 K1; rw [hh]; clear hh hz
   have hgr := hgr.trans (Gr.put hk (some (.tail ts.length)))
   generalize (⟨h2.H, upd h2.T k (some (.tail ts.length))⟩ : Hp) = h3 at *
   have hT3 := hgr.2 _ _ hT
   clear hsg
   (repeat (first | refine gO rfl ?_ | (refine gR fun K1 hK1 => ?_; simp only [go_sem, ↓reduceIte, reduceCtorEq, nA, nB, nC, nD, nE, nF, hml] <;> and_intros <;> first | (apply hK1; clear hK1 K1) | (intros; first | omega | decide) | skip)))
   refine awp_loopC (rl false [1, 3, 3, 1, 1, 3, 20, 3, 28]) 0 (fun g s => ∃ j b : Nat, g + j = ts.length ∧ b ≤ j ∧ bestK f (wide - 3 * widS f dotT) (ts.drop j) (sumW f (ts.take j)) j b = B ∧
    s = ⟨(AV.junk :: ((.v (.string (bsOf ts.flatten))) :: (.v (.int .i64 wide)) :: (.ref [.v (.string f.key), .v (.int .i64 f.hi), .v (.int .i64 f.ot), .row 3 (f.ws.map encW) kk] 0) :: (jnk 3 ((.v (.int .i64 (widS f dotT))) :: AV.junk :: ((.v (.string (bsOf (ts.take b).flatten))) :: (.v (.int .i64 (sumW f (ts.take j)))) :: (.v (.int .i64 (ts.take j).flatten.length)) :: (jnk 20 ((.row 1 (ts.map fun t => encS (bsOf t)) (some k)) :: (.v (.int .i64 ts.length)) :: (.v (.int .i64 j)) :: (jnk 28 [])))))))), [], h3⟩) ts.length ⟨0, 0, by omega, by omega, hB, rfl⟩ ?_
   rintro g _ ⟨j, b, hj, hbj, hbB, rfl⟩
   (repeat (first | refine gO rfl ?_ | (refine gR fun K1 hK1 => ?_; simp only [go_sem, ↓reduceIte, reduceCtorEq, nA, nB, nC, nD, nE, nF] <;> and_intros <;> first | (apply hK1; clear hK1 K1) | (intros; first | omega | decide) | skip)))
   refine awp_cond (t := _) rfl (fun h5 => ?_) (fun h5 => ?_)
   ·simp only [decide_eq_true_eq] at h5
    have hjl : j < ts.length := by omega
    have gx := row_tok ts j hjl
    have htj : ts[j] ∈ toks := hts _ (List.getElem_mem _)
    have hw := g_wideOf f kk ts[j] htj hs hl k0 _ hT3
    have hls : ∀ b, (encS b).length = 1 := fun _ => rfl
    have hgs : ∀ b d, (encS b).getD 0 d = .v (.string b) := fun _ _ => rfl
    have hb1 := sumW_take_le hb ts j hn
    have hb2 := sumW_take_le hb ts (j + 1) hn
    have ht := take_sumW f ts j hjl
    rw [ht] at hb2
    rw [hfl] at hw
    have hfl1 := flat_le2 ts hts
    have hft := congrArg List.length (flat_take ts j hjl)
    rw [List.length_append] at hft
    have htf := take_flat ts (j + 1)
    have hle : (ts.take (j + 1)).flatten.length ≤ ts.flatten.length := by rw [← htf, List.length_take]; omega
    have hsp := tok_sp htj
    have hsp32 : bsOf [32] = (⟨#[32]⟩ : ByteArray) := rfl
    rw [hsp32] at hsp
    have hsz : (bsOf ts[j]).size = ts[j].length := size_bs _
    rw [List.drop_eq_getElem_cons hjl, bestK, ← ht] at hbB
    generalize hD : widS f dotT = D at *
    generalize hX : ts[j] = x at *
    (repeat (first | refine gO rfl ?_ | (refine gR fun K1 hK1 => ?_; simp only [go_sem, ↓reduceIte, reduceCtorEq, nA, nB, nC, nD, nE, nF, hml, Int.toNat_natCast, gx, hls, hgs] <;> and_intros <;> first | (apply hK1; clear hK1 K1) | (intros; first | omega | decide) | skip)))
    refine hw.mono ?_; rintro _ hz ⟨rfl, hh⟩; apply hK1; clear hK1 K1; rw [hh]; clear hh hz
    by_cases hx32 : x = [32]
    ·have hxe : (bsOf x == (⟨#[32]⟩ : ByteArray)) = true := by rw [hsp, hx32]; rfl
     (repeat (first | refine gO rfl ?_ | (refine gR fun K1 hK1 => ?_; simp only [go_sem, ↓reduceIte, reduceCtorEq, nA, nB, nC, nD, nE, nF, hsz, hxe, Bool.not_true] <;> and_intros <;> first | (apply hK1; clear hK1 K1) | (intros; first | omega | decide) | skip)))
     refine awp_cond (t := _) rfl (fun h6 => by cases h6) (fun _ => ?_)
     (repeat (first | refine gO rfl ?_ | (refine gR fun K1 hK1 => ?_; simp only [go_sem, ↓reduceIte, reduceCtorEq, nA, nB, nC, nD, nE, nF] <;> and_intros <;> first | (apply hK1; clear hK1 K1) | (intros; first | omega | decide) | skip)))
     refine ⟨g - 1, by omega, j + 1, b, by omega, by omega, ?_, ?_⟩
     ·rw [if_neg (by rintro ⟨h7, _⟩; exact h7 hx32)] at hbB; exact hbB
     ·rw [ht, hft]
      rfl
    ·have hxe : (bsOf x == (⟨#[32]⟩ : ByteArray)) = false := by rw [hsp]; simp [hx32]
     (repeat (first | refine gO rfl ?_ | (refine gR fun K1 hK1 => ?_; simp only [go_sem, ↓reduceIte, reduceCtorEq, nA, nB, nC, nD, nE, nF, hsz, hxe, Bool.not_false] <;> and_intros <;> first | (apply hK1; clear hK1 K1) | (intros; first | omega | decide) | skip)))
     have hcd : decide (sumW f (ts.take j) + widS f x + 3 * D ≤ wide) = decide (sumW f (ts.take (j + 1)) ≤ wide - 3 * D) := by
      congr 1; rw [eq_iff_iff]; omega
     rw [hcd]
     refine awp_cond (t := _) rfl (fun h6 => ?_) (fun h6 => ?_)
     ·simp only [decide_eq_true_eq] at h6
      have hz0 : Int.toNat 0 = 0 := rfl
      have hnn : ((ts.take j).flatten.length : Int) + (x.length : Int) = ((ts.take (j + 1)).flatten.length : Int) := by omega
      have hsf : (bsOf ts.flatten).size = ts.flatten.length := size_bs _
      have hcut : (bsOf ts.flatten).extract 0 (ts.take (j + 1)).flatten.length = bsOf (ts.take (j + 1)).flatten := by rw [bsOf_take, htf]
      rw [hnn]
      (repeat (first | refine gO rfl ?_ | (refine gR fun K1 hK1 => ?_; simp only [go_sem, ↓reduceIte, reduceCtorEq, nA, nB, nC, nD, nE, nF, hnn, hz0, hsf, Int.toNat_natCast, hcut, Option.toList_none, Option.toList_some, List.append_eq, List.nil_append, List.cons_append, uside] <;> and_intros <;> first | (apply hK1; clear hK1 K1) | (intros; first | omega | decide) | skip)))
      refine ⟨g - 1, by omega, j + 1, j + 1, by omega, by omega, ?_, ?_⟩
      ·rw [if_pos ⟨hx32, h6⟩] at hbB; exact hbB
      ·rw [ht, hft]
       rfl
     ·simp only [decide_eq_false_iff_not] at h6
      (repeat (first | refine gO rfl ?_ | (refine gR fun K1 hK1 => ?_; simp only [go_sem, ↓reduceIte, reduceCtorEq, nA, nB, nC, nD, nE, nF] <;> and_intros <;> first | (apply hK1; clear hK1 K1) | (intros; first | omega | decide) | skip)))
      refine ⟨g - 1, by omega, j + 1, b, by omega, by omega, ?_, ?_⟩
      ·rw [if_neg (by rintro ⟨_, h7⟩; exact h6 h7)] at hbB; exact hbB
      ·rw [ht, hft]
       rfl
   ·simp only [decide_eq_false_iff_not] at h5
    have hjl : j = ts.length := by omega
    have hfl1 := flat_le2 ts hts
    have hfb : (ts.take b).flatten.length ≤ ts.flatten.length := by rw [← take_flat ts b, List.length_take]; omega
    have hsb : (bsOf (ts.take b).flatten).size = (ts.take b).flatten.length := size_bs _
    have hs3 : (#[46, 46, 46] : Array UInt8).size = 3 := rfl
    (repeat (first | refine gO rfl ?_ | (refine gR fun K1 hK1 => ?_; simp only [go_sem, ↓reduceIte, reduceCtorEq, nA, nB, nC, nD, nE, nF, hsb, hs3] <;> and_intros <;> first | (apply hK1; clear hK1 K1) | (intros; first | omega | decide) | skip)))
    simp only [Tryz.results59, go_sem, ↓reduceIte, reduceCtorEq, nA, nB, nC, nD, nE, nF]
    subst hjl
    rw [List.drop_length, bestK] at hbB
    subst hbB
    exact ⟨_, _, Weak.refl _, Hp.le.refl _, by rw [List.flatten_append, ← bsOf_append]; rfl, hgr⟩
inductive LT where
 | mk (kind : Int) (item : ByteArray) (long many : Int) (kids : List LT) (shares : List Int)
instance : Inhabited LT := ⟨.mk 0 default 0 0 [] []⟩
def encL : LT → List AV
 | .mk kind item long many kids shares => [.v (.int .i64 kind), .v (.string item), .v (.int .i64 long), .v (.int .i64 many), .row 6 (kids.map encL) none, .row 1 (shares.map encI) none]
theorem encL_eq (kind : Int) (item : ByteArray) (long many : Int) (kids : List LT) (shares : List Int) : encL (.mk kind item long many kids shares) = [.v (.int .i64 kind), .v (.string item), .v (.int .i64 long), .v (.int .i64 many), .row 6 (kids.map encL) none, .row 1 (shares.map encI) none] := by rw [encL]
theorem encL_len (t : LT) : (encL t).length = 6 := by cases t; rw [encL_eq]; rfl
def WL (cs ds : List AV) : Prop := cs.length = ds.length ∧ ∀ j, Weak (cs.getD j .junk) (ds.getD j .junk)
theorem WL.nil : WL [] [] := ⟨rfl, fun _ => Weak.refl _⟩
theorem WL.cons {a b : AV} {cs ds : List AV} (h : Weak a b) (k : WL cs ds) : WL (a :: cs) (b :: ds) := ⟨by simp [k.1], fun j => by
 cases j with
 | zero => exact h
 | succ j => exact k.2 j⟩
theorem Weak.agg {cs ds : List AV} (h : WL cs ds) : Weak (.agg cs) (.agg ds) := fun G v hr => by
 cases hr with
 | agg _ vs u hl hu hr h1 =>
  refine .agg _ vs u (by rw [hl, h.1]) (fun j hj => hu j (by rw [h.1]; exact hj)) (fun j hj => ?_) (fun j hj => h1 j (by rw [h.1]; exact hj))
  have hj' : j < cs.length := by rw [h.1]; exact hj
  have := h.2 j G _ (by rw [List.getD_eq_getElem?_getD, List.getElem?_eq_getElem hj']; exact hr j hj')
  rwa [List.getD_eq_getElem?_getD, List.getElem?_eq_getElem hj] at this
def NB (x : Int) : Prop := -5000000000000000 ≤ x ∧ x ≤ 5000000000000000
def LB : Nat → LT → Prop
 | 0, _ => False
 | d + 1, .mk kind item long many kids shares => NB kind ∧ item.size ≤ 2 ∧ NB long ∧ NB many ∧ kids.length ≤ 3 ∧ shares.length ≤ 4 ∧ (∀ x ∈ shares, NB x) ∧ ∀ k ∈ kids, LB d k
theorem LB.mono : ∀ {d e : Nat} {t : LT}, LB d t → d ≤ e → LB e t
 | 0, _, _, h, _ => h.elim
 | d + 1, 0, _, _, h => by omega
 | d + 1, e + 1, .mk .., h, hd => ⟨h.1, h.2.1, h.2.2.1, h.2.2.2.1, h.2.2.2.2.1, h.2.2.2.2.2.1, h.2.2.2.2.2.2.1, fun k hk => (h.2.2.2.2.2.2.2 k hk).mono (by omega)⟩
def OLd (b : Bool) (T : Nat → Option TO) (S : Nat → Prop) : Nat → List AV → Prop
 | 0, _ => False
 | d + 1, cs => ∃ (kind : Int) (item : ByteArray) (long many : Int) (K Sh : AV), cs = [.v (.int .i64 kind), .v (.string item), .v (.int .i64 long), .v (.int .i64 many), K, Sh] ∧
   (NB kind ∧ item.size ≤ 2 ∧ NB long ∧ NB many) ∧
   (K = .v (.slice none 0 0) ∨ (∃ q css, S q ∧ T q = some (.cont 6 css) ∧ K = .arr 6 q css.length ∧ 0 < css.length ∧ css.length ≤ 3 ∧ ∀ c ∈ css, OLd b T S d c) ∨ (b = false ∧ ∃ css, K = .row 6 css none ∧ css.length ≤ 3 ∧ ∀ c ∈ css, OLd b T S d c)) ∧
   (Sh = .v (.slice none 0 0) ∨ ∃ (xs : List Int) (k : Nat), Sh = .row 1 (xs.map encI) (some k) ∧ xs.length ≤ 5 ∧ (∀ x ∈ xs, NB x) ∧ (b = true → S k ∧ T k = some (.tail xs.length) ∧ xs.length ≤ 4))
theorem OLd.len {b : Bool} {T : Nat → Option TO} {S : Nat → Prop} {d : Nat} {cs : List AV} (h : OLd b T S d cs) : cs.length = 6 := by
 cases d with
 | zero => exact h.elim
 | succ d => obtain ⟨_, _, _, _, _, _, rfl, _⟩ := h; rfl
theorem OLd.keep {b : Bool} {T T' : Nat → Option TO} {S : Nat → Prop} (hT : ∀ k, S k → (∃ x, T k = some (.cont 6 x)) → T' k = T k) (hs : b = true → ∀ k n, T k = some (.tail n) → T' k = some (.tail n)) : ∀ {d : Nat} {cs : List AV}, OLd b T S d cs → OLd b T' S d cs
 | 0, _, h => h.elim
 | d + 1, cs, ⟨kind, item, long, many, K, Sh, e, h1, h2, h3⟩ => by
  refine ⟨kind, item, long, many, K, Sh, e, h1, ?_, ?_⟩
  ·rcases h2 with h2 | ⟨q, css, hq, hTq, hK, hp, hl, hc⟩ | ⟨hbf, css, hK, hl, hc⟩
   ·exact .inl h2
   ·exact .inr (.inl ⟨q, css, hq, by rw [hT q hq ⟨css, hTq⟩]; exact hTq, hK, hp, hl, fun c hc' => (hc c hc').keep hT hs⟩)
   ·exact .inr (.inr ⟨hbf, css, hK, hl, fun c hc' => (hc c hc').keep hT hs⟩)
  ·rcases h3 with h3 | ⟨xs, k, h3, hl, hx, hb⟩
   ·exact .inl h3
   ·exact .inr ⟨xs, k, h3, hl, hx, fun hb' => ⟨(hb hb').1, hs hb' k _ (hb hb').2.1, (hb hb').2.2⟩⟩
theorem OLd.more {b : Bool} {T : Nat → Option TO} {S S' : Nat → Prop} (hS : ∀ k, S k → S' k) : ∀ {d : Nat} {cs : List AV}, OLd b T S d cs → OLd b T S' d cs
 | 0, _, h => h.elim
 | d + 1, cs, ⟨kind, item, long, many, K, Sh, e, h1, h2, h3⟩ => by
  have h3' : Sh = .v (.slice none 0 0) ∨ ∃ (xs : List Int) (k : Nat), Sh = .row 1 (xs.map encI) (some k) ∧ xs.length ≤ 5 ∧ (∀ x ∈ xs, NB x) ∧ (b = true → S' k ∧ T k = some (.tail xs.length) ∧ xs.length ≤ 4) := by
   rcases h3 with h3 | ⟨xs, k, h3, h4, h5, h6⟩
   ·exact .inl h3
   ·exact .inr ⟨xs, k, h3, h4, h5, fun hb => ⟨hS k (h6 hb).1, (h6 hb).2⟩⟩
  refine ⟨kind, item, long, many, K, Sh, e, h1, ?_, h3'⟩
  rcases h2 with h2 | ⟨q, css, hq, hTq, hK, hp, hl, hc⟩ | ⟨hbf, css, hK, hl, hc⟩
  ·exact .inl h2
  ·exact .inr (.inl ⟨q, css, hS q hq, hTq, hK, hp, hl, fun c hc' => (hc c hc').more hS⟩)
  ·exact .inr (.inr ⟨hbf, css, hK, hl, fun c hc' => (hc c hc').more hS⟩)
theorem OLd.up {b : Bool} {T : Nat → Option TO} {S : Nat → Prop} : ∀ {d e : Nat} {cs : List AV}, d ≤ e → OLd b T S d cs → OLd b T S e cs
 | 0, _, _, _, h => h.elim
 | d + 1, 0, _, he, _ => by omega
 | d + 1, e + 1, cs, he, ⟨kind, item, long, many, K, Sh, e', h1, h2, h3⟩ => by
  refine ⟨kind, item, long, many, K, Sh, e', h1, ?_, h3⟩
  rcases h2 with h2 | ⟨q, css, hq, hTq, hK, hp, hl, hc⟩ | ⟨hbf, css, hK, hl, hc⟩
  ·exact .inl h2
  ·exact .inr (.inl ⟨q, css, hq, hTq, hK, hp, hl, fun c hc' => (hc c hc').up (by omega)⟩)
  ·exact .inr (.inr ⟨hbf, css, hK, hl, fun c hc' => (hc c hc').up (by omega)⟩)
theorem RepL.of6 {G G' : Gh} {a b c d e f a' b' c' d' e' f' : AV} {us : List Value} (h : RepL G [a, b, c, d, e, f] us) (h0 : ∀ x, Rep G a x → Rep G' a' x) (h1 : ∀ x, Rep G b x → Rep G' b' x) (h2 : ∀ x, Rep G c x → Rep G' c' x) (h3 : ∀ x, Rep G d x → Rep G' d' x)
  (h4 : ∀ x, Rep G e x → Rep G' e' x) (h5 : ∀ x, Rep G f x → Rep G' f' x) : RepL G' [a', b', c', d', e', f'] us := by
 refine ⟨h.1, fun j hj hj' => ⟨?_, (h.2 j hj hj').2⟩⟩
 have h9 := (h.2 j hj hj').1
 match j, hj with
 | 0, _ => exact h0 _ h9
 | 1, _ => exact h1 _ h9
 | 2, _ => exact h2 _ h9
 | 3, _ => exact h3 _ h9
 | 4, _ => exact h4 _ h9
 | 5, _ => exact h5 _ h9
 | j + 6, hj => simp at hj; omega
def LC : Nat → LT → Prop
 | 0, _ => False
 | d + 1, .mk kind item long many kids shares => NB kind ∧ item.size ≤ 2 ∧ NB long ∧ NB many ∧ kids.length ≤ 3 ∧ shares.length ≤ 5 ∧ (∀ x ∈ shares, NB x) ∧ ∀ k ∈ kids, LC d k
theorem LC.mono : ∀ {d e : Nat} {t : LT}, LC d t → d ≤ e → LC e t
 | 0, _, _, h, _ => h.elim
 | d + 1, 0, _, _, h => by omega
 | d + 1, e + 1, .mk .., h, hd => ⟨h.1, h.2.1, h.2.2.1, h.2.2.2.1, h.2.2.2.2.1, h.2.2.2.2.2.1, h.2.2.2.2.2.2.1, fun k hk => (h.2.2.2.2.2.2.2 k hk).mono (by omega)⟩
theorem OLd.list {b : Bool} {T : Nat → Option TO} {S : Nat → Prop} {G G' : Gh} {d : Nat} (ih : ∀ cs, OLd b T S d cs → ∃ t, LC d t ∧ ∀ us, RepL G cs us → RepL G' (encL t) us) : ∀ (css : List (List AV)) (_ : ∀ c ∈ css, OLd b T S d c),
  ∃ ts : List LT, ts.length = css.length ∧ (∀ t ∈ ts, LC d t) ∧ ∀ us, RepL G css.flatten us → RepL G' (ts.map encL).flatten us
 | [], _ => ⟨[], rfl, by simp, fun us h => by cases us with | nil => exact RepL.nil _ | cons => have := h.1; simp at this⟩
 | c :: css, h => by
  obtain ⟨t, ht, hr⟩ := ih c (h c (by simp))
  obtain ⟨ts, hl, hts, hrs⟩ := OLd.list ih css fun c hc => h c (by simp [hc])
  refine ⟨t :: ts, by simp [hl], by simpa using ⟨ht, hts⟩, fun us hu => ?_⟩
  have h1 := hu.take c.length
  have h2 := hu.drop c.length
  simp only [List.flatten_cons, List.take_left, List.drop_left] at h1 h2
  have := (hr _ h1).append (hrs _ h2)
  rw [List.take_append_drop] at this
  exact this
theorem OLd.freeze {b : Bool} {T : Nat → Option TO} {S : Nat → Prop} {G G' : Gh} (hle : GLe G G') (hf : Fzs T S G G') : ∀ (d : Nat) (cs : List AV), OLd b T S d cs → ∃ t, LC d t ∧ ∀ us, RepL G cs us → RepL G' (encL t) us
 | 0, _, h => h.elim
 | d + 1, cs, ⟨kind, item, long, many, K, Sh, e, ⟨b1, b2, b3, b4⟩, h2, h3⟩ => by
  subst e
  have hK : ∃ ts : List LT, ts.length ≤ 3 ∧ (∀ t ∈ ts, LC d t) ∧ ∀ x, Rep G K x → Rep G' (.row 6 (ts.map encL) none) x := by
   have hz : ∀ ts : List LT, ∀ y ∈ ts.map encL, y.length = 6 := fun ts y hy => by
    obtain ⟨t, _, rfl⟩ := List.mem_map.1 hy
    exact encL_len t
   rcases h2 with rfl | ⟨q, css, hq, hT, rfl, _, hl, hc⟩ | ⟨_, css, rfl, hl, hc⟩
   ·exact ⟨[], by simp, by simp, fun x hx => Weak.nil 6 0 0 ⟨rfl, rfl⟩ G' x (hx.mono hle)⟩
   ·obtain ⟨ts, htl, htb, hts⟩ := OLd.list (OLd.freeze hle hf d) css hc
    exact ⟨ts, by omega, htb, fun x hx => hf q 6 css x hq hT hx _ (by simpa using htl) (hz ts) hts⟩
   ·obtain ⟨ts, htl, htb, hts⟩ := OLd.list (OLd.freeze hle hf d) css hc
    exact ⟨ts, by omega, htb, fun x hx => hx.rowFlat hle (by simpa using htl) (hz ts) hts⟩
  have hS : ∃ xs : List Int, xs.length ≤ 5 ∧ (∀ x ∈ xs, NB x) ∧ ∀ x, Rep G Sh x → Rep G' (.row 1 (xs.map encI) none) x := by
   rcases h3 with rfl | ⟨xs, k, rfl, hl, hx, _⟩
   ·exact ⟨[], by simp, by simp, fun x hx => Weak.nil 1 0 0 ⟨rfl, rfl⟩ G' x (hx.mono hle)⟩
   ·exact ⟨xs, hl, hx, fun x hx => Weak.row _ _ _ G' x (hx.mono hle)⟩
  obtain ⟨ts, hl, htb, hts⟩ := hK
  obtain ⟨xs, hxl, hxb, hxs⟩ := hS
  refine ⟨.mk kind item long many ts xs, ⟨b1, b2, b3, b4, hl, hxl, hxb, htb⟩, fun us hu => ?_⟩
  rw [encL_eq]
  exact hu.of6 (fun x hx => hx.mono hle) (fun x hx => hx.mono hle) (fun x hx => hx.mono hle) (fun x hx => hx.mono hle) hts hxs
theorem gb_refl (w : World) (r : Option Nat) : w.grownBy w r := ⟨rfl, rfl, rfl, Nat.le_refl _, fun _ _ _ => rfl⟩
theorem gb_trans {a b c : World} {r : Option Nat} (h : a.grownBy b r) (k : b.grownBy c r) : a.grownBy c r :=
  ⟨k.os.trans h.os, k.tape.trans h.tape, k.output.trans h.output, Nat.le_trans h.size k.size, fun i hi hn => (k.block i (Nat.lt_of_lt_of_le hi h.size) hn).trans (h.block i hi hn)⟩
theorem gb_alloc {a w : World} {r : Option Nat} (h : a.grownBy w r) (o : Obj) : a.grownBy (w.alloc o) r :=
  ⟨h.os, h.tape, h.output, Nat.le_trans h.size (by simp), fun i hi hne => (Below.heap_alloc w o i (Nat.lt_of_lt_of_le hi h.size)).trans (h.block i hi hne)⟩
theorem gb_below {a w : World} (h : Below a.heap.size a w) (r : Option Nat) : a.grownBy w r := ⟨h.os, h.tape, h.output, h.size, fun i hi _ => h.block i hi⟩
def Lst (w : World) (lo size : Nat) (v : Value) (xs : List Value) : Prop :=
  ∃ (A : Option Addr) (n c : Nat), v = .slice A n c ∧ n ≤ c ∧ c ≤ maxLen ∧ xs.length = n * size ∧
    (0 < n → ∃ g o, A = some ⟨g, o, none⟩ ∧ lo ≤ g ∧ g < w.heap.size ∧ ∀ j u, xs[j]? = some u → w.cell? ⟨g, o + j, none⟩ = some u)
theorem Lst.mono {w : World} {lo lo' size : Nat} {v : Value} {xs : List Value} (h : Lst w lo size v xs) (hl : lo' ≤ lo) : Lst w lo' size v xs := by
  obtain ⟨A, n, c, hv, hn, hc, hx, hr⟩ := h
  exact ⟨A, n, c, hv, hn, hc, hx, fun h0 => let ⟨g, o, hA, hg, hlt, hcell⟩ := hr h0; ⟨g, o, hA, Nat.le_trans hl hg, hlt, hcell⟩⟩
theorem Lst.keep {w w' : World} {lo size : Nat} {v : Value} {xs : List Value} (h : Lst w lo size v xs) (hs : w.heap.size ≤ w'.heap.size)
    (hk : ∀ k, lo ≤ k → k < w.heap.size → w'.heap[k]? = w.heap[k]?) : Lst w' lo size v xs := by
  obtain ⟨A, n, c, hv, hn, hc, hx, hr⟩ := h
  refine ⟨A, n, c, hv, hn, hc, hx, fun h0 => ?_⟩
  obtain ⟨g, o, hA, hg, hlt, hcell⟩ := hr h0
  exact ⟨g, o, hA, hg, Nat.lt_of_lt_of_le hlt hs, fun j u hu => (World.cell?_of_block (w := w) (hk g hg hlt)).trans (hcell j u hu)⟩
theorem Lst.below {w w' : World} {lo size : Nat} {v : Value} {xs : List Value} (h : Lst w lo size v xs) (hb : Below w.heap.size w w') : Lst w' lo size v xs :=
  h.keep hb.size fun k _ hk => hb.block k hk
theorem Lst.nil (w : World) (lo size : Nat) : Lst w lo size (.slice none 0 0) [] := ⟨none, 0, 0, rfl, Nat.le_refl _, Nat.zero_le _, by simp, fun h => absurd h (by omega)⟩
theorem Lst.at_ {w : World} {lo n c k : Nat} {A : Option Addr} {xs : List Value} (h : Lst w lo 1 (.slice A n c) xs) (hk : k < n) :
    ∃ g o u, A = some ⟨g, o, none⟩ ∧ lo ≤ g ∧ g < w.heap.size ∧ xs[k]? = some u ∧ w.cell? ⟨g, o + k, none⟩ = some u := by
  obtain ⟨A', n', c', hv, hn, hc, hx, hr⟩ := h
  simp only [Value.slice.injEq] at hv
  obtain ⟨rfl, rfl, rfl⟩ := hv
  obtain ⟨g, o, hA, hg, hlt, hcell⟩ := hr (by omega)
  have hl : k < xs.length := by omega
  exact ⟨g, o, xs[k], hA, hg, hlt, List.getElem?_eq_getElem hl, hcell k _ (List.getElem?_eq_getElem hl)⟩
def IsStream (ts : TypeId) (w : World) (b M : Nat) : Prop :=
  ∃ (a : Option Addr) (len cap : Nat) (at_ : Nat), w.heap[b]? = some (.cells #[.slice a len cap, .int .i64 (at_ : Int)] ts (0, 0)) ∧ at_ ≤ M ∧ len ≤ 9223372036854775807 ∧
    (0 < len → ∃ x, a = some x ∧ x.block < b ∧ x.spot = none ∧ ∀ i, i < len → ∃ z : Int, w.cell? ⟨x.block, x.off + i, none⟩ = some (.int .i64 z))
theorem block_lt {w : World} {b : Nat} {o : Obj} (h : w.heap[b]? = some o) : b < w.heap.size := by
  rcases Nat.lt_or_ge b w.heap.size with hl | hl
  · exact hl
  · rw [Array.getElem?_eq_none hl] at h; cases h
theorem IsStream.lt {ts : TypeId} {w : World} {b M : Nat} (h : IsStream ts w b M) : b < w.heap.size := by
  obtain ⟨_, _, _, _, hh, _⟩ := h
  exact block_lt hh
theorem IsStream.below {ts : TypeId} {w w' : World} {b M : Nat} (h : IsStream ts w b M) (hb : Below w.heap.size w w') : IsStream ts w' b M := by
  have hlt := h.lt
  obtain ⟨a, len, cap, at_, hh, h1, h2, h3⟩ := h
  refine ⟨a, len, cap, at_, (hb.block b hlt).trans hh, h1, h2, fun h0 => ?_⟩
  obtain ⟨x, hx, hxb, hs, hc⟩ := h3 h0
  refine ⟨x, hx, hxb, hs, fun i hi => ?_⟩
  obtain ⟨z, hz⟩ := hc i hi
  exact ⟨z, (hb.cell (p := ⟨x.block, x.off + i, none⟩) (by show x.block < _; omega)).trans hz⟩
theorem IsStream.mono {ts : TypeId} {w : World} {b M M' : Nat} (h : IsStream ts w b M) (hM : M ≤ M') : IsStream ts w b M' := by
  obtain ⟨a, len, cap, at_, hh, h1, h2⟩ := h
  exact ⟨a, len, cap, at_, hh, by omega, h2⟩
theorem IsStream.alloc {ts : TypeId} {w : World} {b M : Nat} (h : IsStream ts w b M) (o : Obj) : IsStream ts (w.alloc o) b M :=
  h.below ((Below.refl _ _).alloc (Nat.le_refl _) o)
structure Goes (ts : TypeId) (b M k : Nat) (w w' : World) : Prop where
  is : IsStream ts w' b (M + k)
  gb : w.grownBy w' (some b)
theorem Goes.refl {ts : TypeId} {b M k : Nat} {w : World} (h : IsStream ts w b M) : Goes ts b M k w w := ⟨h.mono (by omega), gb_refl _ _⟩
theorem Goes.trans {ts : TypeId} {b M k j m : Nat} {w w1 w2 : World} (h : Goes ts b M k w w1) (h' : Goes ts b (M + k) j w1 w2) (hm : k + j ≤ m) : Goes ts b M m w w2 :=
  ⟨h'.is.mono (by omega), gb_trans h.gb h'.gb⟩
theorem Goes.more {ts : TypeId} {b M k k' : Nat} {w w1 : World} (h : Goes ts b M k w w1) (hk : k ≤ k') : Goes ts b M k' w w1 := ⟨h.is.mono (by omega), h.gb⟩
theorem Goes.below {ts : TypeId} {b M k : Nat} {w w1 w2 : World} (h : Goes ts b M k w w1) (hb : Below w1.heap.size w1 w2) : Goes ts b M k w w2 :=
  ⟨h.is.below hb, gb_trans h.gb (gb_below hb _)⟩
theorem Goes.alloc {ts : TypeId} {b M k : Nat} {w w1 : World} (h : Goes ts b M k w w1) (o : Obj) : Goes ts b M k w (w1.alloc o) := ⟨h.is.alloc o, gb_alloc h.gb o⟩
def outsideB (n lo hi : Int) : Bool := decide (n < lo) || decide (hi < n)
set_option maxHeartbeats 400000 in
theorem in_any (n lo hi : Int) (w : World) :
    Calls Tryz.prog 44 #[.int .i64 n, .int .i64 lo, .int .i64 hi] w fun e w' => e = .returned (.bool (!outsideB n lo hi)) ∧ w = w' := by
  by_cases h1 : lo ≤ n
  · go_enter Tryz.func44, Tryz.ntmps44
    go_wp2
    go_ret
    exact ⟨by have : ¬ n < lo := by omega
              simp [outsideB, this, ← Int.not_lt], rfl⟩
  · have h1' : decide (lo ≤ n) = false := by simpa using h1
    go_enter Tryz.func44, Tryz.ntmps44
    go_wp2
    go_ret
    exact ⟨by have : n < lo := by omega
              simp [outsideB, this], rfl⟩
def keyByte (i n : Nat) : Bool := (decide (97 ≤ n) && decide (n ≤ 122)) || (decide (0 < i) && ((decide (48 ≤ n) && decide (n ≤ 57)) || n == 45 || n == 95))
def keyTo (s : ByteArray) : Nat → Bool
  | 0 => true
  | k + 1 => keyTo s k && keyByte k (s.data.toList.getD k 0).toNat
def keyB (s : ByteArray) : Bool := keyTo s s.size && decide (1 ≤ s.size) && decide (s.size ≤ 40)
theorem keyTo_le (s : ByteArray) {k m : Nat} (h : k ≤ m) (hm : keyTo s m = true) : keyTo s k = true := by
  induction m with
  | zero => obtain rfl : k = 0 := by omega
            rfl
  | succ m ih =>
    by_cases e : k = m + 1
    · rw [e]; exact hm
    · rw [keyTo, Bool.and_eq_true] at hm
      exact ih (by omega) hm.1
theorem keyB_no (s : ByteArray) {k : Nat} (h : k ≤ s.size) (hk : keyTo s k = false) : keyB s = false := by
  have h2 : keyTo s s.size = false := by
    cases h3 : keyTo s s.size with
    | false => rfl
    | true => rw [keyTo_le s h h3] at hk; cases hk
  simp [keyB, h2]
theorem getD_byte (s : ByteArray) (k : Nat) (h : k < s.size) : s.data.toList.getD k 0 = s[k] := by
  have h' : k < s.data.toList.length := h
  simp [List.getD, List.getElem?_eq_getElem h']; rfl
set_option maxRecDepth 100000 in
set_option maxHeartbeats 2000000 in
theorem isKey_any (s : ByteArray) (hsz : s.size ≤ 1000000000000) (w : World) :
    Calls Tryz.prog 45 #[.string s] w fun e w' => e = .returned (.bool (keyB s)) ∧ w = w' := by
  go_enter Tryz.func45, Tryz.ntmps45
  go_wp2_with fail
  go_loopg [3, 4] s.size (fun g i _ wr => ∃ k : Nat, k + g = s.size ∧ i = .int .i64 k ∧ keyTo s k = true ∧ w = wr)
  case atStart => exact ⟨0, by omega, rfl, rfl, rfl⟩
  case round =>
    obtain ⟨k, hk, rfl, hkey, rfl⟩ := hrel
    have HK := Lib.hid hkey
    clear hkey
    by_cases hg : gk = 0
    · obtain rfl : k = s.size := by omega
      by_cases h0 : s.size = 0
      · have e0 : s = ⟨#[]⟩ := by
          obtain ⟨⟨l⟩⟩ := s
          have : l = [] := List.eq_nil_of_length_eq_zero h0
          rw [this]
        subst e0
        go_wp2_with fail
        go_ret
        exact ⟨rfl, rfl⟩
      · have hne : s.toList.isEmpty = false := by
          rw [ByteArray.toList_eq]
          cases hl : s.data.toList with
          | nil => exact absurd (show s.data.toList.length = 0 by rw [hl]; rfl) h0
          | cons _ _ => rfl
        go_wp2_with fail
        go_ret
        refine ⟨?_, rfl⟩
        have e1 : keyB s = decide ((s.size : Int) ≤ 40) := by
          have h1 : decide (1 ≤ s.size) = true := by simp; omega
          rw [keyB, HK.out, h1, Bool.true_and, Bool.true_and, Bool.eq_iff_iff]; simp; omega
        rw [e1]; rfl
    · have hlt : k < s.size := by omega
      have HG := Lib.hid (show keyTo s (k + 1) = (keyTo s k && keyByte k s[k].toNat) by rw [keyTo, getD_byte s k hlt])
      go_upto_region 5 with fail
      generalize s[k].toNat = n at *
      go_cut [40] (fun s40 wx => s40 = .bool (!keyByte k n) ∧ w = wx)
      case first =>
        by_cases c1 : n < 97
        · by_cases ck : k ≤ 0
          · have HV := Lib.hid (show keyByte k n = false by simp [keyByte]; omega)
            go_wp2_with fail
            go_meet
            exact ⟨by rw [HV.out]; first | rfl | (simp; omega), rfl⟩
          · have ck' : 0 < k := by omega
            by_cases c2 : n < 48
            · by_cases c3 : n = 45
              · have b3 : ((n : Int) == 45) = true := by simp; omega
                have HV := Lib.hid (show keyByte k n = true by simp [keyByte]; omega)
                go_wp2_with fail
                go_meet
                exact ⟨by rw [HV.out]; first | rfl | (simp; omega), rfl⟩
              · have b3 : ((n : Int) == 45) = false := by simp; omega
                have b4 : ((n : Int) == 95) = false := by simp; omega
                have HV := Lib.hid (show keyByte k n = false by simp [keyByte]; omega)
                go_wp2_with fail
                go_meet
                exact ⟨by rw [HV.out]; first | rfl | (simp; omega), rfl⟩
            · by_cases c3 : n ≤ 57
              · have HV := Lib.hid (show keyByte k n = true by simp [keyByte]; omega)
                go_wp2_with fail
                go_meet
                exact ⟨by rw [HV.out]; first | rfl | (simp; omega), rfl⟩
              · have b3 : ((n : Int) == 45) = false := by simp; omega
                by_cases c4 : n = 95
                · have b4 : ((n : Int) == 95) = true := by simp; omega
                  have HV := Lib.hid (show keyByte k n = true by simp [keyByte]; omega)
                  go_wp2_with fail
                  go_meet
                  exact ⟨by rw [HV.out]; first | rfl | (simp; omega), rfl⟩
                · have b4 : ((n : Int) == 95) = false := by simp; omega
                  have HV := Lib.hid (show keyByte k n = false by simp [keyByte]; omega)
                  go_wp2_with fail
                  go_meet
                  exact ⟨by rw [HV.out]; first | rfl | (simp; omega), rfl⟩
        · by_cases c2 : n ≤ 122
          · have HV := Lib.hid (show keyByte k n = true by simp [keyByte]; omega)
            go_wp2_with fail
            go_meet
            exact ⟨by rw [HV.out]; first | rfl | (simp; omega), rfl⟩
          · by_cases ck : k ≤ 0
            · have HV := Lib.hid (show keyByte k n = false by simp [keyByte]; omega)
              go_wp2_with fail
              go_meet
              exact ⟨by rw [HV.out]; first | rfl | (simp; omega), rfl⟩
            · have ck' : 0 < k := by omega
              have b3 : ((n : Int) == 45) = false := by simp; omega
              have b4 : ((n : Int) == 95) = false := by simp; omega
              have HV := Lib.hid (show keyByte k n = false by simp [keyByte]; omega)
              go_wp2_with fail
              go_meet
              exact ⟨by rw [HV.out]; first | rfl | (simp; omega), rfl⟩
      case rest =>
        obtain ⟨rfl, rfl⟩ := hcut
        rcases Bool.eq_false_or_eq_true (keyByte k n) with c | c
        · rw [c]
          go_wp2_with fail
          go_roundg (gk - 1)
          case measure => omega
          case rel => exact ⟨k + 1, by omega, by go_num, by rw [HG.out, HK.out, c]; rfl, rfl⟩
        · rw [c]
          go_wp2_with fail
          go_ret
          refine ⟨?_, rfl⟩
          have : keyB s = false := keyB_no s (show k + 1 ≤ s.size by omega) (by rw [HG.out, c, Bool.and_false])
          rw [this]; rfl
theorem dropWhile_nil {α : Type} (p : α → Bool) : ∀ l : List α, (l.dropWhile p).isEmpty = l.all p
  | [] => rfl
  | x :: l => by
    rw [List.dropWhile_cons, List.all_cons]
    cases h : p x with
    | true => simpa using dropWhile_nil p l
    | false => simp
theorem dropWhile_head {α : Type} (p : α → Bool) : ∀ (l : List α) (x : α) (r : List α), l.dropWhile p = x :: r → p x = false
  | [], x, r, h => by simp at h
  | y :: l, x, r, h => by
    rw [List.dropWhile_cons] at h
    cases hy : p y with
    | true => rw [hy] at h; exact dropWhile_head p l x r (by simpa using h)
    | false => rw [hy] at h; simp at h; rw [← h.1]; exact hy
theorem trimS_empty (l cs : List UInt8) : (Lib.trimS l cs).isEmpty = l.all (cs.contains ·) := by
  unfold Lib.trimS Lib.trimLeftS Lib.trimRightS
  rw [dropWhile_nil, List.all_reverse]
  cases h : l.reverse.dropWhile (cs.contains ·) with
  | nil =>
    have := dropWhile_nil (cs.contains ·) l.reverse
    rw [h, List.all_reverse] at this
    rw [← this]; rfl
  | cons x r =>
    have h1 := dropWhile_head _ _ _ _ h
    have h2 := dropWhile_nil (cs.contains ·) l.reverse
    rw [h, List.all_reverse] at h2
    rw [List.all_cons, h1, ← h2]; rfl
def smallL : List UInt8 := [97, 98, 99, 100, 101, 102, 103, 104, 105, 106, 107, 108, 109, 110, 111, 112, 113, 114, 115, 116, 117, 118, 119, 120, 121, 122]
def keySet : List UInt8 := [97, 98, 99, 100, 101, 102, 103, 104, 105, 106, 107, 108, 109, 110, 111, 112, 113, 114, 115, 116, 117, 118, 119, 120, 121, 122, 48, 49, 50, 51, 52, 53, 54, 55, 56, 57, 45, 95]
theorem keySet_byte : ∀ n, n < 256 → keySet.contains (UInt8.ofNat n) = keyByte 1 n := by decide +kernel
theorem small_byte : ∀ n, n < 256 → decide (0 ≤ Lib.indexByte smallL (UInt8.ofNat n)) = keyByte 0 n := by decide +kernel
theorem keyByte_pos (i n : Nat) (h : 0 < i) : keyByte i n = keyByte 1 n := by simp [keyByte, h]
theorem keyByte_zero (n : Nat) (h : keyByte 0 n = true) : keyByte 1 n = true := by simp [keyByte] at h ⊢; omega
theorem ofNat_toNat8 (b : UInt8) : UInt8.ofNat b.toNat = b := by simp
theorem keyTo_all (s : ByteArray) (x : UInt8) (r : List UInt8) (h : s.data.toList = x :: r) : ∀ k, k ≤ r.length → keyTo s (k + 1) = (keyByte 0 x.toNat && (r.take k).all (keySet.contains ·))
  | 0, _ => by simp [keyTo, h]
  | k + 1, hk => by
    rw [keyTo, keyTo_all s x r h k (by omega), h]
    have hg : (x :: r).getD (k + 1) 0 = r[k]'(by omega) := by simp [List.getD, List.getElem?_eq_getElem (show k < r.length by omega)]
    rw [hg, keyByte_pos (k + 1) _ (by omega), ← keySet_byte _ (UInt8.toNat_lt _), ofNat_toNat8, List.take_succ_eq_append_getElem (by omega), List.all_append, List.all_cons, List.all_nil, Bool.and_true, Bool.and_assoc]
theorem keyB_eq (s : ByteArray) (x : UInt8) (r : List UInt8) (h : s.data.toList = x :: r) (h40 : s.size ≤ 40) :
    keyB s = ((x :: r).all (keySet.contains ·) && decide (0 ≤ Lib.indexByte smallL x)) := by
  have hl : s.size = r.length + 1 := by show s.data.toList.length = _; rw [h]; rfl
  have h1 : decide (1 ≤ s.size) = true := by simp; omega
  have h2 : decide (s.size ≤ 40) = true := by simpa using h40
  rw [keyB, h1, h2, Bool.and_true, Bool.and_true, hl, keyTo_all s x r h r.length (Nat.le_refl _), List.take_length, List.all_cons]
  have e := small_byte x.toNat (UInt8.toNat_lt _)
  have e2 := keySet_byte x.toNat (UInt8.toNat_lt _)
  rw [ofNat_toNat8] at e e2
  rw [e, e2]
  cases h0 : keyByte 0 x.toNat with
  | false => simp
  | true => rw [keyByte_zero _ h0]; simp
theorem mk_toList (l : List UInt8) : (ByteArray.mk l.toArray).toList = l := by rw [ByteArray.toList_eq]
set_option maxRecDepth 100000 in
set_option maxHeartbeats 1000000 in
theorem Key_any (s : ByteArray) (hsz : s.size ≤ 1000000000000) (w : World) :
    Calls Tryz.prog 43 #[.string s] w fun e w' => e = .returned (.bool (keyB s)) ∧ Below w.heap.size w w' := by
  rcases Bool.eq_false_or_eq_true (outsideB (s.size : Int) 1 40) with o | o
  · have HV := Lib.hid (show keyB s = false by
      simp [outsideB] at o
      have : (decide (1 ≤ s.size) && decide (s.size ≤ 40)) = false := by simp; omega
      rw [keyB, Bool.and_assoc, this, Bool.and_false])
    go_enter Tryz.func43, Tryz.ntmps43
    go_wp2_with fail
    refine (in_any _ _ _ _).mono ?_
    rintro e w' ⟨rfl, rfl⟩
    rw [o]
    go_wp2_with fail
    go_ret
    exact ⟨by rw [HV.out]; rfl, Below.refl _ _⟩
  · have hb : 1 ≤ s.size ∧ s.size ≤ 40 := by simp [outsideB] at o; omega
    obtain ⟨hb1, hb2⟩ := hb
    obtain ⟨x, r, hl⟩ : ∃ x r, s.data.toList = x :: r := by
      cases hl : s.data.toList with
      | nil => exact absurd (show s.data.toList.length = 0 by rw [hl]; rfl) (by show s.size ≠ 0; omega)
      | cons x r => exact ⟨x, r, rfl⟩
    have hx : s[0]'(by omega) = x := by rw [← getD_byte s 0 (by omega), hl]; rfl
    have HV := Lib.hid (keyB_eq s x r hl hb2)
    have HT := Lib.hid (show (Lib.trimS s.data.toList keySet).isEmpty = (x :: r).all (keySet.contains ·) by rw [trimS_empty, hl])
    clear hl
    go_enter Tryz.func43, Tryz.ntmps43
    go_wp2_with fail
    refine (in_any _ _ _ _).mono ?_
    rintro e w' ⟨rfl, rfl⟩
    rw [o]
    go_wp2_with fail
    refine (Any.strings_Trim_laid Tryz.lays160 (by kernel_rfl) s ⟨keySet.toArray⟩ w (by omega) (by decide) (ascii_of_all (by decide))).mono ?_
    rintro e w1 ⟨rfl, hb⟩
    have hq : (ByteArray.mk (Lib.trimS s.data.toList keySet).toArray).toList.isEmpty = (x :: r).all (keySet.contains ·) := by rw [mk_toList]; exact HT.out
    generalize ByteArray.mk (Lib.trimS s.data.toList keySet).toArray = tr at *
    rcases Bool.eq_false_or_eq_true ((x :: r).all (keySet.contains ·)) with c | c
    · rw [c] at hq HV
      clear c HT
      go_wp2_with fail
      refine (Tryz.strings_IndexByte ⟨smallL.toArray⟩ (x.toNat : Int) w1).mono ?_
      rintro e w2 ⟨rfl, rfl⟩
      rw [show ((x.toNat : Int).toNat.toUInt8) = x by simp]
      go_wp2_with fail
      go_ret
      exact ⟨by rw [HV.out, Bool.true_and]; rfl, hb⟩
    · rw [c] at hq HV
      clear c HT
      go_wp2_with fail
      go_ret
      exact ⟨by rw [HV.out]; rfl, hb⟩
theorem acalls_pure {P : Program} {f : Nat} (hok : fnOk P f = true) (xs : List Value) {v : Value} (h1 : v.oneCell' = true) (hc : ∀ w, Calls P f xs.toArray w fun e w' => e = .returned v ∧ RowKit.Below w.heap.size w w') (h : Hp) : ACalls P f (xs.map .v) h (fun r h' => r = .v v ∧ h' = h) := by
 refine ⟨hok, fun G w vs hs hl ha => ?_⟩
 have e : vs = xs.toArray := by
  apply Array.ext
  ·simpa using hl
  ·intro j hj hj'
   have hjx : j < (xs.map AV.v).length := by rw [← hl]; exact hj
   have := ha j hjx
   simp only [List.getElem_map] at this
   have h2 : vs.getD j undef = vs[j] := by simp [Array.getD, hj]
   rw [h2] at this
   simp only [List.getElem_toArray]
   generalize vs[j] = y at this
   cases this
   rfl
 subst e
 refine (hc w).mono ?_
 rintro _ w' ⟨rfl, hb⟩
 have hb' : ∀ b, b < w.heap.size → w'.heap[b]? = w.heap[b]? := fun b hb2 => hb.block b hb2
 exact ⟨_, h, G, v, rfl, ⟨rfl, rfl⟩, GLe.refl _, Fr.below (Fr.refl _ _ _) hb' hb.os hb.tape hb.output hb.size, hs.below hb', .v _ h1⟩
theorem a_isKey (s : ByteArray) (hs : s.size ≤ 1000000000000) (h : Hp) : ACalls Tryz.prog 45 [.v (.string s)] h (fun r h' => r = .v (.bool (keyB s)) ∧ h' = h) :=
 acalls_pure (by kernel_rfl) [.string s] rfl (fun w => (isKey_any s hs w).mono fun e w' ⟨h1, h2⟩ => ⟨h1, by subst h2; exact ⟨rfl, rfl, rfl, Nat.le_refl _, fun _ _ => rfl⟩⟩) h
theorem a_key (s : ByteArray) (hs : s.size ≤ 1000000000000) (h : Hp) : ACalls Tryz.prog 43 [.v (.string s)] h (fun r h' => r = .v (.bool (keyB s)) ∧ h' = h) :=
 acalls_pure (by kernel_rfl) [.string s] rfl (fun w => Key_any s hs w) h
abbrev zP2E : List Nat := [0, 1, 2, 3, 4, 5, 6, 7, 8, 9, 10, 11, 12, 13]
abbrev zP2P : List (Nat × List Nat × List Nat) := []
abbrev zP3E : List Nat := [0, 1, 2, 3, 4, 5, 6, 7, 8, 9, 10, 11, 12, 13, 14]
abbrev zP3P : List (Nat × List Nat × List Nat) := []
attribute [go_sem] zP2E zP2P zP3E zP3P
structure Good (f : Fo) : Prop where
 key : keyB f.key = true
 hi : 1 ≤ f.hi ∧ f.hi ≤ 1000
 ot : 0 ≤ f.ot ∧ f.ot ≤ 1000
 len : f.ws.length ≤ 200
 w : ∀ i, i < f.ws.length → 0 ≤ (wAt f.ws i).1 ∧ (wAt f.ws i).1 ≤ (wAt f.ws i).2.1 ∧ (wAt f.ws i).2.1 ≤ 1114111 ∧ 0 ≤ (wAt f.ws i).2.2 ∧ (wAt f.ws i).2.2 ≤ 1000
 up : ∀ i, 0 < i → i < f.ws.length → (wAt f.ws (i - 1)).2.1 < (wAt f.ws i).1
theorem Good.ws {f : Fo} (h : Good f) : WsOk f.ws := by
 refine ⟨?_, fun i hi => (h.w i hi).2.1⟩
 have key : ∀ d i, i + 1 + d < f.ws.length → (wAt f.ws i).2.1 < (wAt f.ws (i + 1 + d)).1 := by
  intro d
  induction d with
  | zero => intro i hi; exact h.up (i + 1) (by omega) hi
  | succ d ih =>
   intro i hi
   have h1 := ih i (by omega)
   have h2 := (h.w (i + 1 + d) (by omega)).2.1
   have h3 := h.up (i + 1 + d + 1) (by omega) hi
   simp only [Nat.add_sub_cancel] at h3
   rw [show i + 1 + (d + 1) = i + 1 + d + 1 by omega]
   omega
 intro i j hij hj
 have := key (j - i - 1) i (by omega)
 rwa [show i + 1 + (j - i - 1) = j by omega] at this
theorem Good.fob {f : Fo} (h : Good f) : FoB f := by
 refine ⟨h.ot, fun w hw => ?_⟩
 obtain ⟨i, hi, rfl⟩ := List.getElem_of_mem hw
 have := h.w i hi
 have e : wAt f.ws i = f.ws[i] := by unfold wAt; rw [List.getD_eq_getElem?_getD, List.getElem?_eq_getElem hi]; rfl
 rw [e] at this
 exact this.2.2.2
theorem g_in (x lo hi : Int) (h : Hp) : ACalls Tryz.prog 44 [.v (.int .i64 x), .v (.int .i64 lo), .v (.int .i64 hi)] h (fun r h' => r = .v (.bool (decide (lo ≤ x) && decide (x ≤ hi))) ∧ h' = h) := by
 refine gE Tryz.func44 rfl (by kernel_rfl) 12 rfl fun c => ?_
 (repeat (first | refine gO rfl ?_ | (refine gR fun K1 hK1 => ?_; simp only [go_sem, ↓reduceIte, reduceCtorEq, nA, nB, nC, nD, nE, nF] <;> and_intros <;> (apply hK1; clear hK1 K1))))
 simp only [Tryz.results44, go_sem, ↓reduceIte, reduceCtorEq, nA, nB, nC, nD, nE, nF]
 exact ⟨_, _, Weak.refl _, Hp.le.refl _, rfl, rfl⟩
def wBad (w : Int × Int × Int) : Bool := !(decide (0 ≤ w.1) && decide (w.1 ≤ w.2.1)) || decide (1114111 < w.2.1) || !(decide (0 ≤ w.2.2) && decide (w.2.2 ≤ 1000))
def wF (ws : List (Int × Int × Int)) (j : Nat) : Int := if wBad (wAt ws j) = true then 1 else if 0 < j ∧ (wAt ws j).1 ≤ (wAt ws (j - 1)).2.1 then 7 else 0
def scanW (ws : List (Int × Int × Int)) : Nat → Nat → Int
 | 0, _ => 0
 | g + 1, j => if wF ws j = 0 then scanW ws g (j + 1) else wF ws j
def fontF (f : Fo) : Int := if keyB f.key = true then (if (1 ≤ f.hi ∧ f.hi ≤ 1000) ∧ 0 ≤ f.ot ∧ f.ot ≤ 1000 then (if 200 < f.ws.length then 2 else scanW f.ws f.ws.length 0) else 1) else 5
theorem scanW_ok (ws : List (Int × Int × Int)) : ∀ g j, scanW ws g j = 0 → ∀ i, j ≤ i → i < j + g → wF ws i = 0
 | 0, j, _, i, h1, h2 => by omega
 | g + 1, j, h, i, h1, h2 => by
  rw [scanW] at h
  split at h
  ·rename_i e
   by_cases hij : i = j
   ·rw [hij]; exact e
   ·exact scanW_ok ws g (j + 1) h i (by omega) (by omega)
  ·exact absurd h (by assumption)
theorem fontF_good {f : Fo} (h : fontF f = 0) : Good f := by
 unfold fontF at h
 split at h
 ·rename_i hk
  split at h
  ·rename_i hr
   split at h
   ·cases h
   ·rename_i hl
    have hs := scanW_ok f.ws _ 0 h
    have hw : ∀ i, i < f.ws.length → wBad (wAt f.ws i) = false ∧ ¬ (0 < i ∧ (wAt f.ws i).1 ≤ (wAt f.ws (i - 1)).2.1) := fun i hi => by
     have := hs i (by omega) (by omega)
     unfold wF at this
     split at this
     ·cases this
     ·rename_i hb
      split at this
      ·cases this
      ·rename_i hu
       exact ⟨by simpa using hb, hu⟩
    refine ⟨hk, hr.1, hr.2, by omega, fun i hi => ?_, fun i h0 hi => ?_⟩
    ·have := (hw i hi).1
     unfold wBad at this
     simp only [Bool.or_eq_false_iff, Bool.not_eq_false', Bool.and_eq_true, decide_eq_true_eq, decide_eq_false_iff_not] at this
     omega
    ·have := (hw i hi).2
     omega
  ·cases h
 ·cases h
theorem good_fontF {f : Fo} (h : Good f) : fontF f = 0 := by
 have hw : ∀ i, i < f.ws.length → wF f.ws i = 0 := fun i hi => by
  have h1 := h.w i hi
  have h2 := h.up i
  unfold wF wBad
  rw [if_neg (by simp; omega), if_neg (fun e => by have := h2 e.1 hi; omega)]
 have hs : ∀ g j, j + g ≤ f.ws.length → scanW f.ws g j = 0 := by
  intro g
  induction g with
  | zero => intro j _; rfl
  | succ g ih => intro j hj; rw [scanW, if_pos (hw j (by omega))]; exact ih (j + 1) (by omega)
 unfold fontF
 rw [if_pos h.key, if_pos ⟨h.hi, h.ot⟩, if_neg (by have := h.len; omega)]
 exact hs _ 0 (by omega)
theorem scan_bad {ws : List (Int × Int × Int)} {j : Nat} (hj : j < ws.length) (h : wBad (wAt ws j) = true) : scanW ws (ws.length - j) j = 1 := by
 obtain ⟨g, hg⟩ : ∃ g, ws.length - j = g + 1 := ⟨ws.length - j - 1, by omega⟩
 have e : wF ws j = 1 := by unfold wF; rw [if_pos h]
 rw [hg, scanW, e, if_neg (by decide)]
theorem scan_ord {ws : List (Int × Int × Int)} {j : Nat} (hj : j < ws.length) (h : wBad (wAt ws j) = false) (h2 : 0 < j ∧ (wAt ws j).1 ≤ (wAt ws (j - 1)).2.1) : scanW ws (ws.length - j) j = 7 := by
 obtain ⟨g, hg⟩ : ∃ g, ws.length - j = g + 1 := ⟨ws.length - j - 1, by omega⟩
 have e : wF ws j = 7 := by unfold wF; rw [if_neg (by rw [h]; simp), if_pos h2]
 rw [hg, scanW, e, if_neg (by decide)]
theorem scan_next {ws : List (Int × Int × Int)} {j : Nat} (hj : j < ws.length) (h : wBad (wAt ws j) = false) (h2 : ¬ (0 < j ∧ (wAt ws j).1 ≤ (wAt ws (j - 1)).2.1)) : scanW ws (ws.length - j) j = scanW ws (ws.length - (j + 1)) (j + 1) := by
 obtain ⟨g, hg⟩ : ∃ g, ws.length - j = g + 1 := ⟨ws.length - j - 1, by omega⟩
 have e : wF ws j = 0 := by unfold wF; rw [if_neg (by rw [h]; simp), if_neg h2]
 rw [hg, scanW, e, if_pos rfl, show ws.length - (j + 1) = g by omega]
theorem g_checkFontX (f : Fo) (kk : Option Nat) (hks : f.key.size ≤ 1000) (hlw : f.ws.length ≤ 1000) (h : Hp) :
  ACalls Tryz.prog 11 [encFo f kk] h (fun r h' => r = .v (.int .i64 (fontF f)) ∧ h' = h) := by
 have hK := a_isKey f.key (by omega) h
 have ho1 := a_outside f.hi 1 1000 h
 have ho2 := a_outside f.ot 0 1000 h
 have hml : (f.ws.map encW).length = f.ws.length := List.length_map _
 have hfl : ∀ x, (encFo f x) = .agg [.v (.string f.key), .v (.int .i64 f.hi), .v (.int .i64 f.ot), .row 3 (f.ws.map encW) x] := fun _ => rfl
 unfold fontF
 refine gE Tryz.func11 rfl (by kernel_rfl) 58 rfl fun c => ?_
 (repeat (first | refine gO rfl ?_ | ((refine gM zM11 fun K1 hK1 => ?_; simp only [go_sem, ↓reduceIte, reduceCtorEq, nA, nB, nC, nD, nE, nF, hfl] <;> and_intros <;> first | (apply hK1; clear hK1 K1) | skip))))
 refine hK.mono ?_; rintro _ hz ⟨rfl, hh⟩; apply hK1; clear hK1 K1; rw [hh]; clear hh hz
 (repeat (first | refine gO rfl ?_ | ((refine gM zM11 fun K1 hK1 => ?_; simp only [go_sem, ↓reduceIte, reduceCtorEq, nA, nB, nC, nD, nE, nF] <;> and_intros <;> (apply hK1; clear hK1 K1)))))
 refine awp_cond (t := _) rfl (fun h1 => ?_) (fun h1 => ?_)
 ·have g1 : ¬ keyB f.key = true := by simpa using h1
  (repeat (first | refine gO rfl ?_ | ((refine gM zM11 fun K1 hK1 => ?_; simp only [go_sem, ↓reduceIte, reduceCtorEq, nA, nB, nC, nD, nE, nF] <;> and_intros <;> (apply hK1; clear hK1 K1)))))
  simp only [Tryz.results11, go_sem, ↓reduceIte, reduceCtorEq, nA, nB, nC, nD, nE, nF]
  exact ⟨_, _, Weak.refl _, Hp.le.refl _, by rw [if_neg g1], rfl⟩
 have g1 : keyB f.key = true := by simpa using h1
 rw [if_pos g1]
 clear h1
 (repeat (first | refine gO rfl ?_ | ((refine gM zM11 fun K1 hK1 => ?_; simp only [go_sem, ↓reduceIte, reduceCtorEq, nA, nB, nC, nD, nE, nF] <;> and_intros))))
 refine ho1.mono ?_; rintro _ hz ⟨rfl, hh⟩; apply hK1; clear hK1 K1; rw [hh]; clear hh hz
 by_cases c1 : 1 ≤ f.hi ∧ f.hi ≤ 1000
 ·have d1 : (decide (f.hi < 1) || decide (1000 < f.hi)) = false := by simp; omega
  (repeat (((refine gM zM11 fun K1 hK1 => ?_; simp only [go_sem, ↓reduceIte, reduceCtorEq, nA, nB, nC, nD, nE, nF, d1] <;> and_intros))))
  rotate_left
  ·exact fun h => h.elim
  refine ho2.mono ?_
  rintro _ hz ⟨rfl, hh⟩; refine ⟨rfl, ?_⟩; apply hK1; clear hK1 K1; rw [hh]; clear hh hz
  by_cases c2 : 0 ≤ f.ot ∧ f.ot ≤ 1000
  ·have d2 : (decide (f.ot < 0) || decide (1000 < f.ot)) = false := by simp; omega
   rw [if_pos ⟨c1, c2⟩]
   (repeat (first | refine gO rfl ?_ | ((refine gM zM11 fun K1 hK1 => ?_; simp only [go_sem, ↓reduceIte, reduceCtorEq, nA, nB, nC, nD, nE, nF, d2] <;> and_intros <;> (apply hK1; clear hK1 K1)))))
   refine awp_cond (t := _) rfl (fun h6 => by cases h6) (fun _ => ?_)
   (repeat (first | refine gO rfl ?_ | ((refine gM zM11 fun K1 hK1 => ?_; simp only [go_sem, ↓reduceIte, reduceCtorEq, nA, nB, nC, nD, nE, nF, hml] <;> and_intros <;> (apply hK1; clear hK1 K1)))))
   refine awp_cond (t := _) rfl (fun h1 => ?_) (fun h1 => ?_)
   ·have g4 : 200 < f.ws.length := by simp at h1; omega
    (repeat (first | refine gO rfl ?_ | ((refine gM zM11 fun K1 hK1 => ?_; simp only [go_sem, ↓reduceIte, reduceCtorEq, nA, nB, nC, nD, nE, nF] <;> and_intros <;> (apply hK1; clear hK1 K1)))))
    simp only [Tryz.results11, go_sem, ↓reduceIte, reduceCtorEq, nA, nB, nC, nD, nE, nF]
    exact ⟨_, _, Weak.refl _, Hp.le.refl _, by rw [if_pos g4], rfl⟩
   have g4 : ¬ 200 < f.ws.length := by simp at h1; omega
   rw [if_neg g4]
   clear h1
   (repeat (first | refine gO rfl ?_ | ((refine gM zM11 fun K1 hK1 => ?_; simp only [go_sem, ↓reduceIte, reduceCtorEq, nA, nB, nC, nD, nE, nF, hml] <;> and_intros <;> (apply hK1; clear hK1 K1)))))
   refine awp_loopC (rl false [1, 1, 20, 3, 34]) 0 (fun g s => ∃ j : Nat, g + j = f.ws.length ∧ scanW f.ws (f.ws.length - j) j = scanW f.ws f.ws.length 0 ∧
    s = ⟨(AV.junk :: ((.ref [.v (.string f.key), .v (.int .i64 f.hi), .v (.int .i64 f.ot), .row 3 (f.ws.map encW) kk] 0) :: (jnk 20 ((.row 3 (f.ws.map encW) kk) :: (.v (.int .i64 f.ws.length)) :: (.v (.int .i64 j)) :: (jnk 34 []))))), [], h⟩) f.ws.length ⟨0, by omega, rfl, rfl⟩ ?_
   rintro g _ ⟨j, hj, hs, rfl⟩
   (repeat (first | refine gO rfl ?_ | ((refine gM zM11 fun K1 hK1 => ?_; simp only [go_sem, ↓reduceIte, reduceCtorEq, nA, nB, nC, nD, nE, nF] <;> and_intros <;> (apply hK1; clear hK1 K1)))))
   refine awp_cond (t := _) rfl (fun h1 => ?_) (fun h1 => ?_)
   ·simp only [decide_eq_true_eq] at h1
    have hjl : j < f.ws.length := by omega
    have gx : (f.ws.map encW).getD j [] = encW (wAt f.ws j) := getD_enc encW f.ws j _ hjl
    have ht3 : ∀ w, List.take 3 (encW w) = encW w := fun _ => rfl
    have hl3 : ∀ w, (encW w).length = 3 := fun _ => rfl
    have ho3 := a_outside (wAt f.ws j).1 0 (wAt f.ws j).2.1
    have ho4 := a_outside (wAt f.ws j).2.2 0 1000
    have sb := scan_bad hjl
    have so := scan_ord hjl
    have sn := scan_next hjl
    have hpj : ((j : Int) - 1).toNat = j - 1 := by omega
    have gp : (f.ws.map encW).getD (j - 1) [] = encW (wAt f.ws (j - 1)) := getD_enc encW f.ws (j - 1) _ (by omega)
    generalize hW : wAt f.ws j = w at *
    obtain ⟨a, b, cc⟩ := w
    generalize hP : wAt f.ws (j - 1) = p at *
    obtain ⟨pa, pb, pc⟩ := p
    simp only at ho3 ho4 so sn
    rw [hs] at sb so sn
    have hew : encW (a, b, cc) = [.v (.int .i64 a), .v (.int .i64 b), .v (.int .i64 cc)] := rfl
    have hep : encW (pa, pb, pc) = [.v (.int .i64 pa), .v (.int .i64 pb), .v (.int .i64 pc)] := rfl
    (repeat (first | refine gO rfl ?_ | ((refine gM zM11 fun K1 hK1 => ?_; simp only [go_sem, ↓reduceIte, reduceCtorEq, nA, nB, nC, nD, nE, nF, hml, Int.toNat_natCast, gx, ht3, hl3, hew] <;> and_intros <;> first | (apply hK1; clear hK1 K1) | (intros; (omega)) | skip))))
    refine (ho3 h).mono ?_; rintro _ hz ⟨rfl, hh⟩; apply hK1; clear hK1 K1; rw [hh]; clear hh hz
    by_cases c3 : 0 ≤ a ∧ a ≤ b
    ·have d3 : (decide (a < 0) || decide (b < a)) = false := by simp; omega
     by_cases c4 : b ≤ 1114111
     ·have d4 : ((1114111 : Int) < b) = False := eq_false (by omega)
      (repeat (((refine gM zM11 fun K1 hK1 => ?_; simp only [go_sem, ↓reduceIte, reduceCtorEq, nA, nB, nC, nD, nE, nF, d3, d4, decide_false] <;> and_intros))))
      rotate_left
      ·exact fun h => h.elim
      refine (ho4 h).mono ?_
      rintro _ hz ⟨rfl, hh⟩; refine ⟨rfl, ?_⟩; apply hK1; clear hK1 K1; rw [hh]; clear hh hz
      by_cases c5 : 0 ≤ cc ∧ cc ≤ 1000
      ·have d5 : (decide (cc < 0) || decide (1000 < cc)) = false := by simp; omega
       have hb : wBad (a, b, cc) = false := by unfold wBad; simp; omega
       (repeat (first | refine gO rfl ?_ | ((refine gM zM11 fun K1 hK1 => ?_; simp only [go_sem, ↓reduceIte, reduceCtorEq, nA, nB, nC, nD, nE, nF, d5] <;> and_intros <;> (apply hK1; clear hK1 K1)))))
       refine awp_cond (t := _) rfl (fun h6 => by cases h6) (fun _ => ?_)
       by_cases hj0 : j = 0
       ·have d7 : ((0 : Int) < (j : Int)) = False := eq_false (by omega)
        (repeat (first | refine gO rfl ?_ | ((((with_reducible refine xS ?_); refine uD 12 zM11 zP2E zP2P 59 rfl (by kernel_rfl) ?_)) <;> ((try with_reducible intro K1 hK1); simp only [go_sem, ↓reduceIte, reduceCtorEq, nA, nB, nC, nD, nE, nF, d7, decide_false, hpj, gp, hep] <;> and_intros <;> (apply hK1; clear hK1 K1)))))
        refine awp_cond (t := _) rfl (fun h6 => by cases h6) (fun _ => ?_)
        (repeat (first | refine gO rfl ?_ | ((refine gM zM11 fun K1 hK1 => ?_; simp only [go_sem, ↓reduceIte, reduceCtorEq, nA, nB, nC, nD, nE, nF] <;> and_intros <;> first | (apply hK1; clear hK1 K1) | (intros; (omega))))))
        exact ⟨g - 1, by omega, j + 1, by omega, (sn hb (by omega)).symm, rfl⟩
       ·have d7 : ((0 : Int) < (j : Int)) = True := eq_true (by omega)
        (repeat (first | refine gO rfl ?_ | ((((with_reducible refine xS ?_); refine uD 12 zM11 zP2E zP2P 59 rfl (by kernel_rfl) ?_)) <;> ((try with_reducible intro K1 hK1); simp only [go_sem, ↓reduceIte, reduceCtorEq, nA, nB, nC, nD, nE, nF, d7, decide_true, hpj, gp, hep, hml] <;> and_intros <;> first | (apply hK1; clear hK1 K1) | (intros; (omega))))))
        refine awp_cond (t := _) rfl (fun h6 => ?_) (fun h6 => ?_)
        ·have c6 : a ≤ pb := by simpa using h6
         (repeat (first | refine gO rfl ?_ | ((refine gM zM11 fun K1 hK1 => ?_; simp only [go_sem, ↓reduceIte, reduceCtorEq, nA, nB, nC, nD, nE, nF] <;> and_intros <;> (apply hK1; clear hK1 K1)))))
         simp only [Tryz.results11, go_sem, ↓reduceIte, reduceCtorEq, nA, nB, nC, nD, nE, nF]
         exact ⟨_, _, Weak.refl _, Hp.le.refl _, by rw [so hb ⟨by omega, c6⟩], rfl⟩
        ·have c6 : ¬ a ≤ pb := by simpa using h6
         (repeat (first | refine gO rfl ?_ | ((refine gM zM11 fun K1 hK1 => ?_; simp only [go_sem, ↓reduceIte, reduceCtorEq, nA, nB, nC, nD, nE, nF] <;> and_intros <;> first | (apply hK1; clear hK1 K1) | (intros; (omega))))))
         exact ⟨g - 1, by omega, j + 1, by omega, (sn hb (by omega)).symm, rfl⟩
      ·have d5 : (decide (cc < 0) || decide (1000 < cc)) = true := by simp; omega
       have hb : wBad (a, b, cc) = true := by unfold wBad; simp; omega
       (repeat (first | refine gO rfl ?_ | ((refine gM zM11 fun K1 hK1 => ?_; simp only [go_sem, ↓reduceIte, reduceCtorEq, nA, nB, nC, nD, nE, nF, d5] <;> and_intros <;> (apply hK1; clear hK1 K1)))))
       refine awp_cond (t := _) rfl (fun _ => ?_) (fun h6 => by cases h6)
       (repeat (first | refine gO rfl ?_ | ((refine gM zM11 fun K1 hK1 => ?_; simp only [go_sem, ↓reduceIte, reduceCtorEq, nA, nB, nC, nD, nE, nF] <;> and_intros <;> (apply hK1; clear hK1 K1)))))
       simp only [Tryz.results11, go_sem, ↓reduceIte, reduceCtorEq, nA, nB, nC, nD, nE, nF]
       exact ⟨_, _, Weak.refl _, Hp.le.refl _, by rw [sb hb], rfl⟩
     ·have d4 : ((1114111 : Int) < b) = True := eq_true (by omega)
      have hb : wBad (a, b, cc) = true := by unfold wBad; simp; omega
      (repeat (first | refine gO rfl ?_ | ((refine gM zM11 fun K1 hK1 => ?_; simp only [go_sem, ↓reduceIte, reduceCtorEq, nA, nB, nC, nD, nE, nF, d3, d4, decide_true] <;> and_intros <;> (apply hK1; clear hK1 K1)))))
      refine awp_cond (t := _) rfl (fun _ => ?_) (fun h6 => by cases h6)
      (repeat (first | refine gO rfl ?_ | ((refine gM zM11 fun K1 hK1 => ?_; simp only [go_sem, ↓reduceIte, reduceCtorEq, nA, nB, nC, nD, nE, nF] <;> and_intros <;> (apply hK1; clear hK1 K1)))))
      simp only [Tryz.results11, go_sem, ↓reduceIte, reduceCtorEq, nA, nB, nC, nD, nE, nF]
      exact ⟨_, _, Weak.refl _, Hp.le.refl _, by rw [sb hb], rfl⟩
    ·have d3 : (decide (a < 0) || decide (b < a)) = true := by simp; omega
     have hb : wBad (a, b, cc) = true := by unfold wBad; simp; omega
     (repeat (first | refine gO rfl ?_ | ((refine gM zM11 fun K1 hK1 => ?_; simp only [go_sem, ↓reduceIte, reduceCtorEq, nA, nB, nC, nD, nE, nF, d3] <;> and_intros <;> (apply hK1; clear hK1 K1)))))
     refine awp_cond (t := _) rfl (fun _ => ?_) (fun h6 => by cases h6)
     (repeat (first | refine gO rfl ?_ | ((refine gM zM11 fun K1 hK1 => ?_; simp only [go_sem, ↓reduceIte, reduceCtorEq, nA, nB, nC, nD, nE, nF] <;> and_intros <;> (apply hK1; clear hK1 K1)))))
     simp only [Tryz.results11, go_sem, ↓reduceIte, reduceCtorEq, nA, nB, nC, nD, nE, nF]
     exact ⟨_, _, Weak.refl _, Hp.le.refl _, by rw [sb hb], rfl⟩
   ·simp only [decide_eq_false_iff_not] at h1
    have hjl : j = f.ws.length := by omega
    subst hjl
    rw [Nat.sub_self, scanW] at hs
    (repeat (first | refine gO rfl ?_ | ((refine gM zM11 fun K1 hK1 => ?_; simp only [go_sem, ↓reduceIte, reduceCtorEq, nA, nB, nC, nD, nE, nF] <;> and_intros <;> (apply hK1; clear hK1 K1)))))
    simp only [Tryz.results11, go_sem, ↓reduceIte, reduceCtorEq, nA, nB, nC, nD, nE, nF]
    exact ⟨_, _, Weak.refl _, Hp.le.refl _, by rw [← hs], rfl⟩
  ·have d2 : (decide (f.ot < 0) || decide (1000 < f.ot)) = true := by simp; omega
   rw [if_neg (fun e => c2 e.2)]
   (repeat (first | refine gO rfl ?_ | ((refine gM zM11 fun K1 hK1 => ?_; simp only [go_sem, ↓reduceIte, reduceCtorEq, nA, nB, nC, nD, nE, nF, d2] <;> and_intros <;> (apply hK1; clear hK1 K1)))))
   refine awp_cond (t := _) rfl (fun _ => ?_) (fun h6 => by cases h6)
   (repeat (first | refine gO rfl ?_ | ((refine gM zM11 fun K1 hK1 => ?_; simp only [go_sem, ↓reduceIte, reduceCtorEq, nA, nB, nC, nD, nE, nF] <;> and_intros <;> (apply hK1; clear hK1 K1)))))
   simp only [Tryz.results11, go_sem, ↓reduceIte, reduceCtorEq, nA, nB, nC, nD, nE, nF]
   exact ⟨_, _, Weak.refl _, Hp.le.refl _, rfl, rfl⟩
 ·have d1 : (decide (f.hi < 1) || decide (1000 < f.hi)) = true := by simp; omega
  rw [if_neg (fun e => c1 e.1)]
  (repeat (first | refine gO rfl ?_ | ((refine gM zM11 fun K1 hK1 => ?_; simp only [go_sem, ↓reduceIte, reduceCtorEq, nA, nB, nC, nD, nE, nF, d1] <;> and_intros <;> (apply hK1; clear hK1 K1)))))
  refine awp_cond (t := _) rfl (fun _ => ?_) (fun h6 => by cases h6)
  (repeat (first | refine gO rfl ?_ | ((refine gM zM11 fun K1 hK1 => ?_; simp only [go_sem, ↓reduceIte, reduceCtorEq, nA, nB, nC, nD, nE, nF] <;> and_intros <;> (apply hK1; clear hK1 K1)))))
  simp only [Tryz.results11, go_sem, ↓reduceIte, reduceCtorEq, nA, nB, nC, nD, nE, nF]
  exact ⟨_, _, Weak.refl _, Hp.le.refl _, rfl, rfl⟩
theorem g_checkFont (f : Fo) (kk : Option Nat) (hg : Good f) (hks : f.key.size ≤ 1000) (h : Hp) :
  ACalls Tryz.prog 11 [encFo f kk] h (fun r h' => r = .v (.int .i64 0) ∧ h' = h) := by
 have := g_checkFontX f kk hks (by have := hg.len; omega) h
 rwa [good_fontF hg] at this
theorem g_fontFaultX (f : Fo) (kk : Option Nat) (hks : f.key.size ≤ 1000) (hlw : f.ws.length ≤ 1000) (h : Hp) :
  ACalls Tryz.prog 10 [encFo f kk] h (fun r h' => r = .v (.int .i64 (fontF f)) ∧ h' = h) := by
 have hK := a_key f.key (by omega) h
 have ho1 := g_in f.hi 1 1000 h
 have ho2 := g_in f.ot 0 1000 h
 have hml : (f.ws.map encW).length = f.ws.length := List.length_map _
 have hfl : ∀ x, (encFo f x) = .agg [.v (.string f.key), .v (.int .i64 f.hi), .v (.int .i64 f.ot), .row 3 (f.ws.map encW) x] := fun _ => rfl
 unfold fontF
 refine gE Tryz.func10 rfl (by kernel_rfl) 67 rfl fun c => ?_
 (repeat (first | refine gO rfl ?_ | ((refine gM zM11 fun K1 hK1 => ?_; simp only [go_sem, ↓reduceIte, reduceCtorEq, nA, nB, nC, nD, nE, nF, hfl] <;> and_intros <;> first | (apply hK1; clear hK1 K1) | skip))))
 refine hK.mono ?_; rintro _ hz ⟨rfl, hh⟩; apply hK1; clear hK1 K1; rw [hh]; clear hh hz
 (repeat (first | refine gO rfl ?_ | ((refine gM zM11 fun K1 hK1 => ?_; simp only [go_sem, ↓reduceIte, reduceCtorEq, nA, nB, nC, nD, nE, nF] <;> and_intros <;> (apply hK1; clear hK1 K1)))))
 refine awp_cond (t := _) rfl (fun h1 => ?_) (fun h1 => ?_)
 ·have g1 : ¬ keyB f.key = true := by simpa using h1
  (repeat (first | refine gO rfl ?_ | ((refine gM zM11 fun K1 hK1 => ?_; simp only [go_sem, ↓reduceIte, reduceCtorEq, nA, nB, nC, nD, nE, nF] <;> and_intros <;> (apply hK1; clear hK1 K1)))))
  simp only [Tryz.results10, go_sem, ↓reduceIte, reduceCtorEq, nA, nB, nC, nD, nE, nF]
  exact ⟨_, _, Weak.refl _, Hp.le.refl _, by rw [if_neg g1], rfl⟩
 have g1 : keyB f.key = true := by simpa using h1
 rw [if_pos g1]
 clear h1
 (repeat (((refine gM zM11 fun K1 hK1 => ?_; simp only [go_sem, ↓reduceIte, reduceCtorEq, nA, nB, nC, nD, nE, nF] <;> and_intros))))
 refine ho1.mono ?_; rintro _ hz ⟨rfl, hh⟩; apply hK1; clear hK1 K1; rw [hh]; clear hh hz
 by_cases c1 : 1 ≤ f.hi ∧ f.hi ≤ 1000
 ·have d1 : (decide (1 ≤ f.hi) && decide (f.hi ≤ 1000)) = true := by simp; omega
  (repeat (((refine gM zM11 fun K1 hK1 => ?_; simp only [go_sem, ↓reduceIte, reduceCtorEq, nA, nB, nC, nD, nE, nF, d1, Bool.not_true, Bool.not_false] <;> and_intros))))
  rotate_left
  ·exact fun h => h.elim
  refine ho2.mono ?_
  rintro _ hz ⟨rfl, hh⟩; refine ⟨rfl, ?_⟩; apply hK1; clear hK1 K1; rw [hh]; clear hh hz
  by_cases c2 : 0 ≤ f.ot ∧ f.ot ≤ 1000
  ·have d2 : (decide (0 ≤ f.ot) && decide (f.ot ≤ 1000)) = true := by simp; omega
   rw [if_pos ⟨c1, c2⟩]
   (repeat (first | refine gO rfl ?_ | ((refine gM zM11 fun K1 hK1 => ?_; simp only [go_sem, ↓reduceIte, reduceCtorEq, nA, nB, nC, nD, nE, nF, d2, Bool.not_true, Bool.not_false] <;> and_intros <;> (apply hK1; clear hK1 K1)))))
   refine awp_cond (t := _) rfl (fun h6 => by cases h6) (fun _ => ?_)
   (repeat (first | refine gO rfl ?_ | ((refine gM zM11 fun K1 hK1 => ?_; simp only [go_sem, ↓reduceIte, reduceCtorEq, nA, nB, nC, nD, nE, nF, hml] <;> and_intros <;> (apply hK1; clear hK1 K1)))))
   refine awp_cond (t := _) rfl (fun h1 => ?_) (fun h1 => ?_)
   ·have g4 : 200 < f.ws.length := by simp at h1; omega
    (repeat (first | refine gO rfl ?_ | ((refine gM zM11 fun K1 hK1 => ?_; simp only [go_sem, ↓reduceIte, reduceCtorEq, nA, nB, nC, nD, nE, nF] <;> and_intros <;> (apply hK1; clear hK1 K1)))))
    simp only [Tryz.results10, go_sem, ↓reduceIte, reduceCtorEq, nA, nB, nC, nD, nE, nF]
    exact ⟨_, _, Weak.refl _, Hp.le.refl _, by rw [if_pos g4], rfl⟩
   have g4 : ¬ 200 < f.ws.length := by simp at h1; omega
   rw [if_neg g4]
   clear h1
   (repeat (first | refine gO rfl ?_ | ((refine gM zM11 fun K1 hK1 => ?_; simp only [go_sem, ↓reduceIte, reduceCtorEq, nA, nB, nC, nD, nE, nF, hml] <;> and_intros <;> (apply hK1; clear hK1 K1)))))
   refine awp_loopC (rl false [1, 1, 25, 3, 38]) 0 (fun g s => ∃ j : Nat, g + j = f.ws.length ∧ scanW f.ws (f.ws.length - j) j = scanW f.ws f.ws.length 0 ∧
    s = ⟨(AV.junk :: ((.ref [.v (.string f.key), .v (.int .i64 f.hi), .v (.int .i64 f.ot), .row 3 (f.ws.map encW) kk] 0) :: (jnk 25 ((.row 3 (f.ws.map encW) kk) :: (.v (.int .i64 f.ws.length)) :: (.v (.int .i64 j)) :: (jnk 38 []))))), [], h⟩) f.ws.length ⟨0, by omega, rfl, rfl⟩ ?_
   rintro g _ ⟨j, hj, hs, rfl⟩
   (repeat (first | refine gO rfl ?_ | ((refine gM zM11 fun K1 hK1 => ?_; simp only [go_sem, ↓reduceIte, reduceCtorEq, nA, nB, nC, nD, nE, nF] <;> and_intros <;> (apply hK1; clear hK1 K1)))))
   refine awp_cond (t := _) rfl (fun h1 => ?_) (fun h1 => ?_)
   ·simp only [decide_eq_true_eq] at h1
    have hjl : j < f.ws.length := by omega
    have gx : (f.ws.map encW).getD j [] = encW (wAt f.ws j) := getD_enc encW f.ws j _ hjl
    have ht3 : ∀ w, List.take 3 (encW w) = encW w := fun _ => rfl
    have hl3 : ∀ w, (encW w).length = 3 := fun _ => rfl
    have ho3 := g_in (wAt f.ws j).1 0 (wAt f.ws j).2.1
    have ho4 := g_in (wAt f.ws j).2.2 0 1000
    have sb := scan_bad hjl
    have so := scan_ord hjl
    have sn := scan_next hjl
    have hpj : ((j : Int) - 1).toNat = j - 1 := by omega
    have gp : (f.ws.map encW).getD (j - 1) [] = encW (wAt f.ws (j - 1)) := getD_enc encW f.ws (j - 1) _ (by omega)
    generalize hW : wAt f.ws j = w at *
    obtain ⟨a, b, cc⟩ := w
    generalize hP : wAt f.ws (j - 1) = p at *
    obtain ⟨pa, pb, pc⟩ := p
    simp only at ho3 ho4 so sn
    rw [hs] at sb so sn
    have hew : encW (a, b, cc) = [.v (.int .i64 a), .v (.int .i64 b), .v (.int .i64 cc)] := rfl
    have hep : encW (pa, pb, pc) = [.v (.int .i64 pa), .v (.int .i64 pb), .v (.int .i64 pc)] := rfl
    (repeat (first | refine gO rfl ?_ | ((refine gM zM11 fun K1 hK1 => ?_; simp only [go_sem, ↓reduceIte, reduceCtorEq, nA, nB, nC, nD, nE, nF, hml, Int.toNat_natCast, gx, ht3, hl3, hew] <;> and_intros <;> first | (apply hK1; clear hK1 K1) | (intros; (omega)) | skip))))
    refine (ho3 h).mono ?_; rintro _ hz ⟨rfl, hh⟩; apply hK1; clear hK1 K1; rw [hh]; clear hh hz
    by_cases c3 : 0 ≤ a ∧ a ≤ b
    ·have d3 : (decide (0 ≤ a) && decide (a ≤ b)) = true := by simp; omega
     by_cases c4 : b ≤ 1114111
     ·have d4 : ((1114111 : Int) < b) = False := eq_false (by omega)
      (repeat (((refine gM zM11 fun K1 hK1 => ?_; simp only [go_sem, ↓reduceIte, reduceCtorEq, nA, nB, nC, nD, nE, nF, d3, d4, decide_false, Bool.not_true, Bool.not_false] <;> and_intros))))
      rotate_left
      ·exact fun h => h.elim
      refine (ho4 h).mono ?_
      rintro _ hz ⟨rfl, hh⟩; refine ⟨rfl, ?_⟩; apply hK1; clear hK1 K1; rw [hh]; clear hh hz
      by_cases c5 : 0 ≤ cc ∧ cc ≤ 1000
      ·have d5 : (decide (0 ≤ cc) && decide (cc ≤ 1000)) = true := by simp; omega
       have hb : wBad (a, b, cc) = false := by unfold wBad; simp; omega
       (repeat (first | refine gO rfl ?_ | ((refine gM zM11 fun K1 hK1 => ?_; simp only [go_sem, ↓reduceIte, reduceCtorEq, nA, nB, nC, nD, nE, nF, d5, Bool.not_true, Bool.not_false] <;> and_intros <;> (apply hK1; clear hK1 K1)))))
       refine awp_cond (t := _) rfl (fun h6 => by cases h6) (fun _ => ?_)
       by_cases hj0 : j = 0
       ·have d7 : ((0 : Int) < (j : Int)) = False := eq_false (by omega)
        (repeat (first | refine gO rfl ?_ | ((((with_reducible refine xS ?_); refine uD 12 zM11 zP3E zP3P 68 rfl (by kernel_rfl) ?_)) <;> ((try with_reducible intro K1 hK1); simp only [go_sem, ↓reduceIte, reduceCtorEq, nA, nB, nC, nD, nE, nF, d7, decide_false, hpj, gp, hep] <;> and_intros <;> (apply hK1; clear hK1 K1)))))
        refine awp_cond (t := _) rfl (fun h6 => by cases h6) (fun _ => ?_)
        (repeat (first | refine gO rfl ?_ | ((refine gM zM11 fun K1 hK1 => ?_; simp only [go_sem, ↓reduceIte, reduceCtorEq, nA, nB, nC, nD, nE, nF] <;> and_intros <;> first | (apply hK1; clear hK1 K1) | (intros; (omega))))))
        exact ⟨g - 1, by omega, j + 1, by omega, (sn hb (by omega)).symm, rfl⟩
       ·have d7 : ((0 : Int) < (j : Int)) = True := eq_true (by omega)
        (repeat (first | refine gO rfl ?_ | ((((with_reducible refine xS ?_); refine uD 12 zM11 zP3E zP3P 68 rfl (by kernel_rfl) ?_)) <;> ((try with_reducible intro K1 hK1); simp only [go_sem, ↓reduceIte, reduceCtorEq, nA, nB, nC, nD, nE, nF, d7, decide_true, hpj, gp, hep, hml] <;> and_intros <;> first | (apply hK1; clear hK1 K1) | (intros; (omega))))))
        refine awp_cond (t := _) rfl (fun h6 => ?_) (fun h6 => ?_)
        ·have c6 : a ≤ pb := by simpa using h6
         (repeat (first | refine gO rfl ?_ | ((refine gM zM11 fun K1 hK1 => ?_; simp only [go_sem, ↓reduceIte, reduceCtorEq, nA, nB, nC, nD, nE, nF] <;> and_intros <;> (apply hK1; clear hK1 K1)))))
         simp only [Tryz.results10, go_sem, ↓reduceIte, reduceCtorEq, nA, nB, nC, nD, nE, nF]
         exact ⟨_, _, Weak.refl _, Hp.le.refl _, by rw [so hb ⟨by omega, c6⟩], rfl⟩
        ·have c6 : ¬ a ≤ pb := by simpa using h6
         (repeat (first | refine gO rfl ?_ | ((refine gM zM11 fun K1 hK1 => ?_; simp only [go_sem, ↓reduceIte, reduceCtorEq, nA, nB, nC, nD, nE, nF] <;> and_intros <;> first | (apply hK1; clear hK1 K1) | (intros; (omega))))))
         exact ⟨g - 1, by omega, j + 1, by omega, (sn hb (by omega)).symm, rfl⟩
      ·have d5 : (decide (0 ≤ cc) && decide (cc ≤ 1000)) = false := by simp; omega
       have hb : wBad (a, b, cc) = true := by unfold wBad; simp; omega
       (repeat (first | refine gO rfl ?_ | ((refine gM zM11 fun K1 hK1 => ?_; simp only [go_sem, ↓reduceIte, reduceCtorEq, nA, nB, nC, nD, nE, nF, d5, Bool.not_true, Bool.not_false] <;> and_intros <;> (apply hK1; clear hK1 K1)))))
       refine awp_cond (t := _) rfl (fun _ => ?_) (fun h6 => by cases h6)
       (repeat (first | refine gO rfl ?_ | ((refine gM zM11 fun K1 hK1 => ?_; simp only [go_sem, ↓reduceIte, reduceCtorEq, nA, nB, nC, nD, nE, nF] <;> and_intros <;> (apply hK1; clear hK1 K1)))))
       simp only [Tryz.results10, go_sem, ↓reduceIte, reduceCtorEq, nA, nB, nC, nD, nE, nF]
       exact ⟨_, _, Weak.refl _, Hp.le.refl _, by rw [sb hb], rfl⟩
     ·have d4 : ((1114111 : Int) < b) = True := eq_true (by omega)
      have hb : wBad (a, b, cc) = true := by unfold wBad; simp; omega
      (repeat (first | refine gO rfl ?_ | ((refine gM zM11 fun K1 hK1 => ?_; simp only [go_sem, ↓reduceIte, reduceCtorEq, nA, nB, nC, nD, nE, nF, d3, d4, decide_true, Bool.not_true, Bool.not_false] <;> and_intros <;> (apply hK1; clear hK1 K1)))))
      refine awp_cond (t := _) rfl (fun _ => ?_) (fun h6 => by cases h6)
      (repeat (first | refine gO rfl ?_ | ((refine gM zM11 fun K1 hK1 => ?_; simp only [go_sem, ↓reduceIte, reduceCtorEq, nA, nB, nC, nD, nE, nF] <;> and_intros <;> (apply hK1; clear hK1 K1)))))
      simp only [Tryz.results10, go_sem, ↓reduceIte, reduceCtorEq, nA, nB, nC, nD, nE, nF]
      exact ⟨_, _, Weak.refl _, Hp.le.refl _, by rw [sb hb], rfl⟩
    ·have d3 : (decide (0 ≤ a) && decide (a ≤ b)) = false := by simp; omega
     have hb : wBad (a, b, cc) = true := by unfold wBad; simp; omega
     (repeat (first | refine gO rfl ?_ | ((refine gM zM11 fun K1 hK1 => ?_; simp only [go_sem, ↓reduceIte, reduceCtorEq, nA, nB, nC, nD, nE, nF, d3, Bool.not_true, Bool.not_false] <;> and_intros <;> (apply hK1; clear hK1 K1)))))
     refine awp_cond (t := _) rfl (fun _ => ?_) (fun h6 => by cases h6)
     (repeat (first | refine gO rfl ?_ | ((refine gM zM11 fun K1 hK1 => ?_; simp only [go_sem, ↓reduceIte, reduceCtorEq, nA, nB, nC, nD, nE, nF] <;> and_intros <;> (apply hK1; clear hK1 K1)))))
     simp only [Tryz.results10, go_sem, ↓reduceIte, reduceCtorEq, nA, nB, nC, nD, nE, nF]
     exact ⟨_, _, Weak.refl _, Hp.le.refl _, by rw [sb hb], rfl⟩
   ·simp only [decide_eq_false_iff_not] at h1
    have hjl : j = f.ws.length := by omega
    subst hjl
    rw [Nat.sub_self, scanW] at hs
    (repeat (first | refine gO rfl ?_ | ((refine gM zM11 fun K1 hK1 => ?_; simp only [go_sem, ↓reduceIte, reduceCtorEq, nA, nB, nC, nD, nE, nF] <;> and_intros <;> (apply hK1; clear hK1 K1)))))
    simp only [Tryz.results10, go_sem, ↓reduceIte, reduceCtorEq, nA, nB, nC, nD, nE, nF]
    exact ⟨_, _, Weak.refl _, Hp.le.refl _, by rw [← hs], rfl⟩
  ·have d2 : (decide (0 ≤ f.ot) && decide (f.ot ≤ 1000)) = false := by simp; omega
   rw [if_neg (fun e => c2 e.2)]
   (repeat (first | refine gO rfl ?_ | ((refine gM zM11 fun K1 hK1 => ?_; simp only [go_sem, ↓reduceIte, reduceCtorEq, nA, nB, nC, nD, nE, nF, d2, Bool.not_true, Bool.not_false] <;> and_intros <;> (apply hK1; clear hK1 K1)))))
   refine awp_cond (t := _) rfl (fun _ => ?_) (fun h6 => by cases h6)
   (repeat (first | refine gO rfl ?_ | ((refine gM zM11 fun K1 hK1 => ?_; simp only [go_sem, ↓reduceIte, reduceCtorEq, nA, nB, nC, nD, nE, nF] <;> and_intros <;> (apply hK1; clear hK1 K1)))))
   simp only [Tryz.results10, go_sem, ↓reduceIte, reduceCtorEq, nA, nB, nC, nD, nE, nF]
   exact ⟨_, _, Weak.refl _, Hp.le.refl _, rfl, rfl⟩
 ·have d1 : (decide (1 ≤ f.hi) && decide (f.hi ≤ 1000)) = false := by simp; omega
  rw [if_neg (fun e => c1 e.1)]
  (repeat (first | refine gO rfl ?_ | ((refine gM zM11 fun K1 hK1 => ?_; simp only [go_sem, ↓reduceIte, reduceCtorEq, nA, nB, nC, nD, nE, nF, d1, Bool.not_true, Bool.not_false] <;> and_intros <;> (apply hK1; clear hK1 K1)))))
  refine awp_cond (t := _) rfl (fun _ => ?_) (fun h6 => by cases h6)
  (repeat (first | refine gO rfl ?_ | ((refine gM zM11 fun K1 hK1 => ?_; simp only [go_sem, ↓reduceIte, reduceCtorEq, nA, nB, nC, nD, nE, nF] <;> and_intros <;> (apply hK1; clear hK1 K1)))))
  simp only [Tryz.results10, go_sem, ↓reduceIte, reduceCtorEq, nA, nB, nC, nD, nE, nF]
  exact ⟨_, _, Weak.refl _, Hp.le.refl _, rfl, rfl⟩
theorem g_isWide (w : Int) (hw : 1 ≤ w ∧ w ≤ 100000) (h : Hp) : ACalls Tryz.prog 50 [.v (.int .i64 w)] h (fun r h' => r = .v (.bool true) ∧ h' = h) := by
 have ho := a_outside w 1 100000 h
 have d1 : (decide (w < 1) || decide (100000 < w)) = false := by simp; omega
 rw [d1] at ho
 refine gE Tryz.func50 rfl (by kernel_rfl) 5 rfl fun c => ?_
 (repeat (first | refine gO rfl ?_ | (refine gR fun K1 hK1 => ?_; simp only [go_sem, ↓reduceIte, reduceCtorEq, nA, nB, nC, nD, nE, nF] <;> and_intros <;> first | (apply hK1; clear hK1 K1) | (intros; first | omega | decide) | skip)))
 refine ho.mono ?_; rintro _ hz ⟨rfl, hh⟩; apply hK1; clear hK1 K1; rw [hh]; clear hh hz
 (repeat (first | refine gO rfl ?_ | (refine gR fun K1 hK1 => ?_; simp only [go_sem, ↓reduceIte, reduceCtorEq, nA, nB, nC, nD, nE, nF] <;> and_intros <;> first | (apply hK1; clear hK1 K1) | (intros; first | omega | decide) | skip)))
 simp only [Tryz.results50, go_sem, ↓reduceIte, reduceCtorEq, nA, nB, nC, nD, nE, nF]
 exact ⟨_, _, Weak.refl _, Hp.le.refl _, rfl, rfl⟩
theorem g_short (f : Fo) (kk : Option Nat) (ts : List Tok) (wide : Int) (hts : ∀ t ∈ ts, t ∈ toks) (hn : ts.length ≤ 10000) (hw : 1 ≤ wide ∧ wide ≤ 100000) (hg : Good f) (hks : f.key.size ≤ 1000) (k0 : Nat) (h : Hp) (hT : h.T k0 = some (.glb tabU)) :
  ACalls Tryz.prog 24 [encFo f kk, .v (.string (bsOf ts.flatten)), .v (.int .i64 wide)] h (fun r h' => r = .tup [.v (.string (bsOf (shortT f wide ts).flatten)), .v (.int .i64 0)] ∧ Gr h h') := by
 have hcf := g_checkFont f kk hg hks h
 have hiw := g_isWide wide hw h
 have hwa := g_shorten f kk ts wide hts hn hw hg.ws hg.fob (by have := hg.len; omega) k0 h hT
 have hfl : ∀ x, (encFo f x) = .agg [.v (.string f.key), .v (.int .i64 f.hi), .v (.int .i64 f.ot), .row 3 (f.ws.map encW) x] := fun _ => rfl
 have hsz : (bsOf ts.flatten).size = ts.flatten.length := size_bs _
 have hle := flat_le2 ts hts
 have d1 : ((20000 : Int) < (ts.flatten.length : Int)) = False := eq_false (by omega)
 refine gE Tryz.func24 rfl (by kernel_rfl) 21 rfl fun c => ?_
 (repeat (first | refine gO rfl ?_ | (refine gR fun K1 hK1 => ?_; simp only [go_sem, ↓reduceIte, reduceCtorEq, nA, nB, nC, nD, nE, nF, hfl] <;> and_intros <;> first | (apply hK1; clear hK1 K1) | (intros; first | omega | decide) | skip)))
 refine hcf.mono ?_; rintro _ hz ⟨rfl, hh⟩; apply hK1; clear hK1 K1; rw [hh]; clear hh hz
 (repeat (first | refine gO rfl ?_ | (refine gR fun K1 hK1 => ?_; simp only [go_sem, ↓reduceIte, reduceCtorEq, nA, nB, nC, nD, nE, nF] <;> and_intros <;> first | (apply hK1; clear hK1 K1) | (intros; first | omega | decide) | skip)))
 refine awp_cond (t := _) rfl (fun h6 => by cases h6) (fun _ => ?_)
 (repeat (first | refine gO rfl ?_ | (refine gR fun K1 hK1 => ?_; simp only [go_sem, ↓reduceIte, reduceCtorEq, nA, nB, nC, nD, nE, nF] <;> and_intros <;> first | (apply hK1; clear hK1 K1) | (intros; first | omega | decide) | skip)))
 refine hiw.mono ?_; rintro _ hz ⟨rfl, hh⟩; apply hK1; clear hK1 K1; rw [hh]; clear hh hz
 (repeat (first | refine gO rfl ?_ | (refine gR fun K1 hK1 => ?_; simp only [go_sem, ↓reduceIte, reduceCtorEq, nA, nB, nC, nD, nE, nF] <;> and_intros <;> first | (apply hK1; clear hK1 K1) | (intros; first | omega | decide) | skip)))
 refine awp_cond (t := _) rfl (fun h6 => by cases h6) (fun _ => ?_)
 (repeat (first | refine gO rfl ?_ | (refine gR fun K1 hK1 => ?_; simp only [go_sem, ↓reduceIte, reduceCtorEq, nA, nB, nC, nD, nE, nF, hsz, d1, decide_false] <;> and_intros <;> first | (apply hK1; clear hK1 K1) | (intros; first | omega | decide) | skip)))
 refine awp_cond (t := _) rfl (fun h6 => by cases h6) (fun _ => ?_)
 (repeat (first | refine gO rfl ?_ | (refine gR fun K1 hK1 => ?_; simp only [go_sem, ↓reduceIte, reduceCtorEq, nA, nB, nC, nD, nE, nF] <;> and_intros <;> first | (apply hK1; clear hK1 K1) | (intros; first | omega | decide) | skip)))
 refine hwa.mono ?_
 rintro _ h2 ⟨rfl, hgr⟩; apply hK1; clear hK1 K1
 (repeat (first | refine gO rfl ?_ | (refine gR fun K1 hK1 => ?_; simp only [go_sem, ↓reduceIte, reduceCtorEq, nA, nB, nC, nD, nE, nF] <;> and_intros <;> first | (apply hK1; clear hK1 K1) | (intros; first | omega | decide) | skip)))
 simp only [Tryz.results24, go_sem, ↓reduceIte, reduceCtorEq, nA, nB, nC, nD, nE, nF]
 exact ⟨_, _, Weak.refl _, Hp.le.refl _, rfl, hgr⟩
def encWd (f : Fo) (w : List Tok) : List AV := [.v (.string (bsOf w.flatten)), .v (.int .i64 (sumW f w))]
theorem bs_empty {w : List Tok} (hw : ∀ t ∈ w, t ∈ toks) : (bsOf w.flatten == (⟨#[]⟩ : ByteArray)) = decide (w = []) := by
 rw [ba_beq]
 congr 1
 rw [eq_iff_iff]
 constructor
 ·intro e
  cases w with
  | nil => rfl
  | cons t w =>
   exfalso
   have h1 := toks_pos t (hw t (by simp))
   have h2 := congrArg ByteArray.size e
   rw [size_bs, List.flatten_cons, List.length_append] at h2
   have : (⟨#[]⟩ : ByteArray).size = 0 := rfl
   omega
 ·rintro rfl; rfl
theorem upd_self {α : Type} (f : Nat → Option α) {q : Nat} {x : Option α} (h : f q = x) : upd f q x = f := by
 funext j
 by_cases e : j = q
 ·rw [e, upd_same, h]
 ·rw [upd_other _ _ e]
theorem g_cut (f : Fo) (kk : Option Nat) (out : List (List Tok)) (l : List Tok) (wide : Int) (hts : ∀ t ∈ l, t ∈ toks) (hn : l.length ≤ 10000) (ho : out.length ≤ 100000) (hw : 1 ≤ wide ∧ wide ≤ 100000) (hg : Good f) (k0 q : Nat) (h : Hp) (hT : h.T k0 = some (.glb tabU)) (hq : h.T q = some (.tail out.length)) :
  ACalls Tryz.prog 109 [.row 2 (out.map (encWd f)) (some q), encFo f kk, .v (.string (bsOf l.flatten)), .v (.int .i64 wide)] h
   (fun r h' => r = .row 2 ((out ++ cutT f wide l []).map (encWd f)) (some q) ∧ h'.H = h.H ∧ h'.T q = some (.tail (out ++ cutT f wide l []).length) ∧ ∀ k x, k ≠ q → h.T k = some x → h'.T k = some x) := by
 have hfl : ∀ x, (encFo f x) = .agg [.v (.string f.key), .v (.int .i64 f.hi), .v (.int .i64 f.ot), .row 3 (f.ws.map encW) x] := fun _ => rfl
 have hsg := g_signsP l hts hn k0 h hT
 have hml : (l.map fun t => encS (bsOf t)).length = l.length := List.length_map _
 have hew : ∀ w, encWd f w = [.v (.string (bsOf w.flatten)), .v (.int .i64 (sumW f w))] := fun _ => rfl
 have hkq : k0 ≠ q := by rintro rfl; rw [hT] at hq; cases hq
 refine gE Tryz.func109 rfl (by kernel_rfl) 51 rfl fun c => ?_
 (repeat (first | refine gO rfl ?_ | (refine gM zM12 fun K1 hK1 => ?_; simp only [go_sem, ↓reduceIte, reduceCtorEq, nA, nB, nC, nD, nE, nF, hfl] <;> and_intros <;> first | (apply hK1; clear hK1 K1) | (intros; first | omega | decide) | skip)))
 refine hsg.mono ?_
 rintro _ hz ⟨k, hk, rfl, hh⟩; apply hK1; clear hK1 K1; rw [hh]; clear hh hz
 have hgr := Gr.put hk (some (.tail l.length))
 have hkq2 : q ≠ k := by rintro rfl; rw [hk] at hq; cases hq
 have hq1 : upd h.T k (some (.tail l.length)) q = some (.tail out.length) := (upd_other _ _ hkq2).trans hq
 obtain ⟨h1, eh1⟩ : ∃ h1 : Hp, (⟨h.H, upd h.T k (some (.tail l.length))⟩ : Hp) = h1 := ⟨_, rfl⟩
 rw [eh1] at hgr ⊢
 have hT1 := hgr.2 _ _ hT
 have hq2 : h1.T q = some (.tail out.length) := by rw [← eh1]; exact hq1
 have eh2 : h1 = ⟨h1.H, upd h1.T q (some (.tail (out ++ []).length))⟩ := by rw [List.append_nil, upd_self _ hq2]
 (repeat (first | refine gO rfl ?_ | (refine gM zM12 fun K1 hK1 => ?_; simp only [go_sem, ↓reduceIte, reduceCtorEq, nA, nB, nC, nD, nE, nF, hml] <;> and_intros <;> first | (apply hK1; clear hK1 K1) | (intros; first | omega | decide) | skip)))
 refine awp_loopC (rl false [0, 1, 2, 1, 1, 1, 3, 1, 5, 3, 37]) 1 (fun g s => ∃ (j : Nat) (D : List (List Tok)) (cur : List Tok), g + j = l.length ∧ D ++ cutT f wide (l.drop j) cur = cutT f wide l [] ∧ (∀ t ∈ cur, t ∈ toks) ∧ cur.length ≤ j ∧ D.length ≤ j ∧
  s = ⟨((.row 2 ((out ++ D).map (encWd f)) (some q)) :: AV.junk :: AV.junk :: ((.v (.int .i64 wide)) :: AV.junk :: ((.ref [.v (.string f.key), .v (.int .i64 f.hi), .v (.int .i64 f.ot), .row 3 (f.ws.map encW) kk] 0) :: (jnk 3 ((.loc 0 0) :: (jnk 5 ((.row 1 (l.map fun t => encS (bsOf t)) (some k)) :: (.v (.int .i64 l.length)) :: (.v (.int .i64 j)) :: (jnk 37 [])))))))), [encWd f cur], ⟨h1.H, upd h1.T q (some (.tail (out ++ D).length))⟩⟩) l.length ⟨0, [], [], by omega, rfl, by simp, by simp, by simp, ?_⟩ ?_
 ·rw [← eh2, List.append_nil]; rfl
 rintro g _ ⟨j, D, cur, hj, hD, hcur, hcl, hDl, rfl⟩
 (repeat (first | refine gO rfl ?_ | (refine gM zM12 fun K1 hK1 => ?_; simp only [go_sem, ↓reduceIte, reduceCtorEq, nA, nB, nC, nD, nE, nF] <;> and_intros <;> first | (apply hK1; clear hK1 K1) | (intros; first | omega | decide) | skip)))
 refine awp_cond (t := _) rfl (fun h5 => ?_) (fun h5 => ?_)
 ·simp only [decide_eq_true_eq] at h5
  have hjl : j < l.length := by omega
  have gx := row_tok l j hjl
  have htj : l[j] ∈ toks := hts _ (List.getElem_mem _)
  have hTj : (upd h1.T q (some (TO.tail (out ++ D).length))) k0 = some (.glb tabU) := (upd_other _ _ hkq).trans hT1
  have hwo := g_wideOf f kk l[j] htj hg.ws (by have := hg.len; omega) k0 ⟨h1.H, upd h1.T q (some (.tail (out ++ D).length))⟩ hTj
  have hls : ∀ b, (encS b).length = 1 := fun _ => rfl
  have hgs : ∀ b d, (encS b).getD 0 d = .v (.string b) := fun _ _ => rfl
  have hb1 := hg.fob.sum cur
  have hb2 := hg.fob.widS l[j]
  have hsw : sumW f (cur ++ [l[j]]) = sumW f cur + widS f l[j] := by rw [sumW_append, sumW_cons, sumW_nil]; omega
  have hcf : (cur ++ [l[j]]).flatten = cur.flatten ++ l[j] := by simp
  have hfc := flat_le2 cur hcur
  have htp := toks_pos _ htj
  have hs1 : (bsOf cur.flatten).size = cur.flatten.length := size_bs _
  have hs2 : (bsOf l[j]).size = l[j].length := size_bs _
  have hcat : bsOf cur.flatten ++ bsOf l[j] = bsOf (cur ++ [l[j]]).flatten := by rw [hcf, bsOf_append]
  have hcat0 : (⟨#[]⟩ : ByteArray) ++ bsOf l[j] = bsOf [l[j]].flatten := by
   show bsOf [] ++ bsOf l[j] = _
   rw [bsOf_append]; simp
  have hz0 : (⟨#[]⟩ : ByteArray).size = 0 := rfl
  have hsw0 : 0 + widS f l[j] = sumW f [l[j]] := by rw [sumW_cons, sumW_nil]; omega
  have hbe := bs_empty hcur
  have hcx : ∀ t ∈ cur ++ [l[j]], t ∈ toks := fun t ht => (List.mem_append.1 ht).elim (hcur t) (fun h => by rw [List.mem_singleton.1 h]; exact htj)
  have hlo : (out ++ D).length = out.length + D.length := List.length_append
  have hlt : ∀ a b, List.take 2 [AV.v (.string a), AV.v (.int .i64 b)] = [AV.v (.string a), AV.v (.int .i64 b)] := fun _ _ => rfl
  rw [List.drop_eq_getElem_cons hjl, cutT] at hD
  rw [hfl] at hwo
  rw [hew]
  generalize hX : l[j] = x at *
  (repeat (first | refine gO rfl ?_ | (refine gM zM12 fun K1 hK1 => ?_; simp only [go_sem, ↓reduceIte, reduceCtorEq, nA, nB, nC, nD, nE, nF, hml, Int.toNat_natCast, gx, hls, hgs] <;> and_intros <;> first | (apply hK1; clear hK1 K1) | (intros; first | omega | decide) | skip)))
  refine hwo.mono ?_; rintro _ hz ⟨rfl, hh⟩; apply hK1; clear hK1 K1; rw [hh]; clear hh hz
  by_cases c1 : cur = []
  ·have hce : (bsOf cur.flatten == (⟨#[]⟩ : ByteArray)) = true := by rw [hbe, c1]; rfl
   (repeat (first | refine gO rfl ?_ | (refine gM zM12 fun K1 hK1 => ?_; simp only [go_sem, ↓reduceIte, reduceCtorEq, nA, nB, nC, nD, nE, nF, hce, Bool.not_true] <;> and_intros <;> first | (apply hK1; clear hK1 K1) | (intros; first | omega | decide) | skip)))
   refine awp_cond (t := _) rfl (fun h6 => by cases h6) (fun _ => ?_)
   (repeat (first | refine gO rfl ?_ | (refine gM zM12 fun K1 hK1 => ?_; simp only [go_sem, ↓reduceIte, reduceCtorEq, nA, nB, nC, nD, nE, nF, hs1, hs2, hcat] <;> and_intros <;> first | (apply hK1; clear hK1 K1) | (intros; first | omega | decide) | skip)))
   refine ⟨g - 1, by omega, j + 1, D, cur ++ [x], by omega, ?_, hcx, by rw [List.length_append]; simp only [List.length_cons, List.length_nil]; omega, by omega, ?_⟩
   ·rw [if_neg (fun h => h.1 c1)] at hD; exact hD
   ·rw [hew (cur ++ [x]), hsw]; rfl
  ·have hce : (bsOf cur.flatten == (⟨#[]⟩ : ByteArray)) = false := by rw [hbe]; simp [c1]
   (repeat (first | refine gO rfl ?_ | (refine gM zM12 fun K1 hK1 => ?_; simp only [go_sem, ↓reduceIte, reduceCtorEq, nA, nB, nC, nD, nE, nF, hce, Bool.not_false] <;> and_intros <;> first | (apply hK1; clear hK1 K1) | (intros; first | omega | decide) | skip)))
   refine awp_cond (t := _) rfl (fun h6 => ?_) (fun h6 => ?_)
   ·simp only [decide_eq_true_eq] at h6
    (repeat (first | refine gO rfl ?_ | (refine gM zM12 fun K1 hK1 => ?_; simp only [go_sem, ↓reduceIte, reduceCtorEq, nA, nB, nC, nD, nE, nF, hlt, hlo, List.length_cons, List.length_nil, upd_same, upd_upd, List.length_map, hz0, hs2, hcat0, hsw0] <;> and_intros <;> first | (apply hK1; clear hK1 K1) | (intros; first | omega | decide) | skip)))
    refine ⟨g - 1, by omega, j + 1, D ++ [cur], [x], by omega, ?_, (fun t ht => by rw [List.mem_singleton.1 ht]; exact htj), by simp only [List.length_cons, List.length_nil]; omega, by rw [List.length_append]; simp only [List.length_cons, List.length_nil]; omega, ?_⟩
    ·rw [if_pos ⟨c1, h6⟩] at hD
     rw [List.append_assoc]; exact hD
    ·have hmap : (out ++ (D ++ [cur])).map (encWd f) = (out ++ D).map (encWd f) ++ [[.v (.string (bsOf cur.flatten)), .v (.int .i64 (sumW f cur))]] := by rw [← List.append_assoc, List.map_append]; rfl
     have hlen : (out ++ (D ++ [cur])).length = out.length + D.length + (0 + 1) := by simp only [List.length_append, List.length_cons, List.length_nil]; omega
     rw [hew [x], hmap, hlen]
     rfl
   ·simp only [decide_eq_false_iff_not] at h6
    (repeat (first | refine gO rfl ?_ | (refine gM zM12 fun K1 hK1 => ?_; simp only [go_sem, ↓reduceIte, reduceCtorEq, nA, nB, nC, nD, nE, nF, hs1, hs2, hcat] <;> and_intros <;> first | (apply hK1; clear hK1 K1) | (intros; first | omega | decide) | skip)))
    refine ⟨g - 1, by omega, j + 1, D, cur ++ [x], by omega, ?_, hcx, by rw [List.length_append]; simp only [List.length_cons, List.length_nil]; omega, by omega, ?_⟩
    ·rw [if_neg (fun h => h6 h.2)] at hD; exact hD
    ·rw [hew (cur ++ [x]), hsw]; rfl
 ·simp only [decide_eq_false_iff_not] at h5
  have hjl : j = l.length := by omega
  subst hjl
  rw [List.drop_length, cutT] at hD
  have hlo : (out ++ D).length = out.length + D.length := List.length_append
  have hlt : ∀ a b, List.take 2 [AV.v (.string a), AV.v (.int .i64 b)] = [AV.v (.string a), AV.v (.int .i64 b)] := fun _ _ => rfl
  rw [hew]
  (repeat (first | refine gO rfl ?_ | (refine gM zM12 fun K1 hK1 => ?_; simp only [go_sem, ↓reduceIte, reduceCtorEq, nA, nB, nC, nD, nE, nF, hlt, hlo, List.length_cons, List.length_nil, upd_same, upd_upd, List.length_map] <;> and_intros <;> first | (apply hK1; clear hK1 K1) | (intros; first | omega | decide) | skip)))
  simp only [Tryz.results109, go_sem, ↓reduceIte, reduceCtorEq, nA, nB, nC, nD, nE, nF]
  have hmap : (out ++ cutT f wide l []).map (encWd f) = (out ++ D).map (encWd f) ++ [[.v (.string (bsOf cur.flatten)), .v (.int .i64 (sumW f cur))]] := by rw [← hD, ← List.append_assoc, List.map_append]; rfl
  have hlen : (out ++ cutT f wide l []).length = out.length + D.length + (0 + 1) := by rw [← hD]; simp only [List.length_append, List.length_cons, List.length_nil]; omega
  refine ⟨_, _, Weak.refl _, Hp.le.refl _, ?_, hgr.1, ?_, fun k' x' hk' e => ?_⟩
  ·rw [hmap]
  ·show upd _ q _ q = _
   rw [upd_same, hlen]
  ·show upd _ q _ k' = _
   rw [upd_other _ _ hk']
   exact hgr.2 _ _ e
inductive AT where
 | mk (i c : Nat) (kids : List AT)
instance : Inhabited AT := ⟨.mk 0 0 []⟩
inductive PS where
 | mk (had : Int) (of : List Int) (kids : List PS)
instance : Inhabited PS := ⟨.mk 0 [] []⟩
def AT.id : AT → Nat
 | .mk i _ _ => i
def idsT : AT → List Nat
 | .mk i _ ks => i :: (ks.map idsT).flatten
def toksT : AT → List Nat
 | .mk _ c ks => c :: (ks.map toksT).flatten
theorem idsT_eq (i c : Nat) (ks : List AT) : idsT (.mk i c ks) = i :: (ks.map idsT).flatten := by rw [idsT]
theorem toksT_eq (i c : Nat) (ks : List AT) : toksT (.mk i c ks) = c :: (ks.map toksT).flatten := by rw [toksT]
theorem idsT_kid {i c : Nat} {ks : List AT} {j : Nat} (h : j < ks.length) {x : Nat} (hx : x ∈ idsT (ks.getD j default)) : x ∈ idsT (.mk i c ks) := by
 rw [idsT_eq]
 refine List.mem_cons_of_mem _ (List.mem_flatten.2 ⟨_, List.mem_map.2 ⟨_, ?_, rfl⟩, hx⟩)
 rw [List.getD_eq_getElem?_getD, List.getElem?_eq_getElem h]; exact List.getElem_mem _
theorem toksT_kid {i c : Nat} {ks : List AT} {j : Nat} (h : j < ks.length) {x : Nat} (hx : x ∈ toksT (ks.getD j default)) : x ∈ toksT (.mk i c ks) := by
 rw [toksT_eq]
 refine List.mem_cons_of_mem _ (List.mem_flatten.2 ⟨_, List.mem_map.2 ⟨_, ?_, rfl⟩, hx⟩)
 rw [List.getD_eq_getElem?_getD, List.getElem?_eq_getElem h]; exact List.getElem_mem _
structure RK where
 ex : LT → List AV
 cf : Int → List Int → List Int
def kidsC (az : List AT) (K : AV) : Prop := az = [] ∧ K = .v (.slice none 0 0) ∨ ∃ tk, K = .row 1 (az.map fun a => [.ptr a.id 0]) tk
def RAt (X : RK) (h : Hp) : Nat → LT → AT → PS → Prop
 | 0, _, _, _ => False
 | d + 1, .mk kind item long many kids shares, .mk i c az, .mk p cs ks =>
  (∃ K, h.H i = some (.cells ([.v (.int .i64 kind), .v (.string item), .v (.int .i64 long), .v (.int .i64 many), .row 6 (kids.map encL) none, .row 1 (shares.map encI) none, K, .v (.int .i64 p), .arr 1 c kids.length] ++ X.ex (.mk kind item long many kids shares))) ∧ kidsC az K) ∧
  h.T c = some (.cont 1 ((X.cf kind cs).map encI)) ∧ ((X.cf kind cs).length = kids.length ∧ cs.length = kids.length ∧ az.length = kids.length ∧ ks.length = kids.length) ∧
  ∀ j, j < kids.length → RAt X h d (kids.getD j default) (az.getD j default) (ks.getD j default)
theorem RAt.frame {X : RK} {h h' : Hp} : ∀ {d : Nat} {t : LT} {a : AT} {s : PS}, RAt X h d t a s → (∀ i ∈ idsT a, h'.H i = h.H i) → (∀ c ∈ toksT a, h'.T c = h.T c) → RAt X h' d t a s
 | 0, _, _, _, h, _, _ => h.elim
 | d + 1, .mk kind item long many kids shares, .mk i c az, .mk p cs ks, ⟨⟨K, h1, hK⟩, h2, h3, h4⟩, hi, hc =>
  ⟨⟨K, by rw [hi i (by rw [idsT_eq]; simp)]; exact h1, hK⟩, by rw [hc c (by rw [toksT_eq]; simp)]; exact h2, h3, fun j hj =>
   (h4 j hj).frame (fun x hx => hi x (idsT_kid (by omega) hx)) (fun x hx => hc x (toksT_kid (by omega) hx))⟩
def PSB : Nat → LT → PS → Int → Prop
 | 0, _, _, _ => True
 | d + 1, .mk _ _ _ _ kids _, .mk p cs ks, n => (0 ≤ p ∧ p ≤ n) ∧ (∀ x ∈ cs, 0 ≤ x ∧ x ≤ n) ∧ ∀ j, j < kids.length → PSB d (kids.getD j default) (ks.getD j default) n
theorem PSB.mono {n m : Int} (hnm : n ≤ m) : ∀ {d : Nat} {t : LT} {s : PS}, PSB d t s n → PSB d t s m
 | 0, _, _, _ => trivial
 | d + 1, .mk .., .mk p cs ks, ⟨h1, h2, h3⟩ => ⟨by omega, fun x hx => by have := h2 x hx; omega, fun j hj => (h3 j hj).mono hnm⟩
section
variable {P : Program} {c : Cx} {Q : Exit → St → Prop} {s : St}
end
open Go
set_option linter.unusedVariables false
set_option linter.unusedSimpArgs false
open Nat renaming reduceAdd → nA, reduceSub → nB, reduceMul → nC, reduceLT → nD, reduceLeDiff → nE, reduceEqDiff → nF, reduceMod → nG, reduceDiv → nH, reducePow → nI
abbrev zP4E : List Nat := [0, 1, 2, 3, 4, 5, 6, 7, 8, 9, 10, 11]
abbrev zP4P : List (Nat × List Nat × List Nat) := []
attribute [go_sem] zP4E zP4P
set_option maxRecDepth 100000
set_option maxHeartbeats 8000000
theorem acalls_pureT {P : Program} {f : Nat} (hok : fnOk P f = true) (xs rs : List Value) (h1 : ∀ v ∈ rs, v.oneCell' = true) (hc : ∀ w, Calls P f xs.toArray w fun e w' => e = .returned (.tuple rs.toArray) ∧ RowKit.Below w.heap.size w w') (h : Hp) : ACalls P f (xs.map .v) h (fun r h' => r = .tup (rs.map .v) ∧ h' = h) := by
 refine ⟨hok, fun G w vs hs hl ha => ?_⟩
 have e : vs = xs.toArray := by
  apply Array.ext
  ·simpa using hl
  ·intro j hj hj'
   have hjx : j < (xs.map AV.v).length := by rw [← hl]; exact hj
   have := ha j hjx
   simp only [List.getElem_map] at this
   have h2 : vs.getD j undef = vs[j] := by simp [Array.getD, hj]
   rw [h2] at this
   simp only [List.getElem_toArray]
   generalize vs[j] = y at this
   cases this
   rfl
 subst e
 refine (hc w).mono ?_
 rintro _ w' ⟨rfl, hb⟩
 have hb' : ∀ b, b < w.heap.size → w'.heap[b]? = w.heap[b]? := fun b hb2 => hb.block b hb2
 refine ⟨_, h, G, .tuple rs.toArray, rfl, ⟨rfl, rfl⟩, GLe.refl _, Fr.below (Fr.refl _ _ _) hb' hb.os hb.tape hb.output hb.size, hs.below hb', ?_⟩
 refine .tup _ _ (fun j => rs.getD j undef) (by simp) (fun j hj => ?_) (fun j hj => ?_)
 ·have hj' : j < rs.length := by simpa using hj
  simp [List.getD_eq_getElem?_getD, hj']
 ·have hj' : j < rs.length := by simpa using hj
  simp only [List.getElem_map, List.getD_eq_getElem?_getD, List.getElem?_eq_getElem hj', Option.getD_some]
  exact .v _ (h1 _ (List.getElem_mem _))
theorem ACalls.frz {P : Program} {f : Nat} {args : List AV} {h : Hp} {z : Nat} {xs : List (List AV)} (hc : ACalls P f args h (fun r h' => ∃ k, r = .arr z k xs.length ∧ h'.H = h.H ∧ h.T k = none ∧ h'.T k = some (.cont z xs) ∧ ∀ t, h.T t ≠ none → h'.T t = h.T t)) (hz : ∀ y ∈ xs, y.length = z) :
  ACalls P f args h (fun r h' => r = .row z xs none ∧ h' = h) := by
 refine hc.gup ?_
 rintro _ h' G w v ⟨k, rfl, hH, hk, hT, hold⟩ hs hr
 obtain ⟨G', hle, hfr, hs2, hfz⟩ := hs.freeze (h2 := h) (fun j => h.T j = none) hH.symm (fun j hj => hj) (fun j hj => (hold j hj).symm)
 exact ⟨_, h, G', ⟨rfl, rfl⟩, hle, hfr, hs2, hfz k z xs v hk hT hr xs rfl hz fun us hus => hus.mono hle⟩
theorem bel_id (w : World) : RowKit.Below w.heap.size w w := ⟨rfl, rfl, rfl, Nat.le_refl _, fun _ _ => rfl⟩
def sN : ByteArray := ⟨#[110]⟩
theorem c_cutPrefix (p : ByteArray) (h : Hp) (hp : Lib.trimPrefix sN.data.toList p.data.toList = [110] ∧ Lib.hasPrefix sN.data.toList p.data.toList = false) : ACalls Tryz.prog 162 [.v (.string sN), .v (.string p)] h (fun r h' => r = .tup [.v (.string sN), .v (.bool false)] ∧ h' = h) :=
 acalls_pureT (by kernel_rfl) [.string sN, .string p] [.string sN, .bool false] (by simp [Value.oneCell']) (fun w => (Tryz.strings_CutPrefix sN p w).mono fun e w' ⟨h1, h2⟩ => ⟨by rw [h1, hp.1, hp.2]; rfl, by rw [h2]; exact bel_id w⟩) h
theorem c_count (h : Hp) : ACalls Tryz.prog 99 [.v (.string sN), .v (.string ⟨#[58]⟩)] h (fun r h' => r = .v (.int .i64 0) ∧ h' = h) :=
 acalls_pure (by kernel_rfl) [.string sN, .string ⟨#[58]⟩] rfl (fun w => (Tryz.strings_Count_one sN 58 w).mono fun e w' ⟨h1, h2⟩ => ⟨by rw [h1]; rfl, by rw [h2]; exact bel_id w⟩) h
theorem c_index (h : Hp) : ACalls Tryz.prog 101 [.v (.string sN), .v (.string ⟨#[46]⟩)] h (fun r h' => r = .v (.int .i64 (-1)) ∧ h' = h) :=
 acalls_pure (by kernel_rfl) [.string sN, .string ⟨#[46]⟩] rfl (fun w => (Tryz.stringslite_Index_one sN 46 w).mono fun e w' ⟨h1, h2⟩ => ⟨by rw [h1]; rfl, by rw [h2]; exact bel_id w⟩) h
theorem c_cutL (h : Hp) : ACalls Tryz.prog 242 [.v (.string sN), .v (.string ⟨#[46]⟩)] h (fun r h' => r = .tup [.v (.string sN), .v (.string ⟨#[]⟩), .v (.bool false)] ∧ h' = h) := by
 have h1 := fun h => c_index h
 refine gE Tryz.func242 rfl (by kernel_rfl) 21 rfl fun c => ?_
 (repeat (first | refine gO rfl ?_ | ((first | refine gR ?_ | (with_reducible refine wM ?_ ?_) | ((with_reducible refine xS ?_); refine uD 3 zM10 zP4E zP4P 23 rfl (by kernel_rfl) ?_)) <;> ((try with_reducible intro K1 hK1); simp only [go_sem, ↓reduceIte, reduceCtorEq, nA, nB, nC, nD, nE, nF, Int.reduceBEq, Int.reduceTMod, Int.reduceTDiv, Int.reduceMul, Int.reduceBNe, Int.reduceLT, Int.reduceLE, Int.reduceAdd, Int.reduceSub, Int.reduceNeg, decide_true, decide_false, Bool.true_and, Bool.false_and, Bool.and_true, Bool.and_false, Bool.or_false, Bool.or_true, Bool.true_or, Bool.false_or, Bool.not_true, Bool.not_false, true_implies, false_implies, true_and, and_true, Int.reduceToNat] <;> and_intros <;> first | (apply hK1; clear hK1 K1) | (intros; first | omega | decide) | skip)) | (refine awp_cond (t := _) rfl (fun hq => ?_) (fun hq => ?_) <;> first | (exact absurd hq (by decide)) | (cases hq; done) | (clear hq)) | (refine awp_un 8 ?_) | (with_reducible exact rfl) | (with_reducible exact trivial) | ((with_reducible show uside _); first | exact True.intro | exact rfl) | ((with_reducible show opS _ _); exact True.intro) | (refine ⟨AV.v (.bool true), rfl, hK1 _ ?_⟩; clear hK1 K1) | (refine (h1 _).mono ?_; rintro _ hz ⟨rfl, hh⟩; (first | (refine hK1 _ ?_) | (refine ⟨rfl, hK1 _ ?_⟩)); clear hK1 K1; rw [hh]; clear hh hz)))
 simp only [Tryz.results242, go_sem, ↓reduceIte, reduceCtorEq, nA, nB, nC, nD, nE, nF]
 exact ⟨_, _, Weak.refl _, Hp.le.refl _, rfl, rfl⟩
theorem c_cut (h : Hp) : ACalls Tryz.prog 220 [.v (.string sN), .v (.string ⟨#[46]⟩)] h (fun r h' => r = .tup [.v (.string sN), .v (.string ⟨#[]⟩), .v (.bool false)] ∧ h' = h) := by
 have h1 := fun h => c_cutL h
 refine gE Tryz.func220 rfl (by kernel_rfl) 11 rfl fun c => ?_
 (repeat (first | refine gO rfl ?_ | (refine gR fun K1 hK1 => ?_; simp only [go_sem, ↓reduceIte, reduceCtorEq, nA, nB, nC, nD, nE, nF, Int.reduceBEq, Int.reduceTMod, Int.reduceTDiv, Int.reduceMul, Int.reduceBNe, Int.reduceLT, Int.reduceLE, Int.reduceAdd, Int.reduceSub, Int.reduceNeg, decide_true, decide_false, Bool.true_and, Bool.false_and, Bool.and_true, Bool.and_false, Bool.or_false, Bool.or_true, Bool.true_or, Bool.false_or, Bool.not_true, Bool.not_false, true_implies, false_implies, true_and, and_true, Int.reduceToNat] <;> and_intros <;> first | (apply hK1; clear hK1 K1) | (intros; first | omega | decide) | skip) | (refine awp_cond (t := _) rfl (fun hq => ?_) (fun hq => ?_) <;> first | (exact absurd hq (by decide)) | (cases hq; done) | (clear hq)) | (refine awp_un 8 ?_) | (with_reducible exact rfl) | (with_reducible exact trivial) | ((with_reducible show uside _); first | exact True.intro | exact rfl) | ((with_reducible show opS _ _); exact True.intro) | (refine ⟨AV.v (.bool true), rfl, hK1 _ ?_⟩; clear hK1 K1) | (refine (h1 _).mono ?_; rintro _ hz ⟨rfl, hh⟩; (first | (refine hK1 _ ?_) | (refine ⟨rfl, hK1 _ ?_⟩)); clear hK1 K1; rw [hh]; clear hh hz)))
 simp only [Tryz.results220, go_sem, ↓reduceIte, reduceCtorEq, nA, nB, nC, nD, nE, nF]
 exact ⟨_, _, Weak.refl _, Hp.le.refl _, rfl, rfl⟩
theorem c_genSplit (h : Hp) : ACalls Tryz.prog 85 [.v (.string sN), .v (.string ⟨#[58]⟩), .v (.int .i64 0), .v (.int .i64 (-1))] h (fun r h' => r = .row 1 [[.v (.string sN)]] none ∧ h' = h) := by
 refine ACalls.frz ?_ (by simp)
 have h1 := fun h => c_count h
 have hs : (sN.size : Int) = 1 := rfl
 have e2 : min (1 : Int) (1 + 1) = 1 := by decide
 have e3 : min (1 : Int) 2 = 1 := by decide
 have e1 : ((⟨#[58]⟩ : ByteArray) == ⟨#[]⟩) = false := by decide
 refine gE Tryz.func85 rfl (by kernel_rfl) 62 rfl fun c => ?_
 (repeat (first | refine gO rfl ?_ | (refine gM zM13 fun K1 hK1 => ?_; simp only [go_sem, ↓reduceIte, reduceCtorEq, nA, nB, nC, nD, nE, nF, Int.reduceBEq, Int.reduceTMod, Int.reduceTDiv, Int.reduceMul, Int.reduceBNe, Int.reduceLT, Int.reduceLE, Int.reduceAdd, Int.reduceSub, Int.reduceNeg, decide_true, decide_false, Bool.true_and, Bool.false_and, Bool.and_true, Bool.and_false, Bool.or_false, Bool.or_true, Bool.true_or, Bool.false_or, Bool.not_true, Bool.not_false, true_implies, false_implies, true_and, and_true, Int.reduceToNat, e1, hs, e2, e3] <;> and_intros <;> first | (apply hK1; clear hK1 K1) | (intros; first | omega | decide) | skip) | (refine awp_cond (t := _) rfl (fun hq => ?_) (fun hq => ?_) <;> first | (exact absurd hq (by decide)) | (cases hq; done) | (clear hq)) | (refine awp_un 8 ?_) | (with_reducible exact rfl) | (with_reducible exact trivial) | ((with_reducible show uside _); first | exact True.intro | exact rfl) | ((with_reducible show opS _ _); exact True.intro) | (refine ⟨AV.v (.bool true), rfl, hK1 _ ?_⟩; clear hK1 K1) | (refine (h1 _).mono ?_; rintro _ hz ⟨rfl, hh⟩; (first | (refine hK1 _ ?_) | (refine ⟨rfl, hK1 _ ?_⟩)); clear hK1 K1; rw [hh]; clear hh hz)))
 intro k hk
 refine hK1 _ ?_; clear hK1 K1
 (repeat (first | refine gO rfl ?_ | (refine gM zM13 fun K1 hK1 => ?_; simp only [go_sem, ↓reduceIte, reduceCtorEq, nA, nB, nC, nD, nE, nF, Int.reduceBEq, Int.reduceTMod, Int.reduceTDiv, Int.reduceMul, Int.reduceBNe, Int.reduceLT, Int.reduceLE, Int.reduceAdd, Int.reduceSub, Int.reduceNeg, decide_true, decide_false, Bool.true_and, Bool.false_and, Bool.and_true, Bool.and_false, Bool.or_false, Bool.or_true, Bool.true_or, Bool.false_or, Bool.not_true, Bool.not_false, true_implies, false_implies, true_and, and_true, Int.reduceToNat, upd_same, List.replicate] <;> and_intros <;> first | (apply hK1; clear hK1 K1) | (intros; first | omega | decide) | skip) | (refine awp_cond (t := _) rfl (fun hq => ?_) (fun hq => ?_) <;> first | (exact absurd hq (by decide)) | (cases hq; done) | (clear hq)) | (refine awp_un 8 ?_) | (with_reducible exact rfl) | (with_reducible exact trivial) | ((with_reducible show uside _); first | exact True.intro | exact rfl) | ((with_reducible show opS _ _); exact True.intro) | (refine ⟨AV.v (.bool true), rfl, hK1 _ ?_⟩; clear hK1 K1)))
 all_goals first | exact True.intro | exact rfl | skip
 intro q hq
 refine hK1 _ ?_; clear hK1 K1
 (repeat (first | refine gO rfl ?_ | (refine gM zM13 fun K1 hK1 => ?_; simp only [go_sem, ↓reduceIte, reduceCtorEq, nA, nB, nC, nD, nE, nF, Int.reduceBEq, Int.reduceTMod, Int.reduceTDiv, Int.reduceMul, Int.reduceBNe, Int.reduceLT, Int.reduceLE, Int.reduceAdd, Int.reduceSub, Int.reduceNeg, decide_true, decide_false, Bool.true_and, Bool.false_and, Bool.and_true, Bool.and_false, Bool.or_false, Bool.or_true, Bool.true_or, Bool.false_or, Bool.not_true, Bool.not_false, true_implies, false_implies, true_and, and_true, Int.reduceToNat] <;> and_intros <;> first | (apply hK1; clear hK1 K1) | (intros; first | omega | decide) | skip) | (refine awp_cond (t := _) rfl (fun hq => ?_) (fun hq => ?_) <;> first | (exact absurd hq (by decide)) | (cases hq; done) | (clear hq)) | (refine awp_un 8 ?_) | (with_reducible exact rfl) | (with_reducible exact trivial) | ((with_reducible show uside _); first | exact True.intro | exact rfl) | ((with_reducible show opS _ _); exact True.intro) | (refine ⟨AV.v (.bool true), rfl, hK1 _ ?_⟩; clear hK1 K1)))
 simp only [Tryz.results85, go_sem, ↓reduceIte, reduceCtorEq, nA, nB, nC, nD, nE, nF]
 replace hk : h.T k = none := hk
 have hq2 : h.T q = none := by
  replace hq : upd h.T k (some (TO.cont 1 [[.v (.string sN)]])) q = none := hq
  by_cases e : q = k
  ·rw [e, upd_same] at hq; cases hq
  ·rwa [upd_other _ _ e] at hq
 refine ⟨_, _, Weak.refl _, Hp.le.refl _, q, rfl, rfl, hq2, upd_same _ _ _, fun t ht => ?_⟩
 have tq : t ≠ q := by rintro rfl; exact ht hq2
 have tk : t ≠ k := by rintro rfl; exact ht hk
 show upd (upd h.T k none) q _ t = _
 rw [upd_other _ _ tq, upd_other _ _ tk]
theorem c_split (h : Hp) : ACalls Tryz.prog 56 [.v (.string sN), .v (.string ⟨#[58]⟩)] h (fun r h' => r = .row 1 [[.v (.string sN)]] none ∧ h' = h) := by
 have h1 := fun h => c_genSplit h
 refine gE Tryz.func56 rfl (by kernel_rfl) 6 rfl fun c => ?_
 (repeat (first | refine gO rfl ?_ | (refine gR fun K1 hK1 => ?_; simp only [go_sem, ↓reduceIte, reduceCtorEq, nA, nB, nC, nD, nE, nF, Int.reduceBEq, Int.reduceTMod, Int.reduceTDiv, Int.reduceMul, Int.reduceBNe, Int.reduceLT, Int.reduceLE, Int.reduceAdd, Int.reduceSub, Int.reduceNeg, decide_true, decide_false, Bool.true_and, Bool.false_and, Bool.and_true, Bool.and_false, Bool.or_false, Bool.or_true, Bool.true_or, Bool.false_or, Bool.not_true, Bool.not_false, true_implies, false_implies, true_and, and_true, Int.reduceToNat] <;> and_intros <;> first | (apply hK1; clear hK1 K1) | (intros; first | omega | decide) | skip) | (refine awp_cond (t := _) rfl (fun hq => ?_) (fun hq => ?_) <;> first | (exact absurd hq (by decide)) | (cases hq; done) | (clear hq)) | (refine awp_un 8 ?_) | (with_reducible exact rfl) | (with_reducible exact trivial) | ((with_reducible show uside _); first | exact True.intro | exact rfl) | ((with_reducible show opS _ _); exact True.intro) | (refine ⟨AV.v (.bool true), rfl, hK1 _ ?_⟩; clear hK1 K1) | (refine (h1 _).mono ?_; rintro _ hz ⟨rfl, hh⟩; (first | (refine hK1 _ ?_) | (refine ⟨rfl, hK1 _ ?_⟩)); clear hK1 K1; rw [hh]; clear hh hz)))
 simp only [Tryz.results56, go_sem, ↓reduceIte, reduceCtorEq, nA, nB, nC, nD, nE, nF]
 exact ⟨_, _, Weak.refl _, Hp.le.refl _, rfl, rfl⟩
theorem c_ixNil (s : ByteArray) (h : Hp) : ACalls Tryz.prog 222 [.v (.slice none 0 0), .v (.string s)] h (fun r h' => r = .v (.int .i64 (-1)) ∧ h' = h) := by
 refine gE Tryz.func222 rfl (by kernel_rfl) 17 rfl fun c => ?_
 (repeat (first | refine gO rfl ?_ | (refine gR fun K1 hK1 => ?_; simp only [go_sem, ↓reduceIte, reduceCtorEq, nA, nB, nC, nD, nE, nF, Int.reduceBEq, Int.reduceTMod, Int.reduceTDiv, Int.reduceMul, Int.reduceBNe, Int.reduceLT, Int.reduceLE, Int.reduceAdd, Int.reduceSub, Int.reduceNeg, decide_true, decide_false, Bool.true_and, Bool.false_and, Bool.and_true, Bool.and_false, Bool.or_false, Bool.or_true, Bool.true_or, Bool.false_or, Bool.not_true, Bool.not_false, true_implies, false_implies, true_and, and_true, Int.reduceToNat] <;> and_intros <;> first | (apply hK1; clear hK1 K1) | (intros; first | omega | decide) | skip) | (refine awp_cond (t := _) rfl (fun hq => ?_) (fun hq => ?_) <;> first | (exact absurd hq (by decide)) | (cases hq; done) | (clear hq)) | (refine awp_un 8 ?_) | (with_reducible exact rfl) | (with_reducible exact trivial) | ((with_reducible show uside _); first | exact True.intro | exact rfl) | ((with_reducible show opS _ _); exact True.intro) | (refine ⟨AV.v (.bool true), rfl, hK1 _ ?_⟩; clear hK1 K1)))
 simp only [Tryz.results222, go_sem, ↓reduceIte, reduceCtorEq, nA, nB, nC, nD, nE, nF]
 exact ⟨_, _, Weak.refl _, Hp.le.refl _, rfl, rfl⟩
theorem c_hasNil (s : ByteArray) (h : Hp) : ACalls Tryz.prog 198 [.v (.slice none 0 0), .v (.string s)] h (fun r h' => r = .v (.bool false) ∧ h' = h) := by
 have h1 := fun h => c_ixNil s h
 refine gE Tryz.func198 rfl (by kernel_rfl) 7 rfl fun c => ?_
 (repeat (first | refine gO rfl ?_ | (refine gR fun K1 hK1 => ?_; simp only [go_sem, ↓reduceIte, reduceCtorEq, nA, nB, nC, nD, nE, nF, Int.reduceBEq, Int.reduceTMod, Int.reduceTDiv, Int.reduceMul, Int.reduceBNe, Int.reduceLT, Int.reduceLE, Int.reduceAdd, Int.reduceSub, Int.reduceNeg, decide_true, decide_false, Bool.true_and, Bool.false_and, Bool.and_true, Bool.and_false, Bool.or_false, Bool.or_true, Bool.true_or, Bool.false_or, Bool.not_true, Bool.not_false, true_implies, false_implies, true_and, and_true, Int.reduceToNat] <;> and_intros <;> first | (apply hK1; clear hK1 K1) | (intros; first | omega | decide) | skip) | (refine awp_cond (t := _) rfl (fun hq => ?_) (fun hq => ?_) <;> first | (exact absurd hq (by decide)) | (cases hq; done) | (clear hq)) | (refine awp_un 8 ?_) | (with_reducible exact rfl) | (with_reducible exact trivial) | ((with_reducible show uside _); first | exact True.intro | exact rfl) | ((with_reducible show opS _ _); exact True.intro) | (refine ⟨AV.v (.bool true), rfl, hK1 _ ?_⟩; clear hK1 K1) | (refine (h1 _).mono ?_; rintro _ hz ⟨rfl, hh⟩; (first | (refine hK1 _ ?_) | (refine ⟨rfl, hK1 _ ?_⟩)); clear hK1 K1; rw [hh]; clear hh hz)))
 simp only [Tryz.results198, go_sem, ↓reduceIte, reduceCtorEq, nA, nB, nC, nD, nE, nF]
 exact ⟨_, _, Weak.refl _, Hp.le.refl _, rfl, rfl⟩
theorem g_ixNo (s : ByteArray) (l : List ByteArray) (h : Hp) (hl : l.length ≤ 100000) (hn : ∀ x ∈ l, (s == x) = false) : ACalls Tryz.prog 222 [.row 1 (l.map fun x => [.v (.string x)]) none, .v (.string s)] h (fun r h' => r = .v (.int .i64 (-1)) ∧ h' = h) := by
 obtain ⟨en, hen⟩ : ∃ en : ByteArray → List AV, en = fun x => [.v (.string x)] := ⟨_, rfl⟩
 rw [← hen]
 have hml : (l.map en).length = l.length := List.length_map _
 refine gE Tryz.func222 rfl (by kernel_rfl) 17 rfl fun c => ?_
 (repeat (first | refine gO rfl ?_ | (refine gR fun K1 hK1 => ?_; simp only [go_sem, ↓reduceIte, reduceCtorEq, nA, nB, nC, nD, nE, nF, hml] <;> and_intros <;> first | (apply hK1; clear hK1 K1) | (intros; first | omega | decide | (simp_all <;> omega)) | skip)))
 refine awp_loopC (rl false [0, 2, 5, 2, 10]) 0 (fun g s' => ∃ j : Nat, g + j = l.length ∧
  s' = ⟨((.row 1 (l.map en) none) :: (.v (.string s)) :: (jnk 5 ((.v (.int .i64 l.length)) :: (.v (.int .i64 j)) :: (jnk 10 [])))), [], h⟩) l.length ⟨0, by omega, rfl⟩ ?_
 rintro g _ ⟨j, hj, rfl⟩
 (repeat (first | refine gO rfl ?_ | (refine gR fun K1 hK1 => ?_; simp only [go_sem, ↓reduceIte, reduceCtorEq, nA, nB, nC, nD, nE, nF] <;> and_intros <;> first | (apply hK1; clear hK1 K1) | (intros; first | omega | decide) | skip)))
 refine awp_cond (t := _) rfl (fun h1 => ?_) (fun h1 => ?_)
 ·simp only [decide_eq_true_eq] at h1
  have hjl : j < l.length := by omega
  have gx : (l.map en).getD j [] = en (l.getD j default) := getD_enc en l j default hjl
  have hno := hn (l.getD j default) (by rw [List.getD_eq_getElem?_getD, List.getElem?_eq_getElem hjl]; exact List.getElem_mem _)
  generalize l.getD j default = y at *
  have gx2 : (l.map en).getD j [] = [.v (.string y)] := by rw [gx, hen]
  (repeat (first | refine gO rfl ?_ | (refine gR fun K1 hK1 => ?_; simp only [go_sem, ↓reduceIte, reduceCtorEq, nA, nB, nC, nD, nE, nF, hml, Int.toNat_natCast, gx2] <;> and_intros <;> first | (apply hK1; clear hK1 K1) | (intros; first | omega | decide) | skip)))
  refine awp_cond (t := _) rfl (fun h9 => by rw [hno] at h9; cases h9) (fun _ => ?_)
  (repeat (first | refine gO rfl ?_ | (refine gR fun K1 hK1 => ?_; simp only [go_sem, ↓reduceIte, reduceCtorEq, nA, nB, nC, nD, nE, nF] <;> and_intros <;> first | (apply hK1; clear hK1 K1) | (intros; first | omega | decide) | skip)))
  exact ⟨g - 1, by omega, j + 1, by omega, rfl⟩
 ·(repeat (first | refine gO rfl ?_ | (refine gR fun K1 hK1 => ?_; simp only [go_sem, ↓reduceIte, reduceCtorEq, nA, nB, nC, nD, nE, nF] <;> and_intros <;> first | (apply hK1; clear hK1 K1) | (intros; first | omega | decide) | skip)))
  simp only [Tryz.results222, go_sem, ↓reduceIte, reduceCtorEq, nA, nB, nC, nD, nE, nF]
  exact ⟨_, _, Weak.refl _, Hp.le.refl _, rfl, rfl⟩
theorem g_hasNo (s : ByteArray) (l : List ByteArray) (h : Hp) (hl : l.length ≤ 100000) (hn : ∀ x ∈ l, (s == x) = false) : ACalls Tryz.prog 198 [.row 1 (l.map fun x => [.v (.string x)]) none, .v (.string s)] h (fun r h' => r = .v (.bool false) ∧ h' = h) := by
 have h1 := fun h => g_ixNo s l h hl hn
 generalize (l.map fun x => [AV.v (.string x)]) = rw0 at *
 refine gE Tryz.func198 rfl (by kernel_rfl) 7 rfl fun c => ?_
 (repeat (first | refine gO rfl ?_ | (refine gR fun K1 hK1 => ?_; simp only [go_sem, ↓reduceIte, reduceCtorEq, nA, nB, nC, nD, nE, nF, Int.reduceBEq, Int.reduceTMod, Int.reduceTDiv, Int.reduceMul, Int.reduceBNe, Int.reduceLT, Int.reduceLE, Int.reduceAdd, Int.reduceSub, Int.reduceNeg, decide_true, decide_false, Bool.true_and, Bool.false_and, Bool.and_true, Bool.and_false, Bool.or_false, Bool.or_true, Bool.true_or, Bool.false_or, Bool.not_true, Bool.not_false, true_implies, false_implies, true_and, and_true, Int.reduceToNat] <;> and_intros <;> first | (apply hK1; clear hK1 K1) | (intros; first | omega | decide) | skip) | (refine awp_cond (t := _) rfl (fun hq => ?_) (fun hq => ?_) <;> first | (exact absurd hq (by decide)) | (cases hq; done) | (clear hq)) | (refine awp_un 8 ?_) | (with_reducible exact rfl) | (with_reducible exact trivial) | ((with_reducible show uside _); first | exact True.intro | exact rfl) | ((with_reducible show opS _ _); exact True.intro) | (refine ⟨AV.v (.bool true), rfl, hK1 _ ?_⟩; clear hK1 K1) | (refine (h1 _).mono ?_; rintro _ hz ⟨rfl, hh⟩; (first | (refine hK1 _ ?_) | (refine ⟨rfl, hK1 _ ?_⟩)); clear hK1 K1; rw [hh]; clear hh hz)))
 simp only [Tryz.results198, go_sem, ↓reduceIte, reduceCtorEq, nA, nB, nC, nD, nE, nF]
 exact ⟨_, _, Weak.refl _, Hp.le.refl _, rfl, rfl⟩
abbrev zP5E : List Nat := [0, 1, 2, 3, 4, 5, 6, 7, 8, 9, 10, 11, 12]
abbrev zP5P : List (Nat × List Nat × List Nat) := []
abbrev zP6E : List Nat := [0, 2, 7, 8]
abbrev zP6P : List (Nat × List Nat × List Nat) := [(1, [7], []), (3, [7], [4, 5, 6]), (9, [], [10, 11]), (12, [], [])]
abbrev zP7E : List Nat := [0, 1, 2, 3]
abbrev zP7P : List (Nat × List Nat × List Nat) := [(4, [2], []), (5, [], [6, 7, 8]), (10, [], [11])]
abbrev zP8E : List Nat := [0, 1, 2, 3, 4, 5, 6, 7, 8, 9]
abbrev zP8P : List (Nat × List Nat × List Nat) := []
abbrev zP9E : List Nat := [0, 1, 2, 3, 4, 5, 6, 7, 8]
abbrev zP9P : List (Nat × List Nat × List Nat) := [(9, [], [10])]
abbrev zPAE : List Nat := [0, 1, 2, 3, 4, 5, 6, 7, 8, 9, 10]
abbrev zPAP : List (Nat × List Nat × List Nat) := []
abbrev zPBE : List Nat := [0, 1, 2, 3, 4, 5, 6, 7, 8, 9, 10, 11, 12, 13, 14, 15, 16]
abbrev zPBP : List (Nat × List Nat × List Nat) := [(17, [], [])]
abbrev zPCE : List Nat := [0, 1, 2, 3, 4, 5, 6, 7, 8]
abbrev zPCP : List (Nat × List Nat × List Nat) := [(9, [], [10])]
abbrev zPDE : List Nat := [0, 1, 2, 3, 4, 5, 6, 7, 8, 9, 10, 11, 12, 13, 14, 15, 16, 17, 18, 19, 20, 21, 22, 23, 24, 25, 26, 27, 28, 29, 30, 31]
abbrev zPDP : List (Nat × List Nat × List Nat) := [(32, [], [33, 34])]
abbrev zPEE : List Nat := [0, 1, 2, 3, 4, 5, 6]
abbrev zPEP : List (Nat × List Nat × List Nat) := []
attribute [go_sem] zP5E zP5P zP6E zP6P zP7E zP7P zP8E zP8P zP9E zP9P zPAE zPAP zPBE zPBP zPCE zPCP zPDE zPDP zPEE zPEP
def vI (n : Int) : AV := .v (.int .i64 n)
def vS (s : ByteArray) : AV := .v (.string s)
def vB (b : Bool) : AV := .v (.bool b)
def nl : AV := .v (.slice none 0 0)
def s0 : ByteArray := ⟨#[]⟩
def ndCp (kind : Int) (name : ByteArray) : List AV := [vI kind, vS s0, vS s0, vS name, nl, vI 0, nl, vS s0, vS s0, vS s0, vI 0, vS s0, vI 0, vB false, vS s0, vS s0, vS s0, nl, nl]
theorem hle_obj {h : Hp} {b : Nat} {o : AO} (hb : h.H b = none) : Hp.le h ⟨upd h.H b (some o), h.T⟩ :=
 ⟨fun i => by
  by_cases e : i = b
  ·exact .inl (by rw [e]; exact hb)
  ·exact .inr (upd_other _ _ e).symm, fun _ => .inr rfl⟩
theorem Weak.tupW {a a' : AV} {xs : List AV} (ha : Weak a a') : Weak (.tup (a :: xs)) (.tup (a' :: xs)) := fun G v hr => by
 cases hr with
 | tup _ vs u hl hu hr =>
  refine .tup _ vs u (by simpa using hl) (fun j hj => hu j (by simpa using hj)) (fun j hj => ?_)
  rcases j with _ | j
  ·exact ha G _ (hr 0 (by simp))
  ·exact hr (j + 1) (by simpa using hj)
theorem nc1 : ((1 : Nat) : Int) = 1 := rfl
theorem c_isReserved (h : Hp) : ACalls Tryz.prog 166 [.v (.string sN)] h (fun x h' => x = .v (.bool false) ∧ h' = h) := by
 have h1 := fun h => g_hasNo sN [⟨#[111, 112, 101, 110]⟩, ⟨#[99, 108, 111, 115, 101]⟩, ⟨#[105, 102]⟩, ⟨#[101, 108, 115, 101]⟩, ⟨#[101, 110, 100]⟩, ⟨#[101, 97, 99, 104]⟩, ⟨#[97, 115]⟩, ⟨#[97, 110, 100]⟩, ⟨#[111, 114]⟩, ⟨#[110, 111, 116]⟩, ⟨#[116, 114, 117, 101]⟩, ⟨#[102, 97, 108, 115, 101]⟩] h (by decide) (by decide)
 simp only [List.map_cons, List.map_nil] at h1
 refine gE Tryz.func166 rfl (by kernel_rfl) 5 rfl fun c => ?_
 (repeat (first | refine gO rfl ?_ | (refine gR fun K1 hK1 => ?_; simp only [go_sem, ↓reduceIte, reduceCtorEq, nA, nB, nC, nD, nE, nF, Int.reduceBEq, Int.reduceTMod, Int.reduceTDiv, Int.reduceMul, Int.reduceBNe, Int.reduceLT, Int.reduceLE, Int.reduceAdd, Int.reduceSub, Int.reduceNeg, decide_true, decide_false, Bool.true_and, Bool.false_and, Bool.and_true, Bool.and_false, Bool.or_false, Bool.or_true, Bool.true_or, Bool.false_or, Bool.not_true, Bool.not_false, true_implies, false_implies, true_and, and_true, Int.reduceToNat] <;> and_intros <;> first | (apply hK1; clear hK1 K1) | (intros; first | omega | decide) | skip) | (refine awp_cond (t := _) rfl (fun hq => ?_) (fun hq => ?_) <;> first | (exact absurd hq (by decide)) | (cases hq; done) | (clear hq)) | (refine awp_un 8 ?_) | (with_reducible exact rfl) | (with_reducible exact trivial) | ((with_reducible show uside _); first | exact True.intro | exact rfl) | ((with_reducible show opS _ _); exact True.intro) | (refine ⟨AV.v (.bool true), rfl, hK1 _ ?_⟩; clear hK1 K1) | (refine (h1 _).mono ?_; rintro _ hz ⟨rfl, hh⟩; (first | (refine hK1 _ ?_) | (refine ⟨rfl, hK1 _ ?_⟩)); clear hK1 K1; rw [hh]; clear hh hz)))
 simp only [Tryz.results166, go_sem, ↓reduceIte, reduceCtorEq, nA, nB, nC, nD, nE, nF]
 exact ⟨_, _, Weak.refl _, Hp.le.refl _, rfl, rfl⟩
theorem c_isName (h : Hp) : ACalls Tryz.prog 139 [.v (.string sN)] h (fun x h' => x = .v (.bool true) ∧ h' = h) := by
 have h1 := fun h => c_isReserved h
 have h2 := fun h => a_isKey sN (by decide) h
 rw [show keyB sN = true by decide] at h2
 refine gE Tryz.func139 rfl (by kernel_rfl) 9 rfl fun c => ?_
 (repeat (first | refine gO rfl ?_ | (refine gR fun K1 hK1 => ?_; simp only [go_sem, ↓reduceIte, reduceCtorEq, nA, nB, nC, nD, nE, nF, Int.reduceBEq, Int.reduceTMod, Int.reduceTDiv, Int.reduceMul, Int.reduceBNe, Int.reduceLT, Int.reduceLE, Int.reduceAdd, Int.reduceSub, Int.reduceNeg, decide_true, decide_false, Bool.true_and, Bool.false_and, Bool.and_true, Bool.and_false, Bool.or_false, Bool.or_true, Bool.true_or, Bool.false_or, Bool.not_true, Bool.not_false, true_implies, false_implies, true_and, and_true, Int.reduceToNat] <;> and_intros <;> first | (apply hK1; clear hK1 K1) | (intros; first | omega | decide) | skip) | (refine awp_cond (t := _) rfl (fun hq => ?_) (fun hq => ?_) <;> first | (exact absurd hq (by decide)) | (cases hq; done) | (clear hq)) | (refine awp_un 8 ?_) | (with_reducible exact rfl) | (with_reducible exact trivial) | ((with_reducible show uside _); first | exact True.intro | exact rfl) | ((with_reducible show opS _ _); exact True.intro) | (refine ⟨AV.v (.bool true), rfl, hK1 _ ?_⟩; clear hK1 K1) | (refine (h1 _).mono ?_; rintro _ hz ⟨rfl, hh⟩; (first | (refine hK1 _ ?_) | (refine ⟨rfl, hK1 _ ?_⟩)); clear hK1 K1; rw [hh]; clear hh hz) | (refine (h2 _).mono ?_; rintro _ hz ⟨rfl, hh⟩; (first | (refine hK1 _ ?_) | (refine ⟨rfl, hK1 _ ?_⟩)); clear hK1 K1; rw [hh]; clear hh hz)))
 simp only [Tryz.results139, go_sem, ↓reduceIte, reduceCtorEq, nA, nB, nC, nD, nE, nF]
 exact ⟨_, _, Weak.refl _, Hp.le.refl _, rfl, rfl⟩
theorem c_refOf (h : Hp) : ACalls Tryz.prog 196 [.v (.string sN), nl] h (fun x h' => x = .tup [.agg [vS s0, vS sN], .v (.bool true)] ∧ h' = h) := by
 have h1 := fun h => c_cut h
 have h2 := fun h => c_isName h
 have h3 := fun s h => c_hasNil s h
 unfold nl vS s0 at *
 refine gE Tryz.func196 rfl (by kernel_rfl) 35 rfl fun c => ?_
 (repeat (first | refine gO rfl ?_ | (refine gM zM14 fun K1 hK1 => ?_; simp only [go_sem, ↓reduceIte, reduceCtorEq, nA, nB, nC, nD, nE, nF, Int.reduceBEq, Int.reduceTMod, Int.reduceTDiv, Int.reduceMul, Int.reduceBNe, Int.reduceLT, Int.reduceLE, Int.reduceAdd, Int.reduceSub, Int.reduceNeg, decide_true, decide_false, Bool.true_and, Bool.false_and, Bool.and_true, Bool.and_false, Bool.or_false, Bool.or_true, Bool.true_or, Bool.false_or, Bool.not_true, Bool.not_false, true_implies, false_implies, true_and, and_true, Int.reduceToNat] <;> and_intros <;> first | (apply hK1; clear hK1 K1) | (intros; first | omega | decide) | skip) | (refine awp_cond (t := _) rfl (fun hq => ?_) (fun hq => ?_) <;> first | (exact absurd hq (by decide)) | (cases hq; done) | (clear hq)) | (refine awp_un 8 ?_) | (with_reducible exact rfl) | (with_reducible exact trivial) | ((with_reducible show uside _); first | exact True.intro | exact rfl) | ((with_reducible show opS _ _); exact True.intro) | (refine ⟨AV.v (.bool true), rfl, hK1 _ ?_⟩; clear hK1 K1) | (refine (h1 _).mono ?_; rintro _ hz ⟨rfl, hh⟩; (first | (refine hK1 _ ?_) | (refine ⟨rfl, hK1 _ ?_⟩)); clear hK1 K1; rw [hh]; clear hh hz) | (refine (h2 _).mono ?_; rintro _ hz ⟨rfl, hh⟩; (first | (refine hK1 _ ?_) | (refine ⟨rfl, hK1 _ ?_⟩)); clear hK1 K1; rw [hh]; clear hh hz) | (refine (h3 _ _).mono ?_; rintro _ hz ⟨rfl, hh⟩; (first | (refine hK1 _ ?_) | (refine ⟨rfl, hK1 _ ?_⟩)); clear hK1 K1; rw [hh]; clear hh hz)))
 intro p hp
 refine hK1 _ ?_; clear hK1 K1
 (repeat (first | refine gO rfl ?_ | (refine gM zM14 fun K1 hK1 => ?_; simp only [go_sem, ↓reduceIte, reduceCtorEq, nA, nB, nC, nD, nE, nF, Int.reduceBEq, Int.reduceTMod, Int.reduceTDiv, Int.reduceMul, Int.reduceBNe, Int.reduceLT, Int.reduceLE, Int.reduceAdd, Int.reduceSub, Int.reduceNeg, decide_true, decide_false, Bool.true_and, Bool.false_and, Bool.and_true, Bool.and_false, Bool.or_false, Bool.or_true, Bool.true_or, Bool.false_or, Bool.not_true, Bool.not_false, true_implies, false_implies, true_and, and_true, Int.reduceToNat] <;> and_intros <;> first | (apply hK1; clear hK1 K1) | (intros; first | omega | decide) | skip) | (refine awp_cond (t := _) rfl (fun hq => ?_) (fun hq => ?_) <;> first | (exact absurd hq (by decide)) | (cases hq; done) | (clear hq)) | (refine awp_un 8 ?_) | (with_reducible exact rfl) | (with_reducible exact trivial) | ((with_reducible show uside _); first | exact True.intro | exact rfl) | ((with_reducible show opS _ _); exact True.intro) | (refine ⟨AV.v (.bool true), rfl, hK1 _ ?_⟩; clear hK1 K1) | (refine (h1 _).mono ?_; rintro _ hz ⟨rfl, hh⟩; (first | (refine hK1 _ ?_) | (refine ⟨rfl, hK1 _ ?_⟩)); clear hK1 K1; rw [hh]; clear hh hz) | (refine (h2 _).mono ?_; rintro _ hz ⟨rfl, hh⟩; (first | (refine hK1 _ ?_) | (refine ⟨rfl, hK1 _ ?_⟩)); clear hK1 K1; rw [hh]; clear hh hz) | (refine (h3 _ _).mono ?_; rintro _ hz ⟨rfl, hh⟩; (first | (refine hK1 _ ?_) | (refine ⟨rfl, hK1 _ ?_⟩)); clear hK1 K1; rw [hh]; clear hh hz)))
 simp only [Tryz.results196, go_sem, ↓reduceIte, reduceCtorEq, nA, nB, nC, nD, nE, nF]
 exact ⟨_, h, Weak.refl _, hle_obj hp, rfl, rfl⟩
def ndN : List AV := ndCp 1 sN
open Go.RowKit
theorem bon {a b c : World} (h : Below a.heap.size a b) (k : Below b.heap.size b c) : Below a.heap.size a c := h.trans (k.mono h.size)
theorem bfirst (a : World) (o : Obj) : Below a.heap.size a (a.alloc o) := (Below.refl _ _).alloc (Nat.le_refl _) o
theorem bold {a b : World} (k : Below a.heap.size a b) {p : Addr} {v : Value} (h : a.cell? p = some v) : b.cell? p = some v :=
  (k.cell (World.block_lt_of_cell? a _ h)).trans h
open Go Go.RowKit
def fV : List Value := [.string sN, .int .i64 2, .string ⟨#[]⟩, .int .i64 5, .bool false, .slice none 0 0]
def fC : List AV := fV.map .v
theorem w_cmp (w : World) : Calls Tryz.prog 202 #[.agg #[.string sN, .int .i64 2, .string ⟨#[]⟩, .int .i64 5, .bool false, .slice none 0 0], .string sN] w fun e w' => e = .returned (.int .i64 0) ∧ Below w.heap.size w w' := by
 have HC := fun w => Tryz.strings_Compare sN sN w
 go_enter Tryz.func202, Tryz.ntmps202
 go_wp2_with fail
 refine (HC _).mono ?_
 rintro e w1 ⟨rfl, rfl⟩
 go_wp2_with fail
 go_ret
 exact ⟨rfl, bfirst _ _⟩
theorem w_search (b o c : Nat) (w : World) (hbl : b < w.heap.size) (h0 : ∀ j (hj : j < fV.length), w.cell? ⟨b, o + j, none⟩ = some fV[j]) :
  Calls Tryz.prog 201 #[.slice (some ⟨b, o, none⟩) 1 c, .string sN, .func (.func 202) #[] #[]] w fun e w' => e = .returned (.tuple #[.int .i64 0, .bool true]) ∧ Below w.heap.size w w' := by
 have c0 := h0 0 (by decide)
 have c1 := h0 1 (by decide)
 have c2 := h0 2 (by decide)
 have c3 := h0 3 (by decide)
 have c4 := h0 4 (by decide)
 have c5 := h0 5 (by decide)
 simp only [fV, List.getElem_cons_zero, List.getElem_cons_succ] at c0 c1 c2 c3 c4 c5
 have hcl : ∀ j v, j < 6 → w.cell? ⟨b, o + j, none⟩ = some v → ∀ wr, Below w.heap.size w wr → wr.cell? ⟨b, o + j, none⟩ = some v := fun j v _ hv wr hb => bold hb hv
 have HC := Lib.hid (show ∀ wr, Below w.heap.size w wr → b < wr.heap.size ∧ wr.cell? ⟨b, o, none⟩ = some (.string sN) ∧ wr.cell? ⟨b, o + 1, none⟩ = some (.int .i64 2) ∧ wr.cell? ⟨b, o + 2, none⟩ = some (.string ⟨#[]⟩) ∧ wr.cell? ⟨b, o + 3, none⟩ = some (.int .i64 5) ∧ wr.cell? ⟨b, o + 4, none⟩ = some (.bool false) ∧ wr.cell? ⟨b, o + 5, none⟩ = some (.slice none 0 0) from fun wr hb => ⟨Nat.lt_of_lt_of_le hbl hb.size, bold hb c0, bold hb c1, bold hb c2, bold hb c3, bold hb c4, bold hb c5⟩)
 have eg := enters_of Tryz.func202 (by kernel_rfl) rfl
 clear h0 c0 c1 c2 c3 c4 c5 hcl hbl
 go_enter Tryz.func201, Tryz.ntmps201
 go_wp2_with fail
 go_loopg [9, 10, 11] 1 (fun g s9 s10 _ wr => ∃ hi : Nat, s9 = .int .i64 0 ∧ s10 = .int .i64 hi ∧ hi ≤ 1 ∧ hi ≤ g ∧ Below w.heap.size w wr)
 case atStart => exact ⟨1, rfl, rfl, by omega, by omega, Below.refl _ _⟩
 case round =>
  obtain ⟨hi, rfl, rfl, h1, hg, hb⟩ := hrel
  obtain ⟨hbl, c0, c1, c2, c3, c4, c5⟩ := HC.out wr hb
  obtain rfl | rfl : hi = 0 ∨ hi = 1 := by omega
  ·go_wp2_with fail
   refine (w_cmp _).mono ?_
   rintro e w1 ⟨rfl, hb1⟩
   go_wp2_with fail
   go_ret2
   exact ⟨rfl, bon hb hb1⟩
  ·have hgk : gk ≠ 0 := by omega
   go_wp2_with fail
   refine (w_cmp _).mono ?_
   rintro e w1 ⟨rfl, hb1⟩
   go_wp2_with fail
   go_roundg 0
   case measure => omega
   case rel => exact ⟨0, rfl, rfl, by omega, by omega, bon hb hb1⟩
theorem infoByte : (Tryz.prog.info? 5).map (fun i => (i.zero, i.size, i.bytes)) = some (some (.int .u8 0), 1, 1) := by kernel_rfl
theorem sizeBuilder : (Tryz.prog.info? 74).map (·.size) = some 2 := by kernel_rfl
set_option maxHeartbeats 1000000 in
set_option maxRecDepth 100000 in
theorem copyCheck_used (b : Nat) (w : World) (h0 : w.cell? ⟨b, 0, none⟩ = some (.pointer (some ⟨b, 0, none⟩))) :
    Calls Tryz.prog 71 #[.pointer (some ⟨b, 0, none⟩)] w fun e w' => e = .returned (.tuple #[]) ∧ w' = w := by
  obtain ⟨j, hj, _⟩ := Option.map_eq_some_iff.1 sizeBuilder
  go_enter Tryz.func71, Tryz.ntmps71
  go_wp2
  rw [Lib.run_neq_ptr_same w _ Tryz.underlying71 hj]
  go_wp2
  go_end0
  exact ⟨rfl, rfl⟩
set_option maxHeartbeats 1000000 in
set_option maxRecDepth 100000 in
theorem copyCheck_fresh (b : Nat) (w : World) (h0 : w.cell? ⟨b, 0, none⟩ = some (.pointer none)) (hsh : w.shape? b = some (74, 2)) (hfz : w.frozen? ⟨b, 0, none⟩ = false) :
    Calls Tryz.prog 71 #[.pointer (some ⟨b, 0, none⟩)] w fun e w' => e = .returned (.tuple #[]) ∧ w' = w.setCell ⟨b, 0, none⟩ (.pointer (some ⟨b, 0, none⟩)) := by
  obtain ⟨j, hj, hjs⟩ := Option.map_eq_some_iff.1 sizeBuilder
  go_enter Tryz.func71, Tryz.ntmps71
  go_wp2
  rw [Lib.run_to_unsafe w ⟨b, 0, none⟩ Tryz.underlying71 Tryz.underlying159 hj (by rw [hjs]; decide) hsh (Nat.zero_lt_succ 1)]
  simp only [Result.andThen]
  rw [Oper.upon_value]
  go_wp2
  rw [run_callFunc_extern Tryz.func102 (by kernel_rfl) (by kernel_rfl) (by kernel_rfl) (e := Extern.AbiNoEscape.same) (by kernel_rfl)]
  rw [Lib.run_noEscape]
  simp only [Result.andThen]
  rw [Oper.upon_value]
  go_wp2
  rw [Lib.run_from_unsafe w ⟨b, 0, none⟩ Tryz.underlying159 Tryz.underlying71 hj hsh (by kernel_rfl)]
  simp only [Result.andThen]
  rw [Oper.upon_value]
  go_wp2
  go_end0
  exact ⟨rfl, rfl⟩
end Go.Proofs.YtlaakjlpfgfdkaaGreatDoor
