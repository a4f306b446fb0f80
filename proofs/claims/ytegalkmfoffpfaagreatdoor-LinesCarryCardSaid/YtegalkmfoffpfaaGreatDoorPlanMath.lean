/- Plans and faster lines: the plain law. -/
import Derived.Test.YtegalkmfoffpfaaGreatDoorDoneWalk
import Derived.Test.YtegalkmfoffpfaaGreatDoorSortMath
import Derived.Test.YtegalkmfoffpfaaGreatDoorNeeds
import Derived.Sort.LotA
namespace Go.Proofs.YtegalkmfoffpfaaGreatDoor
open Go.Sort

/-! ### an insertion sort holds the same elements -/
section
variable {α : Type} [Inhabited α]
theorem insOuter_size (lt : α → α → Bool) (a b : Nat) : ∀ (m i : Nat) (d : Array α), m + i = b ∨ b ≤ i → (insOuter lt a b i d).size = d.size := by
  intro m
  induction m with
  | zero => intro i d h; rw [insOuter, if_neg (by omega)]
  | succ m ih =>
    intro i d h
    rw [insOuter]
    split
    · rw [ih (i + 1) _ (by omega), insInner_size]
    · rfl
theorem sort_size (lt : α → α → Bool) (d : Array α) : (insertionSort lt d 0 d.size).size = d.size := by
  rw [insertionSort]
  exact insOuter_size lt 0 d.size (d.size - 1) 1 d (by omega)
theorem insOuter_get (lt : α → α → Bool) (n : Nat) : ∀ (m i : Nat) (d : Array α), m + i = n ∨ n ≤ i → n ≤ d.size → ∀ p, p < n → ∃ p', p' < n ∧ (insOuter lt 0 n i d)[p]! = d[p']! := by
  intro m
  induction m with
  | zero => intro i d h hn p hp; rw [insOuter, if_neg (by omega)]; exact ⟨p, hp, rfl⟩
  | succ m ih =>
    intro i d h hn p hp
    rw [insOuter]
    split
    · obtain ⟨p', hp', e⟩ := ih (i + 1) (insInner lt 0 i d) (by omega) (by rw [insInner_size]; exact hn) p hp
      rw [e]
      by_cases hq : p' ≤ i
      · obtain ⟨p2, h2, e2⟩ := (insInner_get lt i d (by omega) p').2 hq
        exact ⟨p2, by omega, e2⟩
      · exact ⟨p', hp', (insInner_get lt i d (by omega) p').1 (by omega)⟩
    · exact ⟨p, hp, rfl⟩
theorem swp_mem (d : Array α) {j : Nat} (hj : j + 1 < d.size) (p : Nat) (hp : p < d.size) : ∃ p', p' < d.size ∧ d[p]! = (swp d (j + 1) j)[p']! := by
  by_cases h1 : p = j
  · exact ⟨j + 1, hj, by rw [swp_get d hj, if_neg (by omega), if_pos rfl, h1]⟩
  · by_cases h2 : p = j + 1
    · exact ⟨j, by omega, by rw [swp_get d hj, if_pos rfl, h2]⟩
    · exact ⟨p, hp, by rw [swp_get d hj, if_neg h1, if_neg h2]⟩
theorem insInner_mem (lt : α → α → Bool) : ∀ (j : Nat) (d : Array α), j < d.size → ∀ p, p < d.size → ∃ p', p' < d.size ∧ d[p]! = (insInner lt 0 j d)[p']! := by
  intro j
  induction j with
  | zero => intro d _ p hp; exact ⟨p, hp, rfl⟩
  | succ j ih =>
    intro d hj p hp
    rw [insInner]
    split
    · obtain ⟨p1, h1, e1⟩ := swp_mem d hj p hp
      obtain ⟨p2, h2, e2⟩ := ih (swp d (j + 1) j) (by rw [swp_size]; omega) p1 (by rw [swp_size]; exact h1)
      exact ⟨p2, by rw [swp_size] at h2; exact h2, e1.trans e2⟩
    · exact ⟨p, hp, rfl⟩
theorem insOuter_mem (lt : α → α → Bool) (n : Nat) : ∀ (m i : Nat) (d : Array α), m + i = n ∨ n ≤ i → n = d.size → ∀ p, p < n → ∃ p', p' < n ∧ d[p]! = (insOuter lt 0 n i d)[p']! := by
  intro m
  induction m with
  | zero => intro i d h hn p hp; rw [insOuter, if_neg (by omega)]; exact ⟨p, hp, rfl⟩
  | succ m ih =>
    intro i d h hn p hp
    rw [insOuter]
    split
    · obtain ⟨p1, h1, e1⟩ := insInner_mem lt i d (by omega) p (by omega)
      obtain ⟨p2, h2, e2⟩ := ih (i + 1) (insInner lt 0 i d) (by omega) (by rw [insInner_size]; exact hn) p1 (by omega)
      exact ⟨p2, h2, e1.trans e2⟩
    · exact ⟨p, hp, rfl⟩
/-- The sorted row, as a list. -/
def srt (lt : α → α → Bool) (l : List α) : List α := (insertionSort lt l.toArray 0 l.length).toList
theorem srt_len (lt : α → α → Bool) (l : List α) : (srt lt l).length = l.length := by
  have := sort_size lt l.toArray
  simpa [srt] using this
theorem get_eq {d : Array α} {p : Nat} (h : p < d.size) : d[p]! = d[p] := by simp [h]
theorem mem_srt (lt : α → α → Bool) (l : List α) (x : α) : x ∈ srt lt l ↔ x ∈ l := by
  have hs := sort_size lt l.toArray
  simp only [List.size_toArray] at hs
  unfold srt
  rw [Array.mem_toList_iff]
  constructor
  · intro h
    obtain ⟨p, hp, rfl⟩ := Array.getElem_of_mem h
    have hp2 : p < l.length := by omega
    obtain ⟨p', hp', e⟩ := insOuter_get lt l.length (l.length - 1) 1 l.toArray (by omega) (by simp) p hp2
    have e0 := get_eq hp
    rw [← e0]
    rw [insertionSort, show 0 + 1 = 1 from rfl, e, get_eq (by simpa using hp')]
    simp
  · intro h
    obtain ⟨p, hp, rfl⟩ := List.getElem_of_mem h
    obtain ⟨p', hp', e⟩ := insOuter_mem lt l.length (l.length - 1) 1 l.toArray (by omega) (by simp) p hp
    have e0 : l.toArray[p]! = l[p] := by rw [get_eq (by simpa using hp)]; simp
    rw [← e0, e, get_eq (by show p' < (insertionSort lt l.toArray 0 l.length).size; omega)]
    exact Array.getElem_mem _
theorem srt_cong (l1 l2 : α → α → Bool) (l : List α) (h : ∀ p q, (hp : p < q) → (hq : q < l.length) → l1 l[q] (l[p]'(by omega)) = l2 l[q] (l[p]'(by omega))) : srt l1 l = srt l2 l := by
  unfold srt
  have := sort_cong l1 l2 l.toArray (fun p q hp hq => by
    have hq' : q < l.length := by simpa using hq
    rw [get_eq (by simpa using hq'), get_eq (show p < l.toArray.size by simp; omega)]
    simpa using h p q hp hq')
  simp only [List.size_toArray] at this
  rw [this]
end

/-! ### what comes when -/
abbrev CameD := ByteArray × Int × Int
def comeT (ls : List LinkD) (a b : Int) : Int := (tellD ls a b).getD 345686400000
def cameL (ls : List LinkD) (a : Int) : Int → List NeedD → List CameD
  | _, [] => []
  | s, x :: r => (x.1, comeT ls a (s + x.2.1), max 0 (comeT ls a (s + x.2.1) - x.2.2)) :: cameL ls a (s + x.2.1) r
theorem cameL_len (ls : List LinkD) (a : Int) : ∀ (s : Int) (l : List NeedD), (cameL ls a s l).length = l.length
  | _, [] => rfl
  | s, x :: r => by simp [cameL, cameL_len ls a _ r]
def sumN (l : List NeedD) : Int := (l.map fun x => x.2.1).sum
theorem cameL_snoc (ls : List LinkD) (a : Int) : ∀ (l : List NeedD) (s : Int) (x : NeedD), cameL ls a s (l ++ [x]) = cameL ls a s l ++ [(x.1, comeT ls a (s + sumN l + x.2.1), max 0 (comeT ls a (s + sumN l + x.2.1) - x.2.2))]
  | [], s, x => by simp [cameL, sumN]
  | y :: r, s, x => by
    simp only [List.cons_append, cameL, cameL_snoc ls a r]
    rw [show s + y.2.1 + sumN r = s + sumN (y :: r) by simp [sumN]; omega]
theorem sumB_snoc (l : List NeedD) (x : NeedD) : sumN (l ++ [x]) = sumN l + x.2.1 := by simp [sumN]
def dueLt (x y : NeedD) : Bool := decide (Lib.compareInt x.2.2 y.2.2 < 0)
def keyLt (x y : ByteArray) : Bool := decide (Lib.compareBytes x.data.toList y.data.toList < 0)
def bothC (x y : NeedD) : Int := if Lib.compareInt x.2.2 y.2.2 = 0 then Lib.compareBytes x.1.data.toList y.1.data.toList else Lib.compareInt x.2.2 y.2.2
/-- The order in which the needs are sent. -/
def ordD (ns : List NeedD) : List NeedD := srt dueLt ns
def planL (ls : List LinkD) (a : Int) (ns : List NeedD) : List CameD := cameL ls a 0 (ordD ns)
def planS (ls : List LinkD) (a : Int) (ns : List NeedD) : List CameD := srt (fun x y => keyLt x.1 y.1) (planL ls a ns)
def anyLate (l : List CameD) : Bool := l.any fun c => decide (0 < c.2.2)
theorem anyLate_plan (ls : List LinkD) (a : Int) (ns : List NeedD) : anyLate (planS ls a ns) = anyLate (planL ls a ns) := by
  rw [Bool.eq_iff_iff, anyLate, anyLate, List.any_eq_true, List.any_eq_true]
  constructor
  · rintro ⟨x, hx, h⟩; exact ⟨x, (mem_srt _ _ x).1 hx, h⟩
  · rintro ⟨x, hx, h⟩; exact ⟨x, (mem_srt _ _ x).2 hx, h⟩
theorem planS_len (ls : List LinkD) (a : Int) (ns : List NeedD) : (planS ls a ns).length = ns.length := by
  rw [planS, srt_len, planL, cameL_len, ordD, srt_len]

/-! ### faster lines are no later -/
theorem comeT_mono {ls : List LinkD} (h : LinksOk ls) {p q : Int} (hp : 100 ≤ p) (hpq : p ≤ q) (a b : Int) (hb : 0 ≤ b) : comeT (ls.map (fastL q)) a b ≤ comeT (ls.map (fastL p)) a b := by
  unfold comeT tellD
  by_cases e : b = 0
  · rw [if_pos e, if_pos e]; exact Int.le_refl _
  · rw [if_neg e, if_neg e]
    have t1 := doneL_tells (fast_ok h hp) a (b := b) (by omega)
    have t2 := doneL_tells (fast_ok h (show 100 ≤ q by omega)) a (b := b) (by omega)
    have hc := fun t => fast_car h hp hpq a t
    cases h1 : doneL (ls.map (fastL p)) a b with
    | none =>
      cases h2 : doneL (ls.map (fastL q)) a b with
      | none => exact Int.le_refl _
      | some t => rw [h2] at t2; exact t2.2.1
    | some t =>
      rw [h1] at t1
      cases h2 : doneL (ls.map (fastL q)) a b with
      | none => rw [h2] at t2; have := t2 t; have := hc t; have := t1.2.2.1; omega
      | some t' =>
        rw [h2] at t2
        show t' ≤ t
        rcases Int.lt_or_le t t' with h3 | h3
        · have := t2.2.2.2 t h3; have := hc t; have := t1.2.2.1; omega
        · exact h3
theorem cameL_late {ls : List LinkD} (h : LinksOk ls) {p q : Int} (hp : 100 ≤ p) (hpq : p ≤ q) (a : Int) : ∀ (l : List NeedD) (s : Int), 0 ≤ s → (∀ x ∈ l, 0 ≤ x.2.1) → anyLate (cameL (ls.map (fastL q)) a s l) = true → anyLate (cameL (ls.map (fastL p)) a s l) = true
  | [], _, _, _, h2 => h2
  | x :: r, s, hs, hx, h2 => by
    have hx0 := hx x (by simp)
    have hm := comeT_mono h hp hpq a (s + x.2.1) (by omega)
    simp only [cameL, anyLate, List.any_cons, Bool.or_eq_true, decide_eq_true_eq] at h2 ⊢
    rcases h2 with h2 | h2
    · left; omega
    · right; exact cameL_late h hp hpq a r (s + x.2.1) (by omega) (fun y hy => hx y (by simp [hy])) h2
/-- Whether something is late at so many hundredths of the speed. -/
def lateB (ls : List LinkD) (a : Int) (ns : List NeedD) (p : Int) : Bool := anyLate (planS (ls.map (fastL p)) a ns)
theorem lateB_mono {ls : List LinkD} (h : LinksOk ls) {p q : Int} (hp : 100 ≤ p) (hpq : p ≤ q) {a : Int} (_ha : a ≤ 345686400000) {ns : List NeedD} (hn : ∀ x ∈ ns, 0 ≤ x.2.1) (hl : lateB ls a ns q = true) : lateB ls a ns p = true := by
  unfold lateB at *
  rw [anyLate_plan] at *
  exact cameL_late h hp hpq a _ 0 (Int.le_refl _) (fun x hx => hn x ((mem_srt _ _ x).1 hx)) hl
/-- What Faster tells. -/
def FastIs (ls : List LinkD) (a : Int) (ns : List NeedD) : Option Int → Prop
  | some p => 100 ≤ p ∧ p ≤ 100000 ∧ lateB ls a ns p = false ∧ ∀ q, 100 ≤ q → q < p → lateB ls a ns q = true
  | none => lateB ls a ns 100000 = true
theorem FastIs.one {ls : List LinkD} (h : LinksOk ls) {a : Int} (ha : a ≤ 345686400000) {ns : List NeedD} (hn : ∀ x ∈ ns, 0 ≤ x.2.1) {o o' : Option Int} (h1 : FastIs ls a ns o) (h2 : FastIs ls a ns o') : o = o' := by
  have no : ∀ p, FastIs ls a ns (some p) → FastIs ls a ns none → False := fun p h1 h2 => by
    have := lateB_mono h h1.1 h1.2.1 ha hn h2
    rw [h1.2.2.1] at this; cases this
  cases o with
  | none =>
    cases o' with
    | none => rfl
    | some p => exact (no p h2 h1).elim
  | some p =>
    cases o' with
    | none => exact (no p h1 h2).elim
    | some p' =>
      rcases Int.lt_trichotomy p p' with h3 | h3 | h3
      · have := h2.2.2.2 p h1.1 h3; rw [h1.2.2.1] at this; cases this
      · rw [h3]
      · have := h1.2.2.2 p' h2.1 h3; rw [h2.2.2.1] at this; cases this
/-- Due alone and due with key sort alike, as the keys rise. -/
theorem ordD_both {ns : List NeedD} (h : ∀ p q, (hp : p < q) → (hq : q < ns.length) → 0 ≤ Lib.compareBytes ns[q].1.data.toList (ns[p]'(by omega)).1.data.toList) : srt (fun x y => decide (bothC x y < 0)) ns = ordD ns := by
  refine srt_cong _ _ ns fun p q hp hq => ?_
  have := h p q hp hq
  unfold dueLt bothC
  by_cases e : Lib.compareInt ns[q].2.2 (ns[p]'(by omega)).2.2 = 0
  · rw [if_pos e, e]
    simp
    omega
  · rw [if_neg e]
end Go.Proofs.YtegalkmfoffpfaaGreatDoor
