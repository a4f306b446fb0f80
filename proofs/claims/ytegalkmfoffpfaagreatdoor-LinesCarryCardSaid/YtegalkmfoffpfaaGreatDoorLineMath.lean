/- Lines that carry bytes: the plain law. Imports nothing of the program. -/
namespace Go.Proofs.YtegalkmfoffpfaaGreatDoor

abbrev LinkD := Int × Int × Int
/-- What a line carries from a to t. -/
def linC (x : LinkD) (a t : Int) : Int := x.2.2 * max 0 (min x.2.1 t - max x.1 a)
def car (ls : List LinkD) (a t : Int) : Int := (ls.map fun x => linC x a t).sum
theorem car_cons (x : LinkD) (r : List LinkD) (a t : Int) : car (x :: r) a t = linC x a t + car r a t := by simp [car]
def okLink (x : LinkD) : Prop := 0 ≤ x.1 ∧ x.1 < x.2.1 ∧ x.2.1 ≤ 345686400000 ∧ 1 ≤ x.2.2 ∧ x.2.2 ≤ 1000000
structure LinksOk (ls : List LinkD) : Prop where
  each : ∀ x ∈ ls, okLink x
  rise : ls.Pairwise fun x y => x.2.1 ≤ y.1
theorem LinksOk.tail {x : LinkD} {r : List LinkD} (h : LinksOk (x :: r)) : LinksOk r := ⟨fun y hy => h.each y (by simp [hy]), (List.pairwise_cons.1 h.rise).2⟩
theorem linC_zero {x : LinkD} {a t : Int} (h : t ≤ x.1) : linC x a t = 0 := by
  unfold linC
  rw [show max 0 (min x.2.1 t - max x.1 a) = 0 by omega, Int.mul_zero]
theorem car_zero {ls : List LinkD} {a t : Int} (h : ∀ x ∈ ls, t ≤ x.1) : car ls a t = 0 := by
  induction ls with
  | nil => rfl
  | cons x r ih => rw [car_cons, linC_zero (h x (by simp)), ih fun y hy => h y (by simp [hy])]; rfl
theorem linC_nonneg {x : LinkD} (h : okLink x) (a t : Int) : 0 ≤ linC x a t := Int.mul_nonneg (by have := h.2.2.2.1; omega) (by omega)
/-- All that it can carry from a on. -/
def canL (x : LinkD) (a : Int) : Int := max 0 (x.2.1 - max x.1 a) * x.2.2
theorem linC_le {x : LinkD} (h : okLink x) (a t : Int) : linC x a t ≤ canL x a := by
  unfold linC canL
  rw [Int.mul_comm]
  exact Int.mul_le_mul_of_nonneg_right (by omega) (by have := h.2.2.2.1; omega)
theorem linC_full {x : LinkD} {a t : Int} (h : x.2.1 ≤ t) : linC x a t = canL x a := by
  unfold linC canL
  rw [Int.mul_comm, show min x.2.1 t = x.2.1 by omega]
def doneL : List LinkD → Int → Int → Option Int
  | [], _, _ => none
  | x :: r, a, b => if b ≤ canL x a then some (max x.1 a + (b + x.2.2 - 1) / x.2.2) else doneL r a (b - canL x a)
theorem car_nonneg {ls : List LinkD} (h : LinksOk ls) (a t : Int) : 0 ≤ car ls a t := by
  induction ls with
  | nil => simp [car]
  | cons x r ih => rw [car_cons]; have := linC_nonneg (h.each x (by simp)) a t; have := ih h.tail; omega
/-- What done tells: the first moment by which so much is carried. -/
def Tells (ls : List LinkD) (a b : Int) : Option Int → Prop
  | some t => a ≤ t ∧ t ≤ 345686400000 ∧ b ≤ car ls a t ∧ ∀ t', t' < t → car ls a t' < b
  | none => ∀ t, car ls a t < b
theorem doneL_tells {ls : List LinkD} (h : LinksOk ls) (a : Int) : ∀ {b : Int}, 0 < b → Tells ls a b (doneL ls a b) := by
  induction ls with
  | nil => intro b hb t; simpa [car] using hb
  | cons x r ih =>
    intro b hb
    have hx := h.each x (by simp)
    obtain ⟨x0, x1, x2, x3, x4⟩ := hx
    have hr : ∀ y ∈ r, x.2.1 ≤ y.1 := (List.pairwise_cons.1 h.rise).1
    unfold doneL
    by_cases hc : b ≤ canL x a
    · rw [if_pos hc]
      have hpos : max x.1 a < x.2.1 := by
        rcases Int.lt_or_le (max x.1 a) x.2.1 with h1 | h1
        · exact h1
        · unfold canL at hc
          rw [show max 0 (x.2.1 - max x.1 a) = 0 by omega, Int.zero_mul] at hc
          omega
      have e1 : x.2.2 * ((b + x.2.2 - 1) / x.2.2) ≤ b + x.2.2 - 1 := Int.mul_ediv_self_le (by omega)
      have e2 : b + x.2.2 - 1 < x.2.2 * ((b + x.2.2 - 1) / x.2.2) + x.2.2 := Int.lt_mul_ediv_self_add (by omega)
      have q0 : 0 ≤ (b + x.2.2 - 1) / x.2.2 := Int.ediv_nonneg (by omega) (by omega)
      generalize (b + x.2.2 - 1) / x.2.2 = q at *
      have hq : max x.1 a + q ≤ x.2.1 := by
        rcases Int.lt_or_le x.2.1 (max x.1 a + q) with h1 | h1
        · exfalso
          unfold canL at hc
          rw [show max 0 (x.2.1 - max x.1 a) = x.2.1 - max x.1 a by omega, Int.mul_comm] at hc
          have : x.2.2 * (x.2.1 - max x.1 a) ≤ x.2.2 * (q - 1) := Int.mul_le_mul_of_nonneg_left (by omega) (by omega)
          rw [Int.mul_sub, Int.mul_sub] at this
          rw [Int.mul_sub] at hc
          omega
        · exact h1
      refine ⟨by omega, by omega, ?_, fun t' ht => ?_⟩
      · rw [car_cons, car_zero fun y hy => by have := hr y hy; omega]
        unfold linC
        rw [show max 0 (min x.2.1 (max x.1 a + q) - max x.1 a) = q by omega]
        omega
      · rw [car_cons, car_zero fun y hy => by have := hr y hy; omega]
        unfold linC
        have : x.2.2 * max 0 (min x.2.1 t' - max x.1 a) ≤ x.2.2 * max 0 (q - 1) := Int.mul_le_mul_of_nonneg_left (by omega) (by omega)
        rcases Int.lt_or_le q 1 with h1 | h1
        · rw [show max 0 (q - 1) = 0 by omega, Int.mul_zero] at this; omega
        · rw [show max 0 (q - 1) = q - 1 by omega, Int.mul_sub] at this; omega
    · rw [if_neg hc]
      have ihr := ih h.tail (b := b - canL x a) (by omega)
      cases hd : doneL r a (b - canL x a) with
      | none =>
        rw [hd] at ihr
        intro t
        have := ihr t
        have := linC_le (h.each x (by simp)) a t
        rw [car_cons]; omega
      | some t =>
        rw [hd] at ihr
        obtain ⟨h1, h2, h3, h4⟩ := ihr
        refine ⟨h1, h2, ?_, fun t' ht => ?_⟩
        · have hge : x.2.1 ≤ t := by
            rcases Int.lt_or_le t x.2.1 with h5 | h5
            · exfalso
              rw [car_zero fun y hy => by have := hr y hy; omega] at h3
              omega
            · exact h5
          rw [car_cons, linC_full hge]; omega
        · have := h4 t' ht
          have := linC_le (h.each x (by simp)) a t'
          rw [car_cons]; omega
theorem linC_mono {x : LinkD} (h : okLink x) (a : Int) {t t' : Int} (ht : t ≤ t') : linC x a t ≤ linC x a t' := Int.mul_le_mul_of_nonneg_left (by omega) (by have := h.2.2.2.1; omega)
theorem car_mono {ls : List LinkD} (h : LinksOk ls) (a : Int) {t t' : Int} (ht : t ≤ t') : car ls a t ≤ car ls a t' := by
  induction ls with
  | nil => simp [car]
  | cons x r ih => rw [car_cons, car_cons]; have := linC_mono (h.each x (by simp)) a ht; have := ih h.tail; omega
/-- Tells is told once. -/
theorem Tells.one {ls : List LinkD} {a b : Int} {o o' : Option Int} (h : Tells ls a b o) (h' : Tells ls a b o') : o = o' := by
  cases o with
  | none =>
    cases o' with
    | none => rfl
    | some t => have := h t; have := h'.2.2.1; omega
  | some t =>
    cases o' with
    | none => have := h' t; have := h.2.2.1; omega
    | some t' =>
      rcases Int.lt_trichotomy t t' with h1 | h1 | h1
      · have := h'.2.2.2 t h1; have := h.2.2.1; omega
      · rw [h1]
      · have := h.2.2.2 t' h1; have := h'.2.2.1; omega
/-- How much faster lines carry. -/
def fastL (p : Int) (x : LinkD) : LinkD := (x.1, x.2.1, min (x.2.2 * p / 100) 1000000)
theorem fastL_ok {x : LinkD} (h : okLink x) {p : Int} (hp : 100 ≤ p) : okLink (fastL p x) := by
  obtain ⟨h0, h1, h2, h3, h4⟩ := h
  refine ⟨h0, h1, h2, ?_, by show min _ _ ≤ _; omega⟩
  have : 1 ≤ x.2.2 * p / 100 := by
    have : 1 * 100 ≤ x.2.2 * p := Int.mul_le_mul h3 hp (by omega) (by omega)
    omega
  show 1 ≤ min _ _
  omega
theorem fast_ok {ls : List LinkD} (h : LinksOk ls) {p : Int} (hp : 100 ≤ p) : LinksOk (ls.map (fastL p)) := by
  refine ⟨fun y hy => ?_, ?_⟩
  · obtain ⟨x, hx, rfl⟩ := List.mem_map.1 hy
    exact fastL_ok (h.each x hx) hp
  · rw [List.pairwise_map]; exact h.rise
theorem fast_car {ls : List LinkD} (h : LinksOk ls) {p q : Int} (_hp : 100 ≤ p) (hpq : p ≤ q) (a t : Int) : car (ls.map (fastL p)) a t ≤ car (ls.map (fastL q)) a t := by
  induction ls with
  | nil => simp [car]
  | cons x r ih =>
    rw [List.map_cons, List.map_cons, car_cons, car_cons]
    have h1 := ih h.tail
    have h2 : linC (fastL p x) a t ≤ linC (fastL q x) a t := by
      unfold linC fastL
      refine Int.mul_le_mul_of_nonneg_right ?_ (by omega)
      have := (h.each x (by simp)).2.2.2.1
      have : x.2.2 * p ≤ x.2.2 * q := Int.mul_le_mul_of_nonneg_left hpq (by omega)
      show min (x.2.2 * p / 100) 1000000 ≤ min (x.2.2 * q / 100) 1000000
      omega
    omega
end Go.Proofs.YtegalkmfoffpfaaGreatDoor
