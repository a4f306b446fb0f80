/- faster, inTime: lines with so many hundredths of their speed. -/
import Derived.Test.YtegalkmfoffpfaaGreatDoorCameLib
namespace Go.Proofs.YtegalkmfoffpfaaGreatDoor
open Go.RowKit Go.Sort Go.Lib
theorem flatK_set {α : Type} {enc : α → List Value} {k : Nat} (hk : ∀ x, (enc x).length = k) : ∀ (l : List α) (j i : Nat) (y : α) (v : Value) (hj : j < l.length), i < k → enc y = (enc l[j]).set i v → (l.flatMap enc).set (j * k + i) v = (l.set j y).flatMap enc
  | [], _, _, _, _, hj, _, _ => absurd hj (by simp)
  | x :: r, 0, i, y, v, _, hi, he => by
    rw [List.flatMap_cons, Nat.zero_mul, Nat.zero_add, List.set_append_left _ _ (by rw [hk]; exact hi)]
    simp only [List.set_cons_zero, List.flatMap_cons]
    rw [he]; rfl
  | x :: r, j + 1, i, y, v, hj, hi, he => by
    rw [List.flatMap_cons, List.set_append_right _ _ (by rw [hk, Nat.add_mul]; omega), hk, show (j + 1) * k + i - k = j * k + i by rw [Nat.add_mul]; omega, flatK_set hk r j i y v (by simpa using hj) hi (by simpa using he)]
    simp
def mixL (p : Int) (k : Nat) (ls : List LinkD) : List LinkD := (ls.take k).map (fastL p) ++ ls.drop k
theorem mixL_len (p : Int) (k : Nat) (ls : List LinkD) : (mixL p k ls).length = ls.length := by simp [mixL]; omega
theorem mixL_at (p : Int) {k : Nat} (ls : List LinkD) (h : k < ls.length) : (mixL p k ls)[k]'(by rw [mixL_len]; exact h) = ls[k] := by
  unfold mixL
  rw [List.getElem_append_right (by simp; omega)]
  simp [Nat.min_eq_left (Nat.le_of_lt h)]
theorem mixL_succ (p : Int) {k : Nat} (ls : List LinkD) (h : k < ls.length) : (mixL p k ls).set k (fastL p ls[k]) = mixL p (k + 1) ls := by
  unfold mixL
  rw [List.set_append_right _ _ (by simp; omega), List.take_succ_eq_append_getElem h, List.map_append]
  simp [Nat.min_eq_left (Nat.le_of_lt h)]
  rw [List.drop_eq_getElem_cons h]; rfl
theorem mixL_store (p : Int) {k : Nat} (ls : List LinkD) (h : k < ls.length) : ((mixL p k ls).flatMap lkC).set (k * 3 + 2) (.int .i64 (min (ls[k].2.2 * p / 100) 1000000)) = (mixL p (k + 1) ls).flatMap lkC := by
  have := flatK_set (enc := lkC) (k := 3) (fun _ => rfl) (mixL p k ls) k 2 (fastL p ls[k]) (.int .i64 (min (ls[k].2.2 * p / 100) 1000000)) (by rw [mixL_len]; exact h) (by omega) (by rw [mixL_at p ls h]; rfl)
  rw [this, mixL_succ p ls h]
def FaRel (p : Int) (ls : List LinkD) (vC : Value) (w : World) (g : Nat) (i : Value) (wr : World) : Prop :=
  ∃ k : Nat, k + g = ls.length ∧ i = .int .i64 k ∧ wr.ownsRow w.heap.size 152 3 vC ls.length ((mixL p k ls).flatMap lkC) ∧ Below w.heap.size w wr
theorem own_frozen {w : World} {base e size n c : Nat} {g : Nat} {xs : List Value} (h : w.ownsRow base e size (.slice (some ⟨g, 0, none⟩) n c) n xs) (j : Nat) : w.frozen? ⟨g, j, none⟩ = false := by
  rcases h.2 with ⟨h0, _⟩ | ⟨g', cap, cur, hv, _, hh, _, _, _, hx⟩
  · cases h0
  · simp only [Value.slice.injEq, Option.some.injEq, Addr.mk.injEq] at hv
    obtain ⟨⟨rfl, _, _⟩, _, _⟩ := hv
    simp [World.frozen?, hh]
theorem own_at {w : World} {base e size n c : Nat} {A : Option Addr} {xs : List Value} (h : w.ownsRow base e size (.slice A n c) n xs) (hn : 0 < n) : ∃ g, A = some ⟨g, 0, none⟩ ∧ base ≤ g ∧ g < w.heap.size := by
  rcases h.2 with ⟨h0, h1⟩ | ⟨g', cap, cur, hv, hb, hh, _, _, _, hx⟩
  · omega
  · simp only [Value.slice.injEq] at hv
    exact ⟨g', hv.1, hb, block_lt hh⟩
set_option maxRecDepth 100000 in
set_option maxHeartbeats 1000000 in
theorem faster_any (vL : Value) (lo : Nat) (ls : List LinkD) (p : Int) (w : World) (hL : w.ownsRow lo 152 3 vL ls.length (ls.flatMap lkC)) (hm : ls.length ≤ 20) (hlk : LinksOk ls) (hp : 100 ≤ p) (hp9 : p ≤ 100001) :
    Calls Tryz.prog 108 #[vL, .int .i64 p] w fun e w' => ∃ v, e = .returned v ∧ w'.ownsRow w.heap.size 152 3 v (ls.map (fastL p)).length ((ls.map (fastL p)).flatMap lkC) ∧ Below w.heap.size w w' := by
  have HLK := Lib.hid hlk
  clear hlk
  go_enter Tryz.func108, Tryz.ntmps108
  go_wp2_with fail
  refine (cloneLink_any vL lo ls _ (by omega) hL).mono ?_
  rintro e w1 ⟨vC, rfl, hC, b1⟩
  clear hL
  obtain ⟨A, m, c, rfl⟩ := own_form hC
  obtain rfl := own_len hC
  go_wp2_with fail
  go_loopg [10, 5] ls.length (fun g i _ wr => FaRel p ls (.slice A ls.length c) w g i wr)
  case atStart => exact ⟨0, by omega, rfl, by simpa [mixL] using hC, b1⟩
  case round =>
    obtain ⟨k, hk, rfl, hown, hb⟩ := hrel
    by_cases hg : gk = 0
    · obtain rfl : k = ls.length := by omega
      have HM := Lib.hid (show mixL p ls.length ls = ls.map (fastL p) by simp [mixL])
      have HO := Lib.hid (show wr.ownsRow w.heap.size 152 3 (.slice A ls.length c) (ls.map (fastL p)).length ((ls.map (fastL p)).flatMap lkC) by rw [HM.out] at hown; simpa using hown)
      clear hk hg hown
      go_wp2_with fail; go_ret; exact ⟨_, rfl, HO.out, hb⟩
    have hlt : k < ls.length := by omega
    obtain ⟨g, rfl, hg0, hgl⟩ := own_at hown (by omega)
    have hcell := fun j u h => (Lst.of_own hown).link (j := j) (ls := mixL p k ls) u h
    obtain ⟨g2, o2, e2, _, c0, c1, c2⟩ := hcell k (by rw [mixL_len]; exact hlt) (mixL_len p k ls).symm
    simp only [Option.some.injEq, Addr.mk.injEq] at e2
    obtain ⟨rfl, rfl, _⟩ := e2
    rw [mixL_at p ls hlt] at c0 c1 c2
    have hfz := own_frozen hown (k * 3 + 2)
    have HST := Lib.hid (mixL_store p ls hlt)
    have hx := HLK.out.each _ (List.getElem_mem hlt)
    have HK := Lib.hid hk
    have hgk : gk ≠ 0 := hg
    clear hk hg hcell
    generalize ls[k] = x at *
    obtain ⟨xf, xt, xs⟩ := x
    obtain ⟨x0, x1, x2, x3, x4⟩ : 0 ≤ xf ∧ xf < xt ∧ xt ≤ 345686400000 ∧ 1 ≤ xs ∧ xs ≤ 1000000 := hx
    simp only [Nat.zero_add] at c0 c1 c2
    have hp0 : 0 ≤ xs * p := Int.mul_nonneg (by omega) (by omega)
    have hp1 : xs * p ≤ 1000000 * 100001 := Int.mul_le_mul x4 hp9 (by omega) (by omega)
    have hw1 : IntKind.i64.wrap (xs * p) = xs * p := by rw [IntKind.wrap_i64]; omega
    have HST' := Lib.hid (show ((mixL p k ls).flatMap lkC).set (k * 3 + 2) (.int .i64 (min (xs * p / 100) 1000000)) = (mixL p (k + 1) ls).flatMap lkC from HST.out)
    clear HST
    skip
    go_wp2_with fail
    go_roundg (gk - 1)
    case measure => omega
    case rel =>
      have h1 := (hown.stored (k * 3 + 2) (.int .i64 (min (xs * p / 100) 1000000)))
      refine ⟨k + 1, by have := HK.out; omega, by go_num, ?_, hb.setCell hg0 _⟩
      rw [← HST'.out]; exact h1.1
end Go.Proofs.YtegalkmfoffpfaaGreatDoor
