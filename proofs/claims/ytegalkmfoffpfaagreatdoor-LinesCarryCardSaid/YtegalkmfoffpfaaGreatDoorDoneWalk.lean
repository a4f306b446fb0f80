/- done, DoneAt. -/
import Derived.Test.YtegalkmfoffpfaaGreatDoorCarry
namespace Go.Proofs.YtegalkmfoffpfaaGreatDoor
open Go.RowKit

def tellD (ls : List LinkD) (a b : Int) : Option Int := if b = 0 then some a else doneL ls a b
def optZ : Option Int → Int
  | some t => t
  | none => 0
def optN : Option Int → Int
  | some t => t
  | none => -1
theorem car_before {ls : List LinkD} {a t : Int} (h : t < a) : car ls a t = 0 := by
  induction ls with
  | nil => rfl
  | cons x r ih =>
    rw [car_cons, ih]
    unfold linC
    rw [show max 0 (min x.2.1 t - max x.1 a) = 0 by omega, Int.mul_zero]; rfl
/-- The least moment, found by halves. -/
theorem tellD_least {ls : List LinkD} (h : LinksOk ls) {a b lo : Int} (hb : 0 ≤ b) (h0 : a ≤ lo) (h1 : lo ≤ 345686400000) (h2 : ∀ t, a ≤ t → t < lo → car ls a t < b) (h3 : b ≤ car ls a lo) : tellD ls a b = some lo := by
  unfold tellD
  by_cases e : b = 0
  · rw [if_pos e]
    rcases Int.lt_or_le a lo with h4 | h4
    · have := h2 a (Int.le_refl _) h4
      have := car_nonneg h a a
      omega
    · rw [show a = lo by omega]
  · rw [if_neg e]
    refine (doneL_tells h a (by omega)).one (o' := some lo) ⟨h0, h1, h3, fun t ht => ?_⟩
    rcases Int.lt_or_le t a with h4 | h4
    · rw [car_before h4]; omega
    · exact h2 t h4 ht
theorem tellD_none {ls : List LinkD} (h : LinksOk ls) {a b : Int} (hb : 0 ≤ b) (h1 : car ls a 345686400000 < b) : tellD ls a b = none := by
  have hb0 : ¬ b = 0 := by have := car_nonneg h a 345686400000; omega
  unfold tellD
  rw [if_neg hb0]
  refine (doneL_tells h a (by omega)).one (o' := none) fun t => ?_
  rcases Int.lt_or_le t 345686400000 with h2 | h2
  · have := car_mono h a (Int.le_of_lt h2); omega
  · have e : car ls a t = car ls a 345686400000 := by
      have : ∀ ls : List LinkD, LinksOk ls → car ls a t = car ls a 345686400000 := by
        intro ls
        induction ls with
        | nil => intro _; rfl
        | cons x r ih =>
          intro h
          rw [car_cons, car_cons, ih h.tail]
          have := (h.each x (by simp)).2.2.1
          rw [linC_full (by omega), linC_full (by omega)]
      exact this ls h
    omega
def DnRel (ls : List LinkD) (a b : Int) (w : World) (g : Nat) (i s2 : Value) (wr : World) : Prop :=
  ∃ (k : Nat) (b' : Int), k + g = ls.length ∧ i = .int .i64 k ∧ s2 = .int .i64 b' ∧ 0 < b' ∧ b' ≤ b ∧ doneL (ls.drop k) a b' = doneL ls a b ∧ Below w.heap.size w wr
theorem canL_bd {x : LinkD} (h : okLink x) (a : Int) (ha : 0 ≤ a) : 0 ≤ canL x a ∧ canL x a ≤ 345686400000000000 := by
  obtain ⟨h0, h1, h2, h3, h4⟩ := h
  unfold canL
  have : max 0 (x.2.1 - max x.1 a) * x.2.2 ≤ 345686400000 * 1000000 := Int.mul_le_mul (by omega) h4 (by omega) (by omega)
  exact ⟨Int.mul_nonneg (by omega) (by omega), by omega⟩
set_option maxRecDepth 100000 in
set_option maxHeartbeats 2000000 in
theorem done_any (A : Option Addr) (lo c : Nat) (ls : List LinkD) (a b : Int) (w : World) (hf : Lst w lo 3 (.slice A ls.length c) (ls.flatMap lkC)) (hn : ls.length ≤ 500) (hok : LinksOk ls) (ha : 0 ≤ a) (ha1 : a ≤ 345686400000) (hb0 : 0 ≤ b) (hb1 : b ≤ 1000000000000000) :
    Calls Tryz.prog 102 #[.slice A ls.length c, .int .i64 a, .int .i64 b] w fun e w' => e = .returned (.tuple #[.int .i64 (optZ (tellD ls a b)), .bool (tellD ls a b).isSome]) ∧ Below w.heap.size w w' := by
  have HF := Lib.hid hf
  have HOK := Lib.hid hok
  clear hf hok
  by_cases hz : b = 0
  · have HT := Lib.hid (show tellD ls a b = some a by rw [tellD, if_pos hz])
    subst hz
    go_enter Tryz.func102, Tryz.ntmps102
    go_wp2_with fail
    go_ret2
    exact ⟨by rw [HT.out]; rfl, Below.refl _ _⟩
  · have HT := Lib.hid (show tellD ls a b = doneL ls a b by rw [tellD, if_neg hz])
    have hz' : (b == 0) = false := beq_eq_false_iff_ne.2 hz
    have hbp : 0 < b := by omega
    clear hz
    go_enter Tryz.func102, Tryz.ntmps102
    go_wp2_with fail
    go_loopg [17, 2, 9, 10, 11] ls.length (fun g i s2 _ _ _ wr => DnRel ls a b w g i s2 wr)
    case atStart => exact ⟨0, b, by omega, rfl, rfl, hbp, Int.le_refl _, by simp, Below.refl _ _⟩
    case round =>
      obtain ⟨k, b', hk, rfl, rfl, hp, hle, hd, hb⟩ := hrel
      by_cases hg : gk = 0
      · obtain rfl : k = ls.length := by omega
        have HD := Lib.hid (show tellD ls a b = none by rw [HT.out, ← hd, List.drop_length]; rfl)
        clear hk hg hd
        go_wp2_with fail
        go_ret2
        exact ⟨by rw [HD.out]; rfl, hb⟩
      · have hlt : k < ls.length := by omega
        obtain ⟨g, o, rfl, hgl, c0, c1, c2⟩ := (HF.out.below hb).link hlt rfl
        have hx := HOK.out.each _ (List.getElem_mem hlt)
        have hcb := canL_bd hx a ha
        have HDR := Lib.hid (show doneL ls a b = if b' ≤ canL ls[k] a then some (max ls[k].1 a + (b' + ls[k].2.2 - 1) / ls[k].2.2) else doneL (ls.drop (k + 1)) a (b' - canL ls[k] a) by rw [← hd, List.drop_eq_getElem_cons hlt, doneL])
        have HK := Lib.hid hk
        have hgk : gk ≠ 0 := hg
        clear hk hg hd
        generalize ls[k] = x at *
        obtain ⟨xf, xt, xs⟩ := x
        obtain ⟨x0, x1, x2, x3, x4⟩ : 0 ≤ xf ∧ xf < xt ∧ xt ≤ 345686400000 ∧ 1 ≤ xs ∧ xs ≤ 1000000 := hx
        have HCE : Hid (canL (xf, xt, xs) a = max 0 (xt - max xf a) * xs) := rfl
        obtain ⟨q0, q1⟩ : 0 ≤ max 0 (xt - max xf a) * xs ∧ max 0 (xt - max xf a) * xs ≤ 345686400000000000 := hcb
        have hb3 := bbox hb (.cells #[.int .i64 xf, .int .i64 xt, .int .i64 xs] 152)
        have hq1 : 0 ≤ (b' + xs - 1) / xs := Int.ediv_nonneg (by omega) (by omega)
        have hq2 : (b' + xs - 1) / xs ≤ b' + xs - 1 := Int.ediv_le_self _ (by omega)
        by_cases hc : b' ≤ max 0 (xt - max xf a) * xs
        · have HR := Lib.hid (show tellD ls a b = some (max xf a + (b' + xs - 1) / xs) by rw [HT.out, HDR.out, HCE.out, if_pos hc])
          go_wp2_with fail
          go_ret2
          exact ⟨by rw [HR.out]; rfl, hb3⟩
        · have HR := Lib.hid (show doneL (ls.drop (k + 1)) a (b' - max 0 (xt - max xf a) * xs) = doneL ls a b by rw [HDR.out, HCE.out, if_neg hc])
          go_wp2_with fail
          go_roundg (gk - 1)
          case measure => omega
          case rel => exact ⟨k + 1, b' - max 0 (xt - max xf a) * xs, by have := HK.out; omega, by go_num, rfl, by omega, by omega, HR.out, hb3⟩
def DaRel (ls : List LinkD) (a b : Int) (w : World) (g : Nat) (s7 s8 : Value) (wr : World) : Prop :=
  ∃ lo hi : Int, s7 = .int .i64 lo ∧ s8 = .int .i64 hi ∧ a ≤ lo ∧ lo ≤ hi ∧ hi ≤ 345686400000 ∧ hi - lo ≤ g ∧ (∀ t, a ≤ t → t < lo → car ls a t < b) ∧ b ≤ car ls a hi ∧ Below w.heap.size w wr
set_option maxRecDepth 100000 in
set_option maxHeartbeats 2000000 in
theorem doneAt_any (A : Option Addr) (lo c : Nat) (ls : List LinkD) (a b : Int) (w : World) (hf : Lst w lo 3 (.slice A ls.length c) (ls.flatMap lkC)) (hn : ls.length ≤ 20) (hok : LinksOk ls) (ha : 0 ≤ a) (ha1 : a ≤ 345686400000) (hb0 : 0 ≤ b) (_hb1 : b ≤ 1000000000000000) :
    Calls Tryz.prog 36 #[.slice A ls.length c, .int .i64 a, .int .i64 b] w fun e w' => e = .returned (.int .i64 (optN (tellD ls a b))) ∧ Below w.heap.size w w' := by
  have HF := Lib.hid hf
  have HOK := Lib.hid hok
  clear hf hok
  go_enter Tryz.func36, Tryz.ntmps36
  go_wp2_with fail
  refine (carriedOf_any A lo c ls a 345686400000 _ HF.out hn HOK.out ha ha1 (by omega) (by omega)).mono ?_
  rintro e w1 ⟨rfl, b1⟩
  by_cases hc : car ls a 345686400000 < b
  · have HR := Lib.hid (tellD_none HOK.out hb0 hc)
    generalize car ls a 345686400000 = z at *
    go_wp2_with fail
    go_ret
    exact ⟨by rw [HR.out]; rfl, b1⟩
  · have HCE := Lib.hid (show b ≤ car ls a 345686400000 by omega)
    have hc' : ¬ car ls a 345686400000 < b := hc
    generalize hz : car ls a 345686400000 = z at *
    have HZ := Lib.hid hz
    clear hz
    go_wp2_with fail
    go_loopg [7, 8, 9] 345686400000 (fun g s7 s8 _ wr => DaRel ls a b w g s7 s8 wr)
    case atStart => exact ⟨a, 345686400000, rfl, rfl, Int.le_refl _, ha1, Int.le_refl _, by omega, fun t h1 h2 => by omega, by rw [HZ.out]; exact HCE.out, b1⟩
    case round =>
      obtain ⟨l, hi, rfl, rfl, h1, h2, h3, h4, h5, h6, hb⟩ := hrel
      have H5 := Lib.hid h5
      have H6 := Lib.hid h6
      clear h5 h6
      by_cases hlt : l < hi
      · have hm1 : l ≤ (l + hi) / 2 := by omega
        have hm2 : (l + hi) / 2 < hi := by omega
        go_wp2_with fail
        refine (carriedOf_any A lo c ls a ((l + hi) / 2) _ (HF.out.below hb) hn HOK.out ha ha1 (by omega) (by omega)).mono ?_
        rintro e w2 ⟨rfl, b2⟩
        by_cases hcm : b ≤ car ls a ((l + hi) / 2)
        · generalize hz2 : car ls a ((l + hi) / 2) = z2 at *
          have HCM := Lib.hid (show b ≤ car ls a ((l + hi) / 2) by rw [hz2]; exact hcm)
          clear hz2
          go_wp2_with fail
          go_roundg ((l + hi) / 2 - l).toNat
          case measure => omega
          case rel => exact ⟨l, (l + hi) / 2, rfl, rfl, h1, by omega, by omega, by omega, H5.out, HCM.out, bon hb b2⟩
        · have HCM := Lib.hid (show ∀ t, a ≤ t → t < (l + hi) / 2 + 1 → car ls a t < b from fun t _ ht => by have := car_mono HOK.out a (show t ≤ (l + hi) / 2 by omega); omega)
          have hcm' : car ls a ((l + hi) / 2) < b := by omega
          clear hcm
          generalize car ls a ((l + hi) / 2) = z2 at *
          go_wp2_with fail
          go_roundg (hi - ((l + hi) / 2 + 1)).toNat
          case measure => omega
          case rel => exact ⟨(l + hi) / 2 + 1, hi, rfl, rfl, by omega, by omega, h3, by omega, HCM.out, H6.out, bon hb b2⟩
      · obtain rfl : l = hi := by omega
        have HR := Lib.hid (tellD_least HOK.out hb0 h1 h3 H5.out H6.out)
        go_wp2_with fail
        go_ret
        exact ⟨by rw [HR.out]; rfl, hb⟩
end Go.Proofs.YtegalkmfoffpfaaGreatDoor
