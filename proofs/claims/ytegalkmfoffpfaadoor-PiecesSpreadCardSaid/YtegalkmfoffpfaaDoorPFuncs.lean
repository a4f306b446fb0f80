/- slices.IndexFunc, slices.ContainsFunc, slices.BinarySearchFunc at structs of two cells. -/
import Derived.Test.YtegalkmfoffpfaaDoorProg
import Derived.Test.YtegalkmfoffpfaaDoorKit
import Derived.Deep.LoopGhost
import Derived.Shelf.GgClosure.Gives
namespace Go.Proofs.YtegalkmfoffpfaaDoor
open Go.RowKit

/-- The n structs of two cells behind A. -/
def At2 (w : World) (A : Option Addr) (n : Nat) (x y : Nat → Value) : Prop :=
  ∀ i, i < n → ∃ b o, A = some ⟨b, o, none⟩ ∧ b < w.heap.size ∧ w.cell? ⟨b, o + i * 2, none⟩ = some (x i) ∧ w.cell? ⟨b, o + i * 2 + 1, none⟩ = some (y i)
theorem At2.below {w w' : World} {A : Option Addr} {n : Nat} {x y : Nat → Value} (h : At2 w A n x y) (hb : Below w.heap.size w w') : At2 w' A n x y := fun i hi =>
  let ⟨b, o, e, hl, c0, c1⟩ := h i hi
  ⟨b, o, e, Nat.lt_of_lt_of_le hl hb.size, bold hb c0, bold hb c1⟩
/-- A function value that answers p i at the struct i, and only makes memory. -/
def Pred2 (P : Program) (g : Nat) (lb : Array Value) (x y : Nat → Value) (n : Nat) (p : Nat → Bool) (w : World) : Prop :=
  ∀ (W : World) (i : Nat), i < n → Below w.heap.size w W → Calls P g (#[.agg #[x i, y i]] ++ lb) W fun e w' => e = .returned (.bool (p i)) ∧ Below W.heap.size W w'
def idxI (p : Nat → Bool) (n : Nat) : Int := match (List.range n).find? p with
  | some i => (i : Int)
  | none => -1
theorem idxI_hit {p : Nat → Bool} {k n : Nat} (hk : k < n) (hp : p k = true) (h : ∀ j, j < k → p j = false) : idxI p n = k := by
  have : (List.range n).find? p = some k := by
    rw [List.find?_eq_some_iff_getElem]
    refine ⟨hp, k, by simpa using hk, by simp, fun j hj => ?_⟩
    simpa using h j hj
  rw [idxI, this]
theorem idxI_miss {p : Nat → Bool} {n : Nat} (h : ∀ j, j < n → p j = false) : idxI p n = -1 := by
  have : (List.range n).find? p = none := by
    rw [List.find?_eq_none]; intro x hx; simpa using h x (by simpa using hx)
  rw [idxI, this]
def anyI (p : Nat → Bool) (n : Nat) : Bool := decide (0 ≤ idxI p n)
def IdxRel (p : Nat → Bool) (n : Nat) (w : World) (g : Nat) (i : Value) (wr : World) : Prop :=
  ∃ k : Nat, k + g = n ∧ i = .int .i64 k ∧ (∀ j, j < k → p j = false) ∧ Below w.heap.size w wr

set_option maxRecDepth 100000 in
set_option maxHeartbeats 1000000 in
theorem indexFuncPeer (A : Option Addr) (n c : Nat) (x y : Nat → Value) (p : Nat → Bool) (g : Nat) (lb : Array Value) (eg : ∀ args w, (callFunc g args).run Tryd.prog w = .ok (.enter g args) w) (w : World)
    (hA : At2 w A n x y) (hp : Pred2 Tryd.prog g lb x y n p w) (hn : n ≤ 1000000000) :
    Calls Tryd.prog 70 #[.slice A n c, .func (.func g) #[] lb] w fun e w' => e = .returned (.int .i64 (idxI p n)) ∧ Below w.heap.size w w' := by
  have HA := Lib.hid hA
  have HP := Lib.hid hp
  clear hA hp
  go_enter Tryd.func70, Tryd.ntmps70
  go_wp2_with fail
  go_loopg [8, 5] n (fun g i _ wr => IdxRel p n w g i wr)
  case atStart => exact ⟨0, by omega, rfl, fun j hj => absurd hj (Nat.not_lt_zero _), Below.refl _ _⟩
  case round =>
    obtain ⟨k, hk, rfl, hno, hb⟩ := hrel
    by_cases hg : gk = 0
    · obtain rfl : k = n := by omega
      have HV := Lib.hid (idxI_miss hno)
      clear hno hk hg
      go_wp2_with fail
      go_ret
      exact ⟨ret_int HV.out.symm, hb⟩
    · have hlt : k < n := by omega
      obtain ⟨b, o, rfl, hbl, c0, c1⟩ := HA.out.below hb k hlt
      have hcall := HP.out wr k hlt hb
      have HK := Lib.hid hk
      have HNO := Lib.hid hno
      have hgk : gk ≠ 0 := hg
      clear hk hno hg
      generalize x k = xk at *
      generalize y k = yk at *
      rcases Bool.eq_false_or_eq_true (p k) with hq | hq
      · have HV := Lib.hid (idxI_hit hlt hq HNO.out)
        rw [hq] at hcall
        clear hq
        go_wp2_with (go_at_fn g; refine hcall.mono ?_; rintro e w1 ⟨rfl, hb1⟩)
        go_ret
        exact ⟨ret_int HV.out.symm, bon hb hb1⟩
      · have HQ := Lib.hid hq
        rw [hq] at hcall
        clear hq
        go_wp2_with (go_at_fn g; refine hcall.mono ?_; rintro e w1 ⟨rfl, hb1⟩)
        go_roundg (gk - 1)
        case measure => omega
        case rel =>
          refine ⟨k + 1, by have := HK.out; omega, by go_num, fun j hj => ?_, bon hb hb1⟩
          rcases Nat.lt_or_ge j k with h | h
          · exact HNO.out j h
          · rw [show j = k by omega]; exact HQ.out

/-! ### BinarySearchFunc -/
def Cmp2 (P : Program) (g : Nat) (lb : Array Value) (x y : Nat → Value) (tv : Value) (n : Nat) (cf : Nat → Int) (w : World) : Prop :=
  ∀ (W : World) (i : Nat), i < n → Below w.heap.size w W → Calls P g (#[.agg #[x i, y i], tv] ++ lb) W fun e w' => e = .returned (.int .i64 (cf i)) ∧ Below W.heap.size W w'
structure Bound (cf : Nat → Int) (n lo hi : Nat) : Prop where
  below : ∀ t, t < lo → cf t < 0
  above : ∀ t, hi ≤ t → t < n → 0 ≤ cf t
def SearchRel (cf : Nat → Int) (n : Nat) (w : World) (g : Nat) (s9 s10 : Value) (wr : World) : Prop :=
  ∃ lo hi : Nat, s9 = .int .i64 lo ∧ s10 = .int .i64 hi ∧ lo ≤ hi ∧ hi ≤ n ∧ hi - lo ≤ g ∧ Bound cf n lo hi ∧ Below w.heap.size w wr
def Found (cf : Nat → Int) (n : Nat) (w : World) (e : Ending) (w' : World) : Prop :=
  ∃ lo : Nat, lo ≤ n ∧ Bound cf n lo lo ∧ e = .returned (.tuple #[.int .i64 lo, .bool (decide (lo < n) && decide (cf lo = 0))]) ∧ Below w.heap.size w w'
set_option maxRecDepth 100000 in
set_option maxHeartbeats 1000000 in
theorem searchFuncPeer (A : Option Addr) (n c : Nat) (x y : Nat → Value) (tv : Value) (cf : Nat → Int) (g : Nat) (lb : Array Value) (eg : ∀ args w, (callFunc g args).run Tryd.prog w = .ok (.enter g args) w) (w : World)
    (hA : At2 w A n x y) (hp : Cmp2 Tryd.prog g lb x y tv n cf w) (hn : n ≤ 1000000000) (hmono : ∀ a b, a ≤ b → b < n → cf b < 0 → cf a < 0) :
    Calls Tryd.prog 89 #[.slice A n c, tv, .func (.func g) #[] lb] w (Found cf n w) := by
  have HA := Lib.hid hA
  have HP := Lib.hid hp
  have HM := Lib.hid hmono
  clear hA hp hmono
  go_enter Tryd.func89, Tryd.ntmps89
  go_wp2_with fail
  go_loopg [9, 10, 11] n (fun g s9 s10 _ wr => SearchRel cf n w g s9 s10 wr)
  case atStart => exact ⟨0, n, rfl, rfl, Nat.zero_le _, Nat.le_refl _, by omega, ⟨fun t ht => absurd ht (Nat.not_lt_zero _), fun t h1 h2 => by omega⟩, Below.refl _ _⟩
  case round =>
    obtain ⟨lo, hi, rfl, rfl, hlh, hin, hgm, hbd, hb⟩ := hrel
    have HB := Lib.hid hbd
    clear hbd
    by_cases hlt : lo < hi
    · obtain ⟨b, o, rfl, hbl, c0, c1⟩ := HA.out.below hb ((lo + hi) / 2) (by omega)
      have hcall := HP.out wr ((lo + hi) / 2) (by omega) hb
      have hgk : gk ≠ 0 := by omega
      generalize x ((lo + hi) / 2) = xk at *
      generalize y ((lo + hi) / 2) = yk at *
      by_cases hyx : cf ((lo + hi) / 2) < 0
      · go_wp2_with (go_at_fn g; refine hcall.mono ?_; rintro e w1 ⟨rfl, hb1⟩)
        go_roundg (hi - ((lo + hi) / 2 + 1))
        case measure => omega
        case rel => exact ⟨(lo + hi) / 2 + 1, hi, by rw [show ((lo : Int) + (hi : Int)) / 2 + 1 = (((lo + hi) / 2 + 1 : Nat) : Int) by omega], rfl, by omega, hin, Nat.le_refl _, ⟨fun t ht => HM.out t ((lo + hi) / 2) (by omega) (by omega) hyx, HB.out.above⟩, bon hb hb1⟩
      · go_wp2_with (go_at_fn g; refine hcall.mono ?_; rintro e w1 ⟨rfl, hb1⟩)
        go_roundg ((lo + hi) / 2 - lo)
        case measure => omega
        case rel => exact ⟨lo, (lo + hi) / 2, rfl, by rw [show ((lo : Int) + (hi : Int)) / 2 = (((lo + hi) / 2 : Nat) : Int) by omega], by omega, by omega, Nat.le_refl _, ⟨HB.out.below, fun t ht htn => Int.not_lt.1 fun h => absurd (HM.out ((lo + hi) / 2) t ht htn h) (by omega)⟩, bon hb hb1⟩
    · obtain rfl : hi = lo := by omega
      by_cases hn1 : hi < n
      · obtain ⟨b, o, rfl, hbl, c0, c1⟩ := HA.out.below hb hi hn1
        have hcall := HP.out wr hi hn1 hb
        generalize x hi = xk at *
        generalize y hi = yk at *
        go_wp2_with (go_at_fn g; refine hcall.mono ?_; rintro e w1 ⟨rfl, hb1⟩)
        go_ret2
        exact ⟨hi, hin, HB.out, by rw [decide_eq_true hn1, Bool.true_and]; rfl, bon hb hb1⟩
      · go_wp2_with fail
        go_ret2
        exact ⟨hi, hin, HB.out, by rw [decide_eq_false hn1, Bool.false_and]; rfl, hb⟩
end Go.Proofs.YtegalkmfoffpfaaDoor
