/- The law DoneIsCarried returns true at every slice of ints. -/
import Derived.Test.YtidkkmoiolffnaaGreatDoorM3
import Derived.Deep.DeepCutAuto
namespace Go.Proofs.YtidkkmoiolffnaaGreatDoor
open Go.RowKit Go.Sort Go.Lib
set_option linter.unusedVariables false
set_option linter.unusedSimpArgs false
attribute [local go_sem ↓] Go.wp_at_zero Go.wp_at_succ
theorem done_law {ls : List LinkD} (h : LinksOk ls) {a b : Int} (hb : 0 < b) :
    (tellD ls a b = none ∧ car ls a 345686400000 < b) ∨ ∃ t, tellD ls a b = some t ∧ a < t ∧ t ≤ 345686400000 ∧ b ≤ car ls a 345686400000 ∧ b ≤ car ls a t ∧ car ls a (t - 1) < b := by
  have ht := doneL_tells h a (b := b) hb
  have e : tellD ls a b = doneL ls a b := by rw [tellD, if_neg (by omega)]
  rw [e]
  cases hd : doneL ls a b with
  | none => rw [hd] at ht; exact .inl ⟨rfl, ht _⟩
  | some t =>
    rw [hd] at ht
    obtain ⟨h1, h2, h3, h4⟩ := ht
    refine .inr ⟨t, rfl, ?_, h2, Int.le_trans h3 (car_mono h a h2), h3, h4 _ (by omega)⟩
    rcases Int.lt_or_le a t with h5 | h5
    · exact h5
    · have : car ls a t = 0 := by
        rcases Int.lt_or_le t a with h6 | h6
        · exact car_before h6
        · have : t = a := by omega
          subst this
          have : ∀ l : List LinkD, car l t t = 0 := fun l => by
            induction l with
            | nil => rfl
            | cons x r ih =>
              rw [car_cons, ih]
              unfold linC
              rw [show max 0 (min x.2.1 t - max x.1 t) = 0 by omega, Int.mul_zero]; rfl
          exact this _
      omega
set_option maxRecDepth 100000 in
set_option maxHeartbeats 8000000 in
theorem doneIsCarried_walk (a : Option Addr) (len cap : Nat) (zs : List Int) (w : World) (h : IsRow .i64 w a len cap zs) :
    Calls Tryz.prog 8 #[.slice a len cap] w fun e w' => e = .returned (.bool true) ∧ Below w.heap.size w w' := by
  have hs0 := isStream_new (ts := 25) h
  clear h
  go_enter Tryz.func8, Tryz.ntmps8
  go_wp2_with fail
  refine (glinks_any _ 0 _ hs0 (by omega)).mono ?_
  rintro e w0 ⟨vL, ls, hl4, hlb, rfl, oL0, g0⟩
  have HLB := Lib.hid hlb
  obtain ⟨LA, m, lc, rfl⟩ := own_form oL0
  obtain rfl := own_len oL0
  have z0 := g0.gb.size
  simp only [World.size_alloc] at z0
  have G1 := g0
  clear hs0 hlb g0
  go_wp2_with fail
  refine (pick_any _ _ w0.heap.size [0, 3, 10, 40] 4 4 _ 3 (G1.is.alloc _) (by omega) rfl (by omega) (by omega) (heap_alloc_new _ _) (by omega)).mono ?_
  rintro e w2 ⟨fr, hfr, rfl, g2⟩
  have hfr2 : 0 ≤ fr ∧ fr ≤ 40 := by simp at hfr; omega
  have G2 := G1.trans g2.of_alloc (Nat.le_refl _)
  have oL2 := ownsRow_gb (oL0.alloc (.cells (List.map (Value.int .i64) [0, 3, 10, 40]).toArray 3)) g2.gb (by simp)
  have z2 : w0.heap.size ≤ w2.heap.size := by have := g2.gb.size; simp at this; omega
  clear g2 G1 oL0 hfr
  go_wp2_with fail
  refine (pick_any _ _ w2.heap.size [1, 12, 100, 300] 4 4 _ 3 (G2.is.alloc _) (by omega) rfl (by omega) (by omega) (heap_alloc_new _ _) (by omega)).mono ?_
  rintro e w3 ⟨by_, hby, rfl, g3⟩
  have hby2 : 1 ≤ by_ ∧ by_ ≤ 300 := by simp at hby; omega
  have G3 := G2.trans g3.of_alloc (Nat.le_refl _)
  have oL3 := ownsRow_gb (oL2.alloc (.cells (List.map (Value.int .i64) [1, 12, 100, 300]).toArray 3)) g3.gb (by simp)
  have B3 : Below w.heap.size w w3 := below_gb ((Below.refl _ _).alloc (Nat.le_refl _) _) G3.gb (Nat.le_refl _)
  have OL3 := Lib.hid (ownsRow_base oL3 (Nat.zero_le _))
  clear g3 G2 G3 oL2 oL3 hby z0 z2
  go_wp2_with fail
  refine (linksFault_any LA _ lc ls _ (Lst.of_own OL3.out) (by omega) HLB.out).mono ?_
  rintro e w4 ⟨rfl, b4⟩
  have B4 := bon B3 b4
  have OL4 := Lib.hid (ownsRow_below OL3.out b4)
  clear b4 B3 OL3
  by_cases hz : linksF ls = 0
  · have hk := links_ok hz
    have HD := Lib.hid (done_law hk (a := fr) (b := by_) (by omega))
    have HF := Lib.hid (show doneF ls fr by_ = 0 by unfold doneF momB outsideB; rw [if_pos hz]; simp; omega)
    have HC := Lib.hid (show ∀ t, fr ≤ t → t ≤ 345686400000 → carF ls fr t = 0 by intro t h1 h2; unfold carF winF winB outsideB; rw [if_pos hz]; simp; omega)
    have HK := Lib.hid hk
    clear hk
    go_wp2_with fail
    refine (Done_any LA _ lc ls fr by_ _ (Lst.of_own OL4.out) (by omega) HLB.out).mono ?_
    rintro e w5 ⟨rfl, b5⟩
    rw [HF.out]
    have B5 := bon B4 b5
    have OL5 := Lib.hid (ownsRow_below OL4.out b5)
    clear b5 B4 OL4
    rcases HD.out with ⟨ht, hlt⟩ | ⟨t, ht, h1, h2, h3, h4, h5⟩
    · rw [ht]
      go_wp2_with fail
      refine (carried_any LA _ lc ls fr 345686400000 _ (Lst.of_own OL5.out) (by omega) HLB.out).mono ?_
      rintro e w6 ⟨rfl, b6⟩
      rw [HC.out _ (by omega) (by omega)]
      have B6 := bon B5 b6
      have hge : decide (by_ ≤ car ls fr 345686400000) = false := by simp; omega
      generalize car ls fr 345686400000 = cx at *
      clear b6 B5
      go_wp2_with fail
      refine (ready_any _).mono ?_
      rintro e w7 ⟨rfl, b7⟩
      go_wp2_with fail
      go_ret
      exact ⟨rfl, bon B6 b7⟩
    · rw [ht, show optZ (some t) = t from rfl]
      go_wp2_with fail
      refine (carried_any LA _ lc ls fr 345686400000 _ (Lst.of_own OL5.out) (by omega) HLB.out).mono ?_
      rintro e w6 ⟨rfl, b6⟩
      rw [HC.out _ (by omega) (by omega)]
      have B6 := bon B5 b6
      have OL6 := Lib.hid (ownsRow_below OL5.out b6)
      have HX := Lib.hid h4
      have HY := Lib.hid h5
      clear b6 B5 OL5 h4 h5
      generalize car ls fr 345686400000 = cx at *
      go_wp2_with fail
      refine (carried_any LA _ lc ls fr t _ (Lst.of_own OL6.out) (by omega) HLB.out).mono ?_
      rintro e w7 ⟨rfl, b7⟩
      rw [HC.out _ (by omega) (by omega)]
      have B7 := bon B6 b7
      have OL7 := Lib.hid (ownsRow_below OL6.out b7)
      clear b7 B6 OL6
      obtain ⟨cy, hcy⟩ : ∃ cy, car ls fr t = cy := ⟨_, rfl⟩
      have hx2 : by_ ≤ cy := hcy ▸ HX.out
      rw [hcy]
      clear HX hcy
      go_wp2_with fail
      refine (carried_any LA _ lc ls fr (t - 1) _ (Lst.of_own OL7.out) (by omega) HLB.out).mono ?_
      rintro e w8 ⟨rfl, b8⟩
      rw [HC.out _ (by omega) (by omega)]
      have B8 := bon B7 b8
      clear b8 B7 OL7
      obtain ⟨cz, hcz⟩ : ∃ cz, car ls fr (t - 1) = cz := ⟨_, rfl⟩
      have hy2 : cz < by_ := hcz ▸ HY.out
      rw [hcz]
      clear HY hcz
      go_wp2_with fail
      refine (ready_any _).mono ?_
      rintro e w9 ⟨rfl, b9⟩
      go_wp2_with fail
      go_ret
      exact ⟨rfl, bon B8 b9⟩
  · have hz1 : (linksF ls != 0) = true := bne_iff_ne.2 hz
    clear hz
    go_wp2_with fail
    refine (ready_any _).mono ?_
    rintro e w5 ⟨rfl, b5⟩
    go_wp2_with fail
    go_ret
    exact ⟨rfl, bon B4 b5⟩
end Go.Proofs.YtidkkmoiolffnaaGreatDoor
