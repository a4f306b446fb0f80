/- The law LinesCarry returns true at every slice of ints. -/
import Derived.Test.YtegalkmfoffpfaaGreatDoorFastWalk3
import Derived.Test.YtegalkmfoffpfaaGreatDoorGenLinks
import Derived.Test.YtegalkmfoffpfaaGreatDoorGenNeeds
import Derived.Test.YtegalkmfoffpfaaGreatDoorSynced
import Derived.Deep.DeepCutAuto
namespace Go.Proofs.YtegalkmfoffpfaaGreatDoor
open Go.RowKit Go.Sort Go.Lib
attribute [local go_sem ↓] Go.wp_at_zero Go.wp_at_succ
theorem orF_car (ls : List LinkD) (a t : Int) : orF [linksF ls, winF a t] = carF ls a t := by
  rw [orF_two]; unfold carF; split <;> rfl
theorem orF_three (x y z : Int) : orF [x, y, z] = if x = 0 then (if y = 0 then z else y) else x := by
  show (if x = 0 then orF [y, z] else x) = _
  rw [orF_two]
theorem whenB (b : Int) : (decide (b < 0) || decide (b > 1000000000000)) = outsideB b 0 1000000000000 := by
  unfold outsideB
  rfl
theorem orF_done (ls : List LinkD) (a b : Int) : orF [linksF ls, momF a, whenF (outsideB b 0 1000000000000) 1] = doneF ls a b := by
  rw [orF_three]
  unfold doneF momF whenF
  by_cases h : linksF ls = 0
  · rw [if_pos h, if_pos h]
    cases momB a <;> cases outsideB b 0 1000000000000 <;> rfl
  · rw [if_neg h, if_neg h]
theorem orF_nf (ls : List LinkD) (a : Int) (ns : List NeedD) : orF [linksF ls, momF a, needsF ns] = nfF ls a ns := by
  rw [orF_three]
  unfold nfF momF
  by_cases h : linksF ls = 0
  · rw [if_pos h, if_pos h]
    cases momB a <;> rfl
  · rw [if_neg h, if_neg h]
def wantF (ls : List LinkD) (a b : Int) : Int := if doneF ls a b = 0 then optN (tellD ls a b) else -1
theorem doneF_zero {ls : List LinkD} {a b : Int} (h : doneF ls a b = 0) : LinksOk ls ∧ 0 ≤ a ∧ a ≤ 345686400000 ∧ 0 ≤ b ∧ b ≤ 1000000000000 := by
  unfold doneF at h
  split at h
  · rename_i h1
    split at h
    · rename_i h2
      simp [momB, outsideB] at h2
      exact ⟨links_ok h1, by omega, by omega, by omega, by omega⟩
    · omega
  · rename_i h1; exact absurd h h1
theorem tellD_nonneg {ls : List LinkD} (h : LinksOk ls) {a b t : Int} (ha : 0 ≤ a) (hb : 0 ≤ b) (ht : tellD ls a b = some t) : 0 ≤ t := by
  unfold tellD at ht
  split at ht
  · injection ht with ht; omega
  · have := doneL_tells h a (b := b) (by omega)
    rw [ht] at this
    exact Int.le_trans ha this.1
theorem want_at (ls : List LinkD) (a b : Int) : (if doneF ls a b == 0 then optZ (tellD ls a b) else 0) = max (wantF ls a b) 0 ∧ (doneF ls a b == 0 && (tellD ls a b).isSome) = decide (0 ≤ wantF ls a b) := by
  unfold wantF
  by_cases h : doneF ls a b = 0
  · obtain ⟨h1, h2, _, h3, _⟩ := doneF_zero h
    rw [h]
    cases ht : tellD ls a b with
    | none => exact ⟨rfl, rfl⟩
    | some t =>
      have := tellD_nonneg h1 h2 h3 ht
      refine ⟨?_, ?_⟩
      · show t = max t 0; omega
      · show true = decide (0 ≤ t); simp [this]
  · rw [if_neg h, beq_eq_false_iff_ne.2 h]
    exact ⟨rfl, rfl⟩
theorem fast_at {ls : List LinkD} {a : Int} {ns : List NeedD} {o : Option Int} (h : FastIs ls a ns o) : o.isSome = decide (0 ≤ optN o) ∧ optZ o = max (optN o) 0 := by
  cases o with
  | none => exact ⟨rfl, rfl⟩
  | some p =>
    have : 100 ≤ p := h.1
    refine ⟨?_, ?_⟩
    · show true = decide (0 ≤ p); simp; omega
    · show p = max p 0; omega
set_option maxRecDepth 100000 in
set_option maxHeartbeats 8000000 in
theorem linesCarry_walk (a : Option Addr) (len cap : Nat) (zs : List Int) (w : World) (h : IsRow .i64 w a len cap zs) :
    Calls Tryz.prog 4 #[.slice a len cap] w fun e w' => e = .returned (.bool true) ∧ Below w.heap.size w w' := by
  have hs0 := isStream_new (ts := 25) h
  clear h
  go_enter Tryz.func4, Tryz.ntmps4
  go_wp2_with fail
  refine (glinks_any _ 0 _ hs0 (by omega)).mono ?_
  rintro e w0 ⟨vL, ls, hl4, hlb, rfl, oL0, g0⟩
  have HLB := Lib.hid hlb
  obtain ⟨LA, m, lc, rfl⟩ := own_form oL0
  obtain rfl := own_len oL0
  have z0 := g0.gb.size
  simp only [World.size_alloc] at z0
  clear hs0 hlb
  go_wp2_with fail
  refine (gneeds_any _ _ _ g0.is (by omega)).mono ?_
  rintro e w1 ⟨vN, ns, hn4, hnd, rfl, oN1, g1⟩
  have HND := Lib.hid hnd
  obtain ⟨NA, m, nc, rfl⟩ := own_form oN1
  obtain rfl := own_len oN1
  have G1 := g0.trans g1 (Nat.le_refl _)
  have oL1 := ownsRow_gb oL0 g1.gb (by simp)
  have z1 := g1.gb.size
  clear g0 g1 oL0 hnd
  go_wp2_with fail
  refine (pick_any _ _ w1.heap.size [0, 3, 10, 40, -1, 345686400000] 6 6 _ 3 (G1.is.alloc _) (by omega) rfl (by omega) (by omega) (heap_alloc_new _ _) (by omega)).mono ?_
  rintro e w2 ⟨fr, hfr, rfl, g2⟩
  have G2 := G1.trans g2.of_alloc (Nat.le_refl _)
  have oL2 := ownsRow_gb (oL1.alloc (.cells (List.map (Value.int .i64) [0, 3, 10, 40, -1, 345686400000]).toArray 3)) g2.gb (by simp)
  have oN2 := ownsRow_gb (oN1.alloc (.cells (List.map (Value.int .i64) [0, 3, 10, 40, -1, 345686400000]).toArray 3)) g2.gb (by omega)
  have z2 : w1.heap.size ≤ w2.heap.size := by have := g2.gb.size; simp at this; omega
  clear g2 G1 oL1 oN1 hfr
  go_wp2_with fail
  refine (pick_any _ _ w2.heap.size [0, 1, 12, 100, 5000, -1, 1000000000001] 7 7 _ 3 (G2.is.alloc _) (by omega) rfl (by omega) (by omega) (heap_alloc_new _ _) (by omega)).mono ?_
  rintro e w3 ⟨by_, hby, rfl, g3⟩
  have G3 := G2.trans g3.of_alloc (Nat.le_refl _)
  have oL3 := ownsRow_gb (oL2.alloc (.cells (List.map (Value.int .i64) [0, 1, 12, 100, 5000, -1, 1000000000001]).toArray 3)) g3.gb (by simp)
  have oN3 := ownsRow_gb (oN2.alloc (.cells (List.map (Value.int .i64) [0, 1, 12, 100, 5000, -1, 1000000000001]).toArray 3)) g3.gb (by omega)
  have z3 : w2.heap.size ≤ w3.heap.size := by have := g3.gb.size; simp at this; omega
  clear g3 G2 oL2 oN2 hby
  go_wp2_with fail
  refine (pick_any _ _ w3.heap.size [0, 5, 10, -1] 4 4 _ 3 (G3.is.alloc _) (by omega) rfl (by omega) (by omega) (heap_alloc_new _ _) (by omega)).mono ?_
  rintro e w4 ⟨wa, hwa, rfl, g4⟩
  have G4 := G3.trans g4.of_alloc (Nat.le_refl _)
  have oL4 := ownsRow_gb (oL3.alloc (.cells (List.map (Value.int .i64) [0, 5, 10, -1]).toArray 3)) g4.gb (by simp)
  have oN4 := ownsRow_gb (oN3.alloc (.cells (List.map (Value.int .i64) [0, 5, 10, -1]).toArray 3)) g4.gb (by omega)
  have z4 : w3.heap.size ≤ w4.heap.size := by have := g4.gb.size; simp at this; omega
  have hwa2 : -1 ≤ wa ∧ wa ≤ 10 := by simp at hwa; omega
  clear g4 G3 oL3 oN3 hwa
  go_wp2_with fail
  refine (pick_any _ _ w4.heap.size [5, 10, 50, 100, 345686400001] 5 5 _ 3 (G4.is.alloc _) (by omega) rfl (by omega) (by omega) (heap_alloc_new _ _) (by omega)).mono ?_
  rintro e w5 ⟨wt, hwt, rfl, g5⟩
  have G5 := G4.trans g5.of_alloc (Nat.le_refl _)
  have oL5 := ownsRow_gb (oL4.alloc (.cells (List.map (Value.int .i64) [5, 10, 50, 100, 345686400001]).toArray 3)) g5.gb (by simp)
  have oN5 := ownsRow_gb (oN4.alloc (.cells (List.map (Value.int .i64) [5, 10, 50, 100, 345686400001]).toArray 3)) g5.gb (by omega)
  have hwt2 : 5 ≤ wt ∧ wt ≤ 345686400001 := by simp at hwt; omega
  have B5 : Below w.heap.size w w5 := below_gb ((Below.refl _ _).alloc (Nat.le_refl _) _) G5.gb (Nat.le_refl _)
  clear g5 G4 G5 oL4 oN4 hwt z0 z1 z2 z3 z4
  go_wp2_with fail
  have b6 := bfirst w5 (.cells #[.int .i64 wa, .int .i64 wt] 68)
  have hX := heap_alloc_new w5 (.cells #[.int .i64 wa, .int .i64 wt] 68)
  obtain ⟨w6, hw6⟩ : ∃ w6, w6 = w5.alloc (.cells #[.int .i64 wa, .int .i64 wt] 68) := ⟨_, rfl⟩
  rw [← hw6] at b6 hX ⊢
  have B6 := bon B5 b6
  have OL6 := Lib.hid (ownsRow_base (ownsRow_below oL5 b6) (Nat.zero_le _))
  have ON6 := Lib.hid (ownsRow_base (ownsRow_below oN5 b6) (Nat.zero_le _))
  have X6 := Lib.hid hX
  clear hw6 b6 hX B5 oL5 oN5
  generalize w5.heap.size = xb at *
  refine (linksFault_any LA _ lc ls _ (Lst.of_own OL6.out) (by omega) HLB.out).mono ?_
  rintro e w7 ⟨rfl, b7⟩
  have B7 := bon B6 b7
  have OL7 := Lib.hid (ownsRow_below OL6.out b7)
  have ON7 := Lib.hid (ownsRow_below ON6.out b7)
  have X7 := Lib.hid ((b7.block _ (block_lt X6.out)).trans X6.out)
  have xx7 := (stream_cells X7.out).1
  have xy7 := (stream_cells X7.out).2.1
  have xl7 := block_lt X7.out
  clear b7 B6 OL6 ON6 X6 
  go_wp2_with fail
  refine (checkLinks_any LA _ lc ls _ (Lst.of_own OL7.out) (by omega) HLB.out).mono ?_
  rintro e w8 ⟨rfl, b8⟩
  have B8 := bon B7 b8
  have OL8 := Lib.hid (ownsRow_below OL7.out b8)
  have ON8 := Lib.hid (ownsRow_below ON7.out b8)
  have X8 := Lib.hid ((b8.block _ (block_lt X7.out)).trans X7.out)
  have xx8 := (stream_cells X8.out).1
  have xy8 := (stream_cells X8.out).2.1
  have xl8 := block_lt X8.out
  clear b8 B7 OL7 ON7 X7 xx7 xy7 xl7
  go_wp2_with fail
  refine (carried_any LA _ lc ls wa wt _ (Lst.of_own OL8.out) (by omega) HLB.out).mono ?_
  rintro e w9 ⟨rfl, b9⟩
  obtain ⟨cx, hcx⟩ : ∃ cx, cx = if carF ls wa wt == 0 then car ls wa wt else 0 := ⟨_, rfl⟩
  rw [← hcx]
  have HCX := Lib.hid hcx
  clear hcx
  have B9 := bon B8 b9
  have OL9 := Lib.hid (ownsRow_below OL8.out b9)
  have ON9 := Lib.hid (ownsRow_below ON8.out b9)
  have X9 := Lib.hid ((b9.block _ (block_lt X8.out)).trans X8.out)
  have xx9 := (stream_cells X9.out).1
  have xy9 := (stream_cells X9.out).2.1
  have xl9 := block_lt X9.out
  clear b9 B8 OL8 ON8 X8 xx8 xy8 xl8
  go_wp2_with fail
  refine (windowFault_any wa wt _).mono ?_
  rintro e w10 ⟨rfl, b10⟩
  have B10 := bon B9 b10
  have OL10 := Lib.hid (ownsRow_below OL9.out b10)
  have ON10 := Lib.hid (ownsRow_below ON9.out b10)
  have X10 := Lib.hid ((b10.block _ (block_lt X9.out)).trans X9.out)
  have xx10 := (stream_cells X10.out).1
  have xy10 := (stream_cells X10.out).2.1
  have xl10 := block_lt X10.out
  clear b10 B9 OL9 ON9 X9 xx9 xy9 xl9
  go_wp2_with fail
  refine (or_any w10.heap.size 2 2 [linksF ls, winF wa wt] 31 _ rfl (by omega) (heap_alloc_new _ _)).mono ?_
  rintro e w11 ⟨rfl, rfl⟩
  rw [orF_car]
  have b11 := bfirst w10 (.cells (List.map (Value.int .i64) [linksF ls, winF wa wt]).toArray 31)
  obtain ⟨w11, hw11⟩ : ∃ w11, w11 = w10.alloc (.cells (List.map (Value.int .i64) [linksF ls, winF wa wt]).toArray 31) := ⟨_, rfl⟩
  rw [← hw11] at b11 ⊢
  clear hw11
  have B11 := bon B10 b11
  have OL11 := Lib.hid (ownsRow_below OL10.out b11)
  have ON11 := Lib.hid (ownsRow_below ON10.out b11)
  have X11 := Lib.hid ((b11.block _ (block_lt X10.out)).trans X10.out)
  have xx11 := (stream_cells X11.out).1
  have xy11 := (stream_cells X11.out).2.1
  have xl11 := block_lt X11.out
  clear b11 B10 OL10 ON10 X10 xx10 xy10 xl10
  go_upto_region 9 with fail
  go_cut [73] (fun s wx => s = .bool false ∧ Below w11.heap.size w11 wx)
  case first =>
    by_cases hc : carF ls wa wt = 0
    · have hlk : LinksOk ls ∧ 0 ≤ wa ∧ wa ≤ 345686400000 ∧ 0 ≤ wt ∧ wt ≤ 345686400000 := by
        unfold carF at hc
        split at hc
        · rename_i h1
          unfold winF at hc
          split at hc
          · omega
          · rename_i h2
            simp [winB, outsideB] at h2
            exact ⟨links_ok h1, by omega, by omega, by omega, by omega⟩
        · rename_i h1; exact absurd hc h1
      obtain ⟨k1, k2, k3, k4, k5⟩ := hlk
      have K1 := Lib.hid k1
      have HC2 := Lib.hid (show car ls wa wt = cx by rw [HCX.out, hc]; rfl)
      have hc1 : (carF ls wa wt == 0) = true := beq_iff_eq.2 hc
      clear hc k1
      go_wp2_with fail
      refine (carriedOf_any LA _ lc ls wa wt _ (Lst.of_own OL11.out) (by omega) K1.out k2 k3 k4 k5).mono ?_
      rintro e w12 ⟨rfl, b12⟩
      rw [HC2.out]
      go_wp2_with fail
      go_meet
      exact ⟨rfl, b12⟩
    · have hc0 : (carF ls wa wt == 0) = false := beq_eq_false_iff_ne.2 hc
      clear hc HCX
      generalize carF ls wa wt = cf at *
      go_wp2_with fail
      go_meet
      exact ⟨rfl, Below.refl _ _⟩
  case rest =>
    obtain ⟨rfl, b12⟩ := hcut
    obtain ⟨w12, rfl⟩ : ∃ w12 : World, w12 = wc := ⟨_, rfl⟩
    have B12 := bon B11 b12
    have OL12 := Lib.hid (ownsRow_below OL11.out b12)
    have ON12 := Lib.hid (ownsRow_below ON11.out b12)
    have X12 := Lib.hid ((b12.block _ (block_lt X11.out)).trans X11.out)
    have xx12 := (stream_cells X12.out).1
    have xy12 := (stream_cells X12.out).2.1
    have xl12 := block_lt X12.out
    clear b12 B11 OL11 ON11 X11 xx11 xy11 xl11
    clear HCX
    generalize carF ls wa wt = cf at *
    go_wp2_with fail
    refine (Done_any LA _ lc ls fr by_ _ (Lst.of_own OL12.out) (by omega) HLB.out).mono ?_
    rintro e w13 ⟨rfl, b13⟩
    rw [(want_at ls fr by_).1, (want_at ls fr by_).2]
    have B13 := bon B12 b13
    have OL13 := Lib.hid (ownsRow_below OL12.out b13)
    have ON13 := Lib.hid (ownsRow_below ON12.out b13)
    have X13 := Lib.hid ((b13.block _ (block_lt X12.out)).trans X12.out)
    have xx13 := (stream_cells X13.out).1
    have xy13 := (stream_cells X13.out).2.1
    have xl13 := block_lt X13.out
    clear b13 B12 OL12 ON12 X12 xx12 xy12 xl12
    have HWA := Lib.hid (show ∀ h : doneF ls fr by_ = 0, wantF ls fr by_ = optN (tellD ls fr by_) from fun h => by rw [wantF, if_pos h])
    have HWN := Lib.hid (show ∀ h : ¬ doneF ls fr by_ = 0, wantF ls fr by_ = -1 from fun h => by rw [wantF, if_neg h])
    generalize wantF ls fr by_ = wv at *
    go_upto_region 12 with fail
    go_cut [15] (fun s wx => s = .int .i64 (doneF ls fr by_) ∧ Below w13.heap.size w13 wx)
    case first =>
      by_cases h1 : by_ < 0
      all_goals
        first
          | have h1' : decide (by_ < 0) = true := decide_eq_true h1
          | have h1' : decide (by_ < 0) = false := decide_eq_false h1
        have HO := Lib.hid (show outsideB by_ 0 1000000000000 = (decide (by_ < 0) || decide (1000000000000 < by_)) from rfl)
        rw [h1'] at HO
        have HQ := Lib.hid (orF_done ls fr by_)
        clear h1
        go_wp2_with fail
        refine (momentFault_any fr _).mono ?_
        rintro e w' ⟨rfl, rfl⟩
        go_wp2_with fail
        first
          | (refine (when_any true 1 _).mono ?_
             rintro e w' ⟨rfl, rfl⟩
             rw [show whenF true 1 = whenF (outsideB by_ 0 1000000000000) 1 by rw [HO.out]; rfl])
          | (refine (when_any (decide (1000000000000 < by_)) 1 _).mono ?_
             rintro e w' ⟨rfl, rfl⟩
             rw [show whenF (decide (1000000000000 < by_)) 1 = whenF (outsideB by_ 0 1000000000000) 1 by rw [HO.out]; rfl])
        go_wp2_with fail
        refine (or_any w13.heap.size 3 3 [linksF ls, momF fr, whenF (outsideB by_ 0 1000000000000) 1] 31 _ rfl (by omega) (heap_alloc_new _ _)).mono ?_
        rintro e w' ⟨rfl, rfl⟩
        rw [HQ.out]
        go_wp2_with fail
        go_meet
        exact ⟨rfl, bfirst _ _⟩
    case rest =>
      obtain ⟨rfl, b14⟩ := hcut
      obtain ⟨w14, rfl⟩ : ∃ w14 : World, w14 = wc := ⟨_, rfl⟩
      have B14 := bon B13 b14
      have OL14 := Lib.hid (ownsRow_below OL13.out b14)
      have ON14 := Lib.hid (ownsRow_below ON13.out b14)
      have X14 := Lib.hid ((b14.block _ (block_lt X13.out)).trans X13.out)
      have xx14 := (stream_cells X14.out).1
      have xy14 := (stream_cells X14.out).2.1
      have xl14 := block_lt X14.out
      clear b14 B13 OL13 ON13 X13 xx13 xy13 xl13
      go_upto_if 95 with fail
      go_cut [16] (fun s wx => s = .int .i64 wv ∧ Below w14.heap.size w14 wx)
      case first =>
        by_cases hd : doneF ls fr by_ = 0
        · obtain ⟨k1, k2, k3, k4, k5⟩ := doneF_zero hd
          have K1 := Lib.hid k1
          have HV := Lib.hid (HWA.out hd)
          have hd1 : (doneF ls fr by_ == 0) = true := beq_iff_eq.2 hd
          clear k1 hd
          go_wp2_with fail
          refine (doneAt_any LA _ lc ls fr by_ _ (Lst.of_own OL14.out) (by omega) K1.out k2 k3 k4 (by omega)).mono ?_
          rintro e w15 ⟨rfl, b15⟩
          go_wp2_with fail
          go_meet
          exact ⟨by rw [HV.out], b15⟩
        · have hd1 : (doneF ls fr by_ == 0) = false := beq_eq_false_iff_ne.2 hd
          have HV := Lib.hid (HWN.out hd)
          clear hd
          go_wp2_with fail
          go_meet
          exact ⟨by rw [HV.out], Below.refl _ _⟩
      case rest =>
        obtain ⟨rfl, b15⟩ := hcut
        obtain ⟨w15, rfl⟩ : ∃ w15 : World, w15 = wc := ⟨_, rfl⟩
        have B15 := bon B14 b15
        have OL15 := Lib.hid (ownsRow_below OL14.out b15)
        have ON15 := Lib.hid (ownsRow_below ON14.out b15)
        have X15 := Lib.hid ((b15.block _ (block_lt X14.out)).trans X14.out)
        have xx15 := (stream_cells X15.out).1
        have xy15 := (stream_cells X15.out).2.1
        have xl15 := block_lt X15.out
        clear b15 B14 OL14 ON14 X14 xx14 xy14 xl14
        clear HWA HWN
        generalize doneF ls fr by_ = df
        have HNF := Lib.hid (orF_nf ls fr ns)
        by_cases hz : nfF ls fr ns = 0
        · obtain ⟨o, ho⟩ := fast_is ls fr ns
          have HO := Lib.hid ho
          have HZ := Lib.hid hz
          have HOK := Lib.hid (allOk hz)
          have HFA := Lib.hid (fast_at ho)
          have HPL := Lib.hid (planS_len ls fr ns)
          clear hz ho
          go_wp2_with fail
          refine (Plan_ok _ _ _ _ ls fr ns _ OL15.out (by omega) HLB.out ON15.out (by omega) HND.out HZ.out).mono ?_
          rintro e w16 ⟨v16, rfl, o16, b16⟩
          obtain ⟨PA, m, pc, rfl⟩ := own_form o16
          obtain rfl := (own_len o16).symm
          have P16 := Lib.hid (ownsRow_base o16 (Nat.zero_le _))
          clear o16
          have B16 := bon B15 b16
          have OL16 := Lib.hid (ownsRow_below OL15.out b16)
          have ON16 := Lib.hid (ownsRow_below ON15.out b16)
          have X16 := Lib.hid ((b16.block _ (block_lt X15.out)).trans X15.out)
          have xx16 := (stream_cells X16.out).1
          have xy16 := (stream_cells X16.out).2.1
          have xl16 := block_lt X16.out
          clear b16 B15 OL15 ON15 X15 xx15 xy15 xl15
          go_wp2_with fail
          refine (Faster_ok _ _ _ _ ls fr ns o _ OL16.out (by omega) HLB.out ON16.out (by omega) HND.out HZ.out HO.out).mono ?_
          rintro e w17 ⟨rfl, b17⟩
          rw [HFA.out.1, HFA.out.2]
          have P17 := Lib.hid (ownsRow_below P16.out b17)
          clear P16
          have B17 := bon B16 b17
          have OL17 := Lib.hid (ownsRow_below OL16.out b17)
          have ON17 := Lib.hid (ownsRow_below ON16.out b17)
          have X17 := Lib.hid ((b17.block _ (block_lt X16.out)).trans X16.out)
          have xx17 := (stream_cells X17.out).1
          have xy17 := (stream_cells X17.out).2.1
          have xl17 := block_lt X17.out
          clear b17 B16 OL16 ON16 X16 xx16 xy16 xl16
          go_wp2_with fail
          refine (momentFault_any fr _).mono ?_
          rintro e w' ⟨rfl, rfl⟩
          go_wp2_with fail
          refine (NeedsFault_any NA _ nc ns _ (Lst.of_own ON17.out) HND.out (by omega)).mono ?_
          rintro e w18 ⟨rfl, b18⟩
          have P18 := Lib.hid (ownsRow_below P17.out b18)
          clear P17
          have B18 := bon B17 b18
          have OL18 := Lib.hid (ownsRow_below OL17.out b18)
          have ON18 := Lib.hid (ownsRow_below ON17.out b18)
          have X18 := Lib.hid ((b18.block _ (block_lt X17.out)).trans X17.out)
          have xx18 := (stream_cells X18.out).1
          have xy18 := (stream_cells X18.out).2.1
          have xl18 := block_lt X18.out
          clear b18 B17 OL17 ON17 X17 xx17 xy17 xl17
          go_wp2_with fail
          refine (or_any w18.heap.size 3 3 [linksF ls, momF fr, needsF ns] 31 _ rfl (by omega) (heap_alloc_new _ _)).mono ?_
          rintro e w' ⟨rfl, rfl⟩
          rw [HNF.out, HZ.out]
          have b19 := bfirst w18 (.cells (List.map (Value.int .i64) [linksF ls, momF fr, needsF ns]).toArray 31)
          obtain ⟨w19, hw19⟩ : ∃ w19, w19 = w18.alloc (.cells (List.map (Value.int .i64) [linksF ls, momF fr, needsF ns]).toArray 31) := ⟨_, rfl⟩
          rw [← hw19] at b19 ⊢
          clear hw19
          have P19 := Lib.hid (ownsRow_below P18.out b19)
          clear P18
          have B19 := bon B18 b19
          have OL19 := Lib.hid (ownsRow_below OL18.out b19)
          have ON19 := Lib.hid (ownsRow_below ON18.out b19)
          have X19 := Lib.hid ((b19.block _ (block_lt X18.out)).trans X18.out)
          have xx19 := (stream_cells X19.out).1
          have xy19 := (stream_cells X19.out).2.1
          have xl19 := block_lt X19.out
          clear b19 B18 OL18 ON18 X18 xx18 xy18 xl18
          go_wp2_with fail
          refine (FasterOf_ok _ _ _ _ ls fr ns o _ OL19.out (by omega) ON19.out (by omega) HZ.out HO.out).mono ?_
          rintro e w20 ⟨rfl, b20⟩
          have P20 := Lib.hid (ownsRow_below P19.out b20)
          clear P19
          have B20 := bon B19 b20
          have OL20 := Lib.hid (ownsRow_below OL19.out b20)
          have ON20 := Lib.hid (ownsRow_below ON19.out b20)
          have X20 := Lib.hid ((b20.block _ (block_lt X19.out)).trans X19.out)
          have xx20 := (stream_cells X20.out).1
          have xy20 := (stream_cells X20.out).2.1
          have xl20 := block_lt X20.out
          clear b20 B19 OL19 ON19 X19 xx19 xy19 xl19
          generalize optN o = ov
          go_wp2_with fail
          refine (planOf_any LA _ _ lc ls fr _ ns _ (Lst.of_own OL20.out) (by omega) HOK.out.lk HOK.out.a0 HOK.out.a1 ON20.out (by omega) HOK.out.nd).mono ?_
          rintro e w21 ⟨v21, rfl, o21, b21⟩
          obtain ⟨QA, m, qc, rfl⟩ := own_form o21
          obtain rfl := (own_len o21).symm
          have hl1 := Lst.of_own (ownsRow_below P20.out b21)
          have hl2 := Lst.of_own o21
          rw [← HPL.out] at hl1 hl2
          have H1 := Lib.hid hl1
          have H2 := Lib.hid hl2
          have B21 := bon B20 b21
          have HEQ := Lib.hid (show ∀ (W : World) (q1 q2 : Nat), Lst W q1 3 (.slice PA (planS ls fr ns).length pc) ((planS ls fr ns).flatMap ndC) → Lst W q2 3 (.slice QA (planS ls fr ns).length qc) ((planS ls fr ns).flatMap ndC) → Calls Tryz.prog 41 #[.slice PA ns.length pc, .slice QA ns.length qc] W fun e w' => e = .returned (.bool true) ∧ ∃ q, w' = W.drewN q from fun W q1 q2 h1 h2 => by
            have := equalCame_same PA QA pc qc q1 q2 (planS ls fr ns) W (by rw [HPL.out]; omega) h1 h2
            rw [HPL.out] at this
            exact this)
          clear hl1 hl2 o21 b21
          go_wp2_with fail
          refine (HEQ.out _ _ _ H1.out H2.out).mono ?_
          rintro e w22 ⟨rfl, q, hw22⟩
          have B22 : Below w.heap.size w w22 := by rw [hw22]; exact below_drewN B21 q
          clear hw22
          go_wp2_with fail
          refine (synced_any _).mono ?_
          rintro e w23 ⟨rfl, b23⟩
          go_wp2_with fail
          go_ret
          exact ⟨rfl, bon B22 b23⟩
        · have hz1 : (nfF ls fr ns != 0) = true := bne_iff_ne.2 hz
          clear hz
          go_wp2_with fail
          refine (Plan_no _ _ _ _ ls fr ns _ OL15.out (by omega) HLB.out ON15.out (by omega) HND.out hz1).mono ?_
          rintro e w16 ⟨rfl, b16⟩
          have B16 := bon B15 b16
          have OL16 := Lib.hid (ownsRow_below OL15.out b16)
          have ON16 := Lib.hid (ownsRow_below ON15.out b16)
          have X16 := Lib.hid ((b16.block _ (block_lt X15.out)).trans X15.out)
          have xx16 := (stream_cells X16.out).1
          have xy16 := (stream_cells X16.out).2.1
          have xl16 := block_lt X16.out
          clear b16 B15 OL15 ON15 X15 xx15 xy15 xl15
          go_wp2_with fail
          refine (Faster_no _ _ _ _ ls fr ns _ OL16.out (by omega) HLB.out ON16.out (by omega) HND.out hz1).mono ?_
          rintro e w17 ⟨rfl, b17⟩
          have B17 := bon B16 b17
          have OL17 := Lib.hid (ownsRow_below OL16.out b17)
          have ON17 := Lib.hid (ownsRow_below ON16.out b17)
          have X17 := Lib.hid ((b17.block _ (block_lt X16.out)).trans X16.out)
          have xx17 := (stream_cells X17.out).1
          have xy17 := (stream_cells X17.out).2.1
          have xl17 := block_lt X17.out
          clear b17 B16 OL16 ON16 X16 xx16 xy16 xl16
          go_wp2_with fail
          refine (momentFault_any fr _).mono ?_
          rintro e w' ⟨rfl, rfl⟩
          go_wp2_with fail
          refine (NeedsFault_any NA _ nc ns _ (Lst.of_own ON17.out) HND.out (by omega)).mono ?_
          rintro e w18 ⟨rfl, b18⟩
          have B18 := bon B17 b18
          have OL18 := Lib.hid (ownsRow_below OL17.out b18)
          have ON18 := Lib.hid (ownsRow_below ON17.out b18)
          have X18 := Lib.hid ((b18.block _ (block_lt X17.out)).trans X17.out)
          have xx18 := (stream_cells X18.out).1
          have xy18 := (stream_cells X18.out).2.1
          have xl18 := block_lt X18.out
          clear b18 B17 OL17 ON17 X17 xx17 xy17 xl17
          go_wp2_with fail
          refine (or_any w18.heap.size 3 3 [linksF ls, momF fr, needsF ns] 31 _ rfl (by omega) (heap_alloc_new _ _)).mono ?_
          rintro e w' ⟨rfl, rfl⟩
          rw [HNF.out]
          go_wp2_with fail
          refine (synced_any _).mono ?_
          rintro e w19 ⟨rfl, b19⟩
          go_wp2_with fail
          go_ret
          exact ⟨rfl, bon (bbox B18 _) b19⟩
end Go.Proofs.YtegalkmfoffpfaaGreatDoor
