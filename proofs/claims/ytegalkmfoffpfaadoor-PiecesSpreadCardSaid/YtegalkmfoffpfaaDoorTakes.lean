/- The piece that a peer takes, and from whom. -/
import Derived.Test.YtegalkmfoffpfaaDoorCrowd
namespace Go.Proofs.YtegalkmfoffpfaaDoor
open Go.RowKit
/-- The piece among the first p that the peer i takes, and from whom; -1: nothing. -/
def takeTo (n : Nat) (N H : Nat → Nat → Bool) (cn ra : Nat → Int) (gave : Nat → Bool) (i : Nat) : Nat → Int × Int
  | 0 => (-1, -1)
  | p + 1 =>
    if H i p || (decide (0 ≤ (takeTo n N H cn ra gave i p).1) && decide (ra p ≥ ra (takeTo n N H cn ra gave i p).1.toNat)) then takeTo n N H cn ra gave i p
    else if 0 ≤ giveTo N H cn gave i p n then ((p : Int), giveTo N H cn gave i p n) else takeTo n N H cn ra gave i p
theorem takeTo_range (n : Nat) (N H : Nat → Nat → Bool) (cn ra : Nat → Int) (gave : Nat → Bool) (i : Nat) : ∀ p, (takeTo n N H cn ra gave i p).1 < (p : Int)
  | 0 => by show (-1 : Int) < 0; omega
  | p + 1 => by
    have := takeTo_range n N H cn ra gave i p
    rw [takeTo]
    split
    · omega
    · split
      · show (p : Int) < _; omega
      · omega
def TkRel (n m : Nat) (N H : Nat → Nat → Bool) (cn ra : Nat → Int) (gave : Nat → Bool) (i : Nat) (w : World) (g : Nat) (a b ix : Value) (wr : World) : Prop :=
  ∃ p : Nat, p + g = m ∧ ix = .int .i64 p ∧ a = .int .i64 (takeTo n N H cn ra gave i p).1 ∧ b = .int .i64 (takeTo n N H cn ra gave i p).2 ∧ ∃ q, wr = w.drewN q
set_option maxRecDepth 100000 in
set_option maxHeartbeats 4000000 in
theorem takes_any (cb n m i kc gg cg co cc rg ro rc : Nat) (KA NA HA : Option Addr) (nc hc base : Nat) (N H : Nat → Nat → Bool) (gN gH : Nat → Nat) (cn ra : Nat → Int) (gave : Nat → Bool) (w : World) (hn : n ≤ 50) (hm : m ≤ 60) (hi : i < n)
    (k0 : w.cell? ⟨cb, 0, none⟩ = some (.slice KA n kc)) (k1 : w.cell? ⟨cb, 1, none⟩ = some (.slice NA n nc)) (k2 : w.cell? ⟨cb, 2, none⟩ = some (.slice HA n hc)) (k3 : w.cell? ⟨cb, 3, none⟩ = some (.slice (some ⟨cg, co, none⟩) n cc)) (k4 : w.cell? ⟨cb, 4, none⟩ = some (.slice (some ⟨rg, ro, none⟩) m rc))
    (hN : Mat w base (.slice NA n nc) n n N gN) (hH : Mat w base (.slice HA n hc) n m H gH) (hC : ∀ j, j < n → w.cell? ⟨cg, co + j, none⟩ = some (.int .i64 (cn j))) (hR : ∀ j, j < m → w.cell? ⟨rg, ro + j, none⟩ = some (.int .i64 (ra j))) (hG : w.heap[gg]? = some (.cells (rowC n gave).toArray 4 (0, 0))) :
    Calls Tryd.prog 67 #[.pointer (some ⟨cb, 0, none⟩), .int .i64 i, .slice (some ⟨gg, 0, none⟩) n n] w fun e w' => e = .returned (.tuple #[.int .i64 (takeTo n N H cn ra gave i m).1, .int .i64 (takeTo n N H cn ra gave i m).2]) ∧ ∃ q, w' = w.drewN q := by
  have HGV := Lib.hid (fun p (hp : p < m) q => giver_any cb n m i p kc gg cg co cc KA NA HA nc hc base N H gN gH cn gave (w.drewN q) hn hm hi hp k0 k1 k2 k3 (hN.drewN q) (hH.drewN q) hC hG)
  have HH := Lib.hid hH
  have HR := Lib.hid hR
  obtain ⟨ob, rfl, _, _, _, _, _, a1, _, _⟩ := hH.at_ (i := i) (j := 0) hi hi
  unfold slc at a1
  have hiI : (i : Int) < (n : Int) := by omega
  clear hN hH hC hR hG
  go_enter Tryd.func67, Tryd.ntmps67
  go_wp2_with fail
  go_loopg [6, 7, 15, 8, 9] m (fun g a b ix _ _ wr => TkRel n m N H cn ra gave i w g a b ix wr)
  case atStart => exact ⟨0, by omega, rfl, rfl, rfl, 0, rfl⟩
  case round =>
    obtain ⟨p, hk, rfl, rfl, rfl, q, rfl⟩ := hrel
    by_cases hg : gk = 0
    · obtain rfl : p = m := by omega
      clear hk hg
      go_wp2_with fail
      go_ret2
      exact ⟨rfl, _, rfl⟩
    · have hlt : p < m := by omega
      have hpI : (p : Int) < (m : Int) := by omega
      have HK := Lib.hid hk
      have hgk : gk ≠ 0 := hg
      obtain ⟨ob1, eo1, _, _, _, _, _, _, h2', _⟩ := HH.out.at_ (i := i) (j := p) hi hi
      have h2 := h2' hlt
      have rp := HR.out p hlt
      have hr := takeTo_range n N H cn ra gave i p
      have HST := Lib.hid (show takeTo n N H cn ra gave i (p + 1) = if H i p || (decide (0 ≤ (takeTo n N H cn ra gave i p).1) && decide (ra p ≥ ra (takeTo n N H cn ra gave i p).1.toNat)) then takeTo n N H cn ra gave i p else if 0 ≤ giveTo N H cn gave i p n then ((p : Int), giveTo N H cn gave i p n) else takeTo n N H cn ra gave i p from rfl)
      clear hk hg h2' eo1
      generalize takeTo n N H cn ra gave i p = tt at *
      obtain ⟨t1, t2⟩ := tt
      simp only at hr HST
      go_upto_region 5 with fail
      go_cut [48] (fun s wx => s = .bool (H i p || (decide (0 ≤ t1) && decide (ra p ≥ ra t1.toNat))) ∧ ∃ q, wx = w.drewN q)
      case first =>
        generalize ra p = rp1 at *
        rcases Bool.eq_false_or_eq_true (H i p) with e1 | e1
        · rw [e1] at h2
          have HE := Lib.hid e1
          clear e1 HST
          go_quiet (fail)
          go_wp2_with fail
          go_meet
          exact ⟨by rw [HE.out]; rfl, _, World.drewN_drewN ..⟩
        · rw [e1] at h2
          have HE := Lib.hid e1
          clear e1 HST
          rcases Int.lt_or_le t1 0 with e2 | e2
          · have e2' : decide (0 ≤ t1) = false := decide_eq_false (by omega)
            have HE2 := Lib.hid e2'
            go_quiet (fail)
            go_wp2_with fail
            go_meet
            exact ⟨by rw [HE.out, HE2.out]; rfl, _, World.drewN_drewN ..⟩
          · obtain ⟨b, rfl⟩ := Int.eq_ofNat_of_zero_le e2
            have hbI : (b : Int) < (m : Int) := by omega
            have rb := HR.out b (by omega)
            have HE2 := Lib.hid (show decide (0 ≤ (b : Int)) = true from decide_eq_true e2)
            go_quiet (fail)
            go_wp2_with fail
            go_meet
            exact ⟨by rw [HE.out, HE2.out]; simp, _, World.drewN_drewN ..⟩
      case rest =>
        obtain ⟨rfl, q2, rfl⟩ := hcut
        rcases Bool.eq_false_or_eq_true (H i p || (decide (0 ≤ t1) && decide (ra p ≥ ra t1.toNat))) with hc | hc
        · have HS := Lib.hid (show takeTo n N H cn ra gave i (p + 1) = (t1, t2) by rw [HST.out, hc]; rfl)
          rw [hc]
          clear hc HST
          go_wp2_with fail
          go_roundg (gk - 1)
          case measure => omega
          case rel => exact ⟨p + 1, by have := HK.out; omega, by go_num, by rw [HS.out], by rw [HS.out], _, rfl⟩
        · rw [hc] at HST ⊢
          clear hc
          go_wp2_with fail
          refine (HGV.out p hlt q2).mono ?_
          rintro e w3 ⟨rfl, q3, rfl⟩
          rcases Int.lt_or_le (giveTo N H cn gave i p n) 0 with e5 | e5
          · have HS := Lib.hid (show takeTo n N H cn ra gave i (p + 1) = (t1, t2) by rw [HST.out, if_neg Bool.false_ne_true, if_neg (by omega)])
            have e5' : ¬ 0 ≤ giveTo N H cn gave i p n := by omega
            clear HST
            generalize giveTo N H cn gave i p n = gv at *
            go_wp2_with fail
            go_roundg (gk - 1)
            case measure => omega
            case rel => exact ⟨p + 1, by have := HK.out; omega, by go_num, by rw [HS.out], by rw [HS.out], _, rfl⟩
          · have HS := Lib.hid (show takeTo n N H cn ra gave i (p + 1) = ((p : Int), giveTo N H cn gave i p n) by rw [HST.out, if_neg Bool.false_ne_true, if_pos e5])
            clear HST
            generalize giveTo N H cn gave i p n = gv at *
            go_wp2_with fail
            go_roundg (gk - 1)
            case measure => omega
            case rel => exact ⟨p + 1, by have := HK.out; omega, by go_num, by rw [HS.out], by rw [HS.out], _, rfl⟩
end Go.Proofs.YtegalkmfoffpfaaDoor
