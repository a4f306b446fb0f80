/- A crowd: who gives a piece to a peer. -/
import Derived.Test.YtegalkmfoffpfaaDoorNearFault
namespace Go.Proofs.YtegalkmfoffpfaaDoor
open Go.RowKit
/-- The neighbour among the first k that gives the piece p to the peer i; -1: there is none. -/
def giveTo (N H : Nat → Nat → Bool) (cn : Nat → Int) (gave : Nat → Bool) (i p : Nat) : Nat → Int
  | 0 => -1
  | k + 1 => if N i k && !gave k && H k p && (decide (giveTo N H cn gave i p k < 0) || decide (cn k > cn (giveTo N H cn gave i p k).toNat)) then (k : Int) else giveTo N H cn gave i p k
theorem giveTo_range (N H : Nat → Nat → Bool) (cn : Nat → Int) (gave : Nat → Bool) (i p : Nat) : ∀ k, -1 ≤ giveTo N H cn gave i p k ∧ giveTo N H cn gave i p k < (k : Int) + 0 ∨ giveTo N H cn gave i p k = -1
  | 0 => .inr rfl
  | k + 1 => by
    rw [giveTo]
    split
    · left; omega
    · rcases giveTo_range N H cn gave i p k with h | h
      · left; omega
      · right; exact h
theorem row_cell {w : World} {g m j : Nat} {f : Nat → Bool} {t : TypeId} (h : w.heap[g]? = some (.cells (rowC m f).toArray t (0, 0))) (hj : j < m) : w.cell? ⟨g, j, none⟩ = some (.bool (f j)) := by
  have e := rowC_at f hj
  simp [World.cell?, h, e]
def GvRel (N H : Nat → Nat → Bool) (cn : Nat → Int) (gave : Nat → Bool) (i p n : Nat) (w : World) (g : Nat) (b ix : Value) (wr : World) : Prop :=
  ∃ k : Nat, k + g = n ∧ ix = .int .i64 k ∧ b = .int .i64 (giveTo N H cn gave i p k) ∧ ∃ q, wr = w.drewN q
set_option maxRecDepth 100000 in
set_option maxHeartbeats 4000000 in
theorem giver_any (cb n m i p kc gg cg co cc : Nat) (KA NA HA : Option Addr) (nc hc base : Nat) (N H : Nat → Nat → Bool) (gN gH : Nat → Nat) (cn : Nat → Int) (gave : Nat → Bool) (w : World) (hn : n ≤ 50) (_hm : m ≤ 60) (hi : i < n) (hp : p < m)
    (k0 : w.cell? ⟨cb, 0, none⟩ = some (.slice KA n kc)) (k1 : w.cell? ⟨cb, 1, none⟩ = some (.slice NA n nc)) (k2 : w.cell? ⟨cb, 2, none⟩ = some (.slice HA n hc)) (k3 : w.cell? ⟨cb, 3, none⟩ = some (.slice (some ⟨cg, co, none⟩) n cc))
    (hN : Mat w base (.slice NA n nc) n n N gN) (hH : Mat w base (.slice HA n hc) n m H gH) (hC : ∀ j, j < n → w.cell? ⟨cg, co + j, none⟩ = some (.int .i64 (cn j))) (hG : w.heap[gg]? = some (.cells (rowC n gave).toArray 4 (0, 0))) :
    Calls Tryd.prog 92 #[.pointer (some ⟨cb, 0, none⟩), .int .i64 i, .int .i64 p, .slice (some ⟨gg, 0, none⟩) n n] w fun e w' => e = .returned (.int .i64 (giveTo N H cn gave i p n)) ∧ ∃ q, w' = w.drewN q := by
  have HN := Lib.hid hN
  have HH := Lib.hid hH
  have HC := Lib.hid hC
  have HG := Lib.hid hG
  obtain ⟨ob, rfl, _, _, _, _, _, a1, a2, _⟩ := hN.at_ (i := i) (j := 0) hi hi
  unfold slc at a1
  have hiI : (i : Int) < (n : Int) := by omega
  have hpI : (p : Int) < (m : Int) := by omega
  clear hN hH hC hG a2
  go_enter Tryd.func92, Tryd.ntmps92
  go_wp2_with fail
  go_loopg [9, 16, 10] n (fun g b ix _ wr => GvRel N H cn gave i p n w g b ix wr)
  case atStart => exact ⟨0, by omega, rfl, rfl, 0, rfl⟩
  case round =>
    obtain ⟨k, hk, rfl, rfl, q, rfl⟩ := hrel
    by_cases hg : gk = 0
    · obtain rfl : k = n := by omega
      clear hk hg
      go_wp2_with fail
      go_ret
      exact ⟨rfl, _, rfl⟩
    · have hlt : k < n := by omega
      have hkI : (k : Int) < (n : Int) := by omega
      have HK := Lib.hid hk
      have hgk : gk ≠ 0 := hg
      obtain ⟨ob1, eo1, _, _, _, _, _, n1, n2', _⟩ := HN.out.at_ (i := i) (j := k) hi hi
      obtain ⟨ob2, rfl, _, _, _, _, _, h1, h2', _⟩ := HH.out.at_ (i := k) (j := p) hlt hlt
      have n2 := n2' hlt
      have h2 := h2' hp
      clear n2' h2'
      have ck := HC.out k hlt
      have gk1 := row_cell HG.out hlt
      have hr := giveTo_range N H cn gave i p k
      have HST := Lib.hid (show giveTo N H cn gave i p (k + 1) = if N i k && !gave k && H k p && (decide (giveTo N H cn gave i p k < 0) || decide (cn k > cn (giveTo N H cn gave i p k).toNat)) then (k : Int) else giveTo N H cn gave i p k from rfl)
      have HCB := Lib.hid (show ∀ b : Nat, b < n → w.cell? ⟨cg, co + b, none⟩ = some (.int .i64 (cn b)) from fun b hb => HC.out b hb)
      unfold slc at h1
      clear hk hg n1 eo1
      generalize giveTo N H cn gave i p k = bb at *
      generalize cn k = ck1 at *
      rcases Bool.eq_false_or_eq_true (N i k) with e1 | e1
      rotate_left
      · have HS := Lib.hid (show giveTo N H cn gave i p (k + 1) = bb by rw [HST.out, e1]; rfl)
        rw [e1] at n2
        clear HST e1
        go_wp2_with fail
        go_quiet (fail)
        go_wp2_with fail
        go_roundg (gk - 1)
        case measure => omega
        case rel => exact ⟨k + 1, by have := HK.out; omega, by go_num, by rw [HS.out], _, rfl⟩
      · rw [e1] at n2
        rcases Bool.eq_false_or_eq_true (gave k) with e2 | e2
        · have HS := Lib.hid (show giveTo N H cn gave i p (k + 1) = bb by rw [HST.out, e1, e2]; rfl)
          rw [e2] at gk1
          clear HST e1 e2
          go_wp2_with fail
          go_quiet (fail)
          go_wp2_with fail
          go_roundg (gk - 1)
          case measure => omega
          case rel => exact ⟨k + 1, by have := HK.out; omega, by go_num, by rw [HS.out], _, rfl⟩
        · rw [e2] at gk1
          rcases Bool.eq_false_or_eq_true (H k p) with e3 | e3
          rotate_left
          · have HS := Lib.hid (show giveTo N H cn gave i p (k + 1) = bb by rw [HST.out, e1, e2, e3]; rfl)
            rw [e3] at h2
            clear HST e1 e2 e3
            go_wp2_with fail
            go_quiet (fail)
            go_wp2_with fail
            go_roundg (gk - 1)
            case measure => omega
            case rel => exact ⟨k + 1, by have := HK.out; omega, by go_num, by rw [HS.out], _, rfl⟩
          · rw [e3] at h2
            rcases Int.lt_or_le bb 0 with e4 | e4
            · have HS := Lib.hid (show giveTo N H cn gave i p (k + 1) = k by rw [HST.out, e1, e2, e3, decide_eq_true e4]; rfl)
              have e4' : decide (bb < 0) = true := decide_eq_true e4
              clear HST e1 e2 e3
              go_wp2_with fail
              go_quiet (fail)
              go_wp2_with fail
              go_roundg (gk - 1)
              case measure => omega
              case rel => exact ⟨k + 1, by have := HK.out; omega, by go_num, by rw [HS.out], _, rfl⟩
            · have e4' : decide (bb < 0) = false := decide_eq_false (by omega)
              obtain ⟨b, rfl⟩ := Int.eq_ofNat_of_zero_le e4
              have hbn : b < n := by omega
              have hbI : (b : Int) < (n : Int) := by omega
              have cbb := HCB.out b hbn
              rw [Int.toNat_natCast] at HST
              generalize cn b = cb1 at *
              by_cases e5 : ck1 > cb1
              · have HS := Lib.hid (show giveTo N H cn gave i p (k + 1) = k by rw [HST.out, e1, e2, e3, decide_eq_true e5]; simp)
                clear HST e1 e2 e3 hr
                go_wp2_with fail
                go_quiet (fail)
                go_wp2_with fail
                go_roundg (gk - 1)
                case measure => omega
                case rel => exact ⟨k + 1, by have := HK.out; omega, by go_num, by rw [HS.out], _, rfl⟩
              · have HS := Lib.hid (show giveTo N H cn gave i p (k + 1) = b by rw [HST.out, e1, e2, e3, decide_eq_false e5, e4']; rfl)
                clear HST e1 e2 e3 hr
                go_wp2_with fail
                go_quiet (fail)
                go_wp2_with fail
                go_roundg (gk - 1)
                case measure => omega
                case rel => exact ⟨k + 1, by have := HK.out; omega, by go_num, by rw [HS.out], _, rfl⟩
end Go.Proofs.YtegalkmfoffpfaaDoor
