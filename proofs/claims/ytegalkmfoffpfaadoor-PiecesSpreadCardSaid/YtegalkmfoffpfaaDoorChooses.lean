/- signref1.chooses. -/
import Derived.Test.YtegalkmfoffpfaaDoorRefSmall
namespace Go.Proofs.YtegalkmfoffpfaaDoor
open Go.RowKit
attribute [local go_sem ↓] Go.wp_at_zero Go.wp_at_succ
def ChRel (n m : Nat) (N H : Nat → Nat → Bool) (gave : Nat → Bool) (i : Nat) (w : World) (g : Nat) (ix a b r : Value) (wr : World) : Prop :=
  ∃ (p : Nat) (rr : Int), p + g = m ∧ ix = .int .i64 p ∧ a = .int .i64 (takeTo n N H (cnF m H) (raF n H) gave i p).1 ∧ b = .int .i64 (takeTo n N H (cnF m H) (raF n H) gave i p).2 ∧ r = .int .i64 rr ∧ (0 ≤ (takeTo n N H (cnF m H) (raF n H) gave i p).1 → rr = raF n H (takeTo n N H (cnF m H) (raF n H) gave i p).1.toNat) ∧ Below w.heap.size w wr
def MnRel (n : Nat) (f : Nat → Bool) (w : World) (g : Nat) (ix c : Value) (wr : World) : Prop := ∃ k : Nat, k + g = n ∧ ix = .int .i64 k ∧ c = .int .i64 (cntTo f k) ∧ w = wr
def GrRel (n : Nat) (N H : Nat → Nat → Bool) (cn : Nat → Int) (gave : Nat → Bool) (i p : Nat) (w : World) (g : Nat) (ix c : Value) (wr : World) : Prop := ∃ k : Nat, k + g = n ∧ ix = .int .i64 k ∧ c = .int .i64 (giveTo N H cn gave i p k) ∧ Below w.heap.size w wr
set_option maxRecDepth 100000 in
set_option maxHeartbeats 8000000 in
theorem chooses_any (n m i gg oc base b3 b4 : Nat) (OA : Option Addr) (N H : Nat → Nat → Bool) (gO cO : Nat → Nat) (gave : Nat → Bool) (w : World) (hn : n ≤ 50) (hm : m ≤ 60) (hi : i < n)
    (hO : Old w base (.slice OA n oc) n m H gO cO) (hG : w.heap[gg]? = some (.cells (rowC n gave).toArray 4 (0, 0)))
    (hBS : ∀ W, Below w.heap.size w W → ∀ k, k < n → Calls Tryd.prog 47 #[.int .i64 i, .int .i64 k, .pointer (some ⟨b3, 0, none⟩), .pointer (some ⟨b4, 0, none⟩)] W fun e w' => e = .returned (.bool (N i k)) ∧ Below W.heap.size W w') :
    Calls Tryd.prog 53 #[.slice OA n oc, .slice (some ⟨gg, 0, none⟩) n n, .int .i64 i, .func (.func 47) #[] #[.pointer (some ⟨b3, 0, none⟩), .pointer (some ⟨b4, 0, none⟩)], .func (.func 48) #[] #[]] w
      fun e w' => e = .returned (.tuple #[.int .i64 (takeTo n N H (cnF m H) (raF n H) gave i m).2, .int .i64 (takeTo n N H (cnF m H) (raF n H) gave i m).1]) ∧ Below w.heap.size w w' := by
  have HO := Lib.hid hO
  have HG := Lib.hid hG
  have HBS := Lib.hid hBS
  obtain ⟨ob, rfl, a1, _⟩ := hO.at_ (i := i) (j := 0) hi hi
  have hiI : (i : Int) < (n : Int) := by omega
  clear hO hG hBS
  go_enter Tryd.func53, Tryd.ntmps53
  go_wp2_with fail
  clear a1
  go_loopg [25, 12, 13, 14, 15, 16, 17, 18, 19, 37, 52] m (fun g ix a b r _ _ _ _ _ _ _ wr => ChRel n m N H gave i w g ix a b r wr)
  case atStart => exact ⟨0, 0, by omega, rfl, rfl, rfl, rfl, fun h => absurd h (show ¬ (0 : Int) ≤ -1 by decide), Below.refl _ _⟩
  case round =>
    obtain ⟨p, rr, hk, rfl, rfl, rfl, rfl, hrr, hb⟩ := hrel
    by_cases hg : gk = 0
    · obtain rfl : p = m := by omega
      clear hk hg hrr
      go_wp2_with fail
      go_ret2
      exact ⟨rfl, hb⟩
    · have hlt : p < m := by omega
      have hpI : (p : Int) < (m : Int) := by omega
      have HK := Lib.hid hk
      have hgk : gk ≠ 0 := hg
      have hO := HO.out.below hb
      obtain ⟨ob1, eo1, a1, h2'⟩ := hO.at_ (i := i) (j := p) hi hi
      simp only [Option.some.injEq, Addr.mk.injEq] at eo1
      obtain ⟨rfl, _, _⟩ := eo1
      have h2 := h2' hlt
      have HST := Lib.hid (show takeTo n N H (cnF m H) (raF n H) gave i (p + 1) = if H i p || (decide (0 ≤ (takeTo n N H (cnF m H) (raF n H) gave i p).1) && decide (raF n H p ≥ raF n H (takeTo n N H (cnF m H) (raF n H) gave i p).1.toNat)) then takeTo n N H (cnF m H) (raF n H) gave i p else if 0 ≤ giveTo N H (cnF m H) gave i p n then ((p : Int), giveTo N H (cnF m H) gave i p n) else takeTo n N H (cnF m H) (raF n H) gave i p from rfl)
      have HRR := Lib.hid hrr
      have HOB := Lib.hid hO
      clear hk hg h2' hrr hO
      generalize takeTo n N H (cnF m H) (raF n H) gave i p = tt at *
      obtain ⟨t1, t2⟩ := tt
      simp only at HST HRR
      rcases Bool.eq_false_or_eq_true (H i p) with e1 | e1
      · have HS := Lib.hid (show takeTo n N H (cnF m H) (raF n H) gave i (p + 1) = (t1, t2) by rw [HST.out, e1]; rfl)
        rw [e1] at h2
        clear e1 HST
        go_wp2_with fail
        go_roundg (gk - 1)
        case measure => omega
        case rel => exact ⟨p + 1, rr, by have := HK.out; omega, by go_num, by rw [HS.out], by rw [HS.out], rfl, by rw [HS.out]; exact HRR.out, hb⟩
      · rw [e1] at h2
        have HE1 := Lib.hid e1
        have HST2 := Lib.hid (show takeTo n N H (cnF m H) (raF n H) gave i (p + 1) = if decide (0 ≤ t1) && decide (raF n H p ≥ raF n H t1.toNat) then (t1, t2) else if 0 ≤ giveTo N H (cnF m H) gave i p n then ((p : Int), giveTo N H (cnF m H) gave i p n) else (t1, t2) by rw [HST.out, e1]; rfl)
        clear e1 HST
        go_wp2_with fail
        clear a1 h2
        obtain ⟨wo, rfl⟩ : ∃ wo : World, wo = wr := ⟨_, rfl⟩
        obtain ⟨gq, rfl⟩ : ∃ gq, gq = gk := ⟨_, rfl⟩
        go_loopg [37, 16, 17] n (fun g ix c _ wx => MnRel n (fun a => H a p) wo g ix c wx)
        case atStart => exact ⟨0, by omega, rfl, rfl, rfl⟩
        case round =>
          obtain ⟨k, hk, rfl, rfl, rfl⟩ := hrel
          by_cases hg : gk = 0
          rotate_left
          · have hkn : k < n := by omega
            have hkI : (k : Int) < (n : Int) := by omega
            obtain ⟨ob1, eo1, a1, h2'⟩ := HOB.out.at_ (i := k) (j := p) hkn hkn
            simp only [Option.some.injEq, Addr.mk.injEq] at eo1
            obtain ⟨rfl, _, _⟩ := eo1
            have h2 := h2' hlt
            have HK2 := Lib.hid hk
            have hgk2 : gk ≠ 0 := hg
            have hr := cntTo_range (fun a => H a p) k
            have HS := Lib.hid (show cntTo (fun a => H a p) (k + 1) = cntTo (fun a => H a p) k + if H k p then 1 else 0 from rfl)
            clear hk hg h2'
            generalize cntTo (fun a => H a p) k = z at *
            rcases Bool.eq_false_or_eq_true (H k p) with e1 | e1
            · rw [e1] at h2 HS
              clear e1
              go_wp2_with fail
              go_roundg (gk - 1)
              case measure => omega
              case rel => exact ⟨k + 1, by have := HK2.out; omega, by go_num, by rw [HS.out]; rfl, rfl⟩
            · rw [e1] at h2 HS
              clear e1
              go_wp2_with fail
              go_roundg (gk - 1)
              case measure => omega
              case rel => exact ⟨k + 1, by have := HK2.out; omega, by go_num, by rw [HS.out]; simp, rfl⟩
          · obtain rfl : n = k := by omega
            clear hk hg
            have hra : cntTo (fun a => H a p) n = raF n H p := rfl
            rw [hra]
            clear hra
            go_wp2_with fail
            go_loopg [52, 18, 19] n (fun g ix c _ wx => GrRel n N H (cnF m H) gave i p w g ix c wx)
            case atStart => exact ⟨0, by omega, rfl, rfl, hb⟩
            case round =>
              obtain ⟨k, hk, rfl, rfl, hb3⟩ := hrel
              by_cases hg : gk = 0
              · obtain rfl : n = k := by omega
                clear hk hg
                have HPR := Lib.hid (show (0 : Int) ≤ ((p : Nat) : Int) → raF n H p = raF n H ((p : Nat) : Int).toNat from fun _ => by rw [Int.toNat_natCast])
                generalize giveTo N H (cnF m H) gave i p n = gv at *
                generalize raF n H p = mn at *
                rcases Int.lt_or_le gv 0 with e2 | e2
                · have HS := Lib.hid (show takeTo n N H (cnF m H) (raF n H) gave i (p + 1) = (t1, t2) by rw [HST2.out]; split; rfl; rw [if_neg (by omega)])
                  have e2' : ¬ 0 ≤ gv := by omega
                  clear HST2
                  go_wp2_with fail
                  go_roundg (gq - 1)
                  case measure => omega
                  case rel => exact ⟨p + 1, rr, by have := HK.out; omega, by go_num, by rw [HS.out], by rw [HS.out], rfl, by rw [HS.out]; exact HRR.out, hb3⟩
                · rcases Int.lt_or_le t1 0 with e3 | e3
                  · have HS := Lib.hid (show takeTo n N H (cnF m H) (raF n H) gave i (p + 1) = ((p : Int), gv) by rw [HST2.out, decide_eq_false (show ¬ 0 ≤ t1 by omega), Bool.false_and, if_neg Bool.false_ne_true, if_pos e2])
                    clear HST2
                    go_wp2_with fail
                    go_roundg (gq - 1)
                    case measure => omega
                    case rel => exact ⟨p + 1, mn, by have := HK.out; omega, by go_num, by rw [HS.out], by rw [HS.out], rfl, by rw [HS.out]; exact HPR.out, hb3⟩
                  · have hrr := HRR.out e3
                    have e3' : ¬ t1 < 0 := by omega
                    rw [← hrr] at HST2
                    by_cases e4 : mn < rr
                    · have HS := Lib.hid (show takeTo n N H (cnF m H) (raF n H) gave i (p + 1) = ((p : Int), gv) by rw [HST2.out, decide_eq_false (show ¬ mn ≥ rr by omega), Bool.and_false, if_neg Bool.false_ne_true, if_pos e2])
                      clear HST2 hrr
                      go_wp2_with fail
                      go_roundg (gq - 1)
                      case measure => omega
                      case rel => exact ⟨p + 1, mn, by have := HK.out; omega, by go_num, by rw [HS.out], by rw [HS.out], rfl, by rw [HS.out]; exact HPR.out, hb3⟩
                    · have HS := Lib.hid (show takeTo n N H (cnF m H) (raF n H) gave i (p + 1) = (t1, t2) by rw [HST2.out, decide_eq_true e3, decide_eq_true (show mn ≥ rr by omega)]; rfl)
                      clear HST2 hrr
                      go_wp2_with fail
                      go_roundg (gq - 1)
                      case measure => omega
                      case rel => exact ⟨p + 1, rr, by have := HK.out; omega, by go_num, by rw [HS.out], by rw [HS.out], rfl, by rw [HS.out]; exact HRR.out, hb3⟩
              · have hkn : k < n := by omega
                have hkI : (k : Int) < (n : Int) := by omega
                have HK2 := Lib.hid hk
                have hgk2 : gk ≠ 0 := hg
                have hO3 := HO.out.below hb3
                obtain ⟨ob1, eo1, x1, x2'⟩ := hO3.at_ (i := k) (j := p) hkn hkn
                simp only [Option.some.injEq, Addr.mk.injEq] at eo1
                obtain ⟨rfl, _, _⟩ := eo1
                have x2 := x2' hlt
                have hG3 := (hb3.block gg (block_lt HG.out)).trans HG.out
                have gk1 := row_cell hG3 hkn
                have hr := giveTo_range N H (cnF m H) gave i p k
                have HST := Lib.hid (show giveTo N H (cnF m H) gave i p (k + 1) = if N i k && !gave k && H k p && (decide (giveTo N H (cnF m H) gave i p k < 0) || decide (cnF m H k > cnF m H (giveTo N H (cnF m H) gave i p k).toNat)) then (k : Int) else giveTo N H (cnF m H) gave i p k from rfl)
                have HO3 := Lib.hid hO3
                clear hk hg x2' hO3 hG3
                generalize giveTo N H (cnF m H) gave i p k = bb at *
                have f1 := fun (p : Bel wr) => bel_cell x1 p
                rcases Bool.eq_false_or_eq_true (H k p) with q1 | q1
                rotate_left
                · have HS := Lib.hid (show giveTo N H (cnF m H) gave i p (k + 1) = bb by rw [HST.out, q1, Bool.and_false, Bool.false_and]; rfl)
                  rw [q1] at x2
                  clear HST q1 f1
                  go_wp2_with fail
                  go_quiet (fail)
                  go_wp2_with fail
                  go_roundg (gk - 1)
                  case measure => omega
                  case rel => exact ⟨k + 1, by have := HK2.out; omega, by go_num, by rw [HS.out], below_drewN hb3 _⟩
                · rw [q1] at x2
                  have f2 := fun (p : Bel wr) => bel_cell x2 p
                  have hki4 : k ≠ i := by
                    intro e'
                    rw [e', HE1.out] at q1
                    cases q1
                  have hki2 : ¬ ((k : Int) = (i : Int)) := by omega
                  have hki3 : ((k : Int) != (i : Int)) = true := by simpa using hki2
                  rcases Bool.eq_false_or_eq_true (gave k) with q2 | q2
                  · have HS := Lib.hid (show giveTo N H (cnF m H) gave i p (k + 1) = bb by rw [HST.out, q2, Bool.not_true, Bool.and_false, Bool.false_and, Bool.false_and]; rfl)
                    rw [q2] at gk1
                    clear HST q1 q2 f1 f2
                    go_wp2_with fail
                    go_quiet (fail)
                    go_wp2_with fail
                    go_roundg (gk - 1)
                    case measure => omega
                    case rel => exact ⟨k + 1, by have := HK2.out; omega, by go_num, by rw [HS.out], below_drewN hb3 _⟩
                  · rw [q2] at gk1
                    have f3 := fun (p : Bel wr) => bel_cell gk1 p
                    have CB := fun (p : Bel wr) => HBS.out p.W (bon hb3 p.h) k hkn
                    rcases Bool.eq_false_or_eq_true (N i k) with q3 | q3
                    rotate_left
                    · have HS := Lib.hid (show giveTo N H (cnF m H) gave i p (k + 1) = bb by rw [HST.out, q3, Bool.false_and, Bool.false_and, Bool.false_and]; rfl)
                      simp only [q3] at CB
                      clear HST q1 q2 q3 x2 x1 gk1
                      go_wp2_with fail
                      refine wp_region_quiet_bel (by kernel_rfl) (by kernel_rfl) ?_
                      repeat (first | go_big_quiet_step (((go_at_call 47; exact Calls.bel_of (CB _)))) | quiet_step (((go_at_call 47; exact Calls.bel_of (CB _)))))
                      refine wpQuiet_nil ?_
                      intro _ hw'
                      obtain ⟨⟨w6, h6⟩, hw''⟩ := hw'
                      subst hw''
                      go_wp2_with fail
                      go_roundg (gk - 1)
                      case measure => omega
                      case rel => exact ⟨k + 1, by have := HK2.out; omega, by go_num, by rw [HS.out], bon hb3 h6⟩
                    · simp only [q3] at CB
                      rcases Int.lt_or_le bb 0 with q4 | q4
                      · have HS := Lib.hid (show giveTo N H (cnF m H) gave i p (k + 1) = k by rw [HST.out, q1, q2, q3, decide_eq_true q4]; rfl)
                        clear HST q1 q2 q3 x2 x1 gk1
                        go_wp2_with fail
                        refine wp_region_quiet_bel (by kernel_rfl) (by kernel_rfl) ?_
                        repeat (first | go_big_quiet_step (((go_at_call 47; exact Calls.bel_of (CB _)))) | quiet_step (((go_at_call 47; exact Calls.bel_of (CB _)))))
                        refine wpQuiet_nil ?_
                        intro _ hw'
                        obtain ⟨⟨w6, h6⟩, hw''⟩ := hw'
                        subst hw''
                        go_wp2_with fail
                        go_roundg (gk - 1)
                        case measure => omega
                        case rel => exact ⟨k + 1, by have := HK2.out; omega, by go_num, by rw [HS.out], bon hb3 h6⟩
                      · have q4' : ¬ bb < 0 := by omega
                        obtain ⟨b, rfl⟩ := Int.eq_ofNat_of_zero_le q4
                        have hbn : b < n := by omega
                        have hbI : (b : Int) < (n : Int) := by omega
                        rw [Int.toNat_natCast] at HST
                        obtain ⟨ob1, eo1, y1, _⟩ := HO3.out.at_ (i := b) (j := 0) hbn hbn
                        simp only [Option.some.injEq, Addr.mk.injEq] at eo1
                        obtain ⟨rfl, _, _⟩ := eo1
                        have f4 := fun (p : Bel wr) => bel_cell y1 p
                        have CK := fun (p : Bel wr) => (count_any (gO k) m (cO k) (H k) p.W (by omega) (fun j hj => bel_cell (HO3.out.cell hkn hkn hj) p)).mono (fun e w' (h : e = .returned (.int .i64 (cntTo (H k) m)) ∧ p.W = w') => (⟨h.1, h.2 ▸ Below.refl _ _⟩ : e = .returned (.int .i64 (cntTo (H k) m)) ∧ Below p.W.heap.size p.W w'))
                        have CG := fun (p : Bel wr) => (count_any (gO b) m (cO b) (H b) p.W (by omega) (fun j hj => bel_cell (HO3.out.cell hbn hbn hj) p)).mono (fun e w' (h : e = .returned (.int .i64 (cntTo (H b) m)) ∧ p.W = w') => (⟨h.1, h.2 ▸ Below.refl _ _⟩ : e = .returned (.int .i64 (cntTo (H b) m)) ∧ Below p.W.heap.size p.W w'))
                        unfold cnF at HST
                        generalize cntTo (H k) m = ck at *
                        generalize cntTo (H b) m = cb at *
                        by_cases q5 : ck > cb
                        · have HS := Lib.hid (show giveTo N H (fun i => cntTo (H i) m) gave i p (k + 1) = k by rw [HST.out, q1, q2, q3, decide_eq_true q5]; simp)
                          clear HST q1 q2 q3 x2 x1 gk1 hr y1
                          go_wp2_with fail
                          refine wp_region_quiet_bel (by kernel_rfl) (by kernel_rfl) ?_
                          repeat (first | go_big_quiet_step ((first | ((go_at_call 47; exact Calls.bel_of (CB _))) | ((go_at_call_of 48 (Value.slice (some ⟨gO k, 0, none⟩) m (cO k)); exact Calls.bel_of (CK _))) | ((go_at_call_of 48 (Value.slice (some ⟨gO b, 0, none⟩) m (cO b)); exact Calls.bel_of (CG _))))) | quiet_step ((first | ((go_at_call 47; exact Calls.bel_of (CB _))) | ((go_at_call_of 48 (Value.slice (some ⟨gO k, 0, none⟩) m (cO k)); exact Calls.bel_of (CK _))) | ((go_at_call_of 48 (Value.slice (some ⟨gO b, 0, none⟩) m (cO b)); exact Calls.bel_of (CG _))))))
                          refine wpQuiet_nil ?_
                          intro _ hw'
                          obtain ⟨⟨w6, h6⟩, hw''⟩ := hw'
                          subst hw''
                          go_wp2_with fail
                          go_roundg (gk - 1)
                          case measure => omega
                          case rel => exact ⟨k + 1, by have := HK2.out; omega, by go_num, by rw [show giveTo N H (cnF m H) gave i p (k + 1) = (k : Int) from HS.out], bon hb3 h6⟩
                        · have HS := Lib.hid (show giveTo N H (fun i => cntTo (H i) m) gave i p (k + 1) = b by rw [HST.out, q1, q2, q3, decide_eq_false q5, decide_eq_false q4']; rfl)
                          clear HST q1 q2 q3 x2 x1 gk1 hr y1
                          go_wp2_with fail
                          refine wp_region_quiet_bel (by kernel_rfl) (by kernel_rfl) ?_
                          repeat (first | go_big_quiet_step ((first | ((go_at_call 47; exact Calls.bel_of (CB _))) | ((go_at_call_of 48 (Value.slice (some ⟨gO k, 0, none⟩) m (cO k)); exact Calls.bel_of (CK _))) | ((go_at_call_of 48 (Value.slice (some ⟨gO b, 0, none⟩) m (cO b)); exact Calls.bel_of (CG _))))) | quiet_step ((first | ((go_at_call 47; exact Calls.bel_of (CB _))) | ((go_at_call_of 48 (Value.slice (some ⟨gO k, 0, none⟩) m (cO k)); exact Calls.bel_of (CK _))) | ((go_at_call_of 48 (Value.slice (some ⟨gO b, 0, none⟩) m (cO b)); exact Calls.bel_of (CG _))))))
                          refine wpQuiet_nil ?_
                          intro _ hw'
                          obtain ⟨⟨w6, h6⟩, hw''⟩ := hw'
                          subst hw''
                          go_wp2_with fail
                          go_roundg (gk - 1)
                          case measure => omega
                          case rel => exact ⟨k + 1, by have := HK2.out; omega, by go_num, by rw [show giveTo N H (cnF m H) gave i p (k + 1) = (b : Int) from HS.out], bon hb3 h6⟩
end Go.Proofs.YtegalkmfoffpfaaDoor
