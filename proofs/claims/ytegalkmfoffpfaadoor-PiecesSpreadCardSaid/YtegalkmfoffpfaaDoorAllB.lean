/- Whether a false is among rows of bools: slices.Contains, slices.ContainsFunc and the two closures. -/
import Derived.Test.YtegalkmfoffpfaaDoorCrowdMem
namespace Go.Proofs.YtegalkmfoffpfaaDoor
open Go.RowKit
attribute [local go_sem ↓] Go.wp_at_zero Go.wp_at_succ
/-- Where the first false is; -1: nowhere. -/
def falAt (f : Nat → Bool) (m : Nat) : Int := match (List.range m).find? (fun j => !f j) with | some j => (j : Int) | none => -1
def NoF (f : Nat → Bool) (k : Nat) : Prop := ∀ j, j < k → f j = true
theorem find_none {q : Nat → Bool} {m : Nat} (h : ∀ j, j < m → q j = false) : (List.range m).find? q = none := by
  rw [List.find?_eq_none]
  intro x hx
  rw [h x (by simpa using hx)]
  decide
theorem find_at {q : Nat → Bool} {m k : Nat} (hk : k < m) (h : ∀ j, j < k → q j = false) (hq : q k = true) : (List.range m).find? q = some k := by
  rw [List.find?_range_eq_some]
  exact ⟨hq, by simpa using hk, fun j hj => by rw [h j hj]; rfl⟩
def BxRel (f : Nat → Bool) (m : Nat) (w : World) (g : Nat) (i : Value) (wr : World) : Prop := ∃ k : Nat, k + g = m ∧ i = .int .i64 k ∧ NoF f k ∧ w = wr
set_option maxRecDepth 100000 in
set_option maxHeartbeats 1000000 in
theorem indexB_any (g m : Nat) (f : Nat → Bool) (w : World) (hm : m ≤ 100) (h : w.heap[g]? = some (.cells (rowC m f).toArray 4 (0, 0))) :
    Calls Tryd.prog 69 #[.slice (some ⟨g, 0, none⟩) m m, .bool false] w fun e w' => e = .returned (.int .i64 (falAt f m)) ∧ w = w' := by
  have H := Lib.hid h
  clear h
  go_enter Tryd.func69, Tryd.ntmps69
  go_wp2_with fail
  go_loopg [8, 5] m (fun g i _ wr => BxRel f m w g i wr)
  case atStart => exact ⟨0, by omega, rfl, fun j hj => absurd hj (Nat.not_lt_zero _), rfl⟩
  case round =>
    obtain ⟨k, hk, rfl, hno, rfl⟩ := hrel
    by_cases hg : gk = 0
    · obtain rfl : k = m := by omega
      have HV := Lib.hid (show falAt f k = -1 by rw [falAt, find_none (fun j hj => by rw [hno j hj]; rfl)])
      clear hk hg hno
      go_wp2_with fail
      go_ret
      exact ⟨ret_int HV.out.symm, rfl⟩
    · have hlt : k < m := by omega
      have hltI : (k : Int) < (m : Int) := by omega
      have hc := row_cell H.out hlt
      have HK := Lib.hid hk
      have hgk : gk ≠ 0 := hg
      rcases Bool.eq_false_or_eq_true (f k) with e1 | e1
      · rw [e1] at hc
        have HN := Lib.hid (show NoF f (k + 1) from fun j hj => by
          by_cases e : j = k
          · rw [e]; exact e1
          · exact hno j (by omega))
        clear hk hg hno e1
        go_wp2_with fail
        go_roundg (gk - 1)
        case measure => omega
        case rel => exact ⟨k + 1, by have := HK.out; omega, by go_num, HN.out, rfl⟩
      · rw [e1] at hc
        have HV := Lib.hid (show falAt f m = k by rw [falAt, find_at hlt (fun j hj => by rw [hno j hj]; rfl) (by rw [e1]; rfl)])
        clear hk hg hno e1
        go_wp2_with fail
        go_ret
        exact ⟨ret_int HV.out.symm, rfl⟩
theorem falAt_all (f : Nat → Bool) (m : Nat) : decide (0 ≤ falAt f m) = !((List.range m).all fun p => f p) := by
  unfold falAt
  cases h : (List.range m).find? (fun j => !f j) with
  | none =>
    rw [List.find?_eq_none] at h
    have : (List.range m).all (fun p => f p) = true := by
      rw [List.all_eq_true]
      intro x hx
      simpa using h x hx
    rw [this]
    rfl
  | some j =>
    have h1 := List.find?_some h
    have h2 := List.mem_of_find?_eq_some h
    have : (List.range m).all (fun p => f p) = false := by
      rw [List.all_eq_false]
      exact ⟨j, h2, by simpa using h1⟩
    rw [this]
    simp
set_option maxRecDepth 100000 in
set_option maxHeartbeats 1000000 in
theorem containsB_any (g m : Nat) (f : Nat → Bool) (w : World) (hm : m ≤ 100) (h : w.heap[g]? = some (.cells (rowC m f).toArray 4 (0, 0))) :
    Calls Tryd.prog 44 #[.slice (some ⟨g, 0, none⟩) m m, .bool false] w fun e w' => e = .returned (.bool (!((List.range m).all fun p => f p))) ∧ w = w' := by
  have HI := Lib.hid (indexB_any g m f w hm h)
  have HV := Lib.hid (falAt_all f m)
  clear h
  go_enter Tryd.func44, Tryd.ntmps44
  go_wp2_with fail
  refine HI.out.mono ?_
  rintro e w1 ⟨rfl, rfl⟩
  go_wp2_with fail
  go_ret
  exact ⟨by rw [← HV.out]; rfl, rfl⟩
set_option maxRecDepth 100000 in
set_option maxHeartbeats 1000000 in
theorem lacks_one (g m : Nat) (f : Nat → Bool) (w : World) (hm : m ≤ 100) (h : w.heap[g]? = some (.cells (rowC m f).toArray 4 (0, 0))) :
    Calls Tryd.prog 43 #[.slice (some ⟨g, 0, none⟩) m m] w fun e w' => e = .returned (.bool (!((List.range m).all fun p => f p))) ∧ w = w' := by
  have HI := Lib.hid (containsB_any g m f w hm h)
  clear h
  go_enter Tryd.func43, Tryd.ntmps43
  go_wp2_with fail
  refine HI.out.mono ?_
  rintro e w1 ⟨rfl, rfl⟩
  go_wp2_with fail
  go_ret
  exact ⟨rfl, rfl⟩
set_option maxRecDepth 100000 in
set_option maxHeartbeats 1000000 in
theorem lacks_two (g m : Nat) (f : Nat → Bool) (w : World) (hm : m ≤ 100) (h : w.heap[g]? = some (.cells (rowC m f).toArray 4 (0, 0))) :
    Calls Tryd.prog 54 #[.slice (some ⟨g, 0, none⟩) m m] w fun e w' => e = .returned (.bool (!((List.range m).all fun p => f p))) ∧ w = w' := by
  have HI := Lib.hid (containsB_any g m f w hm h)
  clear h
  go_enter Tryd.func54, Tryd.ntmps54
  go_wp2_with fail
  refine HI.out.mono ?_
  rintro e w1 ⟨rfl, rfl⟩
  go_wp2_with fail
  go_ret
  exact ⟨rfl, rfl⟩
def rowAll (m : Nat) (H : Nat → Nat → Bool) (i : Nat) : Bool := (List.range m).all fun p => H i p
set_option maxRecDepth 100000 in
set_option maxHeartbeats 1000000 in
theorem indexR_any (q n m c base : Nat) (A : Option Addr) (H : Nat → Nat → Bool) (gH : Nat → Nat) (w : World) (hn : n ≤ 50) (hM : Mat w base (.slice A n c) n m H gH)
    (hq : ∀ i, i < n → Calls Tryd.prog q #[.slice (some ⟨gH i, 0, none⟩) m m] w fun e w' => e = .returned (.bool (!rowAll m H i)) ∧ w = w') (eg : ∀ args w, (callFunc q args).run Tryd.prog w = .ok (.enter q args) w) :
    Calls Tryd.prog 68 #[.slice A n c, .func (.func q) #[] #[]] w fun e w' => e = .returned (.int .i64 (falAt (rowAll m H) n)) ∧ w = w' := by
  have HM := Lib.hid hM
  have HQ := Lib.hid hq
  clear hM hq
  go_enter Tryd.func68, Tryd.ntmps68
  go_wp2_with fail
  go_loopg [8, 5] n (fun g i _ wr => BxRel (rowAll m H) n w g i wr)
  case atStart => exact ⟨0, by omega, rfl, fun j hj => absurd hj (Nat.not_lt_zero _), rfl⟩
  case round =>
    obtain ⟨k, hk, rfl, hno, rfl⟩ := hrel
    by_cases hg : gk = 0
    · obtain rfl : k = n := by omega
      have HV := Lib.hid (show falAt (rowAll m H) k = -1 by rw [falAt, find_none (fun j hj => by rw [hno j hj]; rfl)])
      clear hk hg hno
      go_wp2_with fail
      go_ret
      exact ⟨ret_int HV.out.symm, rfl⟩
    · have hlt : k < n := by omega
      have hltI : (k : Int) < (n : Int) := by omega
      obtain ⟨ob, rfl, _, _, _, _, _, a1, _, _⟩ := HM.out.at_ (i := k) (j := 0) hlt hlt
      unfold slc at a1
      have hcall := HQ.out k hlt
      have HK := Lib.hid hk
      have hgk : gk ≠ 0 := hg
      rcases Bool.eq_false_or_eq_true (rowAll m H k) with e1 | e1
      · rw [e1] at hcall
        have HN := Lib.hid (show NoF (rowAll m H) (k + 1) from fun j hj => by
          by_cases e : j = k
          · rw [e]; exact e1
          · exact hno j (by omega))
        clear hk hg hno e1
        go_wp2_with (go_at_fn q; refine hcall.mono ?_; rintro e w1 ⟨rfl, rfl⟩)
        go_roundg (gk - 1)
        case measure => omega
        case rel => exact ⟨k + 1, by have := HK.out; omega, by go_num, HN.out, rfl⟩
      · rw [e1] at hcall
        have HV := Lib.hid (show falAt (rowAll m H) n = k by rw [falAt, find_at hlt (fun j hj => by rw [hno j hj]; rfl) (by rw [e1]; rfl)])
        clear hk hg hno e1
        go_wp2_with (go_at_fn q; refine hcall.mono ?_; rintro e w1 ⟨rfl, rfl⟩)
        go_ret
        exact ⟨ret_int HV.out.symm, rfl⟩
set_option maxRecDepth 100000 in
set_option maxHeartbeats 1000000 in
theorem containsR_any (q n m c base : Nat) (A : Option Addr) (H : Nat → Nat → Bool) (gH : Nat → Nat) (w : World) (hn : n ≤ 50) (hM : Mat w base (.slice A n c) n m H gH)
    (hq : ∀ i, i < n → Calls Tryd.prog q #[.slice (some ⟨gH i, 0, none⟩) m m] w fun e w' => e = .returned (.bool (!rowAll m H i)) ∧ w = w') (eg : ∀ args w, (callFunc q args).run Tryd.prog w = .ok (.enter q args) w) :
    Calls Tryd.prog 42 #[.slice A n c, .func (.func q) #[] #[]] w fun e w' => e = .returned (.bool (!allF n m H)) ∧ w = w' := by
  have HI := Lib.hid (indexR_any q n m c base A H gH w hn hM hq eg)
  have HV := Lib.hid (show decide (0 ≤ falAt (rowAll m H) n) = !allF n m H from falAt_all (rowAll m H) n)
  clear hM hq
  go_enter Tryd.func42, Tryd.ntmps42
  go_wp2_with fail
  refine HI.out.mono ?_
  rintro e w1 ⟨rfl, rfl⟩
  go_wp2_with fail
  go_ret
  exact ⟨by rw [← HV.out]; rfl, rfl⟩
end Go.Proofs.YtegalkmfoffpfaaDoor
