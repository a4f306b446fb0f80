/- Where a file is: by halves, and one by one. -/
import Derived.Test.YtegalkmfoffpfaaGreatDoorFuncs2
import Derived.Test.YtegalkmfoffpfaaGreatDoorFilesWalk
import Derived.Test.YtegalkmfoffpfaaGreatDoorShelf
import Derived.Sort.Walk0
namespace Go.Proofs.YtegalkmfoffpfaaGreatDoor
open Go.RowKit

theorem FilesAt.at2 {w : World} {lo c n : Nat} {A : Option Addr} {fs : List FileD} (h : FilesAt w lo (.slice A n c) fs) (hn : n = fs.length) :
    ∃ y : Nat → Value, At2 w A n (fun i => .string (fAt fs i).1) y ∧ ∀ i, i < n → Lst w lo 2 (y i) ((fAt fs i).2.flatMap chC) := by
  have hy : ∀ i, ∃ v : Value, i < n → ∃ b o, A = some ⟨b, o, none⟩ ∧ b < w.heap.size ∧ w.cell? ⟨b, o + i * 2, none⟩ = some (.string (fAt fs i).1) ∧ w.cell? ⟨b, o + i * 2 + 1, none⟩ = some v ∧ Lst w lo 2 v ((fAt fs i).2.flatMap chC) := by
    intro i
    by_cases hi : i < n
    · obtain ⟨g, o, B, m, d, hA, hg, c0, c1, _, hl⟩ := h.at_ (i := i) (by omega)
      rw [← fAt_eq fs (by omega)] at c0 hl
      exact ⟨.slice B m d, fun _ => ⟨g, o, hA, hg, c0, c1, hl⟩⟩
    · exact ⟨.bool true, fun h => absurd h hi⟩
  refine ⟨fun i => (hy i).choose, fun i hi => ?_, fun i hi => ?_⟩
  · obtain ⟨b, o, e, hl, c0, c1, _⟩ := (hy i).choose_spec hi
    exact ⟨b, o, e, hl, c0, c1⟩
  · obtain ⟨_, _, _, _, _, _, h⟩ := (hy i).choose_spec hi
    exact h
/-! ### The order of keys -/
theorem bl_lt (a b : ByteArray) : Op.bytesLess a.toList b.toList = decide (a.toList < b.toList) := bytesLess_eq _ _
theorem keyLe_eq (a b : ByteArray) : keyLe a b = decide (a.toList ≤ b.toList) := by
  unfold keyLe
  rw [bl_lt]
  by_cases h : a.toList < b.toList
  · simp [h, List.le_of_lt h]
  · by_cases e : a.toList = b.toList
    · simp [e]
    · have : ¬ a.toList ≤ b.toList := fun hle => by
        rcases List.le_total a.toList b.toList with _ | _
        all_goals exact e (List.le_antisymm hle (List.not_lt.1 h))
      simp [h, e, this]
/-- Right files have keys that rise. -/
theorem filesF_key {fs : List FileD} (h : firstTo (fiF fs) fs.length = 0) {i : Nat} (hi : i + 1 < fs.length) : (fAt fs i).1.toList < (fAt fs (i + 1)).1.toList := by
  have h0 : fiF fs (i + 1) = 0 := by
    by_cases e : fiF fs (i + 1) = 0
    · exact e
    · have hz : firstTo (fiF fs) (i + 1) = 0 := by
        by_cases z : firstTo (fiF fs) (i + 1) = 0
        · exact z
        · have := firstTo_le (f := fiF fs) (n := fs.length) (by omega) z; omega
      have := firstTo_at (f := fiF fs) hi hz e; omega
  unfold fiF at h0
  split at h0
  · split at h0
    · omega
    · rename_i hk
      simp only [Nat.add_sub_cancel, keyLe_eq] at hk
      simp at hk
      exact hk
  · omega
theorem filesF_zero {fs : List FileD} (h : filesF fs = 0) : firstTo (fiF fs) fs.length = 0 := by
  unfold filesF at h
  split at h
  · omega
  · split at h
    · assumption
    · omega
theorem filesF_rise {fs : List FileD} (h : filesF fs = 0) : ∀ {i j : Nat}, i < j → j < fs.length → (fAt fs i).1.toList < (fAt fs j).1.toList := by
  intro i j hij hj
  induction j with
  | zero => omega
  | succ j ih =>
    have h1 := filesF_key (filesF_zero h) (i := j) hj
    rcases Nat.lt_or_ge i j with h2 | h2
    · exact List.lt_trans (ih h2 (by omega)) h1
    · rw [show i = j by omega]; exact h1

/-! ### The comparisons -/
theorem cb_lt : ∀ a b : List UInt8, Lib.compareBytes a b < 0 ↔ a < b
  | [], [] => by simp [Lib.compareBytes]
  | [], _ :: _ => by simp [Lib.compareBytes]
  | _ :: _, [] => by simp [Lib.compareBytes]
  | a :: xs, b :: ys => by
    rw [Lib.compareBytes, List.cons_lt_cons_iff]
    by_cases h : a < b
    · simp [h]
    · by_cases h2 : b < a
      · simp only [h, h2, if_true, if_false, false_or]
        constructor
        · intro h3; omega
        · intro h3; rw [h3.1] at h2; exact absurd h2 (UInt8.lt_irrefl _)
      · have e : a = b := UInt8.le_antisymm (UInt8.not_lt.1 h2) (UInt8.not_lt.1 h)
        subst e
        simp only [h, if_false, false_or, true_and]
        exact cb_lt xs ys
theorem cb_eq : ∀ a b : List UInt8, Lib.compareBytes a b = 0 ↔ a = b
  | [], [] => by simp [Lib.compareBytes]
  | [], _ :: _ => by simp [Lib.compareBytes]
  | _ :: _, [] => by simp [Lib.compareBytes]
  | a :: xs, b :: ys => by
    rw [Lib.compareBytes]
    by_cases h : a < b
    · simp only [h, if_true]
      constructor
      · intro h3; omega
      · intro h3; injection h3 with e _; rw [e] at h; exact absurd h (UInt8.lt_irrefl _)
    · by_cases h2 : b < a
      · simp only [h, h2, if_true, if_false]
        constructor
        · intro h3; omega
        · intro h3; injection h3 with e _; rw [e] at h2; exact absurd h2 (UInt8.lt_irrefl _)
      · have e : a = b := UInt8.le_antisymm (UInt8.not_lt.1 h2) (UInt8.not_lt.1 h)
        subst e
        simp only [h, if_false, List.cons.injEq, true_and]
        exact cb_eq xs ys
def cmpK (key : ByteArray) (fs : List FileD) (i : Nat) : Int := Lib.compareBytes (fAt fs i).1.data.toList key.data.toList
def isK (key : ByteArray) (fs : List FileD) (i : Nat) : Bool := (fAt fs i).1.toList == key.toList
theorem isK_eq (key : ByteArray) (fs : List FileD) (i : Nat) : isK key fs i = decide (cmpK key fs i = 0) := by
  unfold isK cmpK
  rw [Bool.eq_iff_iff]
  simp [cb_eq, ByteArray.toList_eq]
theorem cmpK_lt (key : ByteArray) (fs : List FileD) (i : Nat) : cmpK key fs i < 0 ↔ (fAt fs i).1.toList < key.toList := by
  unfold cmpK; rw [cb_lt, ByteArray.toList_eq, ByteArray.toList_eq]
theorem cmpK_eq (key : ByteArray) (fs : List FileD) (i : Nat) : cmpK key fs i = 0 ↔ (fAt fs i).1.toList = key.toList := by
  unfold cmpK; rw [cb_eq, ByteArray.toList_eq, ByteArray.toList_eq]
/-- Where the key is; -1: nowhere. -/
def keyAt (key : ByteArray) (fs : List FileD) : Int := idxI (isK key fs) fs.length
theorem cmpK_mono {key : ByteArray} {fs : List FileD} (h : filesF fs = 0) : ∀ a b, a ≤ b → b < fs.length → cmpK key fs b < 0 → cmpK key fs a < 0 := by
  intro a b hab hb hc
  rcases Nat.lt_or_ge a b with h1 | h1
  · rw [cmpK_lt] at hc ⊢
    exact List.lt_trans (filesF_rise h h1 hb) hc
  · rw [show a = b by omega]; exact hc
theorem keyAt_found {key : ByteArray} {fs : List FileD} {lo : Nat} (h : filesF fs = 0) (hb : Bound (cmpK key fs) fs.length lo lo) :
    (decide (lo < fs.length) && decide (cmpK key fs lo = 0)) = decide (0 ≤ keyAt key fs) ∧ (0 ≤ keyAt key fs → (lo : Int) = keyAt key fs) := by
  have hlow : ∀ j, j < lo → isK key fs j = false := fun j hj => by
    have := hb.below j hj
    rw [isK_eq]; simp; omega
  by_cases h1 : lo < fs.length ∧ cmpK key fs lo = 0
  · have e : keyAt key fs = lo := idxI_hit h1.1 (by rw [isK_eq]; simpa using h1.2) hlow
    rw [e]; simp [h1.1, h1.2]
  · have e : keyAt key fs = -1 := idxI_miss fun j hj => by
      rcases Nat.lt_or_ge j lo with h2 | h2
      · exact hlow j h2
      · rw [isK_eq]
        apply decide_eq_false
        intro h3
        rcases Nat.lt_or_ge lo j with h4 | h4
        · have h5 := filesF_rise h h4 hj
          rw [cmpK_eq] at h3
          rw [h3] at h5
          have h6 := hb.above lo (Nat.le_refl _) (by omega)
          rw [← cmpK_lt] at h5; omega
        · obtain rfl : j = lo := by omega
          exact h1 ⟨hj, h3⟩
    rw [e]
    refine ⟨?_, fun h => by omega⟩
    simp; intro h2 h3; exact h1 ⟨h2, h3⟩

/-! ### The walks -/
set_option maxRecDepth 100000 in
set_option maxHeartbeats 1000000 in
theorem fileAt_cmp (k key : ByteArray) (y : Value) (w : World) :
    Calls Tryz.prog 158 #[.agg #[.string k, y], .string key] w fun e w' => e = .returned (.int .i64 (Lib.compareBytes k.data.toList key.data.toList)) ∧ Below w.heap.size w w' := by
  go_enter Tryz.func158, Tryz.ntmps158
  go_wp2_with fail
  refine (Tryz.strings_Compare k key _).mono ?_
  rintro e w1 ⟨rfl, rfl⟩
  go_wp2_with fail
  go_ret
  exact ⟨rfl, bfirst _ _⟩
set_option maxRecDepth 100000 in
set_option maxHeartbeats 1000000 in
theorem fileAt_is (k key : ByteArray) (y : Value) (B : Nat) (w : World) (hB : w.cell? ⟨B, 0, none⟩ = some (.string key)) :
    Calls Tryz.prog 162 #[.agg #[.string k, y], .pointer (some ⟨B, 0, none⟩)] w fun e w' => e = .returned (.bool (k.toList == key.toList)) ∧ Below w.heap.size w w' := by
  have hl := World.block_lt_of_cell? w _ hB
  go_enter Tryz.func162, Tryz.ntmps162
  go_wp2_with fail
  go_ret
  exact ⟨rfl, bfirst _ _⟩
def FileFound (key : ByteArray) (fs : List FileD) (w : World) (e : Ending) (w' : World) : Prop :=
  ∃ i : Int, e = .returned (.tuple #[.int .i64 i, .bool (decide (0 ≤ keyAt key fs))]) ∧ (0 ≤ keyAt key fs → i = keyAt key fs) ∧ Below w.heap.size w w'
set_option maxRecDepth 100000 in
set_option maxHeartbeats 1000000 in
theorem fileAt_any (A : Option Addr) (lo c : Nat) (fs : List FileD) (key : ByteArray) (w : World) (hf : FilesAt w lo (.slice A fs.length c) fs) (hn : fs.length ≤ 300) (hz : filesF fs = 0) :
    Calls Tryz.prog 82 #[.slice A fs.length c, .string key] w (FileFound key fs w) := by
  obtain ⟨y, hA, _⟩ := hf.at2 rfl
  have HS := Lib.hid (searchFuncFile A fs.length c _ y (.string key) (cmpK key fs) 158 #[] (enters_of Tryz.func158 (by kernel_rfl) rfl) w hA (fun W i hi hb => fileAt_cmp _ key _ W) (by omega) (cmpK_mono hz))
  have HZ := Lib.hid hz
  clear hf hA hz
  go_enter Tryz.func82, Tryz.ntmps82
  go_wp2_with fail
  refine HS.out.mono ?_
  rintro e w1 ⟨i, hi, hbd, rfl, hb1⟩
  have HK := Lib.hid (keyAt_found HZ.out hbd)
  rw [HK.out.1]
  clear hbd
  go_wp2_with fail
  go_ret2
  exact ⟨i, rfl, HK.out.2, hb1⟩
set_option maxRecDepth 100000 in
set_option maxHeartbeats 1000000 in
theorem fileAtOf_any (A : Option Addr) (lo c : Nat) (fs : List FileD) (key : ByteArray) (w : World) (hf : FilesAt w lo (.slice A fs.length c) fs) (hn : fs.length ≤ 300) :
    Calls Tryz.prog 84 #[.slice A fs.length c, .string key] w fun e w' => e = .returned (.int .i64 (keyAt key fs)) ∧ Below w.heap.size w w' := by
  have hb0 := bfirst w (.cells #[.string key] 9)
  obtain ⟨y, hA, _⟩ := (hf.below hb0).at2 rfl
  have HS := Lib.hid (indexFuncFile A fs.length c _ y (isK key fs) 162 #[.pointer (some ⟨w.heap.size, 0, none⟩)] (enters_of Tryz.func162 (by kernel_rfl) rfl) (w.alloc (.cells #[.string key] 9)) hA
    (fun W i hi hb => fileAt_is _ key _ w.heap.size W (bold hb (cell_new_list w _ _ 0 _ rfl))) (by omega))
  clear hf hA
  go_enter Tryz.func84, Tryz.ntmps84
  go_wp2_with fail
  refine HS.out.mono ?_
  rintro e w1 ⟨rfl, hb1⟩
  go_wp2_with fail
  go_ret
  exact ⟨rfl, bon hb0 hb1⟩
end Go.Proofs.YtegalkmfoffpfaaGreatDoor
