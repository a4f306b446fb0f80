/- Where a peer is: by halves, and one by one. -/
import Derived.Test.YtegalkmfoffpfaaDoorPFuncs
import Derived.Test.YtegalkmfoffpfaaDoorPeers
import Derived.Test.YtegalkmfoffpfaaDoorShelf
namespace Go.Proofs.YtegalkmfoffpfaaDoor
open Go.RowKit
theorem PeersAt.at2 {w : World} {lo c n : Nat} {A : Option Addr} {fs : List PeerD} (h : PeersAt w lo (.slice A n c) fs) (hn : n = fs.length) :
    ∃ y : Nat → Value, At2 w A n (fun i => .string (pAt fs i).1) y ∧ ∀ i, i < n → Lst w lo 1 (y i) (inC (pAt fs i).2) := by
  have hy : ∀ i, ∃ v : Value, i < n → ∃ b o, A = some ⟨b, o, none⟩ ∧ b < w.heap.size ∧ w.cell? ⟨b, o + i * 2, none⟩ = some (.string (pAt fs i).1) ∧ w.cell? ⟨b, o + i * 2 + 1, none⟩ = some v ∧ Lst w lo 1 v (inC (pAt fs i).2) := by
    intro i
    by_cases hi : i < n
    · obtain ⟨g, o, B, m, d, hA, hg, c0, c1, _, hl⟩ := h.at_ (i := i) (by omega)
      rw [← pAt_eq fs (by omega)] at c0 hl
      exact ⟨.slice B m d, fun _ => ⟨g, o, hA, hg, c0, c1, hl⟩⟩
    · exact ⟨.bool true, fun h => absurd h hi⟩
  refine ⟨fun i => (hy i).choose, fun i hi => ?_, fun i hi => ?_⟩
  · obtain ⟨b, o, e, hl, c0, c1, _⟩ := (hy i).choose_spec hi
    exact ⟨b, o, e, hl, c0, c1⟩
  · obtain ⟨_, _, _, _, _, _, h⟩ := (hy i).choose_spec hi
    exact h
theorem piF_zero {m : Int} {fs : List PeerD} (h : peersF m fs = 0) : firstTo (piF m fs) fs.length = 0 := by
  unfold peersF at h
  split at h
  · omega
  · split at h
    · omega
    · exact h
theorem piF_all {m : Int} {fs : List PeerD} (h : peersF m fs = 0) {i : Nat} (hi : i < fs.length) : piF m fs i = 0 := by
  have h := piF_zero h
  by_cases e : piF m fs i = 0
  · exact e
  · have hz : firstTo (piF m fs) i = 0 := by
      by_cases z : firstTo (piF m fs) i = 0
      · exact z
      · have := firstTo_le (f := piF m fs) (n := fs.length) (by omega) z; omega
    have := firstTo_at (f := piF m fs) hi hz e; omega
theorem filesF_rise {m : Int} {fs : List PeerD} (h : peersF m fs = 0) : ∀ {i j : Nat}, i < j → j < fs.length → (pAt fs i).1.toList < (pAt fs j).1.toList := by
  have key : ∀ i, i + 1 < fs.length → (pAt fs i).1.toList < (pAt fs (i + 1)).1.toList := fun i hi => by
    have h0 := piF_all h hi
    unfold piF at h0
    split at h0
    · split at h0
      · omega
      · rename_i hk
        simp only [Nat.add_sub_cancel, keyLe_eq] at hk
        simp at hk
        simpa using hk
    · omega
  intro i j hij hj
  induction j with
  | zero => omega
  | succ j ih =>
    have h1 := key j hj
    rcases Nat.lt_or_ge i j with h2 | h2
    · exact List.lt_trans (ih h2 (by omega)) h1
    · rw [show i = j by omega]; exact h1
def cmpK (key : ByteArray) (fs : List PeerD) (i : Nat) : Int := Lib.compareBytes (pAt fs i).1.data.toList key.data.toList
def isK (key : ByteArray) (fs : List PeerD) (i : Nat) : Bool := (pAt fs i).1.toList == key.toList
theorem isK_eq (key : ByteArray) (fs : List PeerD) (i : Nat) : isK key fs i = decide (cmpK key fs i = 0) := by
  unfold isK cmpK
  rw [Bool.eq_iff_iff]
  simp [cb_eq, ByteArray.toList_eq]
theorem cmpK_lt (key : ByteArray) (fs : List PeerD) (i : Nat) : cmpK key fs i < 0 ↔ (pAt fs i).1.toList < key.toList := by
  unfold cmpK; rw [cb_lt, ByteArray.toList_eq, ByteArray.toList_eq]
theorem cmpK_eq (key : ByteArray) (fs : List PeerD) (i : Nat) : cmpK key fs i = 0 ↔ (pAt fs i).1.toList = key.toList := by
  unfold cmpK; rw [cb_eq, ByteArray.toList_eq, ByteArray.toList_eq]
/-- Where the key is; -1: nowhere. -/
def keyAt (key : ByteArray) (fs : List PeerD) : Int := idxI (isK key fs) fs.length
theorem cmpK_mono {key : ByteArray} {m : Int} {fs : List PeerD} (h : peersF m fs = 0) : ∀ a b, a ≤ b → b < fs.length → cmpK key fs b < 0 → cmpK key fs a < 0 := by
  intro a b hab hb hc
  rcases Nat.lt_or_ge a b with h1 | h1
  · rw [cmpK_lt] at hc ⊢
    exact List.lt_trans (filesF_rise h h1 hb) hc
  · rw [show a = b by omega]; exact hc
theorem keyAt_found {key : ByteArray} {m : Int} {fs : List PeerD} {lo : Nat} (h : peersF m fs = 0) (hb : Bound (cmpK key fs) fs.length lo lo) :
    (decide (lo < fs.length) && decide (cmpK key fs lo = 0)) = decide (0 ≤ keyAt key fs) ∧ (0 ≤ keyAt key fs → (lo : Int) = keyAt key fs) := by
  have hlow : ∀ j, j < lo → isK key fs j = false := fun j hj => by
    have := hb.below j hj
    rw [isK_eq]; simp; omega
  by_cases h1 : lo < fs.length ∧ cmpK key fs lo = 0
  · have e : keyAt key fs = lo := idxI_hit h1.1 (by rw [isK_eq]; simpa using h1.2) hlow
    rw [e]; simp [h1.1, h1.2]
  · have e : keyAt key fs = -1 := idxI_miss fun j hj => by
      rcases Nat.lt_or_ge j lo with h2 | h2
      · exact hlow j h2
      · rw [isK_eq]
        apply decide_eq_false
        intro h3
        rcases Nat.lt_or_ge lo j with h4 | h4
        · have h5 := filesF_rise h h4 hj
          rw [cmpK_eq] at h3
          rw [h3] at h5
          have h6 := hb.above lo (Nat.le_refl _) (by omega)
          rw [← cmpK_lt] at h5; omega
        · obtain rfl : j = lo := by omega
          exact h1 ⟨hj, h3⟩
    rw [e]
    refine ⟨?_, fun h => by omega⟩
    simp; intro h2 h3; exact h1 ⟨h2, h3⟩

/-! ### The walks -/
set_option maxRecDepth 100000 in
set_option maxHeartbeats 1000000 in
theorem peerAt_cmp (k key : ByteArray) (y : Value) (w : World) :
    Calls Tryd.prog 90 #[.agg #[.string k, y], .string key] w fun e w' => e = .returned (.int .i64 (Lib.compareBytes k.data.toList key.data.toList)) ∧ Below w.heap.size w w' := by
  go_enter Tryd.func90, Tryd.ntmps90
  go_wp2_with fail
  refine (Tryd.strings_Compare k key _).mono ?_
  rintro e w1 ⟨rfl, rfl⟩
  go_wp2_with fail
  go_ret
  exact ⟨rfl, bfirst _ _⟩
set_option maxRecDepth 100000 in
set_option maxHeartbeats 1000000 in
theorem peerAt_is (k key : ByteArray) (y : Value) (B : Nat) (w : World) (hB : w.cell? ⟨B, 0, none⟩ = some (.string key)) :
    Calls Tryd.prog 71 #[.agg #[.string k, y], .pointer (some ⟨B, 0, none⟩)] w fun e w' => e = .returned (.bool (k.toList == key.toList)) ∧ Below w.heap.size w w' := by
  have hl := World.block_lt_of_cell? w _ hB
  go_enter Tryd.func71, Tryd.ntmps71
  go_wp2_with fail
  go_ret
  exact ⟨rfl, bfirst _ _⟩
def PeerFound (key : ByteArray) (fs : List PeerD) (w : World) (e : Ending) (w' : World) : Prop :=
  ∃ i : Int, e = .returned (.tuple #[.int .i64 i, .bool (decide (0 ≤ keyAt key fs))]) ∧ (0 ≤ keyAt key fs → i = keyAt key fs) ∧ Below w.heap.size w w'
set_option maxRecDepth 100000 in
set_option maxHeartbeats 1000000 in
theorem peerAt_any (A : Option Addr) (lo c : Nat) (fs : List PeerD) (key : ByteArray) (w : World) (hf : PeersAt w lo (.slice A fs.length c) fs) (hn : fs.length ≤ 300) (m : Int) (hz : peersF m fs = 0) :
    Calls Tryd.prog 64 #[.slice A fs.length c, .string key] w (PeerFound key fs w) := by
  obtain ⟨y, hA, _⟩ := hf.at2 rfl
  have HS := Lib.hid (searchFuncPeer A fs.length c _ y (.string key) (cmpK key fs) 90 #[] (enters_of Tryd.func90 (by kernel_rfl) rfl) w hA (fun W i hi hb => peerAt_cmp _ key _ W) (by omega) (cmpK_mono hz))
  have HZ := Lib.hid hz
  clear hf hA hz
  go_enter Tryd.func64, Tryd.ntmps64
  go_wp2_with fail
  refine HS.out.mono ?_
  rintro e w1 ⟨i, hi, hbd, rfl, hb1⟩
  have HK := Lib.hid (keyAt_found HZ.out hbd)
  rw [HK.out.1]
  clear hbd
  go_wp2_with fail
  go_ret2
  exact ⟨i, rfl, HK.out.2, hb1⟩
set_option maxRecDepth 100000 in
set_option maxHeartbeats 1000000 in
theorem peerAtOf_any (A : Option Addr) (lo c : Nat) (fs : List PeerD) (key : ByteArray) (w : World) (hf : PeersAt w lo (.slice A fs.length c) fs) (hn : fs.length ≤ 300) :
    Calls Tryd.prog 45 #[.slice A fs.length c, .string key] w fun e w' => e = .returned (.int .i64 (keyAt key fs)) ∧ Below w.heap.size w w' := by
  have hb0 := bfirst w (.cells #[.string key] 9)
  obtain ⟨y, hA, _⟩ := (hf.below hb0).at2 rfl
  have HS := Lib.hid (indexFuncPeer A fs.length c _ y (isK key fs) 71 #[.pointer (some ⟨w.heap.size, 0, none⟩)] (enters_of Tryd.func71 (by kernel_rfl) rfl) (w.alloc (.cells #[.string key] 9)) hA
    (fun W i hi hb => peerAt_is _ key _ w.heap.size W (bold hb (cell_new_list w _ _ 0 _ rfl))) (by omega))
  clear hf hA
  go_enter Tryd.func45, Tryd.ntmps45
  go_wp2_with fail
  refine HS.out.mono ?_
  rintro e w1 ⟨rfl, hb1⟩
  go_wp2_with fail
  go_ret
  exact ⟨rfl, bon hb0 hb1⟩
end Go.Proofs.YtegalkmfoffpfaaDoor
