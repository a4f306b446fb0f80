/- The stream's methods: what a draw gives, and that nothing but the stream's own block has turned. -/
import Derived.Test.YtegalkmfoffpfaaDoorProg
import Derived.Test.YtegalkmfoffpfaaDoorBase
namespace Go.Proofs.YtegalkmfoffpfaaDoor
open Go.RowKit

def BelowOf (x n : Int) : Int := if n < 1 then 0 else if x.tmod n < 0 then x.tmod n + n else x.tmod n
theorem belowOf_range (x n : Int) (h : 1 ≤ n) : 0 ≤ BelowOf x n ∧ BelowOf x n < n := by
  unfold BelowOf
  have h1 := Int.tmod_lt_of_pos x (show 0 < n by omega)
  have h2 := Int.lt_tmod_of_pos x (show 0 < n by omega)
  split
  · omega
  · split <;> omega

set_option maxHeartbeats 400000 in
theorem below_any (x n : Int) (w : World) (h1 : 1 ≤ n) (h2 : n ≤ 9223372036854775807) :
    Calls Tryd.prog 56 #[.int .i64 x, .int .i64 n] w fun e w' => e = .returned (.int .i64 (BelowOf x n)) ∧ w = w' := by
  have hr := Int.lt_tmod_of_pos x (show 0 < n by omega)
  have hr2 := Int.tmod_lt_of_pos x (show 0 < n by omega)
  go_enter Tryd.func56, Tryd.ntmps56
  go_wp2
  · have h : x.tmod n < 0 := by assumption
    go_ret
    exact ⟨by unfold BelowOf; rw [if_neg (by omega), if_pos h]; rfl, rfl⟩
  · have h : 0 ≤ x.tmod n := by assumption
    go_ret
    exact ⟨by unfold BelowOf; rw [if_neg (by omega), if_neg (by omega)]; rfl, rfl⟩

/-- Some number from 0 to n - 1 comes back, the world stays. -/
def SomeBelow (n : Int) (w : World) (e : Ending) (w' : World) : Prop := ∃ r : Int, 0 ≤ r ∧ r < n ∧ e = .returned (.int .i64 r) ∧ w = w'
theorem below_some (x n : Int) (w : World) (h1 : 1 ≤ n) (h2 : n ≤ 9223372036854775807) :
    Calls Tryd.prog 56 #[.int .i64 x, .int .i64 n] w (SomeBelow n w) :=
  (below_any x n w h1 h2).mono fun _ _ ⟨he, hw⟩ => ⟨_, (belowOf_range x n h1).1, (belowOf_range x n h1).2, he, hw⟩

set_option maxHeartbeats 1000000 in
theorem next_any (b M : Nat) (n : Int) (w : World) (hs : IsStream 25 w b M) (hM : M ≤ 4611686018427387904) (h1 : 1 ≤ n) (h2 : n ≤ 9223372036854775807) :
    Calls Tryd.prog 30 #[.pointer (some ⟨b, 0, none⟩), .int .i64 n] w (GoesInt 25 b M 1 (fun r => 0 ≤ r ∧ r < n) w) := by
  obtain ⟨a, len, cap, at_, hh, hat, hlen, hz⟩ := hs
  obtain ⟨c0, c1, f0, f1⟩ := stream_cells hh
  by_cases h0 : len = 0
  · subst h0
    have H := Lib.hid (fun nq => goes_set (nq := nq) hh hat hlen hz)
    clear hh hz
    go_enter Tryd.func30, Tryd.ntmps30
    go_wp2_with fail
    refine (below_some _ _ _ h1 h2).mono ?_
    rintro e w' ⟨r, hr0, hr1, rfl, rfl⟩
    go_wp2_with fail
    go_ret
    exact ⟨r, ⟨hr0, hr1⟩, rfl, H.out 0⟩
  · obtain ⟨⟨xb, xo, xs⟩, rfl, hxb, hxs, hc⟩ := hz (by omega)
    simp only at hxs; subst hxs
    have hlp : 0 < len := by omega
    obtain ⟨z, hzc⟩ := hc (at_ % len) (Nat.mod_lt _ hlp)
    have H := Lib.hid (fun nq => goes_set (nq := nq) hh hat hlen hz)
    have hne : ((len : Int) == 0) = false := by simp; omega
    have hzc' : (w.setCell ⟨b, 1, none⟩ (.int .i64 ((at_ : Int) + 1))).cell? ⟨xb, xo + at_ % len, none⟩ = some (.int .i64 z) := by
      rw [← hzc]; exact World.cell?_of_block (w := w) (Below.heap_setCell _ _ _ _ (by simp only at hxb; show xb ≠ b; omega))
    have hb1 : (0 : Int) ≤ (at_ : Int) % (len : Int) := Int.emod_nonneg _ (by omega)
    have hb2 : (at_ : Int) % (len : Int) < (len : Int) := Int.emod_lt_of_pos _ (by omega)
    have hb3 : ((at_ : Int) % (len : Int)).toNat = at_ % len := by omega
    clear hh hz hc
    go_enter Tryd.func30, Tryd.ntmps30
    go_wp2_with fail
    go_quiet (fail)
    go_wp2_with fail
    go_quiet (fail)
    go_wp2_with fail
    refine (below_some _ _ _ (by omega) (by omega)).mono ?_
    rintro e w' ⟨r, hr0, hr1, rfl, rfl⟩
    go_wp2_with fail
    refine (below_some _ _ _ h1 h2).mono ?_
    rintro e w' ⟨r2, hr0, hr1, rfl, rfl⟩
    go_wp2_with fail
    go_ret
    exact ⟨r2, ⟨hr0, hr1⟩, rfl, H.out _⟩

set_option maxHeartbeats 400000 in
theorem range_any (b M : Nat) (lo hi : Int) (w : World) (hs : IsStream 25 w b M) (hM : M ≤ 4611686018427387904) (h0 : -1000000000000000 ≤ lo) (h1 : lo ≤ hi) (h2 : hi ≤ 1000000000000000) :
    Calls Tryd.prog 6 #[.pointer (some ⟨b, 0, none⟩), .int .i64 lo, .int .i64 hi] w (GoesInt 25 b M 1 (fun r => lo ≤ r ∧ r ≤ hi) w) := by
  go_enter Tryd.func6, Tryd.ntmps6
  go_wp2_with fail
  refine (next_any _ M _ _ hs hM (by omega) (by omega)).mono ?_
  rintro e w' ⟨r, ⟨hr0, hr1⟩, rfl, hg⟩
  go_wp2_with fail
  go_ret
  exact ⟨lo + r, ⟨by omega, by omega⟩, rfl, hg⟩

set_option maxHeartbeats 400000 in
theorem flip_any (b M : Nat) (n : Int) (w : World) (hs : IsStream 25 w b M) (hM : M ≤ 4611686018427387904) (h1 : 1 ≤ n) (h2 : n ≤ 1000000000000000) :
    Calls Tryd.prog 37 #[.pointer (some ⟨b, 0, none⟩), .int .i64 n] w (GoesBool 25 b M 1 w) := by
  go_enter Tryd.func37, Tryd.ntmps37
  go_wp2_with fail
  refine (next_any _ M _ _ hs hM (by omega) (by omega)).mono ?_
  rintro e w' ⟨r, ⟨hr0, hr1⟩, rfl, hg⟩
  go_wp2_with fail
  go_ret
  exact ⟨r == 0, rfl, hg⟩

set_option maxHeartbeats 400000 in
theorem pick_any (b M g : Nat) (zs : List Int) (n cap : Nat) (w : World) (t : TypeId) (hs : IsStream 25 w b M) (hM : M ≤ 4611686018427387904) (hn : n = zs.length) (h1 : 1 ≤ n) (h2 : n ≤ 1000000)
    (hg : w.heap[g]? = some (.cells (zs.map (Value.int .i64)).toArray t (0, 0))) (hgb : g ≠ b) :
    Calls Tryd.prog 7 #[.pointer (some ⟨b, 0, none⟩), .slice (some ⟨g, 0, none⟩) n cap] w (GoesInt 25 b M 1 (fun r => r ∈ zs) w) := by
  have Hn := Lib.hid hn
  clear hn
  go_enter Tryd.func7, Tryd.ntmps7
  go_wp2_with fail
  refine (next_any _ M _ _ hs hM (by omega) (by omega)).mono ?_
  rintro e w' ⟨r, ⟨hr0, hr1⟩, rfl, hgo⟩
  obtain ⟨k, rfl⟩ := Int.eq_ofNat_of_zero_le hr0
  have hk : k < zs.length := by have := Hn.out; omega
  have hc : w'.cell? ⟨g, k, none⟩ = some (.int .i64 zs[k]) := by
    have h3 := (hgo.gb.block g (block_lt hg) (fun e => by injection e with e; omega)).trans hg
    simp [World.cell?, h3, hk]
  clear hg
  go_wp2_with fail
  go_ret
  exact ⟨zs[k], List.getElem_mem hk, rfl, hgo⟩

set_option maxHeartbeats 400000 in
theorem some_any (b M g : Nat) (ss : List ByteArray) (n cap : Nat) (w : World) (t : TypeId) (hs : IsStream 25 w b M) (hM : M ≤ 4611686018427387904) (hn : n = ss.length) (h1 : 1 ≤ n) (h2 : n ≤ 1000000)
    (hg : w.heap[g]? = some (.cells (ss.map Value.string).toArray t (0, 0))) (hgb : g ≠ b) :
    Calls Tryd.prog 28 #[.pointer (some ⟨b, 0, none⟩), .slice (some ⟨g, 0, none⟩) n cap] w (GoesStr 25 b M 1 (fun r => r ∈ ss) w) := by
  have Hn := Lib.hid hn
  clear hn
  go_enter Tryd.func28, Tryd.ntmps28
  go_wp2_with fail
  refine (next_any _ M _ _ hs hM (by omega) (by omega)).mono ?_
  rintro e w' ⟨r, ⟨hr0, hr1⟩, rfl, hgo⟩
  obtain ⟨k, rfl⟩ := Int.eq_ofNat_of_zero_le hr0
  have hk : k < ss.length := by have := Hn.out; omega
  have hc : w'.cell? ⟨g, k, none⟩ = some (.string ss[k]) := by
    have h3 := (hgo.gb.block g (block_lt hg) (fun e => by injection e with e; omega)).trans hg
    simp [World.cell?, h3, hk]
  clear hg
  go_wp2_with fail
  go_ret
  exact ⟨ss[k], List.getElem_mem hk, rfl, hgo⟩
end Go.Proofs.YtegalkmfoffpfaaDoor
