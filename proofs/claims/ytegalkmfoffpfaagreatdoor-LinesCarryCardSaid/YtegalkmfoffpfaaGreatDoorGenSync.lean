/- The stream's makers of sums, chunks and manifests. -/
import Derived.Test.YtegalkmfoffpfaaGreatDoorBuild
import Derived.Deep.LoopGhost
import Derived.Deep.DeepCutAuto
import Derived.Deep.RegionHeld3
import Derived.Deep.AppendLies
namespace Go.Proofs.YtegalkmfoffpfaaGreatDoor
open Go.RowKit

set_option maxRecDepth 100000 in
set_option maxHeartbeats 400000 in
theorem gsum_any (b M : Nat) (w : World) (hs : IsStream 25 w b M) (hM : M ≤ 1000000000000000) :
    Calls Tryz.prog 117 #[.pointer (some ⟨b, 0, none⟩)] w (GoesStr 25 b M 1 (fun r => r.size = 16) w) := by
  have hlt := hs.lt
  go_enter Tryz.func117, Tryz.ntmps117
  go_wp2_with fail
  refine (some_any b M w.heap.size [⟨#[48]⟩, ⟨#[49]⟩, ⟨#[97]⟩, ⟨#[98]⟩, ⟨#[99]⟩, ⟨#[100]⟩, ⟨#[101]⟩, ⟨#[102]⟩] 8 8 _ 9 (hs.alloc _) (by omega) rfl (by omega) (by omega) (heap_alloc_new _ _) (by omega)).mono ?_
  rintro e w1 ⟨r, hr, rfl, hg1⟩
  have hr1 : r.size = 1 := by
    have := List.all_eq_true.1 (show ([⟨#[48]⟩, ⟨#[49]⟩, ⟨#[97]⟩, ⟨#[98]⟩, ⟨#[99]⟩, ⟨#[100]⟩, ⟨#[101]⟩, ⟨#[102]⟩] : List ByteArray).all (fun r => decide (r.size = 1)) = true by decide) r hr
    simpa using this
  have HR := Lib.hid hr1
  clear hr hr1
  go_wp2_with fail
  refine (Tryz.strings_Repeat r 16 _ (by omega) (by rw [HR.out]; omega)).mono ?_
  rintro e w2 ⟨rfl, hb2⟩
  go_wp2_with fail
  go_ret
  refine ⟨_, ?_, rfl, hg1.of_alloc.below hb2⟩
  show (Lib.repeatL r.data.toList 16).toArray.size = 16
  rw [List.size_toArray, Lib.repeatL_length]
  have : r.data.toList.length = 1 := HR.out
  rw [this]

set_option maxRecDepth 100000 in
set_option maxHeartbeats 400000 in
theorem odd_any (b M : Nat) (lo hi : Int) (w : World) (hs : IsStream 25 w b M) (hM : M ≤ 1000000000000000) (h0 : -100000000000000 ≤ lo) (h1 : lo ≤ hi) (h2 : hi ≤ 100000000000000) :
    Calls Tryz.prog 73 #[.pointer (some ⟨b, 0, none⟩), .int .i64 lo, .int .i64 hi] w (GoesInt 25 b M 2 (fun r => -100000000000001 ≤ r ∧ r ≤ 100000000000001) w) := by
  have hlt := hs.lt
  go_enter Tryz.func73, Tryz.ntmps73
  go_wp2_with fail
  refine (flip_any b M _ _ hs (by omega) (by omega) (by omega)).mono ?_
  rintro e w1 ⟨r, rfl, hg1⟩
  have hz := hg1.gb.size
  cases r
  · go_wp2_with fail
    refine (range_any b (M + 1) _ _ _ hg1.is (by omega) (by omega) h1 (by omega)).mono ?_
    rintro e w2 ⟨r, ⟨hr0, hr1⟩, rfl, hg2⟩
    go_wp2_with fail
    go_ret
    exact ⟨r, ⟨by omega, by omega⟩, rfl, hg1.trans hg2 (by omega)⟩
  · go_wp2_with fail
    refine (pick_any b (M + 1) w1.heap.size [lo - 1, hi + 1, lo, hi, -1099511627776, 1099511627776] 6 6 _ 3 (hg1.is.alloc _) (by omega) rfl (by omega) (by omega) (heap_alloc_new _ _) (by omega)).mono ?_
    rintro e w2 ⟨r, hr, rfl, hg2⟩
    go_wp2_with fail
    go_ret
    refine ⟨r, ?_, rfl, hg1.trans hg2.of_alloc (by omega)⟩
    simp at hr
    omega

theorem ownsRow_gb {w w' : World} {base size n b : Nat} {e : TypeId} {v : Value} {xs : List Value} (h : w.ownsRow base e size v n xs) (hg : w.grownBy w' (some b)) (hb : b < base) : w'.ownsRow base e size v n xs := by
  obtain ⟨hl, h2⟩ := h
  refine ⟨hl, ?_⟩
  rcases h2 with h2 | ⟨g, cap, cur, hv, hg', hh, r⟩
  · exact .inl h2
  · exact .inr ⟨g, cap, cur, hv, hg', (hg.block g (block_lt hh) (fun e => by injection e with e; omega)).trans hh, r⟩
/-- The stream has gone on, and an append has made or written a row from 'base' on. -/
theorem Goes.grown {ts : TypeId} {b M k : Nat} {w w1 w2 : World} {row : Option Nat} (h : Goes ts b M k w w1) (hg : w1.grownBy w2 row) (hlt : b < w.heap.size) (hr : ∀ x, row = some x → w.heap.size ≤ x) : Goes ts b M k w w2 := by
  have hB : Below w.heap.size w1 w2 := ⟨hg.os, hg.tape, hg.output, hg.size, fun i hi => hg.block i (Nat.lt_of_lt_of_le hi h.gb.size) (fun e => by have := hr i e.symm; omega)⟩
  exact h.belowAt (Nat.le_refl _) hlt hB
/-- A chunk: its sum and its bytes, as cells. -/
def chC (c : ByteArray × Int) : List Value := [.string c.1, .int .i64 c.2]
def okCh (c : ByteArray × Int) : Prop := c.1.size ≤ 16 ∧ -100000000000001 ≤ c.2 ∧ c.2 ≤ 100000000000001
theorem infoCh : (Tryz.prog.info? 49).map (fun i => (i.zero, i.size, i.bytes)) = some (some (.agg #[.string ⟨#[]⟩, .int .i64 0]), 2, 24) := by kernel_rfl

def ChunksGenRel (b M : Nat) (w : World) (n : Nat) (g : Nat) (out i : Value) (wr : World) : Prop :=
  ∃ (k : Nat) (cs : List (ByteArray × Int)), k + g = n ∧ i = .int .i64 k ∧ cs.length = k ∧ (∀ c ∈ cs, okCh c) ∧ wr.ownsRow w.heap.size 49 2 out k (cs.flatMap chC) ∧ Goes 25 b M (1 + k) w wr
def GoesChunks (b M : Nat) (w : World) (e : Ending) (w' : World) : Prop :=
  ∃ (v : Value) (cs : List (ByteArray × Int)), e = .returned v ∧ 1 ≤ cs.length ∧ cs.length ≤ 3 ∧ (∀ c ∈ cs, okCh c) ∧ w'.ownsRow w.heap.size 49 2 v cs.length (cs.flatMap chC) ∧ Goes 25 b M 4 w w'

theorem indexByte_le (l : List UInt8) (c : UInt8) : Lib.indexByte l c < l.length := by
  induction l with
  | nil => simp [Lib.indexByte]
  | cons x l ih =>
    unfold Lib.indexByte
    split
    · simp
    · split <;> simp <;> omega

set_option maxRecDepth 100000 in
set_option maxHeartbeats 1000000 in
theorem gchunks_any (b M : Nat) (w : World) (hs : IsStream 25 w b M) (hM : M ≤ 100000000000000) :
    Calls Tryz.prog 155 #[.pointer (some ⟨b, 0, none⟩)] w (GoesChunks b M w) := by
  have hlt := hs.lt
  obtain ⟨i0, hi, hz0, hz1, hz2⟩ := info_parts infoCh
  go_enter Tryz.func155, Tryz.ntmps155
  go_wp2_with fail
  refine (range_any b M _ _ _ hs (by omega) (by omega) (by omega) (by omega)).mono ?_
  rintro e w1 ⟨r, ⟨hr0, hr1⟩, rfl, hg1⟩
  obtain ⟨n, rfl⟩ := Int.eq_ofNat_of_zero_le (show 0 ≤ r by omega)
  go_wp2_with fail
  go_loopg [3, 7, 4] n (fun g out i _ wr => ChunksGenRel b M w n g out i wr)
  case atStart => exact ⟨0, [], by omega, rfl, rfl, by simp, World.ownsRow_nil _ _ _ _, hg1⟩
  case round =>
    obtain ⟨k, cs, hk, rfl, hl, hok, hown, hgo⟩ := hrel
    have HL := Lib.hid hl
    have HO := Lib.hid hok
    clear hl hok
    by_cases hg : gk = 0
    · obtain rfl : k = n := by omega
      go_wp2_with fail
      go_ret
      refine ⟨_, cs, rfl, by have := HL.out; omega, by have := HL.out; omega, HO.out, ?_, hgo.more (by omega)⟩
      have := HL.out
      rw [this]
      exact hown
    · have HK := Lib.hid hk
      have hkn : k < n := by omega
      clear hk
      have hsz := hgo.gb.size
      go_wp2_with fail
      refine (gsum_any b (M + (1 + k)) _ hgo.is (by omega)).mono ?_
      rintro e w2 ⟨t, ht, rfl, hg2⟩
      have ht0 : (0 : Int) < (t.size : Int) := by omega
      have HT := Lib.hid ht
      clear ht
      go_wp2_with fail
      refine (Tryz.strings_IndexByte ⟨#[48, 49, 97, 98, 99, 100, 101, 102]⟩ _ _).mono ?_
      rintro e w3 ⟨rfl, hw3⟩
      obtain rfl := hw3.symm
      have hi1 := Lib.indexByte_ge [48, 49, 97, 98, 99, 100, 101, 102] (((t[0]'(by omega)).toNat : Int).toNat.toUInt8)
      have hi2 := indexByte_le [48, 49, 97, 98, 99, 100, 101, 102] (((t[0]'(by omega)).toNat : Int).toNat.toUInt8)
      show _
      generalize hix : Lib.indexByte [48, 49, 97, 98, 99, 100, 101, 102] (((t[0]'(by omega)).toNat : Int).toNat.toUInt8) = ix at *
      simp only [List.length_cons, List.length_nil] at hi2
      clear hix
      have hown2 := ownsRow_gb hown hg2.gb hlt
      have hgo2 := hgo.trans hg2 (Nat.le_refl _)
      have hsz2 := hgo2.gb.size
      go_wp2_with (at_builtin; refine wpList_append_own _ rfl _ _ 50 rfl w.heap.size 49 i0 (.agg #[.string ⟨#[]⟩, .int .i64 0]) 2 24 Tryz.underlying50 hi hz0 hz1 hz2 rfl (by decide) _ _ _ rfl (hown2.alloc _) ⟨w2.heap.size, 0, none⟩ 1 1 [.string t, .int .i64 (10 + ix)] rfl rfl ?c1 ?c2 ?c3 ?c4 ?c5 ?_)
      case c1 => exact cells_new w2 [.string t, .int .i64 (10 + ix)] _
      case c2 => intro u hu; simp at hu; rcases hu with rfl | rfl <;> rfl
      case c3 => unfold maxLen; omega
      case c4 => omega
      case c5 => simp; omega
      intro v' w3 hown3 hgrow _
      have hgo3 := (hgo2.alloc (.cells #[.string t, .int .i64 (10 + ix)] 49)).grown hgrow hlt (fun x hx => (hown2.lt x hx).1)
      go_wp2_with fail
      go_roundg (gk - 1)
      case measure => omega
      case rel =>
        refine ⟨k + 1, cs ++ [(t, 10 + ix)], by have := HK.out; omega, by go_num, by have := HL.out; simp [this], ?_, ?_, hgo3.more (by omega)⟩
        · intro c hc
          rcases List.mem_append.1 hc with h | h
          · exact HO.out c h
          · simp at h; subst h
            exact ⟨by show t.size ≤ 16; have := HT.out; omega, by show -100000000000001 ≤ 10 + ix; omega, by show 10 + ix ≤ 100000000000001; omega⟩
        · rw [List.flatMap_append]; exact hown3
end Go.Proofs.YtegalkmfoffpfaaGreatDoor
