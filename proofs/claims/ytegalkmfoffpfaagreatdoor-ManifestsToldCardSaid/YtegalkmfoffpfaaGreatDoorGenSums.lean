/- Stream.Sums: some sums, nearly always right ones. -/
import Derived.Test.YtegalkmfoffpfaaGreatDoorGenMan2
import Derived.Test.YtegalkmfoffpfaaGreatDoorKit
namespace Go.Proofs.YtegalkmfoffpfaaGreatDoor
open Go.RowKit

theorem infoS : (Tryz.prog.info? 9).map (fun i => (i.zero, i.size, i.bytes)) = some (some (.string ⟨#[]⟩), 1, 16) := by kernel_rfl
def GoesSums (b M : Nat) (w : World) (e : Ending) (w' : World) : Prop :=
  ∃ (v : Value) (hv : List ByteArray), hv.length ≤ 6 ∧ (∀ s ∈ hv, s.size ≤ 16) ∧ e = .returned v ∧ w'.ownsRow w.heap.size 9 1 v hv.length (hv.map Value.string) ∧ Goes 25 b M 20 w w'
def SumsRel (b M : Nat) (w : World) (n : Nat) (g : Nat) (out i : Value) (wr : World) : Prop :=
  ∃ (k : Nat) (hv : List ByteArray), k + g = n ∧ i = .int .i64 k ∧ hv.length = k ∧ (∀ s ∈ hv, s.size ≤ 16) ∧ wr.ownsRow w.heap.size 9 1 out k (hv.map Value.string) ∧ Goes 25 b M (1 + k) w wr
set_option maxRecDepth 100000 in
set_option maxHeartbeats 2000000 in
theorem gsums_any (b M : Nat) (w : World) (hs : IsStream 25 w b M) (hM : M ≤ 100000000000000) :
    Calls Tryz.prog 43 #[.pointer (some ⟨b, 0, none⟩)] w (GoesSums b M w) := by
  have hlt := hs.lt
  obtain ⟨i0, hi, hz0, hz1, hz2⟩ := info_parts infoS
  go_enter Tryz.func43, Tryz.ntmps43
  go_wp2_with fail
  refine (next_any b M 6 _ hs (by omega) (by omega) (by omega)).mono ?_
  rintro e w1 ⟨r, ⟨hr0, hr1⟩, rfl, hg1⟩
  obtain ⟨n, rfl⟩ := Int.eq_ofNat_of_zero_le (show 0 ≤ r by omega)
  go_wp2_with fail
  go_loopg [3, 6] n (fun g out i wr => SumsRel b M w n g out i wr)
  case atStart => exact ⟨0, [], by omega, rfl, rfl, by simp, World.ownsRow_nil _ _ _ _, hg1⟩
  case round =>
    obtain ⟨k, hv, hk, rfl, hl, hok, hown, hgo⟩ := hrel
    have HL := Lib.hid hl
    have HO := Lib.hid hok
    clear hl hok
    by_cases hg : gk = 0
    · obtain rfl : k = n := by omega
      have hz := hgo.gb.size
      go_wp2_with fail
      refine (flip_any b (M + (1 + k)) 20 _ hgo.is (by omega) (by omega) (by omega)).mono ?_
      rintro e w2 ⟨fl, rfl, hg2⟩
      have hgo2 := hgo.trans hg2 (Nat.le_refl _)
      have hown2 := ownsRow_gb hown hg2.gb hlt
      have hz2' := hgo2.gb.size
      clear hgo hg2 hown
      cases fl
      · have HO2 := Lib.hid hown2
        clear hown2
        go_wp2_with fail
        go_ret
        exact ⟨_, hv, by have := HL.out; omega, HO.out, rfl, by rw [HL.out]; exact HO2.out, hgo2.more (by omega)⟩
      · go_wp2_with fail
        refine (some_any b (M + (1 + k + 1)) w2.heap.size [⟨#[]⟩, ⟨#[120]⟩] 2 2 _ 9 (hgo2.is.alloc _) (by omega) rfl (by omega) (by omega) (heap_alloc_new _ _) (by omega)).mono ?_
        rintro e w3 ⟨t, ht, rfl, hg3⟩
        have ht16 : t.size ≤ 16 := by
          simp at ht
          rcases ht with rfl | rfl <;> decide
        have hgo3 := hgo2.trans hg3.of_alloc (Nat.le_refl _)
        have hown3 := ownsRow_gb (ownsRow_below hown2 (bfirst _ _)) hg3.gb hlt
        have hz3' := hgo3.gb.size
        clear ht hgo2 hown2 hg3
        go_wp2_with (at_builtin; refine wpList_push (W := w3) (lo := w.heap.size) rfl _ _ 88 rfl 9 i0 _ 1 16 Tryz.underlying88 hi hz0 hz1 hz2 rfl (by decide) (by decide) _ _ _ rfl (Below.refl _ _) hz3' hown3 [.string t] rfl rfl rfl rfl (by omega) ?_)
        intro v4 w4 hown4 hb4 _ _
        have hgo4 := hgo3.belowAt (Nat.le_refl _) hlt hb4
        have HO4 := Lib.hid hown4
        clear hown3 hown4 hgo3
        go_wp2_with fail
        go_ret
        exact ⟨_, hv ++ [t], by have := HL.out; simp; omega, by intro s hs; rw [List.mem_append] at hs; rcases hs with hs | hs; exact HO.out s hs; simp at hs; subst hs; exact ht16, rfl, by rw [List.map_append, List.length_append, HL.out]; exact HO4.out, hgo4.more (by omega)⟩
    · have HK := Lib.hid hk
      have hkn : k < n := by omega
      clear hk
      have hsz := hgo.gb.size
      go_wp2_with fail
      refine (gsum_any b (M + (1 + k)) _ hgo.is (by omega)).mono ?_
      rintro e w2 ⟨t, ht, rfl, hg2⟩
      have ht16 : t.size ≤ 16 := by omega
      have hgo2 := hgo.trans hg2 (Nat.le_refl _)
      have hown2 := ownsRow_gb hown hg2.gb hlt
      have hz2' := hgo2.gb.size
      clear ht hgo hg2 hown
      go_wp2_with (at_builtin; refine wpList_push (W := w2) (lo := w.heap.size) rfl _ _ 88 rfl 9 i0 _ 1 16 Tryz.underlying88 hi hz0 hz1 hz2 rfl (by decide) (by decide) _ _ _ rfl (Below.refl _ _) hz2' hown2 [.string t] rfl rfl rfl rfl (by omega) ?_)
      intro v4 w4 hown4 hb4 _ _
      have hgo4 := hgo2.belowAt (Nat.le_refl _) hlt hb4
      have HO4 := Lib.hid hown4
      clear hown2 hown4 hgo2
      go_wp2_with fail
      go_roundg (gk - 1)
      case measure => omega
      case rel => exact ⟨k + 1, hv ++ [t], by have := HK.out; omega, by go_num, by have := HL.out; simp [this], by intro s hs; rw [List.mem_append] at hs; rcases hs with hs | hs; exact HO.out s hs; simp at hs; subst hs; exact ht16, by rw [List.map_append]; exact HO4.out, hgo4.more (by omega)⟩
end Go.Proofs.YtegalkmfoffpfaaGreatDoor
