/- Stream.Content: some string of at most six bytes a round. -/
import Derived.Test.YtegalkmfoffpfaaDoorBuild
namespace Go.Proofs.YtegalkmfoffpfaaDoor
open Go.RowKit

theorem strCells_byteCells (l : List UInt8) (s : ByteArray) : Lib.byteCells l ++ Lib.strCells s = Lib.byteCells (l ++ s.data.toList) := by
  simp [Lib.byteCells, Lib.strCells]

/-- At the head of Content's loop: k rounds are done, the builder (block w.heap.size) holds at most 6 k bytes. -/
def ContentRel (b M : Nat) (w : World) (many : Int) (si : Value) (wr : World) : Prop :=
  ∃ (k : Nat) (l : List UInt8), si = .int .i64 k ∧ (k : Int) ≤ many ∧ l.length ≤ 6 * k ∧ Lib.IsBuilder 65 5 w.heap.size w.heap.size (Lib.byteCells l) wr ∧ Goes 25 b M k w wr

set_option maxHeartbeats 1000000 in
set_option maxRecDepth 100000 in
theorem content_any (b M : Nat) (many : Int) (w : World) (hs : IsStream 25 w b M) (hM : M ≤ 1000000000000000) (h0 : 0 ≤ many) (h1 : many ≤ 1000) :
    Calls Tryd.prog 5 #[.pointer (some ⟨b, 0, none⟩), .int .i64 many] w (GoesStr 25 b M 1000 (fun r => (r.size : Int) ≤ 6 * many) w) := by
  have hlt := hs.lt
  go_enter Tryd.func5, Tryd.ntmps5
  go_wp2_with fail
  go_loopw [7] (fun si wr => ContentRel b M w many si wr) (fun si _ => (many - intOf si).toNat)
  case atStart => exact ⟨0, [], rfl, h0, by simp, isBuilder_new _ _ w, (Goes.refl hs).alloc _⟩
  case round =>
    obtain ⟨k, l, rfl, hk, hl, hbd, hgo⟩ := hrel
    by_cases hlt' : (k : Int) < many
    · go_wp2_with fail
      have hsz := hgo.gb.size
      refine (some_any b (M + k) wr.heap.size [⟨#[97]⟩, ⟨#[98]⟩, ⟨#[99]⟩, ⟨#[0]⟩, ⟨#[255]⟩, ⟨#[122, 122]⟩, ⟨#[97, 98, 99, 97, 98, 99]⟩] 7 7 _ 9 (hgo.is.alloc _) (by omega) rfl (by omega) (by omega) (heap_alloc_new _ _) (by omega)).mono ?_
      rintro e w1 ⟨r, hr, rfl, hg1⟩
      have hr6 : r.size ≤ 6 := by
        have := List.all_eq_true.1 (show ([⟨#[97]⟩, ⟨#[98]⟩, ⟨#[99]⟩, ⟨#[0]⟩, ⟨#[255]⟩, ⟨#[122, 122]⟩, ⟨#[97, 98, 99, 97, 98, 99]⟩] : List ByteArray).all (fun r => decide (r.size ≤ 6)) = true by decide) r hr
        simpa using this
      have hb1 := isBuilder_gb (isBuilder_alloc hbd _) hg1.gb hlt
      have hs1 := hg1.gb.size
      simp only [World.size_alloc] at hs1
      clear hr
      go_wp2_with fail
      refine (writeString_any w.heap.size w.heap.size _ r _ hb1 (by rw [Lib.byteCells_length]; omega) (by omega)).mono ?_
      rintro e w2 ⟨rfl, hb2, hbe⟩
      go_wp2_with fail
      refine ⟨⟨k + 1, l ++ r.data.toList, by go_num, by omega, ?_, ?_, ?_⟩, by simp [intOf]; omega⟩
      · have : r.data.toList.length = r.size := rfl
        rw [List.length_append, this]; omega
      · rw [← strCells_byteCells]; exact hb2
      · exact (hgo.trans hg1.of_alloc (Nat.le_refl _)).belowAt (Nat.le_refl _) hlt hbe
    · go_wp2_with fail
      refine (Tryd.Builder_String_any w.heap.size w.heap.size l _ hbd hgo.gb.size).mono ?_
      rintro e w2 ⟨rfl, hbe⟩
      go_wp2_with fail
      go_ret
      refine ⟨⟨l.toArray⟩, ?_, rfl, (hgo.more (by omega)).belowAt (Nat.le_refl _) hlt hbe⟩
      show ((l.toArray.size : Nat) : Int) ≤ _
      simp; omega
end Go.Proofs.YtegalkmfoffpfaaDoor
