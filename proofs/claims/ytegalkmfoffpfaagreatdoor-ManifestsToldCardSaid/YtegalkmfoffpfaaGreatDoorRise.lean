/- Strings in order, each once: kit.Rising, signref1.once. -/
import Derived.Test.YtegalkmfoffpfaaGreatDoorShelf
import Derived.Test.YtegalkmfoffpfaaGreatDoorKit
import Derived.Test.YtegalkmfoffpfaaGreatDoorGenMan2
import Derived.Lib.OwnBridge
namespace Go.Proofs.YtegalkmfoffpfaaGreatDoor
open Go.RowKit Go.Lib Go.Sort

def riseL (hv : List ByteArray) : List (List UInt8) := Lib.compact ((hv.map (·.data.toList)).mergeSort fun x y => decide (x ≤ y))
def riseS (hv : List ByteArray) : List ByteArray := (riseL hv).map fun l => ⟨l.toArray⟩
theorem riseS_cells (hv : List ByteArray) : (riseL hv).map encStr = (riseS hv).map Value.string := by
  rw [riseS, List.map_map]
  rfl
theorem below_grow (w : World) (os : Array Obj) : Below w.heap.size w (grow w os) :=
  ⟨rfl, rfl, rfl, by simp [grow], fun k hk => by show (w.heap ++ os)[k]? = _; rw [Array.getElem?_append_left hk]⟩
set_option maxRecDepth 100000 in
set_option maxHeartbeats 1000000 in
theorem insNil (w : World) : Calls Tryz.prog 229 #[.slice none 0 0, .int .i64 0, .int .i64 0] w fun e w' => e = .returned (.tuple #[]) ∧ w = w' := by
  go_enter Tryz.func229, Tryz.ntmps229
  go_wp2_with fail
  refine wp_loop_rounds 1 ?_
  rw [rounds_succ]
  go_wp2_with fail
  go_end0
  exact ⟨rfl, rfl⟩
set_option maxRecDepth 100000 in
set_option maxHeartbeats 1000000 in
theorem pdqNil (z : Int) (w : World) : Calls Tryz.prog 190 #[.slice none 0 0, .int .i64 0, .int .i64 0, .int .i64 z] w fun e w' => e = .returned (.tuple #[]) ∧ w = w' := by
  go_enter Tryz.func190, Tryz.ntmps190
  go_wp2_with fail
  refine wp_loop_rounds 1 ?_
  rw [rounds_succ]
  go_wp2_with fail
  refine (insNil _).mono ?_
  rintro e w' ⟨rfl, rfl⟩
  go_wp2_with fail
  exact bodyPost_ret (v := .tuple #[]) (by simp [results, Tryz.results190, go_sem]) rfl ⟨rfl, rfl⟩
set_option maxRecDepth 100000 in
set_option maxHeartbeats 1000000 in
theorem sortNil (w : World) : Calls Tryz.prog 148 #[.slice none 0 0] w fun e w' => e = .returned (.tuple #[]) ∧ w = w' := by
  go_enter Tryz.func148, Tryz.ntmps148
  go_wp2_with fail
  refine (Tryz.bits_Len 0 _ (by omega) (by omega)).mono ?_
  rintro e w' ⟨rfl, rfl⟩
  go_wp2_with fail
  refine (pdqNil _ _).mono ?_
  rintro e w' ⟨rfl, rfl⟩
  go_wp2_with fail
  go_end0
  exact ⟨rfl, rfl⟩
set_option maxRecDepth 100000 in
set_option maxHeartbeats 2000000 in
theorem rising_any (v : Value) (lo : Nat) (hv : List ByteArray) (w : World) (hown : w.ownsRow lo 9 1 v hv.length (hv.map Value.string)) (hl : hv.length ≤ 1000) :
    Calls Tryz.prog 121 #[v] w fun e w' => ∃ v', e = .returned v' ∧ w'.ownsRow w.heap.size 9 1 v' (riseS hv).length ((riseS hv).map Value.string) ∧ Below w.heap.size w w' := by
  rcases own_nil_or hown with ⟨rfl, hn0, hxs⟩ | ⟨g, c, rfl⟩
  · have h0 : hv = [] := List.eq_nil_of_length_eq_zero hn0
    have HE := Lib.hid (show riseS hv = [] by rw [h0]; simp [riseS, riseL, Lib.compact]; rfl)
    clear hown hn0 hxs
    go_enter Tryz.func121, Tryz.ntmps121
    go_wp2_with fail
    refine (Tryz.slices_Clone_string_nil 0 0 _).mono ?_
    rintro e w' ⟨rfl, rfl⟩
    go_wp2_with fail
    refine (sortNil _).mono ?_
    rintro e w' ⟨rfl, rfl⟩
    go_wp2_with fail
    refine (Tryz.slices_Compact_string_empty none 0 _).mono ?_
    rintro e w' ⟨rfl, rfl⟩
    go_wp2_with fail
    go_ret
    exact ⟨_, rfl, by rw [HE.out]; exact World.ownsRow_nil _ _ _ _, Below.refl _ _⟩
  · have hc : ∀ j, j < hv.length → w.cell? ⟨g, 0 + j, none⟩ = some (.string (hv.getD j ByteArray.empty)) := fun j hj => by
      have e : (⟨g, 0, none⟩ : Addr).add j = ⟨g, 0 + j, none⟩ := by unfold Addr.add; split <;> simp_all
      rw [← e]
      exact own_cells hown j _ (by rw [List.getElem?_map, List.getElem?_eq_getElem hj]; simp [List.getD, List.getElem?_eq_getElem hj])
    have HCL : Hid (Calls Tryz.prog 145 #[.slice (some ⟨g, 0, none⟩) hv.length c] w fun e w' => ∃ v', e = .returned v' ∧ w'.ownsRow w.heap.size 9 1 v' hv.length (hv.map Value.string) ∧ v' ≠ .slice none 0 0 ∧ Below w.heap.size w w') := by
      have := Tryz.slices_Clone_string g 0 hv.length c hv w (Nat.le_refl _) (by omega) hc
      rw [List.take_length] at this
      exact this
    clear hown hc
    go_enter Tryz.func121, Tryz.ntmps121
    go_wp2_with fail
    refine HCL.out.mono ?_
    rintro e w1 ⟨v1, rfl, own1, hne, hb1⟩
    have own1' : w1.ownsRow w.heap.size 9 1 v1 hv.length ((hv.map (·.data.toList)).map encStr) := by rw [map_encStr]; exact own1
    obtain ⟨g1, c1, rfl, hg1, hg1l, hnc, hcm, _, hH⟩ := holds_of_ownsRow own1' hne
    have HH := Lib.hid hH
    have HO := Lib.hid own1'
    clear own1 own1' hne HCL hH
    obtain ⟨ss, hss⟩ : ∃ ss : List (List UInt8), ss = hv.map (·.data.toList) := ⟨_, rfl⟩
    rw [← hss] at HH HO
    have hsl : ss.length = hv.length := by rw [hss]; simp
    have HSS := Lib.hid hss
    have HSL := Lib.hid hsl
    have HSC : Hid (Calls Tryz.prog 148 #[.slice (some ⟨g1, 0, none⟩) hv.length c1] w1 fun e w' => e = .returned (.tuple #[]) ∧ ∃ n os, w' = grow (putRow encStr (Sort.ahead w1 n) g1 0 (ss.mergeSort fun x y => decide (x ≤ y)).toArray) os) := by
      have := Tryz.slices_Sort_string g1 0 c1 ss w1 HH.out hg1l (by omega)
      rw [hsl] at this
      exact this
    clear hss hsl HH
    go_wp2_with fail
    refine HSC.out.mono ?_
    rintro e w2 ⟨rfl, n2, os2, hw2⟩
    obtain ⟨ts, hts⟩ : ∃ ts, ts = ss.mergeSort fun x y => decide (x ≤ y) := ⟨_, rfl⟩
    rw [← hts] at hw2
    have htl : ts.length = hv.length := by rw [hts, List.length_mergeSort]; exact HSL.out
    have own2 := ownsRow_below (ownsRow_putRow (q := n2) (k := hv.length) HO.out htl (Nat.le_refl _)) (below_grow (putRow encStr (Sort.ahead w1 n2) g1 0 ts.toArray) os2)
    rw [← hw2, List.take_of_length_le (by omega)] at own2
    have hb2 : Below w.heap.size w w2 := by rw [hw2]; exact (below_putRow hb1 hg1).trans ((below_grow _ _).mono (by have := hb1.size; simpa [putRow, mapBlock, Sort.ahead] using this))
    obtain ⟨g3, c3, hv3, _, _, hnc3, _, _, hH2⟩ := holds_of_ownsRow own2 (by simp)
    simp only [Value.slice.injEq, Option.some.injEq, Addr.mk.injEq, and_true, true_and] at hv3
    obtain ⟨rfl, rfl⟩ := hv3
    have HO2 := Lib.hid own2
    have HTS := Lib.hid (show riseL hv = Lib.compact ts by rw [riseL, hts, HSS.out])
    have HCC : Hid (Calls Tryz.prog 182 #[.slice (some ⟨g1, 0, none⟩) hv.length c1] w2 fun e w' => e = .returned (.slice (some ⟨g1, 0, none⟩) (Lib.compact ts).length c1) ∧ ∃ q, w' = putRow encStr (Sort.ahead w2 q) g1 0 (Lib.compact ts ++ List.replicate (hv.length - (Lib.compact ts).length) []).toArray) := by
      have := Tryz.slices_Compact_string g1 0 c1 ts w2 hH2 (by omega) (by omega)
      rw [htl] at this
      exact this
    have HTL := Lib.hid htl
    clear hw2 own2 hts htl hH2 HSC
    go_wp2_with fail
    refine HCC.out.mono ?_
    rintro e w3 ⟨rfl, q3, hw3⟩
    have hcl : (Lib.compact ts).length ≤ hv.length := by have := Lib.compact_length_le ts; have := HTL.out; omega
    have own3 := ownsRow_putRow (q := q3) (k := (Lib.compact ts).length) (ys := Lib.compact ts ++ List.replicate (hv.length - (Lib.compact ts).length) []) HO2.out (by simp; omega) hcl
    rw [← hw3, List.take_append_of_le_length (Nat.le_refl _), List.take_length, ← HTS.out, riseS_cells] at own3
    have hrl : (riseL hv).length = (riseS hv).length := by simp [riseS]
    rw [hrl] at own3
    have hb3 : Below w.heap.size w w3 := by rw [hw3]; exact below_putRow hb2 hg1
    have HO3 := Lib.hid own3
    have HRL := Lib.hid (show (Lib.compact ts).length = (riseS hv).length by rw [← HTS.out, hrl])
    clear own3 hw3 hrl HCC
    rw [HRL.out]
    go_wp2_with fail
    go_ret
    exact ⟨_, rfl, HO3.out, hb3⟩
set_option maxRecDepth 100000 in
set_option maxHeartbeats 2000000 in
theorem once_any (v : Value) (lo : Nat) (hv : List ByteArray) (w : World) (hown : w.ownsRow lo 9 1 v hv.length (hv.map Value.string)) (hl : hv.length ≤ 1000) :
    Calls Tryz.prog 128 #[v] w fun e w' => ∃ v', e = .returned v' ∧ w'.ownsRow w.heap.size 9 1 v' (riseS hv).length ((riseS hv).map Value.string) ∧ Below w.heap.size w w' := by
  rcases own_nil_or hown with ⟨rfl, hn0, hxs⟩ | ⟨g, c, rfl⟩
  · have h0 : hv = [] := List.eq_nil_of_length_eq_zero hn0
    have HE := Lib.hid (show riseS hv = [] by rw [h0]; simp [riseS, riseL, Lib.compact]; rfl)
    clear hown hn0 hxs
    go_enter Tryz.func128, Tryz.ntmps128
    go_wp2_with fail
    refine (Tryz.slices_Clone_string_nil 0 0 _).mono ?_
    rintro e w' ⟨rfl, rfl⟩
    go_wp2_with fail
    refine (sortNil _).mono ?_
    rintro e w' ⟨rfl, rfl⟩
    go_wp2_with fail
    refine (Tryz.slices_Compact_string_empty none 0 _).mono ?_
    rintro e w' ⟨rfl, rfl⟩
    go_wp2_with fail
    go_ret
    exact ⟨_, rfl, by rw [HE.out]; exact World.ownsRow_nil _ _ _ _, Below.refl _ _⟩
  · have hc : ∀ j, j < hv.length → w.cell? ⟨g, 0 + j, none⟩ = some (.string (hv.getD j ByteArray.empty)) := fun j hj => by
      have e : (⟨g, 0, none⟩ : Addr).add j = ⟨g, 0 + j, none⟩ := by unfold Addr.add; split <;> simp_all
      rw [← e]
      exact own_cells hown j _ (by rw [List.getElem?_map, List.getElem?_eq_getElem hj]; simp [List.getD, List.getElem?_eq_getElem hj])
    have HCL : Hid (Calls Tryz.prog 145 #[.slice (some ⟨g, 0, none⟩) hv.length c] w fun e w' => ∃ v', e = .returned v' ∧ w'.ownsRow w.heap.size 9 1 v' hv.length (hv.map Value.string) ∧ v' ≠ .slice none 0 0 ∧ Below w.heap.size w w') := by
      have := Tryz.slices_Clone_string g 0 hv.length c hv w (Nat.le_refl _) (by omega) hc
      rw [List.take_length] at this
      exact this
    clear hown hc
    go_enter Tryz.func128, Tryz.ntmps128
    go_wp2_with fail
    refine HCL.out.mono ?_
    rintro e w1 ⟨v1, rfl, own1, hne, hb1⟩
    have own1' : w1.ownsRow w.heap.size 9 1 v1 hv.length ((hv.map (·.data.toList)).map encStr) := by rw [map_encStr]; exact own1
    obtain ⟨g1, c1, rfl, hg1, hg1l, hnc, hcm, _, hH⟩ := holds_of_ownsRow own1' hne
    have HH := Lib.hid hH
    have HO := Lib.hid own1'
    clear own1 own1' hne HCL hH
    obtain ⟨ss, hss⟩ : ∃ ss : List (List UInt8), ss = hv.map (·.data.toList) := ⟨_, rfl⟩
    rw [← hss] at HH HO
    have hsl : ss.length = hv.length := by rw [hss]; simp
    have HSS := Lib.hid hss
    have HSL := Lib.hid hsl
    have HSC : Hid (Calls Tryz.prog 148 #[.slice (some ⟨g1, 0, none⟩) hv.length c1] w1 fun e w' => e = .returned (.tuple #[]) ∧ ∃ n os, w' = grow (putRow encStr (Sort.ahead w1 n) g1 0 (ss.mergeSort fun x y => decide (x ≤ y)).toArray) os) := by
      have := Tryz.slices_Sort_string g1 0 c1 ss w1 HH.out hg1l (by omega)
      rw [hsl] at this
      exact this
    clear hss hsl HH
    go_wp2_with fail
    refine HSC.out.mono ?_
    rintro e w2 ⟨rfl, n2, os2, hw2⟩
    obtain ⟨ts, hts⟩ : ∃ ts, ts = ss.mergeSort fun x y => decide (x ≤ y) := ⟨_, rfl⟩
    rw [← hts] at hw2
    have htl : ts.length = hv.length := by rw [hts, List.length_mergeSort]; exact HSL.out
    have own2 := ownsRow_below (ownsRow_putRow (q := n2) (k := hv.length) HO.out htl (Nat.le_refl _)) (below_grow (putRow encStr (Sort.ahead w1 n2) g1 0 ts.toArray) os2)
    rw [← hw2, List.take_of_length_le (by omega)] at own2
    have hb2 : Below w.heap.size w w2 := by rw [hw2]; exact (below_putRow hb1 hg1).trans ((below_grow _ _).mono (by have := hb1.size; simpa [putRow, mapBlock, Sort.ahead] using this))
    obtain ⟨g3, c3, hv3, _, _, hnc3, _, _, hH2⟩ := holds_of_ownsRow own2 (by simp)
    simp only [Value.slice.injEq, Option.some.injEq, Addr.mk.injEq, and_true, true_and] at hv3
    obtain ⟨rfl, rfl⟩ := hv3
    have HO2 := Lib.hid own2
    have HTS := Lib.hid (show riseL hv = Lib.compact ts by rw [riseL, hts, HSS.out])
    have HCC : Hid (Calls Tryz.prog 182 #[.slice (some ⟨g1, 0, none⟩) hv.length c1] w2 fun e w' => e = .returned (.slice (some ⟨g1, 0, none⟩) (Lib.compact ts).length c1) ∧ ∃ q, w' = putRow encStr (Sort.ahead w2 q) g1 0 (Lib.compact ts ++ List.replicate (hv.length - (Lib.compact ts).length) []).toArray) := by
      have := Tryz.slices_Compact_string g1 0 c1 ts w2 hH2 (by omega) (by omega)
      rw [htl] at this
      exact this
    have HTL := Lib.hid htl
    clear hw2 own2 hts htl hH2 HSC
    go_wp2_with fail
    refine HCC.out.mono ?_
    rintro e w3 ⟨rfl, q3, hw3⟩
    have hcl : (Lib.compact ts).length ≤ hv.length := by have := Lib.compact_length_le ts; have := HTL.out; omega
    have own3 := ownsRow_putRow (q := q3) (k := (Lib.compact ts).length) (ys := Lib.compact ts ++ List.replicate (hv.length - (Lib.compact ts).length) []) HO2.out (by simp; omega) hcl
    rw [← hw3, List.take_append_of_le_length (Nat.le_refl _), List.take_length, ← HTS.out, riseS_cells] at own3
    have hrl : (riseL hv).length = (riseS hv).length := by simp [riseS]
    rw [hrl] at own3
    have hb3 : Below w.heap.size w w3 := by rw [hw3]; exact below_putRow hb2 hg1
    have HO3 := Lib.hid own3
    have HRL := Lib.hid (show (Lib.compact ts).length = (riseS hv).length by rw [← HTS.out, hrl])
    clear own3 hw3 hrl HCC
    rw [HRL.out]
    go_wp2_with fail
    go_ret
    exact ⟨_, rfl, HO3.out, hb3⟩
end Go.Proofs.YtegalkmfoffpfaaGreatDoor
