/- The sums of all files; sums put together two by two. -/
import Derived.Test.YtegalkmfoffpfaaGreatDoorTree
import Derived.Deep.DrawnRows
import Derived.Deep.AppendLies
namespace Go.Proofs.YtegalkmfoffpfaaGreatDoor
open Go.RowKit
attribute [local go_sem ↓] Go.wp_at_zero Go.wp_at_succ

theorem infoStr : (Tryz.prog.info? 9).map (fun i => (i.zero, i.size, i.bytes)) = some (some (.string ⟨#[]⟩), 1, 16) := by kernel_rfl
def pairAt (l : List ByteArray) (j : Nat) : ByteArray := if 2 * j + 1 < l.length then sumS (l.getD (2 * j) ⟨#[]⟩ ++ l.getD (2 * j + 1) ⟨#[]⟩) else l.getD (2 * j) ⟨#[]⟩
def pairTo (l : List ByteArray) (k : Nat) : List ByteArray := (List.range k).map (pairAt l)
def pairS (l : List ByteArray) : List ByteArray := pairTo l ((l.length + 1) / 2)
theorem pairTo_succ (l : List ByteArray) (k : Nat) : pairTo l (k + 1) = pairTo l k ++ [pairAt l k] := by simp [pairTo, List.range_succ]
theorem pairTo_len (l : List ByteArray) (k : Nat) : (pairTo l k).length = k := by simp [pairTo]
theorem pairS_len (l : List ByteArray) : (pairS l).length = (l.length + 1) / 2 := pairTo_len l _
theorem getD_at {α : Type} (l : List α) (x : α) {k : Nat} (h : k < l.length) : l.getD k x = l[k] := by simp [List.getD, List.getElem?_eq_getElem h]
theorem pairAt_two (l : List ByteArray) {j : Nat} (h : 2 * j + 1 < l.length) : pairAt l j = sumS (l[2 * j] ++ l[2 * j + 1]) := by
  rw [pairAt, if_pos h, getD_at _ _ h, getD_at _ _ (by omega : 2 * j < l.length)]
theorem pairAt_one (l : List ByteArray) {j : Nat} (h : 2 * j < l.length) (h1 : ¬ 2 * j + 1 < l.length) : pairAt l j = l[2 * j] := by
  rw [pairAt, if_neg h1, getD_at _ _ h]
theorem pairS_16 (l : List ByteArray) (h : ∀ s ∈ l, s.size ≤ 16) : ∀ s ∈ pairS l, s.size ≤ 16 := by
  intro s hs
  simp only [pairS, pairTo, List.mem_map, List.mem_range] at hs
  obtain ⟨j, hj, rfl⟩ := hs
  by_cases h1 : 2 * j + 1 < l.length
  · rw [pairAt_two l h1, sumS_size]; omega
  · rw [pairAt_one l (by omega) h1]; exact h _ (List.getElem_mem _)

def PairRel (ss : List ByteArray) (w : World) (g : Nat) (out i : Value) (wr : World) : Prop :=
  ∃ k m : Nat, m = 2 * k ∧ k + g = (ss.length + 1) / 2 ∧ i = .int .i64 (m : Int) ∧ wr.ownsRow w.heap.size 9 1 out k ((pairTo ss k).map Value.string) ∧ Below w.heap.size w wr

set_option maxRecDepth 100000 in
set_option maxHeartbeats 2000000 in
theorem paired_any (A : Option Addr) (lo c : Nat) (ss : List ByteArray) (w : World) (ht : Tab w) (hl : Lst w lo 1 (.slice A ss.length c) (ss.map Value.string)) (h16 : ∀ s ∈ ss, s.size ≤ 16) (hn : ss.length ≤ 1000000) :
    Calls Tryz.prog 76 #[.slice A ss.length c] w fun e w' => ∃ v, e = .returned v ∧ w'.ownsRow w.heap.size 9 1 v (pairS ss).length ((pairS ss).map Value.string) ∧ Below w.heap.size w w' := by
  have HT := Lib.hid ht
  have HL := Lib.hid hl
  have H16 := Lib.hid h16
  clear ht hl h16
  obtain ⟨i0, hi, hz0, hz1, hz2⟩ := info_parts infoStr
  go_enter Tryz.func76, Tryz.ntmps76
  go_wp2_with fail
  go_loopg [3, 4] ((ss.length + 1) / 2) (fun g out i wr => PairRel ss w g out i wr)
  case atStart => exact ⟨0, 0, rfl, by omega, rfl, World.ownsRow_nil _ _ _ _, Below.refl _ _⟩
  case round =>
    obtain ⟨k, m, hm, hk, rfl, hown, hb⟩ := hrel
    have hbz := hb.size
    by_cases hg : gk = 0
    · have hge : ¬ ((m : Int) < (ss.length : Int)) := by omega
      have HK := Lib.hid (show k = (ss.length + 1) / 2 by omega)
      clear hk hm
      go_wp2_with fail
      go_ret
      refine ⟨_, rfl, ?_, hb⟩
      have : pairS ss = pairTo ss k := by rw [pairS, ← HK.out]
      rw [this, pairTo_len]
      exact hown
    · have hlt : m < ss.length := by omega
      have hlt' : (m : Int) < (ss.length : Int) := by omega
      obtain ⟨g, o, u, rfl, _, hgl, hu, hc0⟩ := HL.out.at_ hlt
      have hu' : u = .string ss[m] := by
        rw [List.getElem?_map, List.getElem?_eq_getElem hlt] at hu
        simpa using hu.symm
      subst hu'
      have d0 := (hb.cell (p := ⟨g, o + m, none⟩) hgl).trans hc0
      have s0 := H16.out _ (List.getElem_mem hlt)
      have HK := Lib.hid hk
      have hgk : gk ≠ 0 := hg
      have HM := Lib.hid hm
      have hkm : k ≤ m := by omega
      clear hk hg hu hc0 hm
      by_cases h1 : m + 1 < ss.length
      · have hm := HM.out
        have h1' : (m : Int) + 1 < (ss.length : Int) := by omega
        obtain ⟨g', o', u, e, _, _, hu, hc1⟩ := HL.out.at_ h1
        simp only [Option.some.injEq, Addr.mk.injEq] at e
        obtain ⟨rfl, rfl, _⟩ := e
        have hu' : u = .string ss[m + 1] := by
          rw [List.getElem?_map, List.getElem?_eq_getElem h1] at hu
          simpa using hu.symm
        subst hu'
        have d1 := (hb.cell (p := ⟨g, o + (m + 1), none⟩) hgl).trans hc1
        have s1 := H16.out _ (List.getElem_mem h1)
        have HP := Lib.hid (show pairTo ss (k + 1) = pairTo ss k ++ [sumS (ss[m] ++ ss[m + 1])] by rw [pairTo_succ, pairAt_two ss (j := k) (by omega)]; simp only [HM.out])
        have htr := HT.out.below hb
        clear hu hc1
        clear hm
        generalize ss[m] = t at *
        generalize ss[m + 1] = t2 at *
        have hs2 : (t ++ t2).size ≤ 32 := by rw [ByteArray.size_append]; omega
        have HTR := Lib.hid htr
        clear htr
        go_upto_region 6 with fail
        have hwr : IntKind.i64.wrap ((m : Int) + 1) = (m : Int) + 1 := by rw [IntKind.wrap_i64]; omega
        have hss : ¬ 9223372036854775807 < t.size + t2.size := by omega
        have hn0 : (0 : Int) ≤ (m : Int) + 1 := by omega
        have htn : ((m : Int) + 1).toNat = m + 1 := by omega
        go_region_law (first
            | ((refine step_append_lies _ (by rfl) _ _ _ (by rfl) w.heap.size 9 i0 _ 1 16 Tryz.underlying88 hi hz0 hz1 hz2 rfl (by omega) u3 k _ (by rfl) ((ownsRow_below (w := wr.drew) hown hb2).alloc _) ⟨w2.heap.size, 0, none⟩ 1 1 [.string (sumS (t ++ t2))] (by rfl) (by rfl) (cells_new w2 [.string (sumS (t ++ t2))] 9) (by intro u hu; simp at hu; subst hu; rfl) (by omega) (by unfold maxLen; omega) (by omega) (by simp; omega) (w2.heap.size + 1) (by simp) ?_; intro gg cap w3 hown3 hgrow hat hlt3))
            | ((go_simp; go_at_call 75; refine (sumOf_any (t ++ t2) ?_ _ ?_).mono ?_; (omega); (exact HTR.out); rintro e w2 ⟨rfl, hb2⟩; have hzz : wr.heap.size ≤ w2.heap.size := hb2.size)))
        all_goals
          have hb3 : Below w.heap.size w w3 := ((hb.drew.trans (hb2.mono hbz)).alloc (by omega) _).grown hgrow (by simp; omega) (fun x hx => (hown.lt x hx).1)
          have HO := Lib.hid hown3
          clear hown3 hown hgrow hat hb2
          go_wp2_with fail
          go_roundg (gk - 1)
          case measure => omega
          case rel => exact ⟨k + 1, m + 2, by have := HM.out; omega, by have := HK.out; omega, by go_num, by rw [HP.out, List.map_append]; exact HO.out, hb3⟩
      · have hm := HM.out
        have h1' : ¬ ((m : Int) + 1 < (ss.length : Int)) := by omega
        have HP := Lib.hid (show pairTo ss (k + 1) = pairTo ss k ++ [ss[m]] by rw [pairTo_succ, pairAt_one ss (j := k) (by omega) (by omega)]; simp only [HM.out])
        clear hm
        generalize ss[m] = t at *
        go_wp2_with (at_builtin; refine wpList_append_own _ rfl _ _ 88 rfl w.heap.size 9 i0 (.string ⟨#[]⟩) 1 16 Tryz.underlying88 hi hz0 hz1 hz2 rfl (by decide) _ _ _ rfl (hown.alloc _) ⟨wr.heap.size, 0, none⟩ 1 1 [.string t] rfl rfl ?c1 ?c2 ?c3 ?c4 ?c5 ?_)
        case c2 => rfl
        case c3 => unfold maxLen; omega
        case c4 => omega
        case c5 => omega
        intro v' w1 hown3 hgrow _
        have hb3 : Below w.heap.size w w1 := (hb.alloc hbz _).grown hgrow (by simp; omega) (fun x hx => (hown.lt x hx).1)
        have HO := Lib.hid hown3
        clear hown3 hown hgrow
        go_wp2_with fail
        go_roundg (gk - 1)
        case measure => omega
        case rel => exact ⟨k + 1, m + 2, by have := HM.out; omega, by have := HK.out; omega, by go_num, by rw [HP.out, List.map_append]; exact HO.out, hb3⟩
end Go.Proofs.YtegalkmfoffpfaaGreatDoor
