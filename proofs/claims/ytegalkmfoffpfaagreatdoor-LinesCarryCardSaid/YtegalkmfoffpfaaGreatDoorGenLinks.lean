/- Stream.Links, Stream.Needs: some lines and needs, nearly always right ones. -/
import Derived.Test.YtegalkmfoffpfaaGreatDoorFastWalk
import Derived.Test.YtegalkmfoffpfaaGreatDoorGenMan2
import Derived.Deep.RegionHeld3
import Derived.Deep.DrawnRows
namespace Go.Proofs.YtegalkmfoffpfaaGreatDoor
open Go.RowKit
attribute [local go_sem ↓] Go.wp_at_zero Go.wp_at_succ
def GoesLinks (b M : Nat) (w : World) (e : Ending) (w' : World) : Prop :=
  ∃ (v : Value) (ls : List LinkD), ls.length ≤ 4 ∧ LkBd ls ∧ e = .returned v ∧ w'.ownsRow w.heap.size 152 3 v ls.length (ls.flatMap lkC) ∧ Goes 25 b M 30 w w'
def GlRel (b M : Nat) (w : World) (n : Nat) (g : Nat) (out at_ i : Value) (wr : World) : Prop :=
  ∃ (k : Nat) (ls : List LinkD) (t : Int), k + g = n ∧ i = .int .i64 k ∧ at_ = .int .i64 t ∧ 0 ≤ t ∧ t ≤ 100 + 100 * k ∧ ls.length = k ∧ LkBd ls ∧ wr.ownsRow w.heap.size 152 3 out k (ls.flatMap lkC) ∧ Goes 25 b M (2 + 3 * k) w wr
theorem lkBd_snoc {ls : List LinkD} (h : LkBd ls) {a b s : Int} (ha : -1000000000000000 ≤ a ∧ a ≤ 1000000000000000) (hb : -1000000000000000 ≤ b ∧ b ≤ 1000000000000000) (hs : -1000000000000000 ≤ s ∧ s ≤ 1000000000000000) : LkBd (ls ++ [(a, b, s)]) := by
  intro x hx
  rcases List.mem_append.1 hx with hx | hx
  · exact h x hx
  · simp at hx; subst hx; exact ⟨ha, hb, hs⟩
theorem heap_new' (w : World) (o : Obj) (n : Nat) (hn : n = w.heap.size) : (w.alloc o).heap[n]? = some o := by subst hn; exact heap_alloc_new w o
/-- The row of lines and the stream, k numbers later. -/
structure LkSt (b M : Nat) (w : World) (g n c : Nat) (ls : List LinkD) (k : Nat) (wx : World) : Prop where
  own : wx.ownsRow w.heap.size 152 3 (.slice (some ⟨g, 0, none⟩) n c) n (ls.flatMap lkC)
  go : Goes 25 b M k w wx
section
variable {b M : Nat} {w : World} {g n c : Nat} {ls : List LinkD} {k j i : Nat} {wA wB : World}
theorem LkSt.goes (h : LkSt b M w g n c ls k wA) (hlt : b < w.heap.size) (hg : Goes 25 b (M + k) j wA wB) : LkSt b M w g n c ls (k + j) wB :=
  ⟨ownsRow_gb h.own hg.gb hlt, h.go.trans hg (Nat.le_refl _)⟩
theorem LkSt.alloc (h : LkSt b M w g n c ls k wA) (o : Obj) : LkSt b M w g n c ls k (wA.alloc o) := ⟨h.own.alloc o, h.go.alloc o⟩
theorem LkSt.drew (h : LkSt b M w g n c ls k wA) : LkSt b M w g n c ls k wA.drew := ⟨h.own, h.go.is, gb_drew h.go.gb⟩
theorem LkSt.cells (h : LkSt b M w g n c ls k wA) (hn : ls.length = n) {x0 x1 x2 : Int} (hx : ls[i]? = some (x0, x1, x2)) : wA.cell? ⟨g, i * 3, none⟩ = some (.int .i64 x0) ∧ wA.cell? ⟨g, i * 3 + 1, none⟩ = some (.int .i64 x1) ∧ wA.cell? ⟨g, i * 3 + 2, none⟩ = some (.int .i64 x2) ∧ g < wA.heap.size ∧ wA.frozen? ⟨g, i * 3, none⟩ = false ∧ wA.frozen? ⟨g, i * 3 + 1, none⟩ = false ∧ wA.frozen? ⟨g, i * 3 + 2, none⟩ = false := by
  subst hn
  obtain ⟨hi, hx⟩ := List.getElem?_eq_some_iff.1 hx
  obtain ⟨g2, o2, e2, hl, c0, c1, c2⟩ := (Lst.of_own h.own).link hi rfl
  simp only [Option.some.injEq, Addr.mk.injEq] at e2
  obtain ⟨rfl, rfl, _⟩ := e2
  simp only [Nat.zero_add, hx] at c0 c1 c2
  exact ⟨c0, c1, c2, hl, own_frozen h.own _, own_frozen h.own _, own_frozen h.own _⟩
theorem lkBd_set {ls : List LinkD} (h : LkBd ls) {x : LinkD} (hx : (-1000000000000000 ≤ x.1 ∧ x.1 ≤ 1000000000000000) ∧ (-1000000000000000 ≤ x.2.1 ∧ x.2.1 ≤ 1000000000000000) ∧ -1000000000000000 ≤ x.2.2 ∧ x.2.2 ≤ 1000000000000000) (i : Nat) : LkBd (ls.set i x) := by
  intro y hy
  rcases List.mem_or_eq_of_mem_set hy with h1 | rfl
  · exact h y h1
  · exact hx
/-- Three stores into the line i. -/
theorem LkSt.stores (h : LkSt b M w g n c ls k wA) (hn : n = ls.length) (hi : i < ls.length) (hlt : b < w.heap.size) (hg : w.heap.size ≤ g) (p q s : Int) :
    LkSt b M w g n c (ls.set i (p, q, s)) k (((wA.setCell ⟨g, i * 3, none⟩ (.int .i64 p)).setCell ⟨g, i * 3 + 1, none⟩ (.int .i64 q)).setCell ⟨g, i * 3 + 2, none⟩ (.int .i64 s)) := by
  subst hn
  have o1 := (h.own.stored (i * 3) (.int .i64 p)).1
  have o2 := (o1.stored (i * 3 + 1) (.int .i64 q)).1
  have o3 := (o2.stored (i * 3 + 2) (.int .i64 s)).1
  have e1 := flatK_set (enc := lkC) (k := 3) (fun _ => rfl) ls i 0 (p, ls[i].2) (.int .i64 p) hi (by omega) rfl
  have e2 := flatK_set (enc := lkC) (k := 3) (fun _ => rfl) (ls.set i (p, ls[i].2)) i 1 (p, q, ls[i].2.2) (.int .i64 q) (by simpa using hi) (by omega) (by simp [lkC])
  have e3 := flatK_set (enc := lkC) (k := 3) (fun _ => rfl) ((ls.set i (p, ls[i].2)).set i (p, q, ls[i].2.2)) i 2 (p, q, s) (.int .i64 s) (by simpa using hi) (by omega) (by simp [lkC])
  rw [Nat.add_zero] at e1
  rw [e1, e2, e3, List.set_set, List.set_set] at o3
  exact ⟨o3, ((h.go.setCell hlt (p := ⟨g, i * 3, none⟩) hg _).setCell hlt (p := ⟨g, i * 3 + 1, none⟩) hg _).setCell hlt (p := ⟨g, i * 3 + 2, none⟩) hg _⟩
end
set_option maxRecDepth 100000 in
set_option maxHeartbeats 8000000 in
theorem glinks_any (b M : Nat) (w : World) (hs : IsStream 25 w b M) (hM : M ≤ 100000000000000) :
    Calls Tryz.prog 26 #[.pointer (some ⟨b, 0, none⟩)] w (GoesLinks b M w) := by
  have hlt := hs.lt
  obtain ⟨i0, hi, hz0, hz1, hz2⟩ := info_parts infoLink
  go_enter Tryz.func26, Tryz.ntmps26
  go_wp2_with fail
  refine (pick_any b M w.heap.size [0, 0, 5, 20] 4 4 _ 3 (hs.alloc _) (by omega) rfl (by omega) (by omega) (heap_alloc_new _ _) (by omega)).mono ?_
  rintro e w1 ⟨t0, ht, rfl, g1⟩
  have ht0 : 0 ≤ t0 ∧ t0 ≤ 20 := by simp at ht; omega
  obtain ⟨ta, tb⟩ := ht0
  have G1 := g1.of_alloc
  clear ht g1
  go_wp2_with fail
  refine (range_any b (M + 1) 0 4 _ G1.is (by omega) (by omega) (by omega) (by omega)).mono ?_
  rintro e w2 ⟨r, ⟨hr0, hr1⟩, rfl, g2⟩
  obtain ⟨n, rfl⟩ := Int.eq_ofNat_of_zero_le hr0
  have G2 := G1.trans g2 (Nat.le_refl _)
  clear G1 g2
  go_wp2_with fail
  go_loopg [3, 4, 5, 12] n (fun g out at_ _ i wr => GlRel b M w n g out at_ i wr)
  case atStart => exact ⟨0, [], t0, by omega, rfl, rfl, by omega, by omega, rfl, (fun x hx => by cases hx), World.ownsRow_nil _ _ _ _, G2⟩
  case round =>
    obtain ⟨k, ls, t, hk, rfl, rfl, hta, htb, hl, hbd, hown, hgo⟩ := hrel
    have HL := Lib.hid hl
    have HB := Lib.hid hbd
    have hz := hgo.gb.size
    clear hl hbd
    by_cases hg : gk = 0
    rotate_left
    · have HK := Lib.hid hk
      have hkn : k < n := by omega
      clear hk
      go_wp2_with fail
      refine (pick_any b (M + (2 + 3 * k)) wr.heap.size [1, 3, 10, 50] 4 4 _ 3 (hgo.is.alloc _) (by omega) rfl (by omega) (by omega) (heap_alloc_new _ _) (by omega)).mono ?_
      rintro e w3 ⟨d, hd, rfl, g3⟩
      have hd0 : 1 ≤ d ∧ d ≤ 50 := by simp at hd; omega
      obtain ⟨da, db⟩ := hd0
      have G3 := hgo.trans g3.of_alloc (Nat.le_refl _)
      have O3 := ownsRow_gb (hown.alloc (.cells (List.map (Value.int .i64) [1, 3, 10, 50]).toArray 3)) g3.gb hlt
      have z3 := G3.gb.size
      clear hd g3 hgo hown
      go_wp2_with fail
      refine (pick_any b (M + (2 + 3 * k + 1)) w3.heap.size [1, 2, 5, 10, 300] 5 5 _ 3 (G3.is.alloc _) (by omega) rfl (by omega) (by omega) (heap_alloc_new _ _) (by omega)).mono ?_
      rintro e w4 ⟨s, hd, rfl, g4⟩
      have hs0 : 1 ≤ s ∧ s ≤ 300 := by simp at hd; omega
      obtain ⟨sa, sb⟩ := hs0
      have G4 := G3.trans g4.of_alloc (Nat.le_refl _)
      have O4 := ownsRow_gb (O3.alloc (.cells (List.map (Value.int .i64) [1, 2, 5, 10, 300]).toArray 3)) g4.gb hlt
      have z4 := G4.gb.size
      clear hd g4 G3 O3 z3
      go_wp2_with (at_builtin; refine wpList_push (W := w4) (lo := w.heap.size) rfl _ _ 62 rfl 152 i0 _ 3 24 Tryz.underlying62 hi hz0 hz1 hz2 rfl (by decide) (by decide) _ _ _ rfl (Below.refl _ _) z4 O4 [.int .i64 t, .int .i64 (t + d), .int .i64 s] rfl rfl rfl rfl (by omega) ?_)
      intro v5 w5 O5 b5 _ _
      have G5 := G4.belowAt (Nat.le_refl _) hlt b5
      have HO5 := Lib.hid O5
      have z5 := G5.gb.size
      clear O4 O5 b5 G4
      go_wp2_with fail
      refine (pick_any b (M + (2 + 3 * k + 1 + 1)) w5.heap.size [0, 1, 10] 3 3 _ 3 (G5.is.alloc _) (by omega) rfl (by omega) (by omega) (heap_alloc_new _ _) (by omega)).mono ?_
      rintro e w6 ⟨d2, hd, rfl, g6⟩
      have hd2 : 0 ≤ d2 ∧ d2 ≤ 10 := by simp at hd; omega
      obtain ⟨dc, dd⟩ := hd2
      have G6 := G5.trans g6.of_alloc (Nat.le_refl _)
      have HO6 := Lib.hid (ownsRow_gb (HO5.out.alloc (.cells (List.map (Value.int .i64) [0, 1, 10]).toArray 3)) g6.gb hlt)
      clear hd g6 HO5 G5
      go_wp2_with fail
      go_roundg (gk - 1)
      case measure => omega
      case rel => exact ⟨k + 1, ls ++ [(t, t + d, s)], t + d + d2, by have := HK.out; omega, by go_num, rfl, by omega, by omega, by have := HL.out; simp [this], lkBd_snoc HB.out ⟨by omega, by omega⟩ ⟨by omega, by omega⟩ ⟨by omega, by omega⟩, by rw [List.flatMap_append]; exact HO6.out, G6.more (by omega)⟩
    · obtain rfl : k = n := by omega
      have HEND : Hid (∀ (v : Value) (ls' : List LinkD) (w' : World), ls'.length = k → LkBd ls' → w'.ownsRow w.heap.size 152 3 v k (ls'.flatMap lkC) → Goes 25 b M 30 w w' → GoesLinks b M w (.returned v) w') := fun v ls' w' h1 h2 h3 h4 => ⟨v, ls', by omega, h2, rfl, by rw [h1]; exact h3, h4⟩
      clear hk
      by_cases hk0 : k = 0
      · subst hk0
        obtain ⟨A, m, c, rfl⟩ := own_form hown
        obtain rfl := own_len hown
        have HO := Lib.hid hown
        clear hown
        go_wp2_with fail
        go_ret
        exact HEND.out _ ls _ HL.out HB.out HO.out (hgo.more (by omega))
      · obtain ⟨A, m, c, rfl⟩ := own_form hown
        obtain rfl := (own_len hown).symm
        have hkp : 0 < k := by omega
        obtain ⟨g, rfl, hgb, hgl⟩ := own_at hown hkp
        clear hk0
        go_wp2_with fail
        refine (flip_any b (M + (2 + 3 * k)) 15 _ hgo.is (by omega) (by omega) (by omega)).mono ?_
        rintro e w3 ⟨fl, rfl, g3⟩
        have st : LkSt b M w g k c ls (2 + 3 * k + 1) w3 := (LkSt.mk hown hgo).goes hlt g3
        clear g3 hown hgo hgl
        cases fl
        · go_wp2_with fail
          go_ret
          exact HEND.out _ ls _ HL.out HB.out st.own (st.go.more (by omega))
        · go_wp2_with fail
          refine (next_any b (M + (2 + 3 * k + 1)) k _ st.go.is (by omega) (by omega) (by omega)).mono ?_
          rintro e w4 ⟨r, ⟨hi0, hi1⟩, rfl, g4⟩
          obtain ⟨i, rfl⟩ := Int.eq_ofNat_of_zero_le hi0
          have st4 := st.goes hlt g4
          have hik : i < k := by omega
          clear g4 st
          obtain ⟨⟨x0, x1, x2⟩, hx⟩ : ∃ x, ls[i]? = some x := ⟨_, List.getElem?_eq_getElem (by have := HL.out; omega)⟩
          have hbx := HB.out _ (List.mem_of_getElem? hx)
          obtain ⟨⟨e0, e1⟩, ⟨e2, e3⟩, e4, e5⟩ : (-1000000000000000 ≤ x0 ∧ x0 ≤ 1000000000000000) ∧ (-1000000000000000 ≤ x1 ∧ x1 ≤ 1000000000000000) ∧ -1000000000000000 ≤ x2 ∧ x2 ≤ 1000000000000000 := hbx
          have HX := Lib.hid hx
          clear hx
          obtain ⟨c0, c1, c2, hgl, f0, f1, f2⟩ := st4.cells HL.out HX.out
          have st := st4.drew
          clear st4
          have z4 : w.heap.size ≤ w4.heap.size := st.go.gb.size
          go_upto_region 11 with fail
          go_region_with (first
              | ((have hb5 := bk5; clear hb5; go_at_call 28; refine (pick_any b (M + (2 + 3 * k + 1 + 1 + 1)) _ [x1, 1, 345686400001, 345686400000] 4 4 _ 3 ?_ ?_ ?_ ?_ ?_ ?_ ?_).mono ?_; (first | exact st.go.is | exact st.go.is.alloc _); (omega); (rfl); (omega); (omega); (first | exact heap_new' _ _ _ (by simp) | exact (bk5.out _ (by simp <;> omega) (fun e => by injection e with e; omega)).trans (heap_new' _ _ _ (by simp)) | exact (bk5.out _ (by simp <;> omega) (fun e => by injection e with e; omega)).trans ((Below.heap_alloc _ _ _ (by simp)).trans (heap_new' _ _ _ (by simp)))); (omega); rintro e w6 ⟨p1, hp1, rfl, g6⟩; have st : LkSt b M w g k c ls (2 + 3 * k + 1 + 1 + 1 + 1) w6 := (by first | exact st.goes hlt g6 | exact (st.alloc _).goes hlt g6); have cc := st.cells HL.out HX.out; obtain ⟨c0, c1, c2, hgl, f0, f1, f2⟩ := cc))
              | ((go_at_call 28; refine (pick_any b (M + (2 + 3 * k + 1 + 1)) _ [x0, -1, 0] 3 3 _ 3 ?_ ?_ ?_ ?_ ?_ ?_ ?_).mono ?_; (first | exact st.go.is.alloc _ | exact (st.go.is.alloc _).alloc _); (omega); (rfl); (omega); (omega); (first | exact heap_new' _ _ _ (by simp) | exact (Below.heap_alloc _ _ _ (by simp)).trans (heap_new' _ _ _ (by simp))); (omega); rintro e w5 ⟨p0, hp0, rfl, g5⟩; have st : LkSt b M w g k c ls (2 + 3 * k + 1 + 1 + 1) w5 := (by first | exact (st.alloc _).goes hlt g5 | exact ((st.alloc _).alloc _).goes hlt g5); have cc := st.cells HL.out HX.out; obtain ⟨c0, c1, c2, hgl, f0, f1, f2⟩ := cc; have z5 : w4.heap.size ≤ w5.heap.size := (by have := g5.gb.size; simp at this; omega); have bk5 := Lib.hid g5.gb.block))
              | ((go_at_call 73; refine (odd_any b (M + (2 + 3 * k + 1 + 1 + 1 + 1)) _ _ _ st.go.is (by omega) (by omega) (by omega) (by omega)).mono ?_; rintro e w7 ⟨p2, ⟨hq0, hq1⟩, rfl, g7⟩; have st : LkSt b M w g k c ls (2 + 3 * k + 1 + 1 + 1 + 1 + 2) w7 := st.goes hlt g7; have cc := st.cells HL.out HX.out; obtain ⟨c0, c1, c2, hgl, f0, f1, f2⟩ := cc)))
          all_goals
            have hp0' : -1000000000000000 ≤ p0 ∧ p0 ≤ 1000000000000000 := by simp at hp0; omega
            have hp1' : -1000000000000000 ≤ p1 ∧ p1 ≤ 1000000000000000 := by simp at hp1; omega
            have hp2' : -1000000000000000 ≤ p2 ∧ p2 ≤ 1000000000000000 := by omega
            have HS := Lib.hid (st.stores HL.out.symm (i := i) (by have := HL.out; omega) hlt hgb p0 p1 p2)
            clear st hp0 hp1
            go_wp2_with fail
            go_ret
            exact HEND.out _ (ls.set i (p0, p1, p2)) _ (by have := HL.out; simpa using this) (lkBd_set HB.out ⟨hp0', hp1', hp2'⟩ i) HS.out.own (HS.out.go.more (by omega))
end Go.Proofs.YtegalkmfoffpfaaGreatDoor
