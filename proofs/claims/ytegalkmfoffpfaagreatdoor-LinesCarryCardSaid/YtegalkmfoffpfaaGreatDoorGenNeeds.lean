/- Stream.Needs: some needs, nearly always right ones. -/
import Derived.Test.YtegalkmfoffpfaaGreatDoorFastWalk
import Derived.Test.YtegalkmfoffpfaaGreatDoorGenMan2
namespace Go.Proofs.YtegalkmfoffpfaaGreatDoor
open Go.RowKit
theorem heap_new2 (w : World) (o : Obj) (n : Nat) (hn : n = w.heap.size) : (w.alloc o).heap[n]? = some o := by subst hn; exact heap_alloc_new w o
def GoesNeeds (b M : Nat) (w : World) (e : Ending) (w' : World) : Prop :=
  ∃ (v : Value) (ns : List NeedD), ns.length ≤ 4 ∧ NdOk ns ∧ e = .returned v ∧ w'.ownsRow w.heap.size 155 3 v ns.length (ns.flatMap ndC) ∧ Goes 25 b M 30 w w'
def keysN : List ByteArray := [⟨#[100, 97]⟩, ⟨#[100, 98]⟩, ⟨#[100, 99]⟩, ⟨#[100, 100]⟩]
def GnRel (b M : Nat) (w : World) (n : Nat) (g : Nat) (out i : Value) (wr : World) : Prop :=
  ∃ (k : Nat) (ns : List NeedD), k + g = n ∧ i = .int .i64 k ∧ ns.length = k ∧ NdOk ns ∧ wr.heap[w.heap.size]? = some (.cells (keysN.map Value.string).toArray 9 (0, 0)) ∧ wr.ownsRow (w.heap.size + 1) 155 3 out k (ns.flatMap ndC) ∧ Goes 25 b M (1 + 2 * k) w wr
theorem ndOk_snoc {ns : List NeedD} (h : NdOk ns) {x : NeedD} (hx : x.1.size ≤ 1000000000000 ∧ (-1000000000000000 ≤ x.2.1 ∧ x.2.1 ≤ 1000000000000000) ∧ -1000000000000000 ≤ x.2.2 ∧ x.2.2 ≤ 1000000000000000) : NdOk (ns ++ [x]) := by
  intro y hy
  rcases List.mem_append.1 hy with hy | hy
  · exact h y hy
  · simp at hy; subst hy; exact hx
theorem ndOk_set {ns : List NeedD} (h : NdOk ns) {x : NeedD} (hx : x.1.size ≤ 1000000000000 ∧ (-1000000000000000 ≤ x.2.1 ∧ x.2.1 ≤ 1000000000000000) ∧ -1000000000000000 ≤ x.2.2 ∧ x.2.2 ≤ 1000000000000000) (i : Nat) : NdOk (ns.set i x) := by
  intro y hy
  rcases List.mem_or_eq_of_mem_set hy with h1 | rfl
  · exact h y h1
  · exact hx
theorem keysN_at {w : World} {p : Nat} (h : w.heap[p]? = some (.cells (keysN.map Value.string).toArray 9 (0, 0))) {k : Nat} (hk : k < 4) : ∃ s : ByteArray, s.size ≤ 2 ∧ w.cell? ⟨p, k, none⟩ = some (.string s) := by
  have h4 : k < keysN.length := hk
  refine ⟨keysN[k], ?_, by simp [World.cell?, h, h4]⟩
  have := List.all_eq_true.1 (show keysN.all (fun r => decide (r.size ≤ 2)) = true by decide) _ (List.getElem_mem h4)
  simpa using this
theorem own_need {w : World} {base g n c i : Nat} {ns : List NeedD} (h : w.ownsRow base 155 3 (.slice (some ⟨g, 0, none⟩) n c) n (ns.flatMap ndC)) (hn : ns.length = n) {x0 : ByteArray} {x1 x2 : Int} (hx : ns[i]? = some (x0, x1, x2)) :
    w.cell? ⟨g, i * 3, none⟩ = some (.string x0) ∧ w.cell? ⟨g, i * 3 + 1, none⟩ = some (.int .i64 x1) ∧ w.cell? ⟨g, i * 3 + 2, none⟩ = some (.int .i64 x2) ∧ g < w.heap.size ∧ w.frozen? ⟨g, i * 3, none⟩ = false ∧ w.frozen? ⟨g, i * 3 + 1, none⟩ = false ∧ w.frozen? ⟨g, i * 3 + 2, none⟩ = false := by
  subst hn
  obtain ⟨hi, hx⟩ := List.getElem?_eq_some_iff.1 hx
  obtain ⟨g2, o2, e2, hl, c0, c1, c2⟩ := (Lst.of_own h).need hi rfl
  simp only [Option.some.injEq, Addr.mk.injEq] at e2
  obtain ⟨rfl, rfl, _⟩ := e2
  simp only [Nat.zero_add, hx] at c0 c1 c2
  exact ⟨c0, c1, c2, hl, own_frozen h _, own_frozen h _, own_frozen h _⟩
theorem own_need3 {w : World} {base g n c i : Nat} {ns : List NeedD} (h : w.ownsRow base 155 3 (.slice (some ⟨g, 0, none⟩) n c) n (ns.flatMap ndC)) (hi : i < ns.length) (p : ByteArray) (q s : Int) :
    (((w.setCell ⟨g, i * 3, none⟩ (.string p)).setCell ⟨g, i * 3 + 1, none⟩ (.int .i64 q)).setCell ⟨g, i * 3 + 2, none⟩ (.int .i64 s)).ownsRow base 155 3 (.slice (some ⟨g, 0, none⟩) n c) n ((ns.set i (p, q, s)).flatMap ndC) := by
  have o1 := (h.stored (i * 3) (.string p)).1
  have o2 := (o1.stored (i * 3 + 1) (.int .i64 q)).1
  have o3 := (o2.stored (i * 3 + 2) (.int .i64 s)).1
  have e1 := flatK_set (enc := ndC) (k := 3) (fun _ => rfl) ns i 0 (p, ns[i].2) (.string p) hi (by omega) rfl
  have e2 := flatK_set (enc := ndC) (k := 3) (fun _ => rfl) (ns.set i (p, ns[i].2)) i 1 (p, q, ns[i].2.2) (.int .i64 q) (by simpa using hi) (by omega) (by simp [ndC])
  have e3 := flatK_set (enc := ndC) (k := 3) (fun _ => rfl) ((ns.set i (p, ns[i].2)).set i (p, q, ns[i].2.2)) i 2 (p, q, s) (.int .i64 s) (by simpa using hi) (by omega) (by simp [ndC])
  rw [Nat.add_zero] at e1
  rw [e1, e2, e3, List.set_set, List.set_set] at o3
  exact o3
set_option maxRecDepth 100000 in
set_option maxHeartbeats 4000000 in
theorem gneeds_any (b M : Nat) (w : World) (hs : IsStream 25 w b M) (hM : M ≤ 100000000000000) :
    Calls Tryz.prog 27 #[.pointer (some ⟨b, 0, none⟩)] w (GoesNeeds b M w) := by
  have hlt := hs.lt
  obtain ⟨i0, hi, hz0, hz1, hz2⟩ := info_parts infoNeed
  go_enter Tryz.func27, Tryz.ntmps27
  go_wp2_with fail
  refine (range_any b M 0 4 _ (hs.alloc _) (by omega) (by omega) (by omega) (by omega)).mono ?_
  rintro e w1 ⟨r, ⟨hr0, hr1⟩, rfl, g1⟩
  obtain ⟨n, rfl⟩ := Int.eq_ofNat_of_zero_le hr0
  have hR : w1.heap[w.heap.size]? = some (.cells (keysN.map Value.string).toArray 9 (0, 0)) := (g1.gb.block w.heap.size (by simp) (fun e => by injection e with e; omega)).trans (heap_alloc_new w _)
  have HR := Lib.hid hR
  have G1 := g1.of_alloc
  have hn4 : n ≤ 4 := by omega
  have hn4' : (n : Int) ≤ 4 := by omega
  clear g1 hR
  go_wp2_with fail
  go_loopg [3, 5, 12] n (fun g out _ i wr => GnRel b M w n g out i wr)
  case atStart => exact ⟨0, [], by omega, rfl, rfl, (fun x hx => by cases hx), HR.out, World.ownsRow_nil _ _ _ _, G1⟩
  case round =>
    obtain ⟨k, ns, hk, rfl, hl, hok, hR, hown, hgo⟩ := hrel
    have HL := Lib.hid hl
    have HB := Lib.hid hok
    have HR := Lib.hid hR
    have hz := hgo.gb.size
    have hRl := block_lt hR
    clear hl hok hR
    by_cases hg : gk = 0
    rotate_left
    · have HK := Lib.hid hk
      have hkn : k < n := by omega
      obtain ⟨key, hks, ck⟩ := keysN_at HR.out (show k < 4 by omega)
      clear hk
      go_wp2_with fail
      refine (pick_any b (M + (1 + 2 * k)) wr.heap.size [1, 5, 20, 100] 4 4 _ 3 (hgo.is.alloc _) (by omega) rfl (by omega) (by omega) (heap_alloc_new _ _) (by omega)).mono ?_
      rintro e w3 ⟨d, hd, rfl, g3⟩
      have hd0 : 1 ≤ d ∧ d ≤ 100 := by simp at hd; omega
      have G3 := hgo.trans g3.of_alloc (Nat.le_refl _)
      have O3 := ownsRow_gb (hown.alloc (.cells (List.map (Value.int .i64) [1, 5, 20, 100]).toArray 3)) g3.gb (by omega)
      have R3 := Lib.hid ((g3.gb.block w.heap.size (by simp; omega) (fun e => by injection e with e; omega)).trans ((Below.heap_alloc wr _ w.heap.size hRl).trans HR.out))
      have z3 := G3.gb.size
      clear hd g3 hgo hown ck HR
      go_wp2_with fail
      refine (pick_any b (M + (1 + 2 * k + 1)) w3.heap.size [0, 3, 10, 10, 40, 100, 345686400000] 7 7 _ 3 (G3.is.alloc _) (by omega) rfl (by omega) (by omega) (heap_alloc_new _ _) (by omega)).mono ?_
      rintro e w4 ⟨s, hd, rfl, g4⟩
      have hs0 : 0 ≤ s ∧ s ≤ 345686400000 := by simp at hd; omega
      have G4 := G3.trans g4.of_alloc (Nat.le_refl _)
      have O4 := ownsRow_gb (O3.alloc (.cells (List.map (Value.int .i64) [0, 3, 10, 10, 40, 100, 345686400000]).toArray 3)) g4.gb (by omega)
      have rl3 := block_lt R3.out
      have R4 := Lib.hid ((g4.gb.block w.heap.size (by simp; omega) (fun e => by injection e with e; omega)).trans ((Below.heap_alloc w3 _ w.heap.size rl3).trans R3.out))
      have z4 := G4.gb.size
      have rl4 := block_lt R4.out
      clear hd g4 G3 O3 z3 R3
      go_wp2_with (at_builtin; refine wpList_push (W := w4) (lo := w.heap.size + 1) rfl _ _ 64 rfl 155 i0 _ 3 32 Tryz.underlying64 hi hz0 hz1 hz2 rfl (by decide) (by decide) _ _ _ rfl (Below.refl _ _) (by omega) O4 [.string key, .int .i64 d, .int .i64 s] rfl rfl rfl rfl (by omega) ?_)
      intro v5 w5 O5 b5 _ _
      have G5 := G4.belowAt (Nat.le_succ _) (by omega) b5
      have R5 := Lib.hid ((b5.block w.heap.size (by omega)).trans R4.out)
      have HO5 := Lib.hid O5
      clear O4 O5 b5 G4 R4
      go_wp2_with fail
      go_roundg (gk - 1)
      case measure => omega
      case rel => exact ⟨k + 1, ns ++ [(key, d, s)], by have := HK.out; omega, by go_num, by have := HL.out; simp [this], ndOk_snoc HB.out ⟨by show key.size ≤ _; omega, ⟨by show _ ≤ d; omega, by show d ≤ _; omega⟩, by show _ ≤ s; omega, by show s ≤ _; omega⟩, R5.out, by rw [List.flatMap_append]; exact HO5.out, G5.more (by omega)⟩
    · obtain rfl : k = n := by omega
      have hown := ownsRow_base hown (Nat.le_succ w.heap.size)
      have HEND : Hid (∀ (v : Value) (ns' : List NeedD) (w' : World), ns'.length = k → NdOk ns' → w'.ownsRow w.heap.size 155 3 v k (ns'.flatMap ndC) → Goes 25 b M 30 w w' → GoesNeeds b M w (.returned v) w') := fun v ns' w' h1 h2 h3 h4 => ⟨v, ns', by omega, h2, rfl, by rw [h1]; exact h3, h4⟩
      clear hk HR
      by_cases hk0 : k = 0
      · subst hk0
        obtain ⟨A, m, c, rfl⟩ := own_form hown
        obtain rfl := own_len hown
        have HO := Lib.hid hown
        clear hown
        go_wp2_with fail
        go_ret
        exact HEND.out _ ns _ HL.out HB.out HO.out (hgo.more (by omega))
      · obtain ⟨A, m, c, rfl⟩ := own_form hown
        obtain rfl := (own_len hown).symm
        have hkp : 0 < k := by omega
        obtain ⟨g, rfl, hgb, hgl⟩ := own_at hown hkp
        clear hk0
        go_wp2_with fail
        refine (flip_any b (M + (1 + 2 * k)) 15 _ hgo.is (by omega) (by omega) (by omega)).mono ?_
        rintro e w3 ⟨fl, rfl, g3⟩
        have o3 := ownsRow_gb hown g3.gb hlt
        have G3 := hgo.trans g3 (Nat.le_refl _)
        clear g3 hown hgo hgl
        cases fl
        · go_wp2_with fail
          go_ret
          exact HEND.out _ ns _ HL.out HB.out o3 (G3.more (by omega))
        · go_wp2_with fail
          refine (next_any b (M + (1 + 2 * k + 1)) k _ G3.is (by omega) (by omega) (by omega)).mono ?_
          rintro e w4 ⟨r, ⟨hi0, hi1⟩, rfl, g4⟩
          obtain ⟨i, rfl⟩ := Int.eq_ofNat_of_zero_le hi0
          have o4 := ownsRow_gb o3 g4.gb hlt
          have G4 := G3.trans g4 (Nat.le_refl _)
          have hik : i < k := by omega
          have hiL : i < ns.length := by have := HL.out; omega
          have z4 := G4.gb.size
          clear g4 o3 G3
          obtain ⟨⟨x0, x1, x2⟩, hx⟩ : ∃ x, ns[i]? = some x := ⟨_, List.getElem?_eq_getElem hiL⟩
          obtain ⟨c0, c1, c2, hl4, _, _, _⟩ := own_need o4 HL.out hx
          have hbx : x0.size ≤ 1000000000000 := (HB.out _ (List.mem_of_getElem? hx)).1
          have HX := Lib.hid hx
          have HI := Lib.hid hiL
          clear hiL hx
          go_wp2_with fail
          refine (some_any b (M + (1 + 2 * k + 1 + 1)) w4.heap.size [x0, ⟨#[]⟩, ⟨#[100, 97]⟩] 3 3 _ 9 (G4.is.alloc _) (by omega) rfl (by omega) (by omega) (heap_alloc_new _ _) (by omega)).mono ?_
          rintro e w5 ⟨p0, hp0, rfl, g5⟩
          have o5 := ownsRow_gb (o4.alloc (.cells (List.map Value.string [x0, ⟨#[]⟩, ⟨#[100, 97]⟩]).toArray 9)) g5.gb hlt
          have G5 := G4.trans g5.of_alloc (Nat.le_refl _)
          have hp0' : p0.size ≤ 1000000000000 := by
            simp at hp0
            rcases hp0 with rfl | rfl | rfl
            · exact hbx
            · decide
            · decide
          clear g5 o4 G4 hp0 c0 c1 c2 hl4
          go_wp2_with fail
          refine (odd_any b (M + (1 + 2 * k + 1 + 1 + 1)) _ _ _ G5.is (by omega) (by omega) (by omega) (by omega)).mono ?_
          rintro e w6 ⟨p1, ⟨q0, q1⟩, rfl, g6⟩
          have o6 := ownsRow_gb o5 g6.gb hlt
          have G6 := G5.trans g6 (Nat.le_refl _)
          clear g6 o5 G5
          go_wp2_with fail
          refine (odd_any b (M + (1 + 2 * k + 1 + 1 + 1 + 2)) _ _ _ G6.is (by omega) (by omega) (by omega) (by omega)).mono ?_
          rintro e w7 ⟨p2, ⟨q2, q3⟩, rfl, g7⟩
          have o7 := ownsRow_gb o6 g7.gb hlt
          have G7 := G6.trans g7 (Nat.le_refl _)
          clear g7 o6 G6
          obtain ⟨c0, c1, c2, hl7, f0, f1, f2⟩ := own_need o7 HL.out HX.out
          have HO := Lib.hid (own_need3 o7 HI.out p0 p1 p2)
          have HG := Lib.hid (((G7.setCell hlt (p := ⟨g, i * 3, none⟩) hgb (.string p0)).setCell hlt (p := ⟨g, i * 3 + 1, none⟩) hgb (.int .i64 p1)).setCell hlt (p := ⟨g, i * 3 + 2, none⟩) hgb (.int .i64 p2))
          clear o7 G7
          go_wp2_with fail
          go_ret
          exact HEND.out _ (ns.set i (p0, p1, p2)) _ (by have := HL.out; simpa using this) (ndOk_set HB.out ⟨hp0', ⟨by show _ ≤ p1; omega, by show p1 ≤ _; omega⟩, by show _ ≤ p2; omega, by show p2 ≤ _; omega⟩ i) HO.out (HG.out.more (by omega))
end Go.Proofs.YtegalkmfoffpfaaGreatDoor
