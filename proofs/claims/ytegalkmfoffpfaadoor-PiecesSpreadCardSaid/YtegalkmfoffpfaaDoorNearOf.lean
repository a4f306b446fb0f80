/- sync.nearOf. -/
import Derived.Test.YtegalkmfoffpfaaDoorNearMath
import Derived.Deep.OwnRows
import Derived.Deep.RegionHeld3
import Derived.Deep.DrawnRows
namespace Go.Proofs.YtegalkmfoffpfaaDoor
open Go.RowKit
attribute [local go_sem ↓] Go.wp_at_zero Go.wp_at_succ
theorem infoSl : (Tryd.prog.info? 97).map (fun i => (i.zero, i.size, i.bytes)) = some (some (.slice none 0 0), 1, 24) := by kernel_rfl
theorem infoB : (Tryd.prog.info? 4).map (fun i => (i.zero, i.size, i.bytes)) = some (some (.bool false), 1, 1) := by kernel_rfl
/-- An outer row with no inner row made yet. -/
theorem pmat_new (w : World) (n m : Nat) (hn : n ≤ 1000000) : PMat (w.alloc (.cells (madeCells #[.slice none 0 0] n) 97)) w.heap.size (.slice (some ⟨w.heap.size, 0, none⟩) n n) n 0 m (fun _ _ => false) (fun _ => 0) := by
  refine ⟨⟨by simp [slcs_len], .inr ⟨w.heap.size, n, _, rfl, Nat.le_refl _, heap_alloc_new w _, Nat.le_refl _, by unfold maxLen; omega, by simp [size_madeCells], ?_⟩⟩, fun i h => absurd h (Nat.not_lt_zero _), fun i h => absurd h (Nat.not_lt_zero _), fun i j h => absurd h (Nat.not_lt_zero _)⟩
  rw [madeCells_one, Nat.mul_one]
  apply List.ext_getElem?
  intro t
  by_cases ht : t < n
  · rw [List.getElem?_take_of_lt ht]; simp [slcs, ht]
  · rw [List.getElem?_eq_none (by simp; omega), List.getElem?_eq_none (by rw [slcs_len]; omega)]
theorem slcs_store {n k m b : Nat} (gs : Nat → Nat) (hk : k < n) : (slcs n k m gs).set k (slc b m) = slcs n (k + 1) m (fun i => if i = k then b else gs i) := by
  apply List.ext_getElem?
  intro t
  rw [List.getElem?_set]
  by_cases ht : t < n
  · by_cases e : k = t
    · subst e
      rw [if_pos rfl, if_pos (by rw [slcs_len]; exact ht), slcs_at _ ht (by omega), if_pos rfl]
    · rw [if_neg e]
      simp only [slcs, List.getElem?_map, List.getElem?_range ht, Option.map_some]
      by_cases h1 : t < k
      · rw [if_pos h1, if_pos (by omega), if_neg (fun h => e h.symm)]
      · rw [if_neg h1, if_neg (by omega)]
  · rw [List.getElem?_eq_none (by rw [slcs_len]; omega), if_neg (by omega), List.getElem?_eq_none (by rw [slcs_len]; omega)]
/-- A new inner row is made and stored at k. -/
theorem PMat.more {w : World} {base g c n k m : Nat} {f : Nat → Nat → Bool} {gs : Nat → Nat} (h : PMat w base (.slice (some ⟨g, 0, none⟩) n c) n k m f gs) (hk : k < n) (hb : base ≤ w.heap.size) (hf : ∀ j, j < m → f k j = false) :
    PMat ((w.alloc (.cells (madeCells #[.bool false] m) 4)).setCell ⟨g, k, none⟩ (slc w.heap.size m)) base (.slice (some ⟨g, 0, none⟩) n c) n (k + 1) m f (fun i => if i = k then w.heap.size else gs i) := by
  have hg : ∃ cur, w.heap[g]? = some (.cells cur 97 (0, 0)) ∧ base ≤ g := by
    rcases h.own.2 with ⟨h0, _⟩ | ⟨g', cap, cur, hv, hbb, hh, _⟩
    · cases h0
    · simp only [Value.slice.injEq, Option.some.injEq, Addr.mk.injEq] at hv
      obtain ⟨⟨rfl, _, _⟩, _, _⟩ := hv
      exact ⟨cur, hh, hbb⟩
  obtain ⟨cur, hh, _⟩ := hg
  have hgl := block_lt hh
  have ho := ((h.own.alloc (.cells (madeCells #[.bool false] m) 4)).stored k (slc w.heap.size m)).1
  rw [slcs_store gs hk] at ho
  have hne : ∀ x, x ≠ g → ((w.alloc (.cells (madeCells #[.bool false] m) 4)).setCell ⟨g, k, none⟩ (slc w.heap.size m)).heap[x]? = (w.alloc (.cells (madeCells #[.bool false] m) 4)).heap[x]? := fun x hx => Below.heap_setCell _ _ _ _ hx
  refine ⟨ho, fun i h1 h2 => ?_, fun i h1 h2 => ?_, fun i j h1 h2 h3 h4 he => ?_⟩
  · by_cases e : i = k
    · subst e
      simp only [if_pos]
      rw [hne _ (by omega), heap_alloc_new, ← rowC_false]
      have : rowC m (fun _ => false) = rowC m (f i) := List.map_congr_left fun j hj => by rw [hf j (by simpa using hj)]
      rw [this]
    · simp only [if_neg e]
      have hr := h.row i (by omega) h2
      have hx : gs i ≠ g := by
        intro e2
        rw [e2, hh] at hr
        injection hr with hr
        injection hr with _ ht
        exact absurd ht (by decide)
      rw [hne _ hx, Below.heap_alloc w _ _ (block_lt hr), hr]
  · by_cases e : i = k
    · simp only [if_pos e]; exact hb
    · simp only [if_neg e]; exact h.ge i (by omega) h2
  · by_cases e1 : i = k
    · by_cases e2 : j = k
      · omega
      · simp only [if_pos e1, if_neg e2] at he
        have := block_lt (h.row j (by omega) h4); omega
    · by_cases e2 : j = k
      · simp only [if_neg e1, if_pos e2] at he
        have := block_lt (h.row i (by omega) h3); omega
      · simp only [if_neg e1, if_neg e2] at he
        exact h.inj i j (by omega) (by omega) h3 h4 he
theorem alloc_setCell {w : World} {p : Addr} {v : Value} {o : Obj} (h : p.block < w.heap.size) : (w.alloc o).setCell p v = (w.setCell p v).alloc o := by
  unfold World.setCell World.alloc
  congr 1
  apply Array.ext_getElem?
  intro i
  simp only [Array.getElem?_modify, Array.getElem?_push, Array.size_modify]
  by_cases h1 : i = w.heap.size
  · rw [if_pos h1, if_pos h1, if_neg (by omega)]
  · rw [if_neg h1, if_neg h1]
def MkRel (n m : Nat) (v : Value) (w : World) (g : Nat) (i : Value) (wr : World) : Prop :=
  ∃ (k : Nat) (gs : Nat → Nat), k + g = n ∧ i = .int .i64 k ∧ PMat wr w.heap.size v n k m (fun _ _ => false) gs ∧ Below w.heap.size w wr
def NeRel (ps : List PeerD) (ne : List PairD) (v : Value) (w : World) (g : Nat) (i : Value) (wr : World) : Prop :=
  ∃ (k : Nat) (gs : Nat → Nat), k + g = ne.length ∧ i = .int .i64 k ∧ firstTo (neF ps ne) k = 0 ∧ Mat wr w.heap.size v ps.length ps.length (nearM ps ne k) gs ∧ Below w.heap.size w wr
theorem Lst.pair {w : World} {lo n c : Nat} {A : Option Addr} {ne : List PairD} (h : Lst w lo 2 (.slice A n c) (ne.flatMap paC)) {j : Nat} (hj : j < ne.length) (hn : n = ne.length) :
    ∃ g o, A = some ⟨g, o, none⟩ ∧ g < w.heap.size ∧ w.cell? ⟨g, o + j * 2, none⟩ = some (.string ne[j].1) ∧ w.cell? ⟨g, o + j * 2 + 1, none⟩ = some (.string ne[j].2) := by
  obtain ⟨g, o, rfl, _, hg, hc⟩ := h.open_ (by omega)
  have a0 := hc (j * 2 + 0) (.string ne[j].1) (by rw [flatK_at (k := 2) (fun _ => rfl) ne j 0 hj (by omega)]; rfl)
  have a1 := hc (j * 2 + 1) (.string ne[j].2) (by rw [flatK_at (k := 2) (fun _ => rfl) ne j 1 hj (by omega)]; rfl)
  exact ⟨g, o, rfl, hg, by simpa using a0, by rw [Nat.add_assoc]; exact a1⟩
/-- What nearOf hands back. -/
def NearGot (ps : List PeerD) (ne : List PairD) (w : World) (e : Ending) (w' : World) : Prop :=
  (nearF ps ne ≠ 0 → e = .returned (.tuple #[.slice none 0 0, .int .i64 (nearF ps ne)])) ∧ (nearF ps ne = 0 → ∃ v gs, e = .returned (.tuple #[v, .int .i64 0]) ∧ Mat w' w.heap.size v ps.length ps.length (nearM ps ne ne.length) gs) ∧ Below w.heap.size w w'
set_option maxRecDepth 100000 in
set_option maxHeartbeats 4000000 in
theorem nearOf_any (A B : Option Addr) (lo c d : Nat) (ps : List PeerD) (ne : List PairD) (m : Int) (w : World) (hf : PeersAt w lo (.slice A ps.length c) ps) (hz : peersF m ps = 0) (hn : ps.length ≤ 50)
    (hN : Lst w lo 2 (.slice B ne.length d) (ne.flatMap paC)) (hnn : ne.length ≤ 1000) :
    Calls Tryd.prog 40 #[.slice A ps.length c, .slice B ne.length d] w (NearGot ps ne w) := by
  have HF := Lib.hid hf
  have HN := Lib.hid hN
  have HP := Lib.hid hz
  have HV := Lib.hid (show nearF ps ne = firstTo (neF ps ne) ne.length by rw [nearF, if_neg (by omega)])
  have hmk1 := run_make_row' (P := Tryd.prog) 91 97 (.slice none 0 0) 24 Tryd.underlying91 infoSl rfl .i64 .i64 ps.length (by omega) (by omega)
  have hmk2 := run_make_row' (P := Tryd.prog) 97 4 (.bool false) 1 Tryd.underlying97 infoB rfl .i64 .i64 ps.length (by omega) (by omega)
  have HBAD := Lib.hid (show ∀ (x : Int) (w' : World), x ≠ 0 → nearF ps ne = x → Below w.heap.size w w' → NearGot ps ne w (.returned (.tuple #[.slice none 0 0, .int .i64 x])) w' from fun x w' h1 h2 h3 => ⟨fun _ => by rw [h2], fun h => absurd (h2.symm.trans h) h1, h3⟩)
  clear hf hN hz
  go_enter Tryd.func40, Tryd.ntmps40
  go_wp2_with fail
  have P0 := Lib.hid (pmat_new w ps.length ps.length (by omega))
  have b0 := bfirst w (.cells (madeCells #[.slice none 0 0] ps.length) 97)
  obtain ⟨w0, hw0⟩ : ∃ w0, w0 = w.alloc (.cells (madeCells #[.slice none 0 0] ps.length) 97) := ⟨_, rfl⟩
  rw [← hw0] at P0 b0 ⊢
  clear hw0
  obtain ⟨ob, hob⟩ : ∃ ob, ob = w.heap.size := ⟨_, rfl⟩
  rw [← hob]
  have HOB := Lib.hid hob
  rw [← hob] at P0
  clear hob
  go_loopg [22, 7] ps.length (fun g i _ wr => MkRel ps.length ps.length (.slice (some ⟨ob, 0, none⟩) ps.length ps.length) w g i wr)
  case atStart => exact ⟨0, _, by omega, rfl, by rw [← HOB.out]; exact P0.out, b0⟩
  case round =>
    obtain ⟨k, gs, hk, rfl, hM, hb⟩ := hrel
    have hsz := hb.size
    by_cases hg : gk = 0
    rotate_left
    · have hlt : k < ps.length := by omega
      have HK := Lib.hid hk
      have hcell : ∃ u, wr.cell? ⟨ob, k, none⟩ = some u := by
        have := own_cells hM.own k _ (List.getElem?_eq_getElem (by rw [slcs_len]; exact hlt))
        have e : (⟨ob, 0, none⟩ : Addr).add k = ⟨ob, k, none⟩ := by unfold Addr.add; split <;> simp_all
        rw [e] at this
        exact ⟨_, this⟩
      obtain ⟨u, hu⟩ := hcell
      have hul := World.block_lt_of_cell? wr _ hu
      have hfz : wr.frozen? ⟨ob, k, none⟩ = false := by
        rcases hM.own.2 with ⟨h0, _⟩ | ⟨g', cap, cur, hv, _, hh, _⟩
        · cases h0
        · simp only [Value.slice.injEq, Option.some.injEq, Addr.mk.injEq] at hv
          obtain ⟨⟨rfl, _, _⟩, _, _⟩ := hv
          simp [World.frozen?, hh]
      have HM := Lib.hid (hM.more hlt hsz (fun _ _ => rfl))
      clear hk hM
      go_wp2_with fail
      go_roundg (gk - 1)
      case measure => omega
      case rel => exact ⟨k + 1, _, by have := HK.out; omega, by go_num, by rw [alloc_setCell (by exact hul)] at HM; exact HM.out, bbox (hb.setCell (p := ⟨ob, k, none⟩) (by show w.heap.size ≤ ob; rw [HOB.out]; exact Nat.le_refl _) _) _⟩
    · obtain rfl : k = ps.length := by omega
      clear hk hg
      have HM0 := Lib.hid (hM.congr (f' := nearM ps ne 0) (fun i _ _ j _ => (nearM_zero ps ne i j).symm))
      have hobl : w.heap.size ≤ ob := by rw [HOB.out]; exact Nat.le_refl _
      clear hM P0
      go_wp2_with fail
      obtain ⟨w1, rfl⟩ : ∃ w1 : World, w1 = wr := ⟨_, rfl⟩
      clear hsz
      go_loopg [34, 9, 10, 11, 12, 13] ne.length (fun g i _ _ _ _ _ wx => NeRel ps ne (.slice (some ⟨ob, 0, none⟩) ps.length ps.length) w g i wx)
      case atStart => exact ⟨0, gs, by omega, rfl, rfl, HM0.out, hb⟩
      case round =>
        obtain ⟨k, gs2, hk, rfl, hz0, hM, hb2⟩ := hrel
        clear HM0 hb
        have hb := hb2
        clear hb2
        by_cases hg : gk = 0
        · obtain rfl : k = ne.length := by omega
          have HX := Lib.hid (HV.out.trans hz0)
          have HMM := Lib.hid hM
          clear hk hz0 hg hM
          go_wp2_with fail
          go_ret2
          exact ⟨fun h => absurd HX.out h, fun _ => ⟨_, gs2, rfl, HMM.out⟩, hb⟩
        · have hlt : k < ne.length := by omega
          obtain ⟨g, o, rfl, hgl, c0, c1⟩ := (HN.out.below hb).pair hlt rfl
          have HA := Lib.hid (nrAt_eq ne hlt)
          have HUP := Lib.hid (fun a b x y (h1 : keyAt ne[k].1 ps = ((a : Nat) : Int)) (h2 : keyAt ne[k].2 ps = ((b : Nat) : Int)) => upd_near ps ne hlt h1 h2 x y)
          have HK := Lib.hid hk
          have HZ := Lib.hid hz0
          have hgk : gk ≠ 0 := hg
          have HM := Lib.hid hM
          clear hk hz0 hg hM
          generalize ne[k] = x at *
          obtain ⟨na, nb⟩ := x
          have hra := keyAt_range na ps
          have hrb := keyAt_range nb ps
          have HFI := Lib.hid (show neF ps ne k = if decide (keyAt na ps < 0) || decide (keyAt nb ps < 0) then 8 else if decide (keyAt na ps = keyAt nb ps) || nearM ps ne k (keyAt na ps).toNat (keyAt nb ps).toNat then 6 else 0 by rw [neF, HA.out])
          have HUP2 := Lib.hid (show ∀ a b x y : Nat, keyAt na ps = (a : Int) → keyAt nb ps = (b : Int) → upd (upd (nearM ps ne k) a b true) b a true x y = nearM ps ne (k + 1) x y from HUP.out)
          clear HUP HA
          have HBD := Lib.hid (show ∀ z : Int, z ≠ 0 → neF ps ne k = z → nearF ps ne = z from fun z h1 h2 => by rw [HV.out, firstTo_at hlt HZ.out (by rw [h2]; exact h1), h2])
          go_wp2_with fail
          have hb0 := bbox hb (.cells #[.string na, .string nb] 89)
          have HX := Lib.hid (heap_alloc_new wr (.cells #[.string na, .string nb] 89))
          have HM1 := Lib.hid (HM.out.below (bfirst wr (.cells #[.string na, .string nb] 89)))
          generalize wr.alloc (.cells #[.string na, .string nb] 89) = w2 at *
          refine (peerAt_any A _ c ps na _ (HF.out.below hb0) (by omega) m HP.out).mono ?_
          rintro e w3 ⟨i1, rfl, hi1, b3⟩
          have hM3 := (b3.block wr.heap.size (block_lt HX.out)).trans HX.out
          have d1 := (pe_cells hM3).2
          have l3 := block_lt hM3
          have HM3 := Lib.hid (HM1.out.below b3)
          have hb3 := bon hb0 b3
          clear hb0 HX HM1 b3 HM hgl c0 c1 hb
          generalize wr.heap.size = pb at *
          clear w2
          go_wp2_with fail
          refine (peerAt_any A _ c ps nb _ (HF.out.below hb3) (by omega) m HP.out).mono ?_
          rintro e w4 ⟨i2, rfl, hi2, b4⟩
          have HM4 := Lib.hid (HM3.out.below b4)
          have hb4 := bon hb3 b4
          clear hb3 HM3 b4 d1 l3 hM3
          by_cases hab : 0 ≤ keyAt na ps ∧ 0 ≤ keyAt nb ps
          rotate_left
          · have H8 := Lib.hid (HBD.out 8 (by decide) (by rw [HFI.out, if_pos (by simp; omega)]))
            clear HFI
            rcases Int.lt_or_le (keyAt na ps) 0 with h1 | h1
            · have h1' : decide (0 ≤ keyAt na ps) = false := decide_eq_false (by omega)
              rw [h1']
              clear h1' h1 hab hi1 hi2 hra hrb
              go_wp2_with fail
              go_ret2
              exact HBAD.out 8 _ (by decide) H8.out hb4
            · have h1' : decide (0 ≤ keyAt na ps) = true := decide_eq_true h1
              have h2' : decide (0 ≤ keyAt nb ps) = false := decide_eq_false (by omega)
              rw [h1', h2']
              clear h1' h2' h1 hab hi1 hi2 hra hrb
              go_wp2_with fail
              go_ret2
              exact HBAD.out 8 _ (by decide) H8.out hb4
          · obtain ⟨ha0, hb0⟩ := hab
            rw [decide_eq_true ha0, decide_eq_true hb0, hi1 ha0, hi2 hb0]
            have HU3 := Lib.hid (fun a b (h1 : keyAt na ps = ((a : Nat) : Int)) (h2 : keyAt nb ps = ((b : Nat) : Int)) => fun x y => HUP2.out a b x y h1 h2)
            have HFJ := Lib.hid (show neF ps ne k = if decide (keyAt na ps = keyAt nb ps) || nearM ps ne k (keyAt na ps).toNat (keyAt nb ps).toNat then 6 else 0 by rw [HFI.out, if_neg (by simp; omega)])
            clear HFI hi1 hi2 HUP2
            generalize keyAt na ps = ka at *
            generalize keyAt nb ps = kb at *
            obtain ⟨a, rfl⟩ := Int.eq_ofNat_of_zero_le ha0
            obtain ⟨b, rfl⟩ := Int.eq_ofNat_of_zero_le hb0
            have han : a < ps.length := by omega
            have hbn : b < ps.length := by omega
            have hanI : (a : Int) < (ps.length : Int) := by omega
            have hbnI : (b : Int) < (ps.length : Int) := by omega
            obtain ⟨ob2, eo, _, ol, g1, g2, g3, a1, a2, a3⟩ := HM4.out.at_ (i := a) (j := b) han han
            obtain ⟨ob3, eo2, _, ol2, g4, g5, g6, b1, b2, b3⟩ := HM4.out.at_ (i := b) (j := a) hbn hbn
            simp only [Option.some.injEq, Addr.mk.injEq] at eo eo2
            obtain ⟨rfl, _, _⟩ := eo
            obtain ⟨rfl, _, _⟩ := eo2
            have a2' := a2 hbn
            have b2' := b2 han
            unfold slc at a1 b1
            clear a2 b2 ha0 hb0 hra hrb
            have HFK := Lib.hid (show neF ps ne k = if decide (a = b) || nearM ps ne k a b then 6 else 0 by
              rw [HFJ.out]
              have e1 : (decide ((a : Int) = (b : Int)) || nearM ps ne k ((a : Int).toNat) ((b : Int).toNat)) = (decide (a = b) || nearM ps ne k a b) := by
                rw [Int.toNat_natCast, Int.toNat_natCast, show decide ((a : Int) = (b : Int)) = decide (a = b) by rw [decide_eq_decide]; omega]
              generalize (decide ((a : Int) = (b : Int)) || nearM ps ne k ((a : Int).toNat) ((b : Int).toNat)) = X at *
              subst e1
              rfl)
            clear HFJ
            go_upto_region 16 with fail
            go_cut [69] (fun s wx => s = .bool (decide (a = b) || nearM ps ne k a b) ∧ w4 = wx)
            case first =>
              by_cases e : a = b
              · have e1 : ((a : Int) == (b : Int)) = true := by simp [e]
                have HE := Lib.hid (show decide (a = b) = true from decide_eq_true e)
                clear e
                go_wp2_with fail
                go_meet
                exact ⟨by rw [HE.out]; rfl, rfl⟩
              · have e1 : ((a : Int) == (b : Int)) = false := by simp; omega
                have HE := Lib.hid (show decide (a = b) = false from decide_eq_false e)
                clear e
                go_wp2_with fail
                go_meet
                exact ⟨by rw [HE.out]; rfl, rfl⟩
            case rest =>
              obtain ⟨rfl, rfl⟩ := hcut
              rcases Bool.eq_false_or_eq_true (decide (a = b) || nearM ps ne k a b) with hc | hc
              · have H6 := Lib.hid (HBD.out 6 (by decide) (by rw [HFK.out, hc]; rfl))
                rw [hc]
                clear hc HFK
                go_wp2_with fail
                go_ret2
                exact HBAD.out 6 _ (by decide) H6.out hb4
              · have hne : a ≠ b := by intro e; simp [e] at hc
                have H0 := Lib.hid (firstTo_succ HZ.out (by rw [HFK.out, hc]; rfl))
                rw [hc]
                clear hc HFK
                have hgg : gs2 a ≠ gs2 b := fun e => hne (HM4.out.inj a b han hbn han hbn e)
                have hgg' : gs2 b ≠ gs2 a := fun e => hgg e.symm
                have HFIN := Lib.hid (((HM4.out.set (i := a) (j := b) (b := true) han han).set (i := b) (j := a) (b := true) hbn hbn).congr (fun i _ _ j _ => HU3.out a b rfl rfl i j))
                have HBF := Lib.hid ((hb4.setCell (p := ⟨gs2 a, b, none⟩) g3 (.bool true)).setCell (p := ⟨gs2 b, a, none⟩) g6 (.bool true))
                generalize nearM ps ne k a b = nv at *
                generalize nearM ps ne k b a = nu at *
                go_upto_region 18 with fail
                go_region_held3 (fun w' => w'.cell? ⟨ob, a, none⟩ = some (.slice (some ⟨gs2 a, 0, none⟩) ps.length ps.length) ∧ w'.cell? ⟨ob, b, none⟩ = some (.slice (some ⟨gs2 b, 0, none⟩) ps.length ps.length)) (go_keep) (fail)
                go_wp2_with fail
                go_roundg (gk - 1)
                case measure => omega
                case rel => exact ⟨k + 1, gs2, by have := HK.out; omega, by go_num, H0.out, HFIN.out.drew, below_drewN HBF.out 1⟩
end Go.Proofs.YtegalkmfoffpfaaDoor
