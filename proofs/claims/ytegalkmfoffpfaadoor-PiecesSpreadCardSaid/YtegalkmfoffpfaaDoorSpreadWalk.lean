/- sync.Spread. -/
import Derived.Test.YtegalkmfoffpfaaDoorFillMem
import Derived.Test.YtegalkmfoffpfaaDoorRound
import Derived.Test.YtegalkmfoffpfaaDoorAllB
import Derived.Test.YtegalkmfoffpfaaDoorRegionLate
import Derived.Outline
namespace Go.Proofs.YtegalkmfoffpfaaDoor
open Go.RowKit
attribute [local go_sem ↓] Go.wp_at_zero Go.wp_at_succ
theorem heap_newN (w : World) (o : Obj) (n : Nat) (hn : n = w.heap.size) : (w.alloc o).heap[n]? = some o := by subst hn; exact heap_alloc_new w o
/-- While the crowd is filled: k players are in. -/
def SfRel (w1 : World) (cb m : Nat) (nv : Value) (ps : List PeerD) (g : Nat) (ix : Value) (wr : World) : Prop :=
  ∃ (k : Nat) (kv hv : Value) (gs : Nat → Nat), k + g = ps.length ∧ ix = .int .i64 k ∧ Fill w1 cb m nv (hasM ps) gs k kv hv kv hv k k ((ps.take k).map fun p => Value.string p.1) (slcs k k m gs) wr ∧
    (∀ i, i < k → cb + 1 ≤ gs i) ∧ (∀ i j, i < k → j < k → gs i = gs j → i = j)
/-- While a player's pieces are marked. -/
def ShRel (w4 : World) (hb m : Nat) (zs : List Int) (g : Nat) (ix : Value) (wr : World) : Prop :=
  ∃ k : Nat, k + g = zs.length ∧ ix = .int .i64 k ∧ wr.heap[hb]? = some (.cells (rowC m (hasTo zs k)).toArray 4 (0, 0)) ∧ Below hb w4 wr ∧ hb < wr.heap.size
def keysOf (ps : List PeerD) : List ByteArray := ps.map (·.1)
/-- While rounds go on. -/
def SrRel (w1 w0 : World) (cb n m : Nat) (ps : List PeerD) (N H0 : Nat → Nat → Bool) (kv nv hv : Value) (gN gH : Nat → Nat) (g : Nat) (ov nov : Value) (wr : World) : Prop :=
  ∃ (no : Nat) (H : Nat → Nat → Bool) (acc : List GiveN) (cv rv : Value), nov = .int .i64 no ∧ Going n m N H0 g no H acc ∧ wr.ownsRow (cb + 1) 61 4 ov acc.length (acc.flatMap (giC (keysOf ps))) ∧
    CrowdIs wr cb w0.heap.size n m (keysOf ps) N H kv nv hv cv rv gN gH w1 ∧ Below cb w1 wr
/-- What Spread hands back. -/
def spreadG (ps : List PeerD) (ne : List PairD) (m : Nat) : List GiveN := (spreadF ps.length m (nearM ps ne ne.length) (ps.length * m) 1 (hasM ps)).1
def spreadB (ps : List PeerD) (ne : List PairD) (m : Nat) : Bool := allF ps.length m (spreadF ps.length m (nearM ps ne ne.length) (ps.length * m) 1 (hasM ps)).2
def SpreadGot (ps : List PeerD) (ne : List PairD) (m : Nat) (w : World) (e : Ending) (w' : World) : Prop :=
  ∃ v, e = .returned (.tuple #[v, .bool (spreadB ps ne m), .int .i64 0]) ∧ w'.ownsRow w.heap.size 61 4 v (spreadG ps ne m).length ((spreadG ps ne m).flatMap (giC (keysOf ps))) ∧ Below w.heap.size w w'
set_option maxRecDepth 100000 in
set_option maxHeartbeats 8000000 in
theorem spread_any (A B : Option Addr) (lo c d m : Nat) (ps : List PeerD) (ne : List PairD) (w : World) (hf : PeersAt w lo (.slice A ps.length c) ps) (hok : PeOk ps) (hn : ps.length ≤ 12) (hm : m ≤ 60)
    (hz : peersF m ps = 0) (hN : Lst w lo 2 (.slice B ne.length d) (ne.flatMap paC)) (hnn : ne.length ≤ 1000) (hy : nearF ps ne = 0) :
    Calls Tryd.prog 22 #[.slice A ps.length c, .slice B ne.length d, .int .i64 m] w (SpreadGot ps ne m w) := by
  have hcp := checkPeers_any A lo c ps m w hf hok (by omega) (by omega) (by omega)
  rw [hz] at hcp
  have HCP := Lib.hid hcp
  have HF := Lib.hid hf
  have HN := Lib.hid hN
  have HZ := Lib.hid hz
  have HOK := Lib.hid hok
  have HY := Lib.hid hy
  obtain ⟨i0, ii, iz0, iz1, iz2⟩ := info_parts infoGi
  have hmk := run_make_row' (P := Tryd.prog) 97 4 (.bool false) 1 Tryd.underlying97 infoB rfl .i64 .i64 m (by omega) (by omega)
  clear hcp hf hN hz hok hy
  go_enter Tryd.func22, Tryd.ntmps22
  go_wp2_with fail
  refine HCP.out.mono ?_
  rintro e w0 ⟨rfl, hb0⟩
  go_wp2_with fail
  refine (nearOf_any A B lo c d ps ne m w0 (HF.out.below hb0) HZ.out (by omega) (HN.out.below hb0) hnn).mono ?_
  rintro e w1 ⟨_, hgot, hb1⟩
  obtain ⟨nv, gN, rfl, hMN⟩ := hgot HY.out
  obtain ⟨NA, nc, rfl⟩ := hMN.form
  have HMN := Lib.hid hMN
  have hbw := bon hb0 hb1
  have HBW := Lib.hid hbw
  have HF1 := Lib.hid (HF.out.below hbw)
  have HB1 := Lib.hid hb1
  clear hgot hMN hb0 HCP HN HF
  go_wp2_with fail
  obtain ⟨cb, hcb⟩ : ∃ cb, cb = w1.heap.size := ⟨_, rfl⟩
  have hF0 : Fill w1 cb m (.slice NA ps.length nc) (hasM ps) (fun _ => 0) 0 (.slice none 0 0) (.slice none 0 0) (.slice none 0 0) (.slice none 0 0) 0 0 [] [] (w1.alloc (.cells #[.slice none 0 0, .slice NA ps.length nc, .slice none 0 0, .slice none 0 0, .slice none 0 0] 96)) :=
    ⟨heap_newN _ _ _ hcb, World.ownsRow_nil _ _ _ _, World.ownsRow_nil _ _ _ _, fun i hi => absurd hi (Nat.not_lt_zero _), by rw [hcb]; exact bfirst _ _⟩
  rw [← hcb]
  have HCB := Lib.hid hcb
  generalize w1.alloc (.cells #[.slice none 0 0, .slice NA ps.length nc, .slice none 0 0, .slice none 0 0, .slice none 0 0] 96) = w2 at *
  clear hcb hb1 hbw
  go_loopg [42, 14, 15, 17, 51] ps.length (fun g ix _ _ _ _ wr => SfRel w1 cb m (.slice NA ps.length nc) ps g ix wr)
  case atStart => exact ⟨0, _, _, _, by omega, rfl, hF0, fun i hi => absurd hi (Nat.not_lt_zero _), fun i j hi => absurd hi (Nat.not_lt_zero _)⟩
  case round =>
    clear hF0
    obtain ⟨k, kv, hv, gs, hk, rfl, hF, hge, hinj⟩ := hrel
    by_cases hg : gk = 0
    rotate_left
    · have hlt : k < ps.length := by omega
      have hltI : (k : Int) < (ps.length : Int) := by omega
      have hgk : gk ≠ 0 := hg
      have HK := Lib.hid hk
      have hfw : PeersAt wr lo (.slice A ps.length c) ps := HF1.out.below (by have := hF.bel; rw [HCB.out] at this; exact this)
      obtain ⟨g, o, B2, m2, d2, rfl, hgl, x0, x1, hm2, hL⟩ := hfw.at_ hlt
      have HHI := Lib.hid (fun (j : Nat) (hj : j < ps[k].2.length) => (show 0 ≤ ps[k].2[j] ∧ ps[k].2[j] < (m : Int) by have := has_in HZ.out hlt (k := j) (by rw [pAt_eq ps hlt]; exact hj); simp only [pAt_eq ps hlt] at this; exact this))
      have HHM := Lib.hid (show hasTo ps[k].2 ps[k].2.length = hasM ps k by have := hasTo_all ps k; rwa [pAt_eq ps hlt] at this)
      have HTK := Lib.hid (show (ps.take (k + 1)).map (fun p => Value.string p.1) = (ps.take k).map (fun p => Value.string p.1) ++ [.string ps[k].1] by rw [List.take_succ_eq_append_getElem hlt, List.map_append]; rfl)
      have hzl : ps[k].2.length ≤ 1000 := (HOK.out _ (List.getElem_mem hlt)).2.1
      have HL := Lib.hid hL
      have hcl := hF.lt
      obtain ⟨y0, y2, z0, z2, _⟩ := hF.cells
      have HFF := Lib.hid hF
      have HGE := Lib.hid hge
      have HIJ := Lib.hid hinj
      have HGO := Lib.hid hgl
      clear hk hg hL hF hge hinj hfw
      subst hm2
      generalize ps[k].2 = zs at *
      generalize ps[k].1 = key at *
      go_wp2_with fail
      have b4 := bfirst wr (.cells #[.string key, .slice B2 zs.length d2] 85)
      have hP4 := heap_alloc_new wr (.cells #[.string key, .slice B2 zs.length d2] 85)
      have hpb : wr.heap.size < (wr.alloc (.cells #[.string key, .slice B2 zs.length d2] 85)).heap.size := by simp
      have HF4 := Lib.hid (HFF.out.alloc (.cells #[.string key, .slice B2 zs.length d2] 85))
      have HSZ := Lib.hid (show (wr.alloc (.cells #[.string key, .slice B2 zs.length d2] 85)).heap.size = wr.heap.size + 1 by simp)
      have HL4 := Lib.hid (HL.out.below b4)
      generalize wr.alloc (.cells #[.string key, .slice B2 zs.length d2] 85) = w4 at *
      have HRN := Lib.hid (heap_newN w4 (.cells (madeCells #[.bool false] m) 4) (wr.heap.size + 1) HSZ.out.symm)
      have hB5 := bfirst w4 (.cells (madeCells #[.bool false] m) 4)
      have hl5 : wr.heap.size + 1 < (w4.alloc (.cells (madeCells #[.bool false] m) 4)).heap.size := by have := HSZ.out; simp; omega
      generalize w4.alloc (.cells (madeCells #[.bool false] m) 4) = w5 at *
      have HP4 := Lib.hid hP4
      clear HFF hcl y0 y2 z0 z2 x0 x1 b4 HL hP4
      generalize wr.heap.size = pb at *
      clear wr
      obtain ⟨gq, rfl⟩ : ∃ gq, gq = gk := ⟨_, rfl⟩
      go_loopg [51, 17] zs.length (fun g ix _ wx => ShRel w4 (pb + 1) m zs g ix wx)
      case atStart => exact ⟨0, by omega, rfl, by rw [hasTo_zero, rowC_false]; exact HRN.out, by rw [← HSZ.out]; exact hB5, hl5⟩
      case round =>
        clear hB5 HRN hl5
        obtain ⟨j, hk, rfl, hR, hB, hhl⟩ := hrel
        by_cases hg : gk = 0
        rotate_left
        · have hj : j < zs.length := by omega
          have hjI : (j : Int) < (zs.length : Int) := by omega
          have HJ := Lib.hid hk
          have hgk2 : gk ≠ 0 := hg
          have hbw : Below w4.heap.size w4 wr := by rw [HSZ.out]; exact hB
          obtain ⟨zg, zo, rfl, zl, zc⟩ := (HL4.out.below hbw).int hj rfl
          obtain ⟨q0, q1⟩ := HHI.out j hj
          have HS := Lib.hid (fun (p : Nat) (hp : zs[j] = (p : Int)) => hasTo_succ zs hj hp)
          generalize zs[j] = z at *
          obtain ⟨p, rfl⟩ := Int.eq_ofNat_of_zero_le q0
          have hpm : p < m := by omega
          have rc := row_cell hR hpm
          have rz := row_fz (j := p) hR
          have HR := Lib.hid (row_set (j := p) hR)
          have HB := Lib.hid (hB.setCell (p := ⟨pb + 1, p, none⟩) (Nat.le_refl _) (.bool true))
          have hSp := HS.out p rfl
          rw [← hSp] at HR
          clear hSp HS hk hg hbw hR hB
          go_wp2_with fail
          go_roundg (gk - 1)
          case measure => omega
          case rel => exact ⟨j + 1, by have := HJ.out; omega, by go_num, HR.out, HB.out, by simpa [World.setCell] using hhl⟩
        · obtain rfl : zs.length = j := by omega
          clear hk hg
          have hbw : Below w4.heap.size w4 wr := by rw [HSZ.out]; exact hB
          have hP := (hbw.block pb hpb).trans HP4.out
          obtain ⟨p0, p1⟩ := pe_cells hP
          rw [HHM.out] at hR
          have st0 : Fill w1 cb m (.slice NA ps.length nc) (hasM ps) (fun i => if i = k then pb + 1 else gs i) (k + 1) kv hv kv hv k k _ _ wr.drew := (HF4.out.more hbw hR).drew
          have hS : SpS cb pb kv hv key wr.drew := ⟨st0.cells.1, st0.cells.2.1, p0, _, hP⟩
          have hcp : cb < pb := by have := HF4.out.lt; have := HSZ.out; omega
          have HEND : Hid (∀ (kv' hv' : Value) (w' : World), Fill w1 cb m (.slice NA ps.length nc) (hasM ps) (fun i => if i = k then pb + 1 else gs i) (k + 1) kv' hv' kv' hv' (k + 1) (k + 1) ((ps.take k).map (fun p => Value.string p.1) ++ [.string key]) (slcs k k m gs ++ [.slice (some ⟨pb + 1, 0, none⟩) m m]) w' → SfRel w1 cb m (.slice NA ps.length nc) ps (gq - 1) (.int .i64 ((k : Int) + 1)) w') := by
            intro kv' hv' w' hF'
            refine ⟨k + 1, kv', hv', _, by have := HK.out; omega, by go_num, by rw [HTK.out, ← slcs_push]; exact hF', fun i hi => ?_, fun i j hi hj he => ?_⟩
            · by_cases e : i = k
              · rw [if_pos e]; omega
              · rw [if_neg e]; exact HGE.out i (by omega)
            · have hlt4 : ∀ i, i < k → gs i < pb + 1 := fun i hi => by have := block_lt (HF4.out.row i hi); have := HSZ.out; omega
              by_cases e1 : i = k
              · by_cases e2 : j = k
                · omega
                · rw [if_pos e1, if_neg e2] at he; have := hlt4 j (by omega); omega
              · by_cases e2 : j = k
                · rw [if_neg e1, if_pos e2] at he; have := hlt4 i (by omega); omega
                · rw [if_neg e1, if_neg e2] at he; exact HIJ.out i j (by omega) (by omega) he
          clear hB hR hP p0 p1 HP4 HF4 HL4 hbw hmk HHI HGE HIJ
          go_upto_region 17 with fail
          refine wp_region_late (fun j => j == 19 || j == 22) (SpS cb pb kv hv key) (by kernel_rfl) ?_
          refine wpLate_takeP (i := 0) (v := .pointer (some ⟨cb, 0, none⟩)) rfl (by kernel_rfl) (by kernel_rfl) (by kernel_rfl) (fun _ _ _ h => h) (Or.inl ⟨by rfl, fun _ _ => by go_simp⟩) ?_
          refine wpLate_takeP (i := 1) (v := .pointer (some ⟨cb, 0, none⟩)) rfl (by kernel_rfl) (by kernel_rfl) (by kernel_rfl) (fun _ _ _ h => h) (Or.inl ⟨by rfl, fun _ _ => by go_simp⟩) ?_
          refine wpLate_takeP (i := 2) (v := .pointer (some ⟨cb, 0, none⟩)) rfl (by kernel_rfl) (by kernel_rfl) (by kernel_rfl) (fun _ _ _ h => h) (Or.inl ⟨by rfl, fun _ _ => by go_simp⟩) ?_
          refine wpLate_takeP (i := 3) (v := .pointer (some ⟨cb, 0, none⟩)) rfl (by kernel_rfl) (by kernel_rfl) (by kernel_rfl) (fun _ _ _ h => h) (Or.inl ⟨by rfl, fun _ _ => by go_simp⟩) ?_
          refine wpLate_takeP (i := 4) (v := .pointer (some ⟨cb, 0, none⟩)) rfl (by kernel_rfl) (by kernel_rfl) (by kernel_rfl) (fun _ _ _ h => h) (Or.inl ⟨by rfl, fun _ _ => by go_simp⟩) ?_
          refine wpLate_takeP (i := 6) (v := .pointer (some ⟨pb, 0, none⟩)) rfl (by kernel_rfl) (by kernel_rfl) (by kernel_rfl) (fun _ _ _ h => h) (Or.inl ⟨by rfl, fun _ _ => by go_simp⟩) ?_
          refine wpLate_takeP (i := 10) (v := .pointer (some ⟨cb, 0, none⟩)) rfl (by kernel_rfl) (by kernel_rfl) (by kernel_rfl) (fun _ _ _ h => h) (Or.inl ⟨by rfl, fun _ _ => by go_simp⟩) ?_
          refine wpLate_takeP (i := 11) (v := .pointer (some ⟨cb, 0, none⟩)) rfl (by kernel_rfl) (by kernel_rfl) (by kernel_rfl) (fun _ _ _ h => h) (Or.inl ⟨by rfl, fun _ _ => by go_simp⟩) ?_
          refine wpLate_takeP (i := 12) (v := .pointer (some ⟨cb, 2, none⟩)) rfl (by kernel_rfl) (by kernel_rfl) (by kernel_rfl) (fun _ _ _ h => h) (Or.inl ⟨by rfl, fun _ _ => by go_simp⟩) ?_
          refine wpLate_takeP (i := 14) (v := .slice (some ⟨pb + 1, 0, none⟩) m m) rfl (by kernel_rfl) (by kernel_rfl) (by kernel_rfl) (fun _ _ _ h => h) (Or.inl ⟨by rfl, fun _ _ => by go_simp⟩) ?_
          refine wpLate_take (i := 5) (v := kv) rfl (by kernel_rfl) (by kernel_rfl) (by kernel_rfl) (by kernel_rfl) (fun _ _ _ h => h) (Or.inl ⟨by rfl, fun w' hw' => by obtain ⟨h1, h2, h3, h4⟩ := hw'; go_simp⟩) hS ?_
          refine wpLate_take (i := 7) (v := .string key) rfl (by kernel_rfl) (by kernel_rfl) (by kernel_rfl) (by kernel_rfl) (fun _ _ _ h => h) (Or.inl ⟨by rfl, fun w' hw' => by obtain ⟨h1, h2, h3, h4⟩ := hw'; go_simp⟩) hS ?_
          refine wpLate_take (i := 13) (v := hv) rfl (by kernel_rfl) (by kernel_rfl) (by kernel_rfl) (by kernel_rfl) (fun _ _ _ h => h) (Or.inl ⟨by rfl, fun w' hw' => by obtain ⟨h1, h2, h3, h4⟩ := hw'; go_simp⟩) hS ?_
          refine wpLate_ready (rs := [8, 15]) (by kernel_rfl) (by simp) ?_
          refine AllLate.cons (i := 8) rfl (fun K hK => ?_) (AllLate.cons (i := 15) rfl (fun K hK => ?_) AllLate.nil)
          · go_simp
            have hS := hS.alloc (.cells #[.string key] 9)
            have st := (st0).alloc (.cells #[.string key] 9)
            refine hK _ _ (fun _ _ => hS) ?_
            clear hK K
            refine wpLate_ready (rs := [9, 15]) (by kernel_rfl) (by simp) ?_
            refine AllLate.cons (i := 9) rfl (fun K hK => ?_) (AllLate.cons (i := 15) rfl (fun K hK => ?_) AllLate.nil)
            · apply step_fill0 (s := .tmp 64) (x := .tmp 67) (key := key)
              · rfl
              · rfl
              · exact st
              · rfl
              · rfl
              · exact heap_newN _ _ _ (by simp)
              · omega
              intro g7 c7 w7 st keep7 zz7
              have hS := hS.grow st keep7 (by decide)
              refine hK _ _ (fun _ _ => hS) ?_
              clear hK K
              refine wpLate_ready (rs := [15]) (by kernel_rfl) (by simp) ?_
              refine AllLate.cons (i := 15) rfl (fun K hK => ?_) AllLate.nil
              go_simp
              have hS := hS.alloc (.cells #[.slice (some ⟨pb + 1, 0, none⟩) m m] 97)
              have st := (st).alloc (.cells #[.slice (some ⟨pb + 1, 0, none⟩) m m] 97)
              refine hK _ _ (fun _ _ => hS) ?_
              clear hK K
              refine wpLate_ready (rs := [16]) (by kernel_rfl) (by simp) ?_
              refine AllLate.cons (i := 16) rfl (fun K hK => ?_) AllLate.nil
              apply step_fill2 (s := .tmp 72) (x := .tmp 74) (u := .slice (some ⟨pb + 1, 0, none⟩) m m)
              · rfl
              · rfl
              · exact st
              · rfl
              · rfl
              · exact heap_newN _ _ _ (by simp)
              · rfl
              · omega
              intro g8 c8 w8 st keep8 zz8
              have hS := hS.grow st keep8 (by decide)
              refine hK _ _ (fun _ _ => hS) ?_
              clear hK K
              refine wpLate_takeP (i := 17) (v := .pointer (some ⟨cb, 0, none⟩)) rfl (by kernel_rfl) (by kernel_rfl) (by kernel_rfl) (fun _ _ _ h => h) (Or.inl ⟨by rfl, fun _ _ => by go_simp⟩) ?_
              refine wpLate_takeP (i := 18) (v := .pointer (some ⟨cb, 0, none⟩)) rfl (by kernel_rfl) (by kernel_rfl) (by kernel_rfl) (fun _ _ _ h => h) (Or.inl ⟨by rfl, fun _ _ => by go_simp⟩) ?_
              obtain ⟨y0, y2, z0, z2, ycl⟩ := st.cells
              refine wpLate_ready (rs := [19]) (by kernel_rfl) (by simp) ?_
              refine AllLate.cons (i := 19) rfl (fun K hK => ?_) AllLate.nil
              go_simp
              refine hK _ _ (fun h => by cases h) ?_
              clear hK K
              have st := st.set0 (.slice (some ⟨g7, 0, none⟩) (k + 1) c7)
              refine wpLate_takeP (i := 20) (v := .pointer (some ⟨cb, 0, none⟩)) rfl (by kernel_rfl) (by kernel_rfl) (by kernel_rfl) (fun _ _ _ h => h) (Or.inl ⟨by rfl, fun _ _ => by go_simp⟩) ?_
              refine wpLate_takeP (i := 21) (v := .pointer (some ⟨cb, 2, none⟩)) rfl (by kernel_rfl) (by kernel_rfl) (by kernel_rfl) (fun _ _ _ h => h) (Or.inl ⟨by rfl, fun _ _ => by go_simp⟩) ?_
              obtain ⟨y0, y2, z0, z2, ycl⟩ := st.cells
              refine wpLate_ready (rs := [22]) (by kernel_rfl) (by simp) ?_
              refine AllLate.cons (i := 22) rfl (fun K hK => ?_) AllLate.nil
              go_simp
              refine hK _ _ (fun h => by cases h) ?_
              clear hK K
              have st := st.set2 (.slice (some ⟨g8, 0, none⟩) (k + 1) c8)
              refine wpLate_done (by kernel_rfl) ?_ _
              have HST := Lib.hid st
              clear st
              go_wp2_with fail
              go_roundg (gq - 1)
              case measure => omega
              case rel => exact HEND.out _ _ _ HST.out
            · go_simp
              have hS := hS.alloc (.cells #[.slice (some ⟨pb + 1, 0, none⟩) m m] 97)
              have st := (st).alloc (.cells #[.slice (some ⟨pb + 1, 0, none⟩) m m] 97)
              refine hK _ _ (fun _ _ => hS) ?_
              clear hK K
              refine wpLate_ready (rs := [9]) (by kernel_rfl) (by simp) ?_
              refine AllLate.cons (i := 9) rfl (fun K hK => ?_) AllLate.nil
              apply step_fill0 (s := .tmp 64) (x := .tmp 67) (key := key)
              · rfl
              · rfl
              · exact st
              · rfl
              · rfl
              · exact (Below.heap_alloc _ _ _ (block_lt (heap_newN _ _ _ (by simp)))).trans (heap_newN _ _ _ (by simp))
              · omega
              intro g7 c7 w7 st keep7 zz7
              have hS := hS.grow st keep7 (by decide)
              refine hK _ _ (fun _ _ => hS) ?_
              clear hK K
              refine wpLate_ready (rs := [16]) (by kernel_rfl) (by simp) ?_
              refine AllLate.cons (i := 16) rfl (fun K hK => ?_) AllLate.nil
              apply step_fill2 (s := .tmp 72) (x := .tmp 74) (u := .slice (some ⟨pb + 1, 0, none⟩) m m)
              · rfl
              · rfl
              · exact st
              · rfl
              · rfl
              · exact keep7 _ _ _ _ (heap_newN _ _ _ (by simp)) (by decide)
              · rfl
              · omega
              intro g8 c8 w8 st keep8 zz8
              have hS := hS.grow st keep8 (by decide)
              refine hK _ _ (fun _ _ => hS) ?_
              clear hK K
              refine wpLate_takeP (i := 17) (v := .pointer (some ⟨cb, 0, none⟩)) rfl (by kernel_rfl) (by kernel_rfl) (by kernel_rfl) (fun _ _ _ h => h) (Or.inl ⟨by rfl, fun _ _ => by go_simp⟩) ?_
              refine wpLate_takeP (i := 18) (v := .pointer (some ⟨cb, 0, none⟩)) rfl (by kernel_rfl) (by kernel_rfl) (by kernel_rfl) (fun _ _ _ h => h) (Or.inl ⟨by rfl, fun _ _ => by go_simp⟩) ?_
              obtain ⟨y0, y2, z0, z2, ycl⟩ := st.cells
              refine wpLate_ready (rs := [19]) (by kernel_rfl) (by simp) ?_
              refine AllLate.cons (i := 19) rfl (fun K hK => ?_) AllLate.nil
              go_simp
              refine hK _ _ (fun h => by cases h) ?_
              clear hK K
              have st := st.set0 (.slice (some ⟨g7, 0, none⟩) (k + 1) c7)
              refine wpLate_takeP (i := 20) (v := .pointer (some ⟨cb, 0, none⟩)) rfl (by kernel_rfl) (by kernel_rfl) (by kernel_rfl) (fun _ _ _ h => h) (Or.inl ⟨by rfl, fun _ _ => by go_simp⟩) ?_
              refine wpLate_takeP (i := 21) (v := .pointer (some ⟨cb, 2, none⟩)) rfl (by kernel_rfl) (by kernel_rfl) (by kernel_rfl) (fun _ _ _ h => h) (Or.inl ⟨by rfl, fun _ _ => by go_simp⟩) ?_
              obtain ⟨y0, y2, z0, z2, ycl⟩ := st.cells
              refine wpLate_ready (rs := [22]) (by kernel_rfl) (by simp) ?_
              refine AllLate.cons (i := 22) rfl (fun K hK => ?_) AllLate.nil
              go_simp
              refine hK _ _ (fun h => by cases h) ?_
              clear hK K
              have st := st.set2 (.slice (some ⟨g8, 0, none⟩) (k + 1) c8)
              refine wpLate_done (by kernel_rfl) ?_ _
              have HST := Lib.hid st
              clear st
              go_wp2_with fail
              go_roundg (gq - 1)
              case measure => omega
              case rel => exact HEND.out _ _ _ HST.out
          · go_simp
            have hS := hS.alloc (.cells #[.slice (some ⟨pb + 1, 0, none⟩) m m] 97)
            have st := (st0).alloc (.cells #[.slice (some ⟨pb + 1, 0, none⟩) m m] 97)
            refine hK _ _ (fun _ _ => hS) ?_
            clear hK K
            refine wpLate_ready (rs := [8]) (by kernel_rfl) (by simp) ?_
            refine AllLate.cons (i := 8) rfl (fun K hK => ?_) AllLate.nil
            go_simp
            have hS := hS.alloc (.cells #[.string key] 9)
            have st := (st).alloc (.cells #[.string key] 9)
            refine hK _ _ (fun _ _ => hS) ?_
            clear hK K
            refine wpLate_ready (rs := [9]) (by kernel_rfl) (by simp) ?_
            refine AllLate.cons (i := 9) rfl (fun K hK => ?_) AllLate.nil
            apply step_fill0 (s := .tmp 64) (x := .tmp 67) (key := key)
            · rfl
            · rfl
            · exact st
            · rfl
            · rfl
            · exact heap_newN _ _ _ (by simp)
            · omega
            intro g7 c7 w7 st keep7 zz7
            have hS := hS.grow st keep7 (by decide)
            refine hK _ _ (fun _ _ => hS) ?_
            clear hK K
            refine wpLate_ready (rs := [16]) (by kernel_rfl) (by simp) ?_
            refine AllLate.cons (i := 16) rfl (fun K hK => ?_) AllLate.nil
            apply step_fill2 (s := .tmp 72) (x := .tmp 74) (u := .slice (some ⟨pb + 1, 0, none⟩) m m)
            · rfl
            · rfl
            · exact st
            · rfl
            · rfl
            · exact keep7 _ _ _ _ ((Below.heap_alloc _ _ _ (block_lt (heap_newN _ _ _ (by simp)))).trans (heap_newN _ _ _ (by simp))) (by decide)
            · rfl
            · omega
            intro g8 c8 w8 st keep8 zz8
            have hS := hS.grow st keep8 (by decide)
            refine hK _ _ (fun _ _ => hS) ?_
            clear hK K
            refine wpLate_takeP (i := 17) (v := .pointer (some ⟨cb, 0, none⟩)) rfl (by kernel_rfl) (by kernel_rfl) (by kernel_rfl) (fun _ _ _ h => h) (Or.inl ⟨by rfl, fun _ _ => by go_simp⟩) ?_
            refine wpLate_takeP (i := 18) (v := .pointer (some ⟨cb, 0, none⟩)) rfl (by kernel_rfl) (by kernel_rfl) (by kernel_rfl) (fun _ _ _ h => h) (Or.inl ⟨by rfl, fun _ _ => by go_simp⟩) ?_
            obtain ⟨y0, y2, z0, z2, ycl⟩ := st.cells
            refine wpLate_ready (rs := [19]) (by kernel_rfl) (by simp) ?_
            refine AllLate.cons (i := 19) rfl (fun K hK => ?_) AllLate.nil
            go_simp
            refine hK _ _ (fun h => by cases h) ?_
            clear hK K
            have st := st.set0 (.slice (some ⟨g7, 0, none⟩) (k + 1) c7)
            refine wpLate_takeP (i := 20) (v := .pointer (some ⟨cb, 0, none⟩)) rfl (by kernel_rfl) (by kernel_rfl) (by kernel_rfl) (fun _ _ _ h => h) (Or.inl ⟨by rfl, fun _ _ => by go_simp⟩) ?_
            refine wpLate_takeP (i := 21) (v := .pointer (some ⟨cb, 2, none⟩)) rfl (by kernel_rfl) (by kernel_rfl) (by kernel_rfl) (fun _ _ _ h => h) (Or.inl ⟨by rfl, fun _ _ => by go_simp⟩) ?_
            obtain ⟨y0, y2, z0, z2, ycl⟩ := st.cells
            refine wpLate_ready (rs := [22]) (by kernel_rfl) (by simp) ?_
            refine AllLate.cons (i := 22) rfl (fun K hK => ?_) AllLate.nil
            go_simp
            refine hK _ _ (fun h => by cases h) ?_
            clear hK K
            have st := st.set2 (.slice (some ⟨g8, 0, none⟩) (k + 1) c8)
            refine wpLate_done (by kernel_rfl) ?_ _
            have HST := Lib.hid st
            clear st
            go_wp2_with fail
            go_roundg (gq - 1)
            case measure => omega
            case rel => exact HEND.out _ _ _ HST.out
    · obtain rfl : k = ps.length := by omega
      clear hk hg hmk
      obtain ⟨HA, hc, rfl⟩ : ∃ A c, hv = .slice A ps.length c := by
        rcases hF.ho.2 with ⟨rfl, h0⟩ | ⟨g, cap, cur, rfl, _⟩
        · exact ⟨none, 0, by rw [h0]⟩
        · exact ⟨_, cap, rfl⟩
      have HC0 : Hid (CrowdIs wr cb w0.heap.size ps.length m (keysOf ps) (nearM ps ne ne.length) (hasM ps) kv (.slice NA ps.length nc) (.slice HA ps.length hc) (.slice none 0 0) (.slice none 0 0) gN gs w1) :=
        Lib.hid ⟨hF.cr, by have := hF.ko; rw [List.take_length] at this; rw [keysOf, List.map_map]; exact this, by simp [keysOf], HMN.out, by rw [HCB.out]; exact HB1.out.size, by rw [HCB.out]; exact Nat.le_refl _, fun x hx => hF.bel.block x (by rw [HCB.out]; exact hx),
          ⟨hF.ho, fun i hi _ => hF.row i hi, fun i hi _ => hge i hi, fun i j hi hj _ _ he => hinj i j hi hj he⟩⟩
      have HBC := Lib.hid hF.bel
      clear hF hge hinj
      go_wp2_with fail
      go_loopg [18, 19, 20] (ps.length * m) (fun g ov nov _ wr => SrRel w1 w0 cb ps.length m ps (nearM ps ne ne.length) (hasM ps) kv (.slice NA ps.length nc) (.slice HA ps.length hc) gN gs g ov nov wr)
      case atStart => exact ⟨1, hasM ps, [], _, _, rfl, Going.start _ _ _ _, World.ownsRow_nil _ _ _ _, HC0.out, HBC.out⟩
      case round =>
        clear HC0 HBC
        obtain ⟨no, H, acc, cv, rv, rfl, hgo, hown, hC, hb⟩ := hrel
        have hnm : ps.length * m ≤ 720 := Nat.mul_le_mul hn hm
        have hno : no ≤ 721 := by have := hgo.no_; omega
        have hcl := block_lt hC.cr
        have HR := Lib.hid (round_any cb w0.heap.size ps.length m no (keysOf ps) (nearM ps ne ne.length) H kv (.slice NA ps.length nc) (.slice HA ps.length hc) cv rv gN gs w1 wr hn hm (by omega) hC)
        have HGO := Lib.hid hgo
        have HOW := Lib.hid hown
        have HB := Lib.hid hb
        have HCC := Lib.hid hC
        clear hgo hown hb hC
        go_wp2_with fail
        refine HR.out.mono ?_
        rintro e w5 ⟨v, cv5, rv5, rfl, hv5, hC5, hF5⟩
        have hS5 : ∀ x cur t z, wr.heap[x]? = some (.cells cur t z) → t ≠ 96 → t ≠ 4 → ¬ (x = cb ∨ ∃ i, i < ps.length ∧ x = gs i) := by
          rintro x cur t z hx h1 h2 (rfl | ⟨i, hi, rfl⟩)
          · exact tag_ne hx HCC.out.cr h1 rfl
          · exact tag_ne hx (HCC.out.hs.row i hi hi) h2 rfl
        have hOW5 := hF5.own HOW.out (fun x cur z hx => hS5 x cur _ z hx (by decide) (by decide))
        have hB5 : Below cb w1 w5 := hF5.below HB.out (Nat.le_of_lt hcl) (by
          rintro x (rfl | ⟨i, hi, rfl⟩)
          · exact Nat.le_refl _
          · have := HCC.out.hs.ge i hi hi; omega)
        have hgl := (gifts_ok ps.length m (nearM ps ne ne.length) H).2
        have hacc : acc.length ≤ 9000 := by
          have h1 := HGO.out.len
          have h2 : ps.length * (no - 1) ≤ 12 * 720 := Nat.mul_le_mul hn (by omega)
          omega
        have HDN := Lib.hid (fun h => HGO.out.done h)
        have HNX := Lib.hid (fun h => HGO.out.next h)
        generalize gifts ps.length m (nearM ps ne ne.length) H = gl at *
        clear hS5 hF5 HOW HR HCC HGO HB hcl
        have HC5 := Lib.hid hC5
        have HB5 := Lib.hid hB5
        have HOW5 := Lib.hid hOW5
        have HV5 := Lib.hid hv5
        rcases List.eq_nil_or_concat gl with rfl | ⟨gl', x, e⟩
        · obtain ⟨d1, d2⟩ := HDN.out rfl
          have HD1 := Lib.hid d1
          have HD2 := Lib.hid d2
          obtain ⟨VA, vc, rfl⟩ : ∃ A c, v = .slice A 0 c := by
            rcases hv5.2 with ⟨rfl, _⟩ | ⟨g, cap, cur, rfl, _⟩
            · exact ⟨none, 0, rfl⟩
            · exact ⟨_, cap, rfl⟩
          obtain ⟨_, _, k2, _⟩ := crB_cells hC5.cr
          have HCT := Lib.hid (containsR_any 43 ps.length m hc (cb + 1) HA H gs w5 (by omega) hC5.hs (fun i hi => lacks_one (gs i) m (H i) w5 (by omega) (hC5.hs.row i hi hi)) (fun _ _ => rfl))
          have HBE := Lib.hid (show Below w.heap.size w w5 from HBW.out.trans (hB5.mono (by rw [HCB.out]; exact HBW.out.size)))
          have HOE := Lib.hid (ownsRow_base hOW5 (show w.heap.size ≤ cb + 1 by have := HBW.out.size; have := HCB.out; omega))
          clear d1 d2 hv5 hC5 hB5 hOW5 HDN HNX
          go_wp2_with fail
          refine HCT.out.mono ?_
          rintro e w9 ⟨rfl, rfl⟩
          go_wp2_with fail
          go_ret3
          exact ⟨u18, by simp only [spreadB]; rw [← HD2.out]; simp, by simp only [spreadG]; rw [← HD1.out]; exact HOE.out, HBE.out⟩
        · obtain ⟨hg0, hgn⟩ := HNX.out (by rw [e]; simp)
          have HGN := Lib.hid hgn
          have hpos : 0 < gl.length := by rw [e]; simp
          have hg12 : gl.length ≤ 12 := by omega
          obtain ⟨vg, vc, rfl, hvb, hvl⟩ := hv5.form hpos
          have hpI : ((gl.length : Int) == 0) = false := by rw [beq_eq_false_iff_ne]; omega
          have hncc := own_cells hv5
          have h1 : ∀ u ∈ (noted no gl).flatMap (giC (keysOf ps)), u.oneCell' = true := by
            intro u hu
            obtain ⟨t, _, ht⟩ := List.mem_flatMap.1 hu
            exact List.all_eq_true.1 (show (giC (keysOf ps) t).all (·.oneCell') = true from rfl) u ht
          have hl : ((noted no gl).flatMap (giC (keysOf ps))).length = gl.length * 4 := by rw [flatK_len (enc := giC (keysOf ps)) (k := 4) (fun _ => rfl)]; simp [noted]
          have HNC := Lib.hid hncc
          have H1 := Lib.hid h1
          have HL := Lib.hid hl
          have hcb5 : cb + 1 ≤ w5.heap.size := block_lt hC5.cr
          clear hgn e hv5 hC5 hB5 hncc h1 hl HDN HNX
          go_wp2_with (at_builtin; refine wpList_append_own _ rfl _ _ 52 rfl (cb + 1) 61 i0 _ 4 48 Tryd.underlying52 ii iz0 iz1 iz2 rfl (by decide) _ _ _ rfl hOW5 ⟨vg, 0, none⟩ gl.length vc ((noted no gl).flatMap (giC (keysOf ps))) rfl HL.out HNC.out H1.out (by unfold maxLen; omega) (by omega) hcb5 ?_)
          intro v6 w6 ho6 hg6 _
          have HC6 := Lib.hid (HC5.out.grow (base := cb) HOW5.out hg6 rfl)
          have HB6 := Lib.hid (HB5.out.grown hg6 (by omega) (fun x hx => by have := (own_ge HOW5.out hx).1; omega))
          have HO6 := Lib.hid (show w6.ownsRow (cb + 1) 61 4 v6 (acc ++ noted no gl).length ((acc ++ noted no gl).flatMap (giC (keysOf ps))) by rw [List.flatMap_append, List.length_append]; simpa [noted] using ho6)
          clear ho6 hg6 hOW5
          go_wp2_with fail
          go_roundg (gk - 1)
          case measure => omega
          case rel => exact ⟨no + 1, _, _, _, _, by go_num, HGN.out, HO6.out, HC6.out, HB6.out⟩
end Go.Proofs.YtegalkmfoffpfaaDoor
