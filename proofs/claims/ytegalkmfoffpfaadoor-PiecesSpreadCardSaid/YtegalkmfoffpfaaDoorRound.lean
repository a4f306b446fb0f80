/- sync.crowd.round. -/
import Derived.Test.YtegalkmfoffpfaaDoorCrowdMem
import Derived.Deep.RegionHeld3
namespace Go.Proofs.YtegalkmfoffpfaaDoor
open Go.RowKit Go.Sort
attribute [local go_sem ↓] Go.wp_at_zero Go.wp_at_succ
theorem infoGf : (Tryd.prog.info? 125).map (fun i => (i.zero, i.size, i.bytes)) = some (some (.agg #[.int .i64 0, .int .i64 0]), 2, 16) := by kernel_rfl
theorem infoGi : (Tryd.prog.info? 61).map (fun i => (i.zero, i.size, i.bytes)) = some (some (.agg #[.int .i64 0, .string ⟨#[]⟩, .string ⟨#[]⟩, .int .i64 0]), 4, 48) := by kernel_rfl
def OrRel (w2 : World) (n g : Nat) (o ix : Value) (wr : World) : Prop :=
  ∃ k : Nat, k + g = n ∧ ix = .int .i64 k ∧ wr.ownsRow w2.heap.size 3 1 o k (natV (List.range k)) ∧ Below w2.heap.size w2 wr
/-- While the peers take: what was given so far. -/
def RdRel (w3 : World) (n m no : Nat) (ks : List ByteArray) (N H : Nat → Nat → Bool) (ord : List Nat) (g : Nat) (gv ov ix : Value) (wr : World) : Prop :=
  ∃ k : Nat, k + g = n ∧ ix = .int .i64 k ∧ wr.heap[w3.heap.size]? = some (.cells (rowC n (rdTo n m N H (ord.take k)).1).toArray 4 (0, 0)) ∧
    wr.ownsRow w3.heap.size 125 2 gv (rdTo n m N H (ord.take k)).2.length ((rdTo n m N H (ord.take k)).2.flatMap gfC) ∧
    wr.ownsRow w3.heap.size 61 4 ov (rdTo n m N H (ord.take k)).2.length ((noted no (rdTo n m N H (ord.take k)).2).flatMap (giC ks)) ∧ Below w3.heap.size w3 wr
/-- While the gifts are handed over. -/
def HoRel (w5 : World) (cb n m : Nat) (hv : Value) (H : Nat → Nat → Bool) (gH : Nat → Nat) (gs : List Gift) (g : Nat) (ix : Value) (wr : World) : Prop :=
  ∃ k : Nat, k + g = gs.length ∧ ix = .int .i64 k ∧ Mat wr (cb + 1) hv n m (applyG H (gs.take k)) gH ∧ Fr (fun x => ∃ i, i < n ∧ x = gH i) w5 wr
def RoundGot (w : World) (cb bn n m no : Nat) (ks : List ByteArray) (N H : Nat → Nat → Bool) (kv nv hv : Value) (gN gH : Nat → Nat) (w0 : World) (e : Ending) (w' : World) : Prop :=
  ∃ v cv rv, e = .returned v ∧ w'.ownsRow w.heap.size 61 4 v (gifts n m N H).length ((noted no (gifts n m N H)).flatMap (giC ks)) ∧
    CrowdIs w' cb bn n m ks N (applyG H (gifts n m N H)) kv nv hv cv rv gN gH w0 ∧ Fr (fun x => x = cb ∨ ∃ i, i < n ∧ x = gH i) w w'
set_option maxRecDepth 100000 in
set_option maxHeartbeats 8000000 in
theorem round_any (cb bn n m no : Nat) (ks : List ByteArray) (N H : Nat → Nat → Bool) (kv nv hv cv rv : Value) (gN gH : Nat → Nat) (w0 w : World) (hn : n ≤ 12) (hm : m ≤ 60) (hno : no ≤ 1000000)
    (hC : CrowdIs w cb bn n m ks N H kv nv hv cv rv gN gH w0) :
    Calls Tryd.prog 41 #[.pointer (some ⟨cb, 0, none⟩), .int .i64 no, .int .i64 m] w (RoundGot w cb bn n m no ks N H kv nv hv gN gH w0) := by
  obtain ⟨i0, ii, iz0, iz1, iz2⟩ := info_parts infoI
  obtain ⟨j0, ji, jz0, jz1, jz2⟩ := info_parts infoGf
  obtain ⟨l0, li, lz0, lz1, lz2⟩ := info_parts infoGi
  obtain ⟨KA, kc, rfl⟩ : ∃ A c, kv = .slice A n c := by
    rcases hC.key.2 with ⟨rfl, rfl⟩ | ⟨g, cap, cur, rfl, _⟩
    · exact ⟨none, 0, rfl⟩
    · exact ⟨_, cap, rfl⟩
  obtain ⟨NA, nc, rfl⟩ := hC.nr.form
  obtain ⟨HA, hc, rfl⟩ := hC.hs.form
  have hcl := block_lt hC.cr
  have HC := Lib.hid hC
  have hmk := run_make_row' (P := Tryd.prog) 97 4 (.bool false) 1 Tryd.underlying97 infoB rfl .i64 .i64 n (by omega) (by omega)
  have HB0 := Lib.hid (begin_any cb n m kc hc (cb + 1) KA HA (.slice NA n nc) cv rv H gH (w.alloc (.cells #[.pointer (some ⟨cb, 0, none⟩)] 94)) (by omega) hm ((Below.heap_alloc _ _ _ hcl).trans hC.cr) (hC.hs.below (bfirst w _)))
  clear hC
  go_enter Tryd.func41, Tryd.ntmps41
  go_wp2_with fail
  refine HB0.out.mono ?_
  rintro e w2 ⟨rfl, cg, rg, hB⟩
  have HC2 := Lib.hid (((HC.out.below (bfirst w (.cells #[.pointer (some ⟨cb, 0, none⟩)] 94))).turn (Fr.of_gb hB.gb (fun x hx => by injection hx with hx; exact hx.symm)) hB.cr))
  have hbx : w2.heap[w.heap.size]? = some (.cells #[.pointer (some ⟨cb, 0, none⟩)] 94 (0, 0)) := (hB.gb.block w.heap.size (by simp) (fun e => by injection e with e; omega)).trans (heap_alloc_new w _)
  have HF2 := Lib.hid (((Fr.refl (fun x => x = cb ∨ ∃ i, i < n ∧ x = gH i) w).alloc (.cells #[.pointer (some ⟨cb, 0, none⟩)] 94)).trans (Fr.of_gb hB.gb (fun x hx => by injection hx with hx; exact Or.inl hx.symm)))
  have HCI := Lib.hid hB.ci
  have HRI := Lib.hid hB.ri
  have hsw : w.heap.size ≤ w2.heap.size := HF2.out.size
  have HBX := Lib.hid hbx
  have b0 : w2.cell? ⟨w.heap.size, 0, none⟩ = some (.pointer (some ⟨cb, 0, none⟩)) := by simp [World.cell?, hbx]
  obtain ⟨k0, _⟩ := crB_cells hB.cr
  clear hbx hB HB0
  generalize hbb : w.heap.size = bx at *
  have HBB := Lib.hid hbb
  clear hbb
  go_wp2_with fail
  clear b0 k0
  go_loopg [26, 7, 8] n (fun g ix o _ wr => OrRel w2 n g o ix wr)
  case atStart => exact ⟨0, by omega, rfl, World.ownsRow_nil _ _ _ _, Below.refl _ _⟩
  case round =>
    obtain ⟨k, hk, rfl, ho, hb⟩ := hrel
    have hbz := hb.size
    by_cases hg : gk = 0
    rotate_left
    · have hlt : k < n := by omega
      have hltI : (k : Int) < (n : Int) := by omega
      have HK := Lib.hid hk
      have hgk : gk ≠ 0 := hg
      clear hk hg
      go_wp2_with (at_builtin; refine wpList_push (W := w2) (lo := w2.heap.size) rfl _ _ 22 rfl 3 i0 _ 1 8 Tryd.underlying22 ii iz0 iz1 iz2 rfl (by decide) (by decide) _ _ _ rfl hb hbz ho [.int .i64 k] rfl rfl rfl rfl (by omega) ?_)
      intro v5 w5 ho5 hb5 _ _
      have HO5 := Lib.hid (show w5.ownsRow w2.heap.size 3 1 v5 (k + 1) (natV (List.range (k + 1))) by rw [List.range_succ, natV, List.map_append]; exact ho5)
      clear ho5 ho hb
      go_wp2_with fail
      go_roundg (gk - 1)
      case measure => omega
      case rel => exact ⟨k + 1, by have := HK.out; omega, by go_num, HO5.out, hb5⟩
    · obtain rfl : n = k := by omega
      clear hk hg
      have HS := Lib.hid (sortInt_own 66 #[.pointer (some ⟨bx, 0, none⟩)] (cnF m H) (fun _ _ => rfl) u7 w2.heap.size n wr hn ho (fun g hg W hW a b ha hb' => by
        have hgl := (ho.lt g hg).1
        have hold : ∀ x o, w2.heap[x]? = some o → W.heap[x]? = some o := fun x o hx => (hW.block x (by have := block_lt hx; omega) (fun e => by injection e with e; have := block_lt hx; omega)).trans ((hb.block x (block_lt hx)).trans hx)
        obtain ⟨_, _, _, k3, _⟩ := crB_cells (hold _ _ HC2.out.cr)
        have e0 : W.cell? ⟨bx, 0, none⟩ = some (.pointer (some ⟨cb, 0, none⟩)) := by simp [World.cell?, hold _ _ HBX.out]
        exact round1_any bx cb cg n a b (cnF m H) W e0 k3 (fun j hj => (rowI_cell (hold _ _ HCI.out) hj).1) ha hb' (by omega)))
      have HOW := Lib.hid ho
      obtain ⟨OA, oc, rfl⟩ : ∃ A c, u7 = .slice A n c := by
        rcases ho.2 with ⟨rfl, rfl⟩ | ⟨g, cap, cur, rfl, _⟩
        · exact ⟨none, 0, rfl⟩
        · exact ⟨_, cap, rfl⟩
      clear ho
      go_wp2_with fail
      refine HS.out.mono ?_
      rintro e w3 ⟨rfl, ho3, hg3⟩
      have hb3 : Below w2.heap.size w2 w3 := hb.grown hg3 hbz (fun x hx => (HOW.out.lt x hx).1)
      have HO3 := Lib.hid ho3
      have HB3 := Lib.hid hb3
      have hold3 : ∀ x o, w2.heap[x]? = some o → w3.heap[x]? = some o := fun x o hx => (hb3.block x (block_lt hx)).trans hx
      have b0 : w3.cell? ⟨bx, 0, none⟩ = some (.pointer (some ⟨cb, 0, none⟩)) := by simp [World.cell?, hold3 _ _ HBX.out]
      obtain ⟨k0, _⟩ := crB_cells (hold3 _ _ HC2.out.cr)
      have HBX3 := Lib.hid (hold3 _ _ HBX.out)
      have HCI3 := Lib.hid (hold3 _ _ HCI.out)
      have HRI3 := Lib.hid (hold3 _ _ HRI.out)
      have HC3 := Lib.hid (HC2.out.below hb3)
      have HF3 := Lib.hid (HF2.out.trans (Fr.of_below hb3 _))
      have hsw3 : bx ≤ w3.heap.size := by have := hb3.size; omega
      have HN2 := Lib.hid hb3.size
      clear hold3 ho3 hg3 hb hb3 hbz HS HOW HC2 HF2 HCI HRI HBX hsw
      go_wp2_with fail
      have HG4 := Lib.hid (show (w3.alloc (.cells (madeCells #[.bool false] n) 4)).heap[w3.heap.size]? = some (.cells (rowC n (fun _ => false)).toArray 4 (0, 0)) by rw [rowC_false]; exact heap_alloc_new w3 _)
      have hb4 := bfirst w3 (.cells (madeCells #[.bool false] n) 4)
      generalize w3.alloc (.cells (madeCells #[.bool false] n) 4) = w4 at *
      clear b0 k0 hmk HB3
      obtain ⟨gg, hgg⟩ : ∃ gg, gg = w3.heap.size := ⟨_, rfl⟩
      rw [← hgg]
      have HGG := Lib.hid hgg
      clear hgg
      have HOL := Lib.hid (ordF_len n (cnF m H))
      have HOT := Lib.hid (ordF_lt n (cnF m H))
      generalize hord : ordF n (cnF m H) = ord at *
      have HORD := Lib.hid hord
      clear hord
      obtain ⟨wq, rfl⟩ : ∃ wq : World, wq = wr := ⟨_, rfl⟩
      go_loopg [45, 10, 11, 13, 14, 15] n (fun g ix gv ov _ _ _ wr => RdRel w3 n m no ks N H ord g gv ov ix wr)
      case atStart => exact ⟨0, by omega, rfl, HG4.out, World.ownsRow_nil _ _ _ _, World.ownsRow_nil _ _ _ _, hb4⟩
      case round =>
        clear hb4 HG4
        obtain ⟨k, hk, rfl, hG, hO1, hO2, hb⟩ := hrel
        have hbz := hb.size
        have hold : ∀ x o, w3.heap[x]? = some o → wr.heap[x]? = some o := fun x o hx => (hb.block x (block_lt hx)).trans hx
        by_cases hg : gk = 0
        · obtain rfl : n = k := by omega
          clear hk hg
          have hL : ord.take n = ord := List.take_of_length_le (by have := HOL.out; omega)
          rw [hL] at hO1 hO2 hG
          have HGS := Lib.hid (show gifts n m N H = (rdTo n m N H ord).2 by rw [gifts, HORD.out])
          have hgok := (rdTo_ok n m N H ord HOT.out).1
          have hgl := (rdTo_ok n m N H ord HOT.out).2
          have hol := HOL.out
          generalize (rdTo n m N H ord).2 = gs at *
          have hgl12 : gs.length ≤ 12 := by omega
          obtain ⟨GA, gc, rfl⟩ : ∃ A c, u10 = .slice A gs.length c := by
            rcases hO1.2 with ⟨rfl, h0⟩ | ⟨g, cap, cur, rfl, _⟩
            · exact ⟨none, 0, by rw [h0]⟩
            · exact ⟨_, cap, rfl⟩
          have H1 := Lib.hid hO1
          have H2 := Lib.hid hO2
          have HOK := Lib.hid hgok
          have HC5 := Lib.hid (HC3.out.below hb)
          have HF5 := Lib.hid (HF3.out.trans (Fr.of_below hb _))
          have HBX5 := Lib.hid (hold _ _ HBX3.out)
          have hS5 : ∀ x cur t z, wr.heap[x]? = some (.cells cur t z) → t ≠ 4 → ¬ ∃ i, i < n ∧ x = gH i := by
            rintro x cur t z hx ht ⟨i, hi, rfl⟩
            exact tag_ne hx (HC5.out.hs.row i hi hi) ht rfl
          have HS5 := Lib.hid hS5
          have HSZ := Lib.hid (show bx ≤ w3.heap.size from hsw3)
          clear hO1 hO2 hgok hL hG hold hb HORD HOT HOL hgl hol hS5 HC3 HF3 HBX3 HCI3 HRI3 HO3 hbz
          go_wp2_with fail
          obtain ⟨w5, rfl⟩ : ∃ w5 : World, w5 = wr := ⟨_, rfl⟩
          go_loopg [90, 17] gs.length (fun g ix _ wx => HoRel w5 cb n m (.slice HA n hc) H gH gs g ix wx)
          case atStart => exact ⟨0, by omega, rfl, HC5.out.hs, Fr.refl _ _⟩
          case round =>
            obtain ⟨k, hk, rfl, hM, hF⟩ := hrel
            by_cases hg : gk = 0
            · obtain rfl : k = gs.length := by omega
              rw [List.take_length] at hM
              have HCF := Lib.hid (HC5.out.hand hF hM)
              have HOF := Lib.hid (ownsRow_base (hF.own H2.out (fun x cur z hx => HS5.out _ _ _ _ hx (by decide))) hsw3)
              have HFF := Lib.hid (HF5.out.trans (hF.mono (fun x hx => Or.inr hx)))
              clear hk hg hM hF
              go_wp2_with fail
              go_ret
              exact ⟨_, _, _, rfl, by rw [HGS.out, HBB.out]; exact HOF.out, by rw [HGS.out]; exact HCF.out, HFF.out⟩
            · have hlt : k < gs.length := by omega
              have hltI : (k : Int) < (gs.length : Int) := by omega
              have HAP := Lib.hid (applyG_succ H gs hlt)
              have hok := HOK.out _ (List.getElem_mem hlt)
              have hGo := hF.own H1.out (fun x cur z hx => HS5.out _ _ _ _ hx (by decide))
              have x0 := flatK_at (enc := gfC) (k := 2) (fun _ => rfl) gs k 0 hlt (by omega)
              have x1 := flatK_at (enc := gfC) (k := 2) (fun _ => rfl) gs k 1 hlt (by omega)
              have HK := Lib.hid hk
              have hgk : gk ≠ 0 := hg
              have b0 : wr.cell? ⟨bx, 0, none⟩ = some (.pointer (some ⟨cb, 0, none⟩)) := by simp [World.cell?, hF.blk HBX5.out (HS5.out _ _ _ _ HBX5.out (by decide))]
              have k2 := (crB_cells (hF.blk HC5.out.cr (HS5.out _ _ _ _ HC5.out.cr (by decide)))).2.2.1
              clear hk hg
              generalize gs[k] = x at *
              obtain ⟨tt, fr, p⟩ := x
              obtain ⟨hto, _, hpm, _⟩ := hok
              simp only at hto hpm HAP
              simp only [gfC] at x0 x1
              obtain ⟨g2, rfl, y0⟩ := own_atK hGo x0
              obtain ⟨g3, ek, y1⟩ := own_atK hGo x1
              simp only [Option.some.injEq, Addr.mk.injEq] at ek
              obtain ⟨rfl, _, _⟩ := ek
              rw [Nat.add_zero] at y0
              have hbA := bfirst wr (.cells #[.int .i64 (tt : Nat), .int .i64 (p : Nat)] 125)
              have hM2 := hM.below hbA
              have HF2 := Lib.hid (hF.alloc (.cells #[.int .i64 (tt : Nat), .int .i64 (p : Nat)] 125))
              have b2 := bold hbA b0
              have k3 := bold hbA k2
              have n0 := cell_new_list wr #[.int .i64 (tt : Nat), .int .i64 (p : Nat)] 125 0 _ rfl
              have n1 := cell_new_list wr #[.int .i64 (tt : Nat), .int .i64 (p : Nat)] 125 1 _ rfl
              have hn1 : gH tt ≠ bx := fun e => tag_ne HBX5.out (HC5.out.hs.row tt hto hto) (by decide) e.symm
              have hn2 : gH tt ≠ cb := by have := hM.ge tt hto hto; omega
              have hn3 : gH tt ≠ wr.heap.size := by have := block_lt (hM.row tt hto hto); omega
              have htoI : (tt : Int) < (n : Int) := by omega
              have hpI : (p : Int) < (m : Int) := by omega
              go_upto_region 24 with fail
              clear x0 x1 y0 y1 hGo b0 k2 hM hF hbA
              generalize wr.alloc (.cells #[.int .i64 (tt : Nat), .int .i64 (p : Nat)] 125) = w7 at *
              generalize wr.heap.size = pb at *
              obtain ⟨ob, rfl, _, ol, q1, q2, q3, a1, a2, a3⟩ := hM2.at_ (i := tt) (j := p) hto hto
              have a4 := a2 hpm
              unfold slc at a1
              have HMF := Lib.hid (show Mat (w7.setCell ⟨gH tt, p, none⟩ (.bool true)) (cb + 1) (.slice (some ⟨ob, 0, none⟩) n hc) n m (applyG H (gs.take (k + 1))) gH by rw [HAP.out]; exact hM2.set hto hto)
              have HFF := Lib.hid (HF2.out.set (p := ⟨gH tt, p, none⟩) ⟨tt, hto, rfl⟩ (.bool true))
              clear a2 hM2 HF2 HAP
              go_region_held3 (fun w' => w'.cell? ⟨bx, 0, none⟩ = some (.pointer (some ⟨cb, 0, none⟩)) ∧ w'.cell? ⟨cb, 2, none⟩ = some (.slice (some ⟨ob, 0, none⟩) n hc) ∧ w'.cell? ⟨pb, 0, none⟩ = some (.int .i64 (tt : Nat)) ∧ w'.cell? ⟨pb, 1, none⟩ = some (.int .i64 (p : Nat)) ∧ w'.cell? ⟨ob, tt, none⟩ = some (.slice (some ⟨gH tt, 0, none⟩) m m)) (go_keep) (fail)
              go_wp2_with fail
              go_roundg (gk - 1)
              case measure => omega
              case rel => exact ⟨k + 1, by have := HK.out; omega, by go_num, HMF.out.drew, HFF.out.drewN 1⟩
        · have hlt : k < n := by omega
          have hltI : (k : Int) < (n : Int) := by omega
          have hlo : k < ord.length := by have := HOL.out; omega
          have HST := Lib.hid (rdTo_succ n m N H ord hlo)
          have hrd := rdTo_ok n m N H (ord.take k) (fun x hx => HOT.out x (List.mem_of_mem_take hx))
          have hlen : (rdTo n m N H (ord.take k)).2.length ≤ 12 := by have := hrd.2; rw [List.length_take] at this; omega
          have hi : ord[k] < n := HOT.out _ (List.getElem_mem hlo)
          have hco := own_at1 (HO3.out) (natV_at hlo)
          obtain ⟨og, rfl, hc3⟩ := hco
          have hoc : wr.cell? ⟨og, k, none⟩ = some (.int .i64 (ord[k] : Nat)) := bold hb hc3
          have b0 : wr.cell? ⟨bx, 0, none⟩ = some (.pointer (some ⟨cb, 0, none⟩)) := by simp [World.cell?, hold _ _ HBX3.out]
          have HCR := Lib.hid (HC3.out.below hb)
          obtain ⟨k0, k1, k2, k3, k4, _⟩ := crB_cells HCR.out.cr
          unfold slc at k3 k4
          have HTK := Lib.hid (takes_any cb n m ord[k] kc gg cg 0 n rg 0 m KA NA HA nc hc bn N H gN gH (cnF m H) (raF n H) (rdTo n m N H (ord.take k)).1 wr (by omega) hm hi k0 k1 k2 k3 k4 HCR.out.matN HCR.out.matH (fun j hj => by rw [Nat.zero_add]; exact (rowI_cell (hold _ _ HCI3.out) hj).1) (fun j hj => by rw [Nat.zero_add]; exact (rowI_cell (hold _ _ HRI3.out) hj).1) (by rw [HGG.out]; exact hG))
          have HSP := Lib.hid (takeTo_spec n N H (cnF m H) (raF n H) (rdTo n m N H (ord.take k)).1 ord[k] m)
          have HK := Lib.hid hk
          have hgk : gk ≠ 0 := hg
          clear hk hg hc3 hrd
          rw [stepR] at HST
          generalize ord[k] = i at *
          generalize rdTo n m N H (ord.take k) = s at *
          generalize takeTo n N H (cnF m H) (raF n H) s.1 i m = T at *
          obtain ⟨gave, gl⟩ := s
          obtain ⟨T1, T2⟩ := T
          simp only at HST HTK HSP hG hO1 hO2 hlen
          rcases Int.lt_or_le T1 0 with e5 | e5
          · have HS := Lib.hid (show rdTo n m N H (ord.take (k + 1)) = (gave, gl) by rw [HST.out, if_neg (by omega)])
            have HG := Lib.hid hG
            have H1 := Lib.hid hO1
            have H2 := Lib.hid hO2
            have e6 : ¬ 0 ≤ T1 := by omega
            clear HST hG hO1 hO2 HSP k0 k1 k2 k3 k4
            go_wp2_with fail
            refine HTK.out.mono ?_
            rintro e wt ⟨rfl, q, rfl⟩
            go_wp2_with fail
            go_roundg (gk - 1)
            case measure => omega
            case rel => exact ⟨k + 1, by have := HK.out; omega, by go_num, by rw [HS.out]; exact HG.out, by rw [HS.out]; exact H1.out, by rw [HS.out]; exact H2.out, below_drewN hb q⟩
          · obtain ⟨_, hp1, hf0, hf1⟩ := HSP.out e5
            obtain ⟨p, rfl⟩ := Int.eq_ofNat_of_zero_le e5
            obtain ⟨fr, rfl⟩ := Int.eq_ofNat_of_zero_le hf0
            rw [if_pos e5] at HST
            simp only [Int.toNat_natCast] at HST
            have HS := HST
            clear HST HSP
            have hfn : fr < n := by omega
            have gc := row_cell hG hfn
            have gz := row_fz (j := fr) hG
            have hggl := block_lt hG
            have HG := Lib.hid hG
            have H1 := Lib.hid hO1
            have H2 := Lib.hid hO2
            rw [← HGG.out] at gc gz hggl
            clear hG hO1 hO2 k1 k2 k3 k4
            go_wp2_with fail
            refine HTK.out.mono ?_
            rintro e wt ⟨rfl, q, rfl⟩
            have hG0 : (wr.drewN q).heap[gg]? = some (.cells (rowC n gave).toArray 4 (0, 0)) := by rw [HGG.out]; exact HG.out
            have HG5 := Lib.hid (row_set (j := fr) hG0)
            have hb5 : Below w3.heap.size w3 ((wr.drewN q).setCell ⟨gg, fr, none⟩ (.bool true)) := (below_drewN hb q).setCell (p := ⟨gg, fr, none⟩) (by show w3.heap.size ≤ gg; rw [HGG.out]; exact Nat.le_refl _) _
            have o15 := own_set (w := wr.drewN q) (j := fr) (u := .bool true) H1.out hG0 (by decide)
            have O25 := Lib.hid (own_set (w := wr.drewN q) (j := fr) (u := .bool true) H2.out hG0 (by decide))
            have hbz5 := hb5.size
            have hsz5 : ((wr.drewN q).setCell ⟨gg, fr, none⟩ (.bool true)).heap.size = wr.heap.size := by simp [World.setCell, World.drewN]
            clear hG0
            go_wp2_with (at_builtin; refine wpList_push (W := w3) (lo := w3.heap.size) rfl _ _ 122 rfl 125 j0 _ 2 16 Tryd.underlying122 ji jz0 jz1 jz2 rfl (by decide) (by decide) _ _ _ rfl hb5 hbz5 o15 [.int .i64 i, .int .i64 p] rfl (by show Value.slice (some ⟨wr.heap.size, 0, none⟩) 1 1 = _; rw [hsz5]) rfl rfl (by omega) ?_)
            intro v6 w6 o16 hb6 hz6 hg6
            have O16 := Lib.hid o16
            have O26 := Lib.hid (own_other O25.out o15 hg6 (by decide))
            have HG6 := Lib.hid ((Fr.of_gb (S := fun x => u10.ownBlock = some x) hg6 (fun x hx => hx)).blk HG5.out (fun hS => by obtain ⟨c, h2⟩ := own_tag o15 hS; exact tag_ne HG5.out h2 (by decide) rfl))
            have HB6 := Lib.hid hb6
            have hold6 : ∀ x o, w3.heap[x]? = some o → w6.heap[x]? = some o := fun x o hx => (hb6.block x (block_lt hx)).trans hx
            have b6 : w6.cell? ⟨bx, 0, none⟩ = some (.pointer (some ⟨cb, 0, none⟩)) := by simp [World.cell?, hold6 _ _ HBX3.out]
            have hC6 := HC3.out.below hb6
            have c6 := (crB_cells hC6.cr).1
            obtain ⟨kg, rfl, y1⟩ := own_at1 hC6.key (ksAt_eq ks (i := fr) (by rw [hC6.len]; exact hfn))
            obtain ⟨kg2, ek, y2⟩ := own_at1 hC6.key (ksAt_eq ks (i := i) (by rw [hC6.len]; exact hi))
            simp only [Option.some.injEq, Addr.mk.injEq] at ek
            obtain ⟨rfl, _, _⟩ := ek
            have hz3 : w3.heap.size ≤ w6.heap.size := hb6.size
            have HCC := Lib.hid hC6
            have hfnI : (fr : Int) < (n : Int) := by omega
            have hinI : (i : Int) < (n : Int) := by omega
            have HNT := Lib.hid (show (noted no (gl ++ [(i, fr, p)])).flatMap (giC ks) = (noted no gl).flatMap (giC ks) ++ [.int .i64 no, .string (ksAt ks fr), .string (ksAt ks i), .int .i64 p] by simp [noted, giC])
            clear hC6 hold6 hb6 hg6 o16 o15 hb5 hbz5 O25 HG5 H1 H2 HG hz6 hb hold b0 k0 hoc gc gz hggl HTK hbz HCR
            generalize ksAt ks fr = kf at *
            generalize ksAt ks i = ki at *
            go_upto_region 19 with fail
            go_region_law ((refine step_push (w0 := w6.drew) (by rfl) _ _ _ (by rfl) w3.heap.size 61 l0 _ 4 48 Tryd.underlying52 li lz0 lz1 lz2 rfl (by omega) (by decide) u11 gl.length _ (by rfl) O26.out [.int .i64 no, .string kf, .string ki, .int .i64 p] (by rfl) (by rfl) (by rfl) (by omega) (by exact hz3) ?_; intro v7 w7 o27 hg7 hz7))
            all_goals
              have O27 := Lib.hid o27
              have O17 := Lib.hid (own_other (w := w6.drew) O16.out O26.out hg7 (by decide))
              have HG7 := Lib.hid ((Fr.of_gb (S := fun x => u11.ownBlock = some x) hg7 (fun x hx => hx)).blk (x := gg) HG6.out (fun hS => by obtain ⟨c, h2⟩ := own_tag O26.out hS; exact tag_ne HG6.out h2 (by decide) rfl))
              have HB7 := Lib.hid (show Below w3.heap.size w3 w7 from (below_drewN HB6.out 1).grown hg7 (by exact hz3) (fun x hx => (O26.out.lt x hx).1))
              clear o27 hg7
              go_wp2_with fail
              go_roundg (gk - 1)
              case measure => omega
              case rel => exact ⟨k + 1, by have := HK.out; omega, by go_num, by rw [HS.out, ← HGG.out]; exact HG7.out, by rw [HS.out]; simpa [gfC] using O17.out, by rw [HS.out]; simp only [List.length_append, List.length_singleton]; rw [HNT.out]; exact O27.out, HB7.out⟩
end Go.Proofs.YtegalkmfoffpfaaDoor
