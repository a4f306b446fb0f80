/- RootOf; Proof, ProofOf. -/
import Derived.Test.YtegalkmfoffpfaaGreatDoorTwigs
import Derived.Test.YtegalkmfoffpfaaGreatDoorSearch
namespace Go.Proofs.YtegalkmfoffpfaaGreatDoor
open Go.RowKit
attribute [local go_sem ↓] Go.wp_at_zero Go.wp_at_succ

theorem infoTwig : (Tryz.prog.info? 46).map (fun i => (i.zero, i.size, i.bytes)) = some (some (.agg #[.bool false, .string ⟨#[]⟩]), 2, 24) := by kernel_rfl
set_option maxRecDepth 100000 in
set_option maxHeartbeats 1000000 in
theorem rootOf_any (no : Int) (A : Option Addr) (lo c : Nat) (fs : List FileD) (w : World) (ht : Tab w) (hf : FilesAt w lo (.slice A fs.length c) fs) (hsh : ∀ f ∈ fs, Short f) (hn : fs.length ≤ 300) :
    Calls Tryz.prog 11 #[.agg #[.int .i64 no, .slice A fs.length c]] w fun e w' => e = .returned (.string (rootS (leavesS fs))) ∧ Below w.heap.size w w' := by
  have HT := Lib.hid ht
  have HF := Lib.hid hf
  have HS := Lib.hid hsh
  clear ht hf hsh
  go_enter Tryz.func11, Tryz.ntmps11
  go_wp2_with fail
  have hb0 := bfirst w (.cells #[.int .i64 no, .slice A fs.length c] 28)
  refine (levels_any no A lo c fs _ (HT.out.below hb0) (HF.out.below hb0) HS.out hn).mono ?_
  rintro e w1 ⟨j, v, vs, rfl, hcl, htop, hown, hrows, hb1⟩
  have hb2 := bon hb0 hb1
  obtain ⟨B, m, d, rfl⟩ := own_form hown
  obtain rfl : m = j + 1 := own_len hown
  obtain ⟨g, o, u, rfl, _, hgl, hu, hc⟩ := (Lst.of_own hown).at_ (k := j) (by omega)
  obtain ⟨u', hu', hrow⟩ := hrows.2 j (Nat.le_refl _)
  obtain rfl : u = u' := by rw [hu] at hu'; exact Option.some.inj hu'
  obtain ⟨B2, m2, d2, rfl⟩ := own_form hrow
  obtain rfl : m2 = (climb j (leavesS fs)).length := own_len hrow
  have hlen := hcl.len
  have hll : (leavesS fs).length = fs.length := by simp [leavesS]
  have hj9 : j ≤ 300 := by omega
  have HP := Lib.hid hcl.pos
  have HTR := Lib.hid (HT.out.below hb2)
  have hn0 : (0 : Int) ≤ ((j + 1 : Nat) : Int) - 1 := by omega
  have htn : (((j + 1 : Nat) : Int) - 1).toNat = j := by omega
  have hn1 : ((j + 1 : Nat) : Int) - 1 < ((j + 1 : Nat) : Int) := by omega
  rcases Nat.eq_zero_or_pos (climb j (leavesS fs)).length with h0 | h0
  · have HE := Lib.hid (show rootS (leavesS fs) = sumS ⟨#[]⟩ by
      have : leavesS fs = [] := by
        rcases Classical.em (leavesS fs = []) with h | h
        · exact h
        · have := HP.out h; omega
      rw [this, rootS_nil])
    rw [h0] at hc
    clear hrow hrows hown hu hu' hlen htop h0 hcl
    go_wp2_with fail
    refine (rsum_any ⟨#[]⟩ (by decide) _ HTR.out).mono ?_
    rintro e w3 ⟨rfl, hb3⟩
    go_wp2_with fail
    go_ret
    exact ⟨by rw [HE.out]; rfl, bon hb2 hb3⟩
  · obtain ⟨a, ha⟩ : ∃ a, climb j (leavesS fs) = [a] := List.length_eq_one_iff.1 (by omega)
    have HE := Lib.hid (rootS_top (l := leavesS fs) (j := j) (by omega) ha)
    obtain ⟨g2, o2, u2, rfl, _, _, hu2, hc2⟩ := (Lst.of_own hrow).at_ (k := 0) h0
    obtain rfl : u2 = .string a := by rw [ha] at hu2; simpa [stC] using hu2.symm
    rw [show (climb j (leavesS fs)).length = 1 by omega] at hc
    rw [Nat.add_zero] at hc2
    clear hrow hrows hown hu hu' hlen htop h0 hcl hu2 ha
    go_wp2_with fail
    go_ret
    exact ⟨by rw [HE.out]; rfl, hb2⟩

/-! ### Proof -/
def proofF (no : Int) (fs : List FileD) (key : ByteArray) : Int := if manF no fs = 0 then (if keyB key then (if 0 ≤ keyAt key fs then 0 else 8) else 5) else manF no fs
theorem manF_files {no : Int} {fs : List FileD} (h : manF no fs = 0) : filesF fs = 0 := by
  unfold manF at h
  split at h
  · omega
  · exact h
theorem keyAt_lt (key : ByteArray) (fs : List FileD) : keyAt key fs < fs.length ∧ -1 ≤ keyAt key fs := by
  unfold keyAt idxI
  split
  · rename_i i h
    have := List.mem_of_find?_eq_some h
    simp at this; omega
  · omega
theorem keyAt_nat {key : ByteArray} {fs : List FileD} (h : 0 ≤ keyAt key fs) : ∃ k : Nat, keyAt key fs = k ∧ k < fs.length := by
  obtain ⟨k, hk⟩ := Int.eq_ofNat_of_zero_le h
  have := keyAt_lt key fs
  exact ⟨k, hk, by omega⟩
def PrRel (l : List ByteArray) (k : Nat) (w : World) (g : Nat) (s10 s9 s7 : Value) (wr : World) : Prop :=
  ∃ (j q : Nat) (cur : List ByteArray), cur = climb j l ∧ Climbs l j ∧ q = k / 2 ^ j ∧ s7 = .int .i64 q ∧ cur.length ≤ g + 1 ∧ wr.ownsRow w.heap.size 9 1 s10 cur.length (stC cur) ∧
    wr.ownsRow w.heap.size 46 2 s9 (twTo l k j).length ((twTo l k j).flatMap twC) ∧ Below w.heap.size w wr
def GotProof (l : List ByteArray) (k : Nat) (x : Value) (w : World) (e : Ending) (w' : World) : Prop :=
  ∃ (j : Nat) (v : Value), Climbs l j ∧ (climb j l).length ≤ 1 ∧ e = .returned (.tuple #[v, x]) ∧ w'.ownsRow w.heap.size 46 2 v (twTo l k j).length ((twTo l k j).flatMap twC) ∧ Below w.heap.size w w'
theorem twAt_odd {row : List ByteArray} {q : Nat} (h : q % 2 = 1) (hq : q < row.length) : twAt row q = [(true, row[q - 1])] := by
  rw [twAt, if_pos h, getD_at _ _ (by omega : q - 1 < row.length)]
theorem twAt_even {row : List ByteArray} {q : Nat} (h : ¬ q % 2 = 1) (hq : q + 1 < row.length) : twAt row q = [(false, row[q + 1])] := by
  rw [twAt, if_neg h, if_pos hq, getD_at _ _ hq]
theorem twAt_none {row : List ByteArray} {q : Nat} (h : ¬ q % 2 = 1) (hq : ¬ q + 1 < row.length) : twAt row q = [] := by
  rw [twAt, if_neg h, if_neg hq]
theorem stC_at {w : World} {lo n c k : Nat} {A : Option Addr} {ss : List ByteArray} (h : Lst w lo 1 (.slice A n c) (stC ss)) (hn : n = ss.length) (hk : k < ss.length) :
    ∃ g o, A = some ⟨g, o, none⟩ ∧ g < w.heap.size ∧ w.cell? ⟨g, o + k, none⟩ = some (.string ss[k]) := by
  obtain ⟨g, o, u, rfl, _, hgl, hu, hc⟩ := h.at_ (k := k) (by omega)
  obtain rfl : u = .string ss[k] := by
    rw [stC, List.getElem?_map, List.getElem?_eq_getElem hk] at hu
    simpa using hu.symm
  exact ⟨g, o, rfl, hgl, hc⟩

set_option maxRecDepth 100000 in
set_option maxHeartbeats 1000000 in
theorem proof_no (no : Int) (A : Option Addr) (lo c : Nat) (fs : List FileD) (key : ByteArray) (w : World) (hf : FilesAt w lo (.slice A fs.length c) fs) (hok : FilesOk fs) (hn : fs.length ≤ 300) (hk : key.size ≤ 1000) (h : (proofF no fs key != 0) = true) :
    Calls Tryz.prog 12 #[.agg #[.int .i64 no, .slice A fs.length c], .string key] w fun e w' => e = .returned (.tuple #[.slice none 0 0, .int .i64 (proofF no fs key)]) ∧ Below w.heap.size w w' := by
  have HF := Lib.hid hf
  have HO := Lib.hid hok
  have H := Lib.hid h
  clear hf hok h
  go_enter Tryz.func12, Tryz.ntmps12
  go_wp2_with fail
  have hb0 := bfirst w (.cells #[.int .i64 no, .slice A fs.length c] 28)
  refine (checkManifest_any no A lo c fs _ (HF.out.below hb0) HO.out hn).mono ?_
  rintro e w1 ⟨rfl, hb1⟩
  have hb2 := bon hb0 hb1
  have c0 := bboxed hb1 0 _ rfl
  have c1 := bboxed hb1 1 _ rfl
  have hl := blt hb1
  clear hb0 hb1
  by_cases hm : manF no fs = 0
  · have HM := Lib.hid hm
    rw [hm]
    clear hm
    go_wp2_with fail
    refine (isKey_b key (by omega) _).mono ?_
    rintro e w2 ⟨rfl, hb3⟩
    have hb4 := bon hb2 hb3
    have d0 := bold hb3 c0
    have d1 := bold hb3 c1
    have hl2 : w.heap.size < w2.heap.size := World.block_lt_of_cell? w2 _ d0
    clear hb3 hb2 c0 c1 hl
    rcases Bool.eq_false_or_eq_true (keyB key) with hkb | hkb
    · have HV := Lib.hid (show proofF no fs key = if 0 ≤ keyAt key fs then 0 else 8 by rw [proofF, if_pos HM.out, hkb]; rfl)
      have hlt : ¬ (0 ≤ keyAt key fs) := fun h => by
        have := H.out
        rw [HV.out, if_pos h] at this; simp at this
      have HV2 := Lib.hid (show proofF no fs key = 8 by rw [HV.out, if_neg hlt])
      have HLT := Lib.hid (decide_eq_false hlt)
      rw [hkb]
      clear hkb HV hlt
      go_wp2_with fail
      refine (fileAt_any A lo c fs key _ (HF.out.below hb4) hn (manF_files HM.out)).mono ?_
      rintro e w3 ⟨i, rfl, _, hb5⟩
      rw [HLT.out]
      go_wp2_with fail
      go_ret2
      exact ⟨by rw [HV2.out]; rfl, bon hb4 hb5⟩
    · have HV := Lib.hid (show proofF no fs key = 5 by rw [proofF, if_pos HM.out, hkb]; rfl)
      rw [hkb]
      go_wp2_with fail
      go_ret2
      exact ⟨by rw [HV.out]; rfl, hb4⟩
  · have HV := Lib.hid (show proofF no fs key = manF no fs by rw [proofF, if_neg hm])
    have hm' : (manF no fs != 0) = true := bne_iff_ne.2 hm
    clear hm
    go_wp2_with fail
    go_ret2
    exact ⟨by rw [HV.out]; rfl, hb2⟩

set_option maxRecDepth 100000 in
set_option maxHeartbeats 4000000 in
theorem proof_any (no : Int) (A : Option Addr) (lo c k : Nat) (fs : List FileD) (key : ByteArray) (w : World) (ht : Tab w) (hf : FilesAt w lo (.slice A fs.length c) fs) (hok : FilesOk fs) (hsh : ∀ f ∈ fs, Short f) (hn : fs.length ≤ 300) (hks : key.size ≤ 1000)
    (hm : manF no fs = 0) (hkb : keyB key = true) (hka : keyAt key fs = k) :
    Calls Tryz.prog 12 #[.agg #[.int .i64 no, .slice A fs.length c], .string key] w (GotProof (leavesS fs) k (.int .i64 0) w) := by
  have HF := Lib.hid hf
  have HO := Lib.hid hok
  have HM := Lib.hid hm
  have HKB := Lib.hid hkb
  have HKA := Lib.hid hka
  have HT := Lib.hid ht
  have HS := Lib.hid hsh
  have hll : (leavesS fs).length = fs.length := by simp [leavesS]
  have hkl : k < (leavesS fs).length := by have := (keyAt_lt key fs).1; omega
  have h16 := leaves_16 fs
  clear hf hok hm hkb hka ht hsh
  obtain ⟨i0, hi, hz0, hz1, hz2⟩ := info_parts infoTwig
  go_enter Tryz.func12, Tryz.ntmps12
  go_wp2_with fail
  have hb0 := bfirst w (.cells #[.int .i64 no, .slice A fs.length c] 28)
  refine (checkManifest_any no A lo c fs _ (HF.out.below hb0) HO.out hn).mono ?_
  rintro e w1 ⟨rfl, hb1⟩
  have hb2 := bon hb0 hb1
  have c0 := bboxed hb1 0 _ rfl
  have c1 := bboxed hb1 1 _ rfl
  have hl := blt hb1
  clear hb0 hb1
  rw [HM.out]
  go_wp2_with fail
  refine (isKey_b key (by omega) _).mono ?_
  rintro e w2 ⟨rfl, hb3⟩
  have hb4 := bon hb2 hb3
  have d0 := bold hb3 c0
  have d1 := bold hb3 c1
  have hl2 : w.heap.size < w2.heap.size := World.block_lt_of_cell? w2 _ d0
  clear hb3 hb2 c0 c1 hl
  rw [HKB.out]
  go_wp2_with fail
  refine (fileAt_any A lo c fs key _ (HF.out.below hb4) hn (manF_files HM.out)).mono ?_
  rintro e w3 ⟨i, rfl, hik, hb5⟩
  obtain rfl : i = (k : Int) := by rw [hik (by rw [HKA.out]; omega), HKA.out]
  rw [show decide (0 ≤ keyAt key fs) = true from decide_eq_true (by rw [HKA.out]; omega)]
  have hb6 := bon hb4 hb5
  have e0 := bold hb5 d0
  have e1 := bold hb5 d1
  have hl3 : w.heap.size < w3.heap.size := World.block_lt_of_cell? w3 _ e0
  clear hb5 hb4 d0 d1 hl2 hik
  go_wp2_with fail
  refine (leaves_any no A lo c fs _ (HT.out.below hb6) (HF.out.below hb6) HS.out hn).mono ?_
  rintro e w4 ⟨v, rfl, hown, hb7⟩
  have hb8 := bon hb6 hb7
  have HOW : Hid (w4.ownsRow w.heap.size 9 1 v (leavesS fs).length (stC (leavesS fs))) := by rw [hll]; exact ownsRow_base hown hb6.size
  clear hown hb7 hb6 e0 e1 hl3
  go_wp2_with fail
  generalize hl0 : leavesS fs = l at *
  have HL0 := Lib.hid hl0
  clear hl0
  go_loopg [10, 9, 7] l.length (fun g s10 s9 s7 wr => PrRel l k w g s10 s9 s7 wr)
  case atStart => exact ⟨0, k, l, rfl, .zero l, by simp, rfl, by omega, HOW.out, World.ownsRow_nil _ _ _ _, hb8⟩
  case round =>
    clear HOW
    obtain ⟨j, q, cur, hcur, hcl, hq, rfl, hlg, hown, hout, hb⟩ := hrel
    have hqc : q < cur.length := by rw [hq, hcur]; exact climb_idx hkl j
    have hlen := hcl.len
    rw [← hcur] at hlen
    obtain ⟨B, m, d, rfl⟩ := own_form hown
    obtain rfl : m = cur.length := own_len hown
    by_cases h1 : 1 < cur.length
    · have h1' : (1 : Int) < (cur.length : Int) := by omega
      have h16c : ∀ s ∈ cur, s.size ≤ 16 := by rw [hcur]; exact climb_16 h16 j
      have HC := Lib.hid (show Climbs l (j + 1) from hcl.succ (by rw [← hcur]; exact h1))
      have HCUR := Lib.hid (show pairS cur = climb (j + 1) l by rw [hcur]; rfl)
      have HQ := Lib.hid (show q / 2 = k / 2 ^ (j + 1) by rw [hq, Nat.pow_succ, ← Nat.div_div_eq_div_mul])
      have HTW := Lib.hid (show twTo l k (j + 1) = twTo l k j ++ twAt cur q by rw [twTo, hq, hcur])
      have hpl := pairS_len cur
      have hbz := hb.size
      have htl := twTo_len l k j
      have hn9 : (twTo l k j).length ≤ 1000000000 := by omega
      have H16 := Lib.hid h16c
      have hc300 : cur.length ≤ 300 := by omega
      have hend : ∀ (wx : World) (sx : Value) (xs : List TwigD), twAt cur q = xs → wx.ownsRow w.heap.size 46 2 sx ((twTo l k j).length + xs.length) ((twTo l k j).flatMap twC ++ xs.flatMap twC) → wx.ownsRow w.heap.size 46 2 sx (twTo l k (j + 1)).length ((twTo l k (j + 1)).flatMap twC) := fun wx sx xs e h => by
        rw [HTW.out, e, List.length_append, List.flatMap_append]; exact h
      have HEND := Lib.hid hend
      clear hcur hq hcl hlen h16c hend
      by_cases hodd : q % 2 = 1
      · have ho' : ((q : Int) % 2 == 1) = true := beq_iff_eq.2 (by omega)
        have hn0 : (0 : Int) ≤ (q : Int) - 1 := by omega
        have hn0' : (1 : Int) ≤ (q : Int) := by omega
        have hn1 : (q : Int) - 1 < (cur.length : Int) := by omega
        have htn : ((q : Int) - 1).toNat = q - 1 := by omega
        obtain ⟨g, o, rfl, hgl, hc⟩ := stC_at (k := q - 1) (Lst.of_own hown) rfl (by omega)
        have HX := Lib.hid (HEND.out) 
        have HTA := Lib.hid (twAt_odd hodd hqc)
        clear HEND
        generalize cur[q - 1] = t at *
        go_wp2_with (at_builtin; refine wpList_push (W := w) (lo := w.heap.size) rfl _ _ 36 rfl 46 i0 _ 2 24 Tryz.underlying36 hi hz0 hz1 hz2 rfl (by decide) (by decide) _ _ _ rfl hb hbz hout [.bool true, .string t] rfl rfl rfl rfl hn9 ?_)
        intro v' w5 hout2 hb5 hz5 hg5
        have hown2 := hown.kept hg5 (ownsRow_ne hown hout (by decide))
        have HO2 := Lib.hid (HX.out w5 v' [(true, t)] HTA.out hout2)
        have HL2 := Lib.hid (Lst.of_own hown2)
        clear hown hout hown2 hout2 hg5 ho' hn0 hn0' hn1 htn hc hodd hgl
        go_wp2_with fail
        refine (paired_any _ w.heap.size d cur _ (HT.out.below hb5) HL2.out H16.out (by omega)).mono ?_
        rintro e w6 ⟨v6, rfl, hown3, hb6⟩
        have HO3 := Lib.hid (ownsRow_base hown3 hb5.size)
        have HO4 := Lib.hid (ownsRow_below HO2.out hb6)
        clear hown3
        go_wp2_with fail
        go_roundg (gk - 1)
        case measure => omega
        case rel => exact ⟨j + 1, q / 2, pairS cur, HCUR.out, HC.out, HQ.out, by go_num, by omega, HO3.out, HO4.out, bon hb5 hb6⟩
      · have ho' : ((q : Int) % 2 == 1) = false := beq_eq_false_iff_ne.2 (by omega)
        by_cases hnx : q + 1 < cur.length
        · have hnx' : (q : Int) + 1 < (cur.length : Int) := by omega
          have hn0 : (0 : Int) ≤ (q : Int) + 1 := by omega
          have htn : ((q : Int) + 1).toNat = q + 1 := by omega
          obtain ⟨g, o, rfl, hgl, hc⟩ := stC_at (k := q + 1) (Lst.of_own hown) rfl (by omega)
          have HX := Lib.hid (HEND.out) 
          have HTA := Lib.hid (twAt_even hodd hnx)
          clear HEND
          generalize cur[q + 1] = t at *
          go_wp2_with (at_builtin; refine wpList_push (W := w) (lo := w.heap.size) rfl _ _ 36 rfl 46 i0 _ 2 24 Tryz.underlying36 hi hz0 hz1 hz2 rfl (by decide) (by decide) _ _ _ rfl hb hbz hout [.bool false, .string t] rfl rfl rfl rfl hn9 ?_)
          intro v' w5 hout2 hb5 hz5 hg5
          have hown2 := hown.kept hg5 (ownsRow_ne hown hout (by decide))
          have HO2 := Lib.hid (HX.out w5 v' [(false, t)] HTA.out hout2)
          have HL2 := Lib.hid (Lst.of_own hown2)
          clear hown hout hown2 hout2 hg5 ho' hn0 hnx' htn hc hodd hgl
          go_wp2_with fail
          refine (paired_any _ w.heap.size d cur _ (HT.out.below hb5) HL2.out H16.out (by omega)).mono ?_
          rintro e w6 ⟨v6, rfl, hown3, hb6⟩
          have HO3 := Lib.hid (ownsRow_base hown3 hb5.size)
          have HO4 := Lib.hid (ownsRow_below HO2.out hb6)
          clear hown3
          go_wp2_with fail
          go_roundg (gk - 1)
          case measure => omega
          case rel => exact ⟨j + 1, q / 2, pairS cur, HCUR.out, HC.out, HQ.out, by go_num, by omega, HO3.out, HO4.out, bon hb5 hb6⟩
        · have hnx' : ¬ ((q : Int) + 1 < (cur.length : Int)) := by omega
          have HO2 := Lib.hid (HEND.out wr _ [] (twAt_none hodd hnx) (by simpa using hout))
          have HL2 := Lib.hid (Lst.of_own hown)
          clear hown hout hodd HEND
          go_wp2_with fail
          refine (paired_any _ w.heap.size d cur _ (HT.out.below hb) HL2.out H16.out (by omega)).mono ?_
          rintro e w6 ⟨v6, rfl, hown3, hb6⟩
          have HO3 := Lib.hid (ownsRow_base hown3 hbz)
          have HO4 := Lib.hid (ownsRow_below HO2.out hb6)
          clear hown3
          go_wp2_with fail
          go_roundg (gk - 1)
          case measure => omega
          case rel => exact ⟨j + 1, q / 2, pairS cur, HCUR.out, HC.out, HQ.out, by go_num, by omega, HO3.out, HO4.out, bon hb hb6⟩
    · have h1' : ¬ ((1 : Int) < (cur.length : Int)) := by omega
      have HTOP := Lib.hid (show (climb j l).length ≤ 1 by rw [← hcur]; omega)
      have HOUT := Lib.hid hout
      clear hout hown hcur hq hlen
      go_wp2_with fail
      go_ret2
      exact ⟨j, _, hcl, HTOP.out, rfl, HOUT.out, hb⟩

/-! ### ProofOf -/
def PoRel (l : List ByteArray) (k J : Nat) (w0 : World) (g : Nat) (s19 s7 s6 : Value) (wr : World) : Prop :=
  ∃ (j q : Nat), j + g = J ∧ s19 = .int .i64 j ∧ q = k / 2 ^ j ∧ s6 = .int .i64 q ∧
    wr.ownsRow w0.heap.size 46 2 s7 (twTo l k j).length ((twTo l k j).flatMap twC) ∧ Below w0.heap.size w0 wr
set_option maxRecDepth 100000 in
set_option maxHeartbeats 1000000 in
theorem proofOf_no (no : Int) (A : Option Addr) (lo c : Nat) (fs : List FileD) (key : ByteArray) (w : World) (hf : FilesAt w lo (.slice A fs.length c) fs) (hn : fs.length ≤ 300) (h : ¬ 0 ≤ keyAt key fs) :
    Calls Tryz.prog 15 #[.agg #[.int .i64 no, .slice A fs.length c], .string key] w fun e w' => e = .returned (.tuple #[.slice none 0 0, .bool false]) ∧ Below w.heap.size w w' := by
  have HF := Lib.hid hf
  clear hf
  go_enter Tryz.func15, Tryz.ntmps15
  go_wp2_with fail
  have hb0 := bfirst w (.cells #[.int .i64 no, .slice A fs.length c] 28)
  refine (fileAtOf_any A lo c fs key _ (HF.out.below hb0) hn).mono ?_
  rintro e w1 ⟨rfl, hb1⟩
  have h' : keyAt key fs < 0 := by omega
  clear h
  go_wp2_with fail
  go_ret2
  exact ⟨rfl, bon hb0 hb1⟩
set_option maxRecDepth 100000 in
set_option maxHeartbeats 4000000 in
theorem proofOf_any (no : Int) (A : Option Addr) (lo c k : Nat) (fs : List FileD) (key : ByteArray) (w : World) (ht : Tab w) (hf : FilesAt w lo (.slice A fs.length c) fs) (hsh : ∀ f ∈ fs, Short f) (hn : fs.length ≤ 300) (hka : keyAt key fs = k) :
    Calls Tryz.prog 15 #[.agg #[.int .i64 no, .slice A fs.length c], .string key] w (GotProof (leavesS fs) k (.bool true) w) := by
  have HF := Lib.hid hf
  have HKA := Lib.hid hka
  have HT := Lib.hid ht
  have HS := Lib.hid hsh
  have hll : (leavesS fs).length = fs.length := by simp [leavesS]
  have hkl : k < (leavesS fs).length := by have := (keyAt_lt key fs).1; omega
  clear hf hka ht hsh
  obtain ⟨i0, hi, hz0, hz1, hz2⟩ := info_parts infoTwig
  go_enter Tryz.func15, Tryz.ntmps15
  go_wp2_with fail
  have hb0 := bfirst w (.cells #[.int .i64 no, .slice A fs.length c] 28)
  refine (fileAtOf_any A lo c fs key _ (HF.out.below hb0) hn).mono ?_
  rintro e w1 ⟨rfl, hb1⟩
  rw [HKA.out]
  have hb2 := bon hb0 hb1
  have c0 := bboxed hb1 0 _ rfl
  have c1 := bboxed hb1 1 _ rfl
  have hl := blt hb1
  have hk0 : ¬ ((k : Int) < 0) := by omega
  clear hb0 hb1
  go_wp2_with fail
  refine (levels_any no A lo c fs _ (HT.out.below hb2) (HF.out.below hb2) HS.out hn).mono ?_
  rintro e w2 ⟨J, v, vs, rfl, hcl, htop, hown, hrows, hb3⟩
  have hb4 := bon hb2 hb3
  have hlen := hcl.len
  obtain ⟨B, m, d, rfl⟩ := own_form hown
  obtain rfl : m = J + 1 := own_len hown
  have HL := Lib.hid (Lst.of_own hown)
  have HR := Lib.hid hrows
  have HCL := Lib.hid hcl
  have HTOP := Lib.hid htop
  have hJ9 : J ≤ 300 := by omega
  clear hown hrows hcl htop hlen c0 c1 hl hb2 hb3
  go_wp2_with fail
  generalize hl0 : leavesS fs = l at *
  have HL0 := Lib.hid hl0
  clear hl0
  go_loopg [19, 7, 6, 9] (J + 1) (fun g s19 s7 s6 _ wr => PoRel l k (J + 1) w2 g s19 s7 s6 wr)
  case atStart => exact ⟨0, k, by omega, rfl, by simp, rfl, World.ownsRow_nil _ _ _ _, Below.refl _ _⟩
  case round =>
    obtain ⟨j, q, hj, rfl, hq, rfl, hout, hb⟩ := hrel
    by_cases hg : gk = 0
    · obtain rfl : j = J + 1 := by omega
      have HO := Lib.hid (show wr.ownsRow w.heap.size 46 2 u7 (twTo l k J).length ((twTo l k J).flatMap twC) by rw [← twTo_top hkl HTOP.out]; exact ownsRow_base hout hb4.size)
      clear hj hq hout hg
      go_wp2_with fail
      go_ret2
      exact ⟨J, _, HCL.out, HTOP.out, rfl, HO.out, bon hb4 hb⟩
    · have hjl : j < J + 1 := by omega
      obtain ⟨g, o, u, rfl, _, hgl, hu, hc⟩ := (HL.out.below hb).at_ hjl
      obtain ⟨u', hu', hrow⟩ := HR.out.2 j (by omega)
      obtain rfl : u = u' := by rw [hu] at hu'; exact Option.some.inj hu'
      obtain ⟨B2, m2, d2, rfl⟩ := own_form hrow
      have hqc : q < (climb j l).length := by rw [hq]; exact climb_idx hkl j
      obtain rfl : m2 = (climb j l).length := own_len hrow
      have HROW := Lib.hid ((Lst.of_own hrow).below hb)
      have HQ := Lib.hid (show q / 2 = k / 2 ^ (j + 1) by rw [hq, Nat.pow_succ, ← Nat.div_div_eq_div_mul])
      have HTW := Lib.hid (show twTo l k (j + 1) = twTo l k j ++ twAt (climb j l) q by rw [twTo, hq])
      have hc9 : (climb j l).length ≤ 300 := by
        have e : ∀ i, (climb i l).length ≤ l.length := by
          intro i
          induction i with
          | zero => simp [climb]
          | succ i ih => have e : (climb (i + 1) l).length = ((climb i l).length + 1) / 2 := pairS_len _; omega
        have := e j; omega
      have HJ := Lib.hid hj
      have hgk : gk ≠ 0 := hg
      have hbz := hb.size
      have htl := twTo_len l k j
      have hn9 : (twTo l k j).length ≤ 1000000000 := by omega
      clear hu hu' hrow hq hj hg
      generalize climb j l = cur at *
      have hend : ∀ (wx : World) (sx : Value) (xs : List TwigD), twAt cur q = xs → wx.ownsRow w2.heap.size 46 2 sx ((twTo l k j).length + xs.length) ((twTo l k j).flatMap twC ++ xs.flatMap twC) → wx.ownsRow w2.heap.size 46 2 sx (twTo l k (j + 1)).length ((twTo l k (j + 1)).flatMap twC) := fun wx sx xs e h => by
        rw [HTW.out, e, List.length_append, List.flatMap_append]; exact h
      have HEND := Lib.hid hend
      clear hend
      by_cases hodd : q % 2 = 1
      · have ho' : ((q : Int) % 2 == 1) = true := beq_iff_eq.2 (by omega)
        have hn0 : (0 : Int) ≤ (q : Int) - 1 := by omega
        have hn0' : (1 : Int) ≤ (q : Int) := by omega
        have hn1 : (q : Int) - 1 < (cur.length : Int) := by omega
        have htn : ((q : Int) - 1).toNat = q - 1 := by omega
        obtain ⟨g2, o2, rfl, hgl2, hc2⟩ := stC_at (k := q - 1) HROW.out rfl (by omega)
        have HTA := Lib.hid (twAt_odd hodd hqc)
        generalize cur[q - 1] = t at *
        go_wp2_with (at_builtin; refine wpList_push (W := w2) (lo := w2.heap.size) rfl _ _ 36 rfl 46 i0 _ 2 24 Tryz.underlying36 hi hz0 hz1 hz2 rfl (by decide) (by decide) _ _ _ rfl hb hbz hout [.bool true, .string t] rfl rfl rfl rfl hn9 ?_)
        intro v' w5 hout2 hb5 hz5 hg5
        have HO2 := Lib.hid (HEND.out w5 v' [(true, t)] HTA.out hout2)
        clear hout hout2 hg5 ho' hn0 hn0' hn1 htn hc hodd hgl hc2
        go_wp2_with fail
        go_roundg (gk - 1)
        case measure => omega
        case rel => exact ⟨j + 1, q / 2, by have := HJ.out; omega, by go_num, HQ.out, by go_num, HO2.out, hb5⟩
      · have ho' : ((q : Int) % 2 == 1) = false := beq_eq_false_iff_ne.2 (by omega)
        by_cases hnx : q + 1 < cur.length
        · have hnx' : (q : Int) + 1 < (cur.length : Int) := by omega
          have hn0 : (0 : Int) ≤ (q : Int) + 1 := by omega
          have htn : ((q : Int) + 1).toNat = q + 1 := by omega
          obtain ⟨g2, o2, rfl, hgl2, hc2⟩ := stC_at (k := q + 1) HROW.out rfl (by omega)
          have HTA := Lib.hid (twAt_even hodd hnx)
          generalize cur[q + 1] = t at *
          go_wp2_with (at_builtin; refine wpList_push (W := w2) (lo := w2.heap.size) rfl _ _ 36 rfl 46 i0 _ 2 24 Tryz.underlying36 hi hz0 hz1 hz2 rfl (by decide) (by decide) _ _ _ rfl hb hbz hout [.bool false, .string t] rfl rfl rfl rfl hn9 ?_)
          intro v' w5 hout2 hb5 hz5 hg5
          have HO2 := Lib.hid (HEND.out w5 v' [(false, t)] HTA.out hout2)
          clear hout hout2 hg5 ho' hn0 hnx' htn hc hodd hgl hc2
          go_wp2_with fail
          go_roundg (gk - 1)
          case measure => omega
          case rel => exact ⟨j + 1, q / 2, by have := HJ.out; omega, by go_num, HQ.out, by go_num, HO2.out, hb5⟩
        · have hnx' : ¬ ((q : Int) + 1 < (cur.length : Int)) := by omega
          have HO2 := Lib.hid (HEND.out wr _ [] (twAt_none hodd hnx) (by simpa using hout))
          clear hout hodd HEND
          go_wp2_with fail
          go_roundg (gk - 1)
          case measure => omega
          case rel => exact ⟨j + 1, q / 2, by have := HJ.out; omega, by go_num, HQ.out, by go_num, HO2.out, hb⟩
end Go.Proofs.YtegalkmfoffpfaaGreatDoor
