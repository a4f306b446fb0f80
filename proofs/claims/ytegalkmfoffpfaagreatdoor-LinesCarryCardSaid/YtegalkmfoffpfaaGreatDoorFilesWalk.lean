/- The two ways of checking files. -/
import Derived.Test.YtegalkmfoffpfaaGreatDoorFiles
namespace Go.Proofs.YtegalkmfoffpfaaGreatDoor
open Go.RowKit Go.Maps Go.WideMaps

theorem fAt_eq (fs : List FileD) {k : Nat} (h : k < fs.length) : fAt fs k = fs[k] := by simp [fAt, List.getD, List.getElem?_eq_getElem h]
theorem ff_no {fs : List FileD} {k : Nat} (hn : fs.length ≤ 300) (hlt : k < fs.length) (h0 : firstTo (fiF fs) k = 0) {x : Int} (hx : fiF fs k = x) (hx0 : x ≠ 0) : filesF fs = x := by
  have e := firstTo_at hlt h0 (by rw [hx]; exact hx0)
  rw [filesF, if_neg (by omega), e, hx, if_neg hx0]
theorem isKey_b (s : ByteArray) (hsz : s.size ≤ 1000000000000) (w : World) : Calls Tryz.prog 81 #[.string s] w fun e w' => e = .returned (.bool (keyB s)) ∧ Below w.heap.size w w' :=
  (isKey_any s hsz w).mono fun _ _ ⟨a, b⟩ => ⟨a, b ▸ Below.refl _ _⟩
theorem law_str : Keyed Tryz.prog 9 := string_keyed Tryz.underlying9
theorem zero_int (w : World) : (zeroValue 3).run Tryz.prog w = .ok (.int .i64 0) w := by kernel_rfl
def FfRel (fs : List FileD) (w : World) (g : Nat) (i : Value) (wr : World) : Prop :=
  ∃ k : Nat, k + g = fs.length ∧ i = .int .i64 k ∧ firstTo (fiF fs) k = 0 ∧ Below w.heap.size w wr
def FcRel (cs : List ChunkD) (w : World) (wb : World) (g : Nat) (i : Value) (wr : World) : Prop :=
  ∃ k : Nat, k + g = cs.length ∧ i = .int .i64 k ∧ firstTo (chsF cs) k = 0 ∧ Below w.heap.size w wr ∧ Below wb.heap.size wb wr
def MfRel (fs : List FileD) (w : World) (mb : Nat) (g : Nat) (i : Value) (wr : World) : Prop :=
  ∃ (k : Nat) (D : DataW Unit), k + g = fs.length ∧ i = .int .i64 k ∧ mAll (chunksTo fs k) = some D ∧ wr.ownsMap Tryz.prog 9 (plainElem Tryz.prog 3) mb (k * 1000000000) D ∧ Below w.heap.size w wr
def McRel (fs : List FileD) (cs : List ChunkD) (q : Nat) (w : World) (mb : Nat) (g : Nat) (i : Value) (wr : World) : Prop :=
  ∃ (k : Nat) (D : DataW Unit), k + g = cs.length ∧ i = .int .i64 k ∧ mAll (chunksTo fs q ++ cs.take k) = some D ∧ wr.ownsMap Tryz.prog 9 (plainElem Tryz.prog 3) mb (q * 1000000000 + k) D ∧ Below w.heap.size w wr

set_option maxRecDepth 100000 in
set_option maxHeartbeats 4000000 in
theorem filesFault_any (A : Option Addr) (lo c : Nat) (fs : List FileD) (w : World) (hf : FilesAt w lo (.slice A fs.length c) fs) (hok : FilesOk fs) (hn : fs.length ≤ 300) :
    Calls Tryz.prog 93 #[.slice A fs.length c] w fun e w' => e = .returned (.int .i64 (filesF fs)) ∧ Below w.heap.size w w' := by
  have hmm := @run_makeMap Tryz.prog
  have HF := Lib.hid hf
  have HOK := Lib.hid hok
  clear hf hok
  go_enter Tryz.func93, Tryz.ntmps93
  go_wp2_with fail
  go_loopg [19, 3, 4, 6, 48] fs.length (fun g i _ _ _ _ wr => FfRel fs w g i wr)
  case atStart => exact ⟨0, by omega, rfl, rfl, Below.refl _ _⟩
  case round =>
    obtain ⟨k, hk, rfl, hz0, hb⟩ := hrel
    by_cases hg : gk = 0
    · obtain rfl : k = fs.length := by omega
      have HW := Lib.hid (show filesF fs = mapF (mAll (chunksTo fs fs.length)) by rw [filesF, if_neg (by omega), if_pos hz0])
      clear hk hz0 hg
      go_wp2_with fail
      have hbz := hb.size
      have hown0 : (wr.alloc (.map #[] 0)).ownsMap Tryz.prog 9 (plainElem (H := Unit) Tryz.prog 3) wr.heap.size 0 (.map []) := World.ownsMap_made _ _ _ _
      have hbA := hb.alloc hbz (.map #[] 0)
      obtain ⟨mb, hmb⟩ : ∃ mb, mb = wr.heap.size := ⟨_, rfl⟩
      rw [← hmb] at hown0 hbz ⊢
      generalize wr.alloc (.map #[] 0) = w0 at *
      clear hb hmb wr
      go_loopg [64, 9, 11, 12, 13, 71] fs.length (fun g i _ _ _ _ _ wr => MfRel fs w mb g i wr)
      case atStart => exact ⟨0, .map [], by omega, rfl, rfl, by simpa using hown0, hbA⟩
      case round =>
        obtain ⟨k, D, hk, rfl, hD, hown, hb⟩ := hrel
        by_cases hg : gk = 0
        · obtain rfl : k = fs.length := by omega
          rw [hD] at HW
          clear hk hD hg
          by_cases hs : (2000 : Int) < (Maps.size D : Int)
          · have HW2 := Lib.hid (show filesF fs = 2 by rw [HW.out, mapF, sizeF, if_pos hs])
            go_wp2_with (at_len; refine wpList_len_own _ rfl _ 202 rfl 9 3 Tryz.underlying202 _ mb _ D rfl hown ?_)
            go_wp2_with fail
            go_ret
            exact ⟨ret_int HW2.out.symm, hb⟩
          · have HW2 := Lib.hid (show filesF fs = 0 by rw [HW.out, mapF, sizeF, if_neg hs])
            go_wp2_with (at_len; refine wpList_len_own _ rfl _ 202 rfl 9 3 Tryz.underlying202 _ mb _ D rfl hown ?_)
            go_wp2_with fail
            go_ret
            exact ⟨ret_int HW2.out.symm, hb⟩
        · have hlt : k < fs.length := by omega
          obtain ⟨g, o, B, m, d, rfl, hgl, cK0, cC0, hm, hL⟩ := HF.out.at_ hlt
          have cK := (hb.cell (p := ⟨g, o + k * 2, none⟩) hgl).trans cK0
          have cC := (hb.cell (p := ⟨g, o + k * 2 + 1, none⟩) hgl).trans cC0
          have HK := Lib.hid hk
          have HD := Lib.hid hD
          have HOW := Lib.hid hown
          have HM := Lib.hid hm
          have HL := Lib.hid hL
          have hgk : gk ≠ 0 := hg
          clear hk hD hm hL hg hown cK0 cC0
          generalize fs[k].1 = key at *
          go_wp2_with fail
          have hcok : ∀ c ∈ fs[k].2, c.1.size ≤ 1000000000000 ∧ -1000000000000000 ≤ c.2 ∧ c.2 ≤ 1000000000000000 := (HOK.out _ (List.getElem_mem hlt)).2.2
          have hclen := (HOK.out _ (List.getElem_mem hlt)).2.1
          have hbz1 := hb.size
          have hb2 := hb.alloc hbz1 (.cells #[.string key, .slice B m d] 52)
          have how2 := HOW.out.alloc (.cells #[.string key, .slice B m d] 52)
          have HNO := Lib.hid (fun j (hj : j < fs[k].2.length) D' h1 h2 => mAll_no fs hlt hj (D := D') h1 h2)
          have HYES := Lib.hid (fun j (hj : j < fs[k].2.length) D1 D2 h1 h2 => mAll_snoc fs hlt hj (D := D1) (D' := D2) h1 h2)
          have HCT := Lib.hid (chunksTo_succ fs k hlt)
          generalize fs[k].2 = cs at *
          have hkn : k ≤ 300 := by omega
          clear cK cC hb
          generalize wr.alloc (.cells #[.string key, .slice B m d] 52) = w2 at *
          generalize wr.heap.size = pb at *
          clear HOW wr
          obtain ⟨gq, rfl⟩ : ∃ gq, gq = gk := ⟨_, rfl⟩
          go_loopg [71, 11, 12, 13] cs.length (fun g i _ _ _ wx => McRel fs cs k w mb g i wx)
          case atStart => exact ⟨0, D, by omega, rfl, by simpa using HD.out, by simpa using how2, hb2⟩
          case round =>
            obtain ⟨j, E, hj, rfl, hE, hown, hb3⟩ := hrel
            have hmc := HM.out
            by_cases hg1 : gk = 0
            · obtain rfl : j = m := by omega
              have HE := Lib.hid (show mAll (chunksTo fs (k + 1)) = some E by rw [HCT.out, ← hE, hmc, List.take_length])
              have how3 := hown.mono (n' := (k + 1) * 1000000000) (by omega)
              have HOW := Lib.hid how3
              clear hown how3 how2 hE hj hmc
              go_wp2_with fail
              go_roundg (gq - 1)
              case measure => omega
              case rel => exact ⟨k + 1, E, by have := HK.out; omega, by go_num, HE.out, HOW.out, hb3⟩
            · have hjl : j < cs.length := by omega
              obtain ⟨g2, o2, rfl, hg2, e0, e1⟩ := HL.out.chunk hjl hmc
              have f0 := (hb3.cell (p := ⟨g2, o2 + j * 2, none⟩) hg2).trans e0
              have f1 := (hb3.cell (p := ⟨g2, o2 + j * 2 + 1, none⟩) hg2).trans e1
              have hcj := hcok _ (List.getElem_mem hjl)
              have HNO' := HNO.out j hjl E hE
              have HYES' := fun D2 => HYES.out j hjl E D2 hE
              have HJ := Lib.hid hj
              have hjm : j < m := by omega
              have hgk1 : gk ≠ 0 := hg1
              have hnm : k * 1000000000 + j < maxLen := by unfold maxLen; omega
              clear hj hmc hg1 e0 e1 how2 hE
              generalize cs[j] = cj at *
              obtain ⟨ck, cz⟩ := cj
              have HN := Lib.hid HNO'
              have HY := Lib.hid HYES'
              have hkey : keyOf Tryz.prog 9 (.string ck) = some (litS ck) := keyOf_string_mk Tryz.underlying9 (by have h : ck.size ≤ 1000000000000 := hcj.1; unfold maxLen; omega)
              have hwz : (Lit.int .i64 cz).wf = true := wf64 (by have h : _ ≤ cz := hcj.2.1; omega) (by have h : cz ≤ _ := hcj.2.2; omega)
              clear HNO' HYES' hcj
              have hbz3 := hb3.size
              have how3 := hown.alloc (.cells #[.string ck, .int .i64 cz] 49)
              clear hown
              go_wp2_with (at_lookup; refine wpList_lookup_own_ok_int _ rfl _ _ 202 rfl 9 3 .i64 law_str Tryz.underlying202 Tryz.underlying3 (zero_int _) mb _ E rfl how3 _ _ rfl hkey ?_)
              intro cL hat hwc
              have hd : dInt (E.atKey (litS ck) (i64D 0)) = cL := by unfold i64D; rw [hat]; rfl
              have HD2 := Lib.hid hd
              clear hat hwc hd
              rcases Bool.eq_false_or_eq_true (Maps.has E (litS ck) && (cL != cz)) with hx | hx
              · have HX := Lib.hid (show filesF fs = 13 by rw [HW.out, HN.out (by simp only [mStep]; rw [HD2.out, hx]; rfl)]; rfl)
                have hx1 := (Bool.and_eq_true _ _ ▸ hx).1
                have hx2 := (Bool.and_eq_true _ _ ▸ hx).2
                rw [hx1]
                go_wp2_with fail
                go_ret
                exact ⟨ret_int HX.out.symm, hb3.alloc hbz3 _⟩
              · have HX := Lib.hid (HY.out (E.put (litS ck) (i64D cz)) (by simp only [mStep]; rw [HD2.out, hx]; rfl))
                rcases Bool.eq_false_or_eq_true (Maps.has E (litS ck)) with hx1 | hx1
                · have hx2 : (cL != cz) = false := by rw [hx1, Bool.true_and] at hx; exact hx
                  clear hx
                  rw [hx1]
                  go_wp2_with (at_mapUpdate; refine wpList_mapUpdate_own _ rfl _ _ _ 202 rfl 9 3 law_str Tryz.underlying202 _ mb _ E rfl how3 hnm _ _ _ rfl rfl hkey (i64D cz) [] (plainElem_int Tryz.underlying3 hwz) ?_)
                  intro w4 how4 hgr4
                  have hb4 : Below w.heap.size w w4 := (hb3.alloc hbz3 _).grown hgr4 (by simp; omega) (fun x hx => by cases hx; exact hbz)
                  have HOW := Lib.hid (how4.mono (n' := k * 1000000000 + (j + 1)) (by omega))
                  clear how3 how4
                  go_wp2_with fail
                  go_roundg (gk - 1)
                  case measure => omega
                  case rel => exact ⟨j + 1, _, by have := HJ.out; omega, by go_num, HX.out, HOW.out, hb4⟩
                · clear hx
                  rw [hx1]
                  go_wp2_with (at_mapUpdate; refine wpList_mapUpdate_own _ rfl _ _ _ 202 rfl 9 3 law_str Tryz.underlying202 _ mb _ E rfl how3 hnm _ _ _ rfl rfl hkey (i64D cz) [] (plainElem_int Tryz.underlying3 hwz) ?_)
                  intro w4 how4 hgr4
                  have hb4 : Below w.heap.size w w4 := (hb3.alloc hbz3 _).grown hgr4 (by simp; omega) (fun x hx => by cases hx; exact hbz)
                  have HOW := Lib.hid (how4.mono (n' := k * 1000000000 + (j + 1)) (by omega))
                  clear how3 how4
                  go_wp2_with fail
                  go_roundg (gk - 1)
                  case measure => omega
                  case rel => exact ⟨j + 1, _, by have := HJ.out; omega, by go_num, HX.out, HOW.out, hb4⟩
    · have hlt : k < fs.length := by omega
      have hf' := HF.out.keep hb.size (fun x _ hx => hb.block x hx)
      obtain ⟨g, o, B, m, d, rfl, hgl, cK, cC, hm, hL⟩ := hf'.at_ hlt
      have HK := Lib.hid hk
      have HZ := Lib.hid hz0
      clear hk hz0
      have HM := Lib.hid hm
      have HL := Lib.hid hL
      have hks : fs[k].1.size ≤ 1000000000000 := (HOK.out _ (List.getElem_mem hlt)).1
      have HA := Lib.hid (fAt_eq fs hlt)
      have hgk : gk ≠ 0 := hg
      clear hm hL hf' hg
      go_wp2_with fail
      generalize hkey : fs[k].1 = key at *
      refine (isKey_b key hks _).mono ?_
      rintro e w1 ⟨rfl, hb1⟩
      have hbz := hb.size
      have hb1z := hb1.size
      have HKEY := Lib.hid hkey
      clear hkey
      rcases Bool.eq_false_or_eq_true (keyB key) with hkb | hkb
      rotate_left
      · have H5 := Lib.hid (ff_no hn hlt HZ.out (x := 5) (by rw [fiF, HA.out, HKEY.out, hkb]; rfl) (by decide))
        rw [hkb]
        go_wp2_with fail
        go_ret
        exact ⟨ret_int H5.out.symm, (hb.alloc hbz _).trans (hb1.mono (by simp; omega))⟩
      · have c0 : w1.cell? ⟨wr.heap.size, 0, none⟩ = some (.string key) := (hb1.cell (p := ⟨wr.heap.size, 0, none⟩) (by simp)).trans (cell_new_list wr _ _ 0 _ rfl)
        have c1 : w1.cell? ⟨wr.heap.size, 1, none⟩ = some (.slice B m d) := (hb1.cell (p := ⟨wr.heap.size, 1, none⟩) (by simp)).trans (cell_new_list wr _ _ 1 _ rfl)
        have hb2 : Below w.heap.size w w1 := (hb.alloc hbz _).trans (hb1.mono (by simp; omega))
        have hl1 : wr.heap.size < w1.heap.size := by simp at hb1z; omega
        have HPREV : Hid (∀ k', k = k' + 1 → w1.cell? ⟨g, o + k' * 2, none⟩ = some (.string (fAt fs k').1)) := fun k' e => by
          subst e
          obtain ⟨g2, o2, _, _, _, e2, _, h2, _⟩ := (HF.out.below hb2).at_ (i := k') (by omega)
          simp only [Option.some.injEq, Addr.mk.injEq] at e2
          obtain ⟨rfl, rfl, _⟩ := e2
          rw [fAt_eq fs (by omega : k' < fs.length)]
          exact h2
        have HLB : Hid (∀ q, Lst (w1.drewN q) lo 2 (.slice B m d) (fs[k].2.flatMap chC)) := fun q =>
          (HL.out.below ((Below.refl _ _).alloc (Nat.le_refl _) _)).below (below_drewN hb1 q)
        clear hb1 cK cC hb1z
        rw [hkb]
        go_upto_region 8 with fail
        go_cut [40] (fun s wx => s = .bool (decide (0 < k) && keyLe key (fAt fs (k - 1)).1) ∧ ∃ q, wx = w1.drewN q)
        case first =>
          rcases k with _ | k'
          · have hd : decide ((0 : Int) < ((0 : Nat) : Int)) = false := by decide
            go_quiet (fail)
            go_wp2_with fail
            go_meet
            exact ⟨rfl, _, rfl⟩
          · have cP := HPREV.out k' rfl
            have hd : decide ((0 : Int) < ((k' + 1 : Nat) : Int)) = true := by simp
            go_quiet (fail)
            go_wp2_with fail
            go_meet
            exact ⟨by simp [keyLe], _, rfl⟩
        case rest =>
          obtain ⟨rfl, q, rfl⟩ := hcut
          have d0 : (w1.drewN q).cell? ⟨wr.heap.size, 0, none⟩ = some (.string key) := c0
          have d1 : (w1.drewN q).cell? ⟨wr.heap.size, 1, none⟩ = some (.slice B m d) := c1
          have hb3 : Below w.heap.size w (w1.drewN q) := below_drewN hb2 q
          have hl2 : wr.heap.size < (w1.drewN q).heap.size := hl1
          have HL1 : Hid (Lst (w1.drewN q) lo 2 (.slice B m d) (fs[k].2.flatMap chC)) := HLB.out q
          have HR := Lib.hid (show fiF fs k = _ by rw [fiF, HA.out, HKEY.out, hkb, if_pos rfl])
          clear HPREV HLB HL c0 c1 hb2 hl1
          generalize w1.drewN q = w2 at *
          clear w1
          rcases Bool.eq_false_or_eq_true (decide (0 < k) && keyLe key (fAt fs (k - 1)).1) with hc | hc
          · have H7 := Lib.hid (ff_no hn hlt HZ.out (x := 7) (by rw [HR.out, hc]; rfl) (by decide))
            rw [hc]
            clear hc HR
            go_wp2_with fail
            go_ret
            exact ⟨ret_int H7.out.symm, hb3⟩
          · rw [hc] at HR ⊢
            clear hc
            rcases Nat.eq_zero_or_pos m with h0 | h0
            · have H8 := Lib.hid (ff_no hn hlt HZ.out (x := 8) (by rw [HR.out, ← HM.out, h0]; rfl) (by decide))
              subst h0
              clear HR
              go_wp2_with fail
              go_ret
              exact ⟨ret_int H8.out.symm, hb3⟩
            · have h0' : ((m : Int) == 0) = false := by simp; omega
              go_wp2_with fail
              have HR2 := Lib.hid (show fiF fs k = firstTo (chsF fs[k].2) fs[k].2.length by rw [HR.out, if_neg (by decide), if_neg (by rw [← HM.out]; omega)])
              clear HR
              have hcok : ∀ c ∈ fs[k].2, c.1.size ≤ 1000000000000 ∧ -1000000000000000 ≤ c.2 ∧ c.2 ≤ 1000000000000000 := (HOK.out _ (List.getElem_mem hlt)).2.2
              have hclen := (HOK.out _ (List.getElem_mem hlt)).2.1
              generalize fs[k].2 = cs at *
              clear hgl hb
              generalize wr.heap.size = pb at *
              clear wr
              obtain ⟨gq, rfl⟩ : ∃ gq, gq = gk := ⟨_, rfl⟩
              go_loopg [48, 6] cs.length (fun g i _ wx => FcRel cs w w2 g i wx)
              case atStart => exact ⟨0, by omega, rfl, rfl, hb3, Below.refl _ _⟩
              case round =>
                obtain ⟨j, hj, rfl, hz1, hb4, hb5⟩ := hrel
                have hmc := HM.out
                by_cases hg1 : gk = 0
                · obtain rfl : j = m := by omega
                  have H0 := Lib.hid (firstTo_succ HZ.out (by rw [HR2.out, ← hmc]; exact hz1))
                  clear hz1 hj hmc
                  go_wp2_with fail
                  go_roundg (gq - 1)
                  case measure => omega
                  case rel => exact ⟨k + 1, by have := HK.out; omega, by go_num, H0.out, hb4⟩
                · have hjl : j < cs.length := by omega
                  obtain ⟨g2, o2, rfl, hg2, e0, e1⟩ := (HL1.out.below hb5).chunk hjl hmc
                  have hcj := hcok _ (List.getElem_mem hjl)
                  have HC := Lib.hid (show chsF cs j = chF cs[j] by simp [chsF, List.getD, List.getElem?_eq_getElem hjl])
                  have HJ := Lib.hid hj
                  have HZ1 := Lib.hid hz1
                  have hjm : j < m := by omega
                  have hgk : gk ≠ 0 := hg1
                  clear hj hz1 hmc hg1
                  go_wp2_with fail
                  generalize hcc : cs[j] = cj at *
                  refine (isSum_any cj.1 hcj.1 _).mono ?_
                  rintro e w3 ⟨rfl, hb6⟩
                  have HCC := Lib.hid hcc
                  have hbz4 := hb4.size
                  have hbz6 := hb6.size
                  have e2 : w3.cell? ⟨wr.heap.size, 1, none⟩ = some (.int .i64 cj.2) := (hb6.cell (p := ⟨wr.heap.size, 1, none⟩) (by simp)).trans (cell_new_list wr _ _ 1 _ rfl)
                  have hb7 : Below w.heap.size w w3 := (hb4.alloc hbz4 _).trans (hb6.mono (by simp; omega))
                  have hb8 : Below w2.heap.size w2 w3 := (hb5.alloc hb5.size _).trans (hb6.mono (by have := hb5.size; simp; omega))
                  have hwl : wr.heap.size < w3.heap.size := by simp at hbz6; omega
                  clear hcc hb6 hb4 hb5 hbz6 hbz4 e0 e1 hg2
                  rcases Bool.eq_false_or_eq_true (sumB cj.1) with hs | hs
                  · rw [hs]
                    go_wp2_with fail
                    refine (outside_any cj.2 1 1000000000000 _).mono ?_
                    rintro e w' ⟨rfl, rfl⟩
                    rcases Bool.eq_false_or_eq_true (outsideB cj.2 1 1000000000000) with ho | ho
                    · have H1 := Lib.hid (ff_no hn hlt HZ.out (x := 1) (by rw [HR2.out, firstTo_at hjl HZ1.out (by rw [HC.out, chF, hs, ho]; decide), HC.out, chF, hs, ho]; rfl) (by decide))
                      rw [ho]
                      go_wp2_with fail
                      go_ret
                      exact ⟨ret_int H1.out.symm, hb7⟩
                    · have H0 := Lib.hid (firstTo_succ HZ1.out (by rw [HC.out, chF, hs, ho]; rfl))
                      rw [ho]
                      go_wp2_with fail
                      go_roundg (gk - 1)
                      case measure => omega
                      case rel => exact ⟨j + 1, by have := HJ.out; omega, by go_num, H0.out, hb7, hb8⟩
                  · have H3 := Lib.hid (ff_no hn hlt HZ.out (x := 3) (by rw [HR2.out, firstTo_at hjl HZ1.out (by rw [HC.out, chF, hs]; simp), HC.out, chF, hs]; rfl) (by decide))
                    rw [hs]
                    go_wp2_with fail
                    go_ret
                    exact ⟨ret_int H3.out.symm, hb7⟩
set_option maxRecDepth 100000 in
set_option maxHeartbeats 4000000 in
theorem filesFaultOf_any (A : Option Addr) (lo c : Nat) (fs : List FileD) (w : World) (hf : FilesAt w lo (.slice A fs.length c) fs) (hok : FilesOk fs) (hn : fs.length ≤ 300) :
    Calls Tryz.prog 78 #[.slice A fs.length c] w fun e w' => e = .returned (.int .i64 (filesF fs)) ∧ Below w.heap.size w w' := by
  have hmm := @run_makeMap Tryz.prog
  have HF := Lib.hid hf
  have HOK := Lib.hid hok
  clear hf hok
  go_enter Tryz.func78, Tryz.ntmps78
  go_wp2_with fail
  go_loopg [19, 3, 4, 6, 51, 24, 29, 43] fs.length (fun g i _ _ _ _ _ _ _ wr => FfRel fs w g i wr)
  case atStart => exact ⟨0, by omega, rfl, rfl, Below.refl _ _⟩
  case round =>
    obtain ⟨k, hk, rfl, hz0, hb⟩ := hrel
    by_cases hg : gk = 0
    · obtain rfl : k = fs.length := by omega
      have HW := Lib.hid (show filesF fs = mapF (mAll (chunksTo fs fs.length)) by rw [filesF, if_neg (by omega), if_pos hz0])
      clear hk hz0 hg
      go_wp2_with fail
      have hbz := hb.size
      have hown0 : (wr.alloc (.map #[] 0)).ownsMap Tryz.prog 9 (plainElem (H := Unit) Tryz.prog 3) wr.heap.size 0 (.map []) := World.ownsMap_made _ _ _ _
      have hbA := hb.alloc hbz (.map #[] 0)
      obtain ⟨mb, hmb⟩ : ∃ mb, mb = wr.heap.size := ⟨_, rfl⟩
      rw [← hmb] at hown0 hbz ⊢
      generalize wr.alloc (.map #[] 0) = w0 at *
      clear hb hmb wr
      go_loopg [68, 9, 11, 12, 13, 75] fs.length (fun g i _ _ _ _ _ wr => MfRel fs w mb g i wr)
      case atStart => exact ⟨0, .map [], by omega, rfl, rfl, by simpa using hown0, hbA⟩
      case round =>
        obtain ⟨k, D, hk, rfl, hD, hown, hb⟩ := hrel
        by_cases hg : gk = 0
        · obtain rfl : k = fs.length := by omega
          rw [hD] at HW
          clear hk hD hg
          by_cases hs : (2000 : Int) < (Maps.size D : Int)
          · have HW2 := Lib.hid (show filesF fs = 2 by rw [HW.out, mapF, sizeF, if_pos hs])
            go_wp2_with (at_len; refine wpList_len_own _ rfl _ 202 rfl 9 3 Tryz.underlying202 _ mb _ D rfl hown ?_)
            go_wp2_with fail
            go_ret
            exact ⟨ret_int HW2.out.symm, hb⟩
          · have HW2 := Lib.hid (show filesF fs = 0 by rw [HW.out, mapF, sizeF, if_neg hs])
            go_wp2_with (at_len; refine wpList_len_own _ rfl _ 202 rfl 9 3 Tryz.underlying202 _ mb _ D rfl hown ?_)
            go_wp2_with fail
            go_ret
            exact ⟨ret_int HW2.out.symm, hb⟩
        · have hlt : k < fs.length := by omega
          obtain ⟨g, o, B, m, d, rfl, hgl, cK0, cC0, hm, hL⟩ := HF.out.at_ hlt
          have cK := (hb.cell (p := ⟨g, o + k * 2, none⟩) hgl).trans cK0
          have cC := (hb.cell (p := ⟨g, o + k * 2 + 1, none⟩) hgl).trans cC0
          have HK := Lib.hid hk
          have HD := Lib.hid hD
          have HOW := Lib.hid hown
          have HM := Lib.hid hm
          have HL := Lib.hid hL
          have hgk : gk ≠ 0 := hg
          clear hk hD hm hL hg hown cK0 cC0
          generalize fs[k].1 = key at *
          go_wp2_with fail
          have hcok : ∀ c ∈ fs[k].2, c.1.size ≤ 1000000000000 ∧ -1000000000000000 ≤ c.2 ∧ c.2 ≤ 1000000000000000 := (HOK.out _ (List.getElem_mem hlt)).2.2
          have hclen := (HOK.out _ (List.getElem_mem hlt)).2.1
          have hbz1 := hb.size
          have hb2 := hb.alloc hbz1 (.cells #[.string key, .slice B m d] 52)
          have how2 := HOW.out.alloc (.cells #[.string key, .slice B m d] 52)
          have HNO := Lib.hid (fun j (hj : j < fs[k].2.length) D' h1 h2 => mAll_no fs hlt hj (D := D') h1 h2)
          have HYES := Lib.hid (fun j (hj : j < fs[k].2.length) D1 D2 h1 h2 => mAll_snoc fs hlt hj (D := D1) (D' := D2) h1 h2)
          have HCT := Lib.hid (chunksTo_succ fs k hlt)
          generalize fs[k].2 = cs at *
          have hkn : k ≤ 300 := by omega
          clear cK cC hb
          generalize wr.alloc (.cells #[.string key, .slice B m d] 52) = w2 at *
          generalize wr.heap.size = pb at *
          clear HOW wr
          obtain ⟨gq, rfl⟩ : ∃ gq, gq = gk := ⟨_, rfl⟩
          go_loopg [75, 11, 12, 13] cs.length (fun g i _ _ _ wx => McRel fs cs k w mb g i wx)
          case atStart => exact ⟨0, D, by omega, rfl, by simpa using HD.out, by simpa using how2, hb2⟩
          case round =>
            obtain ⟨j, E, hj, rfl, hE, hown, hb3⟩ := hrel
            have hmc := HM.out
            by_cases hg1 : gk = 0
            · obtain rfl : j = m := by omega
              have HE := Lib.hid (show mAll (chunksTo fs (k + 1)) = some E by rw [HCT.out, ← hE, hmc, List.take_length])
              have how3 := hown.mono (n' := (k + 1) * 1000000000) (by omega)
              have HOW := Lib.hid how3
              clear hown how3 how2 hE hj hmc
              go_wp2_with fail
              go_roundg (gq - 1)
              case measure => omega
              case rel => exact ⟨k + 1, E, by have := HK.out; omega, by go_num, HE.out, HOW.out, hb3⟩
            · have hjl : j < cs.length := by omega
              obtain ⟨g2, o2, rfl, hg2, e0, e1⟩ := HL.out.chunk hjl hmc
              have f0 := (hb3.cell (p := ⟨g2, o2 + j * 2, none⟩) hg2).trans e0
              have f1 := (hb3.cell (p := ⟨g2, o2 + j * 2 + 1, none⟩) hg2).trans e1
              have hcj := hcok _ (List.getElem_mem hjl)
              have HNO' := HNO.out j hjl E hE
              have HYES' := fun D2 => HYES.out j hjl E D2 hE
              have HJ := Lib.hid hj
              have hjm : j < m := by omega
              have hgk1 : gk ≠ 0 := hg1
              have hnm : k * 1000000000 + j < maxLen := by unfold maxLen; omega
              clear hj hmc hg1 e0 e1 how2 hE
              generalize cs[j] = cj at *
              obtain ⟨ck, cz⟩ := cj
              have HN := Lib.hid HNO'
              have HY := Lib.hid HYES'
              have hkey : keyOf Tryz.prog 9 (.string ck) = some (litS ck) := keyOf_string_mk Tryz.underlying9 (by have h : ck.size ≤ 1000000000000 := hcj.1; unfold maxLen; omega)
              have hwz : (Lit.int .i64 cz).wf = true := wf64 (by have h : _ ≤ cz := hcj.2.1; omega) (by have h : cz ≤ _ := hcj.2.2; omega)
              clear HNO' HYES' hcj
              have hbz3 := hb3.size
              have how3 := hown.alloc (.cells #[.string ck, .int .i64 cz] 49)
              clear hown
              go_wp2_with (at_lookup; refine wpList_lookup_own_ok_int _ rfl _ _ 202 rfl 9 3 .i64 law_str Tryz.underlying202 Tryz.underlying3 (zero_int _) mb _ E rfl how3 _ _ rfl hkey ?_)
              intro cL hat hwc
              have hd : dInt (E.atKey (litS ck) (i64D 0)) = cL := by unfold i64D; rw [hat]; rfl
              have HD2 := Lib.hid hd
              clear hat hwc hd
              rcases Bool.eq_false_or_eq_true (Maps.has E (litS ck) && (cL != cz)) with hx | hx
              · have HX := Lib.hid (show filesF fs = 13 by rw [HW.out, HN.out (by simp only [mStep]; rw [HD2.out, hx]; rfl)]; rfl)
                have hx1 := (Bool.and_eq_true _ _ ▸ hx).1
                have hx2 := (Bool.and_eq_true _ _ ▸ hx).2
                rw [hx1]
                go_wp2_with fail
                go_ret
                exact ⟨ret_int HX.out.symm, hb3.alloc hbz3 _⟩
              · have HX := Lib.hid (HY.out (E.put (litS ck) (i64D cz)) (by simp only [mStep]; rw [HD2.out, hx]; rfl))
                rcases Bool.eq_false_or_eq_true (Maps.has E (litS ck)) with hx1 | hx1
                · have hx2 : (cL != cz) = false := by rw [hx1, Bool.true_and] at hx; exact hx
                  clear hx
                  rw [hx1]
                  go_wp2_with (at_mapUpdate; refine wpList_mapUpdate_own _ rfl _ _ _ 202 rfl 9 3 law_str Tryz.underlying202 _ mb _ E rfl how3 hnm _ _ _ rfl rfl hkey (i64D cz) [] (plainElem_int Tryz.underlying3 hwz) ?_)
                  intro w4 how4 hgr4
                  have hb4 : Below w.heap.size w w4 := (hb3.alloc hbz3 _).grown hgr4 (by simp; omega) (fun x hx => by cases hx; exact hbz)
                  have HOW := Lib.hid (how4.mono (n' := k * 1000000000 + (j + 1)) (by omega))
                  clear how3 how4
                  go_wp2_with fail
                  go_roundg (gk - 1)
                  case measure => omega
                  case rel => exact ⟨j + 1, _, by have := HJ.out; omega, by go_num, HX.out, HOW.out, hb4⟩
                · clear hx
                  rw [hx1]
                  go_wp2_with (at_mapUpdate; refine wpList_mapUpdate_own _ rfl _ _ _ 202 rfl 9 3 law_str Tryz.underlying202 _ mb _ E rfl how3 hnm _ _ _ rfl rfl hkey (i64D cz) [] (plainElem_int Tryz.underlying3 hwz) ?_)
                  intro w4 how4 hgr4
                  have hb4 : Below w.heap.size w w4 := (hb3.alloc hbz3 _).grown hgr4 (by simp; omega) (fun x hx => by cases hx; exact hbz)
                  have HOW := Lib.hid (how4.mono (n' := k * 1000000000 + (j + 1)) (by omega))
                  clear how3 how4
                  go_wp2_with fail
                  go_roundg (gk - 1)
                  case measure => omega
                  case rel => exact ⟨j + 1, _, by have := HJ.out; omega, by go_num, HX.out, HOW.out, hb4⟩
    · have hlt : k < fs.length := by omega
      have hf' := HF.out.keep hb.size (fun x _ hx => hb.block x hx)
      obtain ⟨g, o, B, m, d, rfl, hgl, cK, cC, hm, hL⟩ := hf'.at_ hlt
      have HK := Lib.hid hk
      have HZ := Lib.hid hz0
      clear hk hz0
      have HM := Lib.hid hm
      have HL := Lib.hid hL
      have hks : fs[k].1.size ≤ 1000000000000 := (HOK.out _ (List.getElem_mem hlt)).1
      have HA := Lib.hid (fAt_eq fs hlt)
      have hgk : gk ≠ 0 := hg
      clear hm hL hf' hg
      go_wp2_with fail
      generalize hkey : fs[k].1 = key at *
      refine (Key_any key hks _).mono ?_
      rintro e w1 ⟨rfl, hb1⟩
      have hbz := hb.size
      have hb1z := hb1.size
      have HKEY := Lib.hid hkey
      clear hkey
      rcases Bool.eq_false_or_eq_true (keyB key) with hkb | hkb
      rotate_left
      · have H5 := Lib.hid (ff_no hn hlt HZ.out (x := 5) (by rw [fiF, HA.out, HKEY.out, hkb]; rfl) (by decide))
        rw [hkb]
        go_wp2_with fail
        go_ret
        exact ⟨ret_int H5.out.symm, (hb.alloc hbz _).trans (hb1.mono (by simp; omega))⟩
      · have c0 : w1.cell? ⟨wr.heap.size, 0, none⟩ = some (.string key) := (hb1.cell (p := ⟨wr.heap.size, 0, none⟩) (by simp)).trans (cell_new_list wr _ _ 0 _ rfl)
        have c1 : w1.cell? ⟨wr.heap.size, 1, none⟩ = some (.slice B m d) := (hb1.cell (p := ⟨wr.heap.size, 1, none⟩) (by simp)).trans (cell_new_list wr _ _ 1 _ rfl)
        have hb2 : Below w.heap.size w w1 := (hb.alloc hbz _).trans (hb1.mono (by simp; omega))
        have hl1 : wr.heap.size < w1.heap.size := by simp at hb1z; omega
        have HPREV : Hid (∀ k', k = k' + 1 → w1.cell? ⟨g, o + k' * 2, none⟩ = some (.string (fAt fs k').1)) := fun k' e => by
          subst e
          obtain ⟨g2, o2, _, _, _, e2, _, h2, _⟩ := (HF.out.below hb2).at_ (i := k') (by omega)
          simp only [Option.some.injEq, Addr.mk.injEq] at e2
          obtain ⟨rfl, rfl, _⟩ := e2
          rw [fAt_eq fs (by omega : k' < fs.length)]
          exact h2
        have HLB : Hid (∀ q, Lst (w1.drewN q) lo 2 (.slice B m d) (fs[k].2.flatMap chC)) := fun q =>
          (HL.out.below ((Below.refl _ _).alloc (Nat.le_refl _) _)).below (below_drewN hb1 q)
        clear hb1 cK cC hb1z
        rw [hkb]
        go_upto_region 8 with fail
        go_cut [29] (fun s wx => s = .bool (decide (0 < k) && keyLe key (fAt fs (k - 1)).1) ∧ ∃ q, wx = w1.drewN q)
        case first =>
          rcases k with _ | k'
          · have hd : decide ((0 : Int) < ((0 : Nat) : Int)) = false := by decide
            go_quiet (fail)
            go_wp2_with fail
            go_meet
            exact ⟨rfl, _, rfl⟩
          · have cP := HPREV.out k' rfl
            have hd : decide ((0 : Int) < ((k' + 1 : Nat) : Int)) = true := by simp
            go_quiet (fail)
            go_wp2_with fail
            go_meet
            exact ⟨by simp [keyLe], _, rfl⟩
        case rest =>
          obtain ⟨rfl, q, rfl⟩ := hcut
          have d0 : (w1.drewN q).cell? ⟨wr.heap.size, 0, none⟩ = some (.string key) := c0
          have d1 : (w1.drewN q).cell? ⟨wr.heap.size, 1, none⟩ = some (.slice B m d) := c1
          have hb3 : Below w.heap.size w (w1.drewN q) := below_drewN hb2 q
          have hl2 : wr.heap.size < (w1.drewN q).heap.size := hl1
          have HL1 : Hid (Lst (w1.drewN q) lo 2 (.slice B m d) (fs[k].2.flatMap chC)) := HLB.out q
          have HR := Lib.hid (show fiF fs k = _ by rw [fiF, HA.out, HKEY.out, hkb, if_pos rfl])
          clear HPREV HLB HL c0 c1 hb2 hl1
          generalize w1.drewN q = w2 at *
          clear w1
          rcases Bool.eq_false_or_eq_true (decide (0 < k) && keyLe key (fAt fs (k - 1)).1) with hc | hc
          · have H7 := Lib.hid (ff_no hn hlt HZ.out (x := 7) (by rw [HR.out, hc]; rfl) (by decide))
            rw [hc]
            clear hc HR
            go_wp2_with fail
            go_ret
            exact ⟨ret_int H7.out.symm, hb3⟩
          · rw [hc] at HR ⊢
            clear hc
            rcases Nat.eq_zero_or_pos m with h0 | h0
            · have H8 := Lib.hid (ff_no hn hlt HZ.out (x := 8) (by rw [HR.out, ← HM.out, h0]; rfl) (by decide))
              subst h0
              clear HR
              go_wp2_with fail
              go_ret
              exact ⟨ret_int H8.out.symm, hb3⟩
            · have h0' : ((m : Int) == 0) = false := by simp; omega
              go_wp2_with fail
              have HR2 := Lib.hid (show fiF fs k = firstTo (chsF fs[k].2) fs[k].2.length by rw [HR.out, if_neg (by decide), if_neg (by rw [← HM.out]; omega)])
              clear HR
              have hcok : ∀ c ∈ fs[k].2, c.1.size ≤ 1000000000000 ∧ -1000000000000000 ≤ c.2 ∧ c.2 ≤ 1000000000000000 := (HOK.out _ (List.getElem_mem hlt)).2.2
              have hclen := (HOK.out _ (List.getElem_mem hlt)).2.1
              generalize fs[k].2 = cs at *
              clear hgl hb
              generalize wr.heap.size = pb at *
              clear wr
              obtain ⟨gq, rfl⟩ : ∃ gq, gq = gk := ⟨_, rfl⟩
              go_loopg [51, 6] cs.length (fun g i _ wx => FcRel cs w w2 g i wx)
              case atStart => exact ⟨0, by omega, rfl, rfl, hb3, Below.refl _ _⟩
              case round =>
                obtain ⟨j, hj, rfl, hz1, hb4, hb5⟩ := hrel
                have hmc := HM.out
                by_cases hg1 : gk = 0
                · obtain rfl : j = m := by omega
                  have H0 := Lib.hid (firstTo_succ HZ.out (by rw [HR2.out, ← hmc]; exact hz1))
                  clear hz1 hj hmc
                  go_wp2_with fail
                  go_roundg (gq - 1)
                  case measure => omega
                  case rel => exact ⟨k + 1, by have := HK.out; omega, by go_num, H0.out, hb4⟩
                · have hjl : j < cs.length := by omega
                  obtain ⟨g2, o2, rfl, hg2, e0, e1⟩ := (HL1.out.below hb5).chunk hjl hmc
                  have hcj := hcok _ (List.getElem_mem hjl)
                  have HC := Lib.hid (show chsF cs j = chF cs[j] by simp [chsF, List.getD, List.getElem?_eq_getElem hjl])
                  have HJ := Lib.hid hj
                  have HZ1 := Lib.hid hz1
                  have hjm : j < m := by omega
                  have hgk : gk ≠ 0 := hg1
                  clear hj hz1 hmc hg1
                  go_wp2_with fail
                  generalize hcc : cs[j] = cj at *
                  refine (SumRight_any cj.1 hcj.1 _).mono ?_
                  rintro e w3 ⟨rfl, hb6⟩
                  have HCC := Lib.hid hcc
                  have hbz4 := hb4.size
                  have hbz6 := hb6.size
                  have e2 : w3.cell? ⟨wr.heap.size, 1, none⟩ = some (.int .i64 cj.2) := (hb6.cell (p := ⟨wr.heap.size, 1, none⟩) (by simp)).trans (cell_new_list wr _ _ 1 _ rfl)
                  have hb7 : Below w.heap.size w w3 := (hb4.alloc hbz4 _).trans (hb6.mono (by simp; omega))
                  have hb8 : Below w2.heap.size w2 w3 := (hb5.alloc hb5.size _).trans (hb6.mono (by have := hb5.size; simp; omega))
                  have hwl : wr.heap.size < w3.heap.size := by simp at hbz6; omega
                  clear hcc hb6 hb4 hb5 hbz6 hbz4 e0 e1 hg2
                  rcases Bool.eq_false_or_eq_true (sumB cj.1) with hs | hs
                  · rw [hs]
                    go_wp2_with fail
                    refine (in_any cj.2 1 1000000000000 _).mono ?_
                    rintro e w' ⟨rfl, rfl⟩
                    rcases Bool.eq_false_or_eq_true (outsideB cj.2 1 1000000000000) with ho | ho
                    · have H1 := Lib.hid (ff_no hn hlt HZ.out (x := 1) (by rw [HR2.out, firstTo_at hjl HZ1.out (by rw [HC.out, chF, hs, ho]; decide), HC.out, chF, hs, ho]; rfl) (by decide))
                      rw [ho]
                      go_wp2_with fail
                      go_ret
                      exact ⟨ret_int H1.out.symm, hb7⟩
                    · have H0 := Lib.hid (firstTo_succ HZ1.out (by rw [HC.out, chF, hs, ho]; rfl))
                      rw [ho]
                      go_wp2_with fail
                      go_roundg (gk - 1)
                      case measure => omega
                      case rel => exact ⟨j + 1, by have := HJ.out; omega, by go_num, H0.out, hb7, hb8⟩
                  · have H3 := Lib.hid (ff_no hn hlt HZ.out (x := 3) (by rw [HR2.out, firstTo_at hjl HZ1.out (by rw [HC.out, chF, hs]; simp), HC.out, chF, hs]; rfl) (by decide))
                    rw [hs]
                    go_wp2_with fail
                    go_ret
                    exact ⟨ret_int H3.out.symm, hb7⟩
end Go.Proofs.YtegalkmfoffpfaaGreatDoor
