/- needsFault, NeedsFault. -/
import Derived.Test.YtegalkmfoffpfaaGreatDoorCarriedWalk
import Derived.Test.YtegalkmfoffpfaaGreatDoorFilesWalk
namespace Go.Proofs.YtegalkmfoffpfaaGreatDoor
open Go.RowKit
abbrev NeedD := ByteArray × Int × Int
def ndC (x : NeedD) : List Value := [.string x.1, .int .i64 x.2.1, .int .i64 x.2.2]
theorem Lst.need {w : World} {lo n c : Nat} {A : Option Addr} {ls : List NeedD} (h : Lst w lo 3 (.slice A n c) (ls.flatMap ndC)) {j : Nat} (hj : j < ls.length) (hn : n = ls.length) :
    ∃ g o, A = some ⟨g, o, none⟩ ∧ g < w.heap.size ∧ w.cell? ⟨g, o + j * 3, none⟩ = some (.string ls[j].1) ∧ w.cell? ⟨g, o + j * 3 + 1, none⟩ = some (.int .i64 ls[j].2.1) ∧ w.cell? ⟨g, o + j * 3 + 2, none⟩ = some (.int .i64 ls[j].2.2) := by
  obtain ⟨g, o, rfl, _, hg, hc⟩ := h.open_ (by omega)
  have a0 := hc (j * 3 + 0) (.string ls[j].1) (by rw [flat3_at _ _ (fun _ => rfl) j 0 hj (by omega)]; rfl)
  have a1 := hc (j * 3 + 1) (.int .i64 ls[j].2.1) (by rw [flat3_at _ _ (fun _ => rfl) j 1 hj (by omega)]; rfl)
  have a2 := hc (j * 3 + 2) (.int .i64 ls[j].2.2) (by rw [flat3_at _ _ (fun _ => rfl) j 2 hj (by omega)]; rfl)
  exact ⟨g, o, rfl, hg, by simpa using a0, by rw [Nat.add_assoc]; exact a1, by rw [Nat.add_assoc]; exact a2⟩
def nAt (ns : List NeedD) (i : Nat) : NeedD := ns.getD i (.empty, 0, 0)
theorem nAt_eq (ns : List NeedD) {k : Nat} (h : k < ns.length) : nAt ns k = ns[k] := by simp [nAt, List.getD, List.getElem?_eq_getElem h]
def ndBad (b d : Int) : Bool := outsideB b 1 1000000000000 || outsideB d 0 345686400000
def niF (ns : List NeedD) (i : Nat) : Int :=
  if keyB (nAt ns i).1 then (if decide (0 < i) && keyLe (nAt ns i).1 (nAt ns (i - 1)).1 then 7 else if ndBad (nAt ns i).2.1 (nAt ns i).2.2 then 1 else 0) else 5
def needsF (ns : List NeedD) : Int := if 300 < ns.length then 2 else firstTo (niF ns) ns.length
def NdRel (ns : List NeedD) (w : World) (g : Nat) (i : Value) (wr : World) : Prop :=
  ∃ k : Nat, k + g = ns.length ∧ i = .int .i64 k ∧ firstTo (niF ns) k = 0 ∧ Below w.heap.size w wr
def NdOk (ns : List NeedD) : Prop := ∀ x ∈ ns, x.1.size ≤ 1000000000000 ∧ (-1000000000000000 ≤ x.2.1 ∧ x.2.1 ≤ 1000000000000000) ∧ -1000000000000000 ≤ x.2.2 ∧ x.2.2 ≤ 1000000000000000
theorem need_cells {w : World} {b : Nat} {u v x : Value} {t : TypeId} (h : w.heap[b]? = some (.cells #[u, v, x] t (0, 0))) :
    w.cell? ⟨b, 0, none⟩ = some u ∧ w.cell? ⟨b, 1, none⟩ = some v ∧ w.cell? ⟨b, 2, none⟩ = some x := by
  simp [World.cell?, h]
set_option maxRecDepth 100000 in
set_option maxHeartbeats 4000000 in
theorem NeedsFault_any (A : Option Addr) (lo c : Nat) (ns : List NeedD) (w : World) (hf : Lst w lo 3 (.slice A ns.length c) (ns.flatMap ndC)) (hok : NdOk ns) (hn : ns.length ≤ 300) :
    Calls Tryz.prog 39 #[.slice A ns.length c] w fun e w' => e = .returned (.int .i64 (needsF ns)) ∧ Below w.heap.size w w' := by
  have HN := Lib.hid hf
  have HOK := Lib.hid hok
  obtain ⟨v, hv⟩ : ∃ v, v = needsF ns := ⟨_, rfl⟩
  rw [← hv]
  have HV := Lib.hid (show v = firstTo (niF ns) ns.length by rw [hv, needsF, if_neg (by omega)])
  clear hf hok hv
  have hB0 := Below.refl w.heap.size w
  go_enter Tryz.func39, Tryz.ntmps39
  go_wp2_with fail
  go_loopg [10, 3, 4] ns.length (fun g i _ _ wr => NdRel ns w g i wr)
  case atStart => exact ⟨0, by omega, rfl, rfl, hB0⟩
  case round =>
    obtain ⟨k, hk, rfl, hz0, hb⟩ := hrel
    by_cases hg : gk = 0
    · obtain rfl : k = ns.length := by omega
      have HW := Lib.hid (HV.out.trans hz0)
      clear hk hz0 hg
      go_wp2_with fail
      go_ret
      exact ⟨ret_int HW.out.symm, hb⟩
    · have hlt : k < ns.length := by omega
      obtain ⟨g, o, rfl, hgl, cK, cB, cD⟩ := (HN.out.below hb).need hlt rfl
      have hox := HOK.out _ (List.getElem_mem hlt)
      have HA := Lib.hid (nAt_eq ns hlt)
      have HK := Lib.hid hk
      have HZ := Lib.hid hz0
      have hgk : gk ≠ 0 := hg
      clear hk hz0 hg
      generalize ns[k] = x at *
      obtain ⟨key, nb, nd⟩ := x
      obtain ⟨hks, ⟨hq0, hq1⟩, hd0, hd1⟩ : key.size ≤ 1000000000000 ∧ (-1000000000000000 ≤ nb ∧ nb ≤ 1000000000000000) ∧ -1000000000000000 ≤ nd ∧ nd ≤ 1000000000000000 := hox
      have HFI := Lib.hid (show niF ns k = if keyB key then (if decide (0 < k) && keyLe key (nAt ns (k - 1)).1 then 7 else if ndBad nb nd then 1 else 0) else 5 by rw [niF, HA.out])
      go_wp2_with fail
      have hb0 := bbox hb (.cells #[.string key, .int .i64 nb, .int .i64 nd] 155)
      have HX := Lib.hid (heap_alloc_new wr (.cells #[.string key, .int .i64 nb, .int .i64 nd] 155))
      generalize wr.alloc (.cells #[.string key, .int .i64 nb, .int .i64 nd] 155) = w0 at *
      refine (Key_any key hks _).mono ?_
      rintro e w1 ⟨rfl, hb1⟩
      have hb2 := bon hb0 hb1
      have hM := (hb1.block wr.heap.size (block_lt HX.out)).trans HX.out
      have c0 := (need_cells hM).1
      have c1 := (need_cells hM).2.1
      have c2 := (need_cells hM).2.2
      have hl1 := block_lt hM
      have HPREV : Hid (∀ k', k = k' + 1 → w1.cell? ⟨g, o + k' * 3, none⟩ = some (.string (nAt ns k').1)) := fun k' e => by
        subst e
        obtain ⟨g2, o2, e2, _, h2, _⟩ := (HN.out.below hb2).need (j := k') (by omega) rfl
        simp only [Option.some.injEq, Addr.mk.injEq] at e2
        obtain ⟨rfl, rfl, _⟩ := e2
        rw [nAt_eq ns (by omega : k' < ns.length)]
        exact h2
      clear hM HX hb1 hb0 cK cB cD hb HA
      generalize wr.heap.size = pb at *
      clear w0
      rcases Bool.eq_false_or_eq_true (keyB key) with hkb | hkb
      rotate_left
      · have H5 := Lib.hid (show v = 5 by rw [HV.out, firstTo_at hlt HZ.out (by rw [HFI.out, hkb, if_neg Bool.false_ne_true]; decide), HFI.out, hkb]; rfl)
        rw [hkb]
        clear hkb HFI
        go_wp2_with fail
        go_ret
        exact ⟨ret_int H5.out.symm, hb2⟩
      · rw [hkb, if_pos rfl] at HFI
        rw [hkb]
        clear hkb
        go_upto_region 8 with fail
        go_cut [20] (fun s wx => s = .bool (decide (0 < k) && keyLe key (nAt ns (k - 1)).1) ∧ ∃ q, wx = w1.drewN q)
        case first =>
          rcases k with _ | k'
          · have hd : decide ((0 : Int) < ((0 : Nat) : Int)) = false := by decide
            go_quiet (fail)
            go_wp2_with fail
            go_meet
            exact ⟨rfl, _, rfl⟩
          · have cP := HPREV.out k' rfl
            have hd : decide ((0 : Int) < ((k' + 1 : Nat) : Int)) = true := by simp
            go_quiet (fail)
            go_wp2_with fail
            go_meet
            exact ⟨by simp [keyLe], _, rfl⟩
        case rest =>
          obtain ⟨rfl, q, rfl⟩ := hcut
          have d1 : (w1.drewN q).cell? ⟨pb, 1, none⟩ = some (.int .i64 nb) := c1
          have d2 : (w1.drewN q).cell? ⟨pb, 2, none⟩ = some (.int .i64 nd) := c2
          have hb3 : Below w.heap.size w (w1.drewN q) := below_drewN hb2 q
          have hl2 : pb < (w1.drewN q).heap.size := hl1
          clear HPREV c0 c1 c2 hb2 hl1
          generalize w1.drewN q = w2 at *
          clear w1
          rcases Bool.eq_false_or_eq_true (decide (0 < k) && keyLe key (nAt ns (k - 1)).1) with hc | hc
          · have H7 := Lib.hid (show v = 7 by rw [HV.out, firstTo_at hlt HZ.out (by rw [HFI.out, hc, if_pos rfl]; decide), HFI.out, hc]; rfl)
            rw [hc]
            clear hc HFI
            go_wp2_with fail
            go_ret
            exact ⟨ret_int H7.out.symm, hb3⟩
          · rw [hc] at HFI ⊢
            clear hc
            have HFJ := Lib.hid (show niF ns k = if ndBad nb nd then 1 else 0 from HFI.out)
            clear HFI
            go_upto_region 10 with fail
            go_cut [34] (fun s wx => s = .bool (ndBad nb nd) ∧ w2 = wx)
            case first =>
              go_wp2_with fail
              refine (in_any nb 1 1000000000000 _).mono ?_
              rintro e w' ⟨rfl, rfl⟩
              rcases Bool.eq_false_or_eq_true (outsideB nb 1 1000000000000) with ho | ho
              · have HB := Lib.hid (show ndBad nb nd = true by rw [ndBad, ho]; rfl)
                rw [ho]
                clear ho HFJ
                go_wp2_with fail
                go_meet
                exact ⟨by rw [HB.out], rfl⟩
              · have HB := Lib.hid (show ndBad nb nd = outsideB nd 0 345686400000 by rw [ndBad, ho]; rfl)
                rw [ho]
                clear ho HFJ
                go_wp2_with fail
                refine (in_any nd 0 345686400000 _).mono ?_
                rintro e w' ⟨rfl, rfl⟩
                rcases Bool.eq_false_or_eq_true (outsideB nd 0 345686400000) with hp | hp
                all_goals
                  rw [hp] at HB ⊢
                  clear hp
                  go_wp2_with fail
                  go_meet
                  exact ⟨by rw [HB.out], rfl⟩
            case rest =>
              obtain ⟨rfl, rfl⟩ := hcut
              rcases Bool.eq_false_or_eq_true (ndBad nb nd) with hc | hc
              · have H1 := Lib.hid (show v = 1 by rw [HV.out, firstTo_at hlt HZ.out (by rw [HFJ.out, hc]; decide), HFJ.out, hc]; rfl)
                rw [hc]
                clear hc HFJ
                go_wp2_with fail
                go_ret
                exact ⟨ret_int H1.out.symm, hb3⟩
              · have H0 := Lib.hid (firstTo_succ HZ.out (by rw [HFJ.out, hc]; rfl))
                rw [hc]
                clear hc HFJ
                go_wp2_with fail
                go_roundg (gk - 1)
                case measure => omega
                case rel => exact ⟨k + 1, by have := HK.out; omega, by go_num, H0.out, hb3⟩
def nfF (ls : List LinkD) (a : Int) (ns : List NeedD) : Int := if linksF ls = 0 then (if momB a then needsF ns else 1) else linksF ls
set_option maxRecDepth 100000 in
set_option maxHeartbeats 4000000 in
theorem needsFault_any (A A' : Option Addr) (lo lo' c c' : Nat) (ls : List LinkD) (a : Int) (ns : List NeedD) (w : World) (hf : Lst w lo 3 (.slice A ls.length c) (ls.flatMap lkC)) (hm : ls.length ≤ 20) (hbd : LkBd ls)
    (hf' : Lst w lo' 3 (.slice A' ns.length c') (ns.flatMap ndC)) (hok : NdOk ns) (hn : ns.length ≤ 300) :
    Calls Tryz.prog 103 #[.slice A ls.length c, .int .i64 a, .slice A' ns.length c'] w fun e w' => e = .returned (.int .i64 (nfF ls a ns)) ∧ Below w.heap.size w w' := by
  have HF := Lib.hid hf
  have HN := Lib.hid hf'
  have HOK := Lib.hid hok
  obtain ⟨v, hv⟩ : ∃ v, v = nfF ls a ns := ⟨_, rfl⟩
  rw [← hv]
  have HU := Lib.hid hv
  clear hf hf' hok hv
  go_enter Tryz.func103, Tryz.ntmps103
  go_wp2_with fail
  refine (checkLinks_any A lo c ls _ HF.out (by omega) hbd).mono ?_
  rintro e w0 ⟨rfl, hB0⟩
  by_cases hl : linksF ls = 0
  · have HL := Lib.hid hl
    rw [hl]
    clear hl
    go_wp2_with fail
    refine (isMoment_any a _).mono ?_
    rintro e w' ⟨rfl, rfl⟩
    rcases Bool.eq_false_or_eq_true (momB a) with hm | hm
    · have HV := Lib.hid (show v = firstTo (niF ns) ns.length by rw [HU.out, nfF, if_pos HL.out, hm, if_pos rfl, needsF, if_neg (by omega)])
      rw [hm]
      clear hm HU
      go_wp2_with fail
      go_loopg [23, 8, 9] ns.length (fun g i _ _ wr => NdRel ns w g i wr)
      case atStart => exact ⟨0, by omega, rfl, rfl, hB0⟩
      case round =>
        obtain ⟨k, hk, rfl, hz0, hb⟩ := hrel
        by_cases hg : gk = 0
        · obtain rfl : k = ns.length := by omega
          have HW := Lib.hid (HV.out.trans hz0)
          clear hk hz0 hg
          go_wp2_with fail
          go_ret
          exact ⟨ret_int HW.out.symm, hb⟩
        · have hlt : k < ns.length := by omega
          obtain ⟨g, o, rfl, hgl, cK, cB, cD⟩ := (HN.out.below hb).need hlt rfl
          have hox := HOK.out _ (List.getElem_mem hlt)
          have HA := Lib.hid (nAt_eq ns hlt)
          have HK := Lib.hid hk
          have HZ := Lib.hid hz0
          have hgk : gk ≠ 0 := hg
          clear hk hz0 hg
          generalize ns[k] = x at *
          obtain ⟨key, nb, nd⟩ := x
          obtain ⟨hks, ⟨hq0, hq1⟩, hd0, hd1⟩ : key.size ≤ 1000000000000 ∧ (-1000000000000000 ≤ nb ∧ nb ≤ 1000000000000000) ∧ -1000000000000000 ≤ nd ∧ nd ≤ 1000000000000000 := hox
          have HFI := Lib.hid (show niF ns k = if keyB key then (if decide (0 < k) && keyLe key (nAt ns (k - 1)).1 then 7 else if ndBad nb nd then 1 else 0) else 5 by rw [niF, HA.out])
          go_wp2_with fail
          have hb0 := bbox hb (.cells #[.string key, .int .i64 nb, .int .i64 nd] 155)
          have HX := Lib.hid (heap_alloc_new wr (.cells #[.string key, .int .i64 nb, .int .i64 nd] 155))
          generalize wr.alloc (.cells #[.string key, .int .i64 nb, .int .i64 nd] 155) = w0 at *
          refine (isKey_b key hks _).mono ?_
          rintro e w1 ⟨rfl, hb1⟩
          have hb2 := bon hb0 hb1
          have hM := (hb1.block wr.heap.size (block_lt HX.out)).trans HX.out
          have c0 := (need_cells hM).1
          have c1 := (need_cells hM).2.1
          have c2 := (need_cells hM).2.2
          have hl1 := block_lt hM
          have HPREV : Hid (∀ k', k = k' + 1 → w1.cell? ⟨g, o + k' * 3, none⟩ = some (.string (nAt ns k').1)) := fun k' e => by
            subst e
            obtain ⟨g2, o2, e2, _, h2, _⟩ := (HN.out.below hb2).need (j := k') (by omega) rfl
            simp only [Option.some.injEq, Addr.mk.injEq] at e2
            obtain ⟨rfl, rfl, _⟩ := e2
            rw [nAt_eq ns (by omega : k' < ns.length)]
            exact h2
          clear hM HX hb1 hb0 cK cB cD hb HA
          generalize wr.heap.size = pb at *
          clear w0
          rcases Bool.eq_false_or_eq_true (keyB key) with hkb | hkb
          rotate_left
          · have H5 := Lib.hid (show v = 5 by rw [HV.out, firstTo_at hlt HZ.out (by rw [HFI.out, hkb, if_neg Bool.false_ne_true]; decide), HFI.out, hkb]; rfl)
            rw [hkb]
            clear hkb HFI
            go_wp2_with fail
            go_ret
            exact ⟨ret_int H5.out.symm, hb2⟩
          · rw [hkb, if_pos rfl] at HFI
            rw [hkb]
            clear hkb
            go_upto_region 13 with fail
            go_cut [33] (fun s wx => s = .bool (decide (0 < k) && keyLe key (nAt ns (k - 1)).1) ∧ ∃ q, wx = w1.drewN q)
            case first =>
              rcases k with _ | k'
              · have hd : decide ((0 : Int) < ((0 : Nat) : Int)) = false := by decide
                go_quiet (fail)
                go_wp2_with fail
                go_meet
                exact ⟨rfl, _, rfl⟩
              · have cP := HPREV.out k' rfl
                have hd : decide ((0 : Int) < ((k' + 1 : Nat) : Int)) = true := by simp
                go_quiet (fail)
                go_wp2_with fail
                go_meet
                exact ⟨by simp [keyLe], _, rfl⟩
            case rest =>
              obtain ⟨rfl, q, rfl⟩ := hcut
              have d1 : (w1.drewN q).cell? ⟨pb, 1, none⟩ = some (.int .i64 nb) := c1
              have d2 : (w1.drewN q).cell? ⟨pb, 2, none⟩ = some (.int .i64 nd) := c2
              have hb3 : Below w.heap.size w (w1.drewN q) := below_drewN hb2 q
              have hl2 : pb < (w1.drewN q).heap.size := hl1
              clear HPREV c0 c1 c2 hb2 hl1
              generalize w1.drewN q = w2 at *
              clear w1
              rcases Bool.eq_false_or_eq_true (decide (0 < k) && keyLe key (nAt ns (k - 1)).1) with hc | hc
              · have H7 := Lib.hid (show v = 7 by rw [HV.out, firstTo_at hlt HZ.out (by rw [HFI.out, hc, if_pos rfl]; decide), HFI.out, hc]; rfl)
                rw [hc]
                clear hc HFI
                go_wp2_with fail
                go_ret
                exact ⟨ret_int H7.out.symm, hb3⟩
              · rw [hc] at HFI ⊢
                clear hc
                have HFJ := Lib.hid (show niF ns k = if ndBad nb nd then 1 else 0 from HFI.out)
                clear HFI
                go_upto_region 15 with fail
                go_cut [47] (fun s wx => s = .bool (ndBad nb nd) ∧ w2 = wx)
                case first =>
                  go_wp2_with fail
                  refine (outside_any nb 1 1000000000000 _).mono ?_
                  rintro e w' ⟨rfl, rfl⟩
                  rcases Bool.eq_false_or_eq_true (outsideB nb 1 1000000000000) with ho | ho
                  · have HB := Lib.hid (show ndBad nb nd = true by rw [ndBad, ho]; rfl)
                    rw [ho]
                    clear ho HFJ
                    go_wp2_with fail
                    go_meet
                    exact ⟨by rw [HB.out], rfl⟩
                  · have HB := Lib.hid (show ndBad nb nd = outsideB nd 0 345686400000 by rw [ndBad, ho]; rfl)
                    rw [ho]
                    clear ho HFJ
                    go_wp2_with fail
                    refine (outside_any nd 0 345686400000 _).mono ?_
                    rintro e w' ⟨rfl, rfl⟩
                    rcases Bool.eq_false_or_eq_true (outsideB nd 0 345686400000) with hp | hp
                    all_goals
                      rw [hp] at HB ⊢
                      clear hp
                      go_wp2_with fail
                      go_meet
                      exact ⟨by rw [HB.out], rfl⟩
                case rest =>
                  obtain ⟨rfl, rfl⟩ := hcut
                  rcases Bool.eq_false_or_eq_true (ndBad nb nd) with hc | hc
                  · have H1 := Lib.hid (show v = 1 by rw [HV.out, firstTo_at hlt HZ.out (by rw [HFJ.out, hc]; decide), HFJ.out, hc]; rfl)
                    rw [hc]
                    clear hc HFJ
                    go_wp2_with fail
                    go_ret
                    exact ⟨ret_int H1.out.symm, hb3⟩
                  · have H0 := Lib.hid (firstTo_succ HZ.out (by rw [HFJ.out, hc]; rfl))
                    rw [hc]
                    clear hc HFJ
                    go_wp2_with fail
                    go_roundg (gk - 1)
                    case measure => omega
                    case rel => exact ⟨k + 1, by have := HK.out; omega, by go_num, H0.out, hb3⟩
    · have HD := Lib.hid (show v = 1 by rw [HU.out, nfF, if_pos HL.out, hm]; rfl)
      rw [hm]
      clear hm
      go_wp2_with fail
      go_ret
      exact ⟨ret_int HD.out.symm, hB0⟩
  · have HD := Lib.hid (show v = linksF ls by rw [HU.out, nfF, if_neg hl])
    have hl' : (linksF ls != 0) = true := bne_iff_ne.2 hl
    clear hl
    go_wp2_with fail
    go_ret
    exact ⟨ret_int HD.out.symm, hB0⟩
end Go.Proofs.YtegalkmfoffpfaaGreatDoor
