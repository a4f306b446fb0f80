/- What right needs are; sync.plan and signref1.PlanOf. -/
import Derived.Test.YtegalkmfoffpfaaGreatDoorClones
import Derived.Test.YtegalkmfoffpfaaGreatDoorSearch
import Derived.Test.YtegalkmfoffpfaaGreatDoorDoneWalk
namespace Go.Proofs.YtegalkmfoffpfaaGreatDoor
open Go.RowKit Go.Sort Go.Lib
attribute [local go_sem ↓] Go.wp_at_zero Go.wp_at_succ
structure NeedsOk (ns : List NeedD) : Prop where
  each : ∀ x ∈ ns, 1 ≤ x.2.1 ∧ x.2.1 ≤ 1000000000000 ∧ 0 ≤ x.2.2 ∧ x.2.2 ≤ 345686400000
  rise : ∀ p q, (hp : p < q) → (hq : q < ns.length) → 0 ≤ Lib.compareBytes ns[q].1.data.toList (ns[p]'(by omega)).1.data.toList
theorem ba_list (s : ByteArray) : s.toList = s.data.toList := ByteArray.toList_eq s
theorem needs_ok {ns : List NeedD} (h : needsF ns = 0) : NeedsOk ns := by
  have hf : firstTo (niF ns) ns.length = 0 := by
    unfold needsF at h
    split at h
    · omega
    · exact h
  have h0 : ∀ i, i < ns.length → niF ns i = 0 := fun i hi => by
    by_cases e : niF ns i = 0
    · exact e
    · have hz : firstTo (niF ns) i = 0 := by
        by_cases z : firstTo (niF ns) i = 0
        · exact z
        · have := firstTo_le (f := niF ns) (n := ns.length) (by omega) z; omega
      have := firstTo_at (f := niF ns) hi hz e; omega
  have hk : ∀ i, i + 1 < ns.length → (nAt ns i).1.toList < (nAt ns (i + 1)).1.toList := fun i hi => by
    have h0 := h0 (i + 1) hi
    unfold niF at h0
    split at h0
    · split at h0
      · omega
      · rename_i hk
        simp only [Nat.add_sub_cancel, keyLe_eq] at hk
        simp at hk
        simpa using hk
    · omega
  have hr : ∀ i j, i < j → j < ns.length → (nAt ns i).1.toList < (nAt ns j).1.toList := by
    intro i j hij hj
    induction j with
    | zero => omega
    | succ j ih =>
      have h1 := hk j hj
      rcases Nat.lt_or_ge i j with h2 | h2
      · exact List.lt_trans (ih h2 (by omega)) h1
      · rw [show i = j by omega]; exact h1
  refine ⟨fun x hx => ?_, fun p q hp hq => ?_⟩
  · obtain ⟨i, hi, rfl⟩ := List.getElem_of_mem hx
    have h0 := h0 i hi
    unfold niF at h0
    rw [nAt_eq ns hi] at h0
    split at h0
    · split at h0
      · omega
      · split at h0
        · omega
        · rename_i hb
          simp [ndBad, outsideB] at hb
          omega
    · omega
  · have := hr p q hp hq
    rw [nAt_eq ns (by omega), nAt_eq ns hq, ba_list, ba_list] at this
    rcases Int.lt_or_le (Lib.compareBytes ns[q].1.data.toList (ns[p]'(by omega)).1.data.toList) 0 with h1 | h1
    · exact absurd (List.lt_trans this ((cb_lt _ _).1 h1)) (List.lt_irrefl _)
    · exact h1
theorem sumN_bd {ns : List NeedD} (h : ∀ x ∈ ns, 1 ≤ x.2.1 ∧ x.2.1 ≤ 1000000000000 ∧ 0 ≤ x.2.2 ∧ x.2.2 ≤ 345686400000) : 0 ≤ sumN ns ∧ sumN ns ≤ ns.length * 1000000000000 := by
  induction ns with
  | nil => simp [sumN]
  | cons x r ih =>
    have := ih fun y hy => h y (by simp [hy])
    have := h x (by simp)
    simp only [sumN, List.map_cons, List.sum_cons, List.length_cons] at *
    omega
theorem comeT_bd {ls : List LinkD} (h : LinksOk ls) {a b : Int} (ha : 0 ≤ a) (ha1 : a ≤ 345686400000) (hb : 0 ≤ b) : 0 ≤ comeT ls a b ∧ comeT ls a b ≤ 345686400000 := by
  unfold comeT tellD
  by_cases e : b = 0
  · rw [if_pos e]; exact ⟨ha, ha1⟩
  · rw [if_neg e]
    have := doneL_tells h a (b := b) (by omega)
    cases hd : doneL ls a b with
    | none => exact ⟨by decide, by decide⟩
    | some t => rw [hd] at this; exact ⟨Int.le_trans ha this.1, this.2.1⟩
theorem infoCame : (Tryz.prog.info? 86).map (fun i => (i.zero, i.size, i.bytes)) = some (some (.agg #[.string ⟨#[]⟩, .int .i64 0, .int .i64 0]), 3, 32) := by kernel_rfl
def PlRel (ls : List LinkD) (a : Int) (os : List NeedD) (w2 : World) (g : Nat) (i s out : Value) (wr : World) : Prop :=
  ∃ k : Nat, k + g = os.length ∧ i = .int .i64 k ∧ s = .int .i64 (sumN (os.take k)) ∧ wr.ownsRow w2.heap.size 86 3 out k ((cameL ls a 0 (os.take k)).flatMap ndC) ∧ Below w2.heap.size w2 wr
theorem cameL_take (ls : List LinkD) (a : Int) (os : List NeedD) {k : Nat} (h : k < os.length) :
    (cameL ls a 0 (os.take (k + 1))).flatMap ndC = (cameL ls a 0 (os.take k)).flatMap ndC ++ [.string os[k].1, .int .i64 (comeT ls a (sumN (os.take k) + os[k].2.1)), .int .i64 (max 0 (comeT ls a (sumN (os.take k) + os[k].2.1) - os[k].2.2))] := by
  rw [List.take_succ_eq_append_getElem h, cameL_snoc, List.flatMap_append, Int.zero_add]
  simp [ndC]
theorem sumN_take (os : List NeedD) {k : Nat} (h : k < os.length) : sumN (os.take (k + 1)) = sumN (os.take k) + os[k].2.1 := by
  rw [List.take_succ_eq_append_getElem h, sumB_snoc]
set_option maxRecDepth 100000 in
set_option maxHeartbeats 4000000 in
theorem plan_any (A : Option Addr) (lo lo' c : Nat) (ls : List LinkD) (a : Int) (vN : Value) (ns : List NeedD) (w : World) (hf : Lst w lo 3 (.slice A ls.length c) (ls.flatMap lkC)) (hm : ls.length ≤ 20) (hlk : LinksOk ls) (ha : 0 ≤ a) (ha1 : a ≤ 345686400000)
    (hN : w.ownsRow lo' 155 3 vN ns.length (ns.flatMap ndC)) (hn : ns.length ≤ 12) (hok : NeedsOk ns) :
    Calls Tryz.prog 104 #[.slice A ls.length c, .int .i64 a, vN] w fun e w' => ∃ v, e = .returned v ∧ w'.ownsRow w.heap.size 86 3 v ns.length ((planS ls a ns).flatMap ndC) ∧ Below w.heap.size w w' := by
  have HF := Lib.hid hf
  have HLK := Lib.hid hlk
  obtain ⟨os, hos⟩ : ∃ os, os = ordD ns := ⟨_, rfl⟩
  have HOS := Lib.hid hos
  have HSR := Lib.hid (show srt (ltOf bothC) ns = os by rw [hos]; exact ordD_both hok.rise)
  have HOL := Lib.hid (show os.length = ns.length by rw [hos]; exact srt_len _ _)
  have HOK := Lib.hid (show ∀ x ∈ os, 1 ≤ x.2.1 ∧ x.2.1 ≤ 1000000000000 ∧ 0 ≤ x.2.2 ∧ x.2.2 ≤ 345686400000 from fun x hx => hok.each x ((mem_srt _ _ x).1 (by rw [hos] at hx; exact hx)))
  obtain ⟨i0, hi, hz0, hz1, hz2⟩ := info_parts infoCame
  clear hf hlk hos hok
  go_enter Tryz.func104, Tryz.ntmps104
  go_wp2_with fail
  refine (cloneNeed_any vN lo' ns _ (by omega) hN).mono ?_
  rintro e w1 ⟨vO, rfl, hO1, b1⟩
  clear hN
  go_wp2_with fail
  refine (sortNeed_own 170 bothC (enters_of Tryz.func170 (by kernel_rfl) rfl) (fun x y W => plan_both x y W) vO _ ns _ hn hO1).mono ?_
  rintro e w2 ⟨rfl, hO2, hg2⟩
  have b2 : Below w.heap.size w w2 := b1.grown hg2 b1.size (fun x hx => (hO1.lt x hx).1)
  rw [HSR.out] at hO2
  rw [← HOL.out] at hO2
  obtain ⟨OA, m, oc, rfl⟩ := own_form hO2
  obtain rfl := own_len hO2
  have HON := Lib.hid (Lst.of_own hO2)
  clear hO1 b1 hg2 hO2
  go_wp2_with fail
  have hoL : os.length ≤ 12 := by rw [HOL.out]; exact hn
  go_loopg [20, 9, 8, 11, 12, 13] os.length (fun g i s o _ _ _ wr => PlRel ls a os w2 g i s o wr)
  case atStart => exact ⟨0, by omega, rfl, rfl, World.ownsRow_nil _ _ _ _, Below.refl _ _⟩
  case round =>
    obtain ⟨k, hk, rfl, rfl, hown, hb⟩ := hrel
    have hbw := b2.trans (hb.mono b2.size)
    have hsz := hb.size
    by_cases hg : gk = 0
    · obtain rfl : k = os.length := by omega
      rw [List.take_length] at hown ⊢
      have HCL := Lib.hid (cameL_len ls a 0 os)
      have ho2 := hown
      rw [← HCL.out] at ho2
      clear hk hg hown
      go_wp2_with fail
      refine (sortCame_own 172 (fun x y => keyC x y) (enters_of Tryz.func172 (by kernel_rfl) rfl) (fun x y W => plan_key x y W) _ _ _ _ (by rw [HCL.out]; omega) ho2).mono ?_
      rintro e w4 ⟨rfl, ho4, hg4⟩
      have hb4 : Below w.heap.size w w4 := hbw.grown hg4 (by have := b2.size; omega) (fun x hx => by have := (ho2.lt x hx).1; have := b2.size; omega)
      have HO4 := Lib.hid ho4
      clear ho4 hg4 ho2
      go_wp2_with fail
      go_ret
      refine ⟨_, rfl, ?_, hb4⟩
      have h5 := ownsRow_base HO4.out b2.size
      rw [HCL.out, HOL.out] at h5
      rw [planS, planL, ← HOS.out]
      exact h5
    · have hlt : k < os.length := by omega
      obtain ⟨g, oo, rfl, hgl, cK, cB, cD⟩ := (HON.out.below hb).need hlt rfl
      have hx := HOK.out _ (List.getElem_mem hlt)
      have hsb := sumN_bd (ns := os.take k) (fun x hx => HOK.out x (List.mem_of_mem_take hx))
      rw [List.length_take] at hsb
      have HS := Lib.hid (sumN_take os hlt)
      have HC := Lib.hid (cameL_take ls a os hlt)
      have HK := Lib.hid hk
      have hgk : gk ≠ 0 := hg
      clear hk hg
      generalize os[k] = x at *
      obtain ⟨key, nb, nd⟩ := x
      obtain ⟨x0, x1, x2, x3⟩ : 1 ≤ nb ∧ nb ≤ 1000000000000 ∧ 0 ≤ nd ∧ nd ≤ 345686400000 := hx
      have HS' := Lib.hid (show sumN (os.take (k + 1)) = sumN (os.take k) + nb from HS.out)
      have HC' := Lib.hid (show (cameL ls a 0 (os.take (k + 1))).flatMap ndC = (cameL ls a 0 (os.take k)).flatMap ndC ++ [.string key, .int .i64 (comeT ls a (sumN (os.take k) + nb)), .int .i64 (max 0 (comeT ls a (sumN (os.take k) + nb) - nd))] from HC.out)
      clear HS HC
      generalize sumN (os.take k) = s0 at *
      have hs0 : 0 ≤ s0 := hsb.1
      have hs1 : s0 ≤ 12000000000000 := by omega
      clear hsb
      go_wp2_with fail
      have hb0 := bbox hb (.cells #[.string key, .int .i64 nb, .int .i64 nd] 155)
      have HX := Lib.hid (heap_alloc_new wr (.cells #[.string key, .int .i64 nb, .int .i64 nd] 155))
      have ho0 := hown.alloc (.cells #[.string key, .int .i64 nb, .int .i64 nd] 155)
      have hbw0 := bbox hbw (.cells #[.string key, .int .i64 nb, .int .i64 nd] 155)
      generalize wr.alloc (.cells #[.string key, .int .i64 nb, .int .i64 nd] 155) = w3 at *
      refine (done_any A lo c ls a (s0 + nb) _ (HF.out.below hbw0) (by omega) HLK.out ha ha1 (by omega) (by omega)).mono ?_
      rintro e w4 ⟨rfl, b4⟩
      have hM := (b4.block wr.heap.size (block_lt HX.out)).trans HX.out
      have c0 := (need_cells hM).1
      have c1 := (need_cells hM).2.1
      have c2 := (need_cells hM).2.2
      have ml := block_lt hM
      have hb4 := bon hb0 b4
      have ho4 := ownsRow_below ho0 b4
      have hct := comeT_bd HLK.out ha ha1 (show 0 ≤ s0 + nb by omega)
      obtain ⟨t0, t1⟩ := hct
      clear hM HX hb0 ho0 hbw0 b4 hown hb hbw cK cB cD
      generalize wr.heap.size = pb at *
      clear w3
      have HT := Lib.hid (show comeT ls a (s0 + nb) = (tellD ls a (s0 + nb)).getD 345686400000 from rfl)
      generalize comeT ls a (s0 + nb) = ct at *
      go_upto_if 36 with fail
      go_cut [12, 13] (fun s _ wx => s = .int .i64 ct ∧ w4 = wx)
      case first =>
        cases hd : tellD ls a (s0 + nb) with
        | none =>
          have H1 := Lib.hid (show ct = 345686400000 by rw [HT.out, hd]; rfl)
          clear hd
          go_wp2_with fail
          go_meet
          exact ⟨by rw [H1.out], rfl⟩
        | some t =>
          have H1 := Lib.hid (show ct = t by rw [HT.out, hd]; rfl)
          skip
          clear hd
          simp only [Option.isSome, optZ]
          go_wp2_with fail
          go_meet
          exact ⟨by rw [H1.out], rfl⟩
      case rest =>
        obtain ⟨rfl, rfl⟩ := hcut
        have hs4 := hb4.size
        go_wp2_with (at_builtin; refine wpList_push (W := w2) (lo := w2.heap.size) rfl _ _ 78 rfl 86 i0 _ 3 32 Tryz.underlying78 hi hz0 hz1 hz2 rfl (by decide) (by decide) _ _ _ rfl hb4 hs4 ho4 [.string key, .int .i64 ct, .int .i64 (max 0 (ct - nd))] rfl rfl rfl rfl (by omega) ?_)
        intro v5 w5 ho5 hb5 _ _
        have HO5 := Lib.hid ho5
        clear ho4 ho5 hb4
        go_wp2_with fail
        go_roundg (gk - 1)
        case measure => omega
        case rel => exact ⟨k + 1, by have := HK.out; omega, by go_num, by rw [HS'.out], by rw [HC'.out]; exact HO5.out, hb5⟩
set_option maxRecDepth 100000 in
set_option maxHeartbeats 4000000 in
theorem planOf_any (A : Option Addr) (lo lo' c : Nat) (ls : List LinkD) (a : Int) (vN : Value) (ns : List NeedD) (w : World) (hf : Lst w lo 3 (.slice A ls.length c) (ls.flatMap lkC)) (hm : ls.length ≤ 20) (hlk : LinksOk ls) (ha : 0 ≤ a) (ha1 : a ≤ 345686400000)
    (hN : w.ownsRow lo' 155 3 vN ns.length (ns.flatMap ndC)) (hn : ns.length ≤ 12) (hok : NeedsOk ns) :
    Calls Tryz.prog 42 #[.slice A ls.length c, .int .i64 a, vN] w fun e w' => ∃ v, e = .returned v ∧ w'.ownsRow w.heap.size 86 3 v ns.length ((planS ls a ns).flatMap ndC) ∧ Below w.heap.size w w' := by
  have HF := Lib.hid hf
  have HLK := Lib.hid hlk
  obtain ⟨os, hos⟩ : ∃ os, os = ordD ns := ⟨_, rfl⟩
  have HOS := Lib.hid hos
  have HSR := Lib.hid (show srt (ltOf dueC) ns = os by rw [hos]; rfl)
  have HOL := Lib.hid (show os.length = ns.length by rw [hos]; exact srt_len _ _)
  have HOK := Lib.hid (show ∀ x ∈ os, 1 ≤ x.2.1 ∧ x.2.1 ≤ 1000000000000 ∧ 0 ≤ x.2.2 ∧ x.2.2 ≤ 345686400000 from fun x hx => hok.each x ((mem_srt _ _ x).1 (by rw [hos] at hx; exact hx)))
  obtain ⟨i0, hi, hz0, hz1, hz2⟩ := info_parts infoCame
  clear hf hlk hos hok
  go_enter Tryz.func42, Tryz.ntmps42
  go_wp2_with fail
  refine (cloneNeed_any vN lo' ns _ (by omega) hN).mono ?_
  rintro e w1 ⟨vO, rfl, hO1, b1⟩
  clear hN
  go_wp2_with fail
  refine (sortStable_own 112 dueC (enters_of Tryz.func112 (by kernel_rfl) rfl) (fun x y W => planOf_cmp x y W) vO _ ns _ hn hO1).mono ?_
  rintro e w2 ⟨rfl, hO2, hg2⟩
  have b2 : Below w.heap.size w w2 := b1.grown hg2 b1.size (fun x hx => (hO1.lt x hx).1)
  rw [HSR.out] at hO2
  rw [← HOL.out] at hO2
  obtain ⟨OA, m, oc, rfl⟩ := own_form hO2
  obtain rfl := own_len hO2
  have HON := Lib.hid (Lst.of_own hO2)
  clear hO1 b1 hg2 hO2
  go_wp2_with fail
  have hoL : os.length ≤ 12 := by rw [HOL.out]; exact hn
  go_loopg [19, 8, 9, 11, 12] os.length (fun g i s o _ _ wr => PlRel ls a os w2 g i s o wr)
  case atStart => exact ⟨0, by omega, rfl, rfl, World.ownsRow_nil _ _ _ _, Below.refl _ _⟩
  case round =>
    obtain ⟨k, hk, rfl, rfl, hown, hb⟩ := hrel
    have hbw := b2.trans (hb.mono b2.size)
    have hsz := hb.size
    by_cases hg : gk = 0
    · obtain rfl : k = os.length := by omega
      rw [List.take_length] at hown ⊢
      have HCL := Lib.hid (cameL_len ls a 0 os)
      have ho2 := hown
      rw [← HCL.out] at ho2
      clear hk hg hown
      go_wp2_with fail
      refine (sortCame_own 115 (fun x y => keyC x y) (enters_of Tryz.func115 (by kernel_rfl) rfl) (fun x y W => planOf_key x y W) _ _ _ _ (by rw [HCL.out]; omega) ho2).mono ?_
      rintro e w4 ⟨rfl, ho4, hg4⟩
      have hb4 : Below w.heap.size w w4 := hbw.grown hg4 (by have := b2.size; omega) (fun x hx => by have := (ho2.lt x hx).1; have := b2.size; omega)
      have HO4 := Lib.hid ho4
      clear ho4 hg4 ho2
      go_wp2_with fail
      go_ret
      refine ⟨_, rfl, ?_, hb4⟩
      have h5 := ownsRow_base HO4.out b2.size
      rw [HCL.out, HOL.out] at h5
      rw [planS, planL, ← HOS.out]
      exact h5
    · have hlt : k < os.length := by omega
      obtain ⟨g, oo, rfl, hgl, cK, cB, cD⟩ := (HON.out.below hb).need hlt rfl
      have hx := HOK.out _ (List.getElem_mem hlt)
      have hsb := sumN_bd (ns := os.take k) (fun x hx => HOK.out x (List.mem_of_mem_take hx))
      rw [List.length_take] at hsb
      have HS := Lib.hid (sumN_take os hlt)
      have HC := Lib.hid (cameL_take ls a os hlt)
      have HK := Lib.hid hk
      have hgk : gk ≠ 0 := hg
      clear hk hg
      generalize os[k] = x at *
      obtain ⟨key, nb, nd⟩ := x
      obtain ⟨x0, x1, x2, x3⟩ : 1 ≤ nb ∧ nb ≤ 1000000000000 ∧ 0 ≤ nd ∧ nd ≤ 345686400000 := hx
      have HS' := Lib.hid (show sumN (os.take (k + 1)) = sumN (os.take k) + nb from HS.out)
      have HC' := Lib.hid (show (cameL ls a 0 (os.take (k + 1))).flatMap ndC = (cameL ls a 0 (os.take k)).flatMap ndC ++ [.string key, .int .i64 (comeT ls a (sumN (os.take k) + nb)), .int .i64 (max 0 (comeT ls a (sumN (os.take k) + nb) - nd))] from HC.out)
      clear HS HC
      generalize sumN (os.take k) = s0 at *
      have hs0 : 0 ≤ s0 := hsb.1
      have hs1 : s0 ≤ 12000000000000 := by omega
      clear hsb
      go_wp2_with fail
      have hb0 := bbox hb (.cells #[.string key, .int .i64 nb, .int .i64 nd] 155)
      have HX := Lib.hid (heap_alloc_new wr (.cells #[.string key, .int .i64 nb, .int .i64 nd] 155))
      have ho0 := hown.alloc (.cells #[.string key, .int .i64 nb, .int .i64 nd] 155)
      have hbw0 := bbox hbw (.cells #[.string key, .int .i64 nb, .int .i64 nd] 155)
      generalize wr.alloc (.cells #[.string key, .int .i64 nb, .int .i64 nd] 155) = w3 at *
      refine (doneAt_any A lo c ls a (s0 + nb) _ (HF.out.below hbw0) (by omega) HLK.out ha ha1 (by omega) (by omega)).mono ?_
      rintro e w4 ⟨rfl, b4⟩
      have hM := (b4.block wr.heap.size (block_lt HX.out)).trans HX.out
      have c0 := (need_cells hM).1
      have c1 := (need_cells hM).2.1
      have c2 := (need_cells hM).2.2
      have ml := block_lt hM
      have hb4 := bon hb0 b4
      have ho4 := ownsRow_below ho0 b4
      have hct := comeT_bd HLK.out ha ha1 (show 0 ≤ s0 + nb by omega)
      obtain ⟨t0, t1⟩ := hct
      clear hM HX hb0 ho0 hbw0 b4 hown hb hbw cK cB cD
      generalize wr.heap.size = pb at *
      clear w3
      have HT := Lib.hid (show comeT ls a (s0 + nb) = (tellD ls a (s0 + nb)).getD 345686400000 from rfl)
      generalize comeT ls a (s0 + nb) = ct at *
      go_upto_if 32 with fail
      go_cut [12] (fun s wx => s = .int .i64 ct ∧ w4 = wx)
      case first =>
        cases hd : tellD ls a (s0 + nb) with
        | none =>
          have H1 := Lib.hid (show ct = 345686400000 by rw [HT.out, hd]; rfl)
          clear hd
          go_wp2_with fail
          go_meet
          exact ⟨by rw [H1.out], rfl⟩
        | some t =>
          have H1 := Lib.hid (show ct = t by rw [HT.out, hd]; rfl)
          rw [show decide (optN (some t) < 0) = false from decide_eq_false (by have := H1.out; show ¬ t < 0; omega)]
          clear hd
          simp only [optN]
          go_wp2_with fail
          go_meet
          exact ⟨by rw [H1.out], rfl⟩
      case rest =>
        obtain ⟨rfl, rfl⟩ := hcut
        have hs4 := hb4.size
        go_wp2_with (at_builtin; refine wpList_push (W := w2) (lo := w2.heap.size) rfl _ _ 78 rfl 86 i0 _ 3 32 Tryz.underlying78 hi hz0 hz1 hz2 rfl (by decide) (by decide) _ _ _ rfl hb4 hs4 ho4 [.string key, .int .i64 ct, .int .i64 (max 0 (ct - nd))] rfl rfl rfl rfl (by omega) ?_)
        intro v5 w5 ho5 hb5 _ _
        have HO5 := Lib.hid ho5
        clear ho4 ho5 hb4
        go_wp2_with fail
        go_roundg (gk - 1)
        case measure => omega
        case rel => exact ⟨k + 1, by have := HK.out; omega, by go_num, by rw [HS'.out], by rw [HC'.out]; exact HO5.out, hb5⟩
end Go.Proofs.YtegalkmfoffpfaaGreatDoor
