/- Spare, SpareSums. -/
import Derived.Test.YtegalkmfoffpfaaGreatDoorHaveWalk
import Derived.Test.YtegalkmfoffpfaaGreatDoorRise
namespace Go.Proofs.YtegalkmfoffpfaaGreatDoor
open Go.RowKit Go.Maps Go.WideMaps

theorem IsSet.belowAt {w w' : World} {b n B : Nat} {S : List ByteArray} (h : IsSet w b n S) (hb : Below B w w') (hB : b < B) : IsSet w' b n S :=
  let ⟨D, ⟨es, clock, hh, r⟩, h2⟩ := h; ⟨D, ⟨es, clock, (hb.block b hB).trans hh, r⟩, h2⟩
theorem hasS_new (s : ByteArray) (cs : List ChunkD) : hasS ((newTo [] cs).map (·.1)) s = hasS (cs.map (·.1)) s := by
  have : ∀ (n : Nat) (cs : List ChunkD), cs.length = n → hasS ((newTo [] cs).map (·.1)) s = hasS (cs.map (·.1)) s := by
    intro n
    induction n with
    | zero => intro cs h; rw [List.eq_nil_of_length_eq_zero h]; rfl
    | succ n ih =>
      intro cs h
      obtain ⟨pre, c, rfl⟩ : ∃ pre c, cs = pre ++ [c] := by
        have hne : cs ≠ [] := by intro e; rw [e] at h; simp at h
        exact ⟨cs.dropLast, cs.getLast hne, (List.dropLast_concat_getLast hne).symm⟩
      have hp := ih pre (by simp at h; exact h)
      rw [newTo_snoc, List.map_append, hasS_append, ← hp]
      unfold newStep
      split
      · rename_i hq
        rw [List.nil_append] at hq
        by_cases he : (c.1.toList == s.toList) = true
        · have e := ba_ext (a := c.1) (b := s) (by simpa using he)
          rw [e] at hq
          simp [hq]
        · simp [hasS, he]
      · rw [List.map_append, hasS_append]
  exact this _ cs rfl
def spareS (fs : List FileD) (hv : List ByteArray) : List ByteArray := (riseS hv).filter fun s => !hasS ((allC fs).map (·.1)) s
set_option maxRecDepth 100000 in
set_option maxHeartbeats 1000000 in
theorem spareIs_any (s : ByteArray) (ub mb n : Nat) (S : List ByteArray) (w : World) (hc : w.cell? ⟨ub, 0, none⟩ = some (.map (some mb))) (hs : IsSet w mb n S) (hz : s.size ≤ 1000) :
    Calls Tryz.prog 122 #[.string s, .pointer (some ⟨ub, 0, none⟩)] w fun e w' => e = .returned (.bool (hasS S s)) ∧ Below w.heap.size w w' := by
  go_enter Tryz.func122, Tryz.ntmps122
  go_wp2_with (at_lookup; refine wpList_lookup_set rfl _ _ rfl mb _ S s rfl hs rfl (by omega) ?_)
  go_ret
  exact ⟨rfl, Below.refl _ _⟩
def UoRel (fs : List FileD) (w : World) (mb : Nat) (g : Nat) (i : Value) (wr : World) : Prop :=
  ∃ (k : Nat) (S : List ByteArray), k + g = fs.length ∧ i = .int .i64 k ∧ IsSet wr mb (k * 1000000000) S ∧ (∀ s, hasS S s = hasS ((chunksTo fs k).map (·.1)) s) ∧ wr.heap[mb + 1]? = some (.cells #[.map (some mb)] 169 (0, 0)) ∧ Below w.heap.size w wr
def UiRel (pre cs : List ChunkD) (w : World) (mb base : Nat) (g : Nat) (i : Value) (wr : World) : Prop :=
  ∃ (k : Nat) (S : List ByteArray), k + g = cs.length ∧ i = .int .i64 k ∧ IsSet wr mb (base + k) S ∧ (∀ s, hasS S s = hasS ((pre ++ cs.take k).map (·.1)) s) ∧ wr.heap[mb + 1]? = some (.cells #[.map (some mb)] 169 (0, 0)) ∧ Below w.heap.size w wr
set_option maxRecDepth 100000 in
set_option maxHeartbeats 1000000 in
theorem spare_no (no : Int) (A B : Option Addr) (lo c d : Nat) (fs : List FileD) (hv : List ByteArray) (w : World) (hf : FilesAt w lo (.slice A fs.length c) fs) (hok : FilesOk fs) (hn : fs.length ≤ 300)
    (hh : Lst w lo 1 (.slice B hv.length d) (strC hv)) (hl : hv.length ≤ 1000) (hsz : ∀ s ∈ hv, s.size ≤ 1000) (hm : (mhF no fs hv != 0) = true) :
    Calls Tryz.prog 48 #[.agg #[.int .i64 no, .slice A fs.length c], .slice B hv.length d] w fun e w' => e = .returned (.tuple #[.slice none 0 0, .int .i64 (mhF no fs hv)]) ∧ Below w.heap.size w w' := by
  have HF := Lib.hid hf
  have HOK := Lib.hid hok
  have HH := Lib.hid hh
  have HSZ := Lib.hid hsz
  clear hf hok hh hsz
  go_enter Tryz.func48, Tryz.ntmps48
  go_wp2_with fail
  have hb0 := bfirst w (.cells #[.int .i64 no, .slice A fs.length c] 28)
  refine (haveFaultS_any no A B lo c d fs hv _ (HF.out.below hb0) HOK.out hn (HH.out.below hb0) hl HSZ.out).mono ?_
  rintro e w1 ⟨rfl, hb1⟩
  go_wp2_with fail
  go_ret2
  exact ⟨rfl, bon hb0 hb1⟩
set_option maxRecDepth 100000 in
set_option maxHeartbeats 4000000 in
theorem spare_any (no : Int) (A B : Option Addr) (lo c d : Nat) (fs : List FileD) (hv : List ByteArray) (w : World) (hf : FilesAt w lo (.slice A fs.length c) fs) (hok : FilesOk fs) (hn : fs.length ≤ 300)
    (hh : w.ownsRow lo 9 1 (.slice B hv.length d) hv.length (strC hv)) (hl : hv.length ≤ 1000) (hsz : ∀ s ∈ hv, s.size ≤ 1000) (hrs : ∀ s ∈ riseS hv, s.size ≤ 1000) (hrl : (riseS hv).length ≤ 1000) (hm : mhF no fs hv = 0) :
    Calls Tryz.prog 48 #[.agg #[.int .i64 no, .slice A fs.length c], .slice B hv.length d] w fun e w' => ∃ v, e = .returned (.tuple #[v, .int .i64 0]) ∧ Lst w' w.heap.size 1 v (strC (spareS fs hv)) ∧ Below w.heap.size w w' := by
  have hmm := @run_makeMap Tryz.prog
  have HF := Lib.hid hf
  have HOK := Lib.hid hok
  have HH := Lib.hid hh
  have HSZ := Lib.hid hsz
  have HRS := Lib.hid hrs
  have HM := Lib.hid hm
  clear hf hok hh hsz hm hrs
  go_enter Tryz.func48, Tryz.ntmps48
  go_wp2_with fail
  have hb0 := bfirst w (.cells #[.int .i64 no, .slice A fs.length c] 28)
  refine (haveFaultS_any no A B lo c d fs hv _ (HF.out.below hb0) HOK.out hn ((Lst.of_own HH.out).below hb0) hl HSZ.out).mono ?_
  rintro e w1 ⟨rfl, hb1⟩
  rw [HM.out]
  have B1 := bon hb0 hb1
  have m0 := bboxed hb1 0 _ rfl
  have m1 := bboxed hb1 1 _ rfl
  have lm := blt hb1
  clear hb0 hb1
  go_wp2_with fail
  have B2 := bbox (bbox B1 (.map #[] 0)) (.cells #[.map (some w1.heap.size)] 169)
  have HS2 := Lib.hid ((IsSet.new w1).alloc (.cells #[.map (some w1.heap.size)] 169))
  have HX2 := Lib.hid (heap_alloc_new (w1.alloc (.map #[] 0)) (.cells #[.map (some w1.heap.size)] 169))
  simp only [World.size_alloc] at HX2
  obtain ⟨mb, hmb⟩ : ∃ mb, mb = w1.heap.size := ⟨_, rfl⟩
  have hmbz : w.heap.size < mb := by omega
  rw [← hmb] at HS2 HX2 B2 ⊢
  clear m0 m1 B1 hmb
  generalize (w1.alloc (.map #[] 0)).alloc (.cells #[.map (some mb)] 169) = w2 at *
  go_loopg [22, 9, 11, 29] fs.length (fun g i _ _ _ wr => UoRel fs w mb g i wr)
  case atStart => exact ⟨0, [], by omega, rfl, by simpa using HS2.out, by simp [hasS, chunksTo], HX2.out, B2⟩
  case round =>
    clear HS2 HX2
    obtain ⟨k, S, hk, rfl, hset, hS, hX, hb⟩ := hrel
    by_cases hg : gk = 0
    · obtain rfl : k = fs.length := by omega
      have HSET := Lib.hid hset
      have HS := Lib.hid hS
      have HX := Lib.hid hX
      have HO := Lib.hid (ownsRow_below HH.out hb)
      have lub := block_lt hX
      clear hset hS hX hk hg
      go_wp2_with fail
      refine (rising_any _ lo hv _ HO.out hl).mono ?_
      rintro e w3 ⟨v3, rfl, own3, hb3⟩
      have B3 := bon hb hb3
      obtain ⟨C, m, q, rfl⟩ := own_form own3
      obtain rfl := own_len own3
      have HO3 : Hid (w3.ownsRow wr.heap.size 9 1 (.slice C (riseS hv).length q) (riseS hv).length ((riseS hv).flatMap stCell)) := by rw [stCell_map]; exact own3
      have z3 := hb3.size
      have zr := hb.size
      have HSET3 := Lib.hid (HSET.out.below hb3)
      have HX3 := Lib.hid ((hb3.block _ lub).trans HX.out)
      clear own3 HO HSET HX
      go_wp2_with fail
      refine (deleteStr_any C wr.heap.size q (riseS hv) (fun s => hasS S s) 122 #[.pointer (some ⟨mb + 1, 0, none⟩)] (enters_of Tryz.func122 (by kernel_rfl) rfl) _ HO3.out (fun W x hx hbW => ?_) (by omega) z3).mono ?_
      · have hcx : w3.cell? ⟨mb + 1, 0, none⟩ = some (.map (some mb)) := by simp [World.cell?, HX3.out]
        exact spareIs_any x (mb + 1) mb _ S W ((hbW.cell (p := ⟨mb + 1, 0, none⟩) lub).trans hcx) (HSET3.out.belowAt hbW (by omega)) (HRS.out x hx)
      · rintro e w4 ⟨v4, rfl, hL4, hb4⟩
        have HL4 : Hid (Lst w4 w.heap.size 1 v4 (strC (spareS fs hv))) := by
          have e : (riseS hv).filter (fun s => !hasS S s) = spareS fs hv := by
            unfold spareS
            congr 1
            funext s
            rw [HS.out s]; rfl
          rw [e, stCell_map] at hL4
          exact hL4.mono zr
        clear hL4
        go_wp2_with fail
        go_ret2
        exact ⟨_, rfl, HL4.out, B3.trans (hb4.mono zr)⟩
    · have hlt : k < fs.length := by omega
      obtain ⟨g, o, C, m, q, rfl, hgl, cK0, cC0, hm, hL⟩ := HF.out.at_ hlt
      have cK := (hb.cell (p := ⟨g, o + k * 2, none⟩) hgl).trans cK0
      have cC := (hb.cell (p := ⟨g, o + k * 2 + 1, none⟩) hgl).trans cC0
      have HK := Lib.hid hk
      obtain ⟨nb, hnb⟩ : ∃ nb, nb = k * 1000000000 := ⟨_, rfl⟩
      rw [← hnb] at hset
      have HSET := Lib.hid hset
      have HS := Lib.hid hS
      have HX := Lib.hid hX
      obtain rfl := hm
      have HL := Lib.hid hL
      have hgk : gk ≠ 0 := hg
      have hcok : ∀ c ∈ fs[k].2, c.1.size ≤ 1000000000000 ∧ -1000000000000000 ≤ c.2 ∧ c.2 ≤ 1000000000000000 := (HOK.out _ (List.getElem_mem hlt)).2.2
      have hclen := (HOK.out _ (List.getElem_mem hlt)).2.1
      have HCT := Lib.hid (chunksTo_succ fs k hlt)
      have hkn : k ≤ 300 := by omega
      have hnb1 : nb + fs[k].2.length ≤ (k + 1) * 1000000000 := by omega
      have hnb2 : nb ≤ 500000000000 := by omega
      have HNB1 := Lib.hid hnb1
      clear hk hset hS hX hL hg cK0 cC0 hnb hnb1
      generalize fs[k] = fk at *
      obtain ⟨key, cs⟩ := fk
      have HCT2 : Hid (chunksTo fs (k + 1) = chunksTo fs k ++ cs) := HCT.out
      have HL2 : Hid (Lst w lo 2 (.slice C cs.length q) (cs.flatMap chC)) := HL.out
      have hclen2 : cs.length ≤ 1000000000 := hclen
      have HCO : Hid (∀ c ∈ cs, c.1.size ≤ 1000000000000 ∧ -1000000000000000 ≤ c.2 ∧ c.2 ≤ 1000000000000000) := hcok
      clear HCT HL hclen hcok
      go_wp2_with fail
      have hb2 := bbox hb (.cells #[.string key, .slice C cs.length q] 52)
      have HSET2 := Lib.hid (HSET.out.alloc (.cells #[.string key, .slice C cs.length q] 52))
      have HX2 := Lib.hid ((Below.heap_alloc wr (.cells #[.string key, .slice C cs.length q] 52) _ (block_lt HX.out)).trans HX.out)
      clear cK cC HSET HX
      obtain ⟨wo, rfl⟩ : ∃ wo : World, wo = wr := ⟨_, rfl⟩
      obtain ⟨gq, rfl⟩ : ∃ gq, gq = gk := ⟨_, rfl⟩
      go_loopg [29, 11] cs.length (fun g i _ wx => UiRel (chunksTo fs k) cs w mb nb g i wx)
      case atStart => exact ⟨0, S, by omega, rfl, HSET2.out, by simpa using HS.out, HX2.out, hb2⟩
      case round =>
        clear HSET2 HS HX2
        obtain ⟨j, T, hj, rfl, hset, hT, hX, hb3⟩ := hrel
        by_cases hg1 : gk = 0
        · obtain rfl : j = cs.length := by omega
          rw [List.take_length, ← HCT2.out] at hT
          have HSE := Lib.hid (hset.mono (n' := (k + 1) * 1000000000) HNB1.out)
          have HT2 := Lib.hid hT
          have HX := Lib.hid hX
          clear hset hT hj hg1 hX
          go_wp2_with fail
          go_roundg (gq - 1)
          case measure => omega
          case rel => exact ⟨k + 1, T, by have := HK.out; omega, by go_num, HSE.out, HT2.out, HX.out, hb3⟩
        · have hjl : j < cs.length := by omega
          obtain ⟨g2, o2, rfl, hg2, e0, e1⟩ := HL2.out.chunk hjl rfl
          have f0 := (hb3.cell (p := ⟨g2, o2 + j * 2, none⟩) hg2).trans e0
          have f1 := (hb3.cell (p := ⟨g2, o2 + j * 2 + 1, none⟩) hg2).trans e1
          have hcj := (HCO.out _ (List.getElem_mem hjl)).1
          have HAP := Lib.hid (show chunksTo fs k ++ cs.take (j + 1) = (chunksTo fs k ++ cs.take j) ++ [cs[j]] by rw [List.take_succ_eq_append_getElem hjl, ← List.append_assoc])
          have HJ := Lib.hid hj
          have HT := Lib.hid hT
          have hgk1 : gk ≠ 0 := hg1
          have hx0 : wr.cell? ⟨mb + 1, 0, none⟩ = some (.map (some mb)) := by simp [World.cell?, hX]
          have hxl := block_lt hX
          have HX := Lib.hid hX
          clear hj hg1 e0 e1 hT hX
          generalize cs[j] = cj at *
          obtain ⟨ck, cz⟩ := cj
          have hset2 := hset.alloc (.cells #[.string ck, .int .i64 cz] 49)
          have hb4 := bbox hb3 (.cells #[.string ck, .int .i64 cz] 49)
          have hcs : ck.size ≤ 1000000000000 := hcj
          have hmbl := hset.lt
          clear hset hcj
          go_wp2_with (at_mapUpdate; refine wpList_update_set rfl _ _ _ rfl mb _ T ck rfl hset2 rfl rfl hcs (by omega) ?_)
          intro w4 hset4 hgr4
          have hb5 := hb4.grown hgr4 (by have := hb3.size; simp; omega) (fun x hx => by cases hx; omega)
          have HX4 := Lib.hid ((hgr4.block (mb + 1) (by simp; omega) (fun e => by injection e with e; omega)).trans ((Below.heap_alloc wr (.cells #[.string ck, .int .i64 cz] 49) _ hxl).trans HX.out))
          have HSE := Lib.hid hset4
          clear hset2 hset4 hgr4 hb4 hx0
          go_wp2_with fail
          go_roundg (gk - 1)
          case measure => omega
          case rel => exact ⟨j + 1, ck :: T, by have := HJ.out; omega, by go_num, HSE.out, fun s => by rw [hasS_cons, HAP.out, List.map_append, hasS_append, HT.out]; simp [hasS, Bool.or_comm], HX4.out, hb5⟩

/-! ### SpareSums -/
set_option maxRecDepth 100000 in
set_option maxHeartbeats 1000000 in
theorem spareEq_any (ck : ByteArray) (cz : Int) (s : ByteArray) (sb : Nat) (w : World) (hc : w.cell? ⟨sb, 0, none⟩ = some (.string s)) :
    Calls Tryz.prog 131 #[.agg #[.string ck, .int .i64 cz], .pointer (some ⟨sb, 0, none⟩)] w fun e w' => e = .returned (.bool (ck.toList == s.toList)) ∧ Below w.heap.size w w' := by
  have hl := World.block_lt_of_cell? w _ hc
  go_enter Tryz.func131, Tryz.ntmps131
  go_wp2_with fail
  go_ret
  exact ⟨rfl, bfirst _ _⟩
theorem any_has (ds : List ChunkD) (s : ByteArray) : anyI (fun i => (ds.getD i (⟨#[]⟩, 0)).1.toList == s.toList) ds.length = hasS (ds.map (·.1)) s := by
  rw [Bool.eq_iff_iff]
  unfold anyI
  rcases idx_cases (p := fun i => (ds.getD i (⟨#[]⟩, 0)).1.toList == s.toList) ds.length with ⟨he, hall⟩ | ⟨k, hk, he, hp, _⟩
  · rw [he]
    constructor
    · intro h; simp at h
    · intro h
      rw [hasS, List.any_eq_true] at h
      obtain ⟨t, ht, hq⟩ := h
      obtain ⟨c, hc, rfl⟩ := List.mem_map.1 ht
      obtain ⟨j, hj, rfl⟩ := List.getElem_of_mem hc
      have := hall j hj
      simp only [List.getD, List.getElem?_eq_getElem hj, Option.getD_some] at this
      rw [this] at hq; cases hq
  · rw [he]
    constructor
    · intro _
      rw [hasS, List.any_eq_true]
      simp only [List.getD, List.getElem?_eq_getElem hk, Option.getD_some] at hp
      exact ⟨ds[k].1, List.mem_map.2 ⟨_, List.getElem_mem hk, rfl⟩, hp⟩
    · intro _; simp
set_option maxRecDepth 100000 in
set_option maxHeartbeats 2000000 in
theorem spareIsR_any (s : ByteArray) (no : Int) (A : Option Addr) (lo c xb : Nat) (fs : List FileD) (w : World) (c0 : w.cell? ⟨xb, 0, none⟩ = some (.int .i64 no)) (c1 : w.cell? ⟨xb, 1, none⟩ = some (.slice A fs.length c)) (hf : FilesAt w lo (.slice A fs.length c) fs) (hok : FilesOk fs) (hn : fs.length ≤ 300) (hc9 : (allC fs).length ≤ 1000) :
    Calls Tryz.prog 129 #[.string s, .pointer (some ⟨xb, 0, none⟩)] w fun e w' => e = .returned (.bool (hasS ((allC fs).map (·.1)) s)) ∧ Below w.heap.size w w' := by
  have HF := Lib.hid hf
  have HOK := Lib.hid hok
  have HC9 := Lib.hid hc9
  have hl := World.block_lt_of_cell? w _ c0
  have hb0 := bfirst w (.cells #[.string s] 9)
  clear hf hok hc9
  go_enter Tryz.func129, Tryz.ntmps129
  go_wp2_with fail
  refine (each_any no A lo c fs _ (HF.out.below hb0) HOK.out hn).mono ?_
  rintro e w1 ⟨v, rfl, hown, hb1⟩
  have B1 := bon hb0 hb1
  have s0 := bboxed hb1 0 _ rfl
  obtain ⟨C, m, q, rfl⟩ := own_form hown
  obtain rfl := own_len hown
  have HA : Hid (At2 w1 C (newTo [] (allC fs)).length (fun i => .string ((newTo [] (allC fs)).getD i (⟨#[]⟩, 0)).1) (fun i => .int .i64 ((newTo [] (allC fs)).getD i (⟨#[]⟩, 0)).2)) := fun i hi => by
    obtain ⟨b, o, e, hg, c0, c1⟩ := (Lst.of_own hown).chunk hi rfl
    have ed : (newTo [] (allC fs)).getD i (⟨#[]⟩, 0) = (newTo [] (allC fs))[i] := by simp [List.getD, List.getElem?_eq_getElem hi]
    rw [← ed] at c0 c1
    exact ⟨b, o, e, hg, c0, c1⟩
  have hl9 : (newTo [] (allC fs)).length ≤ 1000 := by have := newTo_len [] (allC fs); have := HC9.out; omega
  have HV := Lib.hid ((any_has (newTo [] (allC fs)) s).trans (hasS_new s (allC fs)))
  clear hown hb1 hb0 c0 c1
  go_wp2_with fail
  refine (containsFuncChunk C _ q _ _ (fun i => ((newTo [] (allC fs)).getD i (⟨#[]⟩, 0)).1.toList == s.toList) 131 #[.pointer (some ⟨w.heap.size, 0, none⟩)] (enters_of Tryz.func131 (by kernel_rfl) rfl) _ HA.out (fun W i hi hb => spareEq_any _ _ s w.heap.size W (bold hb s0)) (by omega)).mono ?_
  rintro e w2 ⟨rfl, hb2⟩
  rw [HV.out]
  go_wp2_with fail
  go_ret
  exact ⟨rfl, bon B1 hb2⟩
set_option maxRecDepth 100000 in
set_option maxHeartbeats 2000000 in
theorem spareSums_any (no : Int) (A B : Option Addr) (lo c d : Nat) (fs : List FileD) (hv : List ByteArray) (w : World) (hf : FilesAt w lo (.slice A fs.length c) fs) (hok : FilesOk fs) (hn : fs.length ≤ 300) (hc9 : (allC fs).length ≤ 1000)
    (hh : w.ownsRow lo 9 1 (.slice B hv.length d) hv.length (strC hv)) (hl : hv.length ≤ 1000) (hrl : (riseS hv).length ≤ 1000) :
    Calls Tryz.prog 53 #[.agg #[.int .i64 no, .slice A fs.length c], .slice B hv.length d] w fun e w' => ∃ v, e = .returned v ∧ Lst w' w.heap.size 1 v (strC (spareS fs hv)) ∧ Below w.heap.size w w' := by
  have HF := Lib.hid hf
  have HOK := Lib.hid hok
  have HC9 := Lib.hid hc9
  have HH := Lib.hid hh
  have hb0 := bfirst w (.cells #[.int .i64 no, .slice A fs.length c] 28)
  clear hf hok hc9 hh
  go_enter Tryz.func53, Tryz.ntmps53
  go_wp2_with fail
  refine (once_any _ lo hv _ (ownsRow_below HH.out hb0) hl).mono ?_
  rintro e w3 ⟨v3, rfl, own3, hb3⟩
  have B3 := bon hb0 hb3
  have m0 := bboxed hb3 0 _ rfl
  have m1 := bboxed hb3 1 _ rfl
  have z3 := hb3.size
  simp only [World.size_alloc] at own3 z3
  obtain ⟨C, m, q, rfl⟩ := own_form own3
  obtain rfl := own_len own3
  have HO3 : Hid (w3.ownsRow (w.heap.size + 1) 9 1 (.slice C (riseS hv).length q) (riseS hv).length ((riseS hv).flatMap stCell)) := by rw [stCell_map]; exact own3
  clear own3 hb0 hb3
  go_wp2_with fail
  refine (deleteStr_any C (w.heap.size + 1) q (riseS hv) (fun s => hasS ((allC fs).map (·.1)) s) 129 #[.pointer (some ⟨w.heap.size, 0, none⟩)] (enters_of Tryz.func129 (by kernel_rfl) rfl) _ HO3.out (fun W x hx hbW => ?_) (by omega) z3).mono ?_
  · exact spareIsR_any x no A lo c w.heap.size fs W ((hbW.cell (p := ⟨w.heap.size, 0, none⟩) (Nat.lt_succ_self _)).trans m0) ((hbW.cell (p := ⟨w.heap.size, 1, none⟩) (Nat.lt_succ_self _)).trans m1) (HF.out.below (B3.trans (hbW.mono (Nat.le_succ _)))) HOK.out hn HC9.out
  · rintro e w4 ⟨v4, rfl, hL4, hb4⟩
    have HL4 : Hid (Lst w4 w.heap.size 1 v4 (strC (spareS fs hv))) := by
      rw [stCell_map] at hL4
      exact hL4.mono (Nat.le_succ _)
    clear hL4
    go_wp2_with fail
    go_ret
    exact ⟨_, rfl, HL4.out, B3.trans (hb4.mono (Nat.le_succ _))⟩
end Go.Proofs.YtegalkmfoffpfaaGreatDoor
