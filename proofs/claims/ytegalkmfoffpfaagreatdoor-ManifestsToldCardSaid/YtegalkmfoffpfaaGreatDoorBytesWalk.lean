/- Bytes, BytesOf. -/
import Derived.Test.YtegalkmfoffpfaaGreatDoorEach
import Derived.Test.YtegalkmfoffpfaaGreatDoorGenMan2
namespace Go.Proofs.YtegalkmfoffpfaaGreatDoor
open Go.RowKit Go.Maps Go.WideMaps

def sumC (cs : List ChunkD) : Int := (cs.map (·.2)).sum
theorem sumC_snoc (cs : List ChunkD) (c : ChunkD) : sumC (cs ++ [c]) = sumC cs + c.2 := by simp [sumC]
theorem sumC_bd (cs : List ChunkD) (h : ∀ c ∈ cs, -1000000000000000 ≤ c.2 ∧ c.2 ≤ 1000000000000000) : -(cs.length * 1000000000000000 : Int) ≤ sumC cs ∧ sumC cs ≤ cs.length * 1000000000000000 := by
  induction cs with
  | nil => simp [sumC]
  | cons c cs ih =>
    have h1 := h c (by simp)
    have h2 := ih fun x hx => h x (by simp [hx])
    simp only [sumC, List.map_cons, List.sum_cons, List.length_cons] at h2 ⊢
    omega
theorem newTo_sub (H : List ByteArray) (cs : List ChunkD) : ∀ c ∈ newTo H cs, c ∈ cs := by
  have : ∀ (cs out : List ChunkD), ∀ c ∈ cs.foldl (newStep H) out, c ∈ out ∨ c ∈ cs := by
    intro cs
    induction cs with
    | nil => intro out c hc; exact .inl hc
    | cons x cs ih =>
      intro out c hc
      rcases ih _ c hc with h | h
      · unfold newStep at h
        split at h
        · exact .inl h
        · rw [List.mem_append] at h
          rcases h with h | h
          · exact .inl h
          · exact .inr (by simp at h; simp [h])
      · exact .inr (by simp [h])
  intro c hc
  rcases this cs [] c hc with h | h
  · simp at h
  · exact h
theorem chunks_pre (fs : List FileD) {k j : Nat} (hk : k < fs.length) (_hj : j ≤ fs[k].2.length) : ∃ r, allC fs = (chunksTo fs k ++ fs[k].2.take j) ++ r := by
  refine ⟨fs[k].2.drop j ++ (fs.drop (k + 1)).flatMap (·.2), ?_⟩
  unfold allC chunksTo
  rw [List.take_length]
  have e2 : fs.flatMap (·.2) = (fs.take k ++ (fs[k] :: fs.drop (k + 1))).flatMap (·.2) := by rw [← List.drop_eq_getElem_cons hk, List.take_append_drop]
  have e3 : fs[k].2 = fs[k].2.take j ++ fs[k].2.drop j := (List.take_append_drop _ _).symm
  rw [e2, List.flatMap_append, List.flatMap_cons]
  generalize fs[k].2.take j = a at *
  generalize fs[k].2.drop j = b at *
  rw [e3]
  simp only [List.append_assoc]
theorem allC_ok {fs : List FileD} (h : FilesOk fs) : ∀ c ∈ allC fs, -1000000000000000 ≤ c.2 ∧ c.2 ≤ 1000000000000000 := by
  intro c hc
  unfold allC chunksTo at hc
  rw [List.take_length] at hc
  obtain ⟨f, hf, hcf⟩ := List.mem_flatMap.1 hc
  exact ((h f hf).2.2 c hcf).2
theorem pre_bd {fs : List FileD} (h : FilesOk fs) (h9 : (allC fs).length ≤ 1000) {pre r : List ChunkD} (e : allC fs = pre ++ r) : -1000000000000000000 ≤ sumC pre ∧ sumC pre ≤ 1000000000000000000 ∧ -1000000000000000000 ≤ sumC (newTo [] pre) ∧ sumC (newTo [] pre) ≤ 1000000000000000000 := by
  have hc : ∀ c ∈ pre, -1000000000000000 ≤ c.2 ∧ c.2 ≤ 1000000000000000 := fun c hc => allC_ok h c (by rw [e]; simp [hc])
  have h1 := sumC_bd pre hc
  have h2 := sumC_bd (newTo [] pre) (fun c h => hc c (newTo_sub [] pre c h))
  have h3 := newTo_len [] pre
  have h4 : pre.length ≤ 1000 := by rw [e, List.length_append] at h9; omega
  omega
def BoRel (fs : List FileD) (w : World) (mb : Nat) (g : Nat) (i all once : Value) (wr : World) : Prop :=
  ∃ (k : Nat) (S : List ByteArray), k + g = fs.length ∧ i = .int .i64 k ∧ IsSet wr mb (k * 1000000000) S ∧ (∀ s, hasS S s = hasS ((newTo [] (chunksTo fs k)).map (·.1)) s) ∧
    all = .int .i64 (sumC (chunksTo fs k)) ∧ once = .int .i64 (sumC (newTo [] (chunksTo fs k))) ∧ Below w.heap.size w wr
def BiRel (pre cs : List ChunkD) (w : World) (mb base : Nat) (g : Nat) (i all once : Value) (wr : World) : Prop :=
  ∃ (k : Nat) (S : List ByteArray), k + g = cs.length ∧ i = .int .i64 k ∧ IsSet wr mb (base + k) S ∧ (∀ s, hasS S s = hasS ((newTo [] (pre ++ cs.take k)).map (·.1)) s) ∧
    all = .int .i64 (sumC (pre ++ cs.take k)) ∧ once = .int .i64 (sumC (newTo [] (pre ++ cs.take k))) ∧ Below w.heap.size w wr
set_option maxRecDepth 100000 in
set_option maxHeartbeats 1000000 in
theorem bytes_no (no : Int) (A : Option Addr) (lo c : Nat) (fs : List FileD) (w : World) (hf : FilesAt w lo (.slice A fs.length c) fs) (hok : FilesOk fs) (hn : fs.length ≤ 300) (hm : (manF no fs != 0) = true) :
    Calls Tryz.prog 45 #[.agg #[.int .i64 no, .slice A fs.length c]] w fun e w' => e = .returned (.tuple #[.int .i64 0, .int .i64 0, .int .i64 (manF no fs)]) ∧ Below w.heap.size w w' := by
  have HF := Lib.hid hf
  have HOK := Lib.hid hok
  clear hf hok
  go_enter Tryz.func45, Tryz.ntmps45
  go_wp2_with fail
  have hb0 := bfirst w (.cells #[.int .i64 no, .slice A fs.length c] 28)
  refine (checkManifest_any no A lo c fs _ (HF.out.below hb0) HOK.out hn).mono ?_
  rintro e w1 ⟨rfl, hb1⟩
  go_wp2_with fail
  go_ret3
  exact ⟨rfl, bon hb0 hb1⟩
set_option maxRecDepth 100000 in
set_option maxHeartbeats 4000000 in
theorem bytes_any (no : Int) (A : Option Addr) (lo c : Nat) (fs : List FileD) (w : World) (hf : FilesAt w lo (.slice A fs.length c) fs) (hok : FilesOk fs) (hn : fs.length ≤ 300) (hc9 : (allC fs).length ≤ 1000) (hm : manF no fs = 0) :
    Calls Tryz.prog 45 #[.agg #[.int .i64 no, .slice A fs.length c]] w fun e w' => e = .returned (.tuple #[.int .i64 (sumC (allC fs)), .int .i64 (sumC (newTo [] (allC fs))), .int .i64 0]) ∧ Below w.heap.size w w' := by
  have hmm := @run_makeMap Tryz.prog
  have HF := Lib.hid hf
  have HOK := Lib.hid hok
  have HM := Lib.hid hm
  have HC9 := Lib.hid hc9
  clear hf hok hm hc9
  go_enter Tryz.func45, Tryz.ntmps45
  go_wp2_with fail
  have hb0 := bfirst w (.cells #[.int .i64 no, .slice A fs.length c] 28)
  refine (checkManifest_any no A lo c fs _ (HF.out.below hb0) HOK.out hn).mono ?_
  rintro e w1 ⟨rfl, hb1⟩
  rw [HM.out]
  have B1 := bon hb0 hb1
  have m0 := bboxed hb1 0 _ rfl
  have m1 := bboxed hb1 1 _ rfl
  have lm := blt hb1
  clear hb0 hb1
  go_wp2_with fail
  have B2 := bbox B1 (.map #[] 0)
  have HS2 := Lib.hid (IsSet.new w1)
  obtain ⟨mb, hmb⟩ : ∃ mb, mb = w1.heap.size := ⟨_, rfl⟩
  have hmbz : w.heap.size ≤ mb := by omega
  rw [← hmb] at HS2 ⊢
  clear m0 m1 B1 hmb
  generalize w1.alloc (.map #[] 0) = w2 at *
  go_loopg [20, 2, 3, 8, 10, 27] fs.length (fun g i all once _ _ _ wr => BoRel fs w mb g i all once wr)
  case atStart => exact ⟨0, [], by omega, rfl, by simpa using HS2.out, by simp [hasS, newTo, chunksTo], rfl, rfl, B2⟩
  case round =>
    clear HS2
    obtain ⟨k, S, hk, rfl, hset, hS, rfl, rfl, hb⟩ := hrel
    by_cases hg : gk = 0
    · obtain rfl : k = fs.length := by omega
      clear hk hg hset hS
      go_wp2_with fail
      go_ret3
      exact ⟨rfl, hb⟩
    · have hlt : k < fs.length := by omega
      obtain ⟨g, o, B, m, d, rfl, hgl, cK0, cC0, hm, hL⟩ := HF.out.at_ hlt
      have cK := (hb.cell (p := ⟨g, o + k * 2, none⟩) hgl).trans cK0
      have cC := (hb.cell (p := ⟨g, o + k * 2 + 1, none⟩) hgl).trans cC0
      have HK := Lib.hid hk
      obtain ⟨nb, hnb⟩ : ∃ nb, nb = k * 1000000000 := ⟨_, rfl⟩
      rw [← hnb] at hset
      have HSET := Lib.hid hset
      have HS := Lib.hid hS
      obtain rfl := hm
      have HL := Lib.hid hL
      have hgk : gk ≠ 0 := hg
      have hcok : ∀ c ∈ fs[k].2, c.1.size ≤ 1000000000000 ∧ -1000000000000000 ≤ c.2 ∧ c.2 ≤ 1000000000000000 := (HOK.out _ (List.getElem_mem hlt)).2.2
      have hclen := (HOK.out _ (List.getElem_mem hlt)).2.1
      have HCT := Lib.hid (chunksTo_succ fs k hlt)
      have HPR := Lib.hid (fun j (hj : j ≤ fs[k].2.length) => let ⟨r, e⟩ := chunks_pre fs hlt hj; pre_bd HOK.out HC9.out e)
      have hkn : k ≤ 300 := by omega
      have hnb1 : nb + fs[k].2.length ≤ (k + 1) * 1000000000 := by omega
      have hnb2 : nb ≤ 500000000000 := by omega
      have HNB1 := Lib.hid hnb1
      clear hk hset hS hL hg cK0 cC0 hnb hnb1
      generalize fs[k] = fk at *
      obtain ⟨key, cs⟩ := fk
      have HCT2 : Hid (chunksTo fs (k + 1) = chunksTo fs k ++ cs) := HCT.out
      have HL2 : Hid (Lst w lo 2 (.slice B cs.length d) (cs.flatMap chC)) := HL.out
      have hclen2 : cs.length ≤ 1000000000 := hclen
      have HCO : Hid (∀ c ∈ cs, c.1.size ≤ 1000000000000 ∧ -1000000000000000 ≤ c.2 ∧ c.2 ≤ 1000000000000000) := hcok
      have HPR2 : Hid (∀ j, j ≤ cs.length → -1000000000000000000 ≤ sumC (chunksTo fs k ++ cs.take j) ∧ sumC (chunksTo fs k ++ cs.take j) ≤ 1000000000000000000 ∧ -1000000000000000000 ≤ sumC (newTo [] (chunksTo fs k ++ cs.take j)) ∧ sumC (newTo [] (chunksTo fs k ++ cs.take j)) ≤ 1000000000000000000) := HPR.out
      clear HCT HL hclen hcok HPR
      go_wp2_with fail
      have hb2 := bbox hb (.cells #[.string key, .slice B cs.length d] 52)
      have HSET2 := Lib.hid (HSET.out.alloc (.cells #[.string key, .slice B cs.length d] 52))
      clear cK cC HSET
      obtain ⟨wo, rfl⟩ : ∃ wo : World, wo = wr := ⟨_, rfl⟩
      obtain ⟨gq, rfl⟩ : ∃ gq, gq = gk := ⟨_, rfl⟩
      go_loopg [27, 2, 3, 10] cs.length (fun g i all once _ wx => BiRel (chunksTo fs k) cs w mb nb g i all once wx)
      case atStart => exact ⟨0, S, by omega, rfl, HSET2.out, by simpa using HS.out, by simp, by simp, hb2⟩
      case round =>
        clear HSET2 HS
        obtain ⟨j, T, hj, rfl, hset, hT, rfl, rfl, hb3⟩ := hrel
        by_cases hg1 : gk = 0
        · obtain rfl : j = cs.length := by omega
          rw [List.take_length, ← HCT2.out] at hT
          have HSE := Lib.hid (hset.mono (n' := (k + 1) * 1000000000) HNB1.out)
          have HT2 := Lib.hid hT
          clear hset hT hj hg1
          go_wp2_with fail
          go_roundg (gq - 1)
          case measure => omega
          case rel => exact ⟨k + 1, T, by have := HK.out; omega, by go_num, HSE.out, HT2.out, by rw [HCT2.out, List.take_length], by rw [HCT2.out, List.take_length], hb3⟩
        · have hjl : j < cs.length := by omega
          obtain ⟨g2, o2, rfl, hg2, e0, e1⟩ := HL2.out.chunk hjl rfl
          have f0 := (hb3.cell (p := ⟨g2, o2 + j * 2, none⟩) hg2).trans e0
          have f1 := (hb3.cell (p := ⟨g2, o2 + j * 2 + 1, none⟩) hg2).trans e1
          have hcj := HCO.out _ (List.getElem_mem hjl)
          have hpr := HPR2.out j (by omega)
          have happ : chunksTo fs k ++ cs.take (j + 1) = (chunksTo fs k ++ cs.take j) ++ [cs[j]] := by rw [List.take_succ_eq_append_getElem hjl, ← List.append_assoc]
          have HA := Lib.hid (show sumC (chunksTo fs k ++ cs.take (j + 1)) = sumC (chunksTo fs k ++ cs.take j) + cs[j].2 by rw [happ, sumC_snoc])
          have HST := Lib.hid (show newTo [] (chunksTo fs k ++ cs.take (j + 1)) = newStep [] (newTo [] (chunksTo fs k ++ cs.take j)) cs[j] by rw [happ, newTo_snoc])
          have HJ := Lib.hid hj
          have hgk1 : gk ≠ 0 := hg1
          have hT' : ∀ s, hasS T s = hasS ([] ++ (newTo [] (chunksTo fs k ++ cs.take j)).map (·.1)) s := hT
          clear hj hg1 e0 e1 happ hT
          generalize cs[j] = cj at *
          generalize newTo [] (chunksTo fs k ++ cs.take j) = out at *
          generalize sumC (chunksTo fs k ++ cs.take j) = al at *
          obtain ⟨ck, cz⟩ := cj
          have hset2 := hset.alloc (.cells #[.string ck, .int .i64 cz] 49)
          have hb4 := bbox hb3 (.cells #[.string ck, .int .i64 cz] 49)
          have hcs : ck.size ≤ 1000000000000 := hcj.1
          have hcz0 : -1000000000000000 ≤ cz := hcj.2.1
          have hcz1 : cz ≤ 1000000000000000 := hcj.2.2
          have HA2 : Hid (sumC (chunksTo fs k ++ cs.take (j + 1)) = al + cz) := HA.out
          have hmbl := hset.lt
          obtain ⟨p1, p2, p3, p4⟩ := hpr
          clear hset hcj HA
          rcases Bool.eq_false_or_eq_true (hasS T ck) with hq | hq
          · have HQ := Lib.hid (has_old hT' (c := (ck, cz)) hq)
            have HT2 := Lib.hid hT'
            have HSE := Lib.hid (hset2.mono (n' := nb + (j + 1)) (by omega))
            clear hT'
            go_wp2_with (at_lookup; refine wpList_lookup_set rfl _ _ rfl mb _ T ck rfl hset2 rfl hcs ?_)
            go_roundg (gk - 1)
            case measure => omega
            case rel => exact ⟨j + 1, T, by have := HJ.out; omega, by go_num, HSE.out, by rw [HST.out, HQ.out]; exact HT2.out, by rw [HA2.out], by rw [HST.out, HQ.out], hb4⟩
          · have HQ := Lib.hid (has_new hT' (c := (ck, cz)) hq)
            have HQ3 := Lib.hid (show sumC (newTo [] (chunksTo fs k ++ cs.take (j + 1))) = sumC out + cz by rw [HST.out, HQ.out.1, sumC_snoc])
            clear hT'
            generalize sumC out = so at *
            go_wp2_with (first | (at_lookup; refine wpList_lookup_set rfl _ _ rfl mb _ T ck rfl hset2 rfl hcs ?_) | (at_mapUpdate; refine wpList_update_set rfl _ _ _ rfl mb _ T ck rfl hset2 rfl rfl hcs (by omega) ?_))
            intro w4 hset4 hgr4
            have hb5 := hb4.grown hgr4 (by have := hb3.size; simp; omega) (fun x hx => by cases hx; exact hmbz)
            have q0 : w4.cell? ⟨wr.heap.size, 0, none⟩ = some (.string ck) := (World.cell?_of_block (hgr4.block wr.heap.size (by simp) (fun e => by injection e with e; omega))).trans (cell_new_list wr _ _ 0 _ rfl)
            have q1 : w4.cell? ⟨wr.heap.size, 1, none⟩ = some (.int .i64 cz) := (World.cell?_of_block (hgr4.block wr.heap.size (by simp) (fun e => by injection e with e; omega))).trans (cell_new_list wr _ _ 1 _ rfl)
            have HSE := Lib.hid hset4
            clear hq hset2 hset4 hgr4 hb4
            go_wp2_with fail
            go_roundg (gk - 1)
            case measure => omega
            case rel => exact ⟨j + 1, ck :: T, by have := HJ.out; omega, by go_num, HSE.out, by rw [HST.out]; exact HQ.out.2, by rw [HA2.out], by rw [HQ3.out], hb5⟩

/-! ### BytesOf -/
def SoRel (fs : List FileD) (w : World) (g : Nat) (i all : Value) (wr : World) : Prop :=
  ∃ k : Nat, k + g = fs.length ∧ i = .int .i64 k ∧ all = .int .i64 (sumC (chunksTo fs k)) ∧ Below w.heap.size w wr
def SiRel (pre cs : List ChunkD) (w : World) (g : Nat) (i all : Value) (wr : World) : Prop :=
  ∃ k : Nat, k + g = cs.length ∧ i = .int .i64 k ∧ all = .int .i64 (sumC (pre ++ cs.take k)) ∧ Below w.heap.size w wr
def SrRel (ds : List ChunkD) (w : World) (g : Nat) (i one : Value) (wr : World) : Prop :=
  ∃ k : Nat, k + g = ds.length ∧ i = .int .i64 k ∧ one = .int .i64 (sumC (ds.take k)) ∧ Below w.heap.size w wr
set_option maxRecDepth 100000 in
set_option maxHeartbeats 4000000 in
theorem bytesOf_any (no : Int) (A : Option Addr) (lo c : Nat) (fs : List FileD) (w : World) (hf : FilesAt w lo (.slice A fs.length c) fs) (hok : FilesOk fs) (hn : fs.length ≤ 300) (hc9 : (allC fs).length ≤ 1000) :
    Calls Tryz.prog 46 #[.agg #[.int .i64 no, .slice A fs.length c]] w fun e w' => e = .returned (.tuple #[.int .i64 (sumC (allC fs)), .int .i64 (sumC (newTo [] (allC fs)))]) ∧ Below w.heap.size w w' := by
  have HF := Lib.hid hf
  have HOK := Lib.hid hok
  have HC9 := Lib.hid hc9
  clear hf hok hc9
  go_enter Tryz.func46, Tryz.ntmps46
  go_wp2_with fail
  have hb0 := bfirst w (.cells #[.int .i64 no, .slice A fs.length c] 28)
  have hm0 := heap_alloc_new w (.cells #[.int .i64 no, .slice A fs.length c] 28)
  have HM0 := Lib.hid hm0
  clear hm0
  obtain ⟨w0, hw0⟩ : ∃ w0, w0 = w.alloc (.cells #[.int .i64 no, .slice A fs.length c] 28) := ⟨_, rfl⟩
  rw [← hw0] at HM0 hb0 ⊢
  clear hw0
  go_loopg [13, 2, 5, 7, 20] fs.length (fun g i all _ _ _ wr => SoRel fs w0 g i all wr)
  case atStart => exact ⟨0, by omega, rfl, rfl, Below.refl _ _⟩
  case round =>
    obtain ⟨k, hk, rfl, rfl, hb⟩ := hrel
    have hbw := bon hb0 hb
    by_cases hg : gk = 0
    · obtain rfl : k = fs.length := by omega
      have hM := (hb.block w.heap.size (block_lt HM0.out)).trans HM0.out
      have n0 := (stream_cells hM).1
      have n1 := (stream_cells hM).2.1
      have ln := block_lt hM
      clear hk hg hM
      go_wp2_with fail
      refine (each_any no A lo c fs _ (HF.out.below hbw) HOK.out hn).mono ?_
      rintro e w1 ⟨v, rfl, hown, hb1⟩
      have B1 := bon hbw hb1
      obtain ⟨C, m, q, rfl⟩ := own_form hown
      obtain rfl := own_len hown
      have HL := Lib.hid (Lst.of_own hown)
      have HBD : Hid (∀ j, -1000000000000000000 ≤ sumC ((newTo [] (allC fs)).take j) ∧ sumC ((newTo [] (allC fs)).take j) ≤ 1000000000000000000) := fun j => by
        have h1 := sumC_bd ((newTo [] (allC fs)).take j) (fun x hx => allC_ok HOK.out x (newTo_sub [] _ x (List.mem_of_mem_take hx)))
        have h2 : ((newTo [] (allC fs)).take j).length ≤ 1000 := by have := newTo_len [] (allC fs); have := HC9.out; rw [List.length_take]; omega
        omega
      have HCZ : Hid (∀ x ∈ newTo [] (allC fs), -1000000000000000 ≤ x.2 ∧ x.2 ≤ 1000000000000000) := fun x hx => allC_ok HOK.out x (newTo_sub [] _ x hx)
      have hl9 : (newTo [] (allC fs)).length ≤ 1000 := by have := newTo_len [] (allC fs); have := HC9.out; omega
      clear hown hb1 n0 n1 ln hb hbw
      obtain ⟨wa, rfl⟩ : ∃ wa : World, wa = wr := ⟨_, rfl⟩
      obtain ⟨ga, rfl⟩ : ∃ ga, ga = gk := ⟨_, rfl⟩
      obtain ⟨ds, hds⟩ : ∃ ds, ds = newTo [] (allC fs) := ⟨_, rfl⟩
      rw [← hds] at HL HBD HCZ hl9 ⊢
      have HDS := Lib.hid hds
      clear hds
      go_wp2_with fail
      go_loopg [33, 3, 9] ds.length (fun g i one _ wr => SrRel ds w1 g i one wr)
      case atStart => exact ⟨0, by omega, rfl, rfl, Below.refl _ _⟩
      case round =>
        obtain ⟨k, hk, rfl, rfl, hb⟩ := hrel
        by_cases hg : gk = 0
        · obtain rfl : k = ds.length := by omega
          clear hk hg
          go_wp2_with fail
          go_ret2
          exact ⟨by rw [List.take_length, HDS.out]; rfl, bon B1 hb⟩
        · have hlt : k < ds.length := by omega
          obtain ⟨g2, o2, rfl, hg2, f0, f1⟩ := (HL.out.below hb).chunk hlt rfl
          have hbd := HBD.out k
          have hcz := HCZ.out _ (List.getElem_mem hlt)
          have HA := Lib.hid (show sumC (ds.take (k + 1)) = sumC (ds.take k) + ds[k].2 by rw [List.take_succ_eq_append_getElem hlt, sumC_snoc])
          have HK := Lib.hid hk
          have hgk : gk ≠ 0 := hg
          clear hk hg
          generalize ds[k] = x at *
          generalize sumC (ds.take k) = so at *
          obtain ⟨xk, xz⟩ := x
          have hz0 : -1000000000000000 ≤ xz := hcz.1
          have hz1 : xz ≤ 1000000000000000 := hcz.2
          have HA2 : Hid (sumC (ds.take (k + 1)) = so + xz) := HA.out
          obtain ⟨p1, p2⟩ := hbd
          have hb4 := bbox hb (.cells #[.string xk, .int .i64 xz] 49)
          clear hcz HA
          go_wp2_with fail
          go_roundg (gk - 1)
          case measure => omega
          case rel => exact ⟨k + 1, by have := HK.out; omega, by go_num, by rw [HA2.out], hb4⟩
    · have hlt : k < fs.length := by omega
      obtain ⟨g, o, B, m, d, rfl, hgl, cK, cC, hm, hL⟩ := (HF.out.below hbw).at_ hlt
      obtain rfl := hm
      have HL := Lib.hid hL
      have HK := Lib.hid hk
      have hgk : gk ≠ 0 := hg
      have hcok : ∀ c ∈ fs[k].2, c.1.size ≤ 1000000000000 ∧ -1000000000000000 ≤ c.2 ∧ c.2 ≤ 1000000000000000 := (HOK.out _ (List.getElem_mem hlt)).2.2
      have hclen := (HOK.out _ (List.getElem_mem hlt)).2.1
      have HCT := Lib.hid (chunksTo_succ fs k hlt)
      have HPR := Lib.hid (fun j (hj : j ≤ fs[k].2.length) => let ⟨r, e⟩ := chunks_pre fs hlt hj; pre_bd HOK.out HC9.out e)
      clear hk hg hL
      generalize fs[k] = fk at *
      obtain ⟨key, cs⟩ := fk
      have HCT2 : Hid (chunksTo fs (k + 1) = chunksTo fs k ++ cs) := HCT.out
      have HL2 : Hid (Lst wr lo 2 (.slice B cs.length d) (cs.flatMap chC)) := HL.out
      have hclen2 : cs.length ≤ 1000000000 := hclen
      have HCO : Hid (∀ c ∈ cs, c.1.size ≤ 1000000000000 ∧ -1000000000000000 ≤ c.2 ∧ c.2 ≤ 1000000000000000) := hcok
      have HPR2 : Hid (∀ j, j ≤ cs.length → -1000000000000000000 ≤ sumC (chunksTo fs k ++ cs.take j) ∧ sumC (chunksTo fs k ++ cs.take j) ≤ 1000000000000000000 ∧ -1000000000000000000 ≤ sumC (newTo [] (chunksTo fs k ++ cs.take j)) ∧ sumC (newTo [] (chunksTo fs k ++ cs.take j)) ≤ 1000000000000000000) := HPR.out
      clear HCT HL hclen hcok HPR
      go_wp2_with fail
      have hb2 := bbox (Below.refl _ wr) (.cells #[.string key, .slice B cs.length d] 52)
      clear cK cC
      obtain ⟨wo, rfl⟩ : ∃ wo : World, wo = wr := ⟨_, rfl⟩
      obtain ⟨gq, rfl⟩ : ∃ gq, gq = gk := ⟨_, rfl⟩
      go_loopg [20, 2, 7] cs.length (fun g i all _ wx => SiRel (chunksTo fs k) cs wo g i all wx)
      case atStart => exact ⟨0, by omega, rfl, by simp, hb2⟩
      case round =>
        obtain ⟨j, hj, rfl, rfl, hb3⟩ := hrel
        by_cases hg1 : gk = 0
        · obtain rfl : j = cs.length := by omega
          clear hj hg1
          go_wp2_with fail
          go_roundg (gq - 1)
          case measure => omega
          case rel => exact ⟨k + 1, by have := HK.out; omega, by go_num, by rw [HCT2.out, List.take_length], bon hb hb3⟩
        · have hjl : j < cs.length := by omega
          obtain ⟨g2, o2, rfl, hg2, f0, f1⟩ := (HL2.out.below hb3).chunk hjl rfl
          have hcj := HCO.out _ (List.getElem_mem hjl)
          have hpr := HPR2.out j (by omega)
          have HA := Lib.hid (show sumC (chunksTo fs k ++ cs.take (j + 1)) = sumC (chunksTo fs k ++ cs.take j) + cs[j].2 by rw [List.take_succ_eq_append_getElem hjl, ← List.append_assoc, sumC_snoc])
          have HJ := Lib.hid hj
          have hgk1 : gk ≠ 0 := hg1
          clear hj hg1
          generalize cs[j] = cj at *
          generalize sumC (chunksTo fs k ++ cs.take j) = al at *
          obtain ⟨ck, cz⟩ := cj
          have hcz0 : -1000000000000000 ≤ cz := hcj.2.1
          have hcz1 : cz ≤ 1000000000000000 := hcj.2.2
          have HA2 : Hid (sumC (chunksTo fs k ++ cs.take (j + 1)) = al + cz) := HA.out
          obtain ⟨p1, p2, p3, p4⟩ := hpr
          have hb4 := bbox hb3 (.cells #[.string ck, .int .i64 cz] 49)
          clear hcj HA p3 p4
          go_wp2_with fail
          go_roundg (gk - 1)
          case measure => omega
          case rel => exact ⟨j + 1, by have := HJ.out; omega, by go_num, by rw [HA2.out], hb4⟩
end Go.Proofs.YtegalkmfoffpfaaGreatDoor
