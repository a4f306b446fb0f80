/- Chunks, each sum once: each, Missing. -/
import Derived.Test.YtegalkmfoffpfaaGreatDoorSets
import Derived.Test.YtegalkmfoffpfaaGreatDoorTree
namespace Go.Proofs.YtegalkmfoffpfaaGreatDoor
open Go.RowKit Go.Maps Go.WideMaps

/-- The chunks whose sums are not in H, each sum once, in their order. -/
def newStep (H : List ByteArray) (out : List ChunkD) (c : ChunkD) : List ChunkD := if hasS (H ++ out.map (·.1)) c.1 then out else out ++ [c]
def newTo (H : List ByteArray) (cs : List ChunkD) : List ChunkD := cs.foldl (newStep H) []
theorem newTo_snoc (H : List ByteArray) (cs : List ChunkD) (c : ChunkD) : newTo H (cs ++ [c]) = newStep H (newTo H cs) c := by unfold newTo; rw [List.foldl_append]; rfl
theorem newStep_len (H : List ByteArray) (out : List ChunkD) (c : ChunkD) : (newStep H out c).length ≤ out.length + 1 := by
  unfold newStep; split
  · omega
  · simp
theorem newTo_len (H : List ByteArray) (cs : List ChunkD) : (newTo H cs).length ≤ cs.length := by
  have : ∀ (cs out : List ChunkD), (cs.foldl (newStep H) out).length ≤ out.length + cs.length := by
    intro cs
    induction cs with
    | nil => intro out; simp
    | cons c cs ih => intro out; have := ih (newStep H out c); have := newStep_len H out c; simp only [List.foldl_cons, List.length_cons]; omega
  have := this cs []
  simpa [newTo] using this
def allC (fs : List FileD) : List ChunkD := chunksTo fs fs.length
theorem infoChunk : (Tryz.prog.info? 49).map (fun i => (i.zero, i.size, i.bytes)) = some (some (.agg #[.string ⟨#[]⟩, .int .i64 0]), 2, 24) := by kernel_rfl
def EoRel (H : List ByteArray) (fs : List FileD) (w : World) (mb base : Nat) (g : Nat) (i out : Value) (wr : World) : Prop :=
  ∃ (k : Nat) (S : List ByteArray), k + g = fs.length ∧ i = .int .i64 k ∧ IsSet wr mb (base + k * 1000000000) S ∧ (∀ s, hasS S s = hasS (H ++ (newTo H (chunksTo fs k)).map (·.1)) s) ∧
    wr.ownsRow w.heap.size 49 2 out (newTo H (chunksTo fs k)).length ((newTo H (chunksTo fs k)).flatMap chC) ∧ Below w.heap.size w wr
def EiRel (H : List ByteArray) (pre cs : List ChunkD) (w : World) (mb base : Nat) (g : Nat) (i out : Value) (wr : World) : Prop :=
  ∃ (k : Nat) (S : List ByteArray), k + g = cs.length ∧ i = .int .i64 k ∧ IsSet wr mb (base + k) S ∧ (∀ s, hasS S s = hasS (H ++ (newTo H (pre ++ cs.take k)).map (·.1)) s) ∧
    wr.ownsRow w.heap.size 49 2 out (newTo H (pre ++ cs.take k)).length ((newTo H (pre ++ cs.take k)).flatMap chC) ∧ Below w.heap.size w wr
theorem own_map_ne {w : World} {base size n mb m : Nat} {e : TypeId} {v : Value} {xs : List Value} {S : List ByteArray} (h : w.ownsRow base e size v n xs) (hs : IsSet w mb m S) : some mb ≠ v.ownBlock := by
  intro hb
  obtain ⟨D, ⟨es, clock, hh, _⟩, _⟩ := hs
  rcases h.2 with ⟨rfl, _⟩ | ⟨g, cap, cur, rfl, _, hh2, _⟩
  · simp [Value.ownBlock] at hb
  · simp [Value.ownBlock] at hb
    subst hb
    rw [hh] at hh2; cases hh2
theorem has_new {H : List ByteArray} {S : List ByteArray} {out : List ChunkD} {c : ChunkD} (h : ∀ s, hasS S s = hasS (H ++ out.map (·.1)) s) (hc : hasS S c.1 = false) : newStep H out c = out ++ [c] ∧ ∀ s, hasS (c.1 :: S) s = hasS (H ++ (newStep H out c).map (·.1)) s := by
  have e : newStep H out c = out ++ [c] := by rw [newStep, ← h, hc]; rfl
  refine ⟨e, fun s => ?_⟩
  rw [e, hasS_cons, h, List.map_append, ← List.append_assoc, hasS_append]
  simp [hasS, Bool.or_comm, Bool.or_left_comm]
theorem has_old {H : List ByteArray} {S : List ByteArray} {out : List ChunkD} {c : ChunkD} (h : ∀ s, hasS S s = hasS (H ++ out.map (·.1)) s) (hc : hasS S c.1 = true) : newStep H out c = out := by rw [newStep, ← h, hc]; rfl

set_option maxRecDepth 100000 in
set_option maxHeartbeats 4000000 in
theorem each_any (no : Int) (A : Option Addr) (lo c : Nat) (fs : List FileD) (w : World) (hf : FilesAt w lo (.slice A fs.length c) fs) (hok : FilesOk fs) (hn : fs.length ≤ 300) :
    Calls Tryz.prog 118 #[.agg #[.int .i64 no, .slice A fs.length c]] w fun e w' => ∃ v, e = .returned v ∧ w'.ownsRow w.heap.size 49 2 v (newTo [] (allC fs)).length ((newTo [] (allC fs)).flatMap chC) ∧ Below w.heap.size w w' := by
  have hmm := @run_makeMap Tryz.prog
  have HF := Lib.hid hf
  have HOK := Lib.hid hok
  clear hf hok
  obtain ⟨i0, hi, hz0, hz1, hz2⟩ := info_parts infoChunk
  obtain ⟨H, hH⟩ : ∃ H : List ByteArray, H = [] := ⟨_, rfl⟩
  rw [← hH]
  have HH := Lib.hid hH
  clear hH
  go_enter Tryz.func118, Tryz.ntmps118
  go_wp2_with fail
  have hb0 := bfirst w (.cells #[.int .i64 no, .slice A fs.length c] 28)
  have hbA := bbox hb0 (.map #[] 0)
  have HSET := Lib.hid (IsSet.new (w.alloc (.cells #[.int .i64 no, .slice A fs.length c] 28)))
  simp only [World.size_alloc] at HSET
  obtain ⟨mb, hmb⟩ : ∃ mb, mb = w.heap.size + 1 := ⟨_, rfl⟩
  have hmbz : w.heap.size ≤ mb := by omega
  rw [← hmb] at HSET ⊢
  generalize (w.alloc (.cells #[.int .i64 no, .slice A fs.length c] 28)).alloc (.map #[] 0) = w0 at *
  clear hb0 hmb
  go_loopg [13, 3, 6, 8, 20] fs.length (fun g i out _ _ _ wr => EoRel H fs w mb 0 g i out wr)
  case atStart => exact ⟨0, [], by omega, rfl, by simpa using HSET.out, by intro s; rw [HH.out]; rfl, World.ownsRow_nil _ _ _ _, hbA⟩
  case round =>
    clear HSET
    obtain ⟨k, S, hk, rfl, hset, hS, hown, hb⟩ := hrel
    by_cases hg : gk = 0
    · obtain rfl : k = fs.length := by omega
      have HO := Lib.hid hown
      clear hk hg hown hset hS
      go_wp2_with fail
      (go_ret; exact ⟨_, rfl, HO.out, hb⟩)
    · have hlt : k < fs.length := by omega
      have hl9 := chunksTo_len fs HOK.out k
      obtain ⟨g, o, B, m, d, rfl, hgl, cK0, cC0, hm, hL⟩ := HF.out.at_ hlt
      have cK := (hb.cell (p := ⟨g, o + k * 2, none⟩) hgl).trans cK0
      have cC := (hb.cell (p := ⟨g, o + k * 2 + 1, none⟩) hgl).trans cC0
      have HK := Lib.hid hk
      have HSET := Lib.hid hset
      have HS := Lib.hid hS
      have HOW := Lib.hid hown
      obtain rfl := hm
      have HL := Lib.hid hL
      have hgk : gk ≠ 0 := hg
      have hcok : ∀ c ∈ fs[k].2, c.1.size ≤ 1000000000000 ∧ -1000000000000000 ≤ c.2 ∧ c.2 ≤ 1000000000000000 := (HOK.out _ (List.getElem_mem hlt)).2.2
      have hclen := (HOK.out _ (List.getElem_mem hlt)).2.1
      have HCT := Lib.hid (chunksTo_succ fs k hlt)
      have hkn : k ≤ 300 := by omega
      clear hk hset hS hL hg hown cK0 cC0
      generalize fs[k] = fk at *
      obtain ⟨key, cs⟩ := fk
      have HCT2 : Hid (chunksTo fs (k + 1) = chunksTo fs k ++ cs) := HCT.out
      have HL2 : Hid (Lst w lo 2 (.slice B cs.length d) (cs.flatMap chC)) := HL.out
      have hclen2 : cs.length ≤ 1000000000 := hclen
      have HCO : Hid (∀ c ∈ cs, c.1.size ≤ 1000000000000 ∧ -1000000000000000 ≤ c.2 ∧ c.2 ≤ 1000000000000000) := hcok
      clear HCT HL hclen hcok
      go_wp2_with fail
      have hb2 := bbox hb (.cells #[.string key, .slice B cs.length d] 52)
      obtain ⟨nb, hnb⟩ : ∃ nb, nb = 0 + k * 1000000000 := ⟨_, rfl⟩
      rw [← hnb] at HSET
      have hnb1 : nb + cs.length ≤ 0 + (k + 1) * 1000000000 := by omega
      have hnb2 : nb ≤ 500000000000 := by omega
      have HNB := Lib.hid hnb
      have HNB1 := Lib.hid hnb1
      clear hnb hnb1
      have HSET2 := Lib.hid (HSET.out.alloc (.cells #[.string key, .slice B cs.length d] 52))
      have HOW2 := Lib.hid (HOW.out.alloc (.cells #[.string key, .slice B cs.length d] 52))
      clear cK cC HSET HOW
      obtain ⟨wo, rfl⟩ : ∃ wo : World, wo = wr := ⟨_, rfl⟩
      obtain ⟨gq, rfl⟩ : ∃ gq, gq = gk := ⟨_, rfl⟩
      go_loopg [20, 3, 8] cs.length (fun g i out _ wx => EiRel H (chunksTo fs k) cs w mb nb g i out wx)
      case atStart => exact ⟨0, S, by omega, rfl, HSET2.out, by simpa using HS.out, by simpa using HOW2.out, hb2⟩
      case round =>
        clear HSET2 HS HOW2
        obtain ⟨j, T, hj, rfl, hset, hT, hown, hb3⟩ := hrel
        by_cases hg1 : gk = 0
        · obtain rfl : j = cs.length := by omega
          rw [List.take_length] at hT hown
          have HSE := Lib.hid (hset.mono (n' := 0 + (k + 1) * 1000000000) HNB1.out)
          have HT2 : Hid (∀ s, hasS T s = hasS (H ++ (newTo H (chunksTo fs (k + 1))).map (·.1)) s) := by rw [HCT2.out]; exact hT
          have HO2 : Hid (wr.ownsRow w.heap.size 49 2 u3 (newTo H (chunksTo fs (k + 1))).length ((newTo H (chunksTo fs (k + 1))).flatMap chC)) := by rw [HCT2.out]; exact hown
          clear hset hT hown hj hg1
          go_wp2_with fail
          go_roundg (gq - 1)
          case measure => omega
          case rel => exact ⟨k + 1, T, by have := HK.out; omega, by go_num, HSE.out, HT2.out, HO2.out, hb3⟩
        · have hjl : j < cs.length := by omega
          have hl8 := newTo_len H (chunksTo fs k ++ cs.take j)
          have hl7 : (newTo H (chunksTo fs k ++ cs.take j)).length ≤ 1000000000000 := by rw [List.length_append, List.length_take] at hl8; omega
          obtain ⟨g2, o2, rfl, hg2, e0, e1⟩ := HL2.out.chunk hjl rfl
          have f0 := (hb3.cell (p := ⟨g2, o2 + j * 2, none⟩) hg2).trans e0
          have f1 := (hb3.cell (p := ⟨g2, o2 + j * 2 + 1, none⟩) hg2).trans e1
          have hcj := (HCO.out _ (List.getElem_mem hjl)).1
          have HST := Lib.hid (show newTo H (chunksTo fs k ++ cs.take (j + 1)) = newStep H (newTo H (chunksTo fs k ++ cs.take j)) cs[j] by rw [List.take_succ_eq_append_getElem hjl, ← List.append_assoc, newTo_snoc])
          have HJ := Lib.hid hj
          have hgk1 : gk ≠ 0 := hg1
          clear hj hg1 e0 e1 hl8
          generalize cs[j] = cj at *
          generalize newTo H (chunksTo fs k ++ cs.take j) = out at *
          obtain ⟨ck, cz⟩ := cj
          have hbz3 := hb3.size
          have hset2 := hset.alloc (.cells #[.string ck, .int .i64 cz] 49)
          have hb4 := bbox hb3 (.cells #[.string ck, .int .i64 cz] 49)
          have hown2 := hown.alloc (.cells #[.string ck, .int .i64 cz] 49)
          have hcs : ck.size ≤ 1000000000000 := hcj
          have hmbl := hset.lt
          clear hset hown hcj
          rcases Bool.eq_false_or_eq_true (hasS T ck) with hq | hq
          · have HQ := Lib.hid (has_old hT (c := (ck, cz)) hq)
            have HT2 := Lib.hid hT
            have HSE := Lib.hid (hset2.mono (n' := nb + (j + 1)) (by omega))
            have HO2 := Lib.hid hown2
            clear hT hown2
            go_wp2_with (at_lookup; refine wpList_lookup_set rfl _ _ rfl mb _ T ck rfl hset2 rfl hcs ?_)
            go_roundg (gk - 1)
            case measure => omega
            case rel => exact ⟨j + 1, T, by have := HJ.out; omega, by go_num, HSE.out, by rw [HST.out, HQ.out]; exact HT2.out, by rw [HST.out, HQ.out]; exact HO2.out, hb4⟩
          · have HQ := Lib.hid (has_new hT (c := (ck, cz)) hq)
            clear hT
            go_wp2_with (first | (at_lookup; refine wpList_lookup_set rfl _ _ rfl mb _ T ck rfl hset2 rfl hcs ?_) | (at_mapUpdate; refine wpList_update_set rfl _ _ _ rfl mb _ T ck rfl hset2 rfl rfl hcs (by omega) ?_))
            intro w4 hset4 hgr4
            clear hq
            have hown4 := hown2.kept hgr4 (.inr fun e => own_map_ne hown2 hset2 e.symm)
            have hb5 := hb4.grown hgr4 (by simp; omega) (fun x hx => by cases hx; exact hmbz)
            have hbz5 := hb5.size
            have q0 : w4.cell? ⟨wr.heap.size, 0, none⟩ = some (.string ck) := (World.cell?_of_block (hgr4.block wr.heap.size (by simp) (fun e => by injection e with e; omega))).trans (cell_new_list wr _ _ 0 _ rfl)
            have q1 : w4.cell? ⟨wr.heap.size, 1, none⟩ = some (.int .i64 cz) := (World.cell?_of_block (hgr4.block wr.heap.size (by simp) (fun e => by injection e with e; omega))).trans (cell_new_list wr _ _ 1 _ rfl)
            have ql : wr.heap.size < w4.heap.size := World.block_lt_of_cell? w4 _ q0
            clear hset2 hown2 hgr4 hb4
            go_wp2_with (at_builtin; refine wpList_push (W := w) (lo := w.heap.size) rfl _ _ 50 rfl 49 i0 _ 2 24 Tryz.underlying50 hi hz0 hz1 hz2 rfl (by decide) (by decide) _ _ _ rfl hb5 hbz5 hown4 [.string ck, .int .i64 cz] rfl rfl rfl rfl hl7 ?_)
            intro v' w5 hown5 hb6 _ hg5
            have hset5 := hset4.kept hg5 (own_map_ne hown4 hset4)
            have HSE := Lib.hid (hset5.mono (n' := nb + (j + 1)) (by omega))
            have HO2 := Lib.hid hown5
            clear hset4 hset5 hown4 hown5 hg5 q0 q1
            go_wp2_with fail
            go_roundg (gk - 1)
            case measure => omega
            case rel => exact ⟨j + 1, ck :: T, by have := HJ.out; omega, by go_num, HSE.out, by rw [HST.out]; exact HQ.out.2, by rw [HST.out, HQ.out.1, List.length_append, List.flatMap_append]; exact HO2.out, hb6⟩
end Go.Proofs.YtegalkmfoffpfaaGreatDoor
