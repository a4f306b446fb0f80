/- The law ManifestsTold returns true at every slice of ints. -/
import Derived.Test.YtegalkmfoffpfaaGreatDoorTellMath
import Derived.Test.YtegalkmfoffpfaaGreatDoorGenSums
import Derived.Test.YtegalkmfoffpfaaGreatDoorOrs
import Derived.Test.YtegalkmfoffpfaaGreatDoorEqual
import Derived.Test.YtegalkmfoffpfaaGreatDoorSynced
import Derived.Deep.DeepCutAuto
namespace Go.Proofs.YtegalkmfoffpfaaGreatDoor
open Go.RowKit
attribute [local go_sem ↓] Go.wp_at_zero Go.wp_at_succ

theorem filesAt_short2 {w : World} {base lo n : Nat} {v : Value} (h : FiWf w base lo v n) : ∃ fs : List FileD, fs.length = n ∧ FilesOk fs ∧ (∀ f ∈ fs, Short f) ∧ FilesAt w base v fs := by
  obtain ⟨ps, h1, h2, h3⟩ := h
  have hc : ∀ p : {p // p ∈ ps}, ∃ cs : List ChunkD, cs.length ≤ 3 ∧ (∀ c ∈ cs, okCh c) ∧ Lst w base 2 p.1.2 (cs.flatMap chC) := fun p => let ⟨cs, _, b, c, d⟩ := (h3 p.1 p.2).2; ⟨cs, b, c, .of_own d⟩
  let F : {p // p ∈ ps} → FileD := fun p => (p.1.1, (hc p).choose)
  refine ⟨ps.attach.map F, by simpa using h1, ?_, ?_, ps, .of_own h2, by simp, ?_⟩
  · intro f hf
    obtain ⟨p, hp, rfl⟩ := List.mem_map.1 hf
    have hs := (hc p).choose_spec
    refine ⟨by have := (h3 p.1 p.2).1; show p.1.1.size ≤ _; omega, by have := hs.1; show (hc p).choose.length ≤ _; omega, fun c hcc => ?_⟩
    have := hs.2.1 c hcc
    unfold okCh at this
    exact ⟨by omega, by omega, by omega⟩
  · intro f hf
    obtain ⟨p, hp, rfl⟩ := List.mem_map.1 hf
    have hs := (hc p).choose_spec
    refine ⟨(h3 p.1 p.2).1, hs.1, fun c hcc => ?_⟩
    have := hs.2.1 c hcc
    unfold okCh at this
    exact this.1
  · intro i hi
    have hip : i < ps.length := by simpa using hi
    refine ⟨ps[i].2, ?_, ?_⟩
    · simp [F, List.getElem?_eq_getElem hip]
    · simp only [List.getElem_map, List.getElem_attach]
      exact (hc ⟨ps[i], List.getElem_mem hip⟩).choose_spec.2.2
theorem equalStr_same (A A' : Option Addr) (c c' lo lo' : Nat) (ss : List ByteArray) (w : World) (hn : ss.length ≤ 1000000)
    (h1 : Lst w lo 1 (.slice A ss.length c) (strC ss)) (h2 : Lst w lo' 1 (.slice A' ss.length c') (strC ss)) :
    Calls Tryz.prog 52 #[.slice A ss.length c, .slice A' ss.length c'] w fun e w' => e = .returned (.bool true) ∧ ∃ q, w' = w.drewN q := by
  by_cases h0 : ss.length = 0
  · rw [h0]
    refine (Tryz.slices_Equal_string_empty A A' c 0 c' w (by omega)).mono ?_
    rintro e w' ⟨rfl, rfl⟩
    exact ⟨rfl, 0, rfl⟩
  · obtain ⟨g, o, rfl, _, _, hc⟩ := h1.open_ (by omega)
    obtain ⟨g', o', rfl, _, _, hc'⟩ := h2.open_ (by omega)
    have get : ∀ j, j < ss.length → (strC ss)[j]? = some (.string (ss.getD j ByteArray.empty)) := fun j hj => by simp [strC, List.getElem?_eq_getElem hj]
    refine (Tryz.slices_Equal_string g o ss.length c g' o' ss.length c' ss ss w (Nat.le_refl _) (Nat.le_refl _) (by omega) (by omega) (fun j hj => hc j _ (get j hj)) (fun j hj => hc' j _ (get j hj))).mono ?_
    rintro e w' ⟨rfl, q, rfl⟩
    exact ⟨by simp, q, rfl⟩
def byA (no : Int) (fs : List FileD) : Int := if manF no fs = 0 then sumC (allC fs) else 0
def byB (no : Int) (fs : List FileD) : Int := if manF no fs = 0 then sumC (newTo [] (allC fs)) else 0
theorem bytes_all (no : Int) (A : Option Addr) (lo c : Nat) (fs : List FileD) (w : World) (hf : FilesAt w lo (.slice A fs.length c) fs) (hok : FilesOk fs) (hn : fs.length ≤ 300) (hc9 : (allC fs).length ≤ 1000) :
    Calls Tryz.prog 45 #[.agg #[.int .i64 no, .slice A fs.length c]] w fun e w' => e = .returned (.tuple #[.int .i64 (byA no fs), .int .i64 (byB no fs), .int .i64 (manF no fs)]) ∧ Below w.heap.size w w' := by
  by_cases h : manF no fs = 0
  · refine (bytes_any no A lo c fs w hf hok hn hc9 h).mono ?_
    rintro e w1 ⟨rfl, hb⟩
    exact ⟨by rw [byA, byB, if_pos h, if_pos h, h], hb⟩
  · refine (bytes_no no A lo c fs w hf hok hn (bne_iff_ne.2 h)).mono ?_
    rintro e w1 ⟨rfl, hb⟩
    exact ⟨by rw [byA, byB, if_neg h, if_neg h], hb⟩
theorem orF_mh (no : Int) (fs : List FileD) (hv : List ByteArray) : orF [manF no fs, haveF hv] = mhF no fs hv := by
  unfold mhF orF orF orF
  split
  · split
    · rename_i h; exact h.symm
    · rfl
  · rfl
theorem str_form {w : World} {lo n : Nat} {v : Value} {ss : List ByteArray} (h : Lst w lo 1 v (strC ss)) (hn : ss.length = n) : ∃ A c, v = .slice A n c := by
  obtain ⟨A, m, c, rfl, _, _, hx⟩ := h.form
  simp [strC] at hx
  exact ⟨A, c, by rw [show m = n by omega]⟩
theorem ch_form {w : World} {lo n : Nat} {v : Value} {ds : List ChunkD} (h : Lst w lo 2 v (ds.flatMap chC)) (hn : ds.length = n) : ∃ A c, v = .slice A n c := by
  obtain ⟨A, m, c, rfl, _, _, hx⟩ := h.form
  have := flat2_len ds chC (fun _ => rfl)
  exact ⟨A, c, by rw [show m = n by omega]⟩

set_option maxRecDepth 100000 in
set_option maxHeartbeats 8000000 in
theorem manifestsTold_walk (a : Option Addr) (len cap : Nat) (zs : List Int) (w : World) (h : IsRow .i64 w a len cap zs) :
    Calls Tryz.prog 5 #[.slice a len cap] w fun e w' => e = .returned (.bool true) ∧ Below w.heap.size w w' := by
  have hs0 := isStream_new (ts := 25) h
  clear h
  go_enter Tryz.func5, Tryz.ntmps5
  go_wp2_with fail
  refine (pick_any _ 0 (w.heap.size + 1) [0, 1, 7] 3 3 _ 3 (hs0.alloc _) (by omega) rfl (by omega) (by omega) (by have := heap_alloc_new (w.alloc (.cells #[.slice a len cap, .int .i64 0] 25)) (.cells (List.map (Value.int .i64) [0, 1, 7]).toArray 3); simpa using this) (by omega)).mono ?_
  rintro e w0 ⟨no0, hno, rfl, g0⟩
  have hno2 : 0 ≤ no0 ∧ no0 ≤ 7 := by simp at hno; omega
  have G0 := g0.of_alloc
  have z0 := G0.gb.size
  simp only [World.size_alloc] at z0
  clear hno g0 hs0
  go_wp2_with fail
  refine (manifest_any _ _ no0 _ G0.is (by omega) (by omega) (by omega)).mono ?_
  rintro e w1 ⟨v, n, no, hn5, hno0, hno1, rfl, hfi, g1⟩
  obtain ⟨fs, hfl, hok, hsh, hfa⟩ := filesAt_short2 hfi
  obtain ⟨A, c, rfl⟩ := hfa.form
  subst hfl
  have G1 := G0.trans g1 (Nat.le_refl _)
  have z1 := g1.gb.size
  have HOK := Lib.hid hok
  have hc15 : (allC fs).length ≤ 1000 := by have := allC_len hsh; omega
  have FA1 := Lib.hid hfa
  clear hfi hok hsh hfa G0 g1
  go_wp2_with fail
  refine (gsums_any _ _ _ G1.is (by omega)).mono ?_
  rintro e w2 ⟨u, hv, hl6, hsz, rfl, hown, g2⟩
  have G2 := G1.trans g2 (Nat.le_refl _)
  have FA2 := Lib.hid (FA1.out.grown g2.gb (by omega))
  have B2 : Below w.heap.size w w2 := below_gb ((Below.refl _ _).alloc (Nat.le_refl _) _) G2.gb (Nat.le_refl _)
  obtain ⟨B, m, d, rfl⟩ := own_form hown
  obtain rfl := own_len hown
  have O2 : Hid (w2.ownsRow 0 9 1 (.slice B hv.length d) hv.length (strC hv)) := ownsRow_base hown (Nat.zero_le _)
  have HSZ : Hid (∀ s ∈ hv, s.size ≤ 1000) := fun s hs => by have := hsz s hs; omega
  have HRS : Hid (∀ s ∈ riseS hv, s.size ≤ 1000) := fun s hs => HSZ.out s (rise_mem hs)
  have hrl : (riseS hv).length ≤ 1000 := by have := rise_len hv; omega
  clear G1 g2 G2 FA1 z1 z0 hown hsz
  go_wp2_with fail
  have b3 := bfirst w2 (.cells #[.int .i64 no, .slice A fs.length c] 28)
  have hX := heap_alloc_new w2 (.cells #[.int .i64 no, .slice A fs.length c] 28)
  obtain ⟨w3, hw3⟩ : ∃ w3, w3 = w2.alloc (.cells #[.int .i64 no, .slice A fs.length c] 28) := ⟨_, rfl⟩
  rw [← hw3] at b3 hX ⊢
  have B3 := bon B2 b3
  have FA3 := Lib.hid ((FA2.out.below b3).mono (Nat.zero_le _))
  have O3 := Lib.hid (ownsRow_below O2.out b3)
  have X3 := Lib.hid hX
  clear hw3 b3 hX B2 FA2 O2
  refine (manifestFault_any no A _ c fs _ FA3.out HOK.out (by omega)).mono ?_
  rintro e w4 ⟨rfl, b4⟩
  have B4 := bon B3 b4
  have FA4 := Lib.hid (FA3.out.below b4)
  have O4 := Lib.hid (ownsRow_below O3.out b4)
  have X4 := Lib.hid ((b4.block _ (block_lt X3.out)).trans X3.out)
  have xx4 := (stream_cells X4.out).1
  have xy4 := (stream_cells X4.out).2.1
  have xl4 := block_lt X4.out
  clear b4 B3 FA3 O3 X3 
  go_wp2_with fail
  refine (checkManifest_any no A _ c fs _ FA4.out HOK.out (by omega)).mono ?_
  rintro e w5 ⟨rfl, b5⟩
  have B5 := bon B4 b5
  have FA5 := Lib.hid (FA4.out.below b5)
  have O5 := Lib.hid (ownsRow_below O4.out b5)
  have X5 := Lib.hid ((b5.block _ (block_lt X4.out)).trans X4.out)
  have xx5 := (stream_cells X5.out).1
  have xy5 := (stream_cells X5.out).2.1
  have xl5 := block_lt X5.out
  clear b5 B4 FA4 O4 X4 xx4 xy4 xl4
  go_wp2_with fail
  refine (bytes_all no A _ c fs _ FA5.out HOK.out (by omega) hc15).mono ?_
  rintro e w6 ⟨rfl, b6⟩
  have B6 := bon B5 b6
  have FA6 := Lib.hid (FA5.out.below b6)
  have O6 := Lib.hid (ownsRow_below O5.out b6)
  have X6 := Lib.hid ((b6.block _ (block_lt X5.out)).trans X5.out)
  have xx6 := (stream_cells X6.out).1
  have xy6 := (stream_cells X6.out).2.1
  have xl6 := block_lt X6.out
  clear b6 B5 FA5 O5 X5 xx5 xy5 xl5
  have HA0 := Lib.hid (fun h : manF no fs = 0 => show byA no fs = sumC (allC fs) ∧ byB no fs = sumC (newTo [] (allC fs)) from ⟨by rw [byA, if_pos h], by rw [byB, if_pos h]⟩)
  have HA1 := Lib.hid (fun h : ¬ manF no fs = 0 => show byA no fs = 0 ∧ byB no fs = 0 from ⟨by rw [byA, if_neg h], by rw [byB, if_neg h]⟩)
  go_upto_if 38 with fail
  go_cut [10, 11] (fun s10 s11 wx => s10 = .int .i64 (byA no fs) ∧ s11 = .int .i64 (byB no fs) ∧ Below w6.heap.size w6 wx)
  case first =>
    by_cases hm : manF no fs = 0
    · have hm1 : (manF no fs == 0) = true := beq_iff_eq.2 hm
      have HA2 := Lib.hid (HA0.out hm)
      clear hm
      go_wp2_with fail
      refine (bytesOf_any no A _ c fs _ FA6.out HOK.out (by omega) hc15).mono ?_
      rintro e w7 ⟨rfl, b7⟩
      go_wp2_with fail
      go_meet
      exact ⟨by rw [HA2.out.1], by rw [HA2.out.2], b7⟩
    · have hm1 : (manF no fs == 0) = false := beq_eq_false_iff_ne.2 hm
      have HA2 := Lib.hid (HA1.out hm)
      clear hm
      go_wp2_with fail
      go_meet
      exact ⟨by rw [HA2.out.1], by rw [HA2.out.2], Below.refl _ _⟩
  case rest =>
    obtain ⟨rfl, rfl, b7⟩ := hcut
    obtain ⟨w7, rfl⟩ : ∃ w7 : World, w7 = wc := ⟨_, rfl⟩
    clear HA0 HA1
    have B7 := bon B6 b7
    have FA7 := Lib.hid (FA6.out.below b7)
    have O7 := Lib.hid (ownsRow_below O6.out b7)
    have X7 := Lib.hid ((b7.block _ (block_lt X6.out)).trans X6.out)
    have xx7 := (stream_cells X7.out).1
    have xy7 := (stream_cells X7.out).2.1
    have xl7 := block_lt X7.out
    clear b7 B6 FA6 O6 X6 xx6 xy6 xl6
    generalize byA no fs = ba at *
    generalize byB no fs = bb at *
    have HOR := Lib.hid (orF_mh no fs hv)
    by_cases hm : mhF no fs hv = 0
    · have HM := Lib.hid hm
      clear hm
      go_wp2_with fail
      refine (missing_any no A B _ c d fs hv _ FA7.out HOK.out (by omega) (Lst.of_own O7.out) (by omega) HSZ.out HM.out).mono ?_
      rintro e w8 ⟨v8, rfl, own8, b8⟩
      obtain ⟨A8, m8, c8, rfl⟩ := own_form own8
      obtain rfl := own_len own8
      have L8 := Lib.hid (Lst.of_own own8)
      have hml : (newTo hv (allC fs)).length ≤ 1000 := by have := newTo_len hv (allC fs); omega
      clear own8
      have B8 := bon B7 b8
      have FA8 := Lib.hid (FA7.out.below b8)
      have O8 := Lib.hid (ownsRow_below O7.out b8)
      have X8 := Lib.hid ((b8.block _ (block_lt X7.out)).trans X7.out)
      have xx8 := (stream_cells X8.out).1
      have xy8 := (stream_cells X8.out).2.1
      have xl8 := block_lt X8.out
      clear b8 B7 FA7 O7 X7 xx7 xy7 xl7
      go_wp2_with fail
      refine (spare_any no A B _ c d fs hv _ FA8.out HOK.out (by omega) O8.out (by omega) HSZ.out HRS.out hrl HM.out).mono ?_
      rintro e w9 ⟨v9, rfl, l9, b9⟩
      obtain ⟨A9, c9, rfl⟩ := str_form l9 rfl
      have S9 := Lib.hid l9
      have L9 := Lib.hid (L8.out.below b9)
      have hsl : (spareS fs hv).length ≤ 1000 := Nat.le_trans (List.length_filter_le _ _) hrl
      clear l9 L8
      have B9 := bon B8 b9
      have FA9 := Lib.hid (FA8.out.below b9)
      have O9 := Lib.hid (ownsRow_below O8.out b9)
      have X9 := Lib.hid ((b9.block _ (block_lt X8.out)).trans X8.out)
      have xx9 := (stream_cells X9.out).1
      have xy9 := (stream_cells X9.out).2.1
      have xl9 := block_lt X9.out
      clear b9 B8 FA8 O8 X8 xx8 xy8 xl8
      go_wp2_with fail
      refine (haveFaultR_any B _ d hv _ (Lst.of_own O9.out) (by omega) HSZ.out).mono ?_
      rintro e w10 ⟨rfl, b10⟩
      have S10 := Lib.hid (S9.out.below b10)
      have L10 := Lib.hid (L9.out.below b10)
      clear S9 L9
      have B10 := bon B9 b10
      have FA10 := Lib.hid (FA9.out.below b10)
      have O10 := Lib.hid (ownsRow_below O9.out b10)
      have X10 := Lib.hid ((b10.block _ (block_lt X9.out)).trans X9.out)
      have xx10 := (stream_cells X10.out).1
      have xy10 := (stream_cells X10.out).2.1
      have xl10 := block_lt X10.out
      clear b10 B9 FA9 O9 X9 xx9 xy9 xl9
      go_wp2_with fail
      refine (or_any w10.heap.size 2 2 [manF no fs, haveF hv] 31 _ rfl (by omega) (heap_alloc_new _ _)).mono ?_
      rintro e w11 ⟨rfl, rfl⟩
      rw [HOR.out, HM.out]
      obtain ⟨w11, hw11⟩ : ∃ w11, w11 = w10.alloc (.cells (List.map (Value.int .i64) [manF no fs, haveF hv]).toArray 31) := ⟨_, rfl⟩
      have b11 : Below w10.heap.size w10 w11 := by rw [hw11]; exact bfirst _ _
      rw [← hw11]
      have S11 := Lib.hid (S10.out.below b11)
      have L11 := Lib.hid (L10.out.below b11)
      clear hw11 S10 L10
      have B11 := bon B10 b11
      have FA11 := Lib.hid (FA10.out.below b11)
      have O11 := Lib.hid (ownsRow_below O10.out b11)
      have X11 := Lib.hid ((b11.block _ (block_lt X10.out)).trans X10.out)
      have xx11 := (stream_cells X11.out).1
      have xy11 := (stream_cells X11.out).2.1
      have xl11 := block_lt X11.out
      clear b11 B10 FA10 O10 X10 xx10 xy10 xl10
      go_wp2_with fail
      refine (missingOf_any no A B _ c d fs hv _ FA11.out HOK.out (by omega) (Lst.of_own O11.out) (by omega) hc15).mono ?_
      rintro e w12 ⟨v12, rfl, l12, b12⟩
      rw [← newTo_filter] at l12
      obtain ⟨A12, c12, rfl⟩ := ch_form l12 rfl
      have M12 := Lib.hid l12
      have S12 := Lib.hid (S11.out.below b12)
      have L12 := Lib.hid (L11.out.below b12)
      clear l12 S11 L11
      have B12 := bon B11 b12
      have FA12 := Lib.hid (FA11.out.below b12)
      have O12 := Lib.hid (ownsRow_below O11.out b12)
      have X12 := Lib.hid ((b12.block _ (block_lt X11.out)).trans X11.out)
      have xx12 := (stream_cells X12.out).1
      have xy12 := (stream_cells X12.out).2.1
      have xl12 := block_lt X12.out
      clear b12 B11 FA11 O11 X11 xx11 xy11 xl11
      go_wp2_with fail
      refine (equalChunk_same A8 A12 c8 c12 _ _ (newTo hv (allC fs)) _ (by omega) L12.out M12.out).mono ?_
      rintro e w13 ⟨rfl, q, hw13⟩
      have b13 : Below w12.heap.size w12 w13 := by rw [hw13]; exact below_drewN (Below.refl _ _) q
      have S13 := Lib.hid (S12.out.below b13)
      clear hw13 S12 L12 M12
      have B13 := bon B12 b13
      have FA13 := Lib.hid (FA12.out.below b13)
      have O13 := Lib.hid (ownsRow_below O12.out b13)
      have X13 := Lib.hid ((b13.block _ (block_lt X12.out)).trans X12.out)
      have xx13 := (stream_cells X13.out).1
      have xy13 := (stream_cells X13.out).2.1
      have xl13 := block_lt X13.out
      clear b13 B12 FA12 O12 X12 xx12 xy12 xl12
      go_wp2_with fail
      refine (spareSums_any no A B _ c d fs hv _ FA13.out HOK.out (by omega) hc15 O13.out (by omega) hrl).mono ?_
      rintro e w14 ⟨v14, rfl, l14, b14⟩
      obtain ⟨A14, c14, rfl⟩ := str_form l14 rfl
      have T14 := Lib.hid l14
      have S14 := Lib.hid (S13.out.below b14)
      clear l14 S13
      have B14 := bon B13 b14
      have FA14 := Lib.hid (FA13.out.below b14)
      have O14 := Lib.hid (ownsRow_below O13.out b14)
      have X14 := Lib.hid ((b14.block _ (block_lt X13.out)).trans X13.out)
      have xx14 := (stream_cells X14.out).1
      have xy14 := (stream_cells X14.out).2.1
      have xl14 := block_lt X14.out
      clear b14 B13 FA13 O13 X13 xx13 xy13 xl13
      go_wp2_with fail
      refine (equalStr_same A9 A14 c9 c14 _ _ (spareS fs hv) _ (by omega) S14.out T14.out).mono ?_
      rintro e w15 ⟨rfl, q2, hw15⟩
      have B15 : Below w.heap.size w w15 := by rw [hw15]; exact below_drewN B14 q2
      clear hw15
      go_wp2_with fail
      refine (synced_any _).mono ?_
      rintro e w16 ⟨rfl, b16⟩
      go_wp2_with fail
      go_ret
      exact ⟨rfl, bon B15 b16⟩
    · have hm1 : (mhF no fs hv != 0) = true := bne_iff_ne.2 hm
      have hm0 : (mhF no fs hv == 0) = false := beq_eq_false_iff_ne.2 hm
      clear hm
      go_wp2_with fail
      refine (missing_no no A B _ c d fs hv _ FA7.out HOK.out (by omega) (Lst.of_own O7.out) (by omega) HSZ.out hm1).mono ?_
      rintro e w8 ⟨rfl, b8⟩
      have B8 := bon B7 b8
      have FA8 := Lib.hid (FA7.out.below b8)
      have O8 := Lib.hid (ownsRow_below O7.out b8)
      have X8 := Lib.hid ((b8.block _ (block_lt X7.out)).trans X7.out)
      have xx8 := (stream_cells X8.out).1
      have xy8 := (stream_cells X8.out).2.1
      have xl8 := block_lt X8.out
      clear b8 B7 FA7 O7 X7 xx7 xy7 xl7
      go_wp2_with fail
      refine (spare_no no A B _ c d fs hv _ FA8.out HOK.out (by omega) (Lst.of_own O8.out) (by omega) HSZ.out hm1).mono ?_
      rintro e w9 ⟨rfl, b9⟩
      have B9 := bon B8 b9
      have FA9 := Lib.hid (FA8.out.below b9)
      have O9 := Lib.hid (ownsRow_below O8.out b9)
      have X9 := Lib.hid ((b9.block _ (block_lt X8.out)).trans X8.out)
      have xx9 := (stream_cells X9.out).1
      have xy9 := (stream_cells X9.out).2.1
      have xl9 := block_lt X9.out
      clear b9 B8 FA8 O8 X8 xx8 xy8 xl8
      go_wp2_with fail
      refine (haveFaultR_any B _ d hv _ (Lst.of_own O9.out) (by omega) HSZ.out).mono ?_
      rintro e w10 ⟨rfl, b10⟩
      have B10 := bon B9 b10
      have FA10 := Lib.hid (FA9.out.below b10)
      have O10 := Lib.hid (ownsRow_below O9.out b10)
      have X10 := Lib.hid ((b10.block _ (block_lt X9.out)).trans X9.out)
      have xx10 := (stream_cells X10.out).1
      have xy10 := (stream_cells X10.out).2.1
      have xl10 := block_lt X10.out
      clear b10 B9 FA9 O9 X9 xx9 xy9 xl9
      go_wp2_with fail
      refine (or_any w10.heap.size 2 2 [manF no fs, haveF hv] 31 _ rfl (by omega) (heap_alloc_new _ _)).mono ?_
      rintro e w11 ⟨rfl, rfl⟩
      rw [HOR.out]
      go_wp2_with fail
      refine (synced_any _).mono ?_
      rintro e w12 ⟨rfl, b12⟩
      go_wp2_with fail
      go_ret
      exact ⟨rfl, bon (bbox B10 _) b12⟩
end Go.Proofs.YtegalkmfoffpfaaGreatDoor
