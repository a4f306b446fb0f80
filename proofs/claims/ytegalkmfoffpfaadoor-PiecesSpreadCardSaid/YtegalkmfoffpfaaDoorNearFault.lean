/- slices.Index and slices.Contains at pairs; NearFault. -/
import Derived.Test.YtegalkmfoffpfaaDoorNearOf
import Derived.Test.YtegalkmfoffpfaaDoorFuncsL
import Derived.Test.YtegalkmfoffpfaaDoorQuietBel
namespace Go.Proofs.YtegalkmfoffpfaaDoor
open Go.RowKit
attribute [local go_sem ↓] Go.wp_at_zero Go.wp_at_succ
def paE (x y : PairD) : Bool := x.1.toList == y.1.toList && x.2.toList == y.2.toList
set_option maxRecDepth 100000 in
set_option maxHeartbeats 1000000 in
theorem indexPair_any (A : Option Addr) (lo c : Nat) (ts : List PairD) (x : PairD) (w : World) (hA : Lst w lo 2 (.slice A ts.length c) (ts.flatMap paC)) (hn : ts.length ≤ 1000000000) :
    Calls Tryd.prog 72 #[.slice A ts.length c, .agg #[.string x.1, .string x.2]] w fun e w' => e = .returned (.int .i64 (idxL (paE x) ts)) ∧ Below w.heap.size w w' := by
  obtain ⟨x0, x1⟩ := x
  have HA := Lib.hid hA
  clear hA
  go_enter Tryd.func72, Tryd.ntmps72
  go_wp2_with fail
  have b0 := bfirst w (.cells #[.string x0, .string x1] 89)
  have HX := Lib.hid (heap_alloc_new w (.cells #[.string x0, .string x1] 89))
  obtain ⟨w0, hw0⟩ : ∃ w0, w0 = w.alloc (.cells #[.string x0, .string x1] 89) := ⟨_, rfl⟩
  rw [← hw0] at b0 HX ⊢
  clear hw0
  obtain ⟨pb, hpb⟩ : ∃ pb, pb = w.heap.size := ⟨_, rfl⟩
  rw [← hpb] at HX ⊢
  clear hpb
  go_loopg [8, 5] ts.length (fun g i _ wr => IdxLRel (paE (x0, x1)) ts w0 g i wr)
  case atStart => exact ⟨0, by omega, rfl, by simp, Below.refl _ _⟩
  case round =>
    obtain ⟨k, hk, rfl, hno, hb⟩ := hrel
    have hbw := bon b0 hb
    by_cases hg : gk = 0
    · obtain rfl : k = ts.length := by omega
      have HV := Lib.hid (idxL_miss (by rw [List.take_length] at hno; exact hno))
      clear hno hk hg
      go_wp2_with fail
      go_ret
      exact ⟨ret_int HV.out.symm, hbw⟩
    · have hlt : k < ts.length := by omega
      obtain ⟨b, o, rfl, hbl, c0, c1⟩ := (HA.out.below hbw).pair hlt rfl
      have hM := (hb.block pb (block_lt HX.out)).trans HX.out
      have d0 := (pe_cells hM).1
      have d1 := (pe_cells hM).2
      have HV := Lib.hid (fun h : paE (x0, x1) ts[k] = true => idxL_hit hlt h hno)
      have HW := Lib.hid (fun h : paE (x0, x1) ts[k] = false => idxL_more hlt h hno)
      have HK := Lib.hid hk
      have hgk : gk ≠ 0 := hg
      have hltI : (k : Int) < (ts.length : Int) := by omega
      clear hk hno hg hM
      generalize ts[k] = y at *
      obtain ⟨y0, y1⟩ := y
      have HE : Hid (paE (x0, x1) (y0, y1) = (x0.toList == y0.toList && x1.toList == y1.toList)) := rfl
      simp only at c0 c1
      rcases Bool.eq_false_or_eq_true (x0.toList == y0.toList) with e0 | e0
      · rcases Bool.eq_false_or_eq_true (x1.toList == y1.toList) with e1 | e1
        · have HH := Lib.hid (HV.out (by rw [HE.out, e0, e1]; rfl))
          go_wp2_with fail
          go_quiet (fail)
          go_wp2_with fail
          go_ret
          exact ⟨ret_int HH.out.symm, below_drewN hbw _⟩
        · have HH := Lib.hid (HW.out (by rw [HE.out, e0, e1]; rfl))
          go_wp2_with fail
          go_quiet (fail)
          go_wp2_with fail
          go_roundg (gk - 1)
          case measure => omega
          case rel => exact ⟨k + 1, by have := HK.out; omega, by go_num, HH.out, below_drewN hb _⟩
      · have HH := Lib.hid (HW.out (by rw [HE.out, e0]; rfl))
        go_wp2_with fail
        go_quiet (fail)
        go_wp2_with fail
        go_roundg (gk - 1)
        case measure => omega
        case rel => exact ⟨k + 1, by have := HK.out; omega, by go_num, HH.out, below_drewN hb _⟩
set_option maxRecDepth 100000 in
set_option maxHeartbeats 1000000 in
theorem containsPair_any (A : Option Addr) (lo c : Nat) (ts : List PairD) (x : PairD) (w : World) (hA : Lst w lo 2 (.slice A ts.length c) (ts.flatMap paC)) (hn : ts.length ≤ 1000000000) :
    Calls Tryd.prog 46 #[.slice A ts.length c, .agg #[.string x.1, .string x.2]] w fun e w' => e = .returned (.bool (ts.any (paE x))) ∧ Below w.heap.size w w' := by
  have HI := Lib.hid (idxL_any (paE x) ts)
  have b0 := bfirst w (.cells #[.string x.1, .string x.2] 89)
  have HC := Lib.hid (indexPair_any A lo c ts x (w.alloc (.cells #[.string x.1, .string x.2] 89)) (hA.below b0) hn)
  clear hA
  go_enter Tryd.func46, Tryd.ntmps46
  go_wp2_with fail
  refine HC.out.mono ?_
  rintro e w1 ⟨rfl, hb1⟩
  go_wp2_with fail
  go_ret
  exact ⟨by rw [← HI.out]; rfl, bon b0 hb1⟩
theorem keyAt_same {x y : ByteArray} {ps : List PeerD} (h : keyAt x ps = keyAt y ps) (h0 : 0 ≤ keyAt x ps) : x.toList = y.toList := by
  have key : ∀ z : ByteArray, ∀ i : Nat, keyAt z ps = i → (pAt ps i).1.toList = z.toList := by
    intro z i hz
    unfold keyAt idxI at hz
    cases hf : (List.range ps.length).find? (isK z ps) with
    | none => rw [hf] at hz; have hz2 : (-1 : Int) = i := hz; omega
    | some j =>
      rw [hf] at hz
      have hz2 : ((j : Nat) : Int) = i := hz
      have hj : j = i := by omega
      subst hj
      have := List.find?_some hf
      simpa [isK] using this
  obtain ⟨i, hi⟩ := Int.eq_ofNat_of_zero_le h0
  rw [← key x i hi, key y i (by rw [← h]; exact hi)]
theorem keyAt_cong {x y : ByteArray} (ps : List PeerD) (h : x.toList = y.toList) : keyAt x ps = keyAt y ps := by
  have : isK x ps = isK y ps := by funext i; simp [isK, h]
  unfold keyAt; rw [this]
/-- Seen before, by their names. -/
def seenB (ne : List PairD) (k : Nat) (x y : ByteArray) : Bool := (x.toList == y.toList) || ((ne.take k).any (paE (x, y)) || (ne.take k).any (paE (y, x)))
theorem seen_near (ps : List PeerD) (ne : List PairD) (k : Nat) (x y : ByteArray) (hx : 0 ≤ keyAt x ps) (hy : 0 ≤ keyAt y ps) :
    (decide (keyAt x ps = keyAt y ps) || nearM ps ne k (keyAt x ps).toNat (keyAt y ps).toNat) = seenB ne k x y := by
  have e1 : decide (keyAt x ps = keyAt y ps) = (x.toList == y.toList) := by
    rw [Bool.eq_iff_iff]; simp
    exact ⟨fun h => keyAt_same h hx, fun h => keyAt_cong ps h⟩
  have e2 : ∀ a b : ByteArray, 0 ≤ keyAt a ps → 0 ≤ keyAt b ps → ∀ p : PairD, (decide (keyAt p.1 ps = keyAt a ps) && decide (keyAt p.2 ps = keyAt b ps)) = paE (a, b) p := by
    intro a b ha hb p
    rw [Bool.eq_iff_iff]; simp [paE]
    exact ⟨fun h => ⟨(keyAt_same h.1 (by omega)).symm, (keyAt_same h.2 (by omega)).symm⟩, fun h => ⟨keyAt_cong ps h.1.symm, keyAt_cong ps h.2.symm⟩⟩
  unfold seenB
  rw [e1]
  congr 1
  unfold nearM
  have e3 : ∀ l : List PairD, l.any (fun p => linkB ps p ((keyAt x ps).toNat : Nat) ((keyAt y ps).toNat : Nat)) = (l.any (paE (x, y)) || l.any (paE (y, x))) := by
    intro l
    induction l with
    | nil => rfl
    | cons p r ih =>
      rw [List.any_cons, List.any_cons, List.any_cons, ih]
      have : linkB ps p ((keyAt x ps).toNat : Nat) ((keyAt y ps).toNat : Nat) = (paE (x, y) p || paE (y, x) p) := by
        unfold linkB
        rw [show (((keyAt x ps).toNat : Nat) : Int) = keyAt x ps by omega, show (((keyAt y ps).toNat : Nat) : Int) = keyAt y ps by omega, e2 x y hx hy p]
        rw [show (decide (keyAt p.1 ps = keyAt y ps) && decide (keyAt p.2 ps = keyAt x ps)) = paE (y, x) p from e2 y x hy hx p]
      rw [this]
      cases paE (x, y) p <;> cases paE (y, x) p <;> simp
  exact e3 _
theorem Lst.take2 {w : World} {lo n c i : Nat} {A : Option Addr} {ne : List PairD} (h : Lst w lo 2 (.slice A n c) (ne.flatMap paC)) (hi : i ≤ ne.length) (hn : n = ne.length) : Lst w lo 2 (.slice A (ne.take i).length c) ((ne.take i).flatMap paC) := by
  obtain ⟨A', n', c', hv, h1, h2, h3, h4⟩ := h
  simp only [Value.slice.injEq] at hv
  obtain ⟨rfl, rfl, rfl⟩ := hv
  have hl : (ne.take i).length = i := by rw [List.length_take]; omega
  refine ⟨A, (ne.take i).length, c, rfl, by omega, h2, flatK_len (enc := paC) (k := 2) (fun _ => rfl) _, fun h0 => ?_⟩
  obtain ⟨g, o, e, hg, hlt, hc⟩ := h4 (by omega)
  refine ⟨g, o, e, hg, hlt, fun j u hu => hc j u ?_⟩
  have hpre : ne.flatMap paC = (ne.take i).flatMap paC ++ (ne.drop i).flatMap paC := by rw [← List.flatMap_append, List.take_append_drop]
  rw [hpre, List.getElem?_append_left (by rcases Nat.lt_or_ge j ((ne.take i).flatMap paC).length with h | h; exact h; rw [List.getElem?_eq_none h] at hu; cases hu)]
  exact hu
def NfRel (ps : List PeerD) (ne : List PairD) (w : World) (g : Nat) (i : Value) (wr : World) : Prop :=
  ∃ k : Nat, k + g = ne.length ∧ i = .int .i64 k ∧ firstTo (neF ps ne) k = 0 ∧ Below w.heap.size w wr
set_option maxRecDepth 100000 in
set_option maxHeartbeats 4000000 in
theorem nearFault_any (A B : Option Addr) (lo c d : Nat) (ps : List PeerD) (ne : List PairD) (w : World) (hf : PeersAt w lo (.slice A ps.length c) ps) (hn : ps.length ≤ 50)
    (hN : Lst w lo 2 (.slice B ne.length d) (ne.flatMap paC)) (hnn : ne.length ≤ 1000) :
    Calls Tryd.prog 24 #[.slice A ps.length c, .slice B ne.length d] w fun e w' => e = .returned (.int .i64 (nearF ps ne)) ∧ Below w.heap.size w w' := by
  have HF := Lib.hid hf
  have HN := Lib.hid hN
  obtain ⟨v, hv⟩ : ∃ v, v = nearF ps ne := ⟨_, rfl⟩
  rw [← hv]
  have HV := Lib.hid (show v = firstTo (neF ps ne) ne.length by rw [hv, nearF, if_neg (by omega)])
  clear hf hN hv
  go_enter Tryd.func24, Tryd.ntmps24
  go_wp2_with fail
  go_loopg [13, 5, 6, 7] ne.length (fun g i _ _ _ wr => NfRel ps ne w g i wr)
  case atStart => exact ⟨0, by omega, rfl, rfl, Below.refl _ _⟩
  case round =>
    obtain ⟨k, hk, rfl, hz0, hb⟩ := hrel
    by_cases hg : gk = 0
    · obtain rfl : k = ne.length := by omega
      have HX := Lib.hid (HV.out.trans hz0)
      clear hk hz0 hg
      go_wp2_with fail
      go_ret
      exact ⟨ret_int HX.out.symm, hb⟩
    · have hlt : k < ne.length := by omega
      obtain ⟨g, o, rfl, hgl, c0, c1⟩ := (HN.out.below hb).pair hlt rfl
      have HA := Lib.hid (nrAt_eq ne hlt)
      have HK := Lib.hid hk
      have HZ := Lib.hid hz0
      have hgk : gk ≠ 0 := hg
      have HBD := Lib.hid (show ∀ z : Int, z ≠ 0 → neF ps ne k = z → v = z from fun z h1 h2 => by rw [HV.out, firstTo_at hlt hz0 (by rw [h2]; exact h1), h2])
      clear hk hz0 hg
      generalize ne[k] = x at *
      obtain ⟨na, nb⟩ := x
      have HFI := Lib.hid (show neF ps ne k = if decide (keyAt na ps < 0) || decide (keyAt nb ps < 0) then 8 else if decide (keyAt na ps = keyAt nb ps) || nearM ps ne k (keyAt na ps).toNat (keyAt nb ps).toNat then 6 else 0 by rw [neF, HA.out])
      clear HA
      simp only at c0 c1
      go_wp2_with fail
      have hb0 := bbox hb (.cells #[.string na, .string nb] 89)
      have HX := Lib.hid (heap_alloc_new wr (.cells #[.string na, .string nb] 89))
      generalize wr.alloc (.cells #[.string na, .string nb] 89) = w2 at *
      refine (peerAtOf_any _ _ c ps na _ (HF.out.below hb0) (by omega)).mono ?_
      rintro e w3 ⟨rfl, b3⟩
      have HM3 := Lib.hid ((b3.block wr.heap.size (block_lt HX.out)).trans HX.out)
      have d0 := (pe_cells HM3.out).1
      have d1 := (pe_cells HM3.out).2
      have l3 := block_lt HM3.out
      have hb3 := bon hb0 b3
      clear hb0 HX b3 hgl c0 c1 hb
      generalize wr.heap.size = pb at *
      clear w2
      rcases Int.lt_or_le (keyAt na ps) 0 with h1 | h1
      · have H8 := Lib.hid (HBD.out 8 (by decide) (by rw [HFI.out, if_pos (by simp; omega)]))
        have h1' : decide (keyAt na ps < 0) = true := decide_eq_true h1
        clear HFI h1
        go_wp2_with fail
        go_ret
        exact ⟨ret_int H8.out.symm, hb3⟩
      · have h1' : decide (keyAt na ps < 0) = false := decide_eq_false (by omega)
        have H1 := Lib.hid h1
        clear h1
        go_wp2_with fail
        refine (peerAtOf_any _ _ c ps nb _ (HF.out.below hb3) (by omega)).mono ?_
        rintro e w4 ⟨rfl, b4⟩
        have HM4 := Lib.hid ((b4.block pb (block_lt HM3.out)).trans HM3.out)
        have e0 := (pe_cells HM4.out).1
        have e1 := (pe_cells HM4.out).2
        have l4 := block_lt HM4.out
        have hb4 := bon hb3 b4
        clear hb3 b4 d0 d1 l3 HM3
        rcases Int.lt_or_le (keyAt nb ps) 0 with h2 | h2
        · have H8 := Lib.hid (HBD.out 8 (by decide) (by rw [HFI.out, if_pos (by simp; omega)]))
          have h2' : decide (keyAt nb ps < 0) = true := decide_eq_true h2
          clear HFI h2
          go_wp2_with fail
          go_ret
          exact ⟨ret_int H8.out.symm, hb4⟩
        · have h2' : decide (keyAt nb ps < 0) = false := decide_eq_false (by omega)
          have HFS := Lib.hid (show neF ps ne k = if seenB ne k na nb then 6 else 0 by rw [HFI.out, if_neg (by rw [h1', h2']; decide), seen_near ps ne k na nb H1.out h2])
          clear HFI h2
          have HT := Lib.hid (fun (W : World) (hw : Below w.heap.size w W) => (HN.out.below hw).take2 (i := k) (by omega) rfl)
          have HLK := Lib.hid (show (ne.take k).length = k by rw [List.length_take]; omega)
          have hkI : (k : Int) ≤ (ne.length : Int) := by omega
          have hdI : (k : Int) ≤ (d : Int) := by
            obtain ⟨_, _, _, hvv, hle, _⟩ := HN.out
            simp only [Value.slice.injEq] at hvv
            omega
          have HCP := Lib.hid (show ∀ (W : World) (x : PairD), Below w.heap.size w W → Calls Tryd.prog 46 #[.slice (some ⟨g, o, none⟩) k d, .agg #[.string x.1, .string x.2]] W fun e w' => e = .returned (.bool ((ne.take k).any (paE x))) ∧ Below W.heap.size W w' from fun W x hw => by
            have := containsPair_any _ _ d (ne.take k) x W (HT.out W hw) (by rw [HLK.out]; omega)
            rw [HLK.out] at this
            exact this)
          have HSE : Hid (seenB ne k na nb = ((na.toList == nb.toList) || ((ne.take k).any (paE (na, nb)) || (ne.take k).any (paE (nb, na))))) := rfl
          go_upto_region 8 with fail
          go_wp2_with fail
          have hb5 := bbox hb4 (.cells #[.string nb, .string na] 89)
          have HM5 := Lib.hid ((Below.heap_alloc w4 (.cells #[.string nb, .string na] 89) pb l4).trans HM4.out)
          have HY5 := Lib.hid (heap_alloc_new w4 (.cells #[.string nb, .string na] 89))
          generalize w4.alloc (.cells #[.string nb, .string na] 89) = w5 at *
          generalize w4.heap.size = qb at *
          have f0 := (pe_cells HM5.out).1
          have f1 := (pe_cells HM5.out).2
          have f2 := (pe_cells HY5.out).1
          have f3 := (pe_cells HY5.out).2
          clear e0 e1 l4 hb4 HM4
          clear w4
          go_upto_region 9 with fail
          go_cut [53] (fun s wx => s = .bool (seenB ne k na nb) ∧ Below w.heap.size w wx)
          case first =>
            rcases Bool.eq_false_or_eq_true (na.toList == nb.toList) with q0 | q0
            · have HS := Lib.hid (show seenB ne k na nb = true by rw [HSE.out, q0]; rfl)
              go_quiet (fail)
              go_wp2_with fail
              go_meet
              exact ⟨by rw [HS.out], below_drewN hb5 _⟩
            · have C1 := fun (p : Bel w5) => HCP.out p.W (na, nb) (bon hb5 p.h)
              have C2 := fun (p : Bel w5) => HCP.out p.W (nb, na) (bon hb5 p.h)
              have k0 := fun (p : Bel w5) => bel_cell f0 p
              have k1 := fun (p : Bel w5) => bel_cell f1 p
              have k2 := fun (p : Bel w5) => bel_cell f2 p
              have k3 := fun (p : Bel w5) => bel_cell f3 p
              rcases Bool.eq_false_or_eq_true ((ne.take k).any (paE (na, nb))) with q1 | q1
              · have HS := Lib.hid (show seenB ne k na nb = true by rw [HSE.out, q0, q1]; rfl)
                rw [q1] at C1
                clear q1 HSE
                refine wp_region_quiet_bel (by kernel_rfl) (by kernel_rfl) ?_
                repeat (quiet_step (((go_at_call 46; exact Calls.bel_of (C1 _)))))
                refine wpQuiet_nil ?_
                intro _ hw'
                obtain ⟨⟨w6, h6⟩, hw''⟩ := hw'
                subst hw''
                go_wp2_with fail
                go_meet
                exact ⟨by rw [HS.out], bon hb5 h6⟩
              · have HS := Lib.hid (show seenB ne k na nb = (ne.take k).any (paE (nb, na)) by rw [HSE.out, q0, q1]; rfl)
                rw [q1] at C1
                clear q1 HSE
                refine wp_region_quiet_bel (by kernel_rfl) (by kernel_rfl) ?_
                repeat (quiet_step ((first | ((go_at_call 46; exact Calls.bel_of (C1 _))) | ((go_at_call 46; exact Calls.bel_of (C2 _))))))
                refine wpQuiet_nil ?_
                intro _ hw'
                obtain ⟨⟨w6, h6⟩, hw''⟩ := hw'
                subst hw''
                go_wp2_with fail
                go_meet
                exact ⟨by rw [HS.out], bon hb5 h6⟩
          case rest =>
            obtain ⟨rfl, hb6⟩ := hcut
            rcases Bool.eq_false_or_eq_true (seenB ne k na nb) with hc | hc
            · have H6 := Lib.hid (HBD.out 6 (by decide) (by rw [HFS.out, hc]; rfl))
              rw [hc]
              clear hc HFS
              go_wp2_with fail
              go_ret
              exact ⟨ret_int H6.out.symm, hb6⟩
            · have H0 := Lib.hid (firstTo_succ HZ.out (by rw [HFS.out, hc]; rfl))
              rw [hc]
              clear hc HFS
              go_wp2_with fail
              go_roundg (gk - 1)
              case measure => omega
              case rel => exact ⟨k + 1, by have := HK.out; omega, by go_num, H0.out, hb6⟩
end Go.Proofs.YtegalkmfoffpfaaDoor
