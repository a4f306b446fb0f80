/- Peers: what CheckPeers and PeersFault answer. -/
import Derived.Test.YtegalkmfoffpfaaDoorPFirst
import Derived.Test.YtegalkmfoffpfaaDoorSmall
import Derived.Test.YtegalkmfoffpfaaDoorSortMem
namespace Go.Proofs.YtegalkmfoffpfaaDoor
open Go.RowKit
abbrev PeerD := ByteArray × List Int
def peC (p : ByteArray × Value) : List Value := [.string p.1, p.2]
def inC (zs : List Int) : List Value := zs.map (Value.int .i64)
/-- The slice v holds the peers ps. -/
def PeersAt (w : World) (lo : Nat) (v : Value) (ps : List PeerD) : Prop :=
  ∃ qs : List (ByteArray × Value), Lst w lo 2 v (qs.flatMap peC) ∧ qs.length = ps.length ∧ ∀ i (h : i < ps.length), ∃ u, qs[i]? = some (ps[i].1, u) ∧ Lst w lo 1 u (inC ps[i].2)
theorem PeersAt.keep {w w' : World} {lo : Nat} {v : Value} {ps : List PeerD} (h : PeersAt w lo v ps) (hs : w.heap.size ≤ w'.heap.size)
    (hk : ∀ k, lo ≤ k → k < w.heap.size → w'.heap[k]? = w.heap[k]?) : PeersAt w' lo v ps :=
  let ⟨qs, h1, h2, h3⟩ := h; ⟨qs, h1.keep hs hk, h2, fun i hi => let ⟨u, a, b⟩ := h3 i hi; ⟨u, a, b.keep hs hk⟩⟩
theorem PeersAt.below {w w' : World} {lo : Nat} {v : Value} {ps : List PeerD} (h : PeersAt w lo v ps) (hb : Below w.heap.size w w') : PeersAt w' lo v ps :=
  h.keep hb.size fun k _ hk => hb.block k hk
theorem PeersAt.grown {w w' : World} {lo b : Nat} {v : Value} {ps : List PeerD} (h : PeersAt w lo v ps) (hg : w.grownBy w' (some b)) (hb : b < lo) : PeersAt w' lo v ps :=
  h.keep hg.size fun k hk hlt => hg.block k hlt (fun e => by injection e with e; omega)
theorem PeersAt.mono {w : World} {lo lo' : Nat} {v : Value} {ps : List PeerD} (h : PeersAt w lo v ps) (hl : lo' ≤ lo) : PeersAt w lo' v ps :=
  let ⟨qs, h1, h2, h3⟩ := h; ⟨qs, h1.mono hl, h2, fun i hi => let ⟨u, a, b⟩ := h3 i hi; ⟨u, a, b.mono hl⟩⟩
theorem PeersAt.form {w : World} {lo : Nat} {v : Value} {ps : List PeerD} (h : PeersAt w lo v ps) : ∃ A c, v = .slice A ps.length c := by
  obtain ⟨qs, h1, h2, _⟩ := h
  obtain ⟨A, n, c, rfl, _, _, hx⟩ := h1.form
  have := flatK_len (enc := peC) (k := 2) (fun _ => rfl) qs
  exact ⟨A, c, by rw [show n = ps.length by omega]⟩
/-- What peer i's cells hold. -/
theorem PeersAt.at_ {w : World} {lo n c : Nat} {A : Option Addr} {ps : List PeerD} (h : PeersAt w lo (.slice A n c) ps) {i : Nat} (hi : i < ps.length) :
    ∃ g o B m d, A = some ⟨g, o, none⟩ ∧ g < w.heap.size ∧ w.cell? ⟨g, o + i * 2, none⟩ = some (.string ps[i].1) ∧ w.cell? ⟨g, o + i * 2 + 1, none⟩ = some (.slice B m d) ∧ m = ps[i].2.length ∧ Lst w lo 1 (.slice B m d) (inC ps[i].2) := by
  obtain ⟨A', c', e⟩ := h.form
  simp only [Value.slice.injEq] at e
  obtain ⟨rfl, rfl, rfl⟩ := e
  obtain ⟨qs, h1, h2, h3⟩ := h
  obtain ⟨u, hu, hl⟩ := h3 i hi
  obtain ⟨g, o, rfl, _, hg, hc⟩ := h1.open_ (by omega)
  have hip : i < qs.length := by omega
  have hpi : qs[i] = (ps[i].1, u) := by rw [List.getElem?_eq_getElem hip] at hu; simpa using hu
  have a0 := hc (i * 2 + 0) (.string ps[i].1) (by rw [flatK_at (k := 2) (fun _ => rfl) qs i 0 hip (by omega), hpi]; rfl)
  have a1 := hc (i * 2 + 1) u (by rw [flatK_at (k := 2) (fun _ => rfl) qs i 1 hip (by omega), hpi]; rfl)
  obtain ⟨B, m, d, rfl, _, _, hx⟩ := hl.form
  exact ⟨g, o, B, m, d, rfl, hg, by simpa using a0, by rw [Nat.add_assoc]; exact a1, by simp [inC] at hx; omega, hl⟩
theorem Lst.int {w : World} {lo n c : Nat} {A : Option Addr} {zs : List Int} (h : Lst w lo 1 (.slice A n c) (inC zs)) {j : Nat} (hj : j < zs.length) (hn : n = zs.length) :
    ∃ g o, A = some ⟨g, o, none⟩ ∧ g < w.heap.size ∧ w.cell? ⟨g, o + j, none⟩ = some (.int .i64 zs[j]) := by
  obtain ⟨g, o, rfl, _, hg, hc⟩ := h.open_ (by omega)
  exact ⟨g, o, rfl, hg, hc j _ (by simp [inC, List.getElem?_eq_getElem hj])⟩
def pAt (ps : List PeerD) (i : Nat) : PeerD := ps.getD i (.empty, [])
theorem pAt_eq (ps : List PeerD) {k : Nat} (h : k < ps.length) : pAt ps k = ps[k] := by simp [pAt, List.getD, List.getElem?_eq_getElem h]
def zAt (zs : List Int) (i : Nat) : Int := zs.getD i 0
theorem zAt_eq (zs : List Int) {k : Nat} (h : k < zs.length) : zAt zs k = zs[k] := by simp [zAt, List.getD, List.getElem?_eq_getElem h]
def hiF (m : Int) (zs : List Int) (k : Nat) : Int := if outsideB (zAt zs k) 0 (m - 1) then 1 else if decide (0 < k) && decide (zAt zs k ≤ zAt zs (k - 1)) then 7 else 0
def piF (m : Int) (ps : List PeerD) (i : Nat) : Int :=
  if keyB (pAt ps i).1 then (if decide (0 < i) && keyLe (pAt ps i).1 (pAt ps (i - 1)).1 then 7 else firstTo (hiF m (pAt ps i).2) (pAt ps i).2.length) else 5
def peersF (m : Int) (ps : List PeerD) : Int := if outsideB m 1 60 then 1 else if 50 < ps.length then 2 else firstTo (piF m ps) ps.length
def PeOk (ps : List PeerD) : Prop := ∀ p ∈ ps, p.1.size ≤ 1000000000000 ∧ p.2.length ≤ 1000 ∧ ∀ z ∈ p.2, -1000000000000000 ≤ z ∧ z ≤ 1000000000000000
def PiRel (m : Int) (ps : List PeerD) (w : World) (g : Nat) (i : Value) (wr : World) : Prop :=
  ∃ k : Nat, k + g = ps.length ∧ i = .int .i64 k ∧ firstTo (piF m ps) k = 0 ∧ Below w.heap.size w wr
def HiRel (m : Int) (zs : List Int) (w2 : World) (g : Nat) (i : Value) (wr : World) : Prop :=
  ∃ k : Nat, k + g = zs.length ∧ i = .int .i64 k ∧ firstTo (hiF m zs) k = 0 ∧ wr = w2
theorem pe_cells {w : World} {b : Nat} {u v : Value} {t : TypeId} (h : w.heap[b]? = some (.cells #[u, v] t (0, 0))) : w.cell? ⟨b, 0, none⟩ = some u ∧ w.cell? ⟨b, 1, none⟩ = some v := ⟨(stream_cells h).1, (stream_cells h).2.1⟩
theorem isKey_b (s : ByteArray) (hsz : s.size ≤ 1000000000000) (w : World) : Calls Tryd.prog 39 #[.string s] w fun e w' => e = .returned (.bool (keyB s)) ∧ Below w.heap.size w w' :=
  (isKey_any s hsz w).mono fun _ _ ⟨a, b⟩ => ⟨a, b ▸ Below.refl _ _⟩
set_option maxRecDepth 100000 in
set_option maxHeartbeats 4000000 in
theorem checkPeers_any (A : Option Addr) (lo c : Nat) (ps : List PeerD) (m : Int) (w : World) (hf : PeersAt w lo (.slice A ps.length c) ps) (hok : PeOk ps) (hn : ps.length ≤ 50) (_hm0 : -1000000 ≤ m) (_hm1 : m ≤ 1000000) :
    Calls Tryd.prog 21 #[.slice A ps.length c, .int .i64 m] w fun e w' => e = .returned (.int .i64 (peersF m ps)) ∧ Below w.heap.size w w' := by
  have HN := Lib.hid hf
  have HOK := Lib.hid hok
  obtain ⟨v, hv⟩ : ∃ v, v = peersF m ps := ⟨_, rfl⟩
  rw [← hv]
  have HV := Lib.hid hv
  clear hf hok hv
  go_enter Tryd.func21, Tryd.ntmps21
  go_wp2_with fail
  refine (outside_any m 1 60 _).mono ?_
  rintro e w' ⟨rfl, rfl⟩
  rcases Bool.eq_false_or_eq_true (outsideB m 1 60) with ho | ho
  · have H1 := Lib.hid (show v = 1 by rw [HV.out, peersF, ho]; rfl)
    rw [ho]
    clear ho HV
    go_wp2_with fail
    go_ret
    exact ⟨ret_int H1.out.symm, Below.refl _ _⟩
  · have HW := Lib.hid (show v = firstTo (piF m ps) ps.length by rw [HV.out, peersF, ho, if_neg (by decide), if_neg (by omega)])
    rw [ho]
    clear ho HV
    go_wp2_with fail
    go_loopg [16, 5, 6, 7, 8] ps.length (fun g i _ _ _ _ wr => PiRel m ps w g i wr)
    case atStart => exact ⟨0, by omega, rfl, rfl, Below.refl _ _⟩
    case round =>
      obtain ⟨k, hk, rfl, hz0, hb⟩ := hrel
      by_cases hg : gk = 0
      · obtain rfl : k = ps.length := by omega
        have HX := Lib.hid (HW.out.trans hz0)
        clear hk hz0 hg
        go_wp2_with fail
        go_ret
        exact ⟨ret_int HX.out.symm, hb⟩
      · have hlt : k < ps.length := by omega
        obtain ⟨g, o, B, mm, d, rfl, hgl, cK, cB, hmm, hL⟩ := (HN.out.below hb).at_ hlt
        have hox := HOK.out _ (List.getElem_mem hlt)
        have HA := Lib.hid (pAt_eq ps hlt)
        have HK := Lib.hid hk
        have HZ := Lib.hid hz0
        have hgk : gk ≠ 0 := hg
        clear hk hz0 hg
        generalize ps[k] = x at *
        obtain ⟨key, zs⟩ := x
        obtain ⟨hks, hzl, hzb⟩ : key.size ≤ 1000000000000 ∧ zs.length ≤ 1000 ∧ ∀ z ∈ zs, -1000000000000000 ≤ z ∧ z ≤ 1000000000000000 := hox
        have HZB := Lib.hid hzb
        obtain rfl : mm = zs.length := hmm
        have HFI := Lib.hid (show piF m ps k = if keyB key then (if decide (0 < k) && keyLe key (pAt ps (k - 1)).1 then 7 else firstTo (hiF m zs) zs.length) else 5 by rw [piF, HA.out])
        clear hzb
        go_wp2_with fail
        have hb0 := bbox hb (.cells #[.string key, .slice B zs.length d] 85)
        have HX := Lib.hid (heap_alloc_new wr (.cells #[.string key, .slice B zs.length d] 85))
        have HLL := Lib.hid (show Lst (wr.alloc (.cells #[.string key, .slice B zs.length d] 85)) lo 1 (.slice B zs.length d) (inC zs) from hL.below (bfirst _ _))
        generalize wr.alloc (.cells #[.string key, .slice B zs.length d] 85) = w0 at *
        refine (isKey_b key hks _).mono ?_
        rintro e w1 ⟨rfl, hb1⟩
        have hb2 := bon hb0 hb1
        have hM := (hb1.block wr.heap.size (block_lt HX.out)).trans HX.out
        have c0 := (pe_cells hM).1
        have c1 := (pe_cells hM).2
        have hl1 := block_lt hM
        have HL1 := Lib.hid (HLL.out.below hb1)
        have HPREV : Hid (∀ k', k = k' + 1 → w1.cell? ⟨g, o + k' * 2, none⟩ = some (.string (pAt ps k').1)) := fun k' e => by
          subst e
          obtain ⟨g2, o2, _, _, _, e2, _, h2, _⟩ := (HN.out.below hb2).at_ (i := k') (by omega)
          simp only [Option.some.injEq, Addr.mk.injEq] at e2
          obtain ⟨rfl, rfl, _⟩ := e2
          rw [pAt_eq ps (by omega : k' < ps.length)]
          exact h2
        clear hM HX hb1 hb0 cK cB hb HA HLL hL hgl
        generalize wr.heap.size = pb at *
        clear w0
        rcases Bool.eq_false_or_eq_true (keyB key) with hkb | hkb
        rotate_left
        · have H5 := Lib.hid (show v = 5 by rw [HW.out, firstTo_at hlt HZ.out (by rw [HFI.out, hkb, if_neg Bool.false_ne_true]; decide), HFI.out, hkb]; rfl)
          rw [hkb]
          clear hkb HFI
          go_wp2_with fail
          go_ret
          exact ⟨ret_int H5.out.symm, hb2⟩
        · rw [hkb, if_pos rfl] at HFI
          rw [hkb]
          clear hkb
          go_upto_region 10 with fail
          go_cut [37] (fun s wx => s = .bool (decide (0 < k) && keyLe key (pAt ps (k - 1)).1) ∧ ∃ q, wx = w1.drewN q)
          case first =>
            rcases k with _ | k'
            · have hd : decide ((0 : Int) < ((0 : Nat) : Int)) = false := by decide
              go_quiet (fail)
              go_wp2_with fail
              go_meet
              exact ⟨rfl, _, rfl⟩
            · have cP := HPREV.out k' rfl
              have hd : decide ((0 : Int) < ((k' + 1 : Nat) : Int)) = true := by simp
              go_quiet (fail)
              go_wp2_with fail
              go_meet
              exact ⟨by simp [keyLe], _, rfl⟩
          case rest =>
            obtain ⟨rfl, q, rfl⟩ := hcut
            have d1 : (w1.drewN q).cell? ⟨pb, 1, none⟩ = some (.slice B zs.length d) := c1
            have hb3 : Below w.heap.size w (w1.drewN q) := below_drewN hb2 q
            have hl2 : pb < (w1.drewN q).heap.size := hl1
            have HL2 : Hid (Lst (w1.drewN q) lo 1 (.slice B zs.length d) (inC zs)) := HL1.out
            clear HPREV c0 c1 hb2 hl1 HL1
            generalize w1.drewN q = w2 at *
            clear w1
            rcases Bool.eq_false_or_eq_true (decide (0 < k) && keyLe key (pAt ps (k - 1)).1) with hc | hc
            · have H7 := Lib.hid (show v = 7 by rw [HW.out, firstTo_at hlt HZ.out (by rw [HFI.out, hc, if_pos rfl]; decide), HFI.out, hc]; rfl)
              rw [hc]
              clear hc HFI
              go_wp2_with fail
              go_ret
              exact ⟨ret_int H7.out.symm, hb3⟩
            · rw [hc] at HFI ⊢
              clear hc
              have HFJ := Lib.hid (show piF m ps k = firstTo (hiF m zs) zs.length from HFI.out)
              clear HFI
              go_wp2_with fail
              obtain ⟨gq, rfl⟩ : ∃ gq, gq = gk := ⟨_, rfl⟩
              clear wr
              go_loopg [41, 7, 8] zs.length (fun g i _ _ wx => HiRel m zs w2 g i wx)
              case atStart => exact ⟨0, by omega, rfl, rfl, rfl⟩
              case round =>
                obtain ⟨j, hj, rfl, hz1, rfl⟩ := hrel
                by_cases hg1 : gk = 0
                · obtain rfl : j = zs.length := by omega
                  have H0 := Lib.hid (firstTo_succ HZ.out (by rw [HFJ.out]; exact hz1))
                  clear hz1 hj
                  go_wp2_with fail
                  go_roundg (gq - 1)
                  case measure => omega
                  case rel => exact ⟨k + 1, by have := HK.out; omega, by go_num, H0.out, hb3⟩
                · have hjl : j < zs.length := by omega
                  obtain ⟨g2, o2, rfl, hg2, e0⟩ := HL2.out.int hjl rfl
                  have hzz := HZB.out _ (List.getElem_mem hjl)
                  have HHI := Lib.hid (show hiF m zs j = if outsideB zs[j] 0 (m - 1) then 1 else if decide (0 < j) && decide (zs[j] ≤ zAt zs (j - 1)) then 7 else 0 by rw [hiF, zAt_eq zs hjl])
                  have HPZ : Hid (∀ j', j = j' + 1 → wr.cell? ⟨g2, o2 + j', none⟩ = some (.int .i64 (zAt zs j'))) := fun j' e => by
                    subst e
                    obtain ⟨g3, o3, e3, _, h3⟩ := HL2.out.int (j := j') (by omega) rfl
                    simp only [Option.some.injEq, Addr.mk.injEq] at e3
                    obtain ⟨rfl, rfl, _⟩ := e3
                    rw [zAt_eq zs (by omega : j' < zs.length)]
                    exact h3
                  have HJ := Lib.hid hj
                  have HZ1 := Lib.hid hz1
                  have hgk : gk ≠ 0 := hg1
                  clear hj hz1 hg1
                  generalize zs[j] = z at *
                  obtain ⟨za, zb⟩ := hzz
                  have HKY := Lib.hid (show ∀ x : Int, x ≠ 0 → hiF m zs j = x → v = x from fun x hx e => by rw [HW.out, firstTo_at hlt HZ.out (by rw [HFJ.out, firstTo_at hjl HZ1.out (by rw [e]; exact hx), e]; exact hx), HFJ.out, firstTo_at hjl HZ1.out (by rw [e]; exact hx), e])
                  go_wp2_with fail
                  refine (outside_any z 0 (m - 1) _).mono ?_
                  rintro e w' ⟨rfl, rfl⟩
                  rcases Bool.eq_false_or_eq_true (outsideB z 0 (m - 1)) with hq | hq
                  · have H1 := Lib.hid (HKY.out 1 (by decide) (by rw [HHI.out, hq]; rfl))
                    rw [hq]
                    clear hq HHI
                    go_wp2_with fail
                    go_ret
                    exact ⟨ret_int H1.out.symm, hb3⟩
                  · rw [hq] at HHI ⊢
                    clear hq
                    have HH2 := Lib.hid (show hiF m zs j = if decide (0 < j) && decide (z ≤ zAt zs (j - 1)) then 7 else 0 from HHI.out)
                    clear HHI
                    go_upto_region 17 with fail
                    go_cut [61] (fun s wx => s = .bool (decide (0 < j) && decide (z ≤ zAt zs (j - 1))) ∧ wr = wx)
                    case first =>
                      rcases j with _ | j'
                      · have hd : decide ((0 : Int) < ((0 : Nat) : Int)) = false := by decide
                        go_wp2_with fail
                        go_meet
                        exact ⟨rfl, rfl⟩
                      · have cP := HPZ.out j' rfl
                        have hd : decide ((0 : Int) < ((j' + 1 : Nat) : Int)) = true := by simp
                        go_wp2_with fail
                        go_meet
                        exact ⟨by simp, rfl⟩
                    case rest =>
                      obtain ⟨rfl, rfl⟩ := hcut
                      rcases Bool.eq_false_or_eq_true (decide (0 < j) && decide (z ≤ zAt zs (j - 1))) with hc | hc
                      · have H7 := Lib.hid (HKY.out 7 (by decide) (by rw [HH2.out, hc]; rfl))
                        rw [hc]
                        clear hc HH2
                        go_wp2_with fail
                        go_ret
                        exact ⟨ret_int H7.out.symm, hb3⟩
                      · have H0 := Lib.hid (firstTo_succ HZ1.out (by rw [HH2.out, hc]; rfl))
                        rw [hc]
                        clear hc HH2
                        go_wp2_with fail
                        go_roundg (gk - 1)
                        case measure => omega
                        case rel => exact ⟨j + 1, by have := HJ.out; omega, by go_num, H0.out, rfl⟩
set_option maxRecDepth 100000 in
set_option maxHeartbeats 4000000 in
theorem peersFault_any (A : Option Addr) (lo c : Nat) (ps : List PeerD) (m : Int) (w : World) (hf : PeersAt w lo (.slice A ps.length c) ps) (hok : PeOk ps) (hn : ps.length ≤ 50) (_hm0 : -1000000 ≤ m) (_hm1 : m ≤ 1000000) :
    Calls Tryd.prog 20 #[.slice A ps.length c, .int .i64 m] w fun e w' => e = .returned (.int .i64 (peersF m ps)) ∧ Below w.heap.size w w' := by
  have HN := Lib.hid hf
  have HOK := Lib.hid hok
  obtain ⟨v, hv⟩ : ∃ v, v = peersF m ps := ⟨_, rfl⟩
  rw [← hv]
  have HV := Lib.hid hv
  clear hf hok hv
  go_enter Tryd.func20, Tryd.ntmps20
  go_wp2_with fail
  refine (in_any m 1 60 _).mono ?_
  rintro e w' ⟨rfl, rfl⟩
  rcases Bool.eq_false_or_eq_true (outsideB m 1 60) with ho | ho
  · have H1 := Lib.hid (show v = 1 by rw [HV.out, peersF, ho]; rfl)
    rw [ho]
    clear ho HV
    go_wp2_with fail
    go_ret
    exact ⟨ret_int H1.out.symm, Below.refl _ _⟩
  · have HW := Lib.hid (show v = firstTo (piF m ps) ps.length by rw [HV.out, peersF, ho, if_neg (by decide), if_neg (by omega)])
    rw [ho]
    clear ho HV
    go_wp2_with fail
    go_loopg [19, 5, 6, 7, 8] ps.length (fun g i _ _ _ _ wr => PiRel m ps w g i wr)
    case atStart => exact ⟨0, by omega, rfl, rfl, Below.refl _ _⟩
    case round =>
      obtain ⟨k, hk, rfl, hz0, hb⟩ := hrel
      by_cases hg : gk = 0
      · obtain rfl : k = ps.length := by omega
        have HX := Lib.hid (HW.out.trans hz0)
        clear hk hz0 hg
        go_wp2_with fail
        go_ret
        exact ⟨ret_int HX.out.symm, hb⟩
      · have hlt : k < ps.length := by omega
        obtain ⟨g, o, B, mm, d, rfl, hgl, cK, cB, hmm, hL⟩ := (HN.out.below hb).at_ hlt
        have hox := HOK.out _ (List.getElem_mem hlt)
        have HA := Lib.hid (pAt_eq ps hlt)
        have HK := Lib.hid hk
        have HZ := Lib.hid hz0
        have hgk : gk ≠ 0 := hg
        clear hk hz0 hg
        generalize ps[k] = x at *
        obtain ⟨key, zs⟩ := x
        obtain ⟨hks, hzl, hzb⟩ : key.size ≤ 1000000000000 ∧ zs.length ≤ 1000 ∧ ∀ z ∈ zs, -1000000000000000 ≤ z ∧ z ≤ 1000000000000000 := hox
        have HZB := Lib.hid hzb
        obtain rfl : mm = zs.length := hmm
        have HFI := Lib.hid (show piF m ps k = if keyB key then (if decide (0 < k) && keyLe key (pAt ps (k - 1)).1 then 7 else firstTo (hiF m zs) zs.length) else 5 by rw [piF, HA.out])
        clear hzb
        go_wp2_with fail
        have hb0 := bbox hb (.cells #[.string key, .slice B zs.length d] 85)
        have HX := Lib.hid (heap_alloc_new wr (.cells #[.string key, .slice B zs.length d] 85))
        have HLL := Lib.hid (show Lst (wr.alloc (.cells #[.string key, .slice B zs.length d] 85)) lo 1 (.slice B zs.length d) (inC zs) from hL.below (bfirst _ _))
        generalize wr.alloc (.cells #[.string key, .slice B zs.length d] 85) = w0 at *
        refine (Key_any key hks _).mono ?_
        rintro e w1 ⟨rfl, hb1⟩
        have hb2 := bon hb0 hb1
        have hM := (hb1.block wr.heap.size (block_lt HX.out)).trans HX.out
        have c0 := (pe_cells hM).1
        have c1 := (pe_cells hM).2
        have hl1 := block_lt hM
        have HL1 := Lib.hid (HLL.out.below hb1)
        have HPREV : Hid (∀ k', k = k' + 1 → w1.cell? ⟨g, o + k' * 2, none⟩ = some (.string (pAt ps k').1)) := fun k' e => by
          subst e
          obtain ⟨g2, o2, _, _, _, e2, _, h2, _⟩ := (HN.out.below hb2).at_ (i := k') (by omega)
          simp only [Option.some.injEq, Addr.mk.injEq] at e2
          obtain ⟨rfl, rfl, _⟩ := e2
          rw [pAt_eq ps (by omega : k' < ps.length)]
          exact h2
        clear hM HX hb1 hb0 cK cB hb HA HLL hL hgl
        generalize wr.heap.size = pb at *
        clear w0
        rcases Bool.eq_false_or_eq_true (keyB key) with hkb | hkb
        rotate_left
        · have H5 := Lib.hid (show v = 5 by rw [HW.out, firstTo_at hlt HZ.out (by rw [HFI.out, hkb, if_neg Bool.false_ne_true]; decide), HFI.out, hkb]; rfl)
          rw [hkb]
          clear hkb HFI
          go_wp2_with fail
          go_ret
          exact ⟨ret_int H5.out.symm, hb2⟩
        · rw [hkb, if_pos rfl] at HFI
          rw [hkb]
          clear hkb
          go_upto_region 10 with fail
          go_cut [29] (fun s wx => s = .bool (decide (0 < k) && keyLe key (pAt ps (k - 1)).1) ∧ ∃ q, wx = w1.drewN q)
          case first =>
            rcases k with _ | k'
            · have hd : decide ((0 : Int) < ((0 : Nat) : Int)) = false := by decide
              go_quiet (fail)
              go_wp2_with fail
              go_meet
              exact ⟨rfl, _, rfl⟩
            · have cP := HPREV.out k' rfl
              have hd : decide ((0 : Int) < ((k' + 1 : Nat) : Int)) = true := by simp
              go_quiet (fail)
              go_wp2_with fail
              go_meet
              exact ⟨by simp [keyLe], _, rfl⟩
          case rest =>
            obtain ⟨rfl, q, rfl⟩ := hcut
            have d1 : (w1.drewN q).cell? ⟨pb, 1, none⟩ = some (.slice B zs.length d) := c1
            have hb3 : Below w.heap.size w (w1.drewN q) := below_drewN hb2 q
            have hl2 : pb < (w1.drewN q).heap.size := hl1
            have HL2 : Hid (Lst (w1.drewN q) lo 1 (.slice B zs.length d) (inC zs)) := HL1.out
            clear HPREV c0 c1 hb2 hl1 HL1
            generalize w1.drewN q = w2 at *
            clear w1
            rcases Bool.eq_false_or_eq_true (decide (0 < k) && keyLe key (pAt ps (k - 1)).1) with hc | hc
            · have H7 := Lib.hid (show v = 7 by rw [HW.out, firstTo_at hlt HZ.out (by rw [HFI.out, hc, if_pos rfl]; decide), HFI.out, hc]; rfl)
              rw [hc]
              clear hc HFI
              go_wp2_with fail
              go_ret
              exact ⟨ret_int H7.out.symm, hb3⟩
            · rw [hc] at HFI ⊢
              clear hc
              have HFJ := Lib.hid (show piF m ps k = firstTo (hiF m zs) zs.length from HFI.out)
              clear HFI
              go_wp2_with fail
              obtain ⟨gq, rfl⟩ : ∃ gq, gq = gk := ⟨_, rfl⟩
              clear wr
              go_loopg [46, 7, 8] zs.length (fun g i _ _ wx => HiRel m zs w2 g i wx)
              case atStart => exact ⟨0, by omega, rfl, rfl, rfl⟩
              case round =>
                obtain ⟨j, hj, rfl, hz1, rfl⟩ := hrel
                by_cases hg1 : gk = 0
                · obtain rfl : j = zs.length := by omega
                  have H0 := Lib.hid (firstTo_succ HZ.out (by rw [HFJ.out]; exact hz1))
                  clear hz1 hj
                  go_wp2_with fail
                  go_roundg (gq - 1)
                  case measure => omega
                  case rel => exact ⟨k + 1, by have := HK.out; omega, by go_num, H0.out, hb3⟩
                · have hjl : j < zs.length := by omega
                  obtain ⟨g2, o2, rfl, hg2, e0⟩ := HL2.out.int hjl rfl
                  have hzz := HZB.out _ (List.getElem_mem hjl)
                  have HHI := Lib.hid (show hiF m zs j = if outsideB zs[j] 0 (m - 1) then 1 else if decide (0 < j) && decide (zs[j] ≤ zAt zs (j - 1)) then 7 else 0 by rw [hiF, zAt_eq zs hjl])
                  have HPZ : Hid (∀ j', j = j' + 1 → wr.cell? ⟨g2, o2 + j', none⟩ = some (.int .i64 (zAt zs j'))) := fun j' e => by
                    subst e
                    obtain ⟨g3, o3, e3, _, h3⟩ := HL2.out.int (j := j') (by omega) rfl
                    simp only [Option.some.injEq, Addr.mk.injEq] at e3
                    obtain ⟨rfl, rfl, _⟩ := e3
                    rw [zAt_eq zs (by omega : j' < zs.length)]
                    exact h3
                  have HJ := Lib.hid hj
                  have HZ1 := Lib.hid hz1
                  have hgk : gk ≠ 0 := hg1
                  clear hj hz1 hg1
                  generalize zs[j] = z at *
                  obtain ⟨za, zb⟩ := hzz
                  have HKY := Lib.hid (show ∀ x : Int, x ≠ 0 → hiF m zs j = x → v = x from fun x hx e => by rw [HW.out, firstTo_at hlt HZ.out (by rw [HFJ.out, firstTo_at hjl HZ1.out (by rw [e]; exact hx), e]; exact hx), HFJ.out, firstTo_at hjl HZ1.out (by rw [e]; exact hx), e])
                  go_upto_region 15 with fail
                  go_cut [51] (fun s wx => s = .bool (outsideB z 0 (m - 1)) ∧ wr = wx)
                  case first =>
                    by_cases h1 : z < 0
                    · have h1' : decide (z < 0) = true := decide_eq_true h1
                      have HQ := Lib.hid (show outsideB z 0 (m - 1) = true by simp [outsideB]; omega)
                      clear h1
                      go_wp2_with fail
                      go_meet
                      exact ⟨by rw [HQ.out], rfl⟩
                    · have h1' : decide (z < 0) = false := decide_eq_false h1
                      have HQ := Lib.hid (show outsideB z 0 (m - 1) = decide (m ≤ z) by rw [Bool.eq_iff_iff]; simp [outsideB]; omega)
                      clear h1
                      go_wp2_with fail
                      go_meet
                      exact ⟨by rw [HQ.out], rfl⟩
                  case rest =>
                    obtain ⟨rfl, rfl⟩ := hcut
                    rcases Bool.eq_false_or_eq_true (outsideB z 0 (m - 1)) with hq | hq
                    · have H1 := Lib.hid (HKY.out 1 (by decide) (by rw [HHI.out, hq]; rfl))
                      rw [hq]
                      clear hq HHI
                      go_wp2_with fail
                      go_ret
                      exact ⟨ret_int H1.out.symm, hb3⟩
                    · rw [hq] at HHI ⊢
                      clear hq
                      have HH2 := Lib.hid (show hiF m zs j = if decide (0 < j) && decide (z ≤ zAt zs (j - 1)) then 7 else 0 from HHI.out)
                      clear HHI
                      go_upto_region 17 with fail
                      go_cut [59] (fun s wx => s = .bool (decide (0 < j) && decide (z ≤ zAt zs (j - 1))) ∧ wr = wx)
                      case first =>
                        rcases j with _ | j'
                        · have hd : decide ((0 : Int) < ((0 : Nat) : Int)) = false := by decide
                          go_wp2_with fail
                          go_meet
                          exact ⟨rfl, rfl⟩
                        · have cP := HPZ.out j' rfl
                          have hd : decide ((0 : Int) < ((j' + 1 : Nat) : Int)) = true := by simp
                          go_wp2_with fail
                          go_meet
                          exact ⟨by simp, rfl⟩
                      case rest =>
                        obtain ⟨rfl, rfl⟩ := hcut
                        rcases Bool.eq_false_or_eq_true (decide (0 < j) && decide (z ≤ zAt zs (j - 1))) with hc | hc
                        · have H7 := Lib.hid (HKY.out 7 (by decide) (by rw [HH2.out, hc]; rfl))
                          rw [hc]
                          clear hc HH2
                          go_wp2_with fail
                          go_ret
                          exact ⟨ret_int H7.out.symm, hb3⟩
                        · have H0 := Lib.hid (firstTo_succ HZ1.out (by rw [HH2.out, hc]; rfl))
                          rw [hc]
                          clear hc HH2
                          go_wp2_with fail
                          go_roundg (gk - 1)
                          case measure => omega
                          case rel => exact ⟨j + 1, by have := HJ.out; omega, by go_num, H0.out, rfl⟩
end Go.Proofs.YtegalkmfoffpfaaDoor
