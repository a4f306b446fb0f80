/- The closures of signref1.SpreadPieces; slices.Clone at bools. -/
import Derived.Test.YtegalkmfoffpfaaDoorAllB
namespace Go.Proofs.YtegalkmfoffpfaaDoor
open Go.RowKit
attribute [local go_sem ↓] Go.wp_at_zero Go.wp_at_succ
theorem keyAt_own {m : Int} {ps : List PeerD} (h : peersF m ps = 0) {i : Nat} (hi : i < ps.length) : keyAt (pAt ps i).1 ps = i := by
  unfold keyAt
  refine idxI_hit hi (by simp [isK]) (fun j hj => ?_)
  have := filesF_rise h hj hi
  unfold isK
  rw [beq_eq_false_iff_ne]
  intro e
  rw [e] at this
  exact List.lt_irrefl _ this
/-- Neighbours by their names. -/
def besideB (ps : List PeerD) (ne : List PairD) (i k : Nat) : Bool := ne.any (paE ((pAt ps i).1, (pAt ps k).1)) || ne.any (paE ((pAt ps k).1, (pAt ps i).1))
theorem beside_near {m : Int} {ps : List PeerD} (ne : List PairD) (h : peersF m ps = 0) {i k : Nat} (hi : i < ps.length) (hk : k < ps.length) : nearM ps ne ne.length i k = besideB ps ne i k := by
  have a1 := keyAt_own h hi
  have a2 := keyAt_own h hk
  generalize hx : (pAt ps i).1 = x at *
  generalize hy : (pAt ps k).1 = y at *
  have e2 : ∀ a b : ByteArray, 0 ≤ keyAt a ps → 0 ≤ keyAt b ps → ∀ p : PairD, (decide (keyAt p.1 ps = keyAt a ps) && decide (keyAt p.2 ps = keyAt b ps)) = paE (a, b) p := by
    intro a b ha hb p
    rw [Bool.eq_iff_iff]; simp [paE]
    exact ⟨fun h => ⟨(keyAt_same h.1 (by omega)).symm, (keyAt_same h.2 (by omega)).symm⟩, fun h => ⟨keyAt_cong ps h.1.symm, keyAt_cong ps h.2.symm⟩⟩
  unfold nearM besideB
  rw [List.take_length, hx, hy]
  induction ne with
  | nil => rfl
  | cons p r ih =>
    rw [List.any_cons, List.any_cons, List.any_cons, ih]
    have : linkB ps p (i : Nat) (k : Nat) = (paE (x, y) p || paE (y, x) p) := by
      unfold linkB
      rw [← e2 x y (by omega) (by omega) p, ← e2 y x (by omega) (by omega) p, a1, a2]
    rw [this]
    cases paE (x, y) p <;> cases paE (y, x) p <;> simp
set_option maxRecDepth 100000 in
set_option maxHeartbeats 4000000 in
theorem beside_any (A B : Option Addr) (lo c d b3 b4 i k : Nat) (ps : List PeerD) (ne : List PairD) (w : World) (hf : PeersAt w lo (.slice A ps.length c) ps) (_hn : ps.length ≤ 50) (hN : Lst w lo 2 (.slice B ne.length d) (ne.flatMap paC)) (hnn : ne.length ≤ 1000)
    (h3 : w.cell? ⟨b3, 0, none⟩ = some (.slice A ps.length c)) (h4 : w.cell? ⟨b4, 0, none⟩ = some (.slice B ne.length d)) (hi : i < ps.length) (hk : k < ps.length) :
    Calls Tryd.prog 47 #[.int .i64 i, .int .i64 k, .pointer (some ⟨b3, 0, none⟩), .pointer (some ⟨b4, 0, none⟩)] w fun e w' => e = .returned (.bool (besideB ps ne i k)) ∧ Below w.heap.size w w' := by
  obtain ⟨g, o, B1, m1, d1, rfl, _, x0, _⟩ := hf.at_ hi
  obtain ⟨g', o', B2, m2, d2, e, _, y0, _⟩ := hf.at_ hk
  simp only [Option.some.injEq, Addr.mk.injEq] at e
  obtain ⟨rfl, rfl, _⟩ := e
  have hiI : (i : Int) < (ps.length : Int) := by omega
  have hkI : (k : Int) < (ps.length : Int) := by omega
  have HCP := Lib.hid (fun (W : World) (x : PairD) (hb : Below w.heap.size w W) => containsPair_any B lo d ne x W (hN.below hb) (by omega))
  have HBS := Lib.hid (show besideB ps ne i k = (ne.any (paE (ps[i].1, ps[k].1)) || ne.any (paE (ps[k].1, ps[i].1))) by rw [besideB, pAt_eq ps hi, pAt_eq ps hk])
  clear hf hN
  generalize ps[i].1 = na at *
  generalize ps[k].1 = nb at *
  go_enter Tryd.func47, Tryd.ntmps47
  go_wp2_with fail
  go_quiet (fail)
  rcases Bool.eq_false_or_eq_true (ne.any (paE (na, nb))) with q1 | q1
  · have HS := Lib.hid (show besideB ps ne i k = true by rw [HBS.out, q1]; rfl)
    clear HBS
    go_wp2_with (go_at_call 46; refine (HCP.out _ (na, nb) (below_drewN (Below.refl _ w) _)).mono ?_; rw [q1]; rintro e w1 ⟨rfl, hb1⟩)
    go_ret
    exact ⟨by rw [HS.out]; rfl, bon (below_drewN (Below.refl _ w) _) hb1⟩
  · have HS := Lib.hid (show besideB ps ne i k = ne.any (paE (nb, na)) by rw [HBS.out, q1]; rfl)
    clear HBS
    have C1 := fun q => HCP.out (w.drewN q) (na, nb) (below_drewN (Below.refl _ w) _)
    rw [q1] at C1
    clear q1
    go_wp2_with fail
    refine (C1 _).mono ?_
    rintro e w1 ⟨rfl, hb1⟩
    have hbw := bon (below_drewN (Below.refl _ w) _) hb1
    have h4' := bold hbw h4
    clear C1
    go_wp2_with fail
    refine (HCP.out _ (nb, na) hbw).mono ?_
    rintro e w2 ⟨rfl, hb2⟩
    go_wp2_with fail
    go_ret
    exact ⟨by rw [HS.out]; rfl, bon hbw hb2⟩
/-! ### rows that were cloned -/
def oslc (n k m : Nat) (gs cs : Nat → Nat) : List Value := (List.range n).map fun i => if i < k then .slice (some ⟨gs i, 0, none⟩) m (cs i) else .slice none 0 0
theorem oslc_at {n k m i : Nat} (gs cs : Nat → Nat) (h : i < n) (hk : i < k) : (oslc n k m gs cs)[i]? = some (.slice (some ⟨gs i, 0, none⟩) m (cs i)) := by simp [oslc, h, hk]
theorem oslc_zero (n m : Nat) (gs cs : Nat → Nat) : (oslc n 0 m gs cs).toArray = madeCells #[.slice none 0 0] n := by
  rw [madeCells_one]
  apply Array.ext_getElem?
  intro i
  by_cases h : i < n
  · simp [oslc, h]
  · simp [oslc, h]
theorem oslc_set {n k m b c : Nat} (gs cs : Nat → Nat) (_hk : k < n) : (oslc n k m gs cs).set k (.slice (some ⟨b, 0, none⟩) m c) = oslc n (k + 1) m (fun i => if i = k then b else gs i) (fun i => if i = k then c else cs i) := by
  apply List.ext_getElem?
  intro i
  rw [List.getElem?_set]
  by_cases h : i < n
  · by_cases e : k = i
    · subst e; simp [oslc, h]
    · rw [if_neg e]
      have e2 : i ≠ k := fun h => e h.symm
      by_cases h2 : i < k
      · have h3 : i < k + 1 := by omega
        simp [oslc, h, h2, h3, e2]
      · have h3 : ¬ i < k + 1 := by omega
        simp [oslc, h, h2, h3]
  · have e : k ≠ i := by omega
    rw [if_neg e]
    simp [oslc, h]
/-- The first k rows of n are clones; each has m bools, and perhaps room. -/
structure POld (w : World) (base : Nat) (v : Value) (n k m : Nat) (f : Nat → Nat → Bool) (gs cs : Nat → Nat) : Prop where
  own : w.ownsRow base 97 1 v n (oslc n k m gs cs)
  row : ∀ i, i < k → i < n → ∃ cur, w.heap[gs i]? = some (.cells cur 4 (0, 0)) ∧ ∀ j, j < m → cur[j]? = some (.bool (f i j))
abbrev Old (w : World) (base : Nat) (v : Value) (n m : Nat) (f : Nat → Nat → Bool) (gs cs : Nat → Nat) : Prop := POld w base v n n m f gs cs
section
variable {w w' : World} {base n k m : Nat} {v : Value} {f : Nat → Nat → Bool} {gs cs : Nat → Nat}
theorem POld.below (h : POld w base v n k m f gs cs) (hb : Below w.heap.size w w') : POld w' base v n k m f gs cs :=
  ⟨ownsRow_below h.own hb, fun i h1 h2 => by obtain ⟨cur, hc, hj⟩ := h.row i h1 h2; exact ⟨cur, (hb.block _ (block_lt hc)).trans hc, hj⟩⟩
theorem POld.drewN (h : POld w base v n k m f gs cs) (q : Nat) : POld (w.drewN q) base v n k m f gs cs := ⟨h.own, h.row⟩
theorem POld.form (h : POld w base v n k m f gs cs) : ∃ A c, v = .slice A n c := by
  rcases h.own.2 with ⟨rfl, rfl⟩ | ⟨g, cap, cur, rfl, _⟩
  · exact ⟨none, 0, rfl⟩
  · exact ⟨_, cap, rfl⟩
theorem POld.cell (h : POld w base v n k m f gs cs) {i j : Nat} (hi : i < k) (hn : i < n) (hj : j < m) : w.cell? ⟨gs i, j, none⟩ = some (.bool (f i j)) := by
  obtain ⟨cur, hc, hu⟩ := h.row i hi hn
  simp [World.cell?, hc, hu j hj]
theorem POld.at_ {A : Option Addr} {c i j : Nat} (h : POld w base (.slice A n c) n k m f gs cs) (hi : i < k) (hn : i < n) : ∃ g, A = some ⟨g, 0, none⟩ ∧ w.cell? ⟨g, i, none⟩ = some (.slice (some ⟨gs i, 0, none⟩) m (cs i)) ∧ (j < m → w.cell? ⟨gs i, j, none⟩ = some (.bool (f i j))) := by
  obtain ⟨g, e, hc⟩ := own_at1 h.own (oslc_at gs cs hn hi)
  exact ⟨g, e, hc, fun hj => h.cell hi hn hj⟩
theorem POld.more {g c b d : Nat} (h : POld w base (.slice (some ⟨g, 0, none⟩) n c) n k m f gs cs) (hk : k < n) (hr : ∃ cur, w.heap[b]? = some (.cells cur 4 (0, 0)) ∧ ∀ j, j < m → cur[j]? = some (.bool (f k j))) :
    POld (w.setCell ⟨g, k, none⟩ (.slice (some ⟨b, 0, none⟩) m d)) base (.slice (some ⟨g, 0, none⟩) n c) n (k + 1) m f (fun i => if i = k then b else gs i) (fun i => if i = k then d else cs i) := by
  obtain ⟨cur0, hh⟩ := own_tag h.own (g := g) rfl
  have ho := (h.own.stored k (.slice (some ⟨b, 0, none⟩) m d)).1
  rw [oslc_set gs cs hk] at ho
  refine ⟨ho, fun i h1 h2 => ?_⟩
  by_cases e : i = k
  · subst e
    obtain ⟨cur, hc, hu⟩ := hr
    simp only [if_pos]
    exact ⟨cur, (Below.heap_setCell _ _ _ _ (tag_ne hc hh (by decide))).trans hc, hu⟩
  · obtain ⟨cur, hc, hu⟩ := h.row i (by omega) h2
    simp only [if_neg e]
    exact ⟨cur, (Below.heap_setCell _ _ _ _ (tag_ne hc hh (by decide))).trans hc, hu⟩
theorem old_new (w : World) (n m : Nat) (_hn : n ≤ 1000000) (f : Nat → Nat → Bool) : POld (w.alloc (.cells (madeCells #[.slice none 0 0] n) 97)) w.heap.size (.slice (some ⟨w.heap.size, 0, none⟩) n n) n 0 m f (fun _ => 0) (fun _ => 0) :=
  ⟨(pmat_new w n m _hn).own, fun _ hi => absurd hi (Nat.not_lt_zero _)⟩
end
set_option maxRecDepth 100000 in
set_option maxHeartbeats 1000000 in
theorem count_any (g m c : Nat) (f : Nat → Bool) (w : World) (hm : m ≤ 100) (h : ∀ j, j < m → w.cell? ⟨g, j, none⟩ = some (.bool (f j))) :
    Calls Tryd.prog 48 #[.slice (some ⟨g, 0, none⟩) m c] w fun e w' => e = .returned (.int .i64 (cntTo f m)) ∧ w = w' := by
  have H := Lib.hid h
  clear h
  go_enter Tryd.func48, Tryd.ntmps48
  go_wp2_with fail
  go_loopg [8, 3, 5] m (fun g i c _ wr => ∃ k : Nat, k + g = m ∧ i = .int .i64 k ∧ c = .int .i64 (cntTo f k) ∧ w = wr)
  case atStart => exact ⟨0, by omega, rfl, rfl, rfl⟩
  case round =>
    obtain ⟨k, hk, rfl, rfl, rfl⟩ := hrel
    by_cases hg : gk = 0
    · obtain rfl : k = m := by omega
      clear hk hg
      go_wp2_with fail
      go_ret
      exact ⟨rfl, rfl⟩
    · have hlt : k < m := by omega
      have hltI : (k : Int) < (m : Int) := by omega
      have hc := H.out k hlt
      have HK := Lib.hid hk
      have hgk : gk ≠ 0 := hg
      have hr := cntTo_range f k
      have HS := Lib.hid (show cntTo f (k + 1) = cntTo f k + if f k then 1 else 0 from rfl)
      clear hk hg
      generalize cntTo f k = z at *
      rcases Bool.eq_false_or_eq_true (f k) with e1 | e1
      · rw [e1] at hc HS
        clear e1
        go_wp2_with fail
        go_roundg (gk - 1)
        case measure => omega
        case rel => exact ⟨k + 1, by have := HK.out; omega, by go_num, by rw [HS.out]; rfl, rfl⟩
      · rw [e1] at hc HS
        clear e1
        go_wp2_with fail
        go_roundg (gk - 1)
        case measure => omega
        case rel => exact ⟨k + 1, by have := HK.out; omega, by go_num, by rw [HS.out]; simp, rfl⟩
set_option maxRecDepth 100000 in
set_option maxHeartbeats 1000000 in
theorem cmp3_any (b2 b3 n m c base a b : Nat) (A : Option Addr) (H : Nat → Nat → Bool) (gH cH : Nat → Nat) (w : World) (_hn : n ≤ 50) (hm : m ≤ 60) (hM : Old w base (.slice A n c) n m H gH cH)
    (h2 : w.cell? ⟨b2, 0, none⟩ = some (.func (.func 48) #[] #[])) (h3 : w.cell? ⟨b3, 0, none⟩ = some (.slice A n c)) (ha : a < n) (hb : b < n) :
    Calls Tryd.prog 51 #[.int .i64 a, .int .i64 b, .pointer (some ⟨b2, 0, none⟩), .pointer (some ⟨b3, 0, none⟩)] w fun e w' => e = .returned (.int .i64 (Lib.compareInt (cnF m H a) (cnF m H b))) ∧ ∃ q, w' = w.drewN q := by
  obtain ⟨ob, rfl, a1, _⟩ := hM.at_ (i := a) (j := 0) ha ha
  obtain ⟨ob2, e, c1, _⟩ := hM.at_ (i := b) (j := 0) hb hb
  simp only [Option.some.injEq, Addr.mk.injEq] at e
  obtain ⟨rfl, _, _⟩ := e
  have haI : (a : Int) < (n : Int) := by omega
  have hbI : (b : Int) < (n : Int) := by omega
  have HA := Lib.hid (fun q => count_any (gH a) m (cH a) (H a) (w.drewN q) (by omega) (fun j hj => hM.cell ha ha hj))
  have HB := Lib.hid (fun q => count_any (gH b) m (cH b) (H b) (w.drewN q) (by omega) (fun j hj => hM.cell hb hb hj))
  clear hM
  unfold cnF
  generalize cntTo (H a) m = x at *
  generalize cntTo (H b) m = y at *
  go_enter Tryd.func51, Tryd.ntmps51
  go_wp2_with fail
  go_quiet ((first
    | ((go_at_call 52; exact Calls.quiet_of_same (Tryd.cmp_Compare_int x y _)))
    | ((go_at_call_of 48 (Value.slice (some ⟨gH a, 0, none⟩) m (cH a)); exact Calls.quiet_of_same ((HA.out _).mono fun _ _ h => ⟨h.1, h.2.symm⟩)))
    | ((go_at_call_of 48 (Value.slice (some ⟨gH b, 0, none⟩) m (cH b)); exact Calls.quiet_of_same ((HB.out _).mono fun _ _ h => ⟨h.1, h.2.symm⟩)))))
  go_wp2_with fail
  go_ret
  exact ⟨rfl, _, rfl⟩
/-- What a clone of a row is. -/
def CloneGot (m : Nat) (f : Nat → Bool) (w : World) (e : Ending) (w' : World) : Prop :=
  ∃ g c, e = .returned (.slice (some ⟨g, 0, none⟩) m c) ∧ w.heap.size ≤ g ∧ (∃ cur, w'.heap[g]? = some (.cells cur 4 (0, 0)) ∧ ∀ j, j < m → cur[j]? = some (.bool (f j))) ∧ Below w.heap.size w w'
set_option maxRecDepth 100000 in
set_option maxHeartbeats 1000000 in
theorem cloneB_any (g m : Nat) (f : Nat → Bool) (w : World) (hm1 : 1 ≤ m) (hm : m ≤ 60) (h : w.heap[g]? = some (.cells (rowC m f).toArray 4 (0, 0))) :
    Calls Tryd.prog 49 #[.slice (some ⟨g, 0, none⟩) m m] w (CloneGot m f w) := by
  obtain ⟨i0, hi, hz0, hz1, hz2⟩ := info_parts infoB
  have hnil := fun (w : World) (a : Option Addr) (n c : Nat) => Lib.run_eql_slice_nil (P := Tryd.prog) w 97 4 a n c 0 0 Tryd.underlying97
  have hgl := block_lt h
  have hx : (w.alloc (.cells #[] 4)).heap[g]? = some (.cells (rowC m f).toArray 4 (0, 0)) := (Below.heap_alloc _ _ _ hgl).trans h
  have hc1 : ∀ (j : Nat) (u : Value), (rowC m f)[j]? = some u → (w.alloc (.cells #[] 4)).cell? ((⟨g, 0, none⟩ : Addr).add j) = some u := by
    intro j u hj
    have e : (⟨g, 0, none⟩ : Addr).add j = ⟨g, j, none⟩ := by unfold Addr.add; split <;> simp_all
    rw [e]
    simp only [World.cell?, hx]
    simpa using hj
  have h1 : ∀ u ∈ rowC m f, u.oneCell' = true := by
    intro u hu
    simp only [rowC, List.mem_map] at hu
    obtain ⟨j, _, rfl⟩ := hu
    rfl
  have HH := Lib.hid (show (w.alloc (.cells #[] 4)).ownsRow w.heap.size 4 1 (.slice (some ⟨w.heap.size, 0, none⟩) 0 0) 0 [] from ownsRow_empty (Nat.le_refl _))
  have HC := Lib.hid hc1
  have H1 := Lib.hid h1
  have HL := Lib.hid (show (rowC m f).length = m * 1 by rw [rowC_len]; omega)
  clear h hc1 h1 hx hgl
  go_enter Tryd.func49, Tryd.ntmps49
  go_wp2_with (at_builtin; refine wpList_append_own _ rfl _ _ 97 rfl w.heap.size 4 i0 _ 1 1 Tryd.underlying97 hi hz0 hz1 hz2 rfl (by decide) _ _ _ rfl HH.out ⟨g, 0, none⟩ m m (rowC m f) rfl HL.out HC.out H1.out (by unfold maxLen; omega) (by omega) (by simp) ?_)
  intro v' w1 hown hgrow _
  have hb1 : Below w.heap.size w w1 := (bfirst w _).grown hgrow (by simp) (fun x hx => by cases hx; exact Nat.le_refl _)
  have hown2 : w1.ownsRow w.heap.size 4 1 v' m (rowC m f) := by simpa using hown
  have HE := Lib.hid (show CloneGot m f w (.returned v') w1 from (by
    rcases hown2.2 with ⟨_, h0⟩ | ⟨g', cap, cur, rfl, hbg, hh, _, _, _, ht⟩
    · omega
    · refine ⟨g', cap, rfl, hbg, ⟨cur, hh, fun j hj => ?_⟩, hb1⟩
      have h2 := rowC_at f hj
      rw [← ht, List.getElem?_take, if_pos (by omega)] at h2
      simpa using h2))
  clear hown hgrow hown2
  go_wp2_with fail
  go_ret
  exact HE.out
end Go.Proofs.YtegalkmfoffpfaaDoor
