/- signref1.SpreadPieces. -/
import Derived.Test.YtegalkmfoffpfaaDoorChooses
import Derived.Test.YtegalkmfoffpfaaDoorFillMem
import Derived.Test.YtegalkmfoffpfaaDoorRound
import Derived.Deep.RegionHeld3
import Derived.Deep.RegionLaw
import Derived.Laws.EntriesVeiled
namespace Go.Proofs.YtegalkmfoffpfaaDoor
open Go.RowKit
attribute [local go_sem ↓] Go.wp_at_zero Go.wp_at_succ
theorem heap_newM (w : World) (o : Obj) (n : Nat) (hn : n = w.heap.size) : (w.alloc o).heap[n]? = some o := by subst hn; exact heap_alloc_new w o
/-- What is had while it is read. -/
def hasP (ps : List PeerD) (i k : Nat) (a j : Nat) : Bool := if a < i then hasM ps a j else if a = i then hasTo (pAt ps i).2 k j else false
/-- While rows are made: i players are in. -/
def RfRel (w1 : World) (m : Nat) (v : Value) (ps : List PeerD) (g : Nat) (ix : Value) (wr : World) : Prop :=
  ∃ (i : Nat) (gs : Nat → Nat), i + g = ps.length ∧ ix = .int .i64 i ∧ PMat wr w1.heap.size v ps.length i m (hasM ps) gs ∧ Below w1.heap.size w1 wr
/-- While a player's pieces are marked. -/
def RgRel (w1 : World) (m : Nat) (v : Value) (ps : List PeerD) (i : Nat) (gs : Nat → Nat) (g : Nat) (ix : Value) (wr : World) : Prop :=
  ∃ k : Nat, k + g = (pAt ps i).2.length ∧ ix = .int .i64 k ∧ PMat wr w1.heap.size v ps.length (i + 1) m (hasP ps i k) gs ∧ Below w1.heap.size w1 wr
theorem hasP_zero (ps : List PeerD) (i : Nat) {a : Nat} (h : a < i) (j : Nat) : hasM ps a j = hasP ps i 0 a j := by simp [hasP, h]
theorem hasP_all (ps : List PeerD) (i : Nat) {a : Nat} (h : a < i + 1) (j : Nat) : hasP ps i (pAt ps i).2.length a j = hasM ps a j := by
  unfold hasP
  by_cases h1 : a < i
  · rw [if_pos h1]
  · obtain rfl : a = i := by omega
    rw [if_neg h1, if_pos rfl, hasTo_all]
theorem hasP_set (ps : List PeerD) (i : Nat) {k p : Nat} (hk : k < (pAt ps i).2.length) (hp : (pAt ps i).2[k] = (p : Int)) (a j : Nat) : upd (hasP ps i k) i p true a j = hasP ps i (k + 1) a j := by
  unfold upd hasP
  by_cases h1 : a < i
  · rw [if_neg (by omega), if_pos h1, if_pos h1]
  · rw [if_neg h1, if_neg h1]
    by_cases h2 : a = i
    · subst h2
      rw [if_pos rfl, if_pos rfl, hasTo_succ _ hk hp]
      by_cases h3 : j = p
      · subst h3; simp [setB]
      · rw [if_neg (by omega)]; simp [setB, h3]
    · rw [if_neg h2, if_neg h2, if_neg (by omega)]
/-- While the old rows are laid by, and the order is begun. -/
def RoRel (w3 : World) (b17 n m : Nat) (v : Value) (H : Nat → Nat → Bool) (g : Nat) (ix o : Value) (wr : World) : Prop :=
  ∃ (k : Nat) (gs cs : Nat → Nat), k + g = n ∧ ix = .int .i64 k ∧ wr.ownsRow w3.heap.size 3 1 o k (natV (List.range k)) ∧ POld wr w3.heap.size v n k m H gs cs ∧ (∀ i, i < k → w3.heap.size ≤ gs i) ∧
    wr.heap[b17]? = some (.cells #[v] 91 (0, 0)) ∧ Below w3.heap.size w3 wr
theorem POld.fr {w w' : World} {base n k m : Nat} {v : Value} {f : Nat → Nat → Bool} {gs cs : Nat → Nat} {S : Nat → Prop} (h : POld w base v n k m f gs cs) (hf : Fr S w w') (h1 : ∀ x cur z, w.heap[x]? = some (.cells cur 97 z) → ¬ S x) (h2 : ∀ i, i < k → i < n → ¬ S (gs i)) : POld w' base v n k m f gs cs :=
  ⟨hf.own h.own h1, fun i hi hn => by obtain ⟨cur, hc, hj⟩ := h.row i hi hn; exact ⟨cur, hf.blk hc (h2 i hi hn), hj⟩⟩
/-- The blocks that a round may turn: those of gifts, the row 'gave', the rows that are had. -/
def Turn (B gg n : Nat) (gH : Nat → Nat) (w5 : World) (x : Nat) : Prop := B ≤ x ∧ ((∃ c z, w5.heap[x]? = some (.cells c 61 z)) ∨ x = gg ∨ ∃ i, i < n ∧ x = gH i)
theorem PMat.fr {w w' : World} {base n k m : Nat} {v : Value} {f : Nat → Nat → Bool} {gs : Nat → Nat} {S : Nat → Prop} (h : PMat w base v n k m f gs) (hf : Fr S w w') (h1 : ∀ x cur z, w.heap[x]? = some (.cells cur 97 z) → ¬ S x) (h2 : ∀ i, i < k → i < n → ¬ S (gs i)) : PMat w' base v n k m f gs :=
  ⟨hf.own h.own h1, fun i hi hn => hf.blk (h.row i hi hn) (h2 i hi hn), h.ge, h.inj⟩
/-- The row of gifts grows. -/
theorem Turn.grow {B gg n c : Nat} {gH : Nat → Nat} {w6 w8 w9 : World} {v : Value} {xs : List Value} (hF : Fr (Turn B gg n gH w6) w6 w8) (ho : w8.ownsRow B 61 4 v c xs) (hg : w8.grownBy w9 v.ownBlock) : Fr (Turn B gg n gH w6) w6 w9 := by
  refine ⟨hg.os.trans hF.os, hg.tape.trans hF.tape, hg.output.trans hF.output, Nat.le_trans hF.size hg.size, fun x hx hn => ?_⟩
  by_cases e : v.ownBlock = some x
  · obtain ⟨hB, cur, hc⟩ := own_ge ho e
    rw [hF.block x hx hn] at hc
    exact absurd ⟨hB, .inl ⟨_, _, hc⟩⟩ hn
  · exact (hg.block x (Nat.lt_of_lt_of_le hx hF.size) (fun h => e h.symm)).trans (hF.block x hx hn)
/-- While players take. -/
def RtRel (w5 : World) (B gg bh n m no : Nat) (ks : List ByteArray) (N H : Nat → Nat → Bool) (hv : Value) (gH : Nat → Nat) (acc : List GiveN) (ord : List Nat) (g : Nat) (ix ov sv : Value) (wr : World) : Prop :=
  ∃ k : Nat, k + g = n ∧ ix = .int .i64 k ∧ wr.heap[gg]? = some (.cells (rowC n (rdTo n m N H (ord.take k)).1).toArray 4 (0, 0)) ∧
    Mat wr bh hv n m (applyG H (rdTo n m N H (ord.take k)).2) gH ∧ sv = .bool (!(rdTo n m N H (ord.take k)).2.isEmpty) ∧
    wr.ownsRow B 61 4 ov (acc ++ noted no (rdTo n m N H (ord.take k)).2).length ((acc ++ noted no (rdTo n m N H (ord.take k)).2).flatMap (giC ks)) ∧ Fr (Turn B gg n gH w5) w5 wr
/-- What lies in the boxes. -/
structure Boxes (w : World) (b3 b4 b14 : Nat) (pv nv : Value) : Prop where
  b3 : w.heap[b3]? = some (.cells #[pv] 47 (0, 0))
  b4 : w.heap[b4]? = some (.cells #[nv] 49 (0, 0))
  b14 : w.heap[b14]? = some (.cells #[.func (.func 48) #[] #[]] 106 (0, 0))
theorem Boxes.cells {w : World} {b3 b4 b14 : Nat} {pv nv : Value} (h : Boxes w b3 b4 b14 pv nv) : w.cell? ⟨b3, 0, none⟩ = some pv ∧ w.cell? ⟨b4, 0, none⟩ = some nv ∧ w.cell? ⟨b14, 0, none⟩ = some (.func (.func 48) #[] #[]) := by
  have h1 := h.b3
  have h2 := h.b4
  have h3 := h.b14
  exact ⟨by simp [World.cell?, h1], by simp [World.cell?, h2], by simp [World.cell?, h3]⟩
theorem Boxes.keep {w w' : World} {b3 b4 b14 : Nat} {pv nv : Value} (h : Boxes w b3 b4 b14 pv nv) (hk : ∀ x o, w.heap[x]? = some o → (x = b3 ∨ x = b4 ∨ x = b14) → w'.heap[x]? = some o) : Boxes w' b3 b4 b14 pv nv :=
  ⟨hk _ _ h.b3 (.inl rfl), hk _ _ h.b4 (.inr (.inl rfl)), hk _ _ h.b14 (.inr (.inr rfl))⟩
theorem Boxes.below {w w' : World} {b3 b4 b14 : Nat} {pv nv : Value} (h : Boxes w b3 b4 b14 pv nv) (hb : Below w.heap.size w w') : Boxes w' b3 b4 b14 pv nv := h.keep fun x _ hx _ => (hb.block x (block_lt hx)).trans hx
/-- While rounds go on. -/
def RrRel (w w1 : World) (b3 b4 b14 n m : Nat) (pv nv hv : Value) (ks : List ByteArray) (N H0 : Nat → Nat → Bool) (gH : Nat → Nat) (g : Nat) (ov nov : Value) (wr : World) : Prop :=
  ∃ (no : Nat) (H : Nat → Nat → Bool) (acc : List GiveN), nov = .int .i64 no ∧ Going n m N H0 g no H acc ∧ wr.ownsRow w.heap.size 61 4 ov acc.length (acc.flatMap (giC ks)) ∧
    Mat wr w1.heap.size hv n m H gH ∧ Boxes wr b3 b4 b14 pv nv ∧ Below w.heap.size w wr
theorem takeTo_neg (n : Nat) (N H : Nat → Nat → Bool) (cn ra : Nat → Int) (gave : Nat → Bool) (i : Nat) : ∀ p, (takeTo n N H cn ra gave i p).1 < 0 → (takeTo n N H cn ra gave i p).2 < 0
  | 0 => fun _ => show (-1 : Int) < 0 by decide
  | p + 1 => by
    intro h
    rw [takeTo] at h ⊢
    split
    · rename_i hc
      rw [if_pos hc] at h
      exact takeTo_neg n N H cn ra gave i p h
    · rename_i hc
      rw [if_neg hc] at h
      split
      · rename_i hg
        rw [if_pos hg] at h
        have : (p : Int) < 0 := h
        omega
      · rename_i hg
        rw [if_neg hg] at h
        exact takeTo_neg n N H cn ra gave i p h
def SpreadRefGot (ps : List PeerD) (G : List GiveN) (b : Bool) (w : World) (e : Ending) (w' : World) : Prop :=
  ∃ v, e = .returned (.tuple #[v, .bool b]) ∧ w'.ownsRow w.heap.size 61 4 v G.length (G.flatMap (giC (ps.map (·.1)))) ∧ Below w.heap.size w w'
set_option maxRecDepth 100000 in
set_option maxHeartbeats 16000000 in
theorem spreadRef_any (A B : Option Addr) (lo c d m : Nat) (ps : List PeerD) (ne : List PairD) (w : World) (hf : PeersAt w lo (.slice A ps.length c) ps) (hok : PeOk ps) (hn : ps.length ≤ 12) (hm1 : 1 ≤ m) (hm : m ≤ 60)
    (hz : peersF m ps = 0) (hN : Lst w lo 2 (.slice B ne.length d) (ne.flatMap paC)) (hnn : ne.length ≤ 1000) :
    Calls Tryd.prog 25 #[.slice A ps.length c, .slice B ne.length d, .int .i64 m] w
      (SpreadRefGot ps (spreadF ps.length m (nearM ps ne ne.length) (ps.length * m) 1 (hasM ps)).1 (allF ps.length m (spreadF ps.length m (nearM ps ne ne.length) (ps.length * m) 1 (hasM ps)).2) w) := by
  have HF := Lib.hid hf
  have HN := Lib.hid hN
  have HZ := Lib.hid hz
  have HOK := Lib.hid hok
  obtain ⟨i0, ii, iz0, iz1, iz2⟩ := info_parts infoGi
  obtain ⟨j0, ji, jz0, jz1, jz2⟩ := info_parts infoI
  have hmk1 := run_make_row' (P := Tryd.prog) 91 97 (.slice none 0 0) 24 Tryd.underlying91 infoSl rfl .i64 .i64 ps.length (by omega) (by omega)
  have hmk2 := run_make_row' (P := Tryd.prog) 97 4 (.bool false) 1 Tryd.underlying97 infoB rfl .i64 .i64 m (by omega) (by omega)
  clear hf hN hz hok
  go_enter Tryd.func25, Tryd.ntmps25
  go_wp2_with fail
  have bA := bfirst w (.cells #[.slice A ps.length c] 47)
  have bB := bon bA (bfirst _ (.cells #[.slice B ne.length d] 49))
  have HX3 := Lib.hid ((Below.heap_alloc (w.alloc (.cells #[.slice A ps.length c] 47)) (.cells #[.slice B ne.length d] 49) w.heap.size (by simp)).trans (heap_alloc_new w (.cells #[.slice A ps.length c] 47)))
  have HX4 := Lib.hid (heap_newM (w.alloc (.cells #[.slice A ps.length c] 47)) (.cells #[.slice B ne.length d] 49) (w.heap.size + 1) (by simp))
  have HZ1 := Lib.hid (show ((w.alloc (.cells #[.slice A ps.length c] 47)).alloc (.cells #[.slice B ne.length d] 49)).heap.size = w.heap.size + 1 + 1 by simp)
  generalize (w.alloc (.cells #[.slice A ps.length c] 47)).alloc (.cells #[.slice B ne.length d] 49) = w1 at *
  have HB1 := Lib.hid bB
  have HF1 := Lib.hid (HF.out.below bB)
  have P0 := Lib.hid (pmat_new w1 ps.length m (by omega))
  have b0 := bfirst w1 (.cells (madeCells #[.slice none 0 0] ps.length) 97)
  rw [HZ1.out] at P0
  generalize w1.alloc (.cells (madeCells #[.slice none 0 0] ps.length) 97) = w2 at *
  obtain ⟨hk0, hhk⟩ : ∃ x, x = w.heap.size + 1 + 1 := ⟨_, rfl⟩
  rw [← hhk] at HZ1 P0 ⊢
  have HHK := Lib.hid hhk
  clear bA bB hhk
  go_loopg [31, 9, 10, 12, 44] ps.length (fun g ix _ _ _ _ wr => RfRel w1 m (.slice (some ⟨hk0, 0, none⟩) ps.length ps.length) ps g ix wr)
  case atStart => exact ⟨0, _, by omega, rfl, by rw [HZ1.out]; exact P0.out.congr (fun i hi => absurd hi (Nat.not_lt_zero _)), b0⟩
  case round =>
    clear P0 b0
    obtain ⟨k, gs, hk, rfl, hM, hb⟩ := hrel
    have hsz := hb.size
    by_cases hg : gk = 0
    rotate_left
    · have hlt : k < ps.length := by omega
      have hltI : (k : Int) < (ps.length : Int) := by omega
      have HK := Lib.hid hk
      have hgk : gk ≠ 0 := hg
      obtain ⟨g, o, B2, m2, d2, rfl, hgl, x0', x1', hm2, hL⟩ := HF1.out.at_ hlt
      have x0 := bold hb x0'
      have x1 := bold hb x1'
      have hgl2 := World.block_lt_of_cell? wr _ x0
      have HHI := Lib.hid (fun (j : Nat) (hj : j < (pAt ps k).2.length) => has_in HZ.out hlt hj)
      have hzl : (pAt ps k).2.length ≤ 1000 := by rw [pAt_eq ps hlt]; exact (HOK.out _ (List.getElem_mem hlt)).2.1
      rw [← pAt_eq ps hlt] at x0 hm2 hL
      have HL := Lib.hid hL
      have hcell : ∃ u, wr.cell? ⟨hk0, k, none⟩ = some u := by
        have := own_cells hM.own k _ (List.getElem?_eq_getElem (by rw [slcs_len]; exact hlt))
        have e : (⟨hk0, 0, none⟩ : Addr).add k = ⟨hk0, k, none⟩ := by unfold Addr.add; split <;> simp_all
        rw [e] at this
        exact ⟨_, this⟩
      obtain ⟨u, hu⟩ := hcell
      have hul := World.block_lt_of_cell? wr _ hu
      have hfz : wr.frozen? ⟨hk0, k, none⟩ = false := by
        rcases hM.own.2 with ⟨h0, _⟩ | ⟨g', cap, cur, hv, _, hh, _⟩
        · cases h0
        · simp only [Value.slice.injEq, Option.some.injEq, Addr.mk.injEq] at hv
          obtain ⟨⟨rfl, _, _⟩, _, _⟩ := hv
          simp [World.frozen?, hh]
      have hb4 := bbox hb (.cells #[.string (pAt ps k).1, .slice B2 m2 d2] 85)
      have HM := Lib.hid ((((hM.congr (f' := hasP ps k 0) (fun i hi _ j _ => hasP_zero ps k hi j)).below (bfirst wr (.cells #[.string (pAt ps k).1, .slice B2 m2 d2] 85)))).more hlt hb4.size (fun j _ => by simp [hasP, hasTo]))
      subst hm2
      clear hk hM hg hL x0' x1'
      go_upto_region 6 with fail
      have e5 : (wr.alloc (.cells #[.string (pAt ps k).1, .slice B2 (pAt ps k).2.length d2] 85)).heap.size = wr.heap.size + 1 := by simp
      have hul2 : hk0 < (wr.alloc (.cells #[.string (pAt ps k).1, .slice B2 (pAt ps k).2.length d2] 85)).heap.size := by rw [e5]; exact Nat.lt_succ_of_lt hul
      rw [alloc_setCell hul2, alloc_setCell hul, e5] at HM
      unfold slc at HM
      have b5 : Below w1.heap.size w1 (((wr.setCell ⟨hk0, k, none⟩ (.slice (some ⟨wr.heap.size + 1, 0, none⟩) m m)).alloc (.cells #[.string (pAt ps k).1, .slice B2 (pAt ps k).2.length d2] 85)).alloc (.cells (madeCells #[.bool false] m) 4)) :=
        bbox (bbox (hb.setCell (p := ⟨hk0, k, none⟩) (by show w1.heap.size ≤ hk0; rw [HZ1.out]; exact Nat.le_refl _) _) _) _
      have hP5 : (((wr.setCell ⟨hk0, k, none⟩ (.slice (some ⟨wr.heap.size + 1, 0, none⟩) m m)).alloc (.cells #[.string (pAt ps k).1, .slice B2 (pAt ps k).2.length d2] 85)).alloc (.cells (madeCells #[.bool false] m) 4)).heap[wr.heap.size]? = some (.cells #[.string (pAt ps k).1, .slice B2 (pAt ps k).2.length d2] 85 (0, 0)) :=
        (Below.heap_alloc _ _ _ (by simp [World.setCell])).trans (heap_newM _ _ _ (by simp [World.setCell]))
      generalize ((wr.setCell ⟨hk0, k, none⟩ (.slice (some ⟨wr.heap.size + 1, 0, none⟩) m m)).alloc (.cells #[.string (pAt ps k).1, .slice B2 (pAt ps k).2.length d2] 85)).alloc (.cells (madeCells #[.bool false] m) 4) = w5 at *
      obtain ⟨_, p1⟩ := pe_cells hP5
      clear e5 hul2 hu hul hfz hb4 x0 x1 hb hsz hgl hgl2 hP5
      generalize wr.heap.size = pb at *
      clear wr
      go_wp2_with fail
      obtain ⟨gq, rfl⟩ : ∃ gq, gq = gk := ⟨_, rfl⟩
      go_loopg [44, 12] (pAt ps k).2.length (fun g ix _ wx => RgRel w1 m (.slice (some ⟨hk0, 0, none⟩) ps.length ps.length) ps k (fun i => if i = k then pb + 1 else gs i) g ix wx)
      case atStart => exact ⟨0, by omega, rfl, HM.out, b5⟩
      case round =>
        clear HM b5 p1
        obtain ⟨j, hk, rfl, hM, hb⟩ := hrel
        by_cases hg : gk = 0
        rotate_left
        · have hj : j < (pAt ps k).2.length := by omega
          have hjI : (j : Int) < ((pAt ps k).2.length : Int) := by omega
          have HJ := Lib.hid hk
          have hgk2 : gk ≠ 0 := hg
          obtain ⟨q0, q1⟩ := HHI.out j hj
          obtain ⟨zg, zo, rfl, zl, zc⟩ := (HL.out.below hb).int hj rfl
          have HS := Lib.hid (fun (p : Nat) (hp : (pAt ps k).2[j] = (p : Int)) => hasP_set ps k hj hp)
          generalize (pAt ps k).2[j] = z at *
          obtain ⟨p, rfl⟩ := Int.eq_ofNat_of_zero_le q0
          have hpm : p < m := by omega
          have hSp := HS.out p rfl
          have hkk : k < k + 1 := by omega
          obtain ⟨ob, eo, o1, o2, o3, o4, o5, a1, a2, a3⟩ := hM.at_ (i := k) (j := p) hkk hlt
          simp only [Option.some.injEq, Addr.mk.injEq] at eo
          obtain ⟨rfl, _, _⟩ := eo
          have a4 := a2 hpm
          unfold slc at a1
          simp only [if_pos] at a1 a3 a4 o3 o4 o5
          have HM2 := Lib.hid ((hM.set (i := k) (j := p) (b := true) hkk hlt).congr (f' := hasP ps k (j + 1)) (fun a _ _ q _ => hSp a q))
          simp only [if_pos] at HM2
          have HB2 := Lib.hid (hb.setCell (p := ⟨pb + 1, p, none⟩) o5 (.bool true))
          clear hSp HS hk hg hM hb a2
          go_wp2_with fail
          go_roundg (gk - 1)
          case measure => omega
          case rel => exact ⟨j + 1, by have := HJ.out; omega, by go_num, HM2.out, HB2.out⟩
        · obtain rfl : (pAt ps k).2.length = j := by omega
          have HM2 := Lib.hid (hM.congr (f' := hasM ps) (fun a ha _ q _ => hasP_all ps k ha q))
          clear hk hg hM
          go_wp2_with fail
          go_roundg (gq - 1)
          case measure => omega
          case rel => exact ⟨k + 1, _, by have := HK.out; omega, by go_num, HM2.out, hb⟩
    · obtain rfl : k = ps.length := by omega
      clear hk hg
      have HMH := Lib.hid hM
      have HBX3 := Lib.hid ((hb.block w.heap.size (by rw [HZ1.out, HHK.out]; omega)).trans HX3.out)
      have HBX4 := Lib.hid ((hb.block (w.heap.size + 1) (by rw [HZ1.out, HHK.out]; omega)).trans HX4.out)
      have HBW := Lib.hid (show Below w.heap.size w wr from HB1.out.trans (hb.mono HB1.out.size))
      clear hM
      go_upto_region 15 with fail
      have HS14 := Lib.hid (heap_alloc_new wr (.cells #[.func (.func 48) #[] #[]] 106))
      have bF := bfirst wr (.cells #[.func (.func 48) #[] #[]] 106)
      have HMF := Lib.hid (HMH.out.below bF)
      have HXB : Hid (Boxes (wr.alloc (.cells #[.func (.func 48) #[] #[]] 106)) w.heap.size (w.heap.size + 1) wr.heap.size (.slice A ps.length c) (.slice B ne.length d)) :=
        Lib.hid ⟨(bF.block _ (block_lt HBX3.out)).trans HBX3.out, (bF.block _ (block_lt HBX4.out)).trans HBX4.out, HS14.out⟩
      have HBF := Lib.hid (show Below w.heap.size w _ from HBW.out.trans (bF.mono HBW.out.size))
      generalize wr.alloc (.cells #[.func (.func 48) #[] #[]] 106) = w3 at *
      have hbx : w.heap.size + 1 + 1 ≤ wr.heap.size := by have := HMH.out; have := hb.size; have := HZ1.out; have := HHK.out; omega
      generalize wr.heap.size = b14 at *
      have HL3 := Lib.hid (show w.heap.size ≤ w3.heap.size from HBF.out.size)
      clear HS14 bF HMH HBX3 HBX4 HBW hb hsz HX3 HX4 HB1 HF1
      clear wr
      go_wp2_with fail
      go_loopg [15, 16, 17, 18, 19, 20, 21, 23, 24, 25, 64, 88] (ps.length * m) (fun g ov nov _ _ _ _ _ _ _ _ _ _ wr => RrRel w w1 w.heap.size (w.heap.size + 1) b14 ps.length m (.slice A ps.length c) (.slice B ne.length d) (.slice (some ⟨hk0, 0, none⟩) ps.length ps.length) (ps.map (·.1)) (nearM ps ne ne.length) (hasM ps) gs g ov nov wr)
      case atStart => exact ⟨1, hasM ps, [], rfl, Going.start _ _ _ _, World.ownsRow_nil _ _ _ _, HMF.out, HXB.out, HBF.out⟩
      case round =>
        clear HMF HXB HBF HL3
        obtain ⟨no, H, acc, rfl, hgo, hown, hM, hX, hb⟩ := hrel
        obtain ⟨x3, x4, x14⟩ := hX.cells
        have hnm : ps.length * m ≤ 720 := Nat.mul_le_mul hn hm
        have hno : no ≤ 721 := by have := hgo.no_; omega
        have hmk3 := run_make_row' (P := Tryd.prog) 97 4 (.bool false) 1 Tryd.underlying97 infoB rfl .i64 .i64 ps.length (by omega) (by omega)
        have HGO := Lib.hid hgo
        have HOWN := Lib.hid hown
        have HM := Lib.hid hM
        have HX := Lib.hid hX
        have HB := Lib.hid hb
        have hsz := hb.size
        clear hgo hown hM hX hb
        go_upto_region 18 with fail
        have BO := bfirst wr (.cells (madeCells #[.slice none 0 0] ps.length) 97)
        have HO0 := Lib.hid ((old_new wr ps.length m (by omega) H).below (bfirst _ (.cells #[.slice (some ⟨wr.heap.size, 0, none⟩) ps.length ps.length] 91)))
        have HQ17 := Lib.hid (heap_newM (wr.alloc (.cells (madeCells #[.slice none 0 0] ps.length) 97)) (.cells #[.slice (some ⟨wr.heap.size, 0, none⟩) ps.length ps.length] 91) (wr.heap.size + 1) (by simp))
        have BO2 := bon BO (bfirst _ (.cells #[.slice (some ⟨wr.heap.size, 0, none⟩) ps.length ps.length] 91))
        have HZW := Lib.hid (show ((wr.alloc (.cells (madeCells #[.slice none 0 0] ps.length) 97)).alloc (.cells #[.slice (some ⟨wr.heap.size, 0, none⟩) ps.length ps.length] 91)).heap.size = wr.heap.size + 1 + 1 by simp)
        generalize (wr.alloc (.cells (madeCells #[.slice none 0 0] ps.length) 97)).alloc (.cells #[.slice (some ⟨wr.heap.size, 0, none⟩) ps.length ps.length] 91) = w4 at *
        have HBO := Lib.hid BO2
        obtain ⟨og, hog⟩ : ∃ og, og = wr.heap.size := ⟨_, rfl⟩
        rw [← hog] at HO0 HQ17 HZW ⊢
        have HOG := Lib.hid hog
        obtain ⟨wR, rfl⟩ : ∃ wR : World, wR = wr := ⟨_, rfl⟩
        obtain ⟨gq, rfl⟩ : ∃ gq, gq = gk := ⟨_, rfl⟩
        have y3 := bold BO2 x3
        have HXR := HX
        have hkl : hk0 < og := by have := block_lt (own_tag HM.out.own (g := hk0) rfl).choose_spec; rw [HOG.out]; exact this
        have hne1 : og ≠ hk0 := by omega
        clear hog BO BO2 hmk1 x3 x4 x14
        go_wp2_with fail
        clear y3
        go_loopg [64, 18, 19] ps.length (fun g ix o _ wx => RoRel wR (og + 1) ps.length m (.slice (some ⟨og, 0, none⟩) ps.length ps.length) H g ix o wx)
        case atStart => exact ⟨0, _, _, by omega, rfl, World.ownsRow_nil _ _ _ _, by rw [← HOG.out]; exact HO0.out, fun i hi => absurd hi (Nat.not_lt_zero _), HQ17.out, HBO.out⟩
        case round =>
          clear HO0 HQ17 HBO
          obtain ⟨k, gO, cO, hk, rfl, ho, hO, hge, h17, hb⟩ := hrel
          have hbz := hb.size
          by_cases hg : gk = 0
          rotate_left
          · have hlt : k < ps.length := by omega
            have hltI : (k : Int) < (ps.length : Int) := by omega
            have HK := Lib.hid hk
            have hgk : gk ≠ 0 := hg
            have hMk := HM.out.below hb
            obtain ⟨_, eo, _, _, _, _, _, a1, _, _⟩ := hMk.at_ (i := k) (j := 0) hlt hlt
            simp only [Option.some.injEq, Addr.mk.injEq] at eo
            obtain ⟨rfl, _, _⟩ := eo
            unfold slc at a1
            have HROW := Lib.hid (hMk.row k hlt hlt)
            have c17 : wr.cell? ⟨og + 1, 0, none⟩ = some (.slice (some ⟨og, 0, none⟩) ps.length ps.length) := by simp [World.cell?, h17]
            have hcO : ∃ u, wr.cell? ⟨og, k, none⟩ = some u := by
              have hlen : k < (oslc ps.length k m gO cO).length := by simp [oslc]; exact hlt
              obtain ⟨g, e, hc⟩ := own_at1 hO.own (List.getElem?_eq_getElem hlen)
              simp only [Option.some.injEq, Addr.mk.injEq] at e
              obtain ⟨rfl, _, _⟩ := e
              exact ⟨_, hc⟩
            obtain ⟨u, hu⟩ := hcO
            have hogl := World.block_lt_of_cell? wr _ hu
            obtain ⟨curO, htO⟩ := own_tag hO.own (g := og) rfl
            have hfO : wr.frozen? ⟨og, k, none⟩ = false := by simp [World.frozen?, htO]
            have HTO := Lib.hid htO
            have HO := Lib.hid hO
            have HOW := Lib.hid ho
            have H17 := Lib.hid h17
            have HGE := Lib.hid hge
            have HBB := Lib.hid hb
            clear hk hg hMk ho hO h17 hge htO hb
            go_upto_region 22 with fail
            go_region_held3 (fun w' => w'.cell? ⟨og + 1, 0, none⟩ = some (.slice (some ⟨og, 0, none⟩) ps.length ps.length) ∧ w'.cell? ⟨hk0, k, none⟩ = some (.slice (some ⟨gs k, 0, none⟩) m m)) (go_keep) ((go_at_call 49; refine (cloneB_any (gs k) m (H k) _ hm1 hm (by exact HROW.out)).mono ?_; rintro e w6 ⟨g6, c6, rfl, hge6, hr6, hb6⟩; have c17' := bold hb6 (show (wr.drew).cell? _ = _ from c17); have a1' := bold hb6 (show (wr.drew).cell? _ = _ from a1); have hu' := bold hb6 (show (wr.drew).cell? _ = _ from hu); have hfO' := (hb6.frozen (p := ⟨og, k, none⟩) (by exact hogl)).trans (show (wr.drew).frozen? _ = false from hfO)))
            have hb6w : Below wr.heap.size wr w6 := bon (show Below wr.heap.size wr wr.drew from below_drewN (Below.refl _ wr) 1) hb6
            have HST := Lib.hid ((HO.out.below hb6w).more hlt hr6 (d := c6))
            have HB6 := Lib.hid (show Below wR.heap.size wR (w6.setCell ⟨og, k, none⟩ (.slice (some ⟨g6, 0, none⟩) m c6)) from (HBB.out.trans (hb6w.mono hbz)).setCell (p := ⟨og, k, none⟩) (by show wR.heap.size ≤ og; rw [HOG.out]; exact Nat.le_refl _) _)
            have hB6 := HB6.out
            have hz6 := hB6.size
            have hT6 := (hb6w.block og hogl).trans HTO.out
            have hoW := own_set (u := .slice (some ⟨g6, 0, none⟩) m c6) (j := k) (ownsRow_below HOW.out hb6w) hT6 (by decide)
            have HW := Lib.hid hoW
            have HG6 := Lib.hid (show wr.heap.size ≤ g6 from hge6)
            have H17b := Lib.hid (show (w6.setCell ⟨og, k, none⟩ (.slice (some ⟨g6, 0, none⟩) m c6)).heap[og + 1]? = _ from (Below.heap_setCell _ _ _ _ (by show og + 1 ≠ og; omega)).trans ((hb6w.block _ (block_lt H17.out)).trans H17.out))
            clear hT6 HTO hr6 hb6 hb6w hge6 c17 c17' a1 a1' hu hu' hfO hfO' hogl HROW HO HOW H17 HBB
            generalize w6.setCell ⟨og, k, none⟩ (.slice (some ⟨g6, 0, none⟩) m c6) = w7 at *
            go_wp2_with (at_builtin; refine wpList_push (W := wR) (lo := wR.heap.size) rfl _ _ 22 rfl 3 j0 _ 1 8 Tryd.underlying22 ji jz0 jz1 jz2 rfl (by decide) (by decide) _ _ _ rfl hB6 hz6 hoW [.int .i64 k] rfl rfl rfl rfl (by omega) ?_)
            intro v8 w8 ho8 hb8 _ hg8
            have hf8 : Fr (fun x => u18.ownBlock = some x) w7 w8 := Fr.of_gb hg8 (fun x hx => hx)
            have hS8 : ∀ x cur t z, w7.heap[x]? = some (.cells cur t z) → t ≠ 3 → ¬ u18.ownBlock = some x := fun x cur t z hx ht hS => by
              obtain ⟨_, c9, h2⟩ := own_ge HW.out hS; exact tag_ne hx h2 ht rfl
            have HO8 := Lib.hid (show w8.ownsRow wR.heap.size 3 1 v8 (k + 1) (natV (List.range (k + 1))) by rw [List.range_succ, natV, List.map_append]; exact ho8)
            have HP8 := Lib.hid (HST.out.fr hf8 (fun x cur z hx => hS8 x cur _ z hx (by decide)) (fun i hi hn' => by obtain ⟨cur, hc, _⟩ := HST.out.row i hi hn'; exact hS8 _ _ _ _ hc (by decide)))
            have H178 := Lib.hid (hf8.blk H17b.out (hS8 _ _ _ _ H17b.out (by decide)))
            clear ho8 hg8 hf8 hS8 hoW hB6
            go_wp2_with fail
            go_roundg (gk - 1)
            case measure => omega
            case rel => exact ⟨k + 1, _, _, by have := HK.out; omega, by go_num, HO8.out, HP8.out, fun i hi => by
              by_cases e : i = k
              · rw [if_pos e]; have := HG6.out; omega
              · rw [if_neg e]; exact HGE.out i (by omega), H178.out, hb8⟩
          · obtain rfl : k = ps.length := by omega
            clear hk hg
            have HS := Lib.hid (sortInt_own 51 #[.pointer (some ⟨b14, 0, none⟩), .pointer (some ⟨og + 1, 0, none⟩)] (cnF m H) (fun _ _ => rfl) u18 wR.heap.size ps.length wr hn ho (fun g hg W hW a b ha hb' => by
              have hf : Fr (fun x => x = g) wr W := Fr.of_gb hW (fun x hx => by injection hx with hx; exact hx.symm)
              obtain ⟨_, cg, hcg⟩ := own_ge ho hg
              have hX := HX.out.below hb
              have hO' : Old W wR.heap.size _ ps.length m H gO cO := hO.fr hf (fun x cur z hx => tag_ne hx hcg (by decide)) (fun i hi hn' => by obtain ⟨cur, hc, _⟩ := hO.row i hi hn'; exact tag_ne hc hcg (by decide))
              have e14 : W.cell? ⟨b14, 0, none⟩ = some (.func (.func 48) #[] #[]) := by simp [World.cell?, hf.blk hX.b14 (tag_ne hX.b14 hcg (by decide))]
              have e17 : W.cell? ⟨og + 1, 0, none⟩ = some (.slice (some ⟨og, 0, none⟩) ps.length ps.length) := by simp [World.cell?, hf.blk h17 (tag_ne h17 hcg (by decide))]
              exact cmp3_any b14 (og + 1) ps.length m ps.length wR.heap.size a b _ H gO cO W (by omega) hm hO' e14 e17 ha hb'))
            have HOW := Lib.hid ho
            obtain ⟨OA, oc, rfl⟩ : ∃ A c, u18 = .slice A ps.length c := by
              rcases ho.2 with ⟨rfl, h0⟩ | ⟨g, cap, cur, rfl, _⟩
              · exact ⟨none, 0, by rw [h0]⟩
              · exact ⟨_, cap, rfl⟩
            have H17 := Lib.hid h17
            have HO := Lib.hid hO
            have HGE := Lib.hid hge
            have HBB := Lib.hid hb
            clear ho h17 hO hge
            go_wp2_with fail
            refine HS.out.mono ?_
            rintro e w5 ⟨rfl, ho5, hg5⟩
            have hb5 : Below wR.heap.size wR w5 := hb.grown hg5 hbz (fun x hx => (HOW.out.lt x hx).1)
            have hf5 : Fr (fun x => (Value.slice OA ps.length oc).ownBlock = some x) wr w5 := Fr.of_gb hg5 (fun x hx => hx)
            have hS5 : ∀ x cur t z, wr.heap[x]? = some (.cells cur t z) → t ≠ 3 → ¬ (Value.slice OA ps.length oc).ownBlock = some x := fun x cur t z hx ht hS => by
              obtain ⟨_, c9, h2⟩ := own_ge HOW.out hS; exact tag_ne hx h2 ht rfl
            have HO5 := Lib.hid (HO.out.fr hf5 (fun x cur z hx => hS5 x cur _ z hx (by decide)) (fun i hi hn' => by obtain ⟨cur, hc, _⟩ := HO.out.row i hi hn'; exact hS5 _ _ _ _ hc (by decide)))
            have H175 := Lib.hid (hf5.blk H17.out (hS5 _ _ _ _ H17.out (by decide)))
            have HN5 := Lib.hid ho5
            have HX5 := Lib.hid (HX.out.below hb5)
            have HM5 := Lib.hid (HM.out.below hb5)
            have HOW5 := Lib.hid (ownsRow_below HOWN.out hb5)
            have x3 := HX5.out.cells.1
            have HGH := Lib.hid (fun (i : Nat) (hi : i < ps.length) => block_lt (HM.out.row i hi hi))
            have HB5 := Lib.hid (show Below w.heap.size w w5 from HB.out.trans (hb5.mono HB.out.size))
            have hz5 : wR.heap.size ≤ w5.heap.size := hb5.size
            clear hb5 hf5 hS5 ho5 hg5 HS HOW H17 HO HBB HX HM HOWN HB hb hbz
            go_wp2_with fail
            have b6 := bfirst w5 (.cells (madeCells #[.bool false] ps.length) 4)
            have HG6 := Lib.hid (show (w5.alloc (.cells (madeCells #[.bool false] ps.length) 4)).heap[w5.heap.size]? = some (.cells (rowC ps.length (fun _ => false)).toArray 4 (0, 0)) by rw [rowC_false]; exact heap_alloc_new w5 _)
            have HO6 := Lib.hid (HO5.out.below b6)
            have H176 := Lib.hid ((b6.block _ (block_lt H175.out)).trans H175.out)
            have HN6 := Lib.hid (ownsRow_below HN5.out b6)
            have HX6 := Lib.hid (HX5.out.below b6)
            have HM6 := Lib.hid (HM5.out.below b6)
            have HOW6 := Lib.hid (ownsRow_below HOW5.out b6)
            have HB6 := Lib.hid (show Below w.heap.size w _ from HB5.out.trans (b6.mono HB5.out.size))
            have HGO6 := Lib.hid (fun (i : Nat) (hi : i < ps.length) => (by obtain ⟨cur, hc, _⟩ := HO5.out.row i hi hi; exact block_lt hc : gO i < w5.heap.size))
            have hB0 : w.heap.size ≤ w5.heap.size := HB5.out.size
            generalize w5.alloc (.cells (madeCells #[.bool false] ps.length) 4) = w6 at *
            clear x3 HO5 H175 HN5 HX5 HM5 HOW5 HB5 hmk3 hmk2 b6
            generalize w5.heap.size = gg at *
            clear w5
            have HOL := Lib.hid (ordF_len ps.length (cnF m H))
            have HOT := Lib.hid (ordF_lt ps.length (cnF m H))
            generalize hord : ordF ps.length (cnF m H) = ord at *
            have HORD := Lib.hid hord
            clear hord
            obtain ⟨w4x, rfl⟩ : ∃ w4x : World, w4x = wr := ⟨_, rfl⟩
            go_loopg [88, 15, 21, 23, 24, 25] ps.length (fun g ix ov sv _ _ _ wx => RtRel w6 w.heap.size gg w1.heap.size ps.length m no (ps.map (·.1)) (nearM ps ne ne.length) H (.slice (some ⟨hk0, 0, none⟩) ps.length ps.length) gs acc ord g ix ov sv wx)
            case atStart => exact ⟨0, by omega, rfl, HG6.out, HM6.out, rfl, by simpa [rdTo, noted] using HOW6.out, Fr.refl _ _⟩
            case round =>
              clear HOW6
              obtain ⟨k, hk, rfl, hG, hM, rfl, hown, hF⟩ := hrel
              have hT : ∀ x cur t z, w6.heap[x]? = some (.cells cur t z) → t ≠ 61 → t ≠ 4 → ¬ Turn w.heap.size gg ps.length gs w6 x := by
                rintro x cur t z hx h1 h2 ⟨_, ⟨cc, zz, hc⟩ | rfl | ⟨i, hi, rfl⟩⟩
                · exact tag_ne hx hc h1 rfl
                · exact tag_ne hx HG6.out h2 rfl
                · exact tag_ne hx (HM6.out.row i hi hi) h2 rfl
              have HOx := Lib.hid (HO6.out.fr hF (fun x cur z hx => hT x cur _ z hx (by decide) (by decide)) (fun i hi _ => by
                obtain ⟨cur, hc, _⟩ := HO6.out.row i hi hi
                rintro ⟨_, ⟨cc, zz, hc'⟩ | e | ⟨j, hj, e⟩⟩
                · exact tag_ne hc hc' (by decide) rfl
                · have := HGO6.out i hi; omega
                · have := HGE.out i hi; have := HGH.out j hj; omega))
              have HXx : Hid (Boxes wr w.heap.size (w.heap.size + 1) b14 (.slice A ps.length c) (.slice B ne.length d)) := Lib.hid ⟨hF.blk HX6.out.b3 (hT _ _ _ _ HX6.out.b3 (by decide) (by decide)), hF.blk HX6.out.b4 (hT _ _ _ _ HX6.out.b4 (by decide) (by decide)), hF.blk HX6.out.b14 (hT _ _ _ _ HX6.out.b14 (by decide) (by decide))⟩
              have H17x := Lib.hid (hF.blk H176.out (hT _ _ _ _ H176.out (by decide) (by decide)))
              have HNx := Lib.hid (hF.own HN6.out (fun x cur z hx => hT x cur _ z hx (by decide) (by decide)))
              have hB6s : w.heap.size ≤ w6.heap.size := HB6.out.size
              have HBx := Lib.hid (hF.below HB6.out hB6s (fun x hx => hx.1))
              have hBxs : w.heap.size ≤ wr.heap.size := HBx.out.size
              clear hT
              by_cases hg : gk = 0
              · obtain rfl : k = ps.length := by omega
                clear hk hg
                have hL : ord.take ps.length = ord := List.take_of_length_le (by have := HOL.out; omega)
                rw [hL] at hG hM hown ⊢
                have HGS := Lib.hid (show gifts ps.length m (nearM ps ne ne.length) H = (rdTo ps.length m (nearM ps ne ne.length) H ord).2 by rw [gifts, HORD.out])
                generalize (rdTo ps.length m (nearM ps ne ne.length) H ord).2 = gl at *
                have HM7 := Lib.hid hM
                have HW7 := Lib.hid hown
                clear hL hG hM hown hF HORD HOL HOT
                rcases List.eq_nil_or_concat gl with rfl | ⟨gl', x, rfl⟩
                · obtain ⟨d1, d2⟩ := HGO.out.done HGS.out
                  have HD1 := Lib.hid d1
                  have HD2 := Lib.hid d2
                  have HC := Lib.hid (containsR_any 54 ps.length m ps.length w1.heap.size (some ⟨hk0, 0, none⟩) H gs wr (by omega) HM7.out (fun i hi => lacks_two (gs i) m (H i) wr (by omega) (HM7.out.row i hi hi)) (fun _ _ => rfl))
                  have HW8 := Lib.hid (show wr.ownsRow w.heap.size 61 4 u15 acc.length (acc.flatMap (giC (ps.map (·.1)))) by simpa [noted] using HW7.out)
                  clear d1 d2 HW7
                  go_wp2_with fail
                  refine HC.out.mono ?_
                  rintro e w9 ⟨rfl, rfl⟩
                  go_wp2_with fail
                  go_ret2
                  exact ⟨u15, by rw [← HD2.out]; simp, by rw [← HD1.out]; exact HW8.out, HBx.out⟩
                · obtain ⟨hg0, hgn⟩ := HGO.out.next (by rw [HGS.out]; simp)
                  rw [HGS.out] at hgn
                  have HGN := Lib.hid hgn
                  have hse : (!(gl'.concat x).isEmpty) = true := by simp
                  clear hgn
                  rw [hse]
                  go_wp2_with fail
                  go_roundg (gq - 1)
                  case measure => omega
                  case rel => exact ⟨no + 1, _, _, by go_num, HGN.out, HW7.out, HM7.out, HXx.out, HBx.out⟩
              · have hlt : k < ps.length := by omega
                have hltI : (k : Int) < (ps.length : Int) := by omega
                have hlo : k < ord.length := by have := HOL.out; omega
                have HSU := Lib.hid (rdTo_succ ps.length m (nearM ps ne ne.length) H ord hlo)
                have hrd := rdTo_ok ps.length m (nearM ps ne ne.length) H (ord.take k) (fun x hx => HOT.out x (List.mem_of_mem_take hx))
                have hlen : (rdTo ps.length m (nearM ps ne ne.length) H (ord.take k)).2.length ≤ 12 := by have := hrd.2; rw [List.length_take] at this; omega
                have hacc : acc.length ≤ 9000 := by
                  have h1 := HGO.out.len
                  have h2 : ps.length * (no - 1) ≤ 12 * 720 := Nat.mul_le_mul hn (by omega)
                  omega
                have hi : ord[k] < ps.length := HOT.out _ (List.getElem_mem hlo)
                obtain ⟨ng, rfl, hnc⟩ := own_at1 HNx.out (natV_at hlo)
                obtain ⟨x3, x4, x14⟩ := HXx.out.cells
                have c17 : wr.cell? ⟨og + 1, 0, none⟩ = some (.slice (some ⟨og, 0, none⟩) ps.length ps.length) := by simp [World.cell?, H17x.out]
                have HCH := Lib.hid (chooses_any ps.length m ord[k] gg ps.length wR.heap.size w.heap.size (w.heap.size + 1) (some ⟨og, 0, none⟩) (nearM ps ne ne.length) H gO cO (rdTo ps.length m (nearM ps ne ne.length) H (ord.take k)).1 wr (by omega) hm hi HOx.out hG (fun W hW q hq => by
                  have hwW : Below w.heap.size w W := HBx.out.trans (hW.mono hBxs)
                  obtain ⟨z3, z4, _⟩ := (HXx.out.below hW).cells
                  have := beside_any A B lo c d w.heap.size (w.heap.size + 1) ord[k] q ps ne W (HF.out.below hwW) (by omega) (HN.out.below hwW) hnn z3 z4 hi hq
                  rw [← beside_near ne HZ.out hi hq] at this
                  exact this))
                have HSP := Lib.hid (takeTo_spec ps.length (nearM ps ne ne.length) H (cnF m H) (raF ps.length H) (rdTo ps.length m (nearM ps ne ne.length) H (ord.take k)).1 ord[k] m)
                have HNG := Lib.hid (takeTo_neg ps.length (nearM ps ne ne.length) H (cnF m H) (raF ps.length H) (rdTo ps.length m (nearM ps ne ne.length) H (ord.take k)).1 ord[k] m)
                have HK := Lib.hid hk
                have hgk : gk ≠ 0 := hg
                have HG := Lib.hid hG
                have HMk := Lib.hid hM
                have HWk := Lib.hid hown
                have HFk := Lib.hid hF
                clear hk hg hrd hG hM hown hF x4
                rw [stepR] at HSU
                generalize ord[k] = i at *
                generalize rdTo ps.length m (nearM ps ne ne.length) H (ord.take k) = s at *
                generalize takeTo ps.length (nearM ps ne ne.length) H (cnF m H) (raF ps.length H) s.1 i m = T at *
                obtain ⟨gave, gl⟩ := s
                obtain ⟨T1, T2⟩ := T
                simp only at HSU HCH HSP HNG HG HMk HWk hlen
                rcases Int.lt_or_le T1 0 with e5 | e5
                · have HS := Lib.hid (show rdTo ps.length m (nearM ps ne ne.length) H (ord.take (k + 1)) = (gave, gl) by rw [HSU.out, if_neg (by omega)])
                  have e6 : T2 < 0 := HNG.out e5
                  clear HSU HSP HNG
                  go_wp2_with ((go_at_call 53; refine HCH.out.mono ?_; rintro e w7 ⟨rfl, hb7⟩))
                  go_roundg (gk - 1)
                  case measure => omega
                  case rel => exact ⟨k + 1, by have := HK.out; omega, by go_num, by rw [HS.out]; exact (hb7.block _ (block_lt HG.out)).trans HG.out, by rw [HS.out]; exact HMk.out.below hb7, by rw [HS.out], by rw [HS.out]; exact ownsRow_below HWk.out hb7, HFk.out.trans (Fr.of_below hb7 _)⟩
                · obtain ⟨_, hp1, hf0, hf1⟩ := HSP.out e5
                  obtain ⟨p, rfl⟩ := Int.eq_ofNat_of_zero_le e5
                  obtain ⟨fr, rfl⟩ := Int.eq_ofNat_of_zero_le hf0
                  rw [if_pos e5] at HSU
                  simp only [Int.toNat_natCast] at HSU
                  have hfn : fr < ps.length := by omega
                  have hpm : p < m := by omega
                  have hfnI : (fr : Int) < (ps.length : Int) := by omega
                  have hinI : (i : Int) < (ps.length : Int) := by omega
                  have hpI : (p : Int) < (m : Int) := by omega
                  have e7 : ¬ ((fr : Int) < 0) := by omega
                  clear HSP HNG
                  go_upto_region 33 with ((go_at_call 53; refine HCH.out.mono ?_; rintro e w7 ⟨rfl, hb7⟩))
                  have hG7 := (hb7.block _ (block_lt HG.out)).trans HG.out
                  have hM7 := HMk.out.below hb7
                  have hW7 := ownsRow_below HWk.out hb7
                  have hF7 := HFk.out.trans (Fr.of_below hb7 _)
                  have gc := row_cell hG7 hfn
                  have gz := row_fz (j := fr) hG7
                  have hggl := block_lt hG7
                  obtain ⟨ob, eo, o1, o2, o3, o4, o5, a1, a2, a3⟩ := hM7.at_ (i := i) (j := p) hi hi
                  simp only [Option.some.injEq, Addr.mk.injEq] at eo
                  obtain ⟨rfl, _, _⟩ := eo
                  have a4 := a2 hpm
                  unfold slc at a1
                  have hgi : gs i < wR.heap.size := HGH.out i hi
                  have hgg1 : gg ≠ gs i := by omega
                  have hgg2 : gs i ≠ gg := by omega
                  have hgg3 : gg ≠ hk0 := by have := HOG.out; omega
                  have hBi : w.heap.size ≤ gs i := by have := HZ1.out; have := HHK.out; omega
                  have hG8 : ((w7.setCell ⟨gg, fr, none⟩ (.bool true)).setCell ⟨gs i, p, none⟩ (.bool true)).heap[gg]? = some (.cells (rowC ps.length (setB gave fr)).toArray 4 (0, 0)) := (Below.heap_setCell _ _ _ _ hgg1).trans (row_set (j := fr) hG7)
                  have hMx : Mat (w7.setCell ⟨gg, fr, none⟩ (.bool true)) w1.heap.size (.slice (some ⟨hk0, 0, none⟩) ps.length ps.length) ps.length m (applyG H gl) gs :=
                    hM7.fr ((Fr.refl (fun x => x = gg) w7).set (p := ⟨gg, fr, none⟩) rfl (.bool true)) (fun x cur z hx => tag_ne hx hG7 (by decide)) (fun j hj _ => by have := HGH.out j hj; omega)
                  have hM8 := hMx.set (i := i) (j := p) (b := true) hi hi
                  have hW8 := own_set (j := p) (u := .bool true) (own_set (j := fr) (u := .bool true) hW7 hG7 (by decide)) (hMx.row i hi hi) (by decide)
                  have hF8 := (hF7.set (p := ⟨gg, fr, none⟩) ⟨hB0, .inr (.inl rfl)⟩ (.bool true)).set (p := ⟨gs i, p, none⟩) ⟨hBi, .inr (.inr ⟨i, hi, rfl⟩)⟩ (.bool true)
                  have hB8 := hF8.below HB6.out hB6s (fun x hx => hx.1)
                  have hX8 : ((w7.setCell ⟨gg, fr, none⟩ (.bool true)).setCell ⟨gs i, p, none⟩ (.bool true)).heap[w.heap.size]? = some (.cells #[.slice A ps.length c] 47 (0, 0)) := hF8.blk HX6.out.b3 (by
                    rintro ⟨_, ⟨cc, zz, hc⟩ | e | ⟨j, hj, e⟩⟩
                    · exact tag_ne HX6.out.b3 hc (by decide) rfl
                    · exact tag_ne HX6.out.b3 HG6.out (by decide) e
                    · exact tag_ne HX6.out.b3 (HM6.out.row j hj hj) (by decide) e)
                  have b38 : ((w7.setCell ⟨gg, fr, none⟩ (.bool true)).setCell ⟨gs i, p, none⟩ (.bool true)).cell? ⟨w.heap.size, 0, none⟩ = some (.slice A ps.length c) := by simp [World.cell?, hX8]
                  obtain ⟨pg, po, B2, m2, d2, rfl, hpl, y0, _⟩ := (HF.out.below hB8).at_ hfn
                  obtain ⟨pg2, po2, B3, m3, d3, ep, _, y1, _⟩ := (HF.out.below hB8).at_ hi
                  simp only [Option.some.injEq, Addr.mk.injEq] at ep
                  obtain ⟨rfl, rfl, _⟩ := ep
                  have HG8 := Lib.hid hG8
                  have HM8 := Lib.hid hM8
                  have HW8 := Lib.hid hW8
                  have HF8 := Lib.hid hF8
                  have hz8 : w.heap.size ≤ ((w7.setCell ⟨gg, fr, none⟩ (.bool true)).setCell ⟨gs i, p, none⟩ (.bool true)).heap.size := hB8.size
                  have HNT := Lib.hid (show (acc ++ noted no (gl ++ [(i, fr, p)])).flatMap (giC (ps.map (·.1))) = (acc ++ noted no gl).flatMap (giC (ps.map (·.1))) ++ [.int .i64 no, .string ps[fr].1, .string ps[i].1, .int .i64 p] by
                    simp [noted, giC, ksAt, List.getD, List.getElem?_eq_getElem hfn, List.getElem?_eq_getElem hi])
                  have HAG := Lib.hid (show applyG H (gl ++ [(i, fr, p)]) = upd (applyG H gl) i p true by simp [applyG])
                  have HLN := Lib.hid (show (acc ++ noted no (gl ++ [(i, fr, p)])).length = (acc ++ noted no gl).length + 1 by simp [noted]; omega)
                  have hln : (acc ++ noted no gl).length ≤ 10000 := by simp [noted]; omega
                  generalize ps[fr].1 = kf at *
                  generalize ps[i].1 = ki at *
                  go_upto_region 34 with fail
                  clear hb7 a2 HCH hG7 hM7 hW7 hF7 gc gz hggl a1 a3 a4 o1 o2 o3 o4 o5 hMx hM8 hW8 hF8 hB8 hX8 hG8 x3 x14 c17 hnc
                  generalize (w7.setCell ⟨gg, fr, none⟩ (.bool true)).setCell ⟨gs i, p, none⟩ (.bool true) = w8 at *
                  go_region_law ((refine step_push (w0 := w8.drew) (by rfl) _ _ _ (by rfl) w.heap.size 61 i0 _ 4 48 Tryd.underlying52 ii iz0 iz1 iz2 rfl (by omega) (by decide) u15 (acc ++ noted no gl).length _ (by rfl) HW8.out [.int .i64 no, .string kf, .string ki, .int .i64 p] (by rfl) (by rfl) (by rfl) (by omega) (by exact hz8) ?_; intro v9 w9 o9 hg9 hz9))
                  all_goals
                    have hg9' : w8.grownBy w9 u15.ownBlock := ⟨hg9.os, hg9.tape, hg9.output, hg9.size, hg9.block⟩
                    have hS9 : ∀ x cur t z, w8.heap[x]? = some (.cells cur t z) → t ≠ 61 → ¬ u15.ownBlock = some x := fun x cur t z hx ht hS => by
                      obtain ⟨_, c9, h2⟩ := own_ge HW8.out hS; exact tag_ne hx h2 ht rfl
                    have hf9 : Fr (fun x => u15.ownBlock = some x) w8 w9 := Fr.of_gb hg9' (fun x hx => hx)
                    have O9 := Lib.hid o9
                    have HG9 := Lib.hid (hf9.blk HG8.out (hS9 _ _ _ _ HG8.out (by decide)))
                    have HM9 := Lib.hid (HM8.out.fr hf9 (fun x cur z hx => hS9 x cur _ z hx (by decide)) (fun j hj _ => hS9 _ _ _ _ (HM8.out.row j hj hj) (by decide)))
                    have HF9 := Lib.hid (Turn.grow HF8.out HW8.out hg9')
                    clear o9 hg9 hg9' hf9 hS9
                    go_wp2_with fail
                    go_roundg (gk - 1)
                    case measure => omega
                    case rel => exact ⟨k + 1, by have := HK.out; omega, by go_num, by rw [HSU.out]; exact HG9.out, by rw [HSU.out]; simp only [HAG.out]; exact HM9.out, by rw [HSU.out]; simp, by rw [HSU.out]; simp only [HNT.out, HLN.out]; exact O9.out, HF9.out⟩
end Go.Proofs.YtegalkmfoffpfaaDoor
