/- sync.crowd.begin. -/
import Derived.Test.YtegalkmfoffpfaaDoorSpreadMath
namespace Go.Proofs.YtegalkmfoffpfaaDoor
open Go.RowKit
attribute [local go_sem ↓] Go.wp_at_zero Go.wp_at_succ
def rowI (m : Nat) (f : Nat → Int) : List Value := (List.range m).map fun j => Value.int .i64 (f j)
theorem rowI_len (m : Nat) (f : Nat → Int) : (rowI m f).length = m := by simp [rowI]
theorem rowI_at {m j : Nat} (f : Nat → Int) (h : j < m) : (rowI m f)[j]? = some (.int .i64 (f j)) := by simp [rowI, h]
theorem rowI_zero (m : Nat) : (rowI m (fun _ => 0)).toArray = madeCells #[Value.int .i64 0] m := by
  rw [madeCells_one]
  apply Array.ext
  · simp [rowI]
  · intro i h1 h2; simp [rowI]
theorem rowI_set {m j : Nat} (f : Nat → Int) (z : Int) : (rowI m f).set j (.int .i64 z) = rowI m (fun x => if x = j then z else f x) := by
  apply List.ext_getElem?
  intro t
  rw [List.getElem?_set]
  by_cases ht : t < m
  · by_cases e : j = t
    · subst e
      rw [if_pos rfl, if_pos (by rw [rowI_len]; exact ht), rowI_at _ ht, if_pos rfl]
    · rw [if_neg e, rowI_at _ ht, rowI_at _ ht, if_neg (fun h => e h.symm)]
  · by_cases e : j = t
    · subst e
      rw [if_pos rfl, if_neg (by rw [rowI_len]; exact ht), List.getElem?_eq_none (by rw [rowI_len]; omega)]
    · rw [if_neg e, List.getElem?_eq_none (by rw [rowI_len]; omega), List.getElem?_eq_none (by rw [rowI_len]; omega)]
theorem rowI_congr {m : Nat} {f f' : Nat → Int} (h : ∀ j, j < m → f j = f' j) : rowI m f = rowI m f' := List.map_congr_left fun j hj => by rw [h j (by simpa using hj)]
theorem rowI_cell {w : World} {g m j : Nat} {f : Nat → Int} {t : TypeId} (h : w.heap[g]? = some (.cells (rowI m f).toArray t (0, 0))) (hj : j < m) : w.cell? ⟨g, j, none⟩ = some (.int .i64 (f j)) ∧ w.frozen? ⟨g, j, none⟩ = false := by
  have e := rowI_at f hj
  simp [World.cell?, World.frozen?, h, e]
theorem rowI_store {w : World} {g m j : Nat} {f : Nat → Int} {t : TypeId} {z : Int} (h : w.heap[g]? = some (.cells (rowI m f).toArray t (0, 0))) : (w.setCell ⟨g, j, none⟩ (.int .i64 z)).heap[g]? = some (.cells (rowI m (fun x => if x = j then z else f x)).toArray t (0, 0)) := by
  rw [← rowI_set]
  simp [World.setCell, Array.getElem?_modify, h]
theorem infoI : (Tryd.prog.info? 3).map (fun i => (i.zero, i.size, i.bytes)) = some (some (.int .i64 0), 1, 8) := by kernel_rfl
/-- Block cb is a crowd with these five fields. -/
abbrev CrB (w : World) (cb : Nat) (kv nv hv cv rv : Value) : Prop := w.heap[cb]? = some (.cells #[kv, nv, hv, cv, rv] 96 (0, 0))
theorem crB_cells {w : World} {cb : Nat} {kv nv hv cv rv : Value} (h : CrB w cb kv nv hv cv rv) : w.cell? ⟨cb, 0, none⟩ = some kv ∧ w.cell? ⟨cb, 1, none⟩ = some nv ∧ w.cell? ⟨cb, 2, none⟩ = some hv ∧ w.cell? ⟨cb, 3, none⟩ = some cv ∧ w.cell? ⟨cb, 4, none⟩ = some rv ∧
    w.frozen? ⟨cb, 0, none⟩ = false ∧ w.frozen? ⟨cb, 2, none⟩ = false ∧ w.frozen? ⟨cb, 3, none⟩ = false ∧ w.frozen? ⟨cb, 4, none⟩ = false := by
  simp [World.cell?, World.frozen?, h]
theorem crB_set {w : World} {cb : Nat} {kv nv hv cv rv cv' rv' : Value} (h : CrB w cb kv nv hv cv rv) : CrB ((w.setCell ⟨cb, 3, none⟩ cv').setCell ⟨cb, 4, none⟩ rv') cb kv nv hv cv' rv' := by
  simp [CrB, World.setCell, Array.getElem?_modify, h]
/-- A block of another kind is turned: rows of bools stay. -/
theorem PMat.grown_tag {w w' : World} {base n k m cb : Nat} {v : Value} {f : Nat → Nat → Bool} {gs : Nat → Nat} {cur : Array Value} {t : TypeId} {z : Nat × Nat} (h : PMat w base v n k m f gs) (hc : w.heap[cb]? = some (.cells cur t z)) (h1 : t ≠ 4) (h2 : t ≠ 97)
    (hg : ∀ x, x < w.heap.size → x ≠ cb → w'.heap[x]? = w.heap[x]?) : PMat w' base v n k m f gs := by
  refine ⟨?_, fun i a b => ?_, h.ge, h.inj⟩
  · obtain ⟨hl, h3⟩ := h.own
    refine ⟨hl, ?_⟩
    rcases h3 with h3 | ⟨g, cap, cur', hv, hg', hh, r⟩
    · exact .inl h3
    · refine .inr ⟨g, cap, cur', hv, hg', (hg g (block_lt hh) ?_).trans hh, r⟩
      intro e
      subst e
      rw [hh] at hc
      injection hc with hc
      injection hc with _ ht
      exact h2 ht.symm
  · have hr := h.row i a b
    refine (hg _ (block_lt hr) ?_).trans hr
    intro e
    rw [e, hc] at hr
    injection hr with hr
    injection hr with _ ht
    exact h1 ht
/-- What is told while counting: the crowd's two rows of numbers are new. -/
structure BegRel (w : World) (cb n m : Nat) (kv nv hv : Value) (f g : Nat → Int) (cg rg : Nat) (wx : World) : Prop where
  cr : CrB wx cb kv nv hv (slc cg n) (slc rg m)
  ci : wx.heap[cg]? = some (.cells (rowI n f).toArray 3 (0, 0))
  ri : wx.heap[rg]? = some (.cells (rowI m g).toArray 3 (0, 0))
  ne : cg ≠ rg
  cl : w.heap.size ≤ cg
  rl : w.heap.size ≤ rg
  lt : cb < w.heap.size
  gb : w.grownBy wx (some cb)
section
variable {w wx : World} {cb n m cg rg : Nat} {kv nv hv : Value} {f g : Nat → Int}
theorem BegRel.drewN (h : BegRel w cb n m kv nv hv f g cg rg wx) (q : Nat) : BegRel w cb n m kv nv hv f g cg rg (wx.drewN q) := ⟨h.cr, h.ci, h.ri, h.ne, h.cl, h.rl, h.lt, gb_drewN h.gb q⟩
theorem BegRel.drew (h : BegRel w cb n m kv nv hv f g cg rg wx) : BegRel w cb n m kv nv hv f g cg rg wx.drew := h.drewN 1
theorem BegRel.congr (h : BegRel w cb n m kv nv hv f g cg rg wx) {f' g' : Nat → Int} (h1 : ∀ j, j < n → f j = f' j) (h2 : ∀ j, j < m → g j = g' j) : BegRel w cb n m kv nv hv f' g' cg rg wx :=
  ⟨h.cr, by rw [← rowI_congr h1]; exact h.ci, by rw [← rowI_congr h2]; exact h.ri, h.ne, h.cl, h.rl, h.lt, h.gb⟩
theorem gb_set {a x : World} {r : Option Nat} (h : a.grownBy x r) {p : Addr} (hp : a.heap.size ≤ p.block) (v : Value) : a.grownBy (x.setCell p v) r :=
  ⟨h.os, h.tape, h.output, by have := h.size; simp [World.setCell]; exact this, fun i hi hn => (Below.heap_setCell _ _ _ _ (by omega)).trans (h.block i hi hn)⟩
theorem BegRel.setC (h : BegRel w cb n m kv nv hv f g cg rg wx) (j : Nat) (z : Int) : BegRel w cb n m kv nv hv (fun x => if x = j then z else f x) g cg rg (wx.setCell ⟨cg, j, none⟩ (.int .i64 z)) :=
  ⟨(Below.heap_setCell _ _ _ _ (by have := h.lt; have := h.cl; show cb ≠ cg; omega)).trans h.cr, rowI_store h.ci, (Below.heap_setCell _ _ _ _ (fun e => h.ne e.symm)).trans h.ri, h.ne, h.cl, h.rl, h.lt, gb_set h.gb h.cl _⟩
theorem BegRel.setR (h : BegRel w cb n m kv nv hv f g cg rg wx) (j : Nat) (z : Int) : BegRel w cb n m kv nv hv f (fun x => if x = j then z else g x) cg rg (wx.setCell ⟨rg, j, none⟩ (.int .i64 z)) :=
  ⟨(Below.heap_setCell _ _ _ _ (by have := h.lt; have := h.rl; show cb ≠ rg; omega)).trans h.cr, (Below.heap_setCell _ _ _ _ h.ne).trans h.ci, rowI_store h.ri, h.ne, h.cl, h.rl, h.lt, gb_set h.gb h.rl _⟩
end
theorem gb_setIn {a x : World} {b : Nat} (h : a.grownBy x (some b)) (o : Nat) (v : Value) : a.grownBy (x.setCell ⟨b, o, none⟩ v) (some b) :=
  ⟨h.os, h.tape, h.output, by have := h.size; simp [World.setCell]; exact this, fun i hi hn => (Below.heap_setCell _ _ _ _ (fun e => hn (by rw [e]))).trans (h.block i hi hn)⟩
theorem beg_first {w : World} {cb n m : Nat} {kv nv hv cv rv : Value} (h : CrB w cb kv nv hv cv rv) : BegRel w cb n m kv nv hv (fun _ => 0) (fun _ => 0) w.heap.size (w.heap.size + 1)
    ((((w.setCell ⟨cb, 3, none⟩ (slc w.heap.size n)).setCell ⟨cb, 4, none⟩ (slc (w.heap.size + 1) m)).alloc (.cells (madeCells #[.int .i64 0] n) 3)).alloc (.cells (madeCells #[.int .i64 0] m) 3)) := by
  have hl := block_lt h
  have hs : ((w.setCell ⟨cb, 3, none⟩ (slc w.heap.size n)).setCell ⟨cb, 4, none⟩ (slc (w.heap.size + 1) m)).heap.size = w.heap.size := by simp [World.setCell]
  have hc := crB_set (cv' := slc w.heap.size n) (rv' := slc (w.heap.size + 1) m) h
  have hg : w.grownBy ((w.setCell ⟨cb, 3, none⟩ (slc w.heap.size n)).setCell ⟨cb, 4, none⟩ (slc (w.heap.size + 1) m)) (some cb) := gb_setIn (gb_setIn (gb_refl w _) _ _) _ _
  generalize (w.setCell ⟨cb, 3, none⟩ (slc w.heap.size n)).setCell ⟨cb, 4, none⟩ (slc (w.heap.size + 1) m) = W at *
  have s1 : (W.alloc (.cells (madeCells #[.int .i64 0] n) 3)).heap.size = w.heap.size + 1 := by simp [hs]
  refine ⟨?_, ?_, ?_, by omega, Nat.le_refl _, by omega, hl, gb_alloc (gb_alloc hg _) _⟩
  · exact (Below.heap_alloc _ _ _ (by omega)).trans ((Below.heap_alloc _ _ _ (by omega)).trans hc)
  · refine (Below.heap_alloc _ _ _ (by omega)).trans ?_
    rw [← hs, rowI_zero]
    exact heap_alloc_new W _
  · rw [rowI_zero, ← s1]
    exact heap_alloc_new _ _
theorem beg_second {w : World} {cb n m : Nat} {kv nv hv cv rv : Value} (h : CrB w cb kv nv hv cv rv) : BegRel w cb n m kv nv hv (fun _ => 0) (fun _ => 0) (w.heap.size + 1) w.heap.size
    ((((w.setCell ⟨cb, 3, none⟩ (slc (w.heap.size + 1) n)).setCell ⟨cb, 4, none⟩ (slc w.heap.size m)).alloc (.cells (madeCells #[.int .i64 0] m) 3)).alloc (.cells (madeCells #[.int .i64 0] n) 3)) := by
  have hl := block_lt h
  have hs : ((w.setCell ⟨cb, 3, none⟩ (slc (w.heap.size + 1) n)).setCell ⟨cb, 4, none⟩ (slc w.heap.size m)).heap.size = w.heap.size := by simp [World.setCell]
  have hc := crB_set (cv' := slc (w.heap.size + 1) n) (rv' := slc w.heap.size m) h
  have hg : w.grownBy ((w.setCell ⟨cb, 3, none⟩ (slc (w.heap.size + 1) n)).setCell ⟨cb, 4, none⟩ (slc w.heap.size m)) (some cb) := gb_setIn (gb_setIn (gb_refl w _) _ _) _ _
  generalize (w.setCell ⟨cb, 3, none⟩ (slc (w.heap.size + 1) n)).setCell ⟨cb, 4, none⟩ (slc w.heap.size m) = W at *
  have s1 : (W.alloc (.cells (madeCells #[.int .i64 0] m) 3)).heap.size = w.heap.size + 1 := by simp [hs]
  refine ⟨?_, ?_, ?_, by omega, by omega, Nat.le_refl _, hl, gb_alloc (gb_alloc hg _) _⟩
  · exact (Below.heap_alloc _ _ _ (by omega)).trans ((Below.heap_alloc _ _ _ (by omega)).trans hc)
  · rw [rowI_zero, ← s1]
    exact heap_alloc_new _ _
  · refine (Below.heap_alloc _ _ _ (by omega)).trans ?_
    rw [← hs, rowI_zero]
    exact heap_alloc_new W _
/-! ### the numbers while counting -/
def cAt (m : Nat) (H : Nat → Nat → Bool) (i p a : Nat) : Int := if a < i then cnF m H a else if a = i then cntTo (H i) p else 0
def rAt (H : Nat → Nat → Bool) (i p j : Nat) : Int := if j < p then cntTo (fun a => H a j) (i + 1) else cntTo (fun a => H a j) i
theorem cAt_start (m : Nat) (H : Nat → Nat → Bool) (a : Nat) : cAt m H 0 0 a = 0 := by
  unfold cAt
  rw [if_neg (by omega)]
  split <;> rfl
theorem rAt_start (H : Nat → Nat → Bool) (j : Nat) : rAt H 0 0 j = 0 := by
  unfold rAt
  rw [if_neg (by omega)]
  rfl
theorem cAt_next (m : Nat) (H : Nat → Nat → Bool) (i a : Nat) : cAt m H i m a = cAt m H (i + 1) 0 a := by
  unfold cAt
  by_cases h1 : a < i
  · rw [if_pos h1, if_pos (by omega)]
  · rw [if_neg h1]
    by_cases h2 : a = i
    · subst h2; rw [if_pos rfl, if_pos (by omega)]; rfl
    · rw [if_neg h2, if_neg (by omega)]
      split <;> rfl
theorem rAt_next (H : Nat → Nat → Bool) (i m j : Nat) (h : j < m) : rAt H i m j = rAt H (i + 1) 0 j := by
  unfold rAt
  rw [if_pos h, if_neg (by omega)]
theorem cAt_no (m : Nat) (H : Nat → Nat → Bool) (i p a : Nat) (h : H i p = false) : cAt m H i p a = cAt m H i (p + 1) a := by
  unfold cAt
  rw [cntTo, h]
  simp
theorem rAt_no (H : Nat → Nat → Bool) (i p j : Nat) (h : H i p = false) : rAt H i p j = rAt H i (p + 1) j := by
  unfold rAt
  by_cases h1 : j < p
  · rw [if_pos h1, if_pos (by omega)]
  · rw [if_neg h1]
    by_cases h2 : j = p
    · subst h2; rw [if_pos (by omega), cntTo, h]; simp
    · rw [if_neg (by omega)]
theorem cAt_yes (m : Nat) (H : Nat → Nat → Bool) (i p a : Nat) (h : H i p = true) : (if a = i then cAt m H i p i + 1 else cAt m H i p a) = cAt m H i (p + 1) a := by
  unfold cAt
  by_cases h2 : a = i
  · subst h2; rw [if_pos rfl, if_neg (by omega), if_pos rfl, if_neg (by omega), if_pos rfl, cntTo, h]; simp
  · rw [if_neg h2, if_neg h2, if_neg h2]
theorem rAt_yes (H : Nat → Nat → Bool) (i p j : Nat) (h : H i p = true) : (if j = p then rAt H i p p + 1 else rAt H i p j) = rAt H i (p + 1) j := by
  unfold rAt
  by_cases h2 : j = p
  · subst h2; rw [if_pos rfl, if_neg (by omega), if_pos (by omega), cntTo, h]; simp
  · rw [if_neg h2]
    by_cases h1 : j < p
    · rw [if_pos h1, if_pos (by omega)]
    · rw [if_neg h1, if_neg (by omega)]
theorem cAt_range (m : Nat) (H : Nat → Nat → Bool) (i p a : Nat) : 0 ≤ cAt m H i p a ∧ cAt m H i p a ≤ m + p := by
  unfold cAt
  have h1 := cntTo_range (H a) m
  have h2 := cntTo_range (H i) p
  split
  · unfold cnF; omega
  · split <;> omega
theorem rAt_range (H : Nat → Nat → Bool) (i p j : Nat) : 0 ≤ rAt H i p j ∧ rAt H i p j ≤ i + 1 := by
  unfold rAt
  have h1 := cntTo_range (fun a => H a j) (i + 1)
  have h2 := cntTo_range (fun a => H a j) i
  split <;> omega
def BgRel (w : World) (cb n m : Nat) (kv nv hv : Value) (H : Nat → Nat → Bool) (cg rg : Nat) (g : Nat) (ix : Value) (wr : World) : Prop :=
  ∃ i : Nat, i + g = n ∧ ix = .int .i64 i ∧ BegRel w cb n m kv nv hv (cAt m H i 0) (rAt H i 0) cg rg wr
def BhRel (w : World) (cb n m : Nat) (kv nv hv : Value) (H : Nat → Nat → Bool) (cg rg : Nat) (i : Nat) (g : Nat) (ix : Value) (wr : World) : Prop :=
  ∃ p : Nat, p + g = m ∧ ix = .int .i64 p ∧ BegRel w cb n m kv nv hv (cAt m H i p) (rAt H i p) cg rg wr
set_option maxRecDepth 100000 in
set_option maxHeartbeats 4000000 in
theorem begin_any (cb n m kc hc base : Nat) (KA HA : Option Addr) (nv cv rv : Value) (H : Nat → Nat → Bool) (gH : Nat → Nat) (w : World) (hn : n ≤ 50) (hm : m ≤ 60)
    (hc0 : CrB w cb (.slice KA n kc) nv (.slice HA n hc) cv rv) (hH : Mat w base (.slice HA n hc) n m H gH) :
    Calls Tryd.prog 65 #[.pointer (some ⟨cb, 0, none⟩), .int .i64 m] w fun e w' => e = .returned (.tuple #[]) ∧ ∃ cg rg, BegRel w cb n m (.slice KA n kc) nv (.slice HA n hc) (cnF m H) (raF n H) cg rg w' := by
  have hcl : cb < w.heap.size := block_lt hc0
  have hne1 : cb ≠ w.heap.size := by omega
  obtain ⟨k0, k1, k2, k3, k4, z0, z2, z3, z4⟩ := crB_cells hc0
  have HC := Lib.hid hc0
  have HH := Lib.hid (fun (w' : World) (hg : w.grownBy w' (some cb)) => hH.grown_tag (w' := w') hc0 (by decide) (by decide) (fun x h1 h2 => hg.block x h1 (fun e => h2 (by injection e))))
  have hmk1 := run_make_row' (P := Tryd.prog) 22 3 (.int .i64 0) 8 Tryd.underlying22 infoI rfl .i64 .i64 n (by omega) (by omega)
  have hmk2 := run_make_row' (P := Tryd.prog) 22 3 (.int .i64 0) 8 Tryd.underlying22 infoI rfl .i64 .i64 m (by omega) (by omega)
  clear hc0 hH
  go_enter Tryd.func65, Tryd.ntmps65
  go_wp2_with fail
  go_cut [8] (fun s wx => ∃ cg rg, BegRel w cb n m (.slice KA n kc) nv (.slice HA n hc) (cAt m H 0 0) (rAt H 0 0) cg rg wx)
  case first =>
    go_region
    · go_wp2_with fail
      go_meet
      exact ⟨_, _, (beg_first HC.out).drew.congr (fun j _ => (cAt_start m H j).symm) (fun j _ => (rAt_start H j).symm)⟩
    · go_wp2_with fail
      go_meet
      exact ⟨_, _, (beg_second HC.out).drew.congr (fun j _ => (cAt_start m H j).symm) (fun j _ => (rAt_start H j).symm)⟩
  case rest =>
    obtain ⟨cg, rg, hB⟩ := hcut
    clear k0 k1 k2 k3 k4 z0 z2 z3 z4 hmk1 hmk2 HC hne1
    obtain ⟨j0, j1, j2, _⟩ := crB_cells hB.cr
    go_wp2_with fail
    have HB := Lib.hid hB
    clear hB j0 j1 j2
    go_loopg [27, 4, 5, 6, 7, 34] n (fun g ix _ _ _ _ _ wr => BgRel w cb n m (.slice KA n kc) nv (.slice HA n hc) H cg rg g ix wr)
    case atStart => exact ⟨0, by omega, rfl, HB.out⟩
    case round =>
      obtain ⟨i, hi, rfl, hB⟩ := hrel
      by_cases hg : gk = 0
      · obtain rfl : i = n := by omega
        have HF := Lib.hid (hB.congr (f' := cnF m H) (g' := raF i H) (fun j hj => by unfold cAt; rw [if_pos hj]) (fun j _ => by unfold rAt; rw [if_neg (by omega)]; rfl))
        clear hi hg hB
        go_wp2_with fail
        go_end0
        exact ⟨rfl, cg, rg, HF.out⟩
      · have hlt : i < n := by omega
        have hltI : (i : Int) < (n : Int) := by omega
        obtain ⟨ob, rfl, _, _, _, _, _, a1, _, _⟩ := (HH.out _ hB.gb).at_ (i := i) (j := 0) hlt hlt
        unfold slc at a1
        have HI := Lib.hid hi
        have hgk : gk ≠ 0 := hg
        have HBB := Lib.hid hB
        clear hi hg hB
        go_wp2_with fail
        obtain ⟨wo, rfl⟩ : ∃ wo : World, wo = wr := ⟨_, rfl⟩
        clear a1 HB
        obtain ⟨gq, rfl⟩ : ∃ gq, gq = gk := ⟨_, rfl⟩
        go_loopg [34, 6, 7] m (fun g ix _ _ wx => BhRel w cb n m (.slice KA n kc) nv (.slice (some ⟨ob, 0, none⟩) n hc) H cg rg i g ix wx)
        case atStart => exact ⟨0, by omega, rfl, HBB.out⟩
        case round =>
          obtain ⟨p, hp, rfl, hB⟩ := hrel
          clear HBB
          by_cases hg1 : gk = 0
          · obtain rfl : p = m := by omega
            have HF := Lib.hid (hB.congr (fun j _ => cAt_next p H i j) (fun j hj => rAt_next H i p j hj))
            clear hp hg1 hB
            go_wp2_with fail
            go_roundg (gq - 1)
            case measure => omega
            case rel => exact ⟨i + 1, by have := HI.out; omega, by go_num, HF.out⟩
          · have hpl : p < m := by omega
            have hplI : (p : Int) < (m : Int) := by omega
            obtain ⟨ob2, eo, _, _, _, _, _, _, a2, _⟩ := (HH.out _ hB.gb).at_ (i := i) (j := p) hlt hlt
            have a3 := a2 hpl
            obtain ⟨_, _, _, j3, j4, _⟩ := crB_cells hB.cr
            unfold slc at j3 j4
            obtain ⟨c1, c2⟩ := rowI_cell hB.ci hlt
            obtain ⟨r1, r2⟩ := rowI_cell hB.ri hpl
            have hne := hB.ne
            have hcr := hB.lt
            have hcc := hB.cl
            have hrr := hB.rl
            have hrc1 := cAt_range m H i p i
            have hrc2 := rAt_range H i p p
            have hcbr : cb ≠ cg := by omega
            have hsz := hB.gb.size
            have HP := Lib.hid hp
            have hgk1 : gk ≠ 0 := hg1
            clear hp hg1 a2 eo
            rcases Bool.eq_false_or_eq_true (H i p) with e1 | e1
            · have HF := Lib.hid (((hB.setC i (cAt m H i p i + 1)).setR p (rAt H i p p + 1)).congr (fun j _ => cAt_yes m H i p j e1) (fun j _ => rAt_yes H i p j e1))
              rw [e1] at a3
              clear e1 hB
              generalize cAt m H i p i = c at *
              generalize rAt H i p p = r at *
              go_wp2_with fail
              go_roundg (gk - 1)
              case measure => omega
              case rel => exact ⟨p + 1, by have := HP.out; omega, by go_num, HF.out⟩
            · have HF := Lib.hid (hB.congr (fun j _ => cAt_no m H i p j e1) (fun j _ => rAt_no H i p j e1))
              rw [e1] at a3
              clear e1 hB
              go_wp2_with fail
              go_roundg (gk - 1)
              case measure => omega
              case rel => exact ⟨p + 1, by have := HP.out; omega, by go_num, HF.out⟩
end Go.Proofs.YtegalkmfoffpfaaDoor
