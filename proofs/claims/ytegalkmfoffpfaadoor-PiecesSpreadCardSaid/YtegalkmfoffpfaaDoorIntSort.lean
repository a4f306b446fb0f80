/- slices.SortStableFunc at a few numbers of a row of the call's own. -/
import Derived.Test.YtegalkmfoffpfaaDoorBegin
import Derived.Test.YtegalkmfoffpfaaDoorSortLays
import Derived.Shelf.SlSortCmp.Insertion1
namespace Go.Proofs.YtegalkmfoffpfaaDoor
open Go.RowKit Go.Sort Go.Proofs
def natV (l : List Nat) : List Value := l.map fun i => Value.int .i64 (i : Nat)
theorem natV_at {l : List Nat} {j : Nat} (h : j < l.length) : (natV l)[j]? = some (.int .i64 (l[j] : Nat)) := by simp [natV, h]
def encF (k : Nat) (x : Fin (k + 1)) : Value := .int .i64 (x.val : Nat)
theorem encF_map (k : Nat) (d : Array (Fin (k + 1))) : d.toList.map (encF k) = natV (d.toList.map Fin.val) := by simp [natV, encF]
section
variable {α : Type} [Inhabited α] {enc : α → Value}
theorem own_holds1 {w : World} {base e n cap g : Nat} {d : Array α} (h : w.ownsRow base e 1 (.slice (some ⟨g, 0, none⟩) n cap) n (d.toList.map enc)) (hd : d.size = n) : Holds enc w g 0 d := by
  rcases h.2 with ⟨h0, _⟩ | ⟨g', cap', cur, hv, _, hh, _, _, _, hx⟩
  · cases h0
  · simp only [Value.slice.injEq, Option.some.injEq, Addr.mk.injEq] at hv
    obtain ⟨⟨rfl, _, _⟩, _, rfl⟩ := hv
    intro t ht
    have e : (d.toList.map enc)[t]? = some (enc d[t]!) := by
      rw [List.getElem?_map, Array.getElem?_toList, Array.getElem?_eq_getElem ht, getElem!_pos d t ht]
      rfl
    rw [← hx, List.getElem?_take_of_lt (by omega)] at e
    simp only [Array.getElem?_toList] at e
    simp [World.cell?, World.frozen?, hh, e]
theorem sort1_own {w : World} {base e n cap g m : Nat} {d d' : Array α} {os : Array Obj} (h : w.ownsRow base e 1 (.slice (some ⟨g, 0, none⟩) n cap) n (d.toList.map enc)) (hd' : d'.size = n) :
    (sortWorld enc w g 0 m d' os).ownsRow base e 1 (.slice (some ⟨g, 0, none⟩) n cap) n (d'.toList.map enc) ∧ w.grownBy (sortWorld enc w g 0 m d' os) (some g) := by
  rcases h.2 with ⟨h0, _⟩ | ⟨g', cap', cur, hv, hg, hh, hnc, hcm, hsz, hx⟩
  · cases h0
  · simp only [Value.slice.injEq, Option.some.injEq, Addr.mk.injEq] at hv
    obtain ⟨⟨rfl, _, _⟩, _, rfl⟩ := hv
    have hlt := block_lt hh
    have hgh : (sortWorld enc w g 0 m d' os).heap[g]? = some (.cells (putCells enc 0 d' cur) e (0, 0)) := by
      unfold sortWorld grow putRow mapBlock
      simp only [Array.getElem?_append, Array.size_modify, heap_ahead]
      rw [if_pos hlt, Array.getElem?_modify, if_pos rfl, hh]
      rfl
    refine ⟨⟨by simp [hd'], .inr ⟨g, cap, _, rfl, hg, hgh, hnc, hcm, by simp [putCells, hsz], ?_⟩⟩, rfl, rfl, rfl, ?_, ?_⟩
    · apply List.ext_getElem?
      intro t
      by_cases ht : t < n * 1
      · have hs : t < d'.size := by omega
        rw [List.getElem?_take_of_lt ht, Array.getElem?_toList, List.getElem?_map, Array.getElem?_toList, putCells, Array.getElem?_mapIdx, Array.getElem?_eq_getElem (show t < cur.size by omega), Array.getElem?_eq_getElem hs]
        simp only [Option.map_some]
        rw [if_pos ⟨Nat.zero_le _, by omega⟩, Nat.sub_zero, getElem!_pos d' t hs]
      · rw [List.getElem?_eq_none (by rw [List.length_take]; exact Nat.le_trans (Nat.min_le_left _ _) (by omega)), List.getElem?_eq_none (by simp; omega)]
    · unfold sortWorld
      rw [size_grow]
      simp [putRow, mapBlock]
    · intro j hj hne
      unfold sortWorld grow putRow mapBlock
      simp only [Array.getElem?_append, Array.size_modify, heap_ahead]
      rw [if_pos hj, Array.getElem?_modify, if_neg (fun e => hne (by rw [e]))]
end
set_option maxRecDepth 100000 in
set_option maxHeartbeats 1000000 in
theorem insInt_none (A : Option Addr) (c : Nat) (f : Value) (w : World) : Calls Tryd.prog 93 #[.slice A 0 c, .int .i64 0, .int .i64 0, f] w fun e w' => e = .returned (.tuple #[]) ∧ w = w' := by
  go_enter Tryd.func93, Tryd.ntmps93
  go_wp2_with fail
  refine wp_loop_rounds 1 ?_
  rw [rounds_succ]
  go_wp2_with fail
  go_end0
  exact ⟨rfl, rfl⟩
set_option maxRecDepth 100000 in
set_option maxHeartbeats 1000000 in
theorem stableInt_none (A : Option Addr) (c : Nat) (f : Value) (w : World) : Calls Tryd.prog 73 #[.slice A 0 c, .int .i64 0, f] w fun e w' => e = .returned (.tuple #[]) ∧ w = w' := by
  go_enter Tryd.func73, Tryd.ntmps73
  go_wp2_with fail
  refine wp_loop_rounds 1 ?_
  rw [rounds_succ]
  go_wp2_with fail
  refine (insInt_none A c f _).mono ?_
  rintro e w1 ⟨rfl, rfl⟩
  go_wp2_with fail
  refine wp_loop_rounds 1 ?_
  rw [rounds_succ]
  go_wp2_with fail
  go_end0
  exact ⟨rfl, rfl⟩
/-- What is asked of the comparing function, in every world that differs in block g alone. -/
def CmpAt (P : Program) (f : Nat) (cb : Array Value) (cn : Nat → Int) (n g : Nat) (w : World) : Prop :=
  ∀ W : World, w.grownBy W (some g) → ∀ a b : Nat, a < n → b < n → Calls P f (#[.int .i64 a, .int .i64 b] ++ cb) W fun e w' => e = .returned (.int .i64 (Lib.compareInt (cn a) (cn b))) ∧ ∃ q, w' = W.drewN q
theorem natV_finA (k : Nat) : (finA k).toList.map (encF k) = natV (List.range (k + 1)) := by
  rw [encF_map]
  congr 1
  apply List.ext_getElem
  · simp [finA]
  · intro i h1 h2
    simp [finA]
set_option maxRecDepth 100000 in
set_option maxHeartbeats 1000000 in
theorem stableInt_own (f : Nat) (lb : Array Value) (cn : Nat → Int) (eg : ∀ args w, (callFunc f args).run Tryd.prog w = .ok (.enter f args) w) (v : Value) (base n : Nat) (w : World) (h12 : n ≤ 12)
    (h : w.ownsRow base 3 1 v n (natV (List.range n))) (hc : ∀ g, v.ownBlock = some g → CmpAt Tryd.prog f lb cn n g w) :
    Calls Tryd.prog 73 #[v, .int .i64 n, .func (.func f) #[] lb] w fun e w' => e = .returned (.tuple #[]) ∧ w'.ownsRow base 3 1 v n (natV (ordF n cn)) ∧ w.grownBy w' v.ownBlock := by
  rcases own_nil_or h with ⟨rfl, hn0, hxs⟩ | ⟨g, c, rfl⟩
  · subst hn0
    refine (stableInt_none none 0 _ w).mono ?_
    rintro e w1 ⟨rfl, rfl⟩
    exact ⟨rfl, h, gb_refl _ _⟩
  · cases n with
    | zero =>
      refine (stableInt_none _ c _ w).mono ?_
      rintro e w1 ⟨rfl, rfl⟩
      exact ⟨rfl, h, gb_refl _ _⟩
    | succ k =>
      have hblk : g < w.heap.size := (h.lt g rfl).2
      rw [← natV_finA] at h
      have hH := own_holds1 h (finA_size k)
      have hcl : CmpLays1 Tryd.prog f lb (encF k) (fun a b : Fin (k + 1) => Lib.compareInt (cn a.val) (cn b.val)) g 0 (finA k).size w := CmpReads.lays fun m os dk hs x y => by
        have hgb := (sort1_own (m := m) (os := os) (d' := dk) h (by rw [hs, finA_size])).2
        exact hc g rfl _ hgb x.val y.val x.isLt y.isLt
      have := Any.insertionSortCmpFunc_s Tryd.insInt (encF k) (fun a b : Fin (k + 1) => Lib.compareInt (cn a.val) (cn b.val)) f lb g 0 c 0 (k + 1) (finA k) (finA k) w w eg hcl ⟨fun _ => rfl, hH, hblk⟩ rfl (SW.start hH) (by omega) (by rw [finA_size]; omega) (by rw [finA_size]; omega)
      rw [finA_size] at this
      change Calls Tryd.prog 93 _ _ _ at this
      have HI := Lib.hid (show Calls Tryd.prog 93 #[.slice (some ⟨g, 0, none⟩) (k + 1) c, .int .i64 0, .int .i64 ((k + 1 : Nat) : Int), .func (.func f) #[] lb] w fun e w' => e = .returned (.tuple #[]) ∧ w'.ownsRow base 3 1 (.slice (some ⟨g, 0, none⟩) (k + 1) c) (k + 1) (natV (ordF (k + 1) cn)) ∧ w.grownBy w' (some g) by
        refine this.mono ?_
        rintro e w1 ⟨rfl, m, os, rfl⟩
        have := sort1_own (m := m) (os := os) (d' := ordFin k cn) h (ordFin_size k cn)
        rw [encF_map] at this
        exact ⟨rfl, this.1, this.2⟩)
      clear this hcl h hc eg hH
      have h20 : ¬ (20 : Int) ≤ ((k + 1 : Nat) : Int) := by omega
      have h20' : ¬ (20 : Int) < ((k + 1 : Nat) : Int) := by omega
      generalize k + 1 = n at *
      go_enter Tryd.func73, Tryd.ntmps73
      go_wp2_with fail
      refine wp_loop_rounds 1 ?_
      rw [rounds_succ]
      go_wp2_with fail
      refine HI.out.mono ?_
      rintro e w1 ⟨rfl, ho, hg⟩
      go_wp2_with fail
      refine wp_loop_rounds 1 ?_
      rw [rounds_succ]
      go_wp2_with fail
      go_end0
      exact ⟨rfl, ho, hg⟩
set_option maxRecDepth 100000 in
set_option maxHeartbeats 1000000 in
theorem sortInt_own (f : Nat) (lb : Array Value) (cn : Nat → Int) (eg : ∀ args w, (callFunc f args).run Tryd.prog w = .ok (.enter f args) w) (v : Value) (base n : Nat) (w : World) (h12 : n ≤ 12)
    (h : w.ownsRow base 3 1 v n (natV (List.range n))) (hc : ∀ g, v.ownBlock = some g → CmpAt Tryd.prog f lb cn n g w) :
    Calls Tryd.prog 50 #[v, .func (.func f) #[] lb] w fun e w' => e = .returned (.tuple #[]) ∧ w'.ownsRow base 3 1 v n (natV (ordF n cn)) ∧ w.grownBy w' v.ownBlock := by
  have HI := Lib.hid (stableInt_own f lb cn eg v base n w h12 h hc)
  obtain ⟨A, c, rfl⟩ : ∃ A c, v = .slice A n c := by
    rcases h.2 with ⟨rfl, rfl⟩ | ⟨g, cap, cur, rfl, _⟩
    · exact ⟨none, 0, rfl⟩
    · exact ⟨_, cap, rfl⟩
  clear eg hc h
  go_enter Tryd.func50, Tryd.ntmps50
  go_wp2_with fail
  refine HI.out.mono ?_
  rintro e w1 ⟨rfl, ho, hg⟩
  go_wp2_with fail
  go_end0
  exact ⟨rfl, ho, hg⟩
end Go.Proofs.YtegalkmfoffpfaaDoor
