/- Words of memory that all walks of this seat share: facts kept out of the walk's sight, a slice that reads as a list, the stream. Plain lemmas; no statement of the seat. -/
import Derived.WalkKit
import Derived.WalkSpells
import Derived.WalkLawsBesides
import Derived.Deep.QuietTactic
import Derived.BigQuiet
import Derived.Lib.Hide
import Derived.Test.YtgnknjlgcinboaaGreatDoorProg
import Derived.Test.YtgnknjlgcinboaaGreatDoorShelf
import Derived.Shelf.Strings.Builder1
import Derived.Deep.LoopGhost
import Derived.Shelf.GgClosure.Gives
import Derived.Deep.DeepCutAuto
import Derived.Shelf.Strings.SlTrimAscii
import Derived.Sort.Walk0
import Derived.Shelf.GgSortFunc.InsertionK
import Derived.Deep.OwnRows
import Derived.Deep.RegionHeld3
import Derived.Deep.DrawnRows
import Derived.Sort.Defs
import Derived.Shelf.SlSortCmp.Insertion
import Derived.Test.YtgnknjlgcinboaaGreatDoorSortLaysI
import Derived.Shelf.SlSortCmp.Insertion1
import Derived.Deep.AppendLies
import Derived.OrdersHeld
import Derived.RegionTactic
namespace Go.Proofs.YtgnknjlgcinboaaGreatDoor
open Go.RowKit
set_option linter.unusedVariables false
set_option linter.unusedSimpArgs false
theorem gb_refl (w : World) (r : Option Nat) : w.grownBy w r := ⟨rfl, rfl, rfl, Nat.le_refl _, fun _ _ _ => rfl⟩
theorem gb_trans {a b c : World} {r : Option Nat} (h : a.grownBy b r) (k : b.grownBy c r) : a.grownBy c r :=
  ⟨k.os.trans h.os, k.tape.trans h.tape, k.output.trans h.output, Nat.le_trans h.size k.size, fun i hi hn => (k.block i (Nat.lt_of_lt_of_le hi h.size) hn).trans (h.block i hi hn)⟩
theorem gb_drewN {a w : World} {r : Option Nat} (h : a.grownBy w r) (n : Nat) : a.grownBy (w.drewN n) r := ⟨h.os, h.tape, h.output, h.size, h.block⟩
theorem gb_alloc {a w : World} {r : Option Nat} (h : a.grownBy w r) (o : Obj) : a.grownBy (w.alloc o) r :=
  ⟨h.os, h.tape, h.output, Nat.le_trans h.size (by simp), fun i hi hne => (Below.heap_alloc w o i (Nat.lt_of_lt_of_le hi h.size)).trans (h.block i hi hne)⟩
theorem gb_below {a w : World} (h : Below a.heap.size a w) (r : Option Nat) : a.grownBy w r := ⟨h.os, h.tape, h.output, h.size, fun i hi _ => h.block i hi⟩
theorem below_gb {W a w : World} {b : Nat} (h : Below W.heap.size W a) (g : a.grownBy w (some b)) (hb : W.heap.size ≤ b) : Below W.heap.size W w :=
  h.trans ⟨g.os, g.tape, g.output, g.size, fun k hk => g.block k (Nat.lt_of_lt_of_le hk h.size) (fun e => by injection e with e; omega)⟩
theorem below_drewN {B : Nat} {a w : World} (h : Below B a w) (n : Nat) : Below B a (w.drewN n) := ⟨h.os, h.tape, h.output, h.size, h.block⟩
def Lst (w : World) (lo size : Nat) (v : Value) (xs : List Value) : Prop :=
  ∃ (A : Option Addr) (n c : Nat), v = .slice A n c ∧ n ≤ c ∧ c ≤ maxLen ∧ xs.length = n * size ∧
    (0 < n → ∃ g o, A = some ⟨g, o, none⟩ ∧ lo ≤ g ∧ g < w.heap.size ∧ ∀ j u, xs[j]? = some u → w.cell? ⟨g, o + j, none⟩ = some u)
theorem Lst.mono {w : World} {lo lo' size : Nat} {v : Value} {xs : List Value} (h : Lst w lo size v xs) (hl : lo' ≤ lo) : Lst w lo' size v xs := by
  obtain ⟨A, n, c, hv, hn, hc, hx, hr⟩ := h
  exact ⟨A, n, c, hv, hn, hc, hx, fun h0 => let ⟨g, o, hA, hg, hlt, hcell⟩ := hr h0; ⟨g, o, hA, Nat.le_trans hl hg, hlt, hcell⟩⟩
theorem Lst.keep {w w' : World} {lo size : Nat} {v : Value} {xs : List Value} (h : Lst w lo size v xs) (hs : w.heap.size ≤ w'.heap.size)
    (hk : ∀ k, lo ≤ k → k < w.heap.size → w'.heap[k]? = w.heap[k]?) : Lst w' lo size v xs := by
  obtain ⟨A, n, c, hv, hn, hc, hx, hr⟩ := h
  refine ⟨A, n, c, hv, hn, hc, hx, fun h0 => ?_⟩
  obtain ⟨g, o, hA, hg, hlt, hcell⟩ := hr h0
  exact ⟨g, o, hA, hg, Nat.lt_of_lt_of_le hlt hs, fun j u hu => (World.cell?_of_block (w := w) (hk g hg hlt)).trans (hcell j u hu)⟩
theorem Lst.below {w w' : World} {lo size : Nat} {v : Value} {xs : List Value} (h : Lst w lo size v xs) (hb : Below w.heap.size w w') : Lst w' lo size v xs :=
  h.keep hb.size fun k _ hk => hb.block k hk
theorem Lst.grown {w w' : World} {lo size b : Nat} {v : Value} {xs : List Value} (h : Lst w lo size v xs) (hg : w.grownBy w' (some b)) (hb : b < lo) : Lst w' lo size v xs :=
  h.keep hg.size fun k hk hlt => hg.block k hlt (fun e => by injection e with e; omega)
theorem Lst.nil (w : World) (lo size : Nat) : Lst w lo size (.slice none 0 0) [] := ⟨none, 0, 0, rfl, Nat.le_refl _, Nat.zero_le _, by simp, fun h => absurd h (by omega)⟩
theorem Lst.of_own {w : World} {base size n : Nat} {e : TypeId} {v : Value} {xs : List Value} (h : w.ownsRow base e size v n xs) : Lst w base size v xs := by
  obtain ⟨hl, h2⟩ := h
  rcases h2 with ⟨rfl, rfl⟩ | ⟨g, cap, cur, rfl, hg, hh, hnc, hcm, hsz, hx⟩
  · have : xs = [] := List.eq_nil_of_length_eq_zero (by simpa using hl)
    subst this; exact Lst.nil w base size
  · refine ⟨_, n, cap, rfl, hnc, hcm, hl, fun h0 => ⟨g, 0, rfl, hg, ?_, fun j u hu => ?_⟩⟩
    · rcases Nat.lt_or_ge g w.heap.size with h | h
      · exact h
      · rw [Array.getElem?_eq_none h] at hh; cases hh
    · have hcur : cur[j]? = some u := by
        rw [← hx, List.getElem?_take] at hu
        split at hu
        · simpa using hu
        · cases hu
      simp [World.cell?, hh, hcur]
theorem Lst.at_ {w : World} {lo n c k : Nat} {A : Option Addr} {xs : List Value} (h : Lst w lo 1 (.slice A n c) xs) (hk : k < n) :
    ∃ g o u, A = some ⟨g, o, none⟩ ∧ lo ≤ g ∧ g < w.heap.size ∧ xs[k]? = some u ∧ w.cell? ⟨g, o + k, none⟩ = some u := by
  obtain ⟨A', n', c', hv, hn, hc, hx, hr⟩ := h
  simp only [Value.slice.injEq] at hv
  obtain ⟨rfl, rfl, rfl⟩ := hv
  obtain ⟨g, o, hA, hg, hlt, hcell⟩ := hr (by omega)
  have hl : k < xs.length := by omega
  exact ⟨g, o, xs[k], hA, hg, hlt, List.getElem?_eq_getElem hl, hcell k _ (List.getElem?_eq_getElem hl)⟩
theorem Lst.open_ {w : World} {lo size n c : Nat} {A : Option Addr} {xs : List Value} (h : Lst w lo size (.slice A n c) xs) (hk : 0 < n) :
    ∃ g o, A = some ⟨g, o, none⟩ ∧ lo ≤ g ∧ g < w.heap.size ∧ ∀ j u, xs[j]? = some u → w.cell? ⟨g, o + j, none⟩ = some u := by
  obtain ⟨A', n', c', hv, hn, hc, hx, hr⟩ := h
  simp only [Value.slice.injEq] at hv
  obtain ⟨rfl, rfl, rfl⟩ := hv
  exact hr hk
theorem Lst.form {w : World} {lo size : Nat} {v : Value} {xs : List Value} (h : Lst w lo size v xs) : ∃ A n c, v = .slice A n c ∧ n ≤ c ∧ c ≤ maxLen ∧ xs.length = n * size :=
  let ⟨A, n, c, hv, hn, hc, hx, _⟩ := h; ⟨A, n, c, hv, hn, hc, hx⟩
def IsStream (ts : TypeId) (w : World) (b M : Nat) : Prop :=
  ∃ (a : Option Addr) (len cap : Nat) (at_ : Nat), w.heap[b]? = some (.cells #[.slice a len cap, .int .i64 (at_ : Int)] ts (0, 0)) ∧ at_ ≤ M ∧ len ≤ 9223372036854775807 ∧
    (0 < len → ∃ x, a = some x ∧ x.block < b ∧ x.spot = none ∧ ∀ i, i < len → ∃ z : Int, w.cell? ⟨x.block, x.off + i, none⟩ = some (.int .i64 z))
theorem block_lt {w : World} {b : Nat} {o : Obj} (h : w.heap[b]? = some o) : b < w.heap.size := by
  rcases Nat.lt_or_ge b w.heap.size with hl | hl
  · exact hl
  · rw [Array.getElem?_eq_none hl] at h; cases h
theorem IsStream.lt {ts : TypeId} {w : World} {b M : Nat} (h : IsStream ts w b M) : b < w.heap.size := by
  obtain ⟨_, _, _, _, hh, _⟩ := h
  exact block_lt hh
theorem IsStream.below {ts : TypeId} {w w' : World} {b M : Nat} (h : IsStream ts w b M) (hb : Below w.heap.size w w') : IsStream ts w' b M := by
  have hlt := h.lt
  obtain ⟨a, len, cap, at_, hh, h1, h2, h3⟩ := h
  refine ⟨a, len, cap, at_, (hb.block b hlt).trans hh, h1, h2, fun h0 => ?_⟩
  obtain ⟨x, hx, hxb, hs, hc⟩ := h3 h0
  refine ⟨x, hx, hxb, hs, fun i hi => ?_⟩
  obtain ⟨z, hz⟩ := hc i hi
  exact ⟨z, (hb.cell (p := ⟨x.block, x.off + i, none⟩) (by show x.block < _; omega)).trans hz⟩
theorem IsStream.mono {ts : TypeId} {w : World} {b M M' : Nat} (h : IsStream ts w b M) (hM : M ≤ M') : IsStream ts w b M' := by
  obtain ⟨a, len, cap, at_, hh, h1, h2⟩ := h
  exact ⟨a, len, cap, at_, hh, by omega, h2⟩
theorem IsStream.alloc {ts : TypeId} {w : World} {b M : Nat} (h : IsStream ts w b M) (o : Obj) : IsStream ts (w.alloc o) b M :=
  h.below ((Below.refl _ _).alloc (Nat.le_refl _) o)
theorem IsStream.drewN {ts : TypeId} {w : World} {b M : Nat} (h : IsStream ts w b M) (n : Nat) : IsStream ts (w.drewN n) b M := h
theorem stream_cells {w : World} {b : Nat} {u v : Value} {t : TypeId} (h : w.heap[b]? = some (.cells #[u, v] t (0, 0))) :
    w.cell? ⟨b, 0, none⟩ = some u ∧ w.cell? ⟨b, 1, none⟩ = some v ∧ w.frozen? ⟨b, 0, none⟩ = false ∧ w.frozen? ⟨b, 1, none⟩ = false := by
  simp [World.cell?, World.frozen?, h]
theorem stream_set {w : World} {b : Nat} {u v v' : Value} {t : TypeId} (h : w.heap[b]? = some (.cells #[u, v] t (0, 0))) :
    (w.setCell ⟨b, 1, none⟩ v').heap[b]? = some (.cells #[u, v'] t (0, 0)) := by
  simp [World.setCell, Array.getElem?_modify, h]
def IsRow (k : IntKind) (w : World) (a : Option Addr) (len cap : Nat) (zs : List Int) : Prop :=
  (a = none ∧ len = 0 ∧ cap = 0 ∧ zs = []) ∨
  ∃ x, a = some x ∧ len ≤ cap ∧ cap ≤ maxLen ∧ zs.length = cap ∧ (∀ i, i < zs.length → w.cell? (x.add i) = some (.int k (zs.getD i 0))) ∧ ∀ n ∈ zs, (Lit.int k n).wf = true
theorem isStream_new {ts : TypeId} {w : World} {a : Option Addr} {len cap : Nat} {zs : List Int} (h : IsRow .i64 w a len cap zs) :
    IsStream ts (w.alloc (.cells #[.slice a len cap, .int .i64 0] ts)) w.heap.size 0 := by
  refine ⟨a, len, cap, 0, heap_alloc_new w _, Nat.le_refl _, ?_, fun h0 => ?_⟩
  · rcases h with ⟨_, rfl, _⟩ | ⟨_, _, hl, hm, _⟩
    · omega
    · unfold maxLen at hm; omega
  · rcases h with ⟨_, rfl, _⟩ | ⟨⟨b, o, sp⟩, rfl, hl, hm, hz, hc, _⟩
    · omega
    · have hc0 := hc 0 (by omega)
      have hsp : sp = none := by simpa [Addr.add] using World.cell?_spot hc0
      subst hsp
      have e : ∀ i, (⟨b, o, none⟩ : Addr).add i = ⟨b, o + i, none⟩ := fun i => by unfold Addr.add; split <;> simp_all
      refine ⟨_, rfl, ?_, rfl, fun i hi => ⟨zs.getD i 0, ?_⟩⟩
      · rw [e] at hc0; exact World.block_lt_of_cell? w _ hc0
      · have h1 := hc i (by omega)
        rw [e] at h1
        rw [World.cell?_alloc_lt _ _ _ (World.block_lt_of_cell? w _ h1)]
        exact h1
structure Goes (ts : TypeId) (b M k : Nat) (w w' : World) : Prop where
  is : IsStream ts w' b (M + k)
  gb : w.grownBy w' (some b)
theorem Goes.refl {ts : TypeId} {b M k : Nat} {w : World} (h : IsStream ts w b M) : Goes ts b M k w w := ⟨h.mono (by omega), gb_refl _ _⟩
theorem Goes.trans {ts : TypeId} {b M k j m : Nat} {w w1 w2 : World} (h : Goes ts b M k w w1) (h' : Goes ts b (M + k) j w1 w2) (hm : k + j ≤ m) : Goes ts b M m w w2 :=
  ⟨h'.is.mono (by omega), gb_trans h.gb h'.gb⟩
theorem Goes.more {ts : TypeId} {b M k k' : Nat} {w w1 : World} (h : Goes ts b M k w w1) (hk : k ≤ k') : Goes ts b M k' w w1 := ⟨h.is.mono (by omega), h.gb⟩
theorem Goes.below {ts : TypeId} {b M k : Nat} {w w1 w2 : World} (h : Goes ts b M k w w1) (hb : Below w1.heap.size w1 w2) : Goes ts b M k w w2 :=
  ⟨h.is.below hb, gb_trans h.gb (gb_below hb _)⟩
theorem Goes.alloc {ts : TypeId} {b M k : Nat} {w w1 : World} (h : Goes ts b M k w w1) (o : Obj) : Goes ts b M k w (w1.alloc o) := ⟨h.is.alloc o, gb_alloc h.gb o⟩
theorem Goes.of_alloc {ts : TypeId} {b M k : Nat} {w w1 : World} {o : Obj} (h : Goes ts b M k (w.alloc o) w1) : Goes ts b M k w w1 := ⟨h.is, gb_trans (gb_alloc (gb_refl w _) o) h.gb⟩
theorem Goes.drewN {ts : TypeId} {b M k : Nat} {w w1 : World} (h : Goes ts b M k w w1) (n : Nat) : Goes ts b M k w (w1.drewN n) := ⟨h.is, gb_drewN h.gb n⟩
theorem goes_set {ts : TypeId} {w : World} {b M len cap at_ : Nat} {a : Option Addr} {nq : Nat}
    (h : w.heap[b]? = some (.cells #[.slice a len cap, .int .i64 (at_ : Int)] ts (0, 0))) (hM : at_ ≤ M) (hl : len ≤ 9223372036854775807)
    (hz : 0 < len → ∃ x, a = some x ∧ x.block < b ∧ x.spot = none ∧ ∀ i, i < len → ∃ z : Int, w.cell? ⟨x.block, x.off + i, none⟩ = some (.int .i64 z)) :
    Goes ts b M 1 w ((w.setCell ⟨b, 1, none⟩ (.int .i64 ((at_ : Int) + 1))).drewN nq) := by
  refine ⟨⟨a, len, cap, at_ + 1, stream_set h, by omega, hl, fun h0 => ?_⟩, ⟨rfl, rfl, rfl, by simp [World.setCell, World.drewN], fun k hk hne => Below.heap_setCell _ _ _ _ (by intro e; exact hne (by rw [e]))⟩⟩
  obtain ⟨x, hx, hb, hs, hc⟩ := hz h0
  refine ⟨x, hx, hb, hs, fun i hi => ?_⟩
  obtain ⟨z, hzc⟩ := hc i hi
  refine ⟨z, ?_⟩
  rw [← hzc]
  exact World.cell?_of_block (w := w) (Below.heap_setCell _ _ _ _ (by show x.block ≠ b; omega))
def GoesInt (ts : TypeId) (b M k : Nat) (P : Int → Prop) (w : World) (e : Ending) (w' : World) : Prop := ∃ r : Int, P r ∧ e = .returned (.int .i64 r) ∧ Goes ts b M k w w'
def GoesStr (ts : TypeId) (b M k : Nat) (P : ByteArray → Prop) (w : World) (e : Ending) (w' : World) : Prop := ∃ r : ByteArray, P r ∧ e = .returned (.string r) ∧ Goes ts b M k w w'
def GoesBool (ts : TypeId) (b M k : Nat) (w : World) (e : Ending) (w' : World) : Prop := ∃ r : Bool, e = .returned (.bool r) ∧ Goes ts b M k w w'
theorem cell_new_list (w : World) (cs : Array Value) (t : TypeId) (i : Nat) (v : Value) (h : cs[i]? = some v) : (w.alloc (.cells cs t)).cell? ⟨w.heap.size, i, none⟩ = some v := by
  have h1 := heap_alloc_new w (.cells cs t)
  simp only [World.cell?, h1]
  exact h
theorem cells_new (w : World) (xs : List Value) (t : TypeId) : ∀ j u, xs[j]? = some u → (w.alloc (.cells xs.toArray t)).cell? ((⟨w.heap.size, 0, none⟩ : Addr).add j) = some u := by
  intro j u h
  have e : (⟨w.heap.size, 0, none⟩ : Addr).add j = ⟨w.heap.size, j, none⟩ := by unfold Addr.add; split <;> simp_all
  rw [e]
  exact cell_new_list w _ t j u (by simpa using h)
theorem ownsRow_base {w : World} {b b' size n : Nat} {e : TypeId} {v : Value} {xs : List Value} (h : w.ownsRow b e size v n xs) (hb : b' ≤ b) : w.ownsRow b' e size v n xs := by
  obtain ⟨hl, h2⟩ := h
  refine ⟨hl, ?_⟩
  rcases h2 with h2 | ⟨g, cap, cur, hv, hg, r⟩
  · exact .inl h2
  · exact .inr ⟨g, cap, cur, hv, Nat.le_trans hb hg, r⟩
theorem ownsRow_below {w w' : World} {b size n : Nat} {e : TypeId} {v : Value} {xs : List Value} (h : w.ownsRow b e size v n xs) (hb : Below w.heap.size w w') : w'.ownsRow b e size v n xs := by
  obtain ⟨hl, h2⟩ := h
  refine ⟨hl, ?_⟩
  rcases h2 with h2 | ⟨g, cap, cur, hv, hg, hh, r⟩
  · exact .inl h2
  · exact .inr ⟨g, cap, cur, hv, hg, (hb.block g (block_lt hh)).trans hh, r⟩
theorem ret_int {k : IntKind} {a b : Int} (h : a = b) : Ending.returned (.int k a) = .returned (.int k b) := by rw [h]
def BelowOf (x n : Int) : Int := if n < 1 then 0 else if x.tmod n < 0 then x.tmod n + n else x.tmod n
theorem belowOf_range (x n : Int) (h : 1 ≤ n) : 0 ≤ BelowOf x n ∧ BelowOf x n < n := by
  unfold BelowOf
  have h1 := Int.tmod_lt_of_pos x (show 0 < n by omega)
  have h2 := Int.lt_tmod_of_pos x (show 0 < n by omega)
  split
  · omega
  · split <;> omega
set_option maxHeartbeats 400000 in
theorem below_any (x n : Int) (w : World) (h1 : 1 ≤ n) (h2 : n ≤ 9223372036854775807) :
    Calls Tryz.prog 51 #[.int .i64 x, .int .i64 n] w fun e w' => e = .returned (.int .i64 (BelowOf x n)) ∧ w = w' := by
  have hr := Int.lt_tmod_of_pos x (show 0 < n by omega)
  have hr2 := Int.tmod_lt_of_pos x (show 0 < n by omega)
  go_enter Tryz.func51, Tryz.ntmps51
  go_wp2
  · have h : x.tmod n < 0 := by assumption
    go_ret
    exact ⟨by unfold BelowOf; rw [if_neg (by omega), if_pos h]; rfl, rfl⟩
  · have h : 0 ≤ x.tmod n := by assumption
    go_ret
    exact ⟨by unfold BelowOf; rw [if_neg (by omega), if_neg (by omega)]; rfl, rfl⟩
def SomeBelow (n : Int) (w : World) (e : Ending) (w' : World) : Prop := ∃ r : Int, 0 ≤ r ∧ r < n ∧ e = .returned (.int .i64 r) ∧ w = w'
theorem below_some (x n : Int) (w : World) (h1 : 1 ≤ n) (h2 : n ≤ 9223372036854775807) :
    Calls Tryz.prog 51 #[.int .i64 x, .int .i64 n] w (SomeBelow n w) :=
  (below_any x n w h1 h2).mono fun _ _ ⟨he, hw⟩ => ⟨_, (belowOf_range x n h1).1, (belowOf_range x n h1).2, he, hw⟩
set_option maxHeartbeats 1000000 in
theorem next_any (b M : Nat) (n : Int) (w : World) (hs : IsStream 25 w b M) (hM : M ≤ 4611686018427387904) (h1 : 1 ≤ n) (h2 : n ≤ 9223372036854775807) :
    Calls Tryz.prog 16 #[.pointer (some ⟨b, 0, none⟩), .int .i64 n] w (GoesInt 25 b M 1 (fun r => 0 ≤ r ∧ r < n) w) := by
  obtain ⟨a, len, cap, at_, hh, hat, hlen, hz⟩ := hs
  obtain ⟨c0, c1, f0, f1⟩ := stream_cells hh
  by_cases h0 : len = 0
  · subst h0
    have H := Lib.hid (fun nq => goes_set (nq := nq) hh hat hlen hz)
    clear hh hz
    go_enter Tryz.func16, Tryz.ntmps16
    go_wp2_with fail
    refine (below_some _ _ _ h1 h2).mono ?_
    rintro e w' ⟨r, hr0, hr1, rfl, rfl⟩
    go_wp2_with fail
    go_ret
    exact ⟨r, ⟨hr0, hr1⟩, rfl, H.out 0⟩
  · obtain ⟨⟨xb, xo, xs⟩, rfl, hxb, hxs, hc⟩ := hz (by omega)
    simp only at hxs; subst hxs
    have hlp : 0 < len := by omega
    obtain ⟨z, hzc⟩ := hc (at_ % len) (Nat.mod_lt _ hlp)
    have H := Lib.hid (fun nq => goes_set (nq := nq) hh hat hlen hz)
    have hne : ((len : Int) == 0) = false := by simp; omega
    have hzc' : (w.setCell ⟨b, 1, none⟩ (.int .i64 ((at_ : Int) + 1))).cell? ⟨xb, xo + at_ % len, none⟩ = some (.int .i64 z) := by
      rw [← hzc]; exact World.cell?_of_block (w := w) (Below.heap_setCell _ _ _ _ (by simp only at hxb; show xb ≠ b; omega))
    have hb1 : (0 : Int) ≤ (at_ : Int) % (len : Int) := Int.emod_nonneg _ (by omega)
    have hb2 : (at_ : Int) % (len : Int) < (len : Int) := Int.emod_lt_of_pos _ (by omega)
    have hb3 : ((at_ : Int) % (len : Int)).toNat = at_ % len := by omega
    clear hh hz hc
    go_enter Tryz.func16, Tryz.ntmps16
    go_wp2_with fail
    go_quiet (fail)
    go_wp2_with fail
    go_quiet (fail)
    go_wp2_with fail
    refine (below_some _ _ _ (by omega) (by omega)).mono ?_
    rintro e w' ⟨r, hr0, hr1, rfl, rfl⟩
    go_wp2_with fail
    refine (below_some _ _ _ h1 h2).mono ?_
    rintro e w' ⟨r2, hr0, hr1, rfl, rfl⟩
    go_wp2_with fail
    go_ret
    exact ⟨r2, ⟨hr0, hr1⟩, rfl, H.out _⟩
set_option maxHeartbeats 400000 in
theorem range_any (b M : Nat) (lo hi : Int) (w : World) (hs : IsStream 25 w b M) (hM : M ≤ 4611686018427387904) (h0 : -1000000000000000 ≤ lo) (h1 : lo ≤ hi) (h2 : hi ≤ 1000000000000000) :
    Calls Tryz.prog 14 #[.pointer (some ⟨b, 0, none⟩), .int .i64 lo, .int .i64 hi] w (GoesInt 25 b M 1 (fun r => lo ≤ r ∧ r ≤ hi) w) := by
  go_enter Tryz.func14, Tryz.ntmps14
  go_wp2_with fail
  refine (next_any _ M _ _ hs hM (by omega) (by omega)).mono ?_
  rintro e w' ⟨r, ⟨hr0, hr1⟩, rfl, hg⟩
  go_wp2_with fail
  go_ret
  exact ⟨lo + r, ⟨by omega, by omega⟩, rfl, hg⟩
set_option maxHeartbeats 400000 in
theorem flip_any (b M : Nat) (n : Int) (w : World) (hs : IsStream 25 w b M) (hM : M ≤ 4611686018427387904) (h1 : 1 ≤ n) (h2 : n ≤ 1000000000000000) :
    Calls Tryz.prog 22 #[.pointer (some ⟨b, 0, none⟩), .int .i64 n] w (GoesBool 25 b M 1 w) := by
  go_enter Tryz.func22, Tryz.ntmps22
  go_wp2_with fail
  refine (next_any _ M _ _ hs hM (by omega) (by omega)).mono ?_
  rintro e w' ⟨r, ⟨hr0, hr1⟩, rfl, hg⟩
  go_wp2_with fail
  go_ret
  exact ⟨r == 0, rfl, hg⟩
set_option maxHeartbeats 400000 in
theorem pick_any (b M g : Nat) (zs : List Int) (n cap : Nat) (w : World) (t : TypeId) (hs : IsStream 25 w b M) (hM : M ≤ 4611686018427387904) (hn : n = zs.length) (h1 : 1 ≤ n) (h2 : n ≤ 1000000)
    (hg : w.heap[g]? = some (.cells (zs.map (Value.int .i64)).toArray t (0, 0))) (hgb : g ≠ b) :
    Calls Tryz.prog 8 #[.pointer (some ⟨b, 0, none⟩), .slice (some ⟨g, 0, none⟩) n cap] w (GoesInt 25 b M 1 (fun r => r ∈ zs) w) := by
  have Hn := Lib.hid hn
  clear hn
  go_enter Tryz.func8, Tryz.ntmps8
  go_wp2_with fail
  refine (next_any _ M _ _ hs hM (by omega) (by omega)).mono ?_
  rintro e w' ⟨r, ⟨hr0, hr1⟩, rfl, hgo⟩
  obtain ⟨k, rfl⟩ := Int.eq_ofNat_of_zero_le hr0
  have hk : k < zs.length := by have := Hn.out; omega
  have hc : w'.cell? ⟨g, k, none⟩ = some (.int .i64 zs[k]) := by
    have h3 := (hgo.gb.block g (block_lt hg) (fun e => by injection e with e; omega)).trans hg
    simp [World.cell?, h3, hk]
  clear hg
  go_wp2_with fail
  go_ret
  exact ⟨zs[k], List.getElem_mem hk, rfl, hgo⟩
set_option maxHeartbeats 400000 in
theorem some_any (b M g : Nat) (ss : List ByteArray) (n cap : Nat) (w : World) (t : TypeId) (hs : IsStream 25 w b M) (hM : M ≤ 4611686018427387904) (hn : n = ss.length) (h1 : 1 ≤ n) (h2 : n ≤ 1000000)
    (hg : w.heap[g]? = some (.cells (ss.map Value.string).toArray t (0, 0))) (hgb : g ≠ b) :
    Calls Tryz.prog 15 #[.pointer (some ⟨b, 0, none⟩), .slice (some ⟨g, 0, none⟩) n cap] w (GoesStr 25 b M 1 (fun r => r ∈ ss) w) := by
  have Hn := Lib.hid hn
  clear hn
  go_enter Tryz.func15, Tryz.ntmps15
  go_wp2_with fail
  refine (next_any _ M _ _ hs hM (by omega) (by omega)).mono ?_
  rintro e w' ⟨r, ⟨hr0, hr1⟩, rfl, hgo⟩
  obtain ⟨k, rfl⟩ := Int.eq_ofNat_of_zero_le hr0
  have hk : k < ss.length := by have := Hn.out; omega
  have hc : w'.cell? ⟨g, k, none⟩ = some (.string ss[k]) := by
    have h3 := (hgo.gb.block g (block_lt hg) (fun e => by injection e with e; omega)).trans hg
    simp [World.cell?, h3, hk]
  clear hg
  go_wp2_with fail
  go_ret
  exact ⟨ss[k], List.getElem_mem hk, rfl, hgo⟩
theorem sizeBuilder : (Tryz.prog.info? 171).map (·.size) = some 2 := by kernel_rfl
theorem Goes.belowAt {ts : TypeId} {b M k B : Nat} {w w1 w2 : World} (h : Goes ts b M k w w1) (hw : w.heap.size ≤ B) (hb : b < B) (hB : Below B w1 w2) : Goes ts b M k w w2 := by
  obtain ⟨⟨a, len, cap, at_, hh, h1, h2, h3⟩, gb⟩ := h
  have hg : w.grownBy w2 (some b) := ⟨hB.os.trans gb.os, hB.tape.trans gb.tape, hB.output.trans gb.output, Nat.le_trans gb.size hB.size, fun i hi hn => (hB.block i (by omega)).trans (gb.block i hi hn)⟩
  refine ⟨⟨a, len, cap, at_, (hB.block b hb).trans hh, h1, h2, fun h0 => ?_⟩, hg⟩
  obtain ⟨x, hx, hxb, hs, hc⟩ := h3 h0
  refine ⟨x, hx, hxb, hs, fun i hi => ?_⟩
  obtain ⟨z, hz⟩ := hc i hi
  exact ⟨z, (hB.cell (p := ⟨x.block, x.off + i, none⟩) (by show x.block < _; omega)).trans hz⟩
theorem bon {a b c : World} (h : Below a.heap.size a b) (k : Below b.heap.size b c) : Below a.heap.size a c := h.trans (k.mono h.size)
theorem bbox {a b : World} (h : Below a.heap.size a b) (o : Obj) : Below a.heap.size a (b.alloc o) := h.alloc h.size o
theorem bfirst (a : World) (o : Obj) : Below a.heap.size a (a.alloc o) := (Below.refl _ _).alloc (Nat.le_refl _) o
theorem bold {a b : World} (k : Below a.heap.size a b) {p : Addr} {v : Value} (h : a.cell? p = some v) : b.cell? p = some v :=
  (k.cell (World.block_lt_of_cell? a _ h)).trans h
theorem own_cells {w : World} {base e size n c : Nat} {g : Nat} {xs : List Value} (h : w.ownsRow base e size (.slice (some ⟨g, 0, none⟩) n c) n xs) : ∀ j u, xs[j]? = some u → w.cell? ((⟨g, 0, none⟩ : Addr).add j) = some u := by
  intro j u hu
  rcases h.2 with ⟨h0, _⟩ | ⟨g', cap, cur, hv, _, hh, _, _, _, hx⟩
  · cases h0
  · simp only [Value.slice.injEq, Option.some.injEq, Addr.mk.injEq] at hv
    obtain ⟨⟨rfl, _, _⟩, _, _⟩ := hv
    have e : (⟨g, 0, none⟩ : Addr).add j = ⟨g, j, none⟩ := by unfold Addr.add; split <;> simp_all
    rw [e]
    have hcur : cur[j]? = some u := by
      rw [← hx, List.getElem?_take] at hu
      split at hu
      · simpa using hu
      · cases hu
    simp [World.cell?, hh, hcur]
theorem own_nil_or {w : World} {base e size n : Nat} {v : Value} {xs : List Value} (h : w.ownsRow base e size v n xs) : (v = .slice none 0 0 ∧ n = 0 ∧ xs = []) ∨ ∃ g c, v = .slice (some ⟨g, 0, none⟩) n c := by
  rcases h.2 with ⟨rfl, rfl⟩ | ⟨g, cap, cur, rfl, _⟩
  · exact .inl ⟨rfl, rfl, List.eq_nil_of_length_eq_zero (by simpa using h.1)⟩
  · exact .inr ⟨g, cap, rfl⟩
theorem wpList_push {P : Program} {ops : Array Oper} {rest : List Oper} {o : Oper} {a : Act} {Q : Exit → Act → World → Prop} {W w0 w1 : World} {lo : Nat} (hgd : o.guard = none) (s x : Operand) (t : TypeId)
    (ho : o.op = .call { callee := .builtin .append, args := #[s, x], argTypes := #[t, t] })
    (e : TypeId) (i : TypeInfo) (z : Value) (size bytes : Nat) (ht : P.underlying t = some (.slice e)) (hi : P.info? e = some i) (hz : i.zero = some z)
    (hsize : i.size = size) (hby : i.bytes = bytes) (hzs : z.cells.size = size) (hsz : 0 < size) (hb64 : bytes ≤ 100)
    (v : Value) (n : Nat) (xs : List Value) (hs : a.eval s = v) (hB : Below lo W w0) (hlo : lo ≤ w0.heap.size) (hown : w0.ownsRow lo e size v n xs)
    (news : List Value) (hw1 : w1 = w0.alloc (.cells news.toArray e)) (hx : a.eval x = .slice (some ⟨w0.heap.size, 0, none⟩) 1 1) (hl : news.length = size) (h1 : news.all (·.oneCell') = true) (hn : n ≤ 1000000000000)
    (h : ∀ v' w', w'.ownsRow lo e size v' (n + 1) (xs ++ news) → Below lo W w' → w0.heap.size < w'.heap.size → w0.grownBy w' v.ownBlock → wpList P ops Q rest (a.put o.dst v') w') :
    wpList P ops Q (o :: rest) a w1 := by
  subst hw1
  refine wpList_append_own _ hgd s x t ho lo e i z size bytes ht hi hz hsize hby hzs hsz v n xs hs (hown.alloc _) ⟨w0.heap.size, 0, none⟩ 1 1 news hx (by omega) (cells_new w0 news e)
    (fun u hu => List.all_eq_true.1 h1 u hu) (by unfold maxLen; omega) (Nat.le_trans (Nat.mul_le_mul (show n + 1 ≤ 1000000000001 by omega) hb64) (by decide)) (by simp; omega) ?_
  intro v' w' hown' hgrow _
  refine h v' w' hown' ((hB.alloc hlo _).grown hgrow (by simp; omega) (fun x hx => (hown.lt x hx).1)) (by have := hgrow.size; simp at this; omega) ?_
  exact ⟨hgrow.os, hgrow.tape, hgrow.output, by have := hgrow.size; simp at this; omega, fun k hk hne => (hgrow.block k (by simp; omega) hne).trans (Below.heap_alloc w0 _ k hk)⟩
def At2 (w : World) (A : Option Addr) (n : Nat) (x y : Nat → Value) : Prop :=
  ∀ i, i < n → ∃ b o, A = some ⟨b, o, none⟩ ∧ b < w.heap.size ∧ w.cell? ⟨b, o + i * 2, none⟩ = some (x i) ∧ w.cell? ⟨b, o + i * 2 + 1, none⟩ = some (y i)
theorem At2.below {w w' : World} {A : Option Addr} {n : Nat} {x y : Nat → Value} (h : At2 w A n x y) (hb : Below w.heap.size w w') : At2 w' A n x y := fun i hi =>
  let ⟨b, o, e, hl, c0, c1⟩ := h i hi
  ⟨b, o, e, Nat.lt_of_lt_of_le hl hb.size, bold hb c0, bold hb c1⟩
def Pred2 (P : Program) (g : Nat) (lb : Array Value) (x y : Nat → Value) (n : Nat) (p : Nat → Bool) (w : World) : Prop :=
  ∀ (W : World) (i : Nat), i < n → Below w.heap.size w W → Calls P g (#[.agg #[x i, y i]] ++ lb) W fun e w' => e = .returned (.bool (p i)) ∧ Below W.heap.size W w'
def idxI (p : Nat → Bool) (n : Nat) : Int := match (List.range n).find? p with
  | some i => (i : Int)
  | none => -1
theorem idxI_hit {p : Nat → Bool} {k n : Nat} (hk : k < n) (hp : p k = true) (h : ∀ j, j < k → p j = false) : idxI p n = k := by
  have : (List.range n).find? p = some k := by
    rw [List.find?_eq_some_iff_getElem]
    refine ⟨hp, k, by simpa using hk, by simp, fun j hj => ?_⟩
    simpa using h j hj
  rw [idxI, this]
theorem idxI_miss {p : Nat → Bool} {n : Nat} (h : ∀ j, j < n → p j = false) : idxI p n = -1 := by
  have : (List.range n).find? p = none := by
    rw [List.find?_eq_none]; intro x hx; simpa using h x (by simpa using hx)
  rw [idxI, this]
def IdxRel (p : Nat → Bool) (n : Nat) (w : World) (g : Nat) (i : Value) (wr : World) : Prop :=
  ∃ k : Nat, k + g = n ∧ i = .int .i64 k ∧ (∀ j, j < k → p j = false) ∧ Below w.heap.size w wr
set_option maxRecDepth 100000 in
set_option maxHeartbeats 1000000 in
theorem indexFuncPeer (A : Option Addr) (n c : Nat) (x y : Nat → Value) (p : Nat → Bool) (g : Nat) (lb : Array Value) (eg : ∀ args w, (callFunc g args).run Tryz.prog w = .ok (.enter g args) w) (w : World)
    (hA : At2 w A n x y) (hp : Pred2 Tryz.prog g lb x y n p w) (hn : n ≤ 1000000000) :
    Calls Tryz.prog 134 #[.slice A n c, .func (.func g) #[] lb] w fun e w' => e = .returned (.int .i64 (idxI p n)) ∧ Below w.heap.size w w' := by
  have HA := Lib.hid hA
  have HP := Lib.hid hp
  clear hA hp
  go_enter Tryz.func134, Tryz.ntmps134
  go_wp2_with fail
  go_loopg [8, 5] n (fun g i _ wr => IdxRel p n w g i wr)
  case atStart => exact ⟨0, by omega, rfl, fun j hj => absurd hj (Nat.not_lt_zero _), Below.refl _ _⟩
  case round =>
    obtain ⟨k, hk, rfl, hno, hb⟩ := hrel
    by_cases hg : gk = 0
    · obtain rfl : k = n := by omega
      have HV := Lib.hid (idxI_miss hno)
      clear hno hk hg
      go_wp2_with fail
      go_ret
      exact ⟨ret_int HV.out.symm, hb⟩
    · have hlt : k < n := by omega
      obtain ⟨b, o, rfl, hbl, c0, c1⟩ := HA.out.below hb k hlt
      have hcall := HP.out wr k hlt hb
      have HK := Lib.hid hk
      have HNO := Lib.hid hno
      have hgk : gk ≠ 0 := hg
      clear hk hno hg
      generalize x k = xk at *
      generalize y k = yk at *
      rcases Bool.eq_false_or_eq_true (p k) with hq | hq
      · have HV := Lib.hid (idxI_hit hlt hq HNO.out)
        rw [hq] at hcall
        clear hq
        go_wp2_with (go_at_fn g; refine hcall.mono ?_; rintro e w1 ⟨rfl, hb1⟩)
        go_ret
        exact ⟨ret_int HV.out.symm, bon hb hb1⟩
      · have HQ := Lib.hid hq
        rw [hq] at hcall
        clear hq
        go_wp2_with (go_at_fn g; refine hcall.mono ?_; rintro e w1 ⟨rfl, hb1⟩)
        go_roundg (gk - 1)
        case measure => omega
        case rel =>
          refine ⟨k + 1, by have := HK.out; omega, by go_num, fun j hj => ?_, bon hb hb1⟩
          rcases Nat.lt_or_ge j k with h | h
          · exact HNO.out j h
          · rw [show j = k by omega]; exact HQ.out
def Cmp2 (P : Program) (g : Nat) (lb : Array Value) (x y : Nat → Value) (tv : Value) (n : Nat) (cf : Nat → Int) (w : World) : Prop :=
  ∀ (W : World) (i : Nat), i < n → Below w.heap.size w W → Calls P g (#[.agg #[x i, y i], tv] ++ lb) W fun e w' => e = .returned (.int .i64 (cf i)) ∧ Below W.heap.size W w'
structure Bound (cf : Nat → Int) (n lo hi : Nat) : Prop where
  below : ∀ t, t < lo → cf t < 0
  above : ∀ t, hi ≤ t → t < n → 0 ≤ cf t
def SearchRel (cf : Nat → Int) (n : Nat) (w : World) (g : Nat) (s9 s10 : Value) (wr : World) : Prop :=
  ∃ lo hi : Nat, s9 = .int .i64 lo ∧ s10 = .int .i64 hi ∧ lo ≤ hi ∧ hi ≤ n ∧ hi - lo ≤ g ∧ Bound cf n lo hi ∧ Below w.heap.size w wr
def Found (cf : Nat → Int) (n : Nat) (w : World) (e : Ending) (w' : World) : Prop :=
  ∃ lo : Nat, lo ≤ n ∧ Bound cf n lo lo ∧ e = .returned (.tuple #[.int .i64 lo, .bool (decide (lo < n) && decide (cf lo = 0))]) ∧ Below w.heap.size w w'
set_option maxRecDepth 100000 in
set_option maxHeartbeats 1000000 in
theorem searchFuncPeer (A : Option Addr) (n c : Nat) (x y : Nat → Value) (tv : Value) (cf : Nat → Int) (g : Nat) (lb : Array Value) (eg : ∀ args w, (callFunc g args).run Tryz.prog w = .ok (.enter g args) w) (w : World)
    (hA : At2 w A n x y) (hp : Cmp2 Tryz.prog g lb x y tv n cf w) (hn : n ≤ 1000000000) (hmono : ∀ a b, a ≤ b → b < n → cf b < 0 → cf a < 0) :
    Calls Tryz.prog 170 #[.slice A n c, tv, .func (.func g) #[] lb] w (Found cf n w) := by
  have HA := Lib.hid hA
  have HP := Lib.hid hp
  have HM := Lib.hid hmono
  clear hA hp hmono
  go_enter Tryz.func170, Tryz.ntmps170
  go_wp2_with fail
  go_loopg [9, 10, 11] n (fun g s9 s10 _ wr => SearchRel cf n w g s9 s10 wr)
  case atStart => exact ⟨0, n, rfl, rfl, Nat.zero_le _, Nat.le_refl _, by omega, ⟨fun t ht => absurd ht (Nat.not_lt_zero _), fun t h1 h2 => by omega⟩, Below.refl _ _⟩
  case round =>
    obtain ⟨lo, hi, rfl, rfl, hlh, hin, hgm, hbd, hb⟩ := hrel
    have HB := Lib.hid hbd
    clear hbd
    by_cases hlt : lo < hi
    · obtain ⟨b, o, rfl, hbl, c0, c1⟩ := HA.out.below hb ((lo + hi) / 2) (by omega)
      have hcall := HP.out wr ((lo + hi) / 2) (by omega) hb
      have hgk : gk ≠ 0 := by omega
      generalize x ((lo + hi) / 2) = xk at *
      generalize y ((lo + hi) / 2) = yk at *
      by_cases hyx : cf ((lo + hi) / 2) < 0
      · go_wp2_with (go_at_fn g; refine hcall.mono ?_; rintro e w1 ⟨rfl, hb1⟩)
        go_roundg (hi - ((lo + hi) / 2 + 1))
        case measure => omega
        case rel => exact ⟨(lo + hi) / 2 + 1, hi, by rw [show ((lo : Int) + (hi : Int)) / 2 + 1 = (((lo + hi) / 2 + 1 : Nat) : Int) by omega], rfl, by omega, hin, Nat.le_refl _, ⟨fun t ht => HM.out t ((lo + hi) / 2) (by omega) (by omega) hyx, HB.out.above⟩, bon hb hb1⟩
      · go_wp2_with (go_at_fn g; refine hcall.mono ?_; rintro e w1 ⟨rfl, hb1⟩)
        go_roundg ((lo + hi) / 2 - lo)
        case measure => omega
        case rel => exact ⟨lo, (lo + hi) / 2, rfl, by rw [show ((lo : Int) + (hi : Int)) / 2 = (((lo + hi) / 2 : Nat) : Int) by omega], by omega, by omega, Nat.le_refl _, ⟨HB.out.below, fun t ht htn => Int.not_lt.1 fun h => absurd (HM.out ((lo + hi) / 2) t ht htn h) (by omega)⟩, bon hb hb1⟩
    · obtain rfl : hi = lo := by omega
      by_cases hn1 : hi < n
      · obtain ⟨b, o, rfl, hbl, c0, c1⟩ := HA.out.below hb hi hn1
        have hcall := HP.out wr hi hn1 hb
        generalize x hi = xk at *
        generalize y hi = yk at *
        go_wp2_with (go_at_fn g; refine hcall.mono ?_; rintro e w1 ⟨rfl, hb1⟩)
        go_ret2
        exact ⟨hi, hin, HB.out, by rw [decide_eq_true hn1, Bool.true_and]; rfl, bon hb hb1⟩
      · go_wp2_with fail
        go_ret2
        exact ⟨hi, hin, HB.out, by rw [decide_eq_false hn1, Bool.false_and]; rfl, hb⟩
def outsideB (n lo hi : Int) : Bool := decide (n < lo) || decide (hi < n)
set_option maxHeartbeats 400000 in
theorem outside_any (n lo hi : Int) (w : World) :
    Calls Tryz.prog 48 #[.int .i64 n, .int .i64 lo, .int .i64 hi] w fun e w' => e = .returned (.bool (outsideB n lo hi)) ∧ w = w' := by
  by_cases h1 : n < lo
  · go_enter Tryz.func48, Tryz.ntmps48
    go_wp2
    go_ret
    exact ⟨by simp [outsideB, h1], rfl⟩
  · have h1' : decide (n < lo) = false := by simpa using h1
    go_enter Tryz.func48, Tryz.ntmps48
    go_wp2
    go_ret
    exact ⟨by simp [outsideB, h1'], rfl⟩
set_option maxHeartbeats 400000 in
theorem in_any (n lo hi : Int) (w : World) :
    Calls Tryz.prog 50 #[.int .i64 n, .int .i64 lo, .int .i64 hi] w fun e w' => e = .returned (.bool (!outsideB n lo hi)) ∧ w = w' := by
  by_cases h1 : lo ≤ n
  · go_enter Tryz.func50, Tryz.ntmps50
    go_wp2
    go_ret
    exact ⟨by have : ¬ n < lo := by omega
              simp [outsideB, this, ← Int.not_lt], rfl⟩
  · have h1' : decide (lo ≤ n) = false := by simpa using h1
    go_enter Tryz.func50, Tryz.ntmps50
    go_wp2
    go_ret
    exact ⟨by have : n < lo := by omega
              simp [outsideB, this], rfl⟩
def keyByte (i n : Nat) : Bool := (decide (97 ≤ n) && decide (n ≤ 122)) || (decide (0 < i) && ((decide (48 ≤ n) && decide (n ≤ 57)) || n == 45 || n == 95))
def keyTo (s : ByteArray) : Nat → Bool
  | 0 => true
  | k + 1 => keyTo s k && keyByte k (s.data.toList.getD k 0).toNat
def keyB (s : ByteArray) : Bool := keyTo s s.size && decide (1 ≤ s.size) && decide (s.size ≤ 40)
theorem keyTo_le (s : ByteArray) {k m : Nat} (h : k ≤ m) (hm : keyTo s m = true) : keyTo s k = true := by
  induction m with
  | zero => obtain rfl : k = 0 := by omega
            rfl
  | succ m ih =>
    by_cases e : k = m + 1
    · rw [e]; exact hm
    · rw [keyTo, Bool.and_eq_true] at hm
      exact ih (by omega) hm.1
theorem keyB_no (s : ByteArray) {k : Nat} (h : k ≤ s.size) (hk : keyTo s k = false) : keyB s = false := by
  have h2 : keyTo s s.size = false := by
    cases h3 : keyTo s s.size with
    | false => rfl
    | true => rw [keyTo_le s h h3] at hk; cases hk
  simp [keyB, h2]
theorem getD_byte (s : ByteArray) (k : Nat) (h : k < s.size) : s.data.toList.getD k 0 = s[k] := by
  have h' : k < s.data.toList.length := h
  simp [List.getD, List.getElem?_eq_getElem h']; rfl
set_option maxRecDepth 100000 in
set_option maxHeartbeats 2000000 in
theorem isKey_any (s : ByteArray) (hsz : s.size ≤ 1000000000000) (w : World) :
    Calls Tryz.prog 52 #[.string s] w fun e w' => e = .returned (.bool (keyB s)) ∧ w = w' := by
  go_enter Tryz.func52, Tryz.ntmps52
  go_wp2_with fail
  go_loopg [3, 4] s.size (fun g i _ wr => ∃ k : Nat, k + g = s.size ∧ i = .int .i64 k ∧ keyTo s k = true ∧ w = wr)
  case atStart => exact ⟨0, by omega, rfl, rfl, rfl⟩
  case round =>
    obtain ⟨k, hk, rfl, hkey, rfl⟩ := hrel
    have HK := Lib.hid hkey
    clear hkey
    by_cases hg : gk = 0
    · obtain rfl : k = s.size := by omega
      by_cases h0 : s.size = 0
      · have e0 : s = ⟨#[]⟩ := by
          obtain ⟨⟨l⟩⟩ := s
          have : l = [] := List.eq_nil_of_length_eq_zero h0
          rw [this]
        subst e0
        go_wp2_with fail
        go_ret
        exact ⟨rfl, rfl⟩
      · have hne : s.toList.isEmpty = false := by
          rw [ByteArray.toList_eq]
          cases hl : s.data.toList with
          | nil => exact absurd (show s.data.toList.length = 0 by rw [hl]; rfl) h0
          | cons _ _ => rfl
        go_wp2_with fail
        go_ret
        refine ⟨?_, rfl⟩
        have e1 : keyB s = decide ((s.size : Int) ≤ 40) := by
          have h1 : decide (1 ≤ s.size) = true := by simp; omega
          rw [keyB, HK.out, h1, Bool.true_and, Bool.true_and, Bool.eq_iff_iff]; simp; omega
        rw [e1]; rfl
    · have hlt : k < s.size := by omega
      have HG := Lib.hid (show keyTo s (k + 1) = (keyTo s k && keyByte k s[k].toNat) by rw [keyTo, getD_byte s k hlt])
      go_upto_region 5 with fail
      generalize s[k].toNat = n at *
      go_cut [40] (fun s40 wx => s40 = .bool (!keyByte k n) ∧ w = wx)
      case first =>
        by_cases c1 : n < 97
        · by_cases ck : k ≤ 0
          · have HV := Lib.hid (show keyByte k n = false by simp [keyByte]; omega)
            go_wp2_with fail
            go_meet
            exact ⟨by rw [HV.out]; first | rfl | (simp; omega), rfl⟩
          · have ck' : 0 < k := by omega
            by_cases c2 : n < 48
            · by_cases c3 : n = 45
              · have b3 : ((n : Int) == 45) = true := by simp; omega
                have HV := Lib.hid (show keyByte k n = true by simp [keyByte]; omega)
                go_wp2_with fail
                go_meet
                exact ⟨by rw [HV.out]; first | rfl | (simp; omega), rfl⟩
              · have b3 : ((n : Int) == 45) = false := by simp; omega
                have b4 : ((n : Int) == 95) = false := by simp; omega
                have HV := Lib.hid (show keyByte k n = false by simp [keyByte]; omega)
                go_wp2_with fail
                go_meet
                exact ⟨by rw [HV.out]; first | rfl | (simp; omega), rfl⟩
            · by_cases c3 : n ≤ 57
              · have HV := Lib.hid (show keyByte k n = true by simp [keyByte]; omega)
                go_wp2_with fail
                go_meet
                exact ⟨by rw [HV.out]; first | rfl | (simp; omega), rfl⟩
              · have b3 : ((n : Int) == 45) = false := by simp; omega
                by_cases c4 : n = 95
                · have b4 : ((n : Int) == 95) = true := by simp; omega
                  have HV := Lib.hid (show keyByte k n = true by simp [keyByte]; omega)
                  go_wp2_with fail
                  go_meet
                  exact ⟨by rw [HV.out]; first | rfl | (simp; omega), rfl⟩
                · have b4 : ((n : Int) == 95) = false := by simp; omega
                  have HV := Lib.hid (show keyByte k n = false by simp [keyByte]; omega)
                  go_wp2_with fail
                  go_meet
                  exact ⟨by rw [HV.out]; first | rfl | (simp; omega), rfl⟩
        · by_cases c2 : n ≤ 122
          · have HV := Lib.hid (show keyByte k n = true by simp [keyByte]; omega)
            go_wp2_with fail
            go_meet
            exact ⟨by rw [HV.out]; first | rfl | (simp; omega), rfl⟩
          · by_cases ck : k ≤ 0
            · have HV := Lib.hid (show keyByte k n = false by simp [keyByte]; omega)
              go_wp2_with fail
              go_meet
              exact ⟨by rw [HV.out]; first | rfl | (simp; omega), rfl⟩
            · have ck' : 0 < k := by omega
              have b3 : ((n : Int) == 45) = false := by simp; omega
              have b4 : ((n : Int) == 95) = false := by simp; omega
              have HV := Lib.hid (show keyByte k n = false by simp [keyByte]; omega)
              go_wp2_with fail
              go_meet
              exact ⟨by rw [HV.out]; first | rfl | (simp; omega), rfl⟩
      case rest =>
        obtain ⟨rfl, rfl⟩ := hcut
        rcases Bool.eq_false_or_eq_true (keyByte k n) with c | c
        · rw [c]
          go_wp2_with fail
          go_roundg (gk - 1)
          case measure => omega
          case rel => exact ⟨k + 1, by omega, by go_num, by rw [HG.out, HK.out, c]; rfl, rfl⟩
        · rw [c]
          go_wp2_with fail
          go_ret
          refine ⟨?_, rfl⟩
          have : keyB s = false := keyB_no s (show k + 1 ≤ s.size by omega) (by rw [HG.out, c, Bool.and_false])
          rw [this]; rfl
theorem dropWhile_nil {α : Type} (p : α → Bool) : ∀ l : List α, (l.dropWhile p).isEmpty = l.all p
  | [] => rfl
  | x :: l => by
    rw [List.dropWhile_cons, List.all_cons]
    cases h : p x with
    | true => simpa using dropWhile_nil p l
    | false => simp
theorem dropWhile_head {α : Type} (p : α → Bool) : ∀ (l : List α) (x : α) (r : List α), l.dropWhile p = x :: r → p x = false
  | [], x, r, h => by simp at h
  | y :: l, x, r, h => by
    rw [List.dropWhile_cons] at h
    cases hy : p y with
    | true => rw [hy] at h; exact dropWhile_head p l x r (by simpa using h)
    | false => rw [hy] at h; simp at h; rw [← h.1]; exact hy
theorem trimS_empty (l cs : List UInt8) : (Lib.trimS l cs).isEmpty = l.all (cs.contains ·) := by
  unfold Lib.trimS Lib.trimLeftS Lib.trimRightS
  rw [dropWhile_nil, List.all_reverse]
  cases h : l.reverse.dropWhile (cs.contains ·) with
  | nil =>
    have := dropWhile_nil (cs.contains ·) l.reverse
    rw [h, List.all_reverse] at this
    rw [← this]; rfl
  | cons x r =>
    have h1 := dropWhile_head _ _ _ _ h
    have h2 := dropWhile_nil (cs.contains ·) l.reverse
    rw [h, List.all_reverse] at h2
    rw [List.all_cons, h1, ← h2]; rfl
def smallL : List UInt8 := [97, 98, 99, 100, 101, 102, 103, 104, 105, 106, 107, 108, 109, 110, 111, 112, 113, 114, 115, 116, 117, 118, 119, 120, 121, 122]
def keySet : List UInt8 := [97, 98, 99, 100, 101, 102, 103, 104, 105, 106, 107, 108, 109, 110, 111, 112, 113, 114, 115, 116, 117, 118, 119, 120, 121, 122, 48, 49, 50, 51, 52, 53, 54, 55, 56, 57, 45, 95]
theorem keySet_byte : ∀ n, n < 256 → keySet.contains (UInt8.ofNat n) = keyByte 1 n := by decide +kernel
theorem small_byte : ∀ n, n < 256 → decide (0 ≤ Lib.indexByte smallL (UInt8.ofNat n)) = keyByte 0 n := by decide +kernel
theorem keyByte_pos (i n : Nat) (h : 0 < i) : keyByte i n = keyByte 1 n := by simp [keyByte, h]
theorem keyByte_zero (n : Nat) (h : keyByte 0 n = true) : keyByte 1 n = true := by simp [keyByte] at h ⊢; omega
theorem ofNat_toNat8 (b : UInt8) : UInt8.ofNat b.toNat = b := by simp
theorem keyTo_all (s : ByteArray) (x : UInt8) (r : List UInt8) (h : s.data.toList = x :: r) : ∀ k, k ≤ r.length → keyTo s (k + 1) = (keyByte 0 x.toNat && (r.take k).all (keySet.contains ·))
  | 0, _ => by simp [keyTo, h]
  | k + 1, hk => by
    rw [keyTo, keyTo_all s x r h k (by omega), h]
    have hg : (x :: r).getD (k + 1) 0 = r[k]'(by omega) := by simp [List.getD, List.getElem?_eq_getElem (show k < r.length by omega)]
    rw [hg, keyByte_pos (k + 1) _ (by omega), ← keySet_byte _ (UInt8.toNat_lt _), ofNat_toNat8, List.take_succ_eq_append_getElem (by omega), List.all_append, List.all_cons, List.all_nil, Bool.and_true, Bool.and_assoc]
theorem keyB_eq (s : ByteArray) (x : UInt8) (r : List UInt8) (h : s.data.toList = x :: r) (h40 : s.size ≤ 40) :
    keyB s = ((x :: r).all (keySet.contains ·) && decide (0 ≤ Lib.indexByte smallL x)) := by
  have hl : s.size = r.length + 1 := by show s.data.toList.length = _; rw [h]; rfl
  have h1 : decide (1 ≤ s.size) = true := by simp; omega
  have h2 : decide (s.size ≤ 40) = true := by simpa using h40
  rw [keyB, h1, h2, Bool.and_true, Bool.and_true, hl, keyTo_all s x r h r.length (Nat.le_refl _), List.take_length, List.all_cons]
  have e := small_byte x.toNat (UInt8.toNat_lt _)
  have e2 := keySet_byte x.toNat (UInt8.toNat_lt _)
  rw [ofNat_toNat8] at e e2
  rw [e, e2]
  cases h0 : keyByte 0 x.toNat with
  | false => simp
  | true => rw [keyByte_zero _ h0]; simp
theorem mk_toList (l : List UInt8) : (ByteArray.mk l.toArray).toList = l := by rw [ByteArray.toList_eq]
set_option maxRecDepth 100000 in
set_option maxHeartbeats 1000000 in
theorem Key_any (s : ByteArray) (hsz : s.size ≤ 1000000000000) (w : World) :
    Calls Tryz.prog 59 #[.string s] w fun e w' => e = .returned (.bool (keyB s)) ∧ Below w.heap.size w w' := by
  rcases Bool.eq_false_or_eq_true (outsideB (s.size : Int) 1 40) with o | o
  · have HV := Lib.hid (show keyB s = false by
      simp [outsideB] at o
      have : (decide (1 ≤ s.size) && decide (s.size ≤ 40)) = false := by simp; omega
      rw [keyB, Bool.and_assoc, this, Bool.and_false])
    go_enter Tryz.func59, Tryz.ntmps59
    go_wp2_with fail
    refine (in_any _ _ _ _).mono ?_
    rintro e w' ⟨rfl, rfl⟩
    rw [o]
    go_wp2_with fail
    go_ret
    exact ⟨by rw [HV.out]; rfl, Below.refl _ _⟩
  · have hb : 1 ≤ s.size ∧ s.size ≤ 40 := by simp [outsideB] at o; omega
    obtain ⟨hb1, hb2⟩ := hb
    obtain ⟨x, r, hl⟩ : ∃ x r, s.data.toList = x :: r := by
      cases hl : s.data.toList with
      | nil => exact absurd (show s.data.toList.length = 0 by rw [hl]; rfl) (by show s.size ≠ 0; omega)
      | cons x r => exact ⟨x, r, rfl⟩
    have hx : s[0]'(by omega) = x := by rw [← getD_byte s 0 (by omega), hl]; rfl
    have HV := Lib.hid (keyB_eq s x r hl hb2)
    have HT := Lib.hid (show (Lib.trimS s.data.toList keySet).isEmpty = (x :: r).all (keySet.contains ·) by rw [trimS_empty, hl])
    clear hl
    go_enter Tryz.func59, Tryz.ntmps59
    go_wp2_with fail
    refine (in_any _ _ _ _).mono ?_
    rintro e w' ⟨rfl, rfl⟩
    rw [o]
    go_wp2_with fail
    refine (Any.strings_Trim_laid Tryz.lays160 (by kernel_rfl) s ⟨keySet.toArray⟩ w (by omega) (by decide) (ascii_of_all (by decide))).mono ?_
    rintro e w1 ⟨rfl, hb⟩
    have hq : (ByteArray.mk (Lib.trimS s.data.toList keySet).toArray).toList.isEmpty = (x :: r).all (keySet.contains ·) := by rw [mk_toList]; exact HT.out
    generalize ByteArray.mk (Lib.trimS s.data.toList keySet).toArray = tr at *
    rcases Bool.eq_false_or_eq_true ((x :: r).all (keySet.contains ·)) with c | c
    · rw [c] at hq HV
      clear c HT
      go_wp2_with fail
      refine (Tryz.strings_IndexByte ⟨smallL.toArray⟩ (x.toNat : Int) w1).mono ?_
      rintro e w2 ⟨rfl, rfl⟩
      rw [show ((x.toNat : Int).toNat.toUInt8) = x by simp]
      go_wp2_with fail
      go_ret
      exact ⟨by rw [HV.out, Bool.true_and]; rfl, hb⟩
    · rw [c] at hq HV
      clear c HT
      go_wp2_with fail
      go_ret
      exact ⟨by rw [HV.out]; rfl, hb⟩
def firstTo (f : Nat → Int) : Nat → Int
  | 0 => 0
  | k + 1 => if firstTo f k = 0 then f k else firstTo f k
theorem firstTo_le {f : Nat → Int} {k n : Nat} (h : k ≤ n) (h0 : firstTo f k ≠ 0) : firstTo f n = firstTo f k := by
  induction n with
  | zero => rw [show k = 0 by omega]
  | succ n ih =>
    by_cases e : k = n + 1
    · rw [e]
    · have := ih (by omega)
      rw [firstTo, this, if_neg h0]
theorem firstTo_at {f : Nat → Int} {k n : Nat} (h : k < n) (h0 : firstTo f k = 0) (hf : f k ≠ 0) : firstTo f n = f k := by
  have e : firstTo f (k + 1) = f k := by rw [firstTo, if_pos h0]
  rw [firstTo_le (k := k + 1) h (by rw [e]; exact hf), e]
theorem firstTo_succ {f : Nat → Int} {k : Nat} (h0 : firstTo f k = 0) (hf : f k = 0) : firstTo f (k + 1) = 0 := by rw [firstTo, if_pos h0, hf]
def keyLe (a b : ByteArray) : Bool := Op.bytesLess a.toList b.toList || a.toList == b.toList
theorem bl_lt (a b : ByteArray) : Op.bytesLess a.toList b.toList = decide (a.toList < b.toList) := bytesLess_eq _ _
theorem keyLe_eq (a b : ByteArray) : keyLe a b = decide (a.toList ≤ b.toList) := by
  unfold keyLe
  rw [bl_lt]
  by_cases h : a.toList < b.toList
  · simp [h, List.le_of_lt h]
  · by_cases e : a.toList = b.toList
    · simp [e]
    · have : ¬ a.toList ≤ b.toList := fun hle => by
        rcases List.le_total a.toList b.toList with _ | _
        all_goals exact e (List.le_antisymm hle (List.not_lt.1 h))
      simp [h, e, this]
theorem cb_lt : ∀ a b : List UInt8, Lib.compareBytes a b < 0 ↔ a < b
  | [], [] => by simp [Lib.compareBytes]
  | [], _ :: _ => by simp [Lib.compareBytes]
  | _ :: _, [] => by simp [Lib.compareBytes]
  | a :: xs, b :: ys => by
    rw [Lib.compareBytes, List.cons_lt_cons_iff]
    by_cases h : a < b
    · simp [h]
    · by_cases h2 : b < a
      · simp only [h, h2, if_true, if_false, false_or]
        constructor
        · intro h3; omega
        · intro h3; rw [h3.1] at h2; exact absurd h2 (UInt8.lt_irrefl _)
      · have e : a = b := UInt8.le_antisymm (UInt8.not_lt.1 h2) (UInt8.not_lt.1 h)
        subst e
        simp only [h, if_false, false_or, true_and]
        exact cb_lt xs ys
theorem cb_eq : ∀ a b : List UInt8, Lib.compareBytes a b = 0 ↔ a = b
  | [], [] => by simp [Lib.compareBytes]
  | [], _ :: _ => by simp [Lib.compareBytes]
  | _ :: _, [] => by simp [Lib.compareBytes]
  | a :: xs, b :: ys => by
    rw [Lib.compareBytes]
    by_cases h : a < b
    · simp only [h, if_true]
      constructor
      · intro h3; omega
      · intro h3; injection h3 with e _; rw [e] at h; exact absurd h (UInt8.lt_irrefl _)
    · by_cases h2 : b < a
      · simp only [h, h2, if_true, if_false]
        constructor
        · intro h3; omega
        · intro h3; injection h3 with e _; rw [e] at h2; exact absurd h2 (UInt8.lt_irrefl _)
      · have e : a = b := UInt8.le_antisymm (UInt8.not_lt.1 h2) (UInt8.not_lt.1 h)
        subst e
        simp only [h, if_false, List.cons.injEq, true_and]
        exact cb_eq xs ys
open Go.RowKit Go.Sort Go.Proofs
section
variable {α : Type} {enc : α → List Value} {k : Nat}
theorem flatK_at (hk : ∀ x, (enc x).length = k) : ∀ (l : List α) (j i : Nat) (hj : j < l.length), i < k → (l.flatMap enc)[j * k + i]? = (enc l[j])[i]?
  | [], _, _, hj, _ => absurd hj (by simp)
  | x :: r, 0, i, _, hi => by
    rw [List.flatMap_cons, Nat.zero_mul, Nat.zero_add, List.getElem?_append_left (by rw [hk]; exact hi)]
    rfl
  | x :: r, j + 1, i, hj, hi => by
    rw [List.flatMap_cons, List.getElem?_append_right (by rw [hk, Nat.add_mul]; omega), hk, show (j + 1) * k + i - k = j * k + i by rw [Nat.add_mul]; omega, flatK_at hk r j i (by simpa using hj) hi]
    rfl
theorem flatK_len (hk : ∀ x, (enc x).length = k) : ∀ l : List α, (l.flatMap enc).length = l.length * k
  | [] => by simp
  | x :: r => by rw [List.flatMap_cons, List.length_append, hk, flatK_len hk r, List.length_cons, Nat.add_mul]; omega
variable [Inhabited α]
end
open Go.RowKit
set_option linter.unusedVariables false
set_option linter.unusedSimpArgs false
abbrev PeerD := ByteArray × List Int
def peC (p : ByteArray × Value) : List Value := [.string p.1, p.2]
def inC (zs : List Int) : List Value := zs.map (Value.int .i64)
def LstU (w : World) (lo size : Nat) (v : Value) (xs : List Value) : Prop :=
  ∃ (A : Option Addr) (n c : Nat), v = .slice A n c ∧ n ≤ c ∧ c ≤ maxLen ∧ xs.length = n * size ∧
    (0 < n → ∃ g o, A = some ⟨g, o, none⟩ ∧ lo ≤ g ∧ g < w.heap.size ∧ (∀ j u, xs[j]? = some u → w.cell? ⟨g, o + j, none⟩ = some u) ∧ ∀ j, w.frozen? ⟨g, o + j, none⟩ = false) ∧
    (A = none ∧ c = 0 ∨ ∃ g o, A = some ⟨g, o, none⟩)
theorem LstU.lst {w : World} {lo size : Nat} {v : Value} {xs : List Value} (h : LstU w lo size v xs) : Lst w lo size v xs := by
  obtain ⟨A, n, c, hv, hn, hc, hx, hr, _⟩ := h
  exact ⟨A, n, c, hv, hn, hc, hx, fun h0 => let ⟨g, o, hA, hg, hlt, hcell, _⟩ := hr h0; ⟨g, o, hA, hg, hlt, hcell⟩⟩
theorem LstU.mono {w : World} {lo lo' size : Nat} {v : Value} {xs : List Value} (h : LstU w lo size v xs) (hl : lo' ≤ lo) : LstU w lo' size v xs := by
  obtain ⟨A, n, c, hv, hn, hc, hx, hr, h9⟩ := h
  exact ⟨A, n, c, hv, hn, hc, hx, fun h0 => let ⟨g, o, hA, hg, hlt, hcell⟩ := hr h0; ⟨g, o, hA, Nat.le_trans hl hg, hlt, hcell⟩, h9⟩
theorem frozen_of_block {w w' : World} {g o : Nat} (h : w'.heap[g]? = w.heap[g]?) : w'.frozen? ⟨g, o, none⟩ = w.frozen? ⟨g, o, none⟩ := by
  simp only [World.frozen?, h]
theorem LstU.keep {w w' : World} {lo size : Nat} {v : Value} {xs : List Value} (h : LstU w lo size v xs) (hs : w.heap.size ≤ w'.heap.size)
    (hk : ∀ k, lo ≤ k → k < w.heap.size → w'.heap[k]? = w.heap[k]?) : LstU w' lo size v xs := by
  obtain ⟨A, n, c, hv, hn, hc, hx, hr, h9⟩ := h
  refine ⟨A, n, c, hv, hn, hc, hx, fun h0 => ?_, h9⟩
  obtain ⟨g, o, hA, hg, hlt, hcell, hf⟩ := hr h0
  exact ⟨g, o, hA, hg, Nat.lt_of_lt_of_le hlt hs, fun j u hu => (World.cell?_of_block (w := w) (hk g hg hlt)).trans (hcell j u hu), fun j => (frozen_of_block (hk g hg hlt)).trans (hf j)⟩
theorem LstU.of_own {w : World} {base size n : Nat} {e : TypeId} {v : Value} {xs : List Value} (h : w.ownsRow base e size v n xs) : LstU w base size v xs := by
  have h9 := Lst.of_own h
  obtain ⟨hl, h2⟩ := h
  rcases h2 with ⟨rfl, rfl⟩ | ⟨g, cap, cur, rfl, hg, hh, hnc, hcm, hsz, hx⟩
  · have : xs = [] := List.eq_nil_of_length_eq_zero (by simpa using hl)
    subst this
    exact ⟨none, 0, 0, rfl, Nat.le_refl _, Nat.zero_le _, by simp, fun h => absurd h (by omega), .inl ⟨rfl, rfl⟩⟩
  · obtain ⟨A, n', c', hv, a1, a2, a3, hr⟩ := h9
    simp only [Value.slice.injEq] at hv
    obtain ⟨rfl, rfl, rfl⟩ := hv
    refine ⟨_, _, _, rfl, a1, a2, a3, fun h0 => ?_, .inr ⟨g, 0, rfl⟩⟩
    obtain ⟨g', o', e1, b1, b2, b3⟩ := hr h0
    obtain ⟨rfl, rfl⟩ : g = g' ∧ 0 = o' := by simpa using e1
    exact ⟨g, 0, rfl, b1, b2, b3, fun j => by simp [World.frozen?, hh]⟩
def PeersAt (w : World) (lo : Nat) (v : Value) (ps : List PeerD) : Prop :=
  ∃ qs : List (ByteArray × Value), LstU w lo 2 v (qs.flatMap peC) ∧ qs.length = ps.length ∧ ∀ i (h : i < ps.length), ∃ u, qs[i]? = some (ps[i].1, u) ∧ LstU w lo 1 u (inC ps[i].2)
theorem PeersAt.keep {w w' : World} {lo : Nat} {v : Value} {ps : List PeerD} (h : PeersAt w lo v ps) (hs : w.heap.size ≤ w'.heap.size)
    (hk : ∀ k, lo ≤ k → k < w.heap.size → w'.heap[k]? = w.heap[k]?) : PeersAt w' lo v ps :=
  let ⟨qs, h1, h2, h3⟩ := h; ⟨qs, h1.keep hs hk, h2, fun i hi => let ⟨u, a, b⟩ := h3 i hi; ⟨u, a, b.keep hs hk⟩⟩
theorem PeersAt.below {w w' : World} {lo : Nat} {v : Value} {ps : List PeerD} (h : PeersAt w lo v ps) (hb : Below w.heap.size w w') : PeersAt w' lo v ps :=
  h.keep hb.size fun k _ hk => hb.block k hk
theorem PeersAt.grown {w w' : World} {lo b : Nat} {v : Value} {ps : List PeerD} (h : PeersAt w lo v ps) (hg : w.grownBy w' (some b)) (hb : b < lo) : PeersAt w' lo v ps :=
  h.keep hg.size fun k hk hlt => hg.block k hlt (fun e => by injection e with e; omega)
theorem PeersAt.mono {w : World} {lo lo' : Nat} {v : Value} {ps : List PeerD} (h : PeersAt w lo v ps) (hl : lo' ≤ lo) : PeersAt w lo' v ps :=
  let ⟨qs, h1, h2, h3⟩ := h; ⟨qs, h1.mono hl, h2, fun i hi => let ⟨u, a, b⟩ := h3 i hi; ⟨u, a, b.mono hl⟩⟩
theorem PeersAt.form {w : World} {lo : Nat} {v : Value} {ps : List PeerD} (h : PeersAt w lo v ps) : ∃ A c, v = .slice A ps.length c := by
  obtain ⟨qs, h1, h2, _⟩ := h
  obtain ⟨A, n, c, rfl, _, _, hx⟩ := h1.lst.form
  have := flatK_len (enc := peC) (k := 2) (fun _ => rfl) qs
  exact ⟨A, c, by rw [show n = ps.length by omega]⟩
theorem PeersAt.at_ {w : World} {lo n c : Nat} {A : Option Addr} {ps : List PeerD} (h : PeersAt w lo (.slice A n c) ps) {i : Nat} (hi : i < ps.length) :
    ∃ g o B m d, A = some ⟨g, o, none⟩ ∧ g < w.heap.size ∧ w.cell? ⟨g, o + i * 2, none⟩ = some (.string ps[i].1) ∧ w.cell? ⟨g, o + i * 2 + 1, none⟩ = some (.slice B m d) ∧ m = ps[i].2.length ∧ Lst w lo 1 (.slice B m d) (inC ps[i].2) := by
  obtain ⟨A', c', e⟩ := h.form
  simp only [Value.slice.injEq] at e
  obtain ⟨rfl, rfl, rfl⟩ := e
  obtain ⟨qs, h1, h2, h3⟩ := h
  obtain ⟨u, hu, hl⟩ := h3 i hi
  obtain ⟨g, o, rfl, _, hg, hc⟩ := h1.lst.open_ (by omega)
  have hip : i < qs.length := by omega
  have hpi : qs[i] = (ps[i].1, u) := by rw [List.getElem?_eq_getElem hip] at hu; simpa using hu
  have a0 := hc (i * 2 + 0) (.string ps[i].1) (by rw [flatK_at (k := 2) (fun _ => rfl) qs i 0 hip (by omega), hpi]; rfl)
  have a1 := hc (i * 2 + 1) u (by rw [flatK_at (k := 2) (fun _ => rfl) qs i 1 hip (by omega), hpi]; rfl)
  obtain ⟨B, m, d, rfl, _, _, hx⟩ := hl.lst.form
  exact ⟨g, o, B, m, d, rfl, hg, by simpa using a0, by rw [Nat.add_assoc]; exact a1, by simp [inC] at hx; omega, hl.lst⟩
theorem Lst.int {w : World} {lo n c : Nat} {A : Option Addr} {zs : List Int} (h : Lst w lo 1 (.slice A n c) (inC zs)) {j : Nat} (hj : j < zs.length) (hn : n = zs.length) :
    ∃ g o, A = some ⟨g, o, none⟩ ∧ g < w.heap.size ∧ w.cell? ⟨g, o + j, none⟩ = some (.int .i64 zs[j]) := by
  obtain ⟨g, o, rfl, _, hg, hc⟩ := h.open_ (by omega)
  exact ⟨g, o, rfl, hg, hc j _ (by simp [inC, List.getElem?_eq_getElem hj])⟩
def pAt (ps : List PeerD) (i : Nat) : PeerD := ps.getD i (.empty, [])
theorem pAt_eq (ps : List PeerD) {k : Nat} (h : k < ps.length) : pAt ps k = ps[k] := by simp [pAt, List.getD, List.getElem?_eq_getElem h]
def zAt (zs : List Int) (i : Nat) : Int := zs.getD i 0
theorem zAt_eq (zs : List Int) {k : Nat} (h : k < zs.length) : zAt zs k = zs[k] := by simp [zAt, List.getD, List.getElem?_eq_getElem h]
def hiF (m : Int) (zs : List Int) (k : Nat) : Int := if outsideB (zAt zs k) 0 (m - 1) then 1 else if decide (0 < k) && decide (zAt zs k ≤ zAt zs (k - 1)) then 7 else 0
def piF (m : Int) (ps : List PeerD) (i : Nat) : Int :=
  if keyB (pAt ps i).1 then (if decide (0 < i) && keyLe (pAt ps i).1 (pAt ps (i - 1)).1 then 7 else firstTo (hiF m (pAt ps i).2) (pAt ps i).2.length) else 5
def peersF (m : Int) (ps : List PeerD) : Int := if outsideB m 1 60 then 1 else if 50 < ps.length then 2 else firstTo (piF m ps) ps.length
def PeOk (ps : List PeerD) : Prop := ∀ p ∈ ps, p.1.size ≤ 1000000000000 ∧ p.2.length ≤ 1000 ∧ ∀ z ∈ p.2, -1000000000000000 ≤ z ∧ z ≤ 1000000000000000
def PiRel (m : Int) (ps : List PeerD) (w : World) (g : Nat) (i : Value) (wr : World) : Prop :=
  ∃ k : Nat, k + g = ps.length ∧ i = .int .i64 k ∧ firstTo (piF m ps) k = 0 ∧ Below w.heap.size w wr
def HiRel (m : Int) (zs : List Int) (w2 : World) (g : Nat) (i : Value) (wr : World) : Prop :=
  ∃ k : Nat, k + g = zs.length ∧ i = .int .i64 k ∧ firstTo (hiF m zs) k = 0 ∧ wr = w2
theorem pe_cells {w : World} {b : Nat} {u v : Value} {t : TypeId} (h : w.heap[b]? = some (.cells #[u, v] t (0, 0))) : w.cell? ⟨b, 0, none⟩ = some u ∧ w.cell? ⟨b, 1, none⟩ = some v := ⟨(stream_cells h).1, (stream_cells h).2.1⟩
theorem isKey_b (s : ByteArray) (hsz : s.size ≤ 1000000000000) (w : World) : Calls Tryz.prog 52 #[.string s] w fun e w' => e = .returned (.bool (keyB s)) ∧ Below w.heap.size w w' :=
  (isKey_any s hsz w).mono fun _ _ ⟨a, b⟩ => ⟨a, b ▸ Below.refl _ _⟩
set_option maxRecDepth 100000 in
set_option maxHeartbeats 4000000 in
theorem checkPeers_any (A : Option Addr) (lo c : Nat) (ps : List PeerD) (m : Int) (w : World) (hf : PeersAt w lo (.slice A ps.length c) ps) (hok : PeOk ps) (hn : ps.length ≤ 50) (_hm0 : -1000000 ≤ m) (_hm1 : m ≤ 1000000) :
    Calls Tryz.prog 89 #[.slice A ps.length c, .int .i64 m] w fun e w' => e = .returned (.int .i64 (peersF m ps)) ∧ Below w.heap.size w w' := by
  have HN := Lib.hid hf
  have HOK := Lib.hid hok
  obtain ⟨v, hv⟩ : ∃ v, v = peersF m ps := ⟨_, rfl⟩
  rw [← hv]
  have HV := Lib.hid hv
  clear hf hok hv
  go_enter Tryz.func89, Tryz.ntmps89
  go_wp2_with fail
  refine (outside_any m 1 60 _).mono ?_
  rintro e w' ⟨rfl, rfl⟩
  rcases Bool.eq_false_or_eq_true (outsideB m 1 60) with ho | ho
  · have H1 := Lib.hid (show v = 1 by rw [HV.out, peersF, ho]; rfl)
    rw [ho]
    clear ho HV
    go_wp2_with fail
    go_ret
    exact ⟨ret_int H1.out.symm, Below.refl _ _⟩
  · have HW := Lib.hid (show v = firstTo (piF m ps) ps.length by rw [HV.out, peersF, ho, if_neg (by decide), if_neg (by omega)])
    rw [ho]
    clear ho HV
    go_wp2_with fail
    go_loopg [16, 5, 6, 7, 8] ps.length (fun g i _ _ _ _ wr => PiRel m ps w g i wr)
    case atStart => exact ⟨0, by omega, rfl, rfl, Below.refl _ _⟩
    case round =>
      obtain ⟨k, hk, rfl, hz0, hb⟩ := hrel
      by_cases hg : gk = 0
      · obtain rfl : k = ps.length := by omega
        have HX := Lib.hid (HW.out.trans hz0)
        clear hk hz0 hg
        go_wp2_with fail
        go_ret
        exact ⟨ret_int HX.out.symm, hb⟩
      · have hlt : k < ps.length := by omega
        obtain ⟨g, o, B, mm, d, rfl, hgl, cK, cB, hmm, hL⟩ := (HN.out.below hb).at_ hlt
        have hox := HOK.out _ (List.getElem_mem hlt)
        have HA := Lib.hid (pAt_eq ps hlt)
        have HK := Lib.hid hk
        have HZ := Lib.hid hz0
        have hgk : gk ≠ 0 := hg
        clear hk hz0 hg
        generalize ps[k] = x at *
        obtain ⟨key, zs⟩ := x
        obtain ⟨hks, hzl, hzb⟩ : key.size ≤ 1000000000000 ∧ zs.length ≤ 1000 ∧ ∀ z ∈ zs, -1000000000000000 ≤ z ∧ z ≤ 1000000000000000 := hox
        have HZB := Lib.hid hzb
        obtain rfl : mm = zs.length := hmm
        have HFI := Lib.hid (show piF m ps k = if keyB key then (if decide (0 < k) && keyLe key (pAt ps (k - 1)).1 then 7 else firstTo (hiF m zs) zs.length) else 5 by rw [piF, HA.out])
        clear hzb
        go_wp2_with fail
        have hb0 := bbox hb (.cells #[.string key, .slice B zs.length d] 71)
        have HX := Lib.hid (heap_alloc_new wr (.cells #[.string key, .slice B zs.length d] 71))
        have HLL := Lib.hid (show Lst (wr.alloc (.cells #[.string key, .slice B zs.length d] 71)) lo 1 (.slice B zs.length d) (inC zs) from hL.below (bfirst _ _))
        generalize wr.alloc (.cells #[.string key, .slice B zs.length d] 71) = w0 at *
        refine (isKey_b key hks _).mono ?_
        rintro e w1 ⟨rfl, hb1⟩
        have hb2 := bon hb0 hb1
        have hM := (hb1.block wr.heap.size (block_lt HX.out)).trans HX.out
        have c0 := (pe_cells hM).1
        have c1 := (pe_cells hM).2
        have hl1 := block_lt hM
        have HL1 := Lib.hid (HLL.out.below hb1)
        have HPREV : Hid (∀ k', k = k' + 1 → w1.cell? ⟨g, o + k' * 2, none⟩ = some (.string (pAt ps k').1)) := fun k' e => by
          subst e
          obtain ⟨g2, o2, _, _, _, e2, _, h2, _⟩ := (HN.out.below hb2).at_ (i := k') (by omega)
          simp only [Option.some.injEq, Addr.mk.injEq] at e2
          obtain ⟨rfl, rfl, _⟩ := e2
          rw [pAt_eq ps (by omega : k' < ps.length)]
          exact h2
        clear hM HX hb1 hb0 cK cB hb HA HLL hL hgl
        generalize wr.heap.size = pb at *
        clear w0
        rcases Bool.eq_false_or_eq_true (keyB key) with hkb | hkb
        rotate_left
        · have H5 := Lib.hid (show v = 5 by rw [HW.out, firstTo_at hlt HZ.out (by rw [HFI.out, hkb, if_neg Bool.false_ne_true]; decide), HFI.out, hkb]; rfl)
          rw [hkb]
          clear hkb HFI
          go_wp2_with fail
          go_ret
          exact ⟨ret_int H5.out.symm, hb2⟩
        · rw [hkb, if_pos rfl] at HFI
          rw [hkb]
          clear hkb
          go_upto_region 10 with fail
          go_cut [37] (fun s wx => s = .bool (decide (0 < k) && keyLe key (pAt ps (k - 1)).1) ∧ ∃ q, wx = w1.drewN q)
          case first =>
            rcases k with _ | k'
            · have hd : decide ((0 : Int) < ((0 : Nat) : Int)) = false := by decide
              go_quiet (fail)
              go_wp2_with fail
              go_meet
              exact ⟨rfl, _, rfl⟩
            · have cP := HPREV.out k' rfl
              have hd : decide ((0 : Int) < ((k' + 1 : Nat) : Int)) = true := by simp
              go_quiet (fail)
              go_wp2_with fail
              go_meet
              exact ⟨by simp [keyLe], _, rfl⟩
          case rest =>
            obtain ⟨rfl, q, rfl⟩ := hcut
            have d1 : (w1.drewN q).cell? ⟨pb, 1, none⟩ = some (.slice B zs.length d) := c1
            have hb3 : Below w.heap.size w (w1.drewN q) := below_drewN hb2 q
            have hl2 : pb < (w1.drewN q).heap.size := hl1
            have HL2 : Hid (Lst (w1.drewN q) lo 1 (.slice B zs.length d) (inC zs)) := HL1.out
            clear HPREV c0 c1 hb2 hl1 HL1
            generalize w1.drewN q = w2 at *
            clear w1
            rcases Bool.eq_false_or_eq_true (decide (0 < k) && keyLe key (pAt ps (k - 1)).1) with hc | hc
            · have H7 := Lib.hid (show v = 7 by rw [HW.out, firstTo_at hlt HZ.out (by rw [HFI.out, hc, if_pos rfl]; decide), HFI.out, hc]; rfl)
              rw [hc]
              clear hc HFI
              go_wp2_with fail
              go_ret
              exact ⟨ret_int H7.out.symm, hb3⟩
            · rw [hc] at HFI ⊢
              clear hc
              have HFJ := Lib.hid (show piF m ps k = firstTo (hiF m zs) zs.length from HFI.out)
              clear HFI
              go_wp2_with fail
              obtain ⟨gq, rfl⟩ : ∃ gq, gq = gk := ⟨_, rfl⟩
              clear wr
              go_loopg [41, 7, 8] zs.length (fun g i _ _ wx => HiRel m zs w2 g i wx)
              case atStart => exact ⟨0, by omega, rfl, rfl, rfl⟩
              case round =>
                obtain ⟨j, hj, rfl, hz1, rfl⟩ := hrel
                by_cases hg1 : gk = 0
                · obtain rfl : j = zs.length := by omega
                  have H0 := Lib.hid (firstTo_succ HZ.out (by rw [HFJ.out]; exact hz1))
                  clear hz1 hj
                  go_wp2_with fail
                  go_roundg (gq - 1)
                  case measure => omega
                  case rel => exact ⟨k + 1, by have := HK.out; omega, by go_num, H0.out, hb3⟩
                · have hjl : j < zs.length := by omega
                  obtain ⟨g2, o2, rfl, hg2, e0⟩ := HL2.out.int hjl rfl
                  have hzz := HZB.out _ (List.getElem_mem hjl)
                  have HHI := Lib.hid (show hiF m zs j = if outsideB zs[j] 0 (m - 1) then 1 else if decide (0 < j) && decide (zs[j] ≤ zAt zs (j - 1)) then 7 else 0 by rw [hiF, zAt_eq zs hjl])
                  have HPZ : Hid (∀ j', j = j' + 1 → wr.cell? ⟨g2, o2 + j', none⟩ = some (.int .i64 (zAt zs j'))) := fun j' e => by
                    subst e
                    obtain ⟨g3, o3, e3, _, h3⟩ := HL2.out.int (j := j') (by omega) rfl
                    simp only [Option.some.injEq, Addr.mk.injEq] at e3
                    obtain ⟨rfl, rfl, _⟩ := e3
                    rw [zAt_eq zs (by omega : j' < zs.length)]
                    exact h3
                  have HJ := Lib.hid hj
                  have HZ1 := Lib.hid hz1
                  have hgk : gk ≠ 0 := hg1
                  clear hj hz1 hg1
                  generalize zs[j] = z at *
                  obtain ⟨za, zb⟩ := hzz
                  have HKY := Lib.hid (show ∀ x : Int, x ≠ 0 → hiF m zs j = x → v = x from fun x hx e => by rw [HW.out, firstTo_at hlt HZ.out (by rw [HFJ.out, firstTo_at hjl HZ1.out (by rw [e]; exact hx), e]; exact hx), HFJ.out, firstTo_at hjl HZ1.out (by rw [e]; exact hx), e])
                  go_wp2_with fail
                  refine (outside_any z 0 (m - 1) _).mono ?_
                  rintro e w' ⟨rfl, rfl⟩
                  rcases Bool.eq_false_or_eq_true (outsideB z 0 (m - 1)) with hq | hq
                  · have H1 := Lib.hid (HKY.out 1 (by decide) (by rw [HHI.out, hq]; rfl))
                    rw [hq]
                    clear hq HHI
                    go_wp2_with fail
                    go_ret
                    exact ⟨ret_int H1.out.symm, hb3⟩
                  · rw [hq] at HHI ⊢
                    clear hq
                    have HH2 := Lib.hid (show hiF m zs j = if decide (0 < j) && decide (z ≤ zAt zs (j - 1)) then 7 else 0 from HHI.out)
                    clear HHI
                    go_upto_region 17 with fail
                    go_cut [61] (fun s wx => s = .bool (decide (0 < j) && decide (z ≤ zAt zs (j - 1))) ∧ wr = wx)
                    case first =>
                      rcases j with _ | j'
                      · have hd : decide ((0 : Int) < ((0 : Nat) : Int)) = false := by decide
                        go_wp2_with fail
                        go_meet
                        exact ⟨rfl, rfl⟩
                      · have cP := HPZ.out j' rfl
                        have hd : decide ((0 : Int) < ((j' + 1 : Nat) : Int)) = true := by simp
                        go_wp2_with fail
                        go_meet
                        exact ⟨by simp, rfl⟩
                    case rest =>
                      obtain ⟨rfl, rfl⟩ := hcut
                      rcases Bool.eq_false_or_eq_true (decide (0 < j) && decide (z ≤ zAt zs (j - 1))) with hc | hc
                      · have H7 := Lib.hid (HKY.out 7 (by decide) (by rw [HH2.out, hc]; rfl))
                        rw [hc]
                        clear hc HH2
                        go_wp2_with fail
                        go_ret
                        exact ⟨ret_int H7.out.symm, hb3⟩
                      · have H0 := Lib.hid (firstTo_succ HZ1.out (by rw [HH2.out, hc]; rfl))
                        rw [hc]
                        clear hc HH2
                        go_wp2_with fail
                        go_roundg (gk - 1)
                        case measure => omega
                        case rel => exact ⟨j + 1, by have := HJ.out; omega, by go_num, H0.out, rfl⟩
set_option maxRecDepth 100000 in
set_option maxHeartbeats 4000000 in
theorem peersFault_any (A : Option Addr) (lo c : Nat) (ps : List PeerD) (m : Int) (w : World) (hf : PeersAt w lo (.slice A ps.length c) ps) (hok : PeOk ps) (hn : ps.length ≤ 50) (_hm0 : -1000000 ≤ m) (_hm1 : m ≤ 1000000) :
    Calls Tryz.prog 43 #[.slice A ps.length c, .int .i64 m] w fun e w' => e = .returned (.int .i64 (peersF m ps)) ∧ Below w.heap.size w w' := by
  have HN := Lib.hid hf
  have HOK := Lib.hid hok
  obtain ⟨v, hv⟩ : ∃ v, v = peersF m ps := ⟨_, rfl⟩
  rw [← hv]
  have HV := Lib.hid hv
  clear hf hok hv
  go_enter Tryz.func43, Tryz.ntmps43
  go_wp2_with fail
  refine (in_any m 1 60 _).mono ?_
  rintro e w' ⟨rfl, rfl⟩
  rcases Bool.eq_false_or_eq_true (outsideB m 1 60) with ho | ho
  · have H1 := Lib.hid (show v = 1 by rw [HV.out, peersF, ho]; rfl)
    rw [ho]
    clear ho HV
    go_wp2_with fail
    go_ret
    exact ⟨ret_int H1.out.symm, Below.refl _ _⟩
  · have HW := Lib.hid (show v = firstTo (piF m ps) ps.length by rw [HV.out, peersF, ho, if_neg (by decide), if_neg (by omega)])
    rw [ho]
    clear ho HV
    go_wp2_with fail
    go_loopg [19, 5, 6, 7, 8] ps.length (fun g i _ _ _ _ wr => PiRel m ps w g i wr)
    case atStart => exact ⟨0, by omega, rfl, rfl, Below.refl _ _⟩
    case round =>
      obtain ⟨k, hk, rfl, hz0, hb⟩ := hrel
      by_cases hg : gk = 0
      · obtain rfl : k = ps.length := by omega
        have HX := Lib.hid (HW.out.trans hz0)
        clear hk hz0 hg
        go_wp2_with fail
        go_ret
        exact ⟨ret_int HX.out.symm, hb⟩
      · have hlt : k < ps.length := by omega
        obtain ⟨g, o, B, mm, d, rfl, hgl, cK, cB, hmm, hL⟩ := (HN.out.below hb).at_ hlt
        have hox := HOK.out _ (List.getElem_mem hlt)
        have HA := Lib.hid (pAt_eq ps hlt)
        have HK := Lib.hid hk
        have HZ := Lib.hid hz0
        have hgk : gk ≠ 0 := hg
        clear hk hz0 hg
        generalize ps[k] = x at *
        obtain ⟨key, zs⟩ := x
        obtain ⟨hks, hzl, hzb⟩ : key.size ≤ 1000000000000 ∧ zs.length ≤ 1000 ∧ ∀ z ∈ zs, -1000000000000000 ≤ z ∧ z ≤ 1000000000000000 := hox
        have HZB := Lib.hid hzb
        obtain rfl : mm = zs.length := hmm
        have HFI := Lib.hid (show piF m ps k = if keyB key then (if decide (0 < k) && keyLe key (pAt ps (k - 1)).1 then 7 else firstTo (hiF m zs) zs.length) else 5 by rw [piF, HA.out])
        clear hzb
        go_wp2_with fail
        have hb0 := bbox hb (.cells #[.string key, .slice B zs.length d] 71)
        have HX := Lib.hid (heap_alloc_new wr (.cells #[.string key, .slice B zs.length d] 71))
        have HLL := Lib.hid (show Lst (wr.alloc (.cells #[.string key, .slice B zs.length d] 71)) lo 1 (.slice B zs.length d) (inC zs) from hL.below (bfirst _ _))
        generalize wr.alloc (.cells #[.string key, .slice B zs.length d] 71) = w0 at *
        refine (Key_any key hks _).mono ?_
        rintro e w1 ⟨rfl, hb1⟩
        have hb2 := bon hb0 hb1
        have hM := (hb1.block wr.heap.size (block_lt HX.out)).trans HX.out
        have c0 := (pe_cells hM).1
        have c1 := (pe_cells hM).2
        have hl1 := block_lt hM
        have HL1 := Lib.hid (HLL.out.below hb1)
        have HPREV : Hid (∀ k', k = k' + 1 → w1.cell? ⟨g, o + k' * 2, none⟩ = some (.string (pAt ps k').1)) := fun k' e => by
          subst e
          obtain ⟨g2, o2, _, _, _, e2, _, h2, _⟩ := (HN.out.below hb2).at_ (i := k') (by omega)
          simp only [Option.some.injEq, Addr.mk.injEq] at e2
          obtain ⟨rfl, rfl, _⟩ := e2
          rw [pAt_eq ps (by omega : k' < ps.length)]
          exact h2
        clear hM HX hb1 hb0 cK cB hb HA HLL hL hgl
        generalize wr.heap.size = pb at *
        clear w0
        rcases Bool.eq_false_or_eq_true (keyB key) with hkb | hkb
        rotate_left
        · have H5 := Lib.hid (show v = 5 by rw [HW.out, firstTo_at hlt HZ.out (by rw [HFI.out, hkb, if_neg Bool.false_ne_true]; decide), HFI.out, hkb]; rfl)
          rw [hkb]
          clear hkb HFI
          go_wp2_with fail
          go_ret
          exact ⟨ret_int H5.out.symm, hb2⟩
        · rw [hkb, if_pos rfl] at HFI
          rw [hkb]
          clear hkb
          go_upto_region 10 with fail
          go_cut [29] (fun s wx => s = .bool (decide (0 < k) && keyLe key (pAt ps (k - 1)).1) ∧ ∃ q, wx = w1.drewN q)
          case first =>
            rcases k with _ | k'
            · have hd : decide ((0 : Int) < ((0 : Nat) : Int)) = false := by decide
              go_quiet (fail)
              go_wp2_with fail
              go_meet
              exact ⟨rfl, _, rfl⟩
            · have cP := HPREV.out k' rfl
              have hd : decide ((0 : Int) < ((k' + 1 : Nat) : Int)) = true := by simp
              go_quiet (fail)
              go_wp2_with fail
              go_meet
              exact ⟨by simp [keyLe], _, rfl⟩
          case rest =>
            obtain ⟨rfl, q, rfl⟩ := hcut
            have d1 : (w1.drewN q).cell? ⟨pb, 1, none⟩ = some (.slice B zs.length d) := c1
            have hb3 : Below w.heap.size w (w1.drewN q) := below_drewN hb2 q
            have hl2 : pb < (w1.drewN q).heap.size := hl1
            have HL2 : Hid (Lst (w1.drewN q) lo 1 (.slice B zs.length d) (inC zs)) := HL1.out
            clear HPREV c0 c1 hb2 hl1 HL1
            generalize w1.drewN q = w2 at *
            clear w1
            rcases Bool.eq_false_or_eq_true (decide (0 < k) && keyLe key (pAt ps (k - 1)).1) with hc | hc
            · have H7 := Lib.hid (show v = 7 by rw [HW.out, firstTo_at hlt HZ.out (by rw [HFI.out, hc, if_pos rfl]; decide), HFI.out, hc]; rfl)
              rw [hc]
              clear hc HFI
              go_wp2_with fail
              go_ret
              exact ⟨ret_int H7.out.symm, hb3⟩
            · rw [hc] at HFI ⊢
              clear hc
              have HFJ := Lib.hid (show piF m ps k = firstTo (hiF m zs) zs.length from HFI.out)
              clear HFI
              go_wp2_with fail
              obtain ⟨gq, rfl⟩ : ∃ gq, gq = gk := ⟨_, rfl⟩
              clear wr
              go_loopg [46, 7, 8] zs.length (fun g i _ _ wx => HiRel m zs w2 g i wx)
              case atStart => exact ⟨0, by omega, rfl, rfl, rfl⟩
              case round =>
                obtain ⟨j, hj, rfl, hz1, rfl⟩ := hrel
                by_cases hg1 : gk = 0
                · obtain rfl : j = zs.length := by omega
                  have H0 := Lib.hid (firstTo_succ HZ.out (by rw [HFJ.out]; exact hz1))
                  clear hz1 hj
                  go_wp2_with fail
                  go_roundg (gq - 1)
                  case measure => omega
                  case rel => exact ⟨k + 1, by have := HK.out; omega, by go_num, H0.out, hb3⟩
                · have hjl : j < zs.length := by omega
                  obtain ⟨g2, o2, rfl, hg2, e0⟩ := HL2.out.int hjl rfl
                  have hzz := HZB.out _ (List.getElem_mem hjl)
                  have HHI := Lib.hid (show hiF m zs j = if outsideB zs[j] 0 (m - 1) then 1 else if decide (0 < j) && decide (zs[j] ≤ zAt zs (j - 1)) then 7 else 0 by rw [hiF, zAt_eq zs hjl])
                  have HPZ : Hid (∀ j', j = j' + 1 → wr.cell? ⟨g2, o2 + j', none⟩ = some (.int .i64 (zAt zs j'))) := fun j' e => by
                    subst e
                    obtain ⟨g3, o3, e3, _, h3⟩ := HL2.out.int (j := j') (by omega) rfl
                    simp only [Option.some.injEq, Addr.mk.injEq] at e3
                    obtain ⟨rfl, rfl, _⟩ := e3
                    rw [zAt_eq zs (by omega : j' < zs.length)]
                    exact h3
                  have HJ := Lib.hid hj
                  have HZ1 := Lib.hid hz1
                  have hgk : gk ≠ 0 := hg1
                  clear hj hz1 hg1
                  generalize zs[j] = z at *
                  obtain ⟨za, zb⟩ := hzz
                  have HKY := Lib.hid (show ∀ x : Int, x ≠ 0 → hiF m zs j = x → v = x from fun x hx e => by rw [HW.out, firstTo_at hlt HZ.out (by rw [HFJ.out, firstTo_at hjl HZ1.out (by rw [e]; exact hx), e]; exact hx), HFJ.out, firstTo_at hjl HZ1.out (by rw [e]; exact hx), e])
                  go_upto_region 15 with fail
                  go_cut [51] (fun s wx => s = .bool (outsideB z 0 (m - 1)) ∧ wr = wx)
                  case first =>
                    by_cases h1 : z < 0
                    · have h1' : decide (z < 0) = true := decide_eq_true h1
                      have HQ := Lib.hid (show outsideB z 0 (m - 1) = true by simp [outsideB]; omega)
                      clear h1
                      go_wp2_with fail
                      go_meet
                      exact ⟨by rw [HQ.out], rfl⟩
                    · have h1' : decide (z < 0) = false := decide_eq_false h1
                      have HQ := Lib.hid (show outsideB z 0 (m - 1) = decide (m ≤ z) by rw [Bool.eq_iff_iff]; simp [outsideB]; omega)
                      clear h1
                      go_wp2_with fail
                      go_meet
                      exact ⟨by rw [HQ.out], rfl⟩
                  case rest =>
                    obtain ⟨rfl, rfl⟩ := hcut
                    rcases Bool.eq_false_or_eq_true (outsideB z 0 (m - 1)) with hq | hq
                    · have H1 := Lib.hid (HKY.out 1 (by decide) (by rw [HHI.out, hq]; rfl))
                      rw [hq]
                      clear hq HHI
                      go_wp2_with fail
                      go_ret
                      exact ⟨ret_int H1.out.symm, hb3⟩
                    · rw [hq] at HHI ⊢
                      clear hq
                      have HH2 := Lib.hid (show hiF m zs j = if decide (0 < j) && decide (z ≤ zAt zs (j - 1)) then 7 else 0 from HHI.out)
                      clear HHI
                      go_upto_region 17 with fail
                      go_cut [59] (fun s wx => s = .bool (decide (0 < j) && decide (z ≤ zAt zs (j - 1))) ∧ wr = wx)
                      case first =>
                        rcases j with _ | j'
                        · have hd : decide ((0 : Int) < ((0 : Nat) : Int)) = false := by decide
                          go_wp2_with fail
                          go_meet
                          exact ⟨rfl, rfl⟩
                        · have cP := HPZ.out j' rfl
                          have hd : decide ((0 : Int) < ((j' + 1 : Nat) : Int)) = true := by simp
                          go_wp2_with fail
                          go_meet
                          exact ⟨by simp, rfl⟩
                      case rest =>
                        obtain ⟨rfl, rfl⟩ := hcut
                        rcases Bool.eq_false_or_eq_true (decide (0 < j) && decide (z ≤ zAt zs (j - 1))) with hc | hc
                        · have H7 := Lib.hid (HKY.out 7 (by decide) (by rw [HH2.out, hc]; rfl))
                          rw [hc]
                          clear hc HH2
                          go_wp2_with fail
                          go_ret
                          exact ⟨ret_int H7.out.symm, hb3⟩
                        · have H0 := Lib.hid (firstTo_succ HZ1.out (by rw [HH2.out, hc]; rfl))
                          rw [hc]
                          clear hc HH2
                          go_wp2_with fail
                          go_roundg (gk - 1)
                          case measure => omega
                          case rel => exact ⟨j + 1, by have := HJ.out; omega, by go_num, H0.out, rfl⟩
theorem PeersAt.at2 {w : World} {lo c n : Nat} {A : Option Addr} {fs : List PeerD} (h : PeersAt w lo (.slice A n c) fs) (hn : n = fs.length) :
    ∃ y : Nat → Value, At2 w A n (fun i => .string (pAt fs i).1) y ∧ ∀ i, i < n → Lst w lo 1 (y i) (inC (pAt fs i).2) := by
  have hy : ∀ i, ∃ v : Value, i < n → ∃ b o, A = some ⟨b, o, none⟩ ∧ b < w.heap.size ∧ w.cell? ⟨b, o + i * 2, none⟩ = some (.string (pAt fs i).1) ∧ w.cell? ⟨b, o + i * 2 + 1, none⟩ = some v ∧ Lst w lo 1 v (inC (pAt fs i).2) := by
    intro i
    by_cases hi : i < n
    · obtain ⟨g, o, B, m, d, hA, hg, c0, c1, _, hl⟩ := h.at_ (i := i) (by omega)
      rw [← pAt_eq fs (by omega)] at c0 hl
      exact ⟨.slice B m d, fun _ => ⟨g, o, hA, hg, c0, c1, hl⟩⟩
    · exact ⟨.bool true, fun h => absurd h hi⟩
  refine ⟨fun i => (hy i).choose, fun i hi => ?_, fun i hi => ?_⟩
  · obtain ⟨b, o, e, hl, c0, c1, _⟩ := (hy i).choose_spec hi
    exact ⟨b, o, e, hl, c0, c1⟩
  · obtain ⟨_, _, _, _, _, _, h⟩ := (hy i).choose_spec hi
    exact h
theorem piF_zero {m : Int} {fs : List PeerD} (h : peersF m fs = 0) : firstTo (piF m fs) fs.length = 0 := by
  unfold peersF at h
  split at h
  · omega
  · split at h
    · omega
    · exact h
theorem piF_all {m : Int} {fs : List PeerD} (h : peersF m fs = 0) {i : Nat} (hi : i < fs.length) : piF m fs i = 0 := by
  have h := piF_zero h
  by_cases e : piF m fs i = 0
  · exact e
  · have hz : firstTo (piF m fs) i = 0 := by
      by_cases z : firstTo (piF m fs) i = 0
      · exact z
      · have := firstTo_le (f := piF m fs) (n := fs.length) (by omega) z; omega
    have := firstTo_at (f := piF m fs) hi hz e; omega
theorem filesF_rise {m : Int} {fs : List PeerD} (h : peersF m fs = 0) : ∀ {i j : Nat}, i < j → j < fs.length → (pAt fs i).1.toList < (pAt fs j).1.toList := by
  have key : ∀ i, i + 1 < fs.length → (pAt fs i).1.toList < (pAt fs (i + 1)).1.toList := fun i hi => by
    have h0 := piF_all h hi
    unfold piF at h0
    split at h0
    · split at h0
      · omega
      · rename_i hk
        simp only [Nat.add_sub_cancel, keyLe_eq] at hk
        simp at hk
        simpa using hk
    · omega
  intro i j hij hj
  induction j with
  | zero => omega
  | succ j ih =>
    have h1 := key j hj
    rcases Nat.lt_or_ge i j with h2 | h2
    · exact List.lt_trans (ih h2 (by omega)) h1
    · rw [show i = j by omega]; exact h1
def cmpKP (key : ByteArray) (fs : List PeerD) (i : Nat) : Int := Lib.compareBytes (pAt fs i).1.data.toList key.data.toList
def isK (key : ByteArray) (fs : List PeerD) (i : Nat) : Bool := (pAt fs i).1.toList == key.toList
theorem isK_eq (key : ByteArray) (fs : List PeerD) (i : Nat) : isK key fs i = decide (cmpKP key fs i = 0) := by
  unfold isK cmpKP
  rw [Bool.eq_iff_iff]
  simp [cb_eq, ByteArray.toList_eq]
theorem cmpK_lt (key : ByteArray) (fs : List PeerD) (i : Nat) : cmpKP key fs i < 0 ↔ (pAt fs i).1.toList < key.toList := by
  unfold cmpKP; rw [cb_lt, ByteArray.toList_eq, ByteArray.toList_eq]
theorem cmpK_eq (key : ByteArray) (fs : List PeerD) (i : Nat) : cmpKP key fs i = 0 ↔ (pAt fs i).1.toList = key.toList := by
  unfold cmpKP; rw [cb_eq, ByteArray.toList_eq, ByteArray.toList_eq]
def keyAt (key : ByteArray) (fs : List PeerD) : Int := idxI (isK key fs) fs.length
theorem cmpK_mono {key : ByteArray} {m : Int} {fs : List PeerD} (h : peersF m fs = 0) : ∀ a b, a ≤ b → b < fs.length → cmpKP key fs b < 0 → cmpKP key fs a < 0 := by
  intro a b hab hb hc
  rcases Nat.lt_or_ge a b with h1 | h1
  · rw [cmpK_lt] at hc ⊢
    exact List.lt_trans (filesF_rise h h1 hb) hc
  · rw [show a = b by omega]; exact hc
theorem keyAt_found {key : ByteArray} {m : Int} {fs : List PeerD} {lo : Nat} (h : peersF m fs = 0) (hb : Bound (cmpKP key fs) fs.length lo lo) :
    (decide (lo < fs.length) && decide (cmpKP key fs lo = 0)) = decide (0 ≤ keyAt key fs) ∧ (0 ≤ keyAt key fs → (lo : Int) = keyAt key fs) := by
  have hlow : ∀ j, j < lo → isK key fs j = false := fun j hj => by
    have := hb.below j hj
    rw [isK_eq]; simp; omega
  by_cases h1 : lo < fs.length ∧ cmpKP key fs lo = 0
  · have e : keyAt key fs = lo := idxI_hit h1.1 (by rw [isK_eq]; simpa using h1.2) hlow
    rw [e]; simp [h1.1, h1.2]
  · have e : keyAt key fs = -1 := idxI_miss fun j hj => by
      rcases Nat.lt_or_ge j lo with h2 | h2
      · exact hlow j h2
      · rw [isK_eq]
        apply decide_eq_false
        intro h3
        rcases Nat.lt_or_ge lo j with h4 | h4
        · have h5 := filesF_rise h h4 hj
          rw [cmpK_eq] at h3
          rw [h3] at h5
          have h6 := hb.above lo (Nat.le_refl _) (by omega)
          rw [← cmpK_lt] at h5; omega
        · obtain rfl : j = lo := by omega
          exact h1 ⟨hj, h3⟩
    rw [e]
    refine ⟨?_, fun h => by omega⟩
    simp; intro h2 h3; exact h1 ⟨h2, h3⟩
set_option maxRecDepth 100000 in
set_option maxHeartbeats 1000000 in
theorem peerAt_cmp (k key : ByteArray) (y : Value) (w : World) :
    Calls Tryz.prog 171 #[.agg #[.string k, y], .string key] w fun e w' => e = .returned (.int .i64 (Lib.compareBytes k.data.toList key.data.toList)) ∧ Below w.heap.size w w' := by
  go_enter Tryz.func171, Tryz.ntmps171
  go_wp2_with fail
  refine (Tryz.strings_Compare k key _).mono ?_
  rintro e w1 ⟨rfl, rfl⟩
  go_wp2_with fail
  go_ret
  exact ⟨rfl, bfirst _ _⟩
set_option maxRecDepth 100000 in
set_option maxHeartbeats 1000000 in
theorem peerAt_is (k key : ByteArray) (y : Value) (B : Nat) (w : World) (hB : w.cell? ⟨B, 0, none⟩ = some (.string key)) :
    Calls Tryz.prog 135 #[.agg #[.string k, y], .pointer (some ⟨B, 0, none⟩)] w fun e w' => e = .returned (.bool (k.toList == key.toList)) ∧ Below w.heap.size w w' := by
  have hl := World.block_lt_of_cell? w _ hB
  go_enter Tryz.func135, Tryz.ntmps135
  go_wp2_with fail
  go_ret
  exact ⟨rfl, bfirst _ _⟩
def PeerFound (key : ByteArray) (fs : List PeerD) (w : World) (e : Ending) (w' : World) : Prop :=
  ∃ i : Int, e = .returned (.tuple #[.int .i64 i, .bool (decide (0 ≤ keyAt key fs))]) ∧ (0 ≤ keyAt key fs → i = keyAt key fs) ∧ Below w.heap.size w w'
set_option maxRecDepth 100000 in
set_option maxHeartbeats 1000000 in
theorem peerAt_any (A : Option Addr) (lo c : Nat) (fs : List PeerD) (key : ByteArray) (w : World) (hf : PeersAt w lo (.slice A fs.length c) fs) (hn : fs.length ≤ 300) (m : Int) (hz : peersF m fs = 0) :
    Calls Tryz.prog 137 #[.slice A fs.length c, .string key] w (PeerFound key fs w) := by
  obtain ⟨y, hA, _⟩ := hf.at2 rfl
  have HS := Lib.hid (searchFuncPeer A fs.length c _ y (.string key) (cmpKP key fs) 171 #[] (enters_of Tryz.func171 (by kernel_rfl) rfl) w hA (fun W i hi hb => peerAt_cmp _ key _ W) (by omega) (cmpK_mono hz))
  have HZ := Lib.hid hz
  clear hf hA hz
  go_enter Tryz.func137, Tryz.ntmps137
  go_wp2_with fail
  refine HS.out.mono ?_
  rintro e w1 ⟨i, hi, hbd, rfl, hb1⟩
  have HK := Lib.hid (keyAt_found HZ.out hbd)
  rw [HK.out.1]
  clear hbd
  go_wp2_with fail
  go_ret2
  exact ⟨i, rfl, HK.out.2, hb1⟩
set_option maxRecDepth 100000 in
set_option maxHeartbeats 1000000 in
theorem peerAtOf_any (A : Option Addr) (lo c : Nat) (fs : List PeerD) (key : ByteArray) (w : World) (hf : PeersAt w lo (.slice A fs.length c) fs) (hn : fs.length ≤ 300) :
    Calls Tryz.prog 87 #[.slice A fs.length c, .string key] w fun e w' => e = .returned (.int .i64 (keyAt key fs)) ∧ Below w.heap.size w w' := by
  have hb0 := bfirst w (.cells #[.string key] 9)
  obtain ⟨y, hA, _⟩ := (hf.below hb0).at2 rfl
  have HS := Lib.hid (indexFuncPeer A fs.length c _ y (isK key fs) 135 #[.pointer (some ⟨w.heap.size, 0, none⟩)] (enters_of Tryz.func135 (by kernel_rfl) rfl) (w.alloc (.cells #[.string key] 9)) hA
    (fun W i hi hb => peerAt_is _ key _ w.heap.size W (bold hb (cell_new_list w _ _ 0 _ rfl))) (by omega))
  clear hf hA
  go_enter Tryz.func87, Tryz.ntmps87
  go_wp2_with fail
  refine HS.out.mono ?_
  rintro e w1 ⟨rfl, hb1⟩
  go_wp2_with fail
  go_ret
  exact ⟨rfl, bon hb0 hb1⟩
def slc (g n : Nat) : Value := .slice (some ⟨g, 0, none⟩) n n
def rowC (m : Nat) (f : Nat → Bool) : List Value := (List.range m).map fun j => Value.bool (f j)
theorem rowC_len (m : Nat) (f : Nat → Bool) : (rowC m f).length = m := by simp [rowC]
theorem rowC_at {m j : Nat} (f : Nat → Bool) (h : j < m) : (rowC m f)[j]? = some (.bool (f j)) := by simp [rowC, h]
def slcs (n : Nat) (k : Nat) (m : Nat) (gs : Nat → Nat) : List Value := (List.range n).map fun i => if i < k then slc (gs i) m else .slice none 0 0
theorem slcs_len (n k m : Nat) (gs : Nat → Nat) : (slcs n k m gs).length = n := by simp [slcs]
theorem slcs_at {n k m i : Nat} (gs : Nat → Nat) (h : i < n) (hk : i < k) : (slcs n k m gs)[i]? = some (slc (gs i) m) := by simp [slcs, h, hk]
structure PMat (w : World) (base : Nat) (v : Value) (n k m : Nat) (f : Nat → Nat → Bool) (gs : Nat → Nat) : Prop where
  own : w.ownsRow base 151 1 v n (slcs n k m gs)
  row : ∀ i, i < k → i < n → w.heap[gs i]? = some (.cells (rowC m (f i)).toArray 4 (0, 0))
  ge : ∀ i, i < k → i < n → base ≤ gs i
  inj : ∀ i j, i < k → j < k → i < n → j < n → gs i = gs j → i = j
abbrev Mat (w : World) (base : Nat) (v : Value) (n m : Nat) (f : Nat → Nat → Bool) (gs : Nat → Nat) : Prop := PMat w base v n n m f gs
section
variable {w w' : World} {base n k m : Nat} {v : Value} {f f' : Nat → Nat → Bool} {gs : Nat → Nat}
theorem PMat.keep (h : PMat w base v n k m f gs) (hk : ∀ x, base ≤ x → x < w.heap.size → w'.heap[x]? = w.heap[x]?) : PMat w' base v n k m f gs := by
  refine ⟨?_, fun i h1 h2 => (hk _ (h.ge i h1 h2) (block_lt (h.row i h1 h2))).trans (h.row i h1 h2), h.ge, h.inj⟩
  obtain ⟨hl, h2⟩ := h.own
  refine ⟨hl, ?_⟩
  rcases h2 with h2 | ⟨g, cap, cur, hv, hg', hh, r⟩
  · exact .inl h2
  · exact .inr ⟨g, cap, cur, hv, hg', (hk g hg' (block_lt hh)).trans hh, r⟩
theorem PMat.below (h : PMat w base v n k m f gs) (hb : Below w.heap.size w w') : PMat w' base v n k m f gs := h.keep fun x _ hx => hb.block x hx
theorem PMat.drew (h : PMat w base v n k m f gs) : PMat w.drew base v n k m f gs := ⟨h.own, h.row, h.ge, h.inj⟩
theorem PMat.drewN (h : PMat w base v n k m f gs) (q : Nat) : PMat (w.drewN q) base v n k m f gs := ⟨h.own, h.row, h.ge, h.inj⟩
theorem PMat.base_le (h : PMat w base v n k m f gs) {b : Nat} (hb : b ≤ base) : PMat w b v n k m f gs :=
  ⟨ownsRow_base h.own hb, h.row, fun i h1 h2 => Nat.le_trans hb (h.ge i h1 h2), h.inj⟩
theorem PMat.congr (h : PMat w base v n k m f gs) (he : ∀ i, i < k → i < n → ∀ j, j < m → f i j = f' i j) : PMat w base v n k m f' gs := by
  refine ⟨h.own, fun i h1 h2 => ?_, h.ge, h.inj⟩
  rw [h.row i h1 h2]
  have : rowC m (f i) = rowC m (f' i) := List.map_congr_left fun j hj => by rw [he i h1 h2 j (by simpa using hj)]
  rw [this]
theorem PMat.form (h : PMat w base v n k m f gs) : ∃ A c, v = .slice A n c := by
  rcases h.own.2 with ⟨rfl, rfl⟩ | ⟨g, cap, cur, rfl, _⟩
  · exact ⟨none, 0, rfl⟩
  · exact ⟨_, cap, rfl⟩
theorem PMat.at_ {A : Option Addr} {c i j : Nat} (h : PMat w base (.slice A n c) n k m f gs) (hi : i < k) (hn : i < n) : ∃ g, A = some ⟨g, 0, none⟩ ∧ base ≤ g ∧ g < w.heap.size ∧ gs i ≠ g ∧ gs i < w.heap.size ∧ base ≤ gs i ∧
    w.cell? ⟨g, i, none⟩ = some (slc (gs i) m) ∧ (j < m → w.cell? ⟨gs i, j, none⟩ = some (.bool (f i j))) ∧ w.frozen? ⟨gs i, j, none⟩ = false := by
  have hr := h.row i hi hn
  rcases h.own.2 with ⟨_, h0⟩ | ⟨g, cap, cur, hv, hb, hh, h3, h4, h5, hx⟩
  · omega
  · simp only [Value.slice.injEq] at hv
    obtain ⟨rfl, _, rfl⟩ := hv
    refine ⟨g, rfl, hb, block_lt hh, ?_, block_lt hr, h.ge i hi hn, ?_, fun hj => ?_, ?_⟩
    · intro e
      rw [e, hh] at hr
      injection hr with hr
      injection hr with _ ht
      exact absurd ht (by decide)
    · have e := slcs_at (n := n) (k := k) (m := m) gs hn hi
      rw [← hx, List.getElem?_take_of_lt (by omega)] at e
      simp only [Array.getElem?_toList] at e
      simp [World.cell?, hh, e]
    · have e := rowC_at (f i) hj
      simp [World.cell?, hr, e]
    · simp [World.frozen?, hr]
theorem rowC_set {m j : Nat} (f : Nat → Bool) (b : Bool) : (rowC m f).set j (.bool b) = rowC m (fun x => if x = j then b else f x) := by
  apply List.ext_getElem?
  intro t
  rw [List.getElem?_set]
  by_cases ht : t < m
  · by_cases e : j = t
    · subst e
      rw [if_pos rfl, if_pos (by rw [rowC_len]; exact ht), rowC_at _ ht, if_pos rfl]
    · rw [if_neg e, rowC_at _ ht, rowC_at _ ht, if_neg (fun h => e h.symm)]
  · by_cases e : j = t
    · subst e
      rw [if_pos rfl, if_neg (by rw [rowC_len]; exact ht), List.getElem?_eq_none (by rw [rowC_len]; omega)]
    · rw [if_neg e, List.getElem?_eq_none (by rw [rowC_len]; omega), List.getElem?_eq_none (by rw [rowC_len]; omega)]
def updB (f : Nat → Nat → Bool) (i j : Nat) (b : Bool) : Nat → Nat → Bool := fun a c => if a = i ∧ c = j then b else f a c
theorem PMat.set {i j : Nat} {b : Bool} (h : PMat w base v n k m f gs) (hi : i < k) (hn : i < n) : PMat (w.setCell ⟨gs i, j, none⟩ (.bool b)) base v n k m (updB f i j b) gs := by
  have hr := h.row i hi hn
  have hne : ∀ x, x ≠ gs i → (w.setCell ⟨gs i, j, none⟩ (.bool b)).heap[x]? = w.heap[x]? := fun x hx => Below.heap_setCell _ _ _ _ hx
  refine ⟨?_, fun a h1 h2 => ?_, h.ge, h.inj⟩
  · obtain ⟨hl, h2⟩ := h.own
    refine ⟨hl, ?_⟩
    rcases h2 with h2 | ⟨g, cap, cur, hv, hg', hh, r⟩
    · exact .inl h2
    · refine .inr ⟨g, cap, cur, hv, hg', (hne g ?_).trans hh, r⟩
      intro e
      rw [← e, hh] at hr
      injection hr with hr
      injection hr with _ ht
      exact absurd ht (by decide)
  · by_cases e : a = i
    · subst e
      have e1 : (rowC m (updB f a j b a)) = (rowC m (f a)).set j (.bool b) := by
        rw [rowC_set]; congr 1; funext x; simp [updB]
      rw [e1]
      simp [World.setCell, Array.getElem?_modify, hr]
    · have hga : gs a ≠ gs i := fun h3 => e (h.inj a i h1 hi h2 hn h3)
      rw [hne _ hga, h.row a h1 h2]
      have : rowC m (f a) = rowC m (updB f i j b a) := List.map_congr_left fun x _ => by simp [updB, e]
      rw [this]
end
open Go.RowKit
set_option linter.unusedVariables false
set_option linter.unusedSimpArgs false
abbrev PairD := ByteArray × ByteArray
def paC (p : PairD) : List Value := [.string p.1, .string p.2]
def nrAt (ne : List PairD) (i : Nat) : PairD := ne.getD i (.empty, .empty)
theorem nrAt_eq (ne : List PairD) {k : Nat} (h : k < ne.length) : nrAt ne k = ne[k] := by simp [nrAt, List.getD, List.getElem?_eq_getElem h]
def linkB (ps : List PeerD) (p : PairD) (x y : Int) : Bool := (decide (keyAt p.1 ps = x) && decide (keyAt p.2 ps = y)) || (decide (keyAt p.1 ps = y) && decide (keyAt p.2 ps = x))
def nearM (ps : List PeerD) (ne : List PairD) (k : Nat) (x y : Nat) : Bool := (ne.take k).any fun p => linkB ps p x y
def neF (ps : List PeerD) (ne : List PairD) (i : Nat) : Int :=
  if decide (keyAt (nrAt ne i).1 ps < 0) || decide (keyAt (nrAt ne i).2 ps < 0) then 8
  else if decide (keyAt (nrAt ne i).1 ps = keyAt (nrAt ne i).2 ps) || nearM ps ne i (keyAt (nrAt ne i).1 ps).toNat (keyAt (nrAt ne i).2 ps).toNat then 6 else 0
def nearF (ps : List PeerD) (ne : List PairD) : Int := if 1000 < ne.length then 2 else firstTo (neF ps ne) ne.length
theorem nearM_zero (ps : List PeerD) (ne : List PairD) (x y : Nat) : nearM ps ne 0 x y = false := by simp [nearM]
theorem nearM_succ (ps : List PeerD) (ne : List PairD) {k : Nat} (h : k < ne.length) (x y : Nat) : nearM ps ne (k + 1) x y = (nearM ps ne k x y || linkB ps ne[k] x y) := by
  unfold nearM
  rw [List.take_succ_eq_append_getElem h, List.any_append]
  simp
theorem keyAt_range (key : ByteArray) (ps : List PeerD) : -1 ≤ keyAt key ps ∧ keyAt key ps < ps.length := by
  unfold keyAt idxI
  cases h : (List.range ps.length).find? (isK key ps) with
  | none => simp; omega
  | some i =>
    have := List.mem_of_find?_eq_some h
    simp at this
    simp; omega
theorem upd_near (ps : List PeerD) (ne : List PairD) {k a b : Nat} (h : k < ne.length) (ha : keyAt ne[k].1 ps = a) (hb : keyAt ne[k].2 ps = b) (x y : Nat) :
    updB (updB (nearM ps ne k) a b true) b a true x y = nearM ps ne (k + 1) x y := by
  rw [nearM_succ ps ne h]
  unfold updB linkB
  rw [ha, hb]
  by_cases h1 : x = b ∧ y = a
  · rw [if_pos h1, h1.1, h1.2]; simp
  · rw [if_neg h1]
    by_cases h2 : x = a ∧ y = b
    · rw [if_pos h2, h2.1, h2.2]; simp
    · rw [if_neg h2]
      have e1 : (decide ((a : Int) = x) && decide ((b : Int) = y)) = false := by
        rw [Bool.eq_false_iff]; simp; intro h3 h4; exact h2 ⟨by omega, by omega⟩
      have e2 : (decide ((a : Int) = y) && decide ((b : Int) = x)) = false := by
        rw [Bool.eq_false_iff]; simp; intro h3 h4; exact h1 ⟨by omega, by omega⟩
      rw [e1, e2]; simp
theorem madeCells_one (z : Value) (n : Nat) : madeCells #[z] n = Array.replicate n z := by
  apply Array.ext
  · simp [madeCells]
  · intro i h1 h2
    simp [madeCells, Nat.mod_one]
theorem rowC_false (m : Nat) : (rowC m (fun _ => false)).toArray = madeCells #[Value.bool false] m := by
  rw [madeCells_one]
  apply Array.ext
  · simp [rowC]
  · intro i h1 h2; simp [rowC]
attribute [local go_sem ↓] Go.wp_at_zero Go.wp_at_succ
theorem infoSl : (Tryz.prog.info? 151).map (fun i => (i.zero, i.size, i.bytes)) = some (some (.slice none 0 0), 1, 24) := by kernel_rfl
theorem infoB : (Tryz.prog.info? 4).map (fun i => (i.zero, i.size, i.bytes)) = some (some (.bool false), 1, 1) := by kernel_rfl
theorem pmat_new (w : World) (n m : Nat) (hn : n ≤ 1000000) : PMat (w.alloc (.cells (madeCells #[.slice none 0 0] n) 151)) w.heap.size (.slice (some ⟨w.heap.size, 0, none⟩) n n) n 0 m (fun _ _ => false) (fun _ => 0) := by
  refine ⟨⟨by simp [slcs_len], .inr ⟨w.heap.size, n, _, rfl, Nat.le_refl _, heap_alloc_new w _, Nat.le_refl _, by unfold maxLen; omega, by simp [size_madeCells], ?_⟩⟩, fun i h => absurd h (Nat.not_lt_zero _), fun i h => absurd h (Nat.not_lt_zero _), fun i j h => absurd h (Nat.not_lt_zero _)⟩
  rw [madeCells_one, Nat.mul_one]
  apply List.ext_getElem?
  intro t
  by_cases ht : t < n
  · rw [List.getElem?_take_of_lt ht]; simp [slcs, ht]
  · rw [List.getElem?_eq_none (by simp; omega), List.getElem?_eq_none (by rw [slcs_len]; omega)]
theorem slcs_store {n k m b : Nat} (gs : Nat → Nat) (hk : k < n) : (slcs n k m gs).set k (slc b m) = slcs n (k + 1) m (fun i => if i = k then b else gs i) := by
  apply List.ext_getElem?
  intro t
  rw [List.getElem?_set]
  by_cases ht : t < n
  · by_cases e : k = t
    · subst e
      rw [if_pos rfl, if_pos (by rw [slcs_len]; exact ht), slcs_at _ ht (by omega), if_pos rfl]
    · rw [if_neg e]
      simp only [slcs, List.getElem?_map, List.getElem?_range ht, Option.map_some]
      by_cases h1 : t < k
      · rw [if_pos h1, if_pos (by omega), if_neg (fun h => e h.symm)]
      · rw [if_neg h1, if_neg (by omega)]
  · rw [List.getElem?_eq_none (by rw [slcs_len]; omega), if_neg (by omega), List.getElem?_eq_none (by rw [slcs_len]; omega)]
theorem PMat.more {w : World} {base g c n k m : Nat} {f : Nat → Nat → Bool} {gs : Nat → Nat} (h : PMat w base (.slice (some ⟨g, 0, none⟩) n c) n k m f gs) (hk : k < n) (hb : base ≤ w.heap.size) (hf : ∀ j, j < m → f k j = false) :
    PMat ((w.alloc (.cells (madeCells #[.bool false] m) 4)).setCell ⟨g, k, none⟩ (slc w.heap.size m)) base (.slice (some ⟨g, 0, none⟩) n c) n (k + 1) m f (fun i => if i = k then w.heap.size else gs i) := by
  have hg : ∃ cur, w.heap[g]? = some (.cells cur 151 (0, 0)) ∧ base ≤ g := by
    rcases h.own.2 with ⟨h0, _⟩ | ⟨g', cap, cur, hv, hbb, hh, _⟩
    · cases h0
    · simp only [Value.slice.injEq, Option.some.injEq, Addr.mk.injEq] at hv
      obtain ⟨⟨rfl, _, _⟩, _, _⟩ := hv
      exact ⟨cur, hh, hbb⟩
  obtain ⟨cur, hh, _⟩ := hg
  have hgl := block_lt hh
  have ho := ((h.own.alloc (.cells (madeCells #[.bool false] m) 4)).stored k (slc w.heap.size m)).1
  rw [slcs_store gs hk] at ho
  have hne : ∀ x, x ≠ g → ((w.alloc (.cells (madeCells #[.bool false] m) 4)).setCell ⟨g, k, none⟩ (slc w.heap.size m)).heap[x]? = (w.alloc (.cells (madeCells #[.bool false] m) 4)).heap[x]? := fun x hx => Below.heap_setCell _ _ _ _ hx
  refine ⟨ho, fun i h1 h2 => ?_, fun i h1 h2 => ?_, fun i j h1 h2 h3 h4 he => ?_⟩
  · by_cases e : i = k
    · subst e
      simp only [if_pos]
      rw [hne _ (by omega), heap_alloc_new, ← rowC_false]
      have : rowC m (fun _ => false) = rowC m (f i) := List.map_congr_left fun j hj => by rw [hf j (by simpa using hj)]
      rw [this]
    · simp only [if_neg e]
      have hr := h.row i (by omega) h2
      have hx : gs i ≠ g := by
        intro e2
        rw [e2, hh] at hr
        injection hr with hr
        injection hr with _ ht
        exact absurd ht (by decide)
      rw [hne _ hx, Below.heap_alloc w _ _ (block_lt hr), hr]
  · by_cases e : i = k
    · simp only [if_pos e]; exact hb
    · simp only [if_neg e]; exact h.ge i (by omega) h2
  · by_cases e1 : i = k
    · by_cases e2 : j = k
      · omega
      · simp only [if_pos e1, if_neg e2] at he
        have := block_lt (h.row j (by omega) h4); omega
    · by_cases e2 : j = k
      · simp only [if_neg e1, if_pos e2] at he
        have := block_lt (h.row i (by omega) h3); omega
      · simp only [if_neg e1, if_neg e2] at he
        exact h.inj i j (by omega) (by omega) h3 h4 he
theorem alloc_setCell {w : World} {p : Addr} {v : Value} {o : Obj} (h : p.block < w.heap.size) : (w.alloc o).setCell p v = (w.setCell p v).alloc o := by
  unfold World.setCell World.alloc
  congr 1
  apply Array.ext_getElem?
  intro i
  simp only [Array.getElem?_modify, Array.getElem?_push, Array.size_modify]
  by_cases h1 : i = w.heap.size
  · rw [if_pos h1, if_pos h1, if_neg (by omega)]
  · rw [if_neg h1, if_neg h1]
def MkRel (n m : Nat) (v : Value) (w : World) (g : Nat) (i : Value) (wr : World) : Prop :=
  ∃ (k : Nat) (gs : Nat → Nat), k + g = n ∧ i = .int .i64 k ∧ PMat wr w.heap.size v n k m (fun _ _ => false) gs ∧ Below w.heap.size w wr
def NeRel (ps : List PeerD) (ne : List PairD) (v : Value) (w : World) (g : Nat) (i : Value) (wr : World) : Prop :=
  ∃ (k : Nat) (gs : Nat → Nat), k + g = ne.length ∧ i = .int .i64 k ∧ firstTo (neF ps ne) k = 0 ∧ Mat wr w.heap.size v ps.length ps.length (nearM ps ne k) gs ∧ Below w.heap.size w wr
theorem Lst.pair {w : World} {lo n c : Nat} {A : Option Addr} {ne : List PairD} (h : Lst w lo 2 (.slice A n c) (ne.flatMap paC)) {j : Nat} (hj : j < ne.length) (hn : n = ne.length) :
    ∃ g o, A = some ⟨g, o, none⟩ ∧ g < w.heap.size ∧ w.cell? ⟨g, o + j * 2, none⟩ = some (.string ne[j].1) ∧ w.cell? ⟨g, o + j * 2 + 1, none⟩ = some (.string ne[j].2) := by
  obtain ⟨g, o, rfl, _, hg, hc⟩ := h.open_ (by omega)
  have a0 := hc (j * 2 + 0) (.string ne[j].1) (by rw [flatK_at (k := 2) (fun _ => rfl) ne j 0 hj (by omega)]; rfl)
  have a1 := hc (j * 2 + 1) (.string ne[j].2) (by rw [flatK_at (k := 2) (fun _ => rfl) ne j 1 hj (by omega)]; rfl)
  exact ⟨g, o, rfl, hg, by simpa using a0, by rw [Nat.add_assoc]; exact a1⟩
def NearGot (ps : List PeerD) (ne : List PairD) (w : World) (e : Ending) (w' : World) : Prop :=
  (nearF ps ne ≠ 0 → e = .returned (.tuple #[.slice none 0 0, .int .i64 (nearF ps ne)])) ∧ (nearF ps ne = 0 → ∃ v gs, e = .returned (.tuple #[v, .int .i64 0]) ∧ Mat w' w.heap.size v ps.length ps.length (nearM ps ne ne.length) gs) ∧ Below w.heap.size w w'
set_option maxRecDepth 100000 in
set_option maxHeartbeats 4000000 in
theorem nearOf_any (A B : Option Addr) (lo c d : Nat) (ps : List PeerD) (ne : List PairD) (m : Int) (w : World) (hf : PeersAt w lo (.slice A ps.length c) ps) (hz : peersF m ps = 0) (hn : ps.length ≤ 50)
    (hN : Lst w lo 2 (.slice B ne.length d) (ne.flatMap paC)) (hnn : ne.length ≤ 1000) :
    Calls Tryz.prog 90 #[.slice A ps.length c, .slice B ne.length d] w (NearGot ps ne w) := by
  have HF := Lib.hid hf
  have HN := Lib.hid hN
  have HP := Lib.hid hz
  have HV := Lib.hid (show nearF ps ne = firstTo (neF ps ne) ne.length by rw [nearF, if_neg (by omega)])
  have hmk1 := run_make_row' (P := Tryz.prog) 145 151 (.slice none 0 0) 24 Tryz.underlying145 infoSl rfl .i64 .i64 ps.length (by omega) (by omega)
  have hmk2 := run_make_row' (P := Tryz.prog) 151 4 (.bool false) 1 Tryz.underlying151 infoB rfl .i64 .i64 ps.length (by omega) (by omega)
  have HBAD := Lib.hid (show ∀ (x : Int) (w' : World), x ≠ 0 → nearF ps ne = x → Below w.heap.size w w' → NearGot ps ne w (.returned (.tuple #[.slice none 0 0, .int .i64 x])) w' from fun x w' h1 h2 h3 => ⟨fun _ => by rw [h2], fun h => absurd (h2.symm.trans h) h1, h3⟩)
  clear hf hN hz
  go_enter Tryz.func90, Tryz.ntmps90
  go_wp2_with fail
  have P0 := Lib.hid (pmat_new w ps.length ps.length (by omega))
  have b0 := bfirst w (.cells (madeCells #[.slice none 0 0] ps.length) 151)
  obtain ⟨w0, hw0⟩ : ∃ w0, w0 = w.alloc (.cells (madeCells #[.slice none 0 0] ps.length) 151) := ⟨_, rfl⟩
  rw [← hw0] at P0 b0 ⊢
  clear hw0
  obtain ⟨ob, hob⟩ : ∃ ob, ob = w.heap.size := ⟨_, rfl⟩
  rw [← hob]
  have HOB := Lib.hid hob
  rw [← hob] at P0
  clear hob
  go_loopg [22, 7] ps.length (fun g i _ wr => MkRel ps.length ps.length (.slice (some ⟨ob, 0, none⟩) ps.length ps.length) w g i wr)
  case atStart => exact ⟨0, _, by omega, rfl, by rw [← HOB.out]; exact P0.out, b0⟩
  case round =>
    obtain ⟨k, gs, hk, rfl, hM, hb⟩ := hrel
    have hsz := hb.size
    by_cases hg : gk = 0
    rotate_left
    · have hlt : k < ps.length := by omega
      have HK := Lib.hid hk
      have hcell : ∃ u, wr.cell? ⟨ob, k, none⟩ = some u := by
        have := own_cells hM.own k _ (List.getElem?_eq_getElem (by rw [slcs_len]; exact hlt))
        have e : (⟨ob, 0, none⟩ : Addr).add k = ⟨ob, k, none⟩ := by unfold Addr.add; split <;> simp_all
        rw [e] at this
        exact ⟨_, this⟩
      obtain ⟨u, hu⟩ := hcell
      have hul := World.block_lt_of_cell? wr _ hu
      have hfz : wr.frozen? ⟨ob, k, none⟩ = false := by
        rcases hM.own.2 with ⟨h0, _⟩ | ⟨g', cap, cur, hv, _, hh, _⟩
        · cases h0
        · simp only [Value.slice.injEq, Option.some.injEq, Addr.mk.injEq] at hv
          obtain ⟨⟨rfl, _, _⟩, _, _⟩ := hv
          simp [World.frozen?, hh]
      have HM := Lib.hid (hM.more hlt hsz (fun _ _ => rfl))
      clear hk hM
      go_wp2_with fail
      go_roundg (gk - 1)
      case measure => omega
      case rel => exact ⟨k + 1, _, by have := HK.out; omega, by go_num, by rw [alloc_setCell (by exact hul)] at HM; exact HM.out, bbox (hb.setCell (p := ⟨ob, k, none⟩) (by show w.heap.size ≤ ob; rw [HOB.out]; exact Nat.le_refl _) _) _⟩
    · obtain rfl : k = ps.length := by omega
      clear hk hg
      have HM0 := Lib.hid (hM.congr (f' := nearM ps ne 0) (fun i _ _ j _ => (nearM_zero ps ne i j).symm))
      have hobl : w.heap.size ≤ ob := by rw [HOB.out]; exact Nat.le_refl _
      clear hM P0
      go_wp2_with fail
      obtain ⟨w1, rfl⟩ : ∃ w1 : World, w1 = wr := ⟨_, rfl⟩
      clear hsz
      go_loopg [34, 9, 10, 11, 12, 13] ne.length (fun g i _ _ _ _ _ wx => NeRel ps ne (.slice (some ⟨ob, 0, none⟩) ps.length ps.length) w g i wx)
      case atStart => exact ⟨0, gs, by omega, rfl, rfl, HM0.out, hb⟩
      case round =>
        obtain ⟨k, gs2, hk, rfl, hz0, hM, hb2⟩ := hrel
        clear HM0 hb
        have hb := hb2
        clear hb2
        by_cases hg : gk = 0
        · obtain rfl : k = ne.length := by omega
          have HX := Lib.hid (HV.out.trans hz0)
          have HMM := Lib.hid hM
          clear hk hz0 hg hM
          go_wp2_with fail
          go_ret2
          exact ⟨fun h => absurd HX.out h, fun _ => ⟨_, gs2, rfl, HMM.out⟩, hb⟩
        · have hlt : k < ne.length := by omega
          obtain ⟨g, o, rfl, hgl, c0, c1⟩ := (HN.out.below hb).pair hlt rfl
          have HA := Lib.hid (nrAt_eq ne hlt)
          have HUP := Lib.hid (fun a b x y (h1 : keyAt ne[k].1 ps = ((a : Nat) : Int)) (h2 : keyAt ne[k].2 ps = ((b : Nat) : Int)) => upd_near ps ne hlt h1 h2 x y)
          have HK := Lib.hid hk
          have HZ := Lib.hid hz0
          have hgk : gk ≠ 0 := hg
          have HM := Lib.hid hM
          clear hk hz0 hg hM
          generalize ne[k] = x at *
          obtain ⟨na, nb⟩ := x
          have hra := keyAt_range na ps
          have hrb := keyAt_range nb ps
          have HFI := Lib.hid (show neF ps ne k = if decide (keyAt na ps < 0) || decide (keyAt nb ps < 0) then 8 else if decide (keyAt na ps = keyAt nb ps) || nearM ps ne k (keyAt na ps).toNat (keyAt nb ps).toNat then 6 else 0 by rw [neF, HA.out])
          have HUP2 := Lib.hid (show ∀ a b x y : Nat, keyAt na ps = (a : Int) → keyAt nb ps = (b : Int) → updB (updB (nearM ps ne k) a b true) b a true x y = nearM ps ne (k + 1) x y from HUP.out)
          clear HUP HA
          have HBD := Lib.hid (show ∀ z : Int, z ≠ 0 → neF ps ne k = z → nearF ps ne = z from fun z h1 h2 => by rw [HV.out, firstTo_at hlt HZ.out (by rw [h2]; exact h1), h2])
          go_wp2_with fail
          have hb0 := bbox hb (.cells #[.string na, .string nb] 142)
          have HX := Lib.hid (heap_alloc_new wr (.cells #[.string na, .string nb] 142))
          have HM1 := Lib.hid (HM.out.below (bfirst wr (.cells #[.string na, .string nb] 142)))
          generalize wr.alloc (.cells #[.string na, .string nb] 142) = w2 at *
          refine (peerAt_any A _ c ps na _ (HF.out.below hb0) (by omega) m HP.out).mono ?_
          rintro e w3 ⟨i1, rfl, hi1, b3⟩
          have hM3 := (b3.block wr.heap.size (block_lt HX.out)).trans HX.out
          have d1 := (pe_cells hM3).2
          have l3 := block_lt hM3
          have HM3 := Lib.hid (HM1.out.below b3)
          have hb3 := bon hb0 b3
          clear hb0 HX HM1 b3 HM hgl c0 c1 hb
          generalize wr.heap.size = pb at *
          clear w2
          go_wp2_with fail
          refine (peerAt_any A _ c ps nb _ (HF.out.below hb3) (by omega) m HP.out).mono ?_
          rintro e w4 ⟨i2, rfl, hi2, b4⟩
          have HM4 := Lib.hid (HM3.out.below b4)
          have hb4 := bon hb3 b4
          clear hb3 HM3 b4 d1 l3 hM3
          by_cases hab : 0 ≤ keyAt na ps ∧ 0 ≤ keyAt nb ps
          rotate_left
          · have H8 := Lib.hid (HBD.out 8 (by decide) (by rw [HFI.out, if_pos (by simp; omega)]))
            clear HFI
            rcases Int.lt_or_le (keyAt na ps) 0 with h1 | h1
            · have h1' : decide (0 ≤ keyAt na ps) = false := decide_eq_false (by omega)
              rw [h1']
              clear h1' h1 hab hi1 hi2 hra hrb
              go_wp2_with fail
              go_ret2
              exact HBAD.out 8 _ (by decide) H8.out hb4
            · have h1' : decide (0 ≤ keyAt na ps) = true := decide_eq_true h1
              have h2' : decide (0 ≤ keyAt nb ps) = false := decide_eq_false (by omega)
              rw [h1', h2']
              clear h1' h2' h1 hab hi1 hi2 hra hrb
              go_wp2_with fail
              go_ret2
              exact HBAD.out 8 _ (by decide) H8.out hb4
          · obtain ⟨ha0, hb0⟩ := hab
            rw [decide_eq_true ha0, decide_eq_true hb0, hi1 ha0, hi2 hb0]
            have HU3 := Lib.hid (fun a b (h1 : keyAt na ps = ((a : Nat) : Int)) (h2 : keyAt nb ps = ((b : Nat) : Int)) => fun x y => HUP2.out a b x y h1 h2)
            have HFJ := Lib.hid (show neF ps ne k = if decide (keyAt na ps = keyAt nb ps) || nearM ps ne k (keyAt na ps).toNat (keyAt nb ps).toNat then 6 else 0 by rw [HFI.out, if_neg (by simp; omega)])
            clear HFI hi1 hi2 HUP2
            generalize keyAt na ps = ka at *
            generalize keyAt nb ps = kb at *
            obtain ⟨a, rfl⟩ := Int.eq_ofNat_of_zero_le ha0
            obtain ⟨b, rfl⟩ := Int.eq_ofNat_of_zero_le hb0
            have han : a < ps.length := by omega
            have hbn : b < ps.length := by omega
            have hanI : (a : Int) < (ps.length : Int) := by omega
            have hbnI : (b : Int) < (ps.length : Int) := by omega
            obtain ⟨ob2, eo, _, ol, g1, g2, g3, a1, a2, a3⟩ := HM4.out.at_ (i := a) (j := b) han han
            obtain ⟨ob3, eo2, _, ol2, g4, g5, g6, b1, b2, b3⟩ := HM4.out.at_ (i := b) (j := a) hbn hbn
            simp only [Option.some.injEq, Addr.mk.injEq] at eo eo2
            obtain ⟨rfl, _, _⟩ := eo
            obtain ⟨rfl, _, _⟩ := eo2
            have a2' := a2 hbn
            have b2' := b2 han
            unfold slc at a1 b1
            clear a2 b2 ha0 hb0 hra hrb
            have HFK := Lib.hid (show neF ps ne k = if decide (a = b) || nearM ps ne k a b then 6 else 0 by
              rw [HFJ.out]
              have e1 : (decide ((a : Int) = (b : Int)) || nearM ps ne k ((a : Int).toNat) ((b : Int).toNat)) = (decide (a = b) || nearM ps ne k a b) := by
                rw [Int.toNat_natCast, Int.toNat_natCast, show decide ((a : Int) = (b : Int)) = decide (a = b) by rw [decide_eq_decide]; omega]
              generalize (decide ((a : Int) = (b : Int)) || nearM ps ne k ((a : Int).toNat) ((b : Int).toNat)) = X at *
              subst e1
              rfl)
            clear HFJ
            go_upto_region 16 with fail
            go_cut [69] (fun s wx => s = .bool (decide (a = b) || nearM ps ne k a b) ∧ w4 = wx)
            case first =>
              by_cases e : a = b
              · have e1 : ((a : Int) == (b : Int)) = true := by simp [e]
                have HE := Lib.hid (show decide (a = b) = true from decide_eq_true e)
                clear e
                go_wp2_with fail
                go_meet
                exact ⟨by rw [HE.out]; rfl, rfl⟩
              · have e1 : ((a : Int) == (b : Int)) = false := by simp; omega
                have HE := Lib.hid (show decide (a = b) = false from decide_eq_false e)
                clear e
                go_wp2_with fail
                go_meet
                exact ⟨by rw [HE.out]; rfl, rfl⟩
            case rest =>
              obtain ⟨rfl, rfl⟩ := hcut
              rcases Bool.eq_false_or_eq_true (decide (a = b) || nearM ps ne k a b) with hc | hc
              · have H6 := Lib.hid (HBD.out 6 (by decide) (by rw [HFK.out, hc]; rfl))
                rw [hc]
                clear hc HFK
                go_wp2_with fail
                go_ret2
                exact HBAD.out 6 _ (by decide) H6.out hb4
              · have hne : a ≠ b := by intro e; simp [e] at hc
                have H0 := Lib.hid (firstTo_succ HZ.out (by rw [HFK.out, hc]; rfl))
                rw [hc]
                clear hc HFK
                have hgg : gs2 a ≠ gs2 b := fun e => hne (HM4.out.inj a b han hbn han hbn e)
                have hgg' : gs2 b ≠ gs2 a := fun e => hgg e.symm
                have HFIN := Lib.hid (((HM4.out.set (i := a) (j := b) (b := true) han han).set (i := b) (j := a) (b := true) hbn hbn).congr (fun i _ _ j _ => HU3.out a b rfl rfl i j))
                have HBF := Lib.hid ((hb4.setCell (p := ⟨gs2 a, b, none⟩) g3 (.bool true)).setCell (p := ⟨gs2 b, a, none⟩) g6 (.bool true))
                generalize nearM ps ne k a b = nv at *
                generalize nearM ps ne k b a = nu at *
                go_upto_region 18 with fail
                go_region_held3 (fun w' => w'.cell? ⟨ob, a, none⟩ = some (.slice (some ⟨gs2 a, 0, none⟩) ps.length ps.length) ∧ w'.cell? ⟨ob, b, none⟩ = some (.slice (some ⟨gs2 b, 0, none⟩) ps.length ps.length)) (go_keep) (fail)
                go_wp2_with fail
                go_roundg (gk - 1)
                case measure => omega
                case rel => exact ⟨k + 1, gs2, by have := HK.out; omega, by go_num, H0.out, HFIN.out.drew, below_drewN HBF.out 1⟩
def idxLs {α : Type} (p : α → Bool) (ts : List α) : Int := match ts.findIdx? p with
  | some i => (i : Int)
  | none => -1
section
variable {α : Type} {p : α → Bool} {ts : List α} {k : Nat}
theorem idxL_miss (h : ∀ x ∈ ts, p x = false) : idxLs p ts = -1 := by
  have : ts.findIdx? p = none := by rw [List.findIdx?_eq_none_iff]; exact h
  rw [idxLs, this]
theorem idxL_hit (hk : k < ts.length) (hp : p ts[k] = true) (h : ∀ x ∈ ts.take k, p x = false) : idxLs p ts = k := by
  have : ts.findIdx? p = some k := by
    rw [List.findIdx?_eq_some_iff_getElem]
    refine ⟨hk, hp, fun j hj => ?_⟩
    have := h (ts[j]'(by omega)) (by rw [List.mem_take_iff_getElem]; exact ⟨j, by omega, rfl⟩)
    simpa using this
  rw [idxLs, this]
theorem idxL_more (hk : k < ts.length) (hp : p ts[k] = false) (h : ∀ x ∈ ts.take k, p x = false) : ∀ x ∈ ts.take (k + 1), p x = false := by
  rw [List.take_succ_eq_append_getElem hk]
  intro x hx
  rcases List.mem_append.1 hx with hx | hx
  · exact h x hx
  · simp at hx; subst hx; exact hp
end
theorem idxLs_any {α : Type} (p : α → Bool) (ts : List α) : decide (0 ≤ idxLs p ts) = ts.any p := by
  unfold idxLs
  cases h : ts.findIdx? p with
  | none =>
    rw [List.findIdx?_eq_none_iff] at h
    have : ts.any p = false := by rw [List.any_eq_false]; intro x hx; simp [h x hx]
    rw [this]; rfl
  | some i =>
    rw [List.findIdx?_eq_some_iff_getElem] at h
    obtain ⟨hi, hp, _⟩ := h
    have : ts.any p = true := List.any_eq_true.2 ⟨_, List.getElem_mem hi, hp⟩
    rw [this]
    simp
def IdxLRel {α : Type} (p : α → Bool) (ts : List α) (w : World) (g : Nat) (i : Value) (wr : World) : Prop :=
  ∃ k : Nat, k + g = ts.length ∧ i = .int .i64 k ∧ (∀ x ∈ ts.take k, p x = false) ∧ Below w.heap.size w wr
open Go.RowKit
set_option linter.unusedVariables false
set_option linter.unusedSimpArgs false
structure Bel (w : World) where
  W : World
  h : Below w.heap.size w W
instance (w : World) : Inhabited (Bel w) := ⟨⟨w, Below.refl _ w⟩⟩
theorem wp_region_quiet_bel {P : Program} {id : Nat} {Q : Exit → Act → World → Prop} {a : Act} {w : World} {l : List Oper} (hm : P.follows .mixedOrders = true) (hB : Region.lexB .any l.toArray = true)
    (h : wpQuiet P l.toArray (fun w' => ∃ p : Bel w, w' = p.W) (fun a' => ∀ w', (∃ p : Bel w, w' = p.W) → Q .normal a' w') l a) : (Code.region id l.toArray true).wp P Q a w :=
  wp_region_quiet (C := fun w' => ∃ p : Bel w, w' = p.W) hm hB ⟨⟨w.drew, below_drewN (Below.refl _ w) 1⟩, rfl⟩ (by simpa using h)
theorem bel_cell {w : World} {a : Addr} {v : Value} (h : w.cell? a = some v) (p : Bel w) : p.W.cell? a = some v := bold p.h h
theorem Calls.bel_of {P : Program} {f : FuncId} {args : Array Value} {w : World} {p : Bel w} {v : Value}
    (h : Calls P f args p.W fun e w' => e = .returned v ∧ Below p.W.heap.size p.W w') : Calls P f args p.W fun e w'' => e = .returned v ∧ ∃ q : Bel w, w'' = q.W :=
  h.mono fun _ w'' ⟨he, hb⟩ => ⟨he, ⟨w'', bon p.h hb⟩, rfl⟩
attribute [local go_sem ↓] Go.wp_at_zero Go.wp_at_succ
def paE (x y : PairD) : Bool := x.1.toList == y.1.toList && x.2.toList == y.2.toList
set_option maxRecDepth 100000 in
set_option maxHeartbeats 1000000 in
theorem indexPair_any (A : Option Addr) (lo c : Nat) (ts : List PairD) (x : PairD) (w : World) (hA : Lst w lo 2 (.slice A ts.length c) (ts.flatMap paC)) (hn : ts.length ≤ 1000000000) :
    Calls Tryz.prog 136 #[.slice A ts.length c, .agg #[.string x.1, .string x.2]] w fun e w' => e = .returned (.int .i64 (idxLs (paE x) ts)) ∧ Below w.heap.size w w' := by
  obtain ⟨x0, x1⟩ := x
  have HA := Lib.hid hA
  clear hA
  go_enter Tryz.func136, Tryz.ntmps136
  go_wp2_with fail
  have b0 := bfirst w (.cells #[.string x0, .string x1] 142)
  have HX := Lib.hid (heap_alloc_new w (.cells #[.string x0, .string x1] 142))
  obtain ⟨w0, hw0⟩ : ∃ w0, w0 = w.alloc (.cells #[.string x0, .string x1] 142) := ⟨_, rfl⟩
  rw [← hw0] at b0 HX ⊢
  clear hw0
  obtain ⟨pb, hpb⟩ : ∃ pb, pb = w.heap.size := ⟨_, rfl⟩
  rw [← hpb] at HX ⊢
  clear hpb
  go_loopg [8, 5] ts.length (fun g i _ wr => IdxLRel (paE (x0, x1)) ts w0 g i wr)
  case atStart => exact ⟨0, by omega, rfl, by simp, Below.refl _ _⟩
  case round =>
    obtain ⟨k, hk, rfl, hno, hb⟩ := hrel
    have hbw := bon b0 hb
    by_cases hg : gk = 0
    · obtain rfl : k = ts.length := by omega
      have HV := Lib.hid (idxL_miss (by rw [List.take_length] at hno; exact hno))
      clear hno hk hg
      go_wp2_with fail
      go_ret
      exact ⟨ret_int HV.out.symm, hbw⟩
    · have hlt : k < ts.length := by omega
      obtain ⟨b, o, rfl, hbl, c0, c1⟩ := (HA.out.below hbw).pair hlt rfl
      have hM := (hb.block pb (block_lt HX.out)).trans HX.out
      have d0 := (pe_cells hM).1
      have d1 := (pe_cells hM).2
      have HV := Lib.hid (fun h : paE (x0, x1) ts[k] = true => idxL_hit hlt h hno)
      have HW := Lib.hid (fun h : paE (x0, x1) ts[k] = false => idxL_more hlt h hno)
      have HK := Lib.hid hk
      have hgk : gk ≠ 0 := hg
      have hltI : (k : Int) < (ts.length : Int) := by omega
      clear hk hno hg hM
      generalize ts[k] = y at *
      obtain ⟨y0, y1⟩ := y
      have HE : Hid (paE (x0, x1) (y0, y1) = (x0.toList == y0.toList && x1.toList == y1.toList)) := rfl
      simp only at c0 c1
      rcases Bool.eq_false_or_eq_true (x0.toList == y0.toList) with e0 | e0
      · rcases Bool.eq_false_or_eq_true (x1.toList == y1.toList) with e1 | e1
        · have HH := Lib.hid (HV.out (by rw [HE.out, e0, e1]; rfl))
          go_wp2_with fail
          go_quiet (fail)
          go_wp2_with fail
          go_ret
          exact ⟨ret_int HH.out.symm, below_drewN hbw _⟩
        · have HH := Lib.hid (HW.out (by rw [HE.out, e0, e1]; rfl))
          go_wp2_with fail
          go_quiet (fail)
          go_wp2_with fail
          go_roundg (gk - 1)
          case measure => omega
          case rel => exact ⟨k + 1, by have := HK.out; omega, by go_num, HH.out, below_drewN hb _⟩
      · have HH := Lib.hid (HW.out (by rw [HE.out, e0]; rfl))
        go_wp2_with fail
        go_quiet (fail)
        go_wp2_with fail
        go_roundg (gk - 1)
        case measure => omega
        case rel => exact ⟨k + 1, by have := HK.out; omega, by go_num, HH.out, below_drewN hb _⟩
set_option maxRecDepth 100000 in
set_option maxHeartbeats 1000000 in
theorem containsPair_any (A : Option Addr) (lo c : Nat) (ts : List PairD) (x : PairD) (w : World) (hA : Lst w lo 2 (.slice A ts.length c) (ts.flatMap paC)) (hn : ts.length ≤ 1000000000) :
    Calls Tryz.prog 88 #[.slice A ts.length c, .agg #[.string x.1, .string x.2]] w fun e w' => e = .returned (.bool (ts.any (paE x))) ∧ Below w.heap.size w w' := by
  have HI := Lib.hid (idxLs_any (paE x) ts)
  have b0 := bfirst w (.cells #[.string x.1, .string x.2] 142)
  have HC := Lib.hid (indexPair_any A lo c ts x (w.alloc (.cells #[.string x.1, .string x.2] 142)) (hA.below b0) hn)
  clear hA
  go_enter Tryz.func88, Tryz.ntmps88
  go_wp2_with fail
  refine HC.out.mono ?_
  rintro e w1 ⟨rfl, hb1⟩
  go_wp2_with fail
  go_ret
  exact ⟨by rw [← HI.out]; rfl, bon b0 hb1⟩
theorem keyAt_same {x y : ByteArray} {ps : List PeerD} (h : keyAt x ps = keyAt y ps) (h0 : 0 ≤ keyAt x ps) : x.toList = y.toList := by
  have key : ∀ z : ByteArray, ∀ i : Nat, keyAt z ps = i → (pAt ps i).1.toList = z.toList := by
    intro z i hz
    unfold keyAt idxI at hz
    cases hf : (List.range ps.length).find? (isK z ps) with
    | none => rw [hf] at hz; have hz2 : (-1 : Int) = i := hz; omega
    | some j =>
      rw [hf] at hz
      have hz2 : ((j : Nat) : Int) = i := hz
      have hj : j = i := by omega
      subst hj
      have := List.find?_some hf
      simpa [isK] using this
  obtain ⟨i, hi⟩ := Int.eq_ofNat_of_zero_le h0
  rw [← key x i hi, key y i (by rw [← h]; exact hi)]
theorem keyAt_cong {x y : ByteArray} (ps : List PeerD) (h : x.toList = y.toList) : keyAt x ps = keyAt y ps := by
  have : isK x ps = isK y ps := by funext i; simp [isK, h]
  unfold keyAt; rw [this]
def seenB (ne : List PairD) (k : Nat) (x y : ByteArray) : Bool := (x.toList == y.toList) || ((ne.take k).any (paE (x, y)) || (ne.take k).any (paE (y, x)))
theorem seen_near (ps : List PeerD) (ne : List PairD) (k : Nat) (x y : ByteArray) (hx : 0 ≤ keyAt x ps) (hy : 0 ≤ keyAt y ps) :
    (decide (keyAt x ps = keyAt y ps) || nearM ps ne k (keyAt x ps).toNat (keyAt y ps).toNat) = seenB ne k x y := by
  have e1 : decide (keyAt x ps = keyAt y ps) = (x.toList == y.toList) := by
    rw [Bool.eq_iff_iff]; simp
    exact ⟨fun h => keyAt_same h hx, fun h => keyAt_cong ps h⟩
  have e2 : ∀ a b : ByteArray, 0 ≤ keyAt a ps → 0 ≤ keyAt b ps → ∀ p : PairD, (decide (keyAt p.1 ps = keyAt a ps) && decide (keyAt p.2 ps = keyAt b ps)) = paE (a, b) p := by
    intro a b ha hb p
    rw [Bool.eq_iff_iff]; simp [paE]
    exact ⟨fun h => ⟨(keyAt_same h.1 (by omega)).symm, (keyAt_same h.2 (by omega)).symm⟩, fun h => ⟨keyAt_cong ps h.1.symm, keyAt_cong ps h.2.symm⟩⟩
  unfold seenB
  rw [e1]
  congr 1
  unfold nearM
  have e3 : ∀ l : List PairD, l.any (fun p => linkB ps p ((keyAt x ps).toNat : Nat) ((keyAt y ps).toNat : Nat)) = (l.any (paE (x, y)) || l.any (paE (y, x))) := by
    intro l
    induction l with
    | nil => rfl
    | cons p r ih =>
      rw [List.any_cons, List.any_cons, List.any_cons, ih]
      have : linkB ps p ((keyAt x ps).toNat : Nat) ((keyAt y ps).toNat : Nat) = (paE (x, y) p || paE (y, x) p) := by
        unfold linkB
        rw [show (((keyAt x ps).toNat : Nat) : Int) = keyAt x ps by omega, show (((keyAt y ps).toNat : Nat) : Int) = keyAt y ps by omega, e2 x y hx hy p]
        rw [show (decide (keyAt p.1 ps = keyAt y ps) && decide (keyAt p.2 ps = keyAt x ps)) = paE (y, x) p from e2 y x hy hx p]
      rw [this]
      cases paE (x, y) p <;> cases paE (y, x) p <;> simp
  exact e3 _
theorem Lst.take2 {w : World} {lo n c i : Nat} {A : Option Addr} {ne : List PairD} (h : Lst w lo 2 (.slice A n c) (ne.flatMap paC)) (hi : i ≤ ne.length) (hn : n = ne.length) : Lst w lo 2 (.slice A (ne.take i).length c) ((ne.take i).flatMap paC) := by
  obtain ⟨A', n', c', hv, h1, h2, h3, h4⟩ := h
  simp only [Value.slice.injEq] at hv
  obtain ⟨rfl, rfl, rfl⟩ := hv
  have hl : (ne.take i).length = i := by rw [List.length_take]; omega
  refine ⟨A, (ne.take i).length, c, rfl, by omega, h2, flatK_len (enc := paC) (k := 2) (fun _ => rfl) _, fun h0 => ?_⟩
  obtain ⟨g, o, e, hg, hlt, hc⟩ := h4 (by omega)
  refine ⟨g, o, e, hg, hlt, fun j u hu => hc j u ?_⟩
  have hpre : ne.flatMap paC = (ne.take i).flatMap paC ++ (ne.drop i).flatMap paC := by rw [← List.flatMap_append, List.take_append_drop]
  rw [hpre, List.getElem?_append_left (by rcases Nat.lt_or_ge j ((ne.take i).flatMap paC).length with h | h; exact h; rw [List.getElem?_eq_none h] at hu; cases hu)]
  exact hu
def NfRel (ps : List PeerD) (ne : List PairD) (w : World) (g : Nat) (i : Value) (wr : World) : Prop :=
  ∃ k : Nat, k + g = ne.length ∧ i = .int .i64 k ∧ firstTo (neF ps ne) k = 0 ∧ Below w.heap.size w wr
set_option maxRecDepth 100000 in
set_option maxHeartbeats 4000000 in
theorem nearFault_any (A B : Option Addr) (lo c d : Nat) (ps : List PeerD) (ne : List PairD) (w : World) (hf : PeersAt w lo (.slice A ps.length c) ps) (hn : ps.length ≤ 50)
    (hN : Lst w lo 2 (.slice B ne.length d) (ne.flatMap paC)) (hnn : ne.length ≤ 1000) :
    Calls Tryz.prog 44 #[.slice A ps.length c, .slice B ne.length d] w fun e w' => e = .returned (.int .i64 (nearF ps ne)) ∧ Below w.heap.size w w' := by
  have HF := Lib.hid hf
  have HN := Lib.hid hN
  obtain ⟨v, hv⟩ : ∃ v, v = nearF ps ne := ⟨_, rfl⟩
  rw [← hv]
  have HV := Lib.hid (show v = firstTo (neF ps ne) ne.length by rw [hv, nearF, if_neg (by omega)])
  clear hf hN hv
  go_enter Tryz.func44, Tryz.ntmps44
  go_wp2_with fail
  go_loopg [13, 5, 6, 7] ne.length (fun g i _ _ _ wr => NfRel ps ne w g i wr)
  case atStart => exact ⟨0, by omega, rfl, rfl, Below.refl _ _⟩
  case round =>
    obtain ⟨k, hk, rfl, hz0, hb⟩ := hrel
    by_cases hg : gk = 0
    · obtain rfl : k = ne.length := by omega
      have HX := Lib.hid (HV.out.trans hz0)
      clear hk hz0 hg
      go_wp2_with fail
      go_ret
      exact ⟨ret_int HX.out.symm, hb⟩
    · have hlt : k < ne.length := by omega
      obtain ⟨g, o, rfl, hgl, c0, c1⟩ := (HN.out.below hb).pair hlt rfl
      have HA := Lib.hid (nrAt_eq ne hlt)
      have HK := Lib.hid hk
      have HZ := Lib.hid hz0
      have hgk : gk ≠ 0 := hg
      have HBD := Lib.hid (show ∀ z : Int, z ≠ 0 → neF ps ne k = z → v = z from fun z h1 h2 => by rw [HV.out, firstTo_at hlt hz0 (by rw [h2]; exact h1), h2])
      clear hk hz0 hg
      generalize ne[k] = x at *
      obtain ⟨na, nb⟩ := x
      have HFI := Lib.hid (show neF ps ne k = if decide (keyAt na ps < 0) || decide (keyAt nb ps < 0) then 8 else if decide (keyAt na ps = keyAt nb ps) || nearM ps ne k (keyAt na ps).toNat (keyAt nb ps).toNat then 6 else 0 by rw [neF, HA.out])
      clear HA
      simp only at c0 c1
      go_wp2_with fail
      have hb0 := bbox hb (.cells #[.string na, .string nb] 142)
      have HX := Lib.hid (heap_alloc_new wr (.cells #[.string na, .string nb] 142))
      generalize wr.alloc (.cells #[.string na, .string nb] 142) = w2 at *
      refine (peerAtOf_any _ _ c ps na _ (HF.out.below hb0) (by omega)).mono ?_
      rintro e w3 ⟨rfl, b3⟩
      have HM3 := Lib.hid ((b3.block wr.heap.size (block_lt HX.out)).trans HX.out)
      have d0 := (pe_cells HM3.out).1
      have d1 := (pe_cells HM3.out).2
      have l3 := block_lt HM3.out
      have hb3 := bon hb0 b3
      clear hb0 HX b3 hgl c0 c1 hb
      generalize wr.heap.size = pb at *
      clear w2
      rcases Int.lt_or_le (keyAt na ps) 0 with h1 | h1
      · have H8 := Lib.hid (HBD.out 8 (by decide) (by rw [HFI.out, if_pos (by simp; omega)]))
        have h1' : decide (keyAt na ps < 0) = true := decide_eq_true h1
        clear HFI h1
        go_wp2_with fail
        go_ret
        exact ⟨ret_int H8.out.symm, hb3⟩
      · have h1' : decide (keyAt na ps < 0) = false := decide_eq_false (by omega)
        have H1 := Lib.hid h1
        clear h1
        go_wp2_with fail
        refine (peerAtOf_any _ _ c ps nb _ (HF.out.below hb3) (by omega)).mono ?_
        rintro e w4 ⟨rfl, b4⟩
        have HM4 := Lib.hid ((b4.block pb (block_lt HM3.out)).trans HM3.out)
        have e0 := (pe_cells HM4.out).1
        have e1 := (pe_cells HM4.out).2
        have l4 := block_lt HM4.out
        have hb4 := bon hb3 b4
        clear hb3 b4 d0 d1 l3 HM3
        rcases Int.lt_or_le (keyAt nb ps) 0 with h2 | h2
        · have H8 := Lib.hid (HBD.out 8 (by decide) (by rw [HFI.out, if_pos (by simp; omega)]))
          have h2' : decide (keyAt nb ps < 0) = true := decide_eq_true h2
          clear HFI h2
          go_wp2_with fail
          go_ret
          exact ⟨ret_int H8.out.symm, hb4⟩
        · have h2' : decide (keyAt nb ps < 0) = false := decide_eq_false (by omega)
          have HFS := Lib.hid (show neF ps ne k = if seenB ne k na nb then 6 else 0 by rw [HFI.out, if_neg (by rw [h1', h2']; decide), seen_near ps ne k na nb H1.out h2])
          clear HFI h2
          have HT := Lib.hid (fun (W : World) (hw : Below w.heap.size w W) => (HN.out.below hw).take2 (i := k) (by omega) rfl)
          have HLK := Lib.hid (show (ne.take k).length = k by rw [List.length_take]; omega)
          have hkI : (k : Int) ≤ (ne.length : Int) := by omega
          have hdI : (k : Int) ≤ (d : Int) := by
            obtain ⟨_, _, _, hvv, hle, _⟩ := HN.out
            simp only [Value.slice.injEq] at hvv
            omega
          have HCP := Lib.hid (show ∀ (W : World) (x : PairD), Below w.heap.size w W → Calls Tryz.prog 88 #[.slice (some ⟨g, o, none⟩) k d, .agg #[.string x.1, .string x.2]] W fun e w' => e = .returned (.bool ((ne.take k).any (paE x))) ∧ Below W.heap.size W w' from fun W x hw => by
            have := containsPair_any _ _ d (ne.take k) x W (HT.out W hw) (by rw [HLK.out]; omega)
            rw [HLK.out] at this
            exact this)
          have HSE : Hid (seenB ne k na nb = ((na.toList == nb.toList) || ((ne.take k).any (paE (na, nb)) || (ne.take k).any (paE (nb, na))))) := rfl
          go_upto_region 8 with fail
          go_wp2_with fail
          have hb5 := bbox hb4 (.cells #[.string nb, .string na] 142)
          have HM5 := Lib.hid ((Below.heap_alloc w4 (.cells #[.string nb, .string na] 142) pb l4).trans HM4.out)
          have HY5 := Lib.hid (heap_alloc_new w4 (.cells #[.string nb, .string na] 142))
          generalize w4.alloc (.cells #[.string nb, .string na] 142) = w5 at *
          generalize w4.heap.size = qb at *
          have f0 := (pe_cells HM5.out).1
          have f1 := (pe_cells HM5.out).2
          have f2 := (pe_cells HY5.out).1
          have f3 := (pe_cells HY5.out).2
          clear e0 e1 l4 hb4 HM4
          clear w4
          go_upto_region 9 with fail
          go_cut [53] (fun s wx => s = .bool (seenB ne k na nb) ∧ Below w.heap.size w wx)
          case first =>
            rcases Bool.eq_false_or_eq_true (na.toList == nb.toList) with q0 | q0
            · have HS := Lib.hid (show seenB ne k na nb = true by rw [HSE.out, q0]; rfl)
              go_quiet (fail)
              go_wp2_with fail
              go_meet
              exact ⟨by rw [HS.out], below_drewN hb5 _⟩
            · have C1 := fun (p : Bel w5) => HCP.out p.W (na, nb) (bon hb5 p.h)
              have C2 := fun (p : Bel w5) => HCP.out p.W (nb, na) (bon hb5 p.h)
              have k0 := fun (p : Bel w5) => bel_cell f0 p
              have k1 := fun (p : Bel w5) => bel_cell f1 p
              have k2 := fun (p : Bel w5) => bel_cell f2 p
              have k3 := fun (p : Bel w5) => bel_cell f3 p
              rcases Bool.eq_false_or_eq_true ((ne.take k).any (paE (na, nb))) with q1 | q1
              · have HS := Lib.hid (show seenB ne k na nb = true by rw [HSE.out, q0, q1]; rfl)
                rw [q1] at C1
                clear q1 HSE
                refine wp_region_quiet_bel (by kernel_rfl) (by kernel_rfl) ?_
                repeat (quiet_step (((go_at_call 88; exact Calls.bel_of (C1 _)))))
                refine wpQuiet_nil ?_
                intro _ hw'
                obtain ⟨⟨w6, h6⟩, hw''⟩ := hw'
                subst hw''
                go_wp2_with fail
                go_meet
                exact ⟨by rw [HS.out], bon hb5 h6⟩
              · have HS := Lib.hid (show seenB ne k na nb = (ne.take k).any (paE (nb, na)) by rw [HSE.out, q0, q1]; rfl)
                rw [q1] at C1
                clear q1 HSE
                refine wp_region_quiet_bel (by kernel_rfl) (by kernel_rfl) ?_
                repeat (quiet_step ((first | ((go_at_call 88; exact Calls.bel_of (C1 _))) | ((go_at_call 88; exact Calls.bel_of (C2 _))))))
                refine wpQuiet_nil ?_
                intro _ hw'
                obtain ⟨⟨w6, h6⟩, hw''⟩ := hw'
                subst hw''
                go_wp2_with fail
                go_meet
                exact ⟨by rw [HS.out], bon hb5 h6⟩
          case rest =>
            obtain ⟨rfl, hb6⟩ := hcut
            rcases Bool.eq_false_or_eq_true (seenB ne k na nb) with hc | hc
            · have H6 := Lib.hid (HBD.out 6 (by decide) (by rw [HFS.out, hc]; rfl))
              rw [hc]
              clear hc HFS
              go_wp2_with fail
              go_ret
              exact ⟨ret_int H6.out.symm, hb6⟩
            · have H0 := Lib.hid (firstTo_succ HZ.out (by rw [HFS.out, hc]; rfl))
              rw [hc]
              clear hc HFS
              go_wp2_with fail
              go_roundg (gk - 1)
              case measure => omega
              case rel => exact ⟨k + 1, by have := HK.out; omega, by go_num, H0.out, hb6⟩
def giveTo (N H : Nat → Nat → Bool) (cn : Nat → Int) (gave : Nat → Bool) (i p : Nat) : Nat → Int
  | 0 => -1
  | k + 1 => if N i k && !gave k && H k p && (decide (giveTo N H cn gave i p k < 0) || decide (cn k > cn (giveTo N H cn gave i p k).toNat)) then (k : Int) else giveTo N H cn gave i p k
theorem giveTo_range (N H : Nat → Nat → Bool) (cn : Nat → Int) (gave : Nat → Bool) (i p : Nat) : ∀ k, -1 ≤ giveTo N H cn gave i p k ∧ giveTo N H cn gave i p k < (k : Int) + 0 ∨ giveTo N H cn gave i p k = -1
  | 0 => .inr rfl
  | k + 1 => by
    rw [giveTo]
    split
    · left; omega
    · rcases giveTo_range N H cn gave i p k with h | h
      · left; omega
      · right; exact h
theorem row_cell {w : World} {g m j : Nat} {f : Nat → Bool} {t : TypeId} (h : w.heap[g]? = some (.cells (rowC m f).toArray t (0, 0))) (hj : j < m) : w.cell? ⟨g, j, none⟩ = some (.bool (f j)) := by
  have e := rowC_at f hj
  simp [World.cell?, h, e]
def GvRel (N H : Nat → Nat → Bool) (cn : Nat → Int) (gave : Nat → Bool) (i p n : Nat) (w : World) (g : Nat) (b ix : Value) (wr : World) : Prop :=
  ∃ k : Nat, k + g = n ∧ ix = .int .i64 k ∧ b = .int .i64 (giveTo N H cn gave i p k) ∧ ∃ q, wr = w.drewN q
set_option maxRecDepth 100000 in
set_option maxHeartbeats 4000000 in
theorem giver_any (cb n m i p kc gg cg co cc : Nat) (KA NA HA : Option Addr) (nc hc base : Nat) (N H : Nat → Nat → Bool) (gN gH : Nat → Nat) (cn : Nat → Int) (gave : Nat → Bool) (w : World) (hn : n ≤ 50) (_hm : m ≤ 60) (hi : i < n) (hp : p < m)
    (k0 : w.cell? ⟨cb, 0, none⟩ = some (.slice KA n kc)) (k1 : w.cell? ⟨cb, 1, none⟩ = some (.slice NA n nc)) (k2 : w.cell? ⟨cb, 2, none⟩ = some (.slice HA n hc)) (k3 : w.cell? ⟨cb, 3, none⟩ = some (.slice (some ⟨cg, co, none⟩) n cc))
    (hN : Mat w base (.slice NA n nc) n n N gN) (hH : Mat w base (.slice HA n hc) n m H gH) (hC : ∀ j, j < n → w.cell? ⟨cg, co + j, none⟩ = some (.int .i64 (cn j))) (hG : w.heap[gg]? = some (.cells (rowC n gave).toArray 4 (0, 0))) :
    Calls Tryz.prog 174 #[.pointer (some ⟨cb, 0, none⟩), .int .i64 i, .int .i64 p, .slice (some ⟨gg, 0, none⟩) n n] w fun e w' => e = .returned (.int .i64 (giveTo N H cn gave i p n)) ∧ ∃ q, w' = w.drewN q := by
  have HN := Lib.hid hN
  have HH := Lib.hid hH
  have HC := Lib.hid hC
  have HG := Lib.hid hG
  obtain ⟨ob, rfl, _, _, _, _, _, a1, a2, _⟩ := hN.at_ (i := i) (j := 0) hi hi
  unfold slc at a1
  have hiI : (i : Int) < (n : Int) := by omega
  have hpI : (p : Int) < (m : Int) := by omega
  clear hN hH hC hG a2
  go_enter Tryz.func174, Tryz.ntmps174
  go_wp2_with fail
  go_loopg [9, 16, 10] n (fun g b ix _ wr => GvRel N H cn gave i p n w g b ix wr)
  case atStart => exact ⟨0, by omega, rfl, rfl, 0, rfl⟩
  case round =>
    obtain ⟨k, hk, rfl, rfl, q, rfl⟩ := hrel
    by_cases hg : gk = 0
    · obtain rfl : k = n := by omega
      clear hk hg
      go_wp2_with fail
      go_ret
      exact ⟨rfl, _, rfl⟩
    · have hlt : k < n := by omega
      have hkI : (k : Int) < (n : Int) := by omega
      have HK := Lib.hid hk
      have hgk : gk ≠ 0 := hg
      obtain ⟨ob1, eo1, _, _, _, _, _, n1, n2', _⟩ := HN.out.at_ (i := i) (j := k) hi hi
      obtain ⟨ob2, rfl, _, _, _, _, _, h1, h2', _⟩ := HH.out.at_ (i := k) (j := p) hlt hlt
      have n2 := n2' hlt
      have h2 := h2' hp
      clear n2' h2'
      have ck := HC.out k hlt
      have gk1 := row_cell HG.out hlt
      have hr := giveTo_range N H cn gave i p k
      have HST := Lib.hid (show giveTo N H cn gave i p (k + 1) = if N i k && !gave k && H k p && (decide (giveTo N H cn gave i p k < 0) || decide (cn k > cn (giveTo N H cn gave i p k).toNat)) then (k : Int) else giveTo N H cn gave i p k from rfl)
      have HCB := Lib.hid (show ∀ b : Nat, b < n → w.cell? ⟨cg, co + b, none⟩ = some (.int .i64 (cn b)) from fun b hb => HC.out b hb)
      unfold slc at h1
      clear hk hg n1 eo1
      generalize giveTo N H cn gave i p k = bb at *
      generalize cn k = ck1 at *
      rcases Bool.eq_false_or_eq_true (N i k) with e1 | e1
      rotate_left
      · have HS := Lib.hid (show giveTo N H cn gave i p (k + 1) = bb by rw [HST.out, e1]; rfl)
        rw [e1] at n2
        clear HST e1
        go_wp2_with fail
        go_quiet (fail)
        go_wp2_with fail
        go_roundg (gk - 1)
        case measure => omega
        case rel => exact ⟨k + 1, by have := HK.out; omega, by go_num, by rw [HS.out], _, rfl⟩
      · rw [e1] at n2
        rcases Bool.eq_false_or_eq_true (gave k) with e2 | e2
        · have HS := Lib.hid (show giveTo N H cn gave i p (k + 1) = bb by rw [HST.out, e1, e2]; rfl)
          rw [e2] at gk1
          clear HST e1 e2
          go_wp2_with fail
          go_quiet (fail)
          go_wp2_with fail
          go_roundg (gk - 1)
          case measure => omega
          case rel => exact ⟨k + 1, by have := HK.out; omega, by go_num, by rw [HS.out], _, rfl⟩
        · rw [e2] at gk1
          rcases Bool.eq_false_or_eq_true (H k p) with e3 | e3
          rotate_left
          · have HS := Lib.hid (show giveTo N H cn gave i p (k + 1) = bb by rw [HST.out, e1, e2, e3]; rfl)
            rw [e3] at h2
            clear HST e1 e2 e3
            go_wp2_with fail
            go_quiet (fail)
            go_wp2_with fail
            go_roundg (gk - 1)
            case measure => omega
            case rel => exact ⟨k + 1, by have := HK.out; omega, by go_num, by rw [HS.out], _, rfl⟩
          · rw [e3] at h2
            rcases Int.lt_or_le bb 0 with e4 | e4
            · have HS := Lib.hid (show giveTo N H cn gave i p (k + 1) = k by rw [HST.out, e1, e2, e3, decide_eq_true e4]; rfl)
              have e4' : decide (bb < 0) = true := decide_eq_true e4
              clear HST e1 e2 e3
              go_wp2_with fail
              go_quiet (fail)
              go_wp2_with fail
              go_roundg (gk - 1)
              case measure => omega
              case rel => exact ⟨k + 1, by have := HK.out; omega, by go_num, by rw [HS.out], _, rfl⟩
            · have e4' : decide (bb < 0) = false := decide_eq_false (by omega)
              obtain ⟨b, rfl⟩ := Int.eq_ofNat_of_zero_le e4
              have hbn : b < n := by omega
              have hbI : (b : Int) < (n : Int) := by omega
              have cbb := HCB.out b hbn
              rw [Int.toNat_natCast] at HST
              generalize cn b = cb1 at *
              by_cases e5 : ck1 > cb1
              · have HS := Lib.hid (show giveTo N H cn gave i p (k + 1) = k by rw [HST.out, e1, e2, e3, decide_eq_true e5]; simp)
                clear HST e1 e2 e3 hr
                go_wp2_with fail
                go_quiet (fail)
                go_wp2_with fail
                go_roundg (gk - 1)
                case measure => omega
                case rel => exact ⟨k + 1, by have := HK.out; omega, by go_num, by rw [HS.out], _, rfl⟩
              · have HS := Lib.hid (show giveTo N H cn gave i p (k + 1) = b by rw [HST.out, e1, e2, e3, decide_eq_false e5, e4']; rfl)
                clear HST e1 e2 e3 hr
                go_wp2_with fail
                go_quiet (fail)
                go_wp2_with fail
                go_roundg (gk - 1)
                case measure => omega
                case rel => exact ⟨k + 1, by have := HK.out; omega, by go_num, by rw [HS.out], _, rfl⟩
def takeTo (n : Nat) (N H : Nat → Nat → Bool) (cn ra : Nat → Int) (gave : Nat → Bool) (i : Nat) : Nat → Int × Int
  | 0 => (-1, -1)
  | p + 1 =>
    if H i p || (decide (0 ≤ (takeTo n N H cn ra gave i p).1) && decide (ra p ≥ ra (takeTo n N H cn ra gave i p).1.toNat)) then takeTo n N H cn ra gave i p
    else if 0 ≤ giveTo N H cn gave i p n then ((p : Int), giveTo N H cn gave i p n) else takeTo n N H cn ra gave i p
theorem takeTo_range (n : Nat) (N H : Nat → Nat → Bool) (cn ra : Nat → Int) (gave : Nat → Bool) (i : Nat) : ∀ p, (takeTo n N H cn ra gave i p).1 < (p : Int)
  | 0 => by show (-1 : Int) < 0; omega
  | p + 1 => by
    have := takeTo_range n N H cn ra gave i p
    rw [takeTo]
    split
    · omega
    · split
      · show (p : Int) < _; omega
      · omega
def TkRel (n m : Nat) (N H : Nat → Nat → Bool) (cn ra : Nat → Int) (gave : Nat → Bool) (i : Nat) (w : World) (g : Nat) (a b ix : Value) (wr : World) : Prop :=
  ∃ p : Nat, p + g = m ∧ ix = .int .i64 p ∧ a = .int .i64 (takeTo n N H cn ra gave i p).1 ∧ b = .int .i64 (takeTo n N H cn ra gave i p).2 ∧ ∃ q, wr = w.drewN q
set_option maxRecDepth 100000 in
set_option maxHeartbeats 4000000 in
theorem takes_any (cb n m i kc gg cg co cc rg ro rc : Nat) (KA NA HA : Option Addr) (nc hc base : Nat) (N H : Nat → Nat → Bool) (gN gH : Nat → Nat) (cn ra : Nat → Int) (gave : Nat → Bool) (w : World) (hn : n ≤ 50) (hm : m ≤ 60) (hi : i < n)
    (k0 : w.cell? ⟨cb, 0, none⟩ = some (.slice KA n kc)) (k1 : w.cell? ⟨cb, 1, none⟩ = some (.slice NA n nc)) (k2 : w.cell? ⟨cb, 2, none⟩ = some (.slice HA n hc)) (k3 : w.cell? ⟨cb, 3, none⟩ = some (.slice (some ⟨cg, co, none⟩) n cc)) (k4 : w.cell? ⟨cb, 4, none⟩ = some (.slice (some ⟨rg, ro, none⟩) m rc))
    (hN : Mat w base (.slice NA n nc) n n N gN) (hH : Mat w base (.slice HA n hc) n m H gH) (hC : ∀ j, j < n → w.cell? ⟨cg, co + j, none⟩ = some (.int .i64 (cn j))) (hR : ∀ j, j < m → w.cell? ⟨rg, ro + j, none⟩ = some (.int .i64 (ra j))) (hG : w.heap[gg]? = some (.cells (rowC n gave).toArray 4 (0, 0))) :
    Calls Tryz.prog 141 #[.pointer (some ⟨cb, 0, none⟩), .int .i64 i, .slice (some ⟨gg, 0, none⟩) n n] w fun e w' => e = .returned (.tuple #[.int .i64 (takeTo n N H cn ra gave i m).1, .int .i64 (takeTo n N H cn ra gave i m).2]) ∧ ∃ q, w' = w.drewN q := by
  have HGV := Lib.hid (fun p (hp : p < m) q => giver_any cb n m i p kc gg cg co cc KA NA HA nc hc base N H gN gH cn gave (w.drewN q) hn hm hi hp k0 k1 k2 k3 (hN.drewN q) (hH.drewN q) hC hG)
  have HH := Lib.hid hH
  have HR := Lib.hid hR
  obtain ⟨ob, rfl, _, _, _, _, _, a1, _, _⟩ := hH.at_ (i := i) (j := 0) hi hi
  unfold slc at a1
  have hiI : (i : Int) < (n : Int) := by omega
  clear hN hH hC hR hG
  go_enter Tryz.func141, Tryz.ntmps141
  go_wp2_with fail
  go_loopg [6, 7, 15, 8, 9] m (fun g a b ix _ _ wr => TkRel n m N H cn ra gave i w g a b ix wr)
  case atStart => exact ⟨0, by omega, rfl, rfl, rfl, 0, rfl⟩
  case round =>
    obtain ⟨p, hk, rfl, rfl, rfl, q, rfl⟩ := hrel
    by_cases hg : gk = 0
    · obtain rfl : p = m := by omega
      clear hk hg
      go_wp2_with fail
      go_ret2
      exact ⟨rfl, _, rfl⟩
    · have hlt : p < m := by omega
      have hpI : (p : Int) < (m : Int) := by omega
      have HK := Lib.hid hk
      have hgk : gk ≠ 0 := hg
      obtain ⟨ob1, eo1, _, _, _, _, _, _, h2', _⟩ := HH.out.at_ (i := i) (j := p) hi hi
      have h2 := h2' hlt
      have rp := HR.out p hlt
      have hr := takeTo_range n N H cn ra gave i p
      have HST := Lib.hid (show takeTo n N H cn ra gave i (p + 1) = if H i p || (decide (0 ≤ (takeTo n N H cn ra gave i p).1) && decide (ra p ≥ ra (takeTo n N H cn ra gave i p).1.toNat)) then takeTo n N H cn ra gave i p else if 0 ≤ giveTo N H cn gave i p n then ((p : Int), giveTo N H cn gave i p n) else takeTo n N H cn ra gave i p from rfl)
      clear hk hg h2' eo1
      generalize takeTo n N H cn ra gave i p = tt at *
      obtain ⟨t1, t2⟩ := tt
      simp only at hr HST
      go_upto_region 5 with fail
      go_cut [48] (fun s wx => s = .bool (H i p || (decide (0 ≤ t1) && decide (ra p ≥ ra t1.toNat))) ∧ ∃ q, wx = w.drewN q)
      case first =>
        generalize ra p = rp1 at *
        rcases Bool.eq_false_or_eq_true (H i p) with e1 | e1
        · rw [e1] at h2
          have HE := Lib.hid e1
          clear e1 HST
          go_quiet (fail)
          go_wp2_with fail
          go_meet
          exact ⟨by rw [HE.out]; rfl, _, World.drewN_drewN ..⟩
        · rw [e1] at h2
          have HE := Lib.hid e1
          clear e1 HST
          rcases Int.lt_or_le t1 0 with e2 | e2
          · have e2' : decide (0 ≤ t1) = false := decide_eq_false (by omega)
            have HE2 := Lib.hid e2'
            go_quiet (fail)
            go_wp2_with fail
            go_meet
            exact ⟨by rw [HE.out, HE2.out]; rfl, _, World.drewN_drewN ..⟩
          · obtain ⟨b, rfl⟩ := Int.eq_ofNat_of_zero_le e2
            have hbI : (b : Int) < (m : Int) := by omega
            have rb := HR.out b (by omega)
            have HE2 := Lib.hid (show decide (0 ≤ (b : Int)) = true from decide_eq_true e2)
            go_quiet (fail)
            go_wp2_with fail
            go_meet
            exact ⟨by rw [HE.out, HE2.out]; simp, _, World.drewN_drewN ..⟩
      case rest =>
        obtain ⟨rfl, q2, rfl⟩ := hcut
        rcases Bool.eq_false_or_eq_true (H i p || (decide (0 ≤ t1) && decide (ra p ≥ ra t1.toNat))) with hc | hc
        · have HS := Lib.hid (show takeTo n N H cn ra gave i (p + 1) = (t1, t2) by rw [HST.out, hc]; rfl)
          rw [hc]
          clear hc HST
          go_wp2_with fail
          go_roundg (gk - 1)
          case measure => omega
          case rel => exact ⟨p + 1, by have := HK.out; omega, by go_num, by rw [HS.out], by rw [HS.out], _, rfl⟩
        · rw [hc] at HST ⊢
          clear hc
          go_wp2_with fail
          refine (HGV.out p hlt q2).mono ?_
          rintro e w3 ⟨rfl, q3, rfl⟩
          rcases Int.lt_or_le (giveTo N H cn gave i p n) 0 with e5 | e5
          · have HS := Lib.hid (show takeTo n N H cn ra gave i (p + 1) = (t1, t2) by rw [HST.out, if_neg Bool.false_ne_true, if_neg (by omega)])
            have e5' : ¬ 0 ≤ giveTo N H cn gave i p n := by omega
            clear HST
            generalize giveTo N H cn gave i p n = gv at *
            go_wp2_with fail
            go_roundg (gk - 1)
            case measure => omega
            case rel => exact ⟨p + 1, by have := HK.out; omega, by go_num, by rw [HS.out], by rw [HS.out], _, rfl⟩
          · have HS := Lib.hid (show takeTo n N H cn ra gave i (p + 1) = ((p : Int), giveTo N H cn gave i p n) by rw [HST.out, if_neg Bool.false_ne_true, if_pos e5])
            clear HST
            generalize giveTo N H cn gave i p n = gv at *
            go_wp2_with fail
            go_roundg (gk - 1)
            case measure => omega
            case rel => exact ⟨p + 1, by have := HK.out; omega, by go_num, by rw [HS.out], by rw [HS.out], _, rfl⟩
open Go.Sort
variable {α : Type} [Inhabited α]
theorem swp_size (d : Array α) (i j : Nat) : (swp d i j).size = d.size := by simp [swp]
theorem insInner_size (lt : α → α → Bool) (a j : Nat) (d : Array α) : (insInner lt a j d).size = d.size := by
  induction j generalizing d with
  | zero => rfl
  | succ j ih =>
    rw [insInner]
    split
    · rw [ih, swp_size]
    · rfl
open Go.RowKit Go.Sort
def cntTo (f : Nat → Bool) : Nat → Int
  | 0 => 0
  | k + 1 => cntTo f k + if f k then 1 else 0
theorem cntTo_range (f : Nat → Bool) : ∀ k, 0 ≤ cntTo f k ∧ cntTo f k ≤ k
  | 0 => ⟨Int.le_refl _, Int.le_refl _⟩
  | k + 1 => by
    have := cntTo_range f k
    rw [cntTo]
    split <;> omega
def cnF (m : Nat) (H : Nat → Nat → Bool) (i : Nat) : Int := cntTo (H i) m
def raF (n : Nat) (H : Nat → Nat → Bool) (p : Nat) : Int := cntTo (fun a => H a p) n
theorem insOuter_sz {α : Type} [Inhabited α] (lt : α → α → Bool) (a b : Nat) : ∀ (m i : Nat) (d : Array α), m + i = b ∨ b ≤ i → (insOuter lt a b i d).size = d.size := by
  intro m
  induction m with
  | zero => intro i d h; rw [insOuter, if_neg (by omega)]
  | succ m ih =>
    intro i d h
    rw [insOuter]
    split
    · rw [ih (i + 1) _ (by omega), insInner_size]
    · rfl
theorem isort_sz {α : Type} [Inhabited α] (lt : α → α → Bool) (d : Array α) : (insertionSort lt d 0 d.size).size = d.size := by
  rw [insertionSort]
  exact insOuter_sz lt 0 d.size (d.size - 1) 1 d (by omega)
def finA (k : Nat) : Array (Fin (k + 1)) := (List.finRange (k + 1)).toArray
theorem finA_size (k : Nat) : (finA k).size = k + 1 := by simp [finA]
def ordFin (k : Nat) (cn : Nat → Int) : Array (Fin (k + 1)) := insertionSort (ltOf fun a b : Fin (k + 1) => Lib.compareInt (cn a.val) (cn b.val)) (finA k) 0 (k + 1)
theorem ordFin_size (k : Nat) (cn : Nat → Int) : (ordFin k cn).size = k + 1 := by
  have := isort_sz (ltOf fun a b : Fin (k + 1) => Lib.compareInt (cn a.val) (cn b.val)) (finA k)
  rw [finA_size] at this
  exact this
def ordF (n : Nat) (cn : Nat → Int) : List Nat := match n with
  | 0 => []
  | k + 1 => (ordFin k cn).toList.map Fin.val
theorem ordF_len (n : Nat) (cn : Nat → Int) : (ordF n cn).length = n := by
  cases n with
  | zero => rfl
  | succ k => simp [ordF, ordFin_size]
theorem ordF_lt (n : Nat) (cn : Nat → Int) : ∀ x ∈ ordF n cn, x < n := by
  cases n with
  | zero => intro x h; cases h
  | succ k =>
    intro x h
    obtain ⟨a, _, rfl⟩ := List.mem_map.1 h
    exact a.isLt
abbrev Gift := Nat × Nat × Nat
def setBP (f : Nat → Bool) (j : Nat) : Nat → Bool := fun x => if x = j then true else f x
def stepR (n m : Nat) (N H : Nat → Nat → Bool) (s : (Nat → Bool) × List Gift) (i : Nat) : (Nat → Bool) × List Gift :=
  if 0 ≤ (takeTo n N H (cnF m H) (raF n H) s.1 i m).1 then (setBP s.1 (takeTo n N H (cnF m H) (raF n H) s.1 i m).2.toNat, s.2 ++ [(i, (takeTo n N H (cnF m H) (raF n H) s.1 i m).2.toNat, (takeTo n N H (cnF m H) (raF n H) s.1 i m).1.toNat)]) else s
def rdTo (n m : Nat) (N H : Nat → Nat → Bool) (l : List Nat) : (Nat → Bool) × List Gift := l.foldl (stepR n m N H) (fun _ => false, [])
theorem rdTo_succ (n m : Nat) (N H : Nat → Nat → Bool) (l : List Nat) {k : Nat} (h : k < l.length) : rdTo n m N H (l.take (k + 1)) = stepR n m N H (rdTo n m N H (l.take k)) l[k] := by
  rw [List.take_succ_eq_append_getElem h]
  simp only [rdTo, List.foldl_append, List.foldl_cons, List.foldl_nil]
def gifts (n m : Nat) (N H : Nat → Nat → Bool) : List Gift := (rdTo n m N H (ordF n (cnF m H))).2
theorem giveTo_lt (N H : Nat → Nat → Bool) (cn : Nat → Int) (gave : Nat → Bool) (i p : Nat) : ∀ k, giveTo N H cn gave i p k < (k : Int)
  | 0 => by show (-1 : Int) < 0; omega
  | k + 1 => by
    have := giveTo_lt N H cn gave i p k
    rw [giveTo]
    split <;> omega
theorem takeTo_spec (n : Nat) (N H : Nat → Nat → Bool) (cn ra : Nat → Int) (gave : Nat → Bool) (i : Nat) : ∀ p, 0 ≤ (takeTo n N H cn ra gave i p).1 →
    H i (takeTo n N H cn ra gave i p).1.toNat = false ∧ (takeTo n N H cn ra gave i p).1 < (p : Int) ∧ 0 ≤ (takeTo n N H cn ra gave i p).2 ∧ (takeTo n N H cn ra gave i p).2 < (n : Int)
  | 0 => fun h => absurd h (show ¬ (0 : Int) ≤ -1 by decide)
  | p + 1 => by
    intro h
    have ih := takeTo_spec n N H cn ra gave i p
    rw [takeTo] at h ⊢
    split
    · rename_i hc
      rw [if_pos hc] at h
      have := ih h
      exact ⟨this.1, by omega, this.2.2⟩
    · rename_i hc
      rw [if_neg hc] at h
      split
      · rename_i hg
        refine ⟨?_, by show (p : Int) < _; omega, hg, giveTo_lt N H cn gave i p n⟩
        simp only [Bool.not_eq_true, Bool.or_eq_false_iff] at hc
        simpa using hc.1
      · rename_i hg
        rw [if_neg hg] at h
        have := ih h
        exact ⟨this.1, by omega, this.2.2⟩
def GiftOk (n m : Nat) (H : Nat → Nat → Bool) (g : Gift) : Prop := g.1 < n ∧ g.2.1 < n ∧ g.2.2 < m ∧ H g.1 g.2.2 = false
theorem foldR_ok (n m : Nat) (N H : Nat → Nat → Bool) : ∀ (l : List Nat) (s : (Nat → Bool) × List Gift), (∀ x ∈ l, x < n) → (∀ g ∈ s.2, GiftOk n m H g) →
    (∀ g ∈ (l.foldl (stepR n m N H) s).2, GiftOk n m H g) ∧ (l.foldl (stepR n m N H) s).2.length ≤ s.2.length + l.length
  | [], s, _, h => ⟨h, by simp⟩
  | i :: r, s, hl, h => by
    have hi : i < n := hl i (by simp)
    have hst : (∀ g ∈ (stepR n m N H s i).2, GiftOk n m H g) ∧ (stepR n m N H s i).2.length ≤ s.2.length + 1 := by
      rw [stepR]
      split
      · rename_i h0
        obtain ⟨h1, h2, h3, h4⟩ := takeTo_spec n N H (cnF m H) (raF n H) s.1 i m h0
        refine ⟨fun g hg => ?_, by simp⟩
        rcases List.mem_append.1 hg with hg | hg
        · exact h g hg
        · simp only [List.mem_singleton] at hg
          subst hg
          exact ⟨hi, by show (takeTo n N H (cnF m H) (raF n H) s.1 i m).2.toNat < n; omega, by show (takeTo n N H (cnF m H) (raF n H) s.1 i m).1.toNat < m; omega, h1⟩
      · exact ⟨h, by omega⟩
    have := foldR_ok n m N H r (stepR n m N H s i) (fun x hx => hl x (by simp [hx])) hst.1
    rw [List.foldl_cons]
    refine ⟨this.1, Nat.le_trans this.2 ?_⟩
    have := hst.2
    simp only [List.length_cons]
    omega
theorem rdTo_ok (n m : Nat) (N H : Nat → Nat → Bool) (l : List Nat) (hl : ∀ x ∈ l, x < n) : (∀ g ∈ (rdTo n m N H l).2, GiftOk n m H g) ∧ (rdTo n m N H l).2.length ≤ l.length := by
  have := foldR_ok n m N H l (fun _ => false, []) hl (fun g hg => by cases hg)
  exact ⟨this.1, by have := this.2; simp only [List.length_nil, Nat.zero_add] at this; exact this⟩
theorem gifts_ok (n m : Nat) (N H : Nat → Nat → Bool) : (∀ g ∈ gifts n m N H, GiftOk n m H g) ∧ (gifts n m N H).length ≤ n := by
  have := rdTo_ok n m N H (ordF n (cnF m H)) (ordF_lt n _)
  rw [ordF_len] at this
  exact this
def applyG (H : Nat → Nat → Bool) (l : List Gift) : Nat → Nat → Bool := l.foldl (fun H g => updB H g.1 g.2.2 true) H
theorem applyG_succ (H : Nat → Nat → Bool) (l : List Gift) {k : Nat} (h : k < l.length) : applyG H (l.take (k + 1)) = updB (applyG H (l.take k)) l[k].1 l[k].2.2 true := by
  rw [List.take_succ_eq_append_getElem h]
  simp only [applyG, List.foldl_append, List.foldl_cons, List.foldl_nil]
def fals1 (f : Nat → Bool) : Nat → Nat
  | 0 => 0
  | k + 1 => fals1 f k + if f k then 0 else 1
theorem fals1_le (f : Nat → Bool) : ∀ k, fals1 f k ≤ k
  | 0 => Nat.le_refl _
  | k + 1 => by
    have := fals1_le f k
    rw [fals1]
    split <;> omega
theorem fals1_mono {f f' : Nat → Bool} (h : ∀ x, f x = true → f' x = true) : ∀ k, fals1 f' k ≤ fals1 f k
  | 0 => Nat.le_refl _
  | k + 1 => by
    have := fals1_mono h k
    rw [fals1, fals1]
    by_cases h1 : f k = true
    · rw [if_pos h1, if_pos (h k h1)]; omega
    · rw [if_neg h1]; split <;> omega
theorem fals1_lt {f f' : Nat → Bool} (h : ∀ x, f x = true → f' x = true) {j : Nat} (h0 : f j = false) (h1 : f' j = true) : ∀ k, j < k → fals1 f' k < fals1 f k
  | 0 => fun hj => absurd hj (Nat.not_lt_zero _)
  | k + 1 => fun hj => by
    rw [fals1, fals1]
    by_cases e : j = k
    · subst e
      rw [if_pos h1, if_neg (by rw [h0]; decide)]
      have := fals1_mono h j
      omega
    · have := fals1_lt h h0 h1 k (by omega)
      by_cases h2 : f k = true
      · rw [if_pos h2, if_pos (h k h2)]; omega
      · rw [if_neg h2]; split <;> omega
def fals (m : Nat) (H : Nat → Nat → Bool) : Nat → Nat
  | 0 => 0
  | k + 1 => fals m H k + fals1 (H k) m
theorem fals_le (m : Nat) (H : Nat → Nat → Bool) : ∀ n, fals m H n ≤ n * m
  | 0 => by simp [fals]
  | k + 1 => by
    have h1 := fals_le m H k
    have h2 := fals1_le (H k) m
    rw [fals, Nat.add_mul]
    omega
theorem fals_mono {m : Nat} {H H' : Nat → Nat → Bool} (h : ∀ a x, H a x = true → H' a x = true) : ∀ n, fals m H' n ≤ fals m H n
  | 0 => Nat.le_refl _
  | k + 1 => by
    have h1 := fals_mono (m := m) h k
    have h2 := fals1_mono (h k) m
    rw [fals, fals]
    omega
theorem fals_lt {m : Nat} {H H' : Nat → Nat → Bool} (h : ∀ a x, H a x = true → H' a x = true) {i j : Nat} (h0 : H i j = false) (h1 : H' i j = true) (hj : j < m) : ∀ n, i < n → fals m H' n < fals m H n
  | 0 => fun hi => absurd hi (Nat.not_lt_zero _)
  | k + 1 => fun hi => by
    rw [fals, fals]
    by_cases e : i = k
    · subst e
      have a := fals_mono (m := m) h i
      have b := fals1_lt (h i) h0 h1 m hj
      omega
    · have a := fals_lt h h0 h1 hj k (by omega)
      have b := fals1_mono (h k) m
      omega
theorem applyG_mono (l : List Gift) : ∀ (H : Nat → Nat → Bool) (a x : Nat), H a x = true → applyG H l a x = true := by
  induction l with
  | nil => intro H a x h; exact h
  | cons g r ih =>
    intro H a x h
    show applyG (updB H g.1 g.2.2 true) r a x = true
    apply ih
    unfold updB
    split
    · rfl
    · exact h
theorem applyG_hit (H : Nat → Nat → Bool) (g : Gift) (r : List Gift) : applyG H (g :: r) g.1 g.2.2 = true := by
  show applyG (updB H g.1 g.2.2 true) r g.1 g.2.2 = true
  apply applyG_mono
  simp [updB]
theorem fals_round (n m : Nat) (N H : Nat → Nat → Bool) (h : gifts n m N H ≠ []) : fals m (applyG H (gifts n m N H)) n < fals m H n := by
  have hok := (gifts_ok n m N H).1
  generalize gifts n m N H = l at *
  cases l with
  | nil => exact absurd rfl h
  | cons g r =>
    obtain ⟨h1, h2, h3, h4⟩ := hok g (by simp)
    exact fals_lt (applyG_mono (g :: r) H) h4 (applyG_hit H g r) h3 n h1
abbrev GiveN := Nat × Gift
def noted (no : Nat) (l : List Gift) : List GiveN := l.map fun g => (no, g)
def spreadF (n m : Nat) (N : Nat → Nat → Bool) : Nat → Nat → (Nat → Nat → Bool) → List GiveN × (Nat → Nat → Bool)
  | 0, _, H => ([], H)
  | f + 1, no, H => if gifts n m N H = [] then ([], H) else (noted no (gifts n m N H) ++ (spreadF n m N f (no + 1) (applyG H (gifts n m N H))).1, (spreadF n m N f (no + 1) (applyG H (gifts n m N H))).2)
theorem spreadF_end (n m : Nat) (N H : Nat → Nat → Bool) (f no : Nat) (h : gifts n m N H = []) : spreadF n m N f no H = ([], H) := by
  cases f with
  | zero => rfl
  | succ f => rw [spreadF, if_pos h]
structure Going (n m : Nat) (N H0 : Nat → Nat → Bool) (f no : Nat) (H : Nat → Nat → Bool) (acc : List GiveN) : Prop where
  fst : acc ++ (spreadF n m N f no H).1 = (spreadF n m N (n * m) 1 H0).1
  snd : (spreadF n m N f no H).2 = (spreadF n m N (n * m) 1 H0).2
  le : fals m H n ≤ f
  no_ : f + no = n * m + 1
  pos : 1 ≤ no
  len : acc.length ≤ n * (no - 1)
theorem Going.start (n m : Nat) (N H0 : Nat → Nat → Bool) : Going n m N H0 (n * m) 1 H0 [] := ⟨by simp, rfl, fals_le m H0 n, rfl, Nat.le_refl _, by simp⟩
theorem Going.done {n m : Nat} {N H0 : Nat → Nat → Bool} {f no : Nat} {H : Nat → Nat → Bool} {acc : List GiveN} (h : Going n m N H0 f no H acc) (hg : gifts n m N H = []) :
    acc = (spreadF n m N (n * m) 1 H0).1 ∧ H = (spreadF n m N (n * m) 1 H0).2 := by
  have a := h.fst
  have b := h.snd
  rw [spreadF_end n m N H f no hg] at a b
  exact ⟨by simpa using a, b⟩
theorem Going.next {n m : Nat} {N H0 : Nat → Nat → Bool} {f no : Nat} {H : Nat → Nat → Bool} {acc : List GiveN} (h : Going n m N H0 f no H acc) (hg : gifts n m N H ≠ []) :
    0 < f ∧ Going n m N H0 (f - 1) (no + 1) (applyG H (gifts n m N H)) (acc ++ noted no (gifts n m N H)) := by
  have hl := fals_round n m N H hg
  have hf : 0 < f := by have := h.le; omega
  obtain ⟨f', rfl⟩ : ∃ f', f = f' + 1 := ⟨f - 1, by omega⟩
  have a := h.fst
  have b := h.snd
  rw [spreadF, if_neg hg] at a b
  refine ⟨hf, ⟨by rw [List.append_assoc]; exact a, b, by have hle : fals m H n ≤ f' + 1 := h.le; show _ ≤ f'; omega, by have hno : f' + 1 + no = n * m + 1 := h.no_; show f' + (no + 1) = _; omega, by omega, ?_⟩⟩
  have h1 := h.len
  have h2 := (gifts_ok n m N H).2
  rw [List.length_append, show (noted no (gifts n m N H)).length = (gifts n m N H).length by simp [noted]]
  cases no with
  | zero => exact absurd h.pos (by omega)
  | succ no => simp only [Nat.add_sub_cancel] at h1 ⊢; rw [Nat.mul_add]; omega
def allF (n m : Nat) (H : Nat → Nat → Bool) : Bool := (List.range n).all fun i => (List.range m).all fun p => H i p
attribute [local go_sem ↓] Go.wp_at_zero Go.wp_at_succ
def rowIP (m : Nat) (f : Nat → Int) : List Value := (List.range m).map fun j => Value.int .i64 (f j)
theorem rowI_len (m : Nat) (f : Nat → Int) : (rowIP m f).length = m := by simp [rowIP]
theorem rowI_at {m j : Nat} (f : Nat → Int) (h : j < m) : (rowIP m f)[j]? = some (.int .i64 (f j)) := by simp [rowIP, h]
theorem rowI_zero (m : Nat) : (rowIP m (fun _ => 0)).toArray = madeCells #[Value.int .i64 0] m := by
  rw [madeCells_one]
  apply Array.ext
  · simp [rowIP]
  · intro i h1 h2; simp [rowIP]
theorem rowI_set {m j : Nat} (f : Nat → Int) (z : Int) : (rowIP m f).set j (.int .i64 z) = rowIP m (fun x => if x = j then z else f x) := by
  apply List.ext_getElem?
  intro t
  rw [List.getElem?_set]
  by_cases ht : t < m
  · by_cases e : j = t
    · subst e
      rw [if_pos rfl, if_pos (by rw [rowI_len]; exact ht), rowI_at _ ht, if_pos rfl]
    · rw [if_neg e, rowI_at _ ht, rowI_at _ ht, if_neg (fun h => e h.symm)]
  · by_cases e : j = t
    · subst e
      rw [if_pos rfl, if_neg (by rw [rowI_len]; exact ht), List.getElem?_eq_none (by rw [rowI_len]; omega)]
    · rw [if_neg e, List.getElem?_eq_none (by rw [rowI_len]; omega), List.getElem?_eq_none (by rw [rowI_len]; omega)]
theorem rowI_congr {m : Nat} {f f' : Nat → Int} (h : ∀ j, j < m → f j = f' j) : rowIP m f = rowIP m f' := List.map_congr_left fun j hj => by rw [h j (by simpa using hj)]
theorem rowI_cell {w : World} {g m j : Nat} {f : Nat → Int} {t : TypeId} (h : w.heap[g]? = some (.cells (rowIP m f).toArray t (0, 0))) (hj : j < m) : w.cell? ⟨g, j, none⟩ = some (.int .i64 (f j)) ∧ w.frozen? ⟨g, j, none⟩ = false := by
  have e := rowI_at f hj
  simp [World.cell?, World.frozen?, h, e]
theorem rowI_store {w : World} {g m j : Nat} {f : Nat → Int} {t : TypeId} {z : Int} (h : w.heap[g]? = some (.cells (rowIP m f).toArray t (0, 0))) : (w.setCell ⟨g, j, none⟩ (.int .i64 z)).heap[g]? = some (.cells (rowIP m (fun x => if x = j then z else f x)).toArray t (0, 0)) := by
  rw [← rowI_set]
  simp [World.setCell, Array.getElem?_modify, h]
theorem infoI : (Tryz.prog.info? 3).map (fun i => (i.zero, i.size, i.bytes)) = some (some (.int .i64 0), 1, 8) := by kernel_rfl
abbrev CrB (w : World) (cb : Nat) (kv nv hv cv rv : Value) : Prop := w.heap[cb]? = some (.cells #[kv, nv, hv, cv, rv] 150 (0, 0))
theorem crB_cells {w : World} {cb : Nat} {kv nv hv cv rv : Value} (h : CrB w cb kv nv hv cv rv) : w.cell? ⟨cb, 0, none⟩ = some kv ∧ w.cell? ⟨cb, 1, none⟩ = some nv ∧ w.cell? ⟨cb, 2, none⟩ = some hv ∧ w.cell? ⟨cb, 3, none⟩ = some cv ∧ w.cell? ⟨cb, 4, none⟩ = some rv ∧
    w.frozen? ⟨cb, 0, none⟩ = false ∧ w.frozen? ⟨cb, 2, none⟩ = false ∧ w.frozen? ⟨cb, 3, none⟩ = false ∧ w.frozen? ⟨cb, 4, none⟩ = false := by
  simp [World.cell?, World.frozen?, h]
theorem crB_set {w : World} {cb : Nat} {kv nv hv cv rv cv' rv' : Value} (h : CrB w cb kv nv hv cv rv) : CrB ((w.setCell ⟨cb, 3, none⟩ cv').setCell ⟨cb, 4, none⟩ rv') cb kv nv hv cv' rv' := by
  simp [CrB, World.setCell, Array.getElem?_modify, h]
theorem PMat.grown_tag {w w' : World} {base n k m cb : Nat} {v : Value} {f : Nat → Nat → Bool} {gs : Nat → Nat} {cur : Array Value} {t : TypeId} {z : Nat × Nat} (h : PMat w base v n k m f gs) (hc : w.heap[cb]? = some (.cells cur t z)) (h1 : t ≠ 4) (h2 : t ≠ 151)
    (hg : ∀ x, x < w.heap.size → x ≠ cb → w'.heap[x]? = w.heap[x]?) : PMat w' base v n k m f gs := by
  refine ⟨?_, fun i a b => ?_, h.ge, h.inj⟩
  · obtain ⟨hl, h3⟩ := h.own
    refine ⟨hl, ?_⟩
    rcases h3 with h3 | ⟨g, cap, cur', hv, hg', hh, r⟩
    · exact .inl h3
    · refine .inr ⟨g, cap, cur', hv, hg', (hg g (block_lt hh) ?_).trans hh, r⟩
      intro e
      subst e
      rw [hh] at hc
      injection hc with hc
      injection hc with _ ht
      exact h2 ht.symm
  · have hr := h.row i a b
    refine (hg _ (block_lt hr) ?_).trans hr
    intro e
    rw [e, hc] at hr
    injection hr with hr
    injection hr with _ ht
    exact h1 ht
structure BegRel (w : World) (cb n m : Nat) (kv nv hv : Value) (f g : Nat → Int) (cg rg : Nat) (wx : World) : Prop where
  cr : CrB wx cb kv nv hv (slc cg n) (slc rg m)
  ci : wx.heap[cg]? = some (.cells (rowIP n f).toArray 3 (0, 0))
  ri : wx.heap[rg]? = some (.cells (rowIP m g).toArray 3 (0, 0))
  ne : cg ≠ rg
  cl : w.heap.size ≤ cg
  rl : w.heap.size ≤ rg
  lt : cb < w.heap.size
  gb : w.grownBy wx (some cb)
section
variable {w wx : World} {cb n m cg rg : Nat} {kv nv hv : Value} {f g : Nat → Int}
theorem BegRel.drewN (h : BegRel w cb n m kv nv hv f g cg rg wx) (q : Nat) : BegRel w cb n m kv nv hv f g cg rg (wx.drewN q) := ⟨h.cr, h.ci, h.ri, h.ne, h.cl, h.rl, h.lt, gb_drewN h.gb q⟩
theorem BegRel.drew (h : BegRel w cb n m kv nv hv f g cg rg wx) : BegRel w cb n m kv nv hv f g cg rg wx.drew := h.drewN 1
theorem BegRel.congr (h : BegRel w cb n m kv nv hv f g cg rg wx) {f' g' : Nat → Int} (h1 : ∀ j, j < n → f j = f' j) (h2 : ∀ j, j < m → g j = g' j) : BegRel w cb n m kv nv hv f' g' cg rg wx :=
  ⟨h.cr, by rw [← rowI_congr h1]; exact h.ci, by rw [← rowI_congr h2]; exact h.ri, h.ne, h.cl, h.rl, h.lt, h.gb⟩
theorem gb_set {a x : World} {r : Option Nat} (h : a.grownBy x r) {p : Addr} (hp : a.heap.size ≤ p.block) (v : Value) : a.grownBy (x.setCell p v) r :=
  ⟨h.os, h.tape, h.output, by have := h.size; simp [World.setCell]; exact this, fun i hi hn => (Below.heap_setCell _ _ _ _ (by omega)).trans (h.block i hi hn)⟩
theorem BegRel.setC (h : BegRel w cb n m kv nv hv f g cg rg wx) (j : Nat) (z : Int) : BegRel w cb n m kv nv hv (fun x => if x = j then z else f x) g cg rg (wx.setCell ⟨cg, j, none⟩ (.int .i64 z)) :=
  ⟨(Below.heap_setCell _ _ _ _ (by have := h.lt; have := h.cl; show cb ≠ cg; omega)).trans h.cr, rowI_store h.ci, (Below.heap_setCell _ _ _ _ (fun e => h.ne e.symm)).trans h.ri, h.ne, h.cl, h.rl, h.lt, gb_set h.gb h.cl _⟩
theorem BegRel.setR (h : BegRel w cb n m kv nv hv f g cg rg wx) (j : Nat) (z : Int) : BegRel w cb n m kv nv hv f (fun x => if x = j then z else g x) cg rg (wx.setCell ⟨rg, j, none⟩ (.int .i64 z)) :=
  ⟨(Below.heap_setCell _ _ _ _ (by have := h.lt; have := h.rl; show cb ≠ rg; omega)).trans h.cr, (Below.heap_setCell _ _ _ _ h.ne).trans h.ci, rowI_store h.ri, h.ne, h.cl, h.rl, h.lt, gb_set h.gb h.rl _⟩
end
theorem gb_setIn {a x : World} {b : Nat} (h : a.grownBy x (some b)) (o : Nat) (v : Value) : a.grownBy (x.setCell ⟨b, o, none⟩ v) (some b) :=
  ⟨h.os, h.tape, h.output, by have := h.size; simp [World.setCell]; exact this, fun i hi hn => (Below.heap_setCell _ _ _ _ (fun e => hn (by rw [e]))).trans (h.block i hi hn)⟩
theorem beg_first {w : World} {cb n m : Nat} {kv nv hv cv rv : Value} (h : CrB w cb kv nv hv cv rv) : BegRel w cb n m kv nv hv (fun _ => 0) (fun _ => 0) w.heap.size (w.heap.size + 1)
    ((((w.setCell ⟨cb, 3, none⟩ (slc w.heap.size n)).setCell ⟨cb, 4, none⟩ (slc (w.heap.size + 1) m)).alloc (.cells (madeCells #[.int .i64 0] n) 3)).alloc (.cells (madeCells #[.int .i64 0] m) 3)) := by
  have hl := block_lt h
  have hs : ((w.setCell ⟨cb, 3, none⟩ (slc w.heap.size n)).setCell ⟨cb, 4, none⟩ (slc (w.heap.size + 1) m)).heap.size = w.heap.size := by simp [World.setCell]
  have hc := crB_set (cv' := slc w.heap.size n) (rv' := slc (w.heap.size + 1) m) h
  have hg : w.grownBy ((w.setCell ⟨cb, 3, none⟩ (slc w.heap.size n)).setCell ⟨cb, 4, none⟩ (slc (w.heap.size + 1) m)) (some cb) := gb_setIn (gb_setIn (gb_refl w _) _ _) _ _
  generalize (w.setCell ⟨cb, 3, none⟩ (slc w.heap.size n)).setCell ⟨cb, 4, none⟩ (slc (w.heap.size + 1) m) = W at *
  have s1 : (W.alloc (.cells (madeCells #[.int .i64 0] n) 3)).heap.size = w.heap.size + 1 := by simp [hs]
  refine ⟨?_, ?_, ?_, by omega, Nat.le_refl _, by omega, hl, gb_alloc (gb_alloc hg _) _⟩
  · exact (Below.heap_alloc _ _ _ (by omega)).trans ((Below.heap_alloc _ _ _ (by omega)).trans hc)
  · refine (Below.heap_alloc _ _ _ (by omega)).trans ?_
    rw [← hs, rowI_zero]
    exact heap_alloc_new W _
  · rw [rowI_zero, ← s1]
    exact heap_alloc_new _ _
theorem beg_second {w : World} {cb n m : Nat} {kv nv hv cv rv : Value} (h : CrB w cb kv nv hv cv rv) : BegRel w cb n m kv nv hv (fun _ => 0) (fun _ => 0) (w.heap.size + 1) w.heap.size
    ((((w.setCell ⟨cb, 3, none⟩ (slc (w.heap.size + 1) n)).setCell ⟨cb, 4, none⟩ (slc w.heap.size m)).alloc (.cells (madeCells #[.int .i64 0] m) 3)).alloc (.cells (madeCells #[.int .i64 0] n) 3)) := by
  have hl := block_lt h
  have hs : ((w.setCell ⟨cb, 3, none⟩ (slc (w.heap.size + 1) n)).setCell ⟨cb, 4, none⟩ (slc w.heap.size m)).heap.size = w.heap.size := by simp [World.setCell]
  have hc := crB_set (cv' := slc (w.heap.size + 1) n) (rv' := slc w.heap.size m) h
  have hg : w.grownBy ((w.setCell ⟨cb, 3, none⟩ (slc (w.heap.size + 1) n)).setCell ⟨cb, 4, none⟩ (slc w.heap.size m)) (some cb) := gb_setIn (gb_setIn (gb_refl w _) _ _) _ _
  generalize (w.setCell ⟨cb, 3, none⟩ (slc (w.heap.size + 1) n)).setCell ⟨cb, 4, none⟩ (slc w.heap.size m) = W at *
  have s1 : (W.alloc (.cells (madeCells #[.int .i64 0] m) 3)).heap.size = w.heap.size + 1 := by simp [hs]
  refine ⟨?_, ?_, ?_, by omega, by omega, Nat.le_refl _, hl, gb_alloc (gb_alloc hg _) _⟩
  · exact (Below.heap_alloc _ _ _ (by omega)).trans ((Below.heap_alloc _ _ _ (by omega)).trans hc)
  · rw [rowI_zero, ← s1]
    exact heap_alloc_new _ _
  · refine (Below.heap_alloc _ _ _ (by omega)).trans ?_
    rw [← hs, rowI_zero]
    exact heap_alloc_new W _
def cAt (m : Nat) (H : Nat → Nat → Bool) (i p a : Nat) : Int := if a < i then cnF m H a else if a = i then cntTo (H i) p else 0
def rAt (H : Nat → Nat → Bool) (i p j : Nat) : Int := if j < p then cntTo (fun a => H a j) (i + 1) else cntTo (fun a => H a j) i
theorem cAt_start (m : Nat) (H : Nat → Nat → Bool) (a : Nat) : cAt m H 0 0 a = 0 := by
  unfold cAt
  rw [if_neg (by omega)]
  split <;> rfl
theorem rAt_start (H : Nat → Nat → Bool) (j : Nat) : rAt H 0 0 j = 0 := by
  unfold rAt
  rw [if_neg (by omega)]
  rfl
theorem cAt_next (m : Nat) (H : Nat → Nat → Bool) (i a : Nat) : cAt m H i m a = cAt m H (i + 1) 0 a := by
  unfold cAt
  by_cases h1 : a < i
  · rw [if_pos h1, if_pos (by omega)]
  · rw [if_neg h1]
    by_cases h2 : a = i
    · subst h2; rw [if_pos rfl, if_pos (by omega)]; rfl
    · rw [if_neg h2, if_neg (by omega)]
      split <;> rfl
theorem rAt_next (H : Nat → Nat → Bool) (i m j : Nat) (h : j < m) : rAt H i m j = rAt H (i + 1) 0 j := by
  unfold rAt
  rw [if_pos h, if_neg (by omega)]
theorem cAt_no (m : Nat) (H : Nat → Nat → Bool) (i p a : Nat) (h : H i p = false) : cAt m H i p a = cAt m H i (p + 1) a := by
  unfold cAt
  rw [cntTo, h]
  simp
theorem rAt_no (H : Nat → Nat → Bool) (i p j : Nat) (h : H i p = false) : rAt H i p j = rAt H i (p + 1) j := by
  unfold rAt
  by_cases h1 : j < p
  · rw [if_pos h1, if_pos (by omega)]
  · rw [if_neg h1]
    by_cases h2 : j = p
    · subst h2; rw [if_pos (by omega), cntTo, h]; simp
    · rw [if_neg (by omega)]
theorem cAt_yes (m : Nat) (H : Nat → Nat → Bool) (i p a : Nat) (h : H i p = true) : (if a = i then cAt m H i p i + 1 else cAt m H i p a) = cAt m H i (p + 1) a := by
  unfold cAt
  by_cases h2 : a = i
  · subst h2; rw [if_pos rfl, if_neg (by omega), if_pos rfl, if_neg (by omega), if_pos rfl, cntTo, h]; simp
  · rw [if_neg h2, if_neg h2, if_neg h2]
theorem rAt_yes (H : Nat → Nat → Bool) (i p j : Nat) (h : H i p = true) : (if j = p then rAt H i p p + 1 else rAt H i p j) = rAt H i (p + 1) j := by
  unfold rAt
  by_cases h2 : j = p
  · subst h2; rw [if_pos rfl, if_neg (by omega), if_pos (by omega), cntTo, h]; simp
  · rw [if_neg h2]
    by_cases h1 : j < p
    · rw [if_pos h1, if_pos (by omega)]
    · rw [if_neg h1, if_neg (by omega)]
theorem cAt_range (m : Nat) (H : Nat → Nat → Bool) (i p a : Nat) : 0 ≤ cAt m H i p a ∧ cAt m H i p a ≤ m + p := by
  unfold cAt
  have h1 := cntTo_range (H a) m
  have h2 := cntTo_range (H i) p
  split
  · unfold cnF; omega
  · split <;> omega
theorem rAt_range (H : Nat → Nat → Bool) (i p j : Nat) : 0 ≤ rAt H i p j ∧ rAt H i p j ≤ i + 1 := by
  unfold rAt
  have h1 := cntTo_range (fun a => H a j) (i + 1)
  have h2 := cntTo_range (fun a => H a j) i
  split <;> omega
def BgRel (w : World) (cb n m : Nat) (kv nv hv : Value) (H : Nat → Nat → Bool) (cg rg : Nat) (g : Nat) (ix : Value) (wr : World) : Prop :=
  ∃ i : Nat, i + g = n ∧ ix = .int .i64 i ∧ BegRel w cb n m kv nv hv (cAt m H i 0) (rAt H i 0) cg rg wr
def BhRel (w : World) (cb n m : Nat) (kv nv hv : Value) (H : Nat → Nat → Bool) (cg rg : Nat) (i : Nat) (g : Nat) (ix : Value) (wr : World) : Prop :=
  ∃ p : Nat, p + g = m ∧ ix = .int .i64 p ∧ BegRel w cb n m kv nv hv (cAt m H i p) (rAt H i p) cg rg wr
set_option maxRecDepth 100000 in
set_option maxHeartbeats 4000000 in
theorem begin_any (cb n m kc hc base : Nat) (KA HA : Option Addr) (nv cv rv : Value) (H : Nat → Nat → Bool) (gH : Nat → Nat) (w : World) (hn : n ≤ 50) (hm : m ≤ 60)
    (hc0 : CrB w cb (.slice KA n kc) nv (.slice HA n hc) cv rv) (hH : Mat w base (.slice HA n hc) n m H gH) :
    Calls Tryz.prog 138 #[.pointer (some ⟨cb, 0, none⟩), .int .i64 m] w fun e w' => e = .returned (.tuple #[]) ∧ ∃ cg rg, BegRel w cb n m (.slice KA n kc) nv (.slice HA n hc) (cnF m H) (raF n H) cg rg w' := by
  have hcl : cb < w.heap.size := block_lt hc0
  have hne1 : cb ≠ w.heap.size := by omega
  obtain ⟨k0, k1, k2, k3, k4, z0, z2, z3, z4⟩ := crB_cells hc0
  have HC := Lib.hid hc0
  have HH := Lib.hid (fun (w' : World) (hg : w.grownBy w' (some cb)) => hH.grown_tag (w' := w') hc0 (by decide) (by decide) (fun x h1 h2 => hg.block x h1 (fun e => h2 (by injection e))))
  have hmk1 := run_make_row' (P := Tryz.prog) 22 3 (.int .i64 0) 8 Tryz.underlying22 infoI rfl .i64 .i64 n (by omega) (by omega)
  have hmk2 := run_make_row' (P := Tryz.prog) 22 3 (.int .i64 0) 8 Tryz.underlying22 infoI rfl .i64 .i64 m (by omega) (by omega)
  clear hc0 hH
  go_enter Tryz.func138, Tryz.ntmps138
  go_wp2_with fail
  go_cut [8] (fun s wx => ∃ cg rg, BegRel w cb n m (.slice KA n kc) nv (.slice HA n hc) (cAt m H 0 0) (rAt H 0 0) cg rg wx)
  case first =>
    go_region
    · go_wp2_with fail
      go_meet
      exact ⟨_, _, (beg_first HC.out).drew.congr (fun j _ => (cAt_start m H j).symm) (fun j _ => (rAt_start H j).symm)⟩
    · go_wp2_with fail
      go_meet
      exact ⟨_, _, (beg_second HC.out).drew.congr (fun j _ => (cAt_start m H j).symm) (fun j _ => (rAt_start H j).symm)⟩
  case rest =>
    obtain ⟨cg, rg, hB⟩ := hcut
    clear k0 k1 k2 k3 k4 z0 z2 z3 z4 hmk1 hmk2 HC hne1
    obtain ⟨j0, j1, j2, _⟩ := crB_cells hB.cr
    go_wp2_with fail
    have HB := Lib.hid hB
    clear hB j0 j1 j2
    go_loopg [27, 4, 5, 6, 7, 34] n (fun g ix _ _ _ _ _ wr => BgRel w cb n m (.slice KA n kc) nv (.slice HA n hc) H cg rg g ix wr)
    case atStart => exact ⟨0, by omega, rfl, HB.out⟩
    case round =>
      obtain ⟨i, hi, rfl, hB⟩ := hrel
      by_cases hg : gk = 0
      · obtain rfl : i = n := by omega
        have HF := Lib.hid (hB.congr (f' := cnF m H) (g' := raF i H) (fun j hj => by unfold cAt; rw [if_pos hj]) (fun j _ => by unfold rAt; rw [if_neg (by omega)]; rfl))
        clear hi hg hB
        go_wp2_with fail
        go_end0
        exact ⟨rfl, cg, rg, HF.out⟩
      · have hlt : i < n := by omega
        have hltI : (i : Int) < (n : Int) := by omega
        obtain ⟨ob, rfl, _, _, _, _, _, a1, _, _⟩ := (HH.out _ hB.gb).at_ (i := i) (j := 0) hlt hlt
        unfold slc at a1
        have HI := Lib.hid hi
        have hgk : gk ≠ 0 := hg
        have HBB := Lib.hid hB
        clear hi hg hB
        go_wp2_with fail
        obtain ⟨wo, rfl⟩ : ∃ wo : World, wo = wr := ⟨_, rfl⟩
        clear a1 HB
        obtain ⟨gq, rfl⟩ : ∃ gq, gq = gk := ⟨_, rfl⟩
        go_loopg [34, 6, 7] m (fun g ix _ _ wx => BhRel w cb n m (.slice KA n kc) nv (.slice (some ⟨ob, 0, none⟩) n hc) H cg rg i g ix wx)
        case atStart => exact ⟨0, by omega, rfl, HBB.out⟩
        case round =>
          obtain ⟨p, hp, rfl, hB⟩ := hrel
          clear HBB
          by_cases hg1 : gk = 0
          · obtain rfl : p = m := by omega
            have HF := Lib.hid (hB.congr (fun j _ => cAt_next p H i j) (fun j hj => rAt_next H i p j hj))
            clear hp hg1 hB
            go_wp2_with fail
            go_roundg (gq - 1)
            case measure => omega
            case rel => exact ⟨i + 1, by have := HI.out; omega, by go_num, HF.out⟩
          · have hpl : p < m := by omega
            have hplI : (p : Int) < (m : Int) := by omega
            obtain ⟨ob2, eo, _, _, _, _, _, _, a2, _⟩ := (HH.out _ hB.gb).at_ (i := i) (j := p) hlt hlt
            have a3 := a2 hpl
            obtain ⟨_, _, _, j3, j4, _⟩ := crB_cells hB.cr
            unfold slc at j3 j4
            obtain ⟨c1, c2⟩ := rowI_cell hB.ci hlt
            obtain ⟨r1, r2⟩ := rowI_cell hB.ri hpl
            have hne := hB.ne
            have hcr := hB.lt
            have hcc := hB.cl
            have hrr := hB.rl
            have hrc1 := cAt_range m H i p i
            have hrc2 := rAt_range H i p p
            have hcbr : cb ≠ cg := by omega
            have hsz := hB.gb.size
            have HP := Lib.hid hp
            have hgk1 : gk ≠ 0 := hg1
            clear hp hg1 a2 eo
            rcases Bool.eq_false_or_eq_true (H i p) with e1 | e1
            · have HF := Lib.hid (((hB.setC i (cAt m H i p i + 1)).setR p (rAt H i p p + 1)).congr (fun j _ => cAt_yes m H i p j e1) (fun j _ => rAt_yes H i p j e1))
              rw [e1] at a3
              clear e1 hB
              generalize cAt m H i p i = c at *
              generalize rAt H i p p = r at *
              go_wp2_with fail
              go_roundg (gk - 1)
              case measure => omega
              case rel => exact ⟨p + 1, by have := HP.out; omega, by go_num, HF.out⟩
            · have HF := Lib.hid (hB.congr (fun j _ => cAt_no m H i p j e1) (fun j _ => rAt_no H i p j e1))
              rw [e1] at a3
              clear e1 hB
              go_wp2_with fail
              go_roundg (gk - 1)
              case measure => omega
              case rel => exact ⟨p + 1, by have := HP.out; omega, by go_num, HF.out⟩
open Go.RowKit Go.Sort Go.Proofs
set_option linter.unusedVariables false
set_option linter.unusedSimpArgs false
def natV (l : List Nat) : List Value := l.map fun i => Value.int .i64 (i : Nat)
theorem natV_at {l : List Nat} {j : Nat} (h : j < l.length) : (natV l)[j]? = some (.int .i64 (l[j] : Nat)) := by simp [natV, h]
def encF (k : Nat) (x : Fin (k + 1)) : Value := .int .i64 (x.val : Nat)
theorem encF_map (k : Nat) (d : Array (Fin (k + 1))) : d.toList.map (encF k) = natV (d.toList.map Fin.val) := by simp [natV, encF]
section
variable {α : Type} [Inhabited α] {enc : α → Value}
theorem own_holds1 {w : World} {base e n cap g : Nat} {d : Array α} (h : w.ownsRow base e 1 (.slice (some ⟨g, 0, none⟩) n cap) n (d.toList.map enc)) (hd : d.size = n) : Holds enc w g 0 d := by
  rcases h.2 with ⟨h0, _⟩ | ⟨g', cap', cur, hv, _, hh, _, _, _, hx⟩
  · cases h0
  · simp only [Value.slice.injEq, Option.some.injEq, Addr.mk.injEq] at hv
    obtain ⟨⟨rfl, _, _⟩, _, rfl⟩ := hv
    intro t ht
    have e : (d.toList.map enc)[t]? = some (enc d[t]!) := by
      rw [List.getElem?_map, Array.getElem?_toList, Array.getElem?_eq_getElem ht, getElem!_pos d t ht]
      rfl
    rw [← hx, List.getElem?_take_of_lt (by omega)] at e
    simp only [Array.getElem?_toList] at e
    simp [World.cell?, World.frozen?, hh, e]
theorem sort1_own {w : World} {base e n cap g m : Nat} {d d' : Array α} {os : Array Obj} (h : w.ownsRow base e 1 (.slice (some ⟨g, 0, none⟩) n cap) n (d.toList.map enc)) (hd' : d'.size = n) :
    (sortWorld enc w g 0 m d' os).ownsRow base e 1 (.slice (some ⟨g, 0, none⟩) n cap) n (d'.toList.map enc) ∧ w.grownBy (sortWorld enc w g 0 m d' os) (some g) := by
  rcases h.2 with ⟨h0, _⟩ | ⟨g', cap', cur, hv, hg, hh, hnc, hcm, hsz, hx⟩
  · cases h0
  · simp only [Value.slice.injEq, Option.some.injEq, Addr.mk.injEq] at hv
    obtain ⟨⟨rfl, _, _⟩, _, rfl⟩ := hv
    have hlt := block_lt hh
    have hgh : (sortWorld enc w g 0 m d' os).heap[g]? = some (.cells (putCells enc 0 d' cur) e (0, 0)) := by
      unfold sortWorld grow putRow mapBlock
      simp only [Array.getElem?_append, Array.size_modify, heap_ahead]
      rw [if_pos hlt, Array.getElem?_modify, if_pos rfl, hh]
      rfl
    refine ⟨⟨by simp [hd'], .inr ⟨g, cap, _, rfl, hg, hgh, hnc, hcm, by simp [putCells, hsz], ?_⟩⟩, rfl, rfl, rfl, ?_, ?_⟩
    · apply List.ext_getElem?
      intro t
      by_cases ht : t < n * 1
      · have hs : t < d'.size := by omega
        rw [List.getElem?_take_of_lt ht, Array.getElem?_toList, List.getElem?_map, Array.getElem?_toList, putCells, Array.getElem?_mapIdx, Array.getElem?_eq_getElem (show t < cur.size by omega), Array.getElem?_eq_getElem hs]
        simp only [Option.map_some]
        rw [if_pos ⟨Nat.zero_le _, by omega⟩, Nat.sub_zero, getElem!_pos d' t hs]
      · rw [List.getElem?_eq_none (by rw [List.length_take]; exact Nat.le_trans (Nat.min_le_left _ _) (by omega)), List.getElem?_eq_none (by simp; omega)]
    · unfold sortWorld
      rw [size_grow]
      simp [putRow, mapBlock]
    · intro j hj hne
      unfold sortWorld grow putRow mapBlock
      simp only [Array.getElem?_append, Array.size_modify, heap_ahead]
      rw [if_pos hj, Array.getElem?_modify, if_neg (fun e => hne (by rw [e]))]
end
set_option maxRecDepth 100000 in
set_option maxHeartbeats 1000000 in
theorem insInt_none (A : Option Addr) (c : Nat) (f : Value) (w : World) : Calls Tryz.prog 211 #[.slice A 0 c, .int .i64 0, .int .i64 0, f] w fun e w' => e = .returned (.tuple #[]) ∧ w = w' := by
  go_enter Tryz.func211, Tryz.ntmps211
  go_wp2_with fail
  refine wp_loop_rounds 1 ?_
  rw [rounds_succ]
  go_wp2_with fail
  go_end0
  exact ⟨rfl, rfl⟩
set_option maxRecDepth 100000 in
set_option maxHeartbeats 1000000 in
theorem stableInt_none (A : Option Addr) (c : Nat) (f : Value) (w : World) : Calls Tryz.prog 173 #[.slice A 0 c, .int .i64 0, f] w fun e w' => e = .returned (.tuple #[]) ∧ w = w' := by
  go_enter Tryz.func173, Tryz.ntmps173
  go_wp2_with fail
  refine wp_loop_rounds 1 ?_
  rw [rounds_succ]
  go_wp2_with fail
  refine (insInt_none A c f _).mono ?_
  rintro e w1 ⟨rfl, rfl⟩
  go_wp2_with fail
  refine wp_loop_rounds 1 ?_
  rw [rounds_succ]
  go_wp2_with fail
  go_end0
  exact ⟨rfl, rfl⟩
def CmpAt (P : Program) (f : Nat) (cb : Array Value) (cn : Nat → Int) (n g : Nat) (w : World) : Prop :=
  ∀ W : World, w.grownBy W (some g) → ∀ a b : Nat, a < n → b < n → Calls P f (#[.int .i64 a, .int .i64 b] ++ cb) W fun e w' => e = .returned (.int .i64 (Lib.compareInt (cn a) (cn b))) ∧ ∃ q, w' = W.drewN q
theorem natV_finA (k : Nat) : (finA k).toList.map (encF k) = natV (List.range (k + 1)) := by
  rw [encF_map]
  congr 1
  apply List.ext_getElem
  · simp [finA]
  · intro i h1 h2
    simp [finA]
set_option maxRecDepth 100000 in
set_option maxHeartbeats 1000000 in
theorem stableInt_own (f : Nat) (lb : Array Value) (cn : Nat → Int) (eg : ∀ args w, (callFunc f args).run Tryz.prog w = .ok (.enter f args) w) (v : Value) (base n : Nat) (w : World) (h12 : n ≤ 12)
    (h : w.ownsRow base 3 1 v n (natV (List.range n))) (hc : ∀ g, v.ownBlock = some g → CmpAt Tryz.prog f lb cn n g w) :
    Calls Tryz.prog 173 #[v, .int .i64 n, .func (.func f) #[] lb] w fun e w' => e = .returned (.tuple #[]) ∧ w'.ownsRow base 3 1 v n (natV (ordF n cn)) ∧ w.grownBy w' v.ownBlock := by
  rcases own_nil_or h with ⟨rfl, hn0, hxs⟩ | ⟨g, c, rfl⟩
  · subst hn0
    refine (stableInt_none none 0 _ w).mono ?_
    rintro e w1 ⟨rfl, rfl⟩
    exact ⟨rfl, h, gb_refl _ _⟩
  · cases n with
    | zero =>
      refine (stableInt_none _ c _ w).mono ?_
      rintro e w1 ⟨rfl, rfl⟩
      exact ⟨rfl, h, gb_refl _ _⟩
    | succ k =>
      have hblk : g < w.heap.size := (h.lt g rfl).2
      rw [← natV_finA] at h
      have hH := own_holds1 h (finA_size k)
      have hcl : CmpLays1 Tryz.prog f lb (encF k) (fun a b : Fin (k + 1) => Lib.compareInt (cn a.val) (cn b.val)) g 0 (finA k).size w := CmpReads.lays fun m os dk hs x y => by
        have hgb := (sort1_own (m := m) (os := os) (d' := dk) h (by rw [hs, finA_size])).2
        exact hc g rfl _ hgb x.val y.val x.isLt y.isLt
      have := Any.insertionSortCmpFunc_s Tryz.insInt (encF k) (fun a b : Fin (k + 1) => Lib.compareInt (cn a.val) (cn b.val)) f lb g 0 c 0 (k + 1) (finA k) (finA k) w w eg hcl ⟨fun _ => rfl, hH, hblk⟩ rfl (SW.start hH) (by omega) (by rw [finA_size]; omega) (by rw [finA_size]; omega)
      rw [finA_size] at this
      change Calls Tryz.prog 211 _ _ _ at this
      have HI := Lib.hid (show Calls Tryz.prog 211 #[.slice (some ⟨g, 0, none⟩) (k + 1) c, .int .i64 0, .int .i64 ((k + 1 : Nat) : Int), .func (.func f) #[] lb] w fun e w' => e = .returned (.tuple #[]) ∧ w'.ownsRow base 3 1 (.slice (some ⟨g, 0, none⟩) (k + 1) c) (k + 1) (natV (ordF (k + 1) cn)) ∧ w.grownBy w' (some g) by
        refine this.mono ?_
        rintro e w1 ⟨rfl, m, os, rfl⟩
        have := sort1_own (m := m) (os := os) (d' := ordFin k cn) h (ordFin_size k cn)
        rw [encF_map] at this
        exact ⟨rfl, this.1, this.2⟩)
      clear this hcl h hc eg hH
      have h20 : ¬ (20 : Int) ≤ ((k + 1 : Nat) : Int) := by omega
      have h20' : ¬ (20 : Int) < ((k + 1 : Nat) : Int) := by omega
      generalize k + 1 = n at *
      go_enter Tryz.func173, Tryz.ntmps173
      go_wp2_with fail
      refine wp_loop_rounds 1 ?_
      rw [rounds_succ]
      go_wp2_with fail
      refine HI.out.mono ?_
      rintro e w1 ⟨rfl, ho, hg⟩
      go_wp2_with fail
      refine wp_loop_rounds 1 ?_
      rw [rounds_succ]
      go_wp2_with fail
      go_end0
      exact ⟨rfl, ho, hg⟩
set_option maxRecDepth 100000 in
set_option maxHeartbeats 1000000 in
theorem sortInt_own (f : Nat) (lb : Array Value) (cn : Nat → Int) (eg : ∀ args w, (callFunc f args).run Tryz.prog w = .ok (.enter f args) w) (v : Value) (base n : Nat) (w : World) (h12 : n ≤ 12)
    (h : w.ownsRow base 3 1 v n (natV (List.range n))) (hc : ∀ g, v.ownBlock = some g → CmpAt Tryz.prog f lb cn n g w) :
    Calls Tryz.prog 139 #[v, .func (.func f) #[] lb] w fun e w' => e = .returned (.tuple #[]) ∧ w'.ownsRow base 3 1 v n (natV (ordF n cn)) ∧ w.grownBy w' v.ownBlock := by
  have HI := Lib.hid (stableInt_own f lb cn eg v base n w h12 h hc)
  obtain ⟨A, c, rfl⟩ : ∃ A c, v = .slice A n c := by
    rcases h.2 with ⟨rfl, rfl⟩ | ⟨g, cap, cur, rfl, _⟩
    · exact ⟨none, 0, rfl⟩
    · exact ⟨_, cap, rfl⟩
  clear eg hc h
  go_enter Tryz.func139, Tryz.ntmps139
  go_wp2_with fail
  refine HI.out.mono ?_
  rintro e w1 ⟨rfl, ho, hg⟩
  go_wp2_with fail
  go_end0
  exact ⟨rfl, ho, hg⟩
open Go.RowKit Go.Sort
set_option linter.unusedVariables false
set_option linter.unusedSimpArgs false
structure FrP (S : Nat → Prop) (w w' : World) : Prop where
  os : w'.os = w.os
  tape : w'.tape = w.tape
  output : w'.output = w.output
  size : w.heap.size ≤ w'.heap.size
  block : ∀ x, x < w.heap.size → ¬ S x → w'.heap[x]? = w.heap[x]?
section
variable {S S' : Nat → Prop} {w w' w2 : World}
theorem FrP.refl (S : Nat → Prop) (w : World) : FrP S w w := ⟨rfl, rfl, rfl, Nat.le_refl _, fun _ _ _ => rfl⟩
theorem FrP.trans (h : FrP S w w') (k : FrP S w' w2) : FrP S w w2 := ⟨k.os.trans h.os, k.tape.trans h.tape, k.output.trans h.output, Nat.le_trans h.size k.size, fun x h1 h2 => (k.block x (Nat.lt_of_lt_of_le h1 h.size) h2).trans (h.block x h1 h2)⟩
theorem FrP.mono (h : FrP S w w') (hs : ∀ x, S x → S' x) : FrP S' w w' := ⟨h.os, h.tape, h.output, h.size, fun x h1 h2 => h.block x h1 (fun h3 => h2 (hs x h3))⟩
theorem FrP.of_below (h : Below w.heap.size w w') (S : Nat → Prop) : FrP S w w' := ⟨h.os, h.tape, h.output, h.size, fun x h1 _ => h.block x h1⟩
theorem FrP.of_gb {r : Option Nat} (h : w.grownBy w' r) (hs : ∀ x, r = some x → S x) : FrP S w w' := ⟨h.os, h.tape, h.output, h.size, fun x h1 h2 => h.block x h1 (fun e => h2 (hs x e.symm))⟩
theorem FrP.drewN (h : FrP S w w') (q : Nat) : FrP S w (w'.drewN q) := ⟨h.os, h.tape, h.output, h.size, h.block⟩
theorem FrP.alloc (h : FrP S w w') (o : Obj) : FrP S w (w'.alloc o) := h.trans (FrP.of_below (bfirst w' o) S)
theorem FrP.set (h : FrP S w w') {p : Addr} (hp : S p.block) (v : Value) : FrP S w (w'.setCell p v) :=
  ⟨h.os, h.tape, h.output, by have := h.size; simp [World.setCell]; exact this, fun x h1 h2 => (Below.heap_setCell _ _ _ _ (fun e => h2 (by rw [e]; exact hp))).trans (h.block x h1 h2)⟩
theorem FrP.blk (h : FrP S w w') {x : Nat} {o : Obj} (hx : w.heap[x]? = some o) (hs : ¬ S x) : w'.heap[x]? = some o := (h.block x (block_lt hx) hs).trans hx
theorem FrP.own (h : FrP S w w') {base e size n : Nat} {v : Value} {xs : List Value} (ho : w.ownsRow base e size v n xs) (hs : ∀ x cur z, w.heap[x]? = some (.cells cur e z) → ¬ S x) : w'.ownsRow base e size v n xs := by
  obtain ⟨hl, h2⟩ := ho
  refine ⟨hl, ?_⟩
  rcases h2 with h2 | ⟨g, cap, cur, hv, hg, hh, r⟩
  · exact .inl h2
  · exact .inr ⟨g, cap, cur, hv, hg, h.blk hh (hs _ _ _ hh), r⟩
end
theorem tag_ne {w : World} {x y : Nat} {c c' : Array Value} {t t' : TypeId} {z z' : Nat × Nat} (h1 : w.heap[x]? = some (.cells c t z)) (h2 : w.heap[y]? = some (.cells c' t' z')) (h : t ≠ t') : x ≠ y := by
  intro e
  subst e
  rw [h1] at h2
  injection h2 with h2
  injection h2 with _ ht
  exact h ht
theorem own_tag {w : World} {base e size n g : Nat} {v : Value} {xs : List Value} (h : w.ownsRow base e size v n xs) (hg : v.ownBlock = some g) : ∃ cur, w.heap[g]? = some (.cells cur e (0, 0)) := by
  rcases h.2 with ⟨rfl, _⟩ | ⟨g', cap, cur, rfl, _, hh, _⟩
  · cases hg
  · cases hg; exact ⟨cur, hh⟩
theorem own_other {w w' : World} {base base' e e' size size' n n' : Nat} {v v' : Value} {xs xs' : List Value} (h : w.ownsRow base e size v n xs) (h' : w.ownsRow base' e' size' v' n' xs') (hg : w.grownBy w' v'.ownBlock) (hne : e ≠ e') : w'.ownsRow base e size v n xs := by
  have hf : FrP (fun x => v'.ownBlock = some x) w w' := FrP.of_gb hg (fun x hx => hx)
  refine hf.own h (fun x cur z hx hS => ?_)
  obtain ⟨cur', h2⟩ := own_tag h' hS
  exact tag_ne hx h2 hne rfl
theorem own_set {w : World} {base e size n g j : Nat} {v u : Value} {xs : List Value} {cur : Array Value} {t : TypeId} {z : Nat × Nat} (h : w.ownsRow base e size v n xs) (hg : w.heap[g]? = some (.cells cur t z)) (hne : e ≠ t) : (w.setCell ⟨g, j, none⟩ u).ownsRow base e size v n xs := by
  have hf : FrP (fun x => x = g) w (w.setCell ⟨g, j, none⟩ u) := (FrP.refl (fun x => x = g) w).set (p := ⟨g, j, none⟩) rfl u
  refine hf.own h (fun x c z hx hS => ?_)
  exact tag_ne hx hg hne hS
theorem row_set {w : World} {g m j : Nat} {f : Nat → Bool} {t : TypeId} (h : w.heap[g]? = some (.cells (rowC m f).toArray t (0, 0))) : (w.setCell ⟨g, j, none⟩ (.bool true)).heap[g]? = some (.cells (rowC m (setBP f j)).toArray t (0, 0)) := by
  have e : rowC m (setBP f j) = (rowC m f).set j (.bool true) := by rw [rowC_set]; rfl
  rw [e]
  simp [World.setCell, Array.getElem?_modify, h]
theorem row_fz {w : World} {g m j : Nat} {f : Nat → Bool} {t : TypeId} (h : w.heap[g]? = some (.cells (rowC m f).toArray t (0, 0))) : w.frozen? ⟨g, j, none⟩ = false := by simp [World.frozen?, h]
theorem own_at1 {w : World} {base e n k c : Nat} {A : Option Addr} {u : Value} {xs : List Value} (h : w.ownsRow base e 1 (.slice A n c) n xs) (hk : xs[k]? = some u) : ∃ g, A = some ⟨g, 0, none⟩ ∧ w.cell? ⟨g, k, none⟩ = some u := by
  rcases own_nil_or h with ⟨h0, _, hx⟩ | ⟨g, c', hv⟩
  · rw [hx] at hk; cases hk
  · simp only [Value.slice.injEq] at hv
    obtain ⟨rfl, _, rfl⟩ := hv
    have e : (⟨g, 0, none⟩ : Addr).add k = ⟨g, k, none⟩ := by unfold Addr.add; split <;> simp_all
    have := own_cells h k u hk
    rw [e] at this
    exact ⟨g, rfl, this⟩
theorem own_atK {w : World} {base e size n k c : Nat} {A : Option Addr} {u : Value} {xs : List Value} (h : w.ownsRow base e size (.slice A n c) n xs) (hk : xs[k]? = some u) : ∃ g, A = some ⟨g, 0, none⟩ ∧ w.cell? ⟨g, k, none⟩ = some u := by
  rcases own_nil_or h with ⟨h0, _, hx⟩ | ⟨g, c', hv⟩
  · rw [hx] at hk; cases hk
  · simp only [Value.slice.injEq] at hv
    obtain ⟨rfl, _, rfl⟩ := hv
    have e : (⟨g, 0, none⟩ : Addr).add k = ⟨g, k, none⟩ := by unfold Addr.add; split <;> simp_all
    have := own_cells h k u hk
    rw [e] at this
    exact ⟨g, rfl, this⟩
theorem step_push {P : Program} {ops : Array Oper} {o : Oper} {a : Act} {K : Act → World → Prop} {Q : Exit → Act → World → Prop} {E : Prop} {w0 : World} (hgd : o.guard = none) (s x : Operand) (t : TypeId)
    (ho : o.op = .call { callee := .builtin .append, args := #[s, x], argTypes := #[t, t] })
    (base : Nat) (e : TypeId) (i : TypeInfo) (z : Value) (size bytes : Nat) (ht : P.underlying t = some (.slice e)) (hi : P.info? e = some i) (hz : i.zero = some z)
    (hsize : i.size = size) (hby : i.bytes = bytes) (hzs : z.cells.size = size) (hsz : 0 < size) (hb64 : bytes ≤ 100)
    (v : Value) (n : Nat) (xs : List Value) (hs : a.eval s = v) (hown : w0.ownsRow base e size v n xs)
    (news : List Value) (hx : a.eval x = .slice (some ⟨w0.heap.size, 0, none⟩) 1 1) (hl : news.length = size) (h1 : news.all (·.oneCell') = true) (hn : n ≤ 1000000000000) (hbase : base ≤ w0.heap.size)
    (h : ∀ v' w', w'.ownsRow base e size v' (n + 1) (xs ++ news) → w0.grownBy w' v.ownBlock → w0.heap.size < w'.heap.size → K (a.put o.dst v') w') :
    if Region.wanted o (yielded ops a.tmps) = true then Oper.wp P o a (w0.alloc (.cells news.toArray e)) K Q else E := by
  refine step_append_lies _ hgd s x t ho base e i z size bytes ht hi hz hsize hby hzs hsz v n xs hs (hown.alloc _) ⟨w0.heap.size, 0, none⟩ 1 1 news hx (by omega) (cells_new w0 news e)
    (fun u hu => List.all_eq_true.1 h1 u hu) (by omega) (by unfold maxLen; omega) (Nat.le_trans (Nat.mul_le_mul (show n + 1 ≤ 1000000000001 by omega) hb64) (by decide)) (by simp; omega) (w0.heap.size + 1) (by simp) ?_
  intro g cap w' hown' hgrow _ _
  refine h _ w' hown' ?_ (by have := hgrow.size; simp at this; omega)
  exact ⟨hgrow.os, hgrow.tape, hgrow.output, by have := hgrow.size; simp at this; omega, fun k hk hne => (hgrow.block k (by simp; omega) hne).trans (Below.heap_alloc w0 _ k hk)⟩
def ksAt (ks : List ByteArray) (i : Nat) : ByteArray := ks.getD i .empty
theorem ksAt_eq (ks : List ByteArray) {i : Nat} (h : i < ks.length) : (ks.map Value.string)[i]? = some (.string (ksAt ks i)) := by
  simp [ksAt, List.getD, List.getElem?_eq_getElem h]
def gfC (g : Gift) : List Value := [.int .i64 (g.1 : Nat), .int .i64 (g.2.2 : Nat)]
def giC (ks : List ByteArray) (x : GiveN) : List Value := [.int .i64 (x.1 : Nat), .string (ksAt ks x.2.2.1), .string (ksAt ks x.2.1), .int .i64 (x.2.2.2 : Nat)]
structure CrowdIs (w : World) (cb bn n m : Nat) (ks : List ByteArray) (N H : Nat → Nat → Bool) (kv nv hv cv rv : Value) (gN gH : Nat → Nat) (w0 : World) : Prop where
  cr : CrB w cb kv nv hv cv rv
  key : w.ownsRow (cb + 1) 9 1 kv n (ks.map .string)
  len : ks.length = n
  nr : Mat w0 bn nv n n N gN
  bl : bn ≤ cb
  n0 : w0.heap.size ≤ cb
  nk : ∀ x, x < w0.heap.size → w.heap[x]? = w0.heap[x]?
  hs : Mat w (cb + 1) hv n m H gH
section
variable {w w' : World} {cb bn n m : Nat} {ks : List ByteArray} {N H : Nat → Nat → Bool} {kv nv hv cv rv : Value} {gN gH : Nat → Nat} {w0 : World}
theorem CrowdIs.turn (h : CrowdIs w cb bn n m ks N H kv nv hv cv rv gN gH w0) (hf : FrP (fun x => x = cb) w w') {cv' rv' : Value} (hc : CrB w' cb kv nv hv cv' rv') : CrowdIs w' cb bn n m ks N H kv nv hv cv' rv' gN gH w0 :=
  ⟨hc, hf.own h.key (fun x cur z hx hS => tag_ne hx h.cr (by decide) hS), h.len, h.nr, h.bl, h.n0, fun x hx => (hf.block x (by have := block_lt h.cr; have := h.n0; omega) (by have := h.n0; omega)).trans (h.nk x hx),
    h.hs.grown_tag h.cr (by decide) (by decide) (fun x h1 h2 => hf.block x h1 h2)⟩
theorem CrowdIs.below (h : CrowdIs w cb bn n m ks N H kv nv hv cv rv gN gH w0) (hb : Below w.heap.size w w') : CrowdIs w' cb bn n m ks N H kv nv hv cv rv gN gH w0 :=
  h.turn (FrP.of_below hb _) ((hb.block cb (block_lt h.cr)).trans h.cr)
theorem CrowdIs.matN (h : CrowdIs w cb bn n m ks N H kv nv hv cv rv gN gH w0) : Mat w bn nv n n N gN := h.nr.keep (fun x _ hx => h.nk x hx)
theorem CrowdIs.matH (h : CrowdIs w cb bn n m ks N H kv nv hv cv rv gN gH w0) : Mat w bn hv n m H gH := h.hs.base_le (by have := h.bl; omega)
theorem CrowdIs.hand (h : CrowdIs w cb bn n m ks N H kv nv hv cv rv gN gH w0) (hf : FrP (fun x => ∃ i, i < n ∧ x = gH i) w w') {H' : Nat → Nat → Bool} (hs : Mat w' (cb + 1) hv n m H' gH) : CrowdIs w' cb bn n m ks N H' kv nv hv cv rv gN gH w0 := by
  have hS : ∀ x cur t z, w.heap[x]? = some (.cells cur t z) → t ≠ 4 → ¬ ∃ i, i < n ∧ x = gH i := by
    rintro x cur t z hx ht ⟨i, hi, rfl⟩
    exact tag_ne hx (h.hs.row i hi hi) ht rfl
  refine ⟨hf.blk h.cr (hS _ _ _ _ h.cr (by decide)), hf.own h.key (fun x cur z hx => hS _ _ _ _ hx (by decide)), h.len, h.nr, h.bl, h.n0, fun x hx => ?_, hs⟩
  have := h.n0
  have hl := block_lt h.cr
  refine (hf.block x (by omega) ?_).trans (h.nk x hx)
  rintro ⟨i, hi, rfl⟩
  have := h.hs.ge i hi hi
  omega
end
set_option maxRecDepth 100000 in
set_option maxHeartbeats 1000000 in
theorem round1_any (bx cb cg n a b : Nat) (cn : Nat → Int) (w : World) (hbx : w.cell? ⟨bx, 0, none⟩ = some (.pointer (some ⟨cb, 0, none⟩))) (h3 : w.cell? ⟨cb, 3, none⟩ = some (.slice (some ⟨cg, 0, none⟩) n n))
    (hc : ∀ j, j < n → w.cell? ⟨cg, j, none⟩ = some (.int .i64 (cn j))) (ha : a < n) (hb : b < n) (hn : n ≤ 50) :
    Calls Tryz.prog 140 #[.int .i64 a, .int .i64 b, .pointer (some ⟨bx, 0, none⟩)] w fun e w' => e = .returned (.int .i64 (Lib.compareInt (cn a) (cn b))) ∧ ∃ q, w' = w.drewN q := by
  have ca := hc a ha
  have cb' := hc b hb
  have haI : (a : Int) < (n : Int) := by omega
  have hbI : (b : Int) < (n : Int) := by omega
  clear hc
  generalize cn a = x at *
  generalize cn b = y at *
  go_enter Tryz.func140, Tryz.ntmps140
  go_wp2_with fail
  go_quiet ((go_at_call 70; exact Calls.quiet_of_same (Tryz.cmp_Compare_int x y _)))
  go_wp2_with fail
  go_ret
  exact ⟨rfl, _, rfl⟩
open Go.RowKit
set_option linter.unusedVariables false
set_option linter.unusedSimpArgs false
def hasTo (zs : List Int) (k j : Nat) : Bool := (zs.take k).any fun z => decide (z = (j : Int))
def hasM (ps : List PeerD) (i j : Nat) : Bool := (pAt ps i).2.any fun z => decide (z = (j : Int))
theorem hasTo_zero (zs : List Int) : hasTo zs 0 = fun _ => false := by funext j; simp [hasTo]
theorem hasTo_succ (zs : List Int) {k p : Nat} (h : k < zs.length) (hp : zs[k] = (p : Int)) : hasTo zs (k + 1) = setBP (hasTo zs k) p := by
  funext j
  unfold hasTo setBP
  rw [List.take_succ_eq_append_getElem h, List.any_append, hp]
  by_cases e : j = p
  · subst e; simp
  · rw [if_neg e]
    have : ¬ ((p : Int) = (j : Int)) := by omega
    simp [this]
theorem hasTo_all (ps : List PeerD) (i : Nat) : hasTo (pAt ps i).2 (pAt ps i).2.length = hasM ps i := by
  funext j; simp [hasTo, hasM]
theorem has_in {m : Int} {ps : List PeerD} (h : peersF m ps = 0) {i : Nat} (hi : i < ps.length) {k : Nat} (hk : k < (pAt ps i).2.length) : 0 ≤ (pAt ps i).2[k] ∧ (pAt ps i).2[k] < m := by
  have h0 := piF_all h hi
  unfold piF at h0
  generalize (pAt ps i).2 = zs at *
  split at h0
  · split at h0
    · omega
    · have hz : hiF m zs k = 0 := by
        by_cases e : hiF m zs k = 0
        · exact e
        · have hz : firstTo (hiF m zs) k = 0 := by
            by_cases z : firstTo (hiF m zs) k = 0
            · exact z
            · have := firstTo_le (f := hiF m zs) (n := zs.length) (by omega) z; omega
          have := firstTo_at (f := hiF m zs) hk hz e; omega
      unfold hiF at hz
      rw [zAt_eq zs hk] at hz
      split at hz
      · omega
      · rename_i ho
        unfold outsideB at ho
        simp at ho
        omega
  · omega
theorem slcs_push {k m b : Nat} (gs : Nat → Nat) : slcs k k m gs ++ [slc b m] = slcs (k + 1) (k + 1) m (fun i => if i = k then b else gs i) := by
  unfold slcs
  rw [List.range_succ, List.map_append]
  congr 1
  · refine List.map_congr_left fun i hi => ?_
    have : i < k := by simpa using hi
    have h2 : i < k + 1 := by omega
    have h3 : i ≠ k := by omega
    simp only [this, h2, h3, if_true, if_false]
  · simp
structure Fill (w1 : World) (cb m : Nat) (nv : Value) (f : Nat → Nat → Bool) (gs : Nat → Nat) (k : Nat) (c0 c2 kv hv : Value) (nk nh : Nat) (ks ss : List Value) (W : World) : Prop where
  cr : CrB W cb c0 nv c2 (.slice none 0 0) (.slice none 0 0)
  ko : W.ownsRow (cb + 1) 9 1 kv nk ks
  ho : W.ownsRow (cb + 1) 151 1 hv nh ss
  row : ∀ i, i < k → W.heap[gs i]? = some (.cells (rowC m (f i)).toArray 4 (0, 0))
  bel : Below cb w1 W
section
variable {w1 W W' : World} {cb m : Nat} {nv : Value} {f : Nat → Nat → Bool} {gs : Nat → Nat} {k : Nat} {c0 c2 kv hv : Value} {nk nh : Nat} {ks ss : List Value}
theorem Fill.lt (h : Fill w1 cb m nv f gs k c0 c2 kv hv nk nh ks ss W) : cb < W.heap.size := block_lt h.cr
theorem Fill.cells (h : Fill w1 cb m nv f gs k c0 c2 kv hv nk nh ks ss W) : W.cell? ⟨cb, 0, none⟩ = some c0 ∧ W.cell? ⟨cb, 2, none⟩ = some c2 ∧ W.frozen? ⟨cb, 0, none⟩ = false ∧ W.frozen? ⟨cb, 2, none⟩ = false ∧ cb < W.heap.size :=
  ⟨(crB_cells h.cr).1, (crB_cells h.cr).2.2.1, by simp [World.frozen?, h.cr], by simp [World.frozen?, h.cr], h.lt⟩
theorem Fill.alloc (h : Fill w1 cb m nv f gs k c0 c2 kv hv nk nh ks ss W) (o : Obj) : Fill w1 cb m nv f gs k c0 c2 kv hv nk nh ks ss (W.alloc o) :=
  ⟨(Below.heap_alloc _ _ _ h.lt).trans h.cr, h.ko.alloc o, h.ho.alloc o, fun i hi => (Below.heap_alloc _ _ _ (block_lt (h.row i hi))).trans (h.row i hi), h.bel.alloc (Nat.le_of_lt h.lt) o⟩
theorem Fill.drew (h : Fill w1 cb m nv f gs k c0 c2 kv hv nk nh ks ss W) : Fill w1 cb m nv f gs k c0 c2 kv hv nk nh ks ss W.drew := ⟨h.cr, h.ko, h.ho, h.row, below_drewN h.bel 1⟩
theorem Fill.more (h : Fill w1 cb m nv f gs k c0 c2 kv hv nk nh ks ss W) (hb : Below W.heap.size W W') {b : Nat} (hR : W'.heap[b]? = some (.cells (rowC m (f k)).toArray 4 (0, 0))) : Fill w1 cb m nv f (fun i => if i = k then b else gs i) (k + 1) c0 c2 kv hv nk nh ks ss W' := by
  refine ⟨(hb.block _ h.lt).trans h.cr, ownsRow_below h.ko hb, ownsRow_below h.ho hb, fun i hi => ?_, h.bel.trans (hb.mono (Nat.le_of_lt h.lt))⟩
  by_cases e : i = k
  · subst e; simpa using hR
  · simp only [if_neg e]
    have hr := h.row i (by omega)
    exact (hb.block _ (block_lt hr)).trans hr
theorem own_ge {w : World} {base e size n g : Nat} {v : Value} {xs : List Value} (h : w.ownsRow base e size v n xs) (hg : v.ownBlock = some g) : base ≤ g ∧ ∃ cur, w.heap[g]? = some (.cells cur e (0, 0)) := by
  rcases h.2 with ⟨rfl, _⟩ | ⟨g', cap, cur, rfl, hb, hh, _⟩
  · cases hg
  · cases hg; exact ⟨hb, cur, hh⟩
theorem Fill.push0 (h : Fill w1 cb m nv f gs k c0 c2 kv hv nk nh ks ss W) {kv' : Value} {nk' : Nat} {ks' : List Value} (hg : W.grownBy W' kv.ownBlock) (ho : W'.ownsRow (cb + 1) 9 1 kv' nk' ks') : Fill w1 cb m nv f gs k c0 c2 kv' hv nk' nh ks' ss W' := by
  have hf : FrP (fun x => kv.ownBlock = some x) W W' := FrP.of_gb hg (fun x hx => hx)
  refine ⟨hf.blk h.cr (fun hS => ?_), ho, own_other h.ho h.ko hg (by decide), fun i hi => hf.blk (h.row i hi) (fun hS => ?_), h.bel.grown hg (Nat.le_of_lt h.lt) (fun x hx => by have := (own_ge h.ko hx).1; omega)⟩
  · obtain ⟨_, c, h2⟩ := own_ge h.ko hS; exact tag_ne h.cr h2 (by decide) rfl
  · obtain ⟨_, c, h2⟩ := own_ge h.ko hS; exact tag_ne (h.row i hi) h2 (by decide) rfl
theorem Fill.push2 (h : Fill w1 cb m nv f gs k c0 c2 kv hv nk nh ks ss W) {hv' : Value} {nh' : Nat} {ss' : List Value} (hg : W.grownBy W' hv.ownBlock) (ho : W'.ownsRow (cb + 1) 151 1 hv' nh' ss') : Fill w1 cb m nv f gs k c0 c2 kv hv' nk nh' ks ss' W' := by
  have hf : FrP (fun x => hv.ownBlock = some x) W W' := FrP.of_gb hg (fun x hx => hx)
  refine ⟨hf.blk h.cr (fun hS => ?_), own_other h.ko h.ho hg (by decide), ho, fun i hi => hf.blk (h.row i hi) (fun hS => ?_), h.bel.grown hg (Nat.le_of_lt h.lt) (fun x hx => by have := (own_ge h.ho hx).1; omega)⟩
  · obtain ⟨_, c, h2⟩ := own_ge h.ho hS; exact tag_ne h.cr h2 (by decide) rfl
  · obtain ⟨_, c, h2⟩ := own_ge h.ho hS; exact tag_ne (h.row i hi) h2 (by decide) rfl
theorem Fill.set0 (h : Fill w1 cb m nv f gs k c0 c2 kv hv nk nh ks ss W) (v : Value) : Fill w1 cb m nv f gs k v c2 kv hv nk nh ks ss (W.setCell ⟨cb, 0, none⟩ v) := by
  refine ⟨?_, own_set h.ko h.cr (by decide), own_set h.ho h.cr (by decide), fun i hi => (Below.heap_setCell _ _ _ _ ?_).trans (h.row i hi), h.bel.setCell (p := ⟨cb, 0, none⟩) (Nat.le_refl _) _⟩
  · have := h.cr
    simp [CrB, World.setCell, Array.getElem?_modify, this]
  · exact fun e => tag_ne (h.row i hi) h.cr (by decide) e
theorem Fill.set2 (h : Fill w1 cb m nv f gs k c0 c2 kv hv nk nh ks ss W) (v : Value) : Fill w1 cb m nv f gs k c0 v kv hv nk nh ks ss (W.setCell ⟨cb, 2, none⟩ v) := by
  refine ⟨?_, own_set h.ko h.cr (by decide), own_set h.ho h.cr (by decide), fun i hi => (Below.heap_setCell _ _ _ _ ?_).trans (h.row i hi), h.bel.setCell (p := ⟨cb, 2, none⟩) (Nat.le_refl _) _⟩
  · have := h.cr
    simp [CrB, World.setCell, Array.getElem?_modify, this]
  · exact fun e => tag_ne (h.row i hi) h.cr (by decide) e
theorem infoStr : (Tryz.prog.info? 9).map (fun i => (i.zero, i.size, i.bytes)) = some (some (.string ⟨#[]⟩), 1, 16) := by kernel_rfl
theorem step_fill0 {ops : Array Oper} {o : Oper} {a : Act} {K : Act → World → Prop} {Q : Exit → Act → World → Prop} {E : Prop} (hgd : o.guard = none) (s x : Operand)
    (hop : o.op = .call { callee := .builtin .append, args := #[s, x], argTypes := #[38, 38] }) (h : Fill w1 cb m nv f gs k c0 c2 kv hv nk nh ks ss W) (hs : a.eval s = kv) (b : Nat) (key : ByteArray) (hx : a.eval x = .slice (some ⟨b, 0, none⟩) 1 1)
    (hb : W.heap[b]? = some (.cells #[.string key] 9 (0, 0))) (hn : nk ≤ 1000)
    (hK : ∀ (g cap : Nat) (W' : World), Fill w1 cb m nv f gs k c0 c2 (.slice (some ⟨g, 0, none⟩) (nk + 1) cap) hv (nk + 1) nh (ks ++ [.string key]) ss W' → (∀ (x : Nat) (cur : Array Value) (t : TypeId) (z : Nat × Nat), W.heap[x]? = some (.cells cur t z) → t ≠ 9 → W'.heap[x]? = some (.cells cur t z)) → W.heap.size ≤ W'.heap.size → K (a.put o.dst (.slice (some ⟨g, 0, none⟩) (nk + 1) cap)) W') :
    if Region.wanted o (yielded ops a.tmps) = true then Oper.wp Tryz.prog o a W K Q else E := by
  obtain ⟨i0, ii, iz0, iz1, iz2⟩ := info_parts infoStr
  refine step_append_lies _ hgd s x 38 hop (cb + 1) 9 i0 _ 1 16 Tryz.underlying38 ii iz0 iz1 iz2 rfl (by decide) kv nk ks hs h.ko ⟨b, 0, none⟩ 1 1 [.string key] hx rfl ?_ ?_ (by omega) (by unfold maxLen; omega) (by omega) h.lt _ rfl ?_
  · intro j u hj
    rcases j with _ | j
    · simp at hj; subst hj; simp [Addr.add, World.cell?, hb]
    · simp at hj
  · intro u hu; simp at hu; subst hu; rfl
  · intro g cap w' hown' hgrow _ _
    refine hK _ _ w' (h.push0 hgrow hown') (fun x cur t z hx ht => ?_) hgrow.size
    have hf : FrP (fun x => kv.ownBlock = some x) W w' := FrP.of_gb hgrow (fun x hx => hx)
    refine hf.blk hx (fun hS => ?_)
    obtain ⟨_, c, h2⟩ := own_ge h.ko hS; exact tag_ne hx h2 ht rfl
theorem step_fill2 {ops : Array Oper} {o : Oper} {a : Act} {K : Act → World → Prop} {Q : Exit → Act → World → Prop} {E : Prop} (hgd : o.guard = none) (s x : Operand)
    (hop : o.op = .call { callee := .builtin .append, args := #[s, x], argTypes := #[145, 145] }) (h : Fill w1 cb m nv f gs k c0 c2 kv hv nk nh ks ss W) (hs : a.eval s = hv) (b : Nat) (u : Value) (hx : a.eval x = .slice (some ⟨b, 0, none⟩) 1 1)
    (hb : W.heap[b]? = some (.cells #[u] 151 (0, 0))) (hu : u.oneCell' = true) (hn : nh ≤ 1000)
    (hK : ∀ (g cap : Nat) (W' : World), Fill w1 cb m nv f gs k c0 c2 kv (.slice (some ⟨g, 0, none⟩) (nh + 1) cap) nk (nh + 1) ks (ss ++ [u]) W' → (∀ (x : Nat) (cur : Array Value) (t : TypeId) (z : Nat × Nat), W.heap[x]? = some (.cells cur t z) → t ≠ 151 → W'.heap[x]? = some (.cells cur t z)) → W.heap.size ≤ W'.heap.size → K (a.put o.dst (.slice (some ⟨g, 0, none⟩) (nh + 1) cap)) W') :
    if Region.wanted o (yielded ops a.tmps) = true then Oper.wp Tryz.prog o a W K Q else E := by
  obtain ⟨i0, ii, iz0, iz1, iz2⟩ := info_parts infoSl
  refine step_append_lies _ hgd s x 145 hop (cb + 1) 151 i0 _ 1 24 Tryz.underlying145 ii iz0 iz1 iz2 rfl (by decide) hv nh ss hs h.ho ⟨b, 0, none⟩ 1 1 [u] hx rfl ?_ ?_ (by omega) (by unfold maxLen; omega) (by omega) h.lt _ rfl ?_
  · intro j u' hj
    rcases j with _ | j
    · simp at hj; subst hj; simp [Addr.add, World.cell?, hb]
    · simp at hj
  · intro u' hu'; simp at hu'; subst hu'; exact hu
  · intro g cap w' hown' hgrow _ _
    refine hK _ _ w' (h.push2 hgrow hown') (fun x cur t z hx ht => ?_) hgrow.size
    have hf : FrP (fun x => hv.ownBlock = some x) W w' := FrP.of_gb hgrow (fun x hx => hx)
    refine hf.blk hx (fun hS => ?_)
    obtain ⟨_, c, h2⟩ := own_ge h.ho hS; exact tag_ne hx h2 ht rfl
end
structure SpS (cb pb : Nat) (kv hv : Value) (key : ByteArray) (w : World) : Prop where
  c0 : w.cell? ⟨cb, 0, none⟩ = some kv
  c2 : w.cell? ⟨cb, 2, none⟩ = some hv
  p0 : w.cell? ⟨pb, 0, none⟩ = some (.string key)
  pb : ∃ v, w.heap[pb]? = some (.cells #[.string key, v] 71 (0, 0))
theorem SpS.alloc {cb pb : Nat} {kv hv : Value} {key : ByteArray} {w : World} (h : SpS cb pb kv hv key w) (o : Obj) : SpS cb pb kv hv key (w.alloc o) := by
  obtain ⟨v, hv⟩ := h.pb
  exact ⟨bold (bfirst w o) h.c0, bold (bfirst w o) h.c2, bold (bfirst w o) h.p0, v, (Below.heap_alloc _ _ _ (block_lt hv)).trans hv⟩
theorem SpS.grow {cb pb m k nk nh : Nat} {kv hv kv' hv' nv : Value} {key : ByteArray} {w1 w w' : World} {f : Nat → Nat → Bool} {gs : Nat → Nat} {ks ss : List Value} (h : SpS cb pb kv hv key w) (st : Fill w1 cb m nv f gs k kv hv kv' hv' nk nh ks ss w') {tt : TypeId}
    (keep : ∀ (x : Nat) (cur : Array Value) (t : TypeId) (z : Nat × Nat), w.heap[x]? = some (.cells cur t z) → t ≠ tt → w'.heap[x]? = some (.cells cur t z)) (hne : 71 ≠ tt) : SpS cb pb kv hv key w' := by
  obtain ⟨v, hv⟩ := h.pb
  have hp := keep _ _ _ _ hv hne
  exact ⟨st.cells.1, st.cells.2.1, (by simp [World.cell?, hp]), v, hp⟩
theorem FrP.below {S : Nat → Prop} {w0 w w' : World} {B : Nat} (h : FrP S w w') (hb : Below B w0 w) (hB : B ≤ w.heap.size) (hS : ∀ x, S x → B ≤ x) : Below B w0 w' :=
  ⟨h.os.trans hb.os, h.tape.trans hb.tape, h.output.trans hb.output, Nat.le_trans hb.size h.size, fun x hx => (h.block x (by omega) (fun e => by have := hS x e; omega)).trans (hb.block x hx)⟩
theorem CrowdIs.grow {w w' : World} {cb bn n m base c : Nat} {ks : List ByteArray} {N H : Nat → Nat → Bool} {kv nv hv cv rv v : Value} {gN gH : Nat → Nat} {w0 : World} {xs : List Value} (h : CrowdIs w cb bn n m ks N H kv nv hv cv rv gN gH w0)
    (ho : w.ownsRow (cb + 1) 74 4 v c xs) (hg : w.grownBy w' v.ownBlock) (_hb : base = cb) : CrowdIs w' cb bn n m ks N H kv nv hv cv rv gN gH w0 := by
  have hf : FrP (fun x => v.ownBlock = some x) w w' := FrP.of_gb hg (fun x hx => hx)
  have hS : ∀ x cur t z, w.heap[x]? = some (.cells cur t z) → t ≠ 74 → ¬ v.ownBlock = some x := fun x cur t z hx ht hS => by
    obtain ⟨_, c, h2⟩ := own_ge ho hS; exact tag_ne hx h2 ht rfl
  refine ⟨hf.blk h.cr (hS _ _ _ _ h.cr (by decide)), hf.own h.key (fun x cur z hx => hS _ _ _ _ hx (by decide)), h.len, h.nr, h.bl, h.n0, fun x hx => ?_, ?_⟩
  · have hl := block_lt h.cr
    have := h.n0
    exact (hf.block x (by omega) (fun e => by have := (own_ge ho e).1; omega)).trans (h.nk x hx)
  · exact ⟨hf.own h.hs.own (fun x cur z hx => hS _ _ _ _ hx (by decide)), fun i h1 h2 => hf.blk (h.hs.row i h1 h2) (hS _ _ _ _ (h.hs.row i h1 h2) (by decide)), h.hs.ge, h.hs.inj⟩
open Go
set_option linter.unusedVariables false
set_option linter.unusedSimpArgs false
section
variable {P : Program} {ops : Array Oper} {Q : Exit → Act → World → Prop} {md : Region.Mode} {S : World → Prop} {late : Nat → Bool}
def wpLate (P : Program) (md : Region.Mode) (ops : Array Oper) (Q : Exit → Act → World → Prop) (S : World → Prop) (late : Nat → Bool) : Nat → Array Bool → Act → World → Prop
  | 0, listed, a, w => Region.ready md ops listed = [] ∧ Q .normal a w
  | fuel + 1, listed, a, w =>
    (Region.ready md ops listed = [] → Q .normal a w) ∧
    ∀ i ∈ Region.ready md ops listed, wpOp P ops Q i (fun a' w' => (late i = false → S w → S w') ∧ wpLate P md ops Q S late fuel (listed.setIfInBounds i true) a' w') a w
theorem wpAny_of_late : ∀ (fuel : Nat) (listed : Array Bool) (a : Act) (w : World), wpLate P md ops Q S late fuel listed a w → wpAny P md ops Q fuel listed a w
  | 0, _, _, _, h => h
  | fuel + 1, _, _, _, h => ⟨h.1, fun i hi => wpOp_mono (fun a' w' h' => wpAny_of_late fuel _ a' w' h'.2) (h.2 i hi)⟩
theorem wpLate_first {i : Nat} {oi : Oper} {v : Value} (hi : ops[i]? = some oi) (hsel : ∀ (j : Nat) (o : Oper) cs b, ops[j]? = some o → o.op ≠ .select cs b)
    (hQ : ∀ c a w, Q (.panic c) (a.put oi.dst v) w → Q (.panic c) a w) (hlate : ∀ j oj, ops[j]? = some oj → late j = true → ∃ e ∈ oj.after, Region.binds md e = true ∧ e.on = i) :
    ∀ (fuel : Nat) (listed : Array Bool) (a : Act) (w : World),
      (∀ j oj, ops[j]? = some oj → j ≠ i → listed.getD j true = false → (∀ e ∈ oj.after, Region.binds md e = true → e.on ≠ i) → oi.apart ops oj = true) →
      i ∈ Region.ready md ops listed → YieldsIf P ops S oi v a → S w →
      wpLate P md ops Q S late fuel (listed.setIfInBounds i true) (a.put oi.dst v) w → wpLate P md ops Q S late (fuel + 1) listed a w := by
  intro fuel
  induction fuel with
  | zero =>
    intro listed a w _ hr hy hS H
    refine ⟨fun h => (by rw [h] at hr; cases hr), fun j hj => ?_⟩
    by_cases hji : j = i
    · subst hji; exact hy.wpOp hi hS ⟨fun _ h => h, H⟩
    · have := ready_mono hj hji
      rw [H.1] at this
      cases this
  | succ fuel ih =>
    intro listed a w hfree hr hy hS H
    refine ⟨fun h => (by rw [h] at hr; cases hr), fun j hj => ?_⟩
    by_cases hji : j = i
    · subst hji; exact hy.wpOp hi hS ⟨fun _ h => h, H⟩
    · have h1 := H.2 j (ready_mono hj hji)
      obtain ⟨hjun, oj, hoj, hall⟩ := mem_ready.1 hj
      have hnot : ∀ e ∈ oj.after, Region.binds md e = true → e.on ≠ i := fun e he hb heq => by
        have h1 := hall e he hb
        have h0 := (mem_ready.1 hr).1
        rw [heq] at h1
        rcases Nat.lt_or_ge i listed.size with h' | h'
        · simp [h'] at h0 h1; rw [h0] at h1; cases h1
        · simp [Array.getElem?_eq_none h'] at h1
      have hjl : late j = false := by
        cases hl : late j with
        | false => rfl
        | true =>
          obtain ⟨e, he, hb, heq⟩ := hlate j oj hoj hl
          exact absurd heq (hnot e he hb)
      have h2 := wpOp_putIf hoj (hfree j oj hoj hji hjun hnot) (fun cs b => hsel i oi cs b hi) (fun cs b => hsel j oj cs b hoj) hQ hy h1
      have hfree' : ∀ k ok, ops[k]? = some ok → k ≠ i → (listed.setIfInBounds j true).getD k true = false →
          (∀ e ∈ ok.after, Region.binds md e = true → e.on ≠ i) → oi.apart ops ok = true := fun k ok hk hki hun hno => by
        refine hfree k ok hk hki ?_ hno
        by_cases hjk : j = k
        · subst hjk; exact hjun
        · rw [getD_set_ne true hjk] at hun; exact hun
      refine wpOp_mono (fun a' w' h3 => ⟨h3.2.1, ih (listed.setIfInBounds j true) a' w' hfree' (ready_mono hr (Ne.symm hji)) h3.1 (h3.2.1 hjl hS) ?_⟩) h2
      rw [Array.setIfInBounds_comm _ _ hji]
      exact h3.2.2
def rlateB (md : Region.Mode) (ops : Array Oper) (late : Nat → Bool) (i : Nat) : Bool := (List.range ops.size).all fun j => !late j || match ops[j]? with
  | some oj => oj.after.any fun e => Region.binds md e && e.on == i
  | none => true
theorem rlateB_spec {i : Nat} (h : rlateB md ops late i = true) : ∀ j oj, ops[j]? = some oj → late j = true → ∃ e ∈ oj.after, Region.binds md e = true ∧ e.on = i := by
  intro j oj hj hl
  simp only [rlateB, List.all_eq_true, List.mem_range] at h
  have h1 := h j (Array.getElem?_eq_some_iff.1 hj).1
  simp only [hl, hj, Bool.not_true, Bool.false_or, Array.any_eq_true] at h1
  obtain ⟨n, hn, h2⟩ := h1
  simp only [Bool.and_eq_true, beq_iff_eq] at h2
  exact ⟨oj.after[n], Array.getElem_mem hn, h2.1, h2.2⟩
theorem wpLate_take {i : Nat} {oi : Oper} {v : Value} {fuel : Nat} {listed : Array Bool} {a : Act} {w : World} (hi : ops[i]? = some oi)
    (hs : Region.noSelect ops = true) (hf : Region.free md ops listed i = true) (hr : (Region.ready md ops listed).contains i = true) (hl : rlateB md ops late i = true)
    (hQ : ∀ c a w, Q (.panic c) (a.put oi.dst v) w → Q (.panic c) a w) (hy : YieldsIf P ops S oi v a) (hS : S w)
    (h : wpLate P md ops Q S late fuel (listed.setIfInBounds i true) (a.put oi.dst v) w) : wpLate P md ops Q S late (fuel + 1) listed a w :=
  wpLate_first hi (Region.noSelect_spec hs) hQ (rlateB_spec hl) fuel listed a w (Region.free_spec hi hf) (by simpa using hr) hy hS h
theorem wpLate_firstP {i : Nat} {oi : Oper} {v : Value} (hi : ops[i]? = some oi) (hsel : ∀ (j : Nat) (o : Oper) cs b, ops[j]? = some o → o.op ≠ .select cs b)
    (hQ : ∀ c a w, Q (.panic c) (a.put oi.dst v) w → Q (.panic c) a w) :
    ∀ (fuel : Nat) (listed : Array Bool) (a : Act) (w : World),
      (∀ j oj, ops[j]? = some oj → j ≠ i → listed.getD j true = false → (∀ e ∈ oj.after, Region.binds md e = true → e.on ≠ i) → oi.apart ops oj = true) →
      i ∈ Region.ready md ops listed → YieldsIf P ops (fun _ => True) oi v a →
      wpLate P md ops Q S late fuel (listed.setIfInBounds i true) (a.put oi.dst v) w → wpLate P md ops Q S late (fuel + 1) listed a w := by
  intro fuel
  induction fuel with
  | zero =>
    intro listed a w _ hr hy H
    refine ⟨fun h => (by rw [h] at hr; cases hr), fun j hj => ?_⟩
    by_cases hji : j = i
    · subst hji; exact hy.wpOp hi trivial ⟨fun _ h => h, H⟩
    · have := ready_mono hj hji
      rw [H.1] at this
      cases this
  | succ fuel ih =>
    intro listed a w hfree hr hy H
    refine ⟨fun h => (by rw [h] at hr; cases hr), fun j hj => ?_⟩
    by_cases hji : j = i
    · subst hji; exact hy.wpOp hi trivial ⟨fun _ h => h, H⟩
    · have h1 := H.2 j (ready_mono hj hji)
      obtain ⟨hjun, oj, hoj, hall⟩ := mem_ready.1 hj
      have hnot : ∀ e ∈ oj.after, Region.binds md e = true → e.on ≠ i := fun e he hb heq => by
        have h1 := hall e he hb
        have h0 := (mem_ready.1 hr).1
        rw [heq] at h1
        rcases Nat.lt_or_ge i listed.size with h' | h'
        · simp [h'] at h0 h1; rw [h0] at h1; cases h1
        · simp [Array.getElem?_eq_none h'] at h1
      have h2 := wpOp_putIf hoj (hfree j oj hoj hji hjun hnot) (fun cs b => hsel i oi cs b hi) (fun cs b => hsel j oj cs b hoj) hQ hy h1
      have hfree' : ∀ k ok, ops[k]? = some ok → k ≠ i → (listed.setIfInBounds j true).getD k true = false →
          (∀ e ∈ ok.after, Region.binds md e = true → e.on ≠ i) → oi.apart ops ok = true := fun k ok hk hki hun hno => by
        refine hfree k ok hk hki ?_ hno
        by_cases hjk : j = k
        · subst hjk; exact hjun
        · rw [getD_set_ne true hjk] at hun; exact hun
      refine wpOp_mono (fun a' w' h3 => ⟨h3.2.1, ih (listed.setIfInBounds j true) a' w' hfree' (ready_mono hr (Ne.symm hji)) h3.1 ?_⟩) h2
      rw [Array.setIfInBounds_comm _ _ hji]
      exact h3.2.2
theorem wpLate_takeP {i : Nat} {oi : Oper} {v : Value} {fuel : Nat} {listed : Array Bool} {a : Act} {w : World} (hi : ops[i]? = some oi)
    (hs : Region.noSelect ops = true) (hf : Region.free md ops listed i = true) (hr : (Region.ready md ops listed).contains i = true)
    (hQ : ∀ c a w, Q (.panic c) (a.put oi.dst v) w → Q (.panic c) a w) (hy : YieldsIf P ops (fun _ => True) oi v a)
    (h : wpLate P md ops Q S late fuel (listed.setIfInBounds i true) (a.put oi.dst v) w) : wpLate P md ops Q S late (fuel + 1) listed a w :=
  wpLate_firstP hi (Region.noSelect_spec hs) hQ fuel listed a w (Region.free_spec hi hf) (by simpa using hr) hy h
theorem wpLate_done {listed : Array Bool} {a : Act} {w : World} (hr : Region.ready md ops listed = []) (h : Q .normal a w) : ∀ fuel, wpLate P md ops Q S late fuel listed a w
  | 0 => ⟨hr, h⟩
  | _ + 1 => ⟨fun _ => h, by rw [hr]; simp⟩
def AllLate (P : Program) (md : Region.Mode) (ops : Array Oper) (Q : Exit → Act → World → Prop) (S : World → Prop) (late : Nat → Bool) (fuel : Nat) (listed : Array Bool) (a : Act) (w : World) (rs : List Nat) : Prop :=
  ∀ i ∈ rs, wpOp P ops Q i (fun a' w' => (late i = false → S w → S w') ∧ wpLate P md ops Q S late fuel (listed.setIfInBounds i true) a' w') a w
theorem AllLate.nil {fuel : Nat} {listed : Array Bool} {a : Act} {w : World} : AllLate P md ops Q S late fuel listed a w [] := fun _ h => by cases h
theorem AllLate.cons {fuel : Nat} {listed : Array Bool} {a : Act} {w : World} {i : Nat} {o : Oper} {rs : List Nat} (ho : ops[i]? = some o)
    (h : ∀ K' : Act → World → Prop, (∀ a' w', (late i = false → S w → S w') → wpLate P md ops Q S late fuel (listed.setIfInBounds i true) a' w' → K' a' w') → if Region.wanted o (yielded ops a.tmps) = true then Oper.wp P o a w K' Q else K' (a.put o.dst undef) w)
    (hs : AllLate P md ops Q S late fuel listed a w rs) : AllLate P md ops Q S late fuel listed a w (i :: rs) := fun j hj => by
  rcases List.mem_cons.1 hj with rfl | hj
  · exact wpOp_step ho (fun K' hK => h K' (fun a' w' hS hW => hK a' w' ⟨hS, hW⟩))
  · exact hs j hj
theorem wpLate_ready {rs : List Nat} {fuel : Nat} {listed : Array Bool} {a : Act} {w : World} (hr : Region.ready md ops listed = rs) (hne : rs ≠ [])
    (h : AllLate P md ops Q S late fuel listed a w rs) : wpLate P md ops Q S late (fuel + 1) listed a w := ⟨fun h0 => absurd (hr ▸ h0) hne, hr ▸ h⟩
theorem wp_region_late (late : Nat → Bool) (S : World → Prop) {id : Nat} {a : Act} {w : World} (hm : P.follows .mixedOrders = true) (h : wpLate P .any ops Q S late ops.size (Array.replicate ops.size false) a w.drew) : (Code.region id ops true).wp P Q a w :=
  wp_region_any hm (wpAny_of_late _ _ _ _ h)
end
end Go.Proofs.YtgnknjlgcinboaaGreatDoor
