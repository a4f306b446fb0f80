/- Words of memory that all walks of this seat share: facts kept out of the walk's sight, a slice that reads as a list, the stream. Plain lemmas; no statement of the seat. -/
import Derived.WalkKit
import Derived.WalkSpells
import Derived.WalkLawsBesides
import Derived.Deep.QuietTactic
import Derived.BigQuiet
import Derived.Lib.Hide
import Derived.Test.YtidkkmoiolffnaaGreatDoorProg
import Derived.Test.YtidkkmoiolffnaaGreatDoorShelf
import Derived.Deep.DeepCutAuto
import Derived.Deep.LoopGhost
import Derived.Shelf.Strings.SlTrimAscii
import Derived.Shelf.Strings.Builder1
import Derived.Deep.RegionHeld3
import Derived.Deep.AppendLies
import Derived.Deep.DrawnRows
import Derived.Deep.RegionLaw
import Derived.Maps.Own
import Derived.Maps.OwnOps
import Derived.Maps.OwnSet
import Derived.Maps.Views
import Derived.Shelf.GgClosure.Gives
import Derived.Lib.SliceRun
import Derived.Lib.OwnBridge
import Derived.Lib.SlicesCompact
import Derived.Sort.KeysCollected
import Derived.Test.YtidkkmoiolffnaaGreatDoorAvRun
import Derived.Test.YtidkkmoiolffnaaGreatDoorAvTy
import Derived.Test.YtidkkmoiolffnaaGreatDoorAvFz
namespace Go.Proofs.YtidkkmoiolffnaaGreatDoor
open Go.RowKit
set_option linter.unusedVariables false
set_option linter.unusedSimpArgs false
theorem gb_refl (w : World) (r : Option Nat) : w.grownBy w r := ⟨rfl, rfl, rfl, Nat.le_refl _, fun _ _ _ => rfl⟩
theorem gb_trans {a b c : World} {r : Option Nat} (h : a.grownBy b r) (k : b.grownBy c r) : a.grownBy c r :=
  ⟨k.os.trans h.os, k.tape.trans h.tape, k.output.trans h.output, Nat.le_trans h.size k.size, fun i hi hn => (k.block i (Nat.lt_of_lt_of_le hi h.size) hn).trans (h.block i hi hn)⟩
theorem gb_drewN {a w : World} {r : Option Nat} (h : a.grownBy w r) (n : Nat) : a.grownBy (w.drewN n) r := ⟨h.os, h.tape, h.output, h.size, h.block⟩
theorem gb_drew {a w : World} {r : Option Nat} (h : a.grownBy w r) : a.grownBy w.drew r := ⟨h.os, h.tape, h.output, h.size, h.block⟩
theorem gb_alloc {a w : World} {r : Option Nat} (h : a.grownBy w r) (o : Obj) : a.grownBy (w.alloc o) r :=
  ⟨h.os, h.tape, h.output, Nat.le_trans h.size (by simp), fun i hi hne => (Below.heap_alloc w o i (Nat.lt_of_lt_of_le hi h.size)).trans (h.block i hi hne)⟩
theorem gb_below {a w : World} (h : Below a.heap.size a w) (r : Option Nat) : a.grownBy w r := ⟨h.os, h.tape, h.output, h.size, fun i hi _ => h.block i hi⟩
theorem below_gb {W a w : World} {b : Nat} (h : Below W.heap.size W a) (g : a.grownBy w (some b)) (hb : W.heap.size ≤ b) : Below W.heap.size W w :=
  h.trans ⟨g.os, g.tape, g.output, g.size, fun k hk => g.block k (Nat.lt_of_lt_of_le hk h.size) (fun e => by injection e with e; omega)⟩
theorem below_drewN {B : Nat} {a w : World} (h : Below B a w) (n : Nat) : Below B a (w.drewN n) := ⟨h.os, h.tape, h.output, h.size, h.block⟩
def Lst (w : World) (lo size : Nat) (v : Value) (xs : List Value) : Prop :=
  ∃ (A : Option Addr) (n c : Nat), v = .slice A n c ∧ n ≤ c ∧ c ≤ maxLen ∧ xs.length = n * size ∧
    (0 < n → ∃ g o, A = some ⟨g, o, none⟩ ∧ lo ≤ g ∧ g < w.heap.size ∧ ∀ j u, xs[j]? = some u → w.cell? ⟨g, o + j, none⟩ = some u)
theorem Lst.mono {w : World} {lo lo' size : Nat} {v : Value} {xs : List Value} (h : Lst w lo size v xs) (hl : lo' ≤ lo) : Lst w lo' size v xs := by
  obtain ⟨A, n, c, hv, hn, hc, hx, hr⟩ := h
  exact ⟨A, n, c, hv, hn, hc, hx, fun h0 => let ⟨g, o, hA, hg, hlt, hcell⟩ := hr h0; ⟨g, o, hA, Nat.le_trans hl hg, hlt, hcell⟩⟩
theorem Lst.keep {w w' : World} {lo size : Nat} {v : Value} {xs : List Value} (h : Lst w lo size v xs) (hs : w.heap.size ≤ w'.heap.size)
    (hk : ∀ k, lo ≤ k → k < w.heap.size → w'.heap[k]? = w.heap[k]?) : Lst w' lo size v xs := by
  obtain ⟨A, n, c, hv, hn, hc, hx, hr⟩ := h
  refine ⟨A, n, c, hv, hn, hc, hx, fun h0 => ?_⟩
  obtain ⟨g, o, hA, hg, hlt, hcell⟩ := hr h0
  exact ⟨g, o, hA, hg, Nat.lt_of_lt_of_le hlt hs, fun j u hu => (World.cell?_of_block (w := w) (hk g hg hlt)).trans (hcell j u hu)⟩
theorem Lst.below {w w' : World} {lo size : Nat} {v : Value} {xs : List Value} (h : Lst w lo size v xs) (hb : Below w.heap.size w w') : Lst w' lo size v xs :=
  h.keep hb.size fun k _ hk => hb.block k hk
theorem Lst.grown {w w' : World} {lo size b : Nat} {v : Value} {xs : List Value} (h : Lst w lo size v xs) (hg : w.grownBy w' (some b)) (hb : b < lo) : Lst w' lo size v xs :=
  h.keep hg.size fun k hk hlt => hg.block k hlt (fun e => by injection e with e; omega)
theorem Lst.nil (w : World) (lo size : Nat) : Lst w lo size (.slice none 0 0) [] := ⟨none, 0, 0, rfl, Nat.le_refl _, Nat.zero_le _, by simp, fun h => absurd h (by omega)⟩
theorem Lst.of_own {w : World} {base size n : Nat} {e : TypeId} {v : Value} {xs : List Value} (h : w.ownsRow base e size v n xs) : Lst w base size v xs := by
  obtain ⟨hl, h2⟩ := h
  rcases h2 with ⟨rfl, rfl⟩ | ⟨g, cap, cur, rfl, hg, hh, hnc, hcm, hsz, hx⟩
  · have : xs = [] := List.eq_nil_of_length_eq_zero (by simpa using hl)
    subst this; exact Lst.nil w base size
  · refine ⟨_, n, cap, rfl, hnc, hcm, hl, fun h0 => ⟨g, 0, rfl, hg, ?_, fun j u hu => ?_⟩⟩
    · rcases Nat.lt_or_ge g w.heap.size with h | h
      · exact h
      · rw [Array.getElem?_eq_none h] at hh; cases hh
    · have hcur : cur[j]? = some u := by
        rw [← hx, List.getElem?_take] at hu
        split at hu
        · simpa using hu
        · cases hu
      simp [World.cell?, hh, hcur]
theorem Lst.at_ {w : World} {lo n c k : Nat} {A : Option Addr} {xs : List Value} (h : Lst w lo 1 (.slice A n c) xs) (hk : k < n) :
    ∃ g o u, A = some ⟨g, o, none⟩ ∧ lo ≤ g ∧ g < w.heap.size ∧ xs[k]? = some u ∧ w.cell? ⟨g, o + k, none⟩ = some u := by
  obtain ⟨A', n', c', hv, hn, hc, hx, hr⟩ := h
  simp only [Value.slice.injEq] at hv
  obtain ⟨rfl, rfl, rfl⟩ := hv
  obtain ⟨g, o, hA, hg, hlt, hcell⟩ := hr (by omega)
  have hl : k < xs.length := by omega
  exact ⟨g, o, xs[k], hA, hg, hlt, List.getElem?_eq_getElem hl, hcell k _ (List.getElem?_eq_getElem hl)⟩
theorem Lst.open_ {w : World} {lo size n c : Nat} {A : Option Addr} {xs : List Value} (h : Lst w lo size (.slice A n c) xs) (hk : 0 < n) :
    ∃ g o, A = some ⟨g, o, none⟩ ∧ lo ≤ g ∧ g < w.heap.size ∧ ∀ j u, xs[j]? = some u → w.cell? ⟨g, o + j, none⟩ = some u := by
  obtain ⟨A', n', c', hv, hn, hc, hx, hr⟩ := h
  simp only [Value.slice.injEq] at hv
  obtain ⟨rfl, rfl, rfl⟩ := hv
  exact hr hk
theorem Lst.form {w : World} {lo size : Nat} {v : Value} {xs : List Value} (h : Lst w lo size v xs) : ∃ A n c, v = .slice A n c ∧ n ≤ c ∧ c ≤ maxLen ∧ xs.length = n * size :=
  let ⟨A, n, c, hv, hn, hc, hx, _⟩ := h; ⟨A, n, c, hv, hn, hc, hx⟩
def IsStream (ts : TypeId) (w : World) (b M : Nat) : Prop :=
  ∃ (a : Option Addr) (len cap : Nat) (at_ : Nat), w.heap[b]? = some (.cells #[.slice a len cap, .int .i64 (at_ : Int)] ts (0, 0)) ∧ at_ ≤ M ∧ len ≤ 9223372036854775807 ∧
    (0 < len → ∃ x, a = some x ∧ x.block < b ∧ x.spot = none ∧ ∀ i, i < len → ∃ z : Int, w.cell? ⟨x.block, x.off + i, none⟩ = some (.int .i64 z))
theorem block_lt {w : World} {b : Nat} {o : Obj} (h : w.heap[b]? = some o) : b < w.heap.size := by
  rcases Nat.lt_or_ge b w.heap.size with hl | hl
  · exact hl
  · rw [Array.getElem?_eq_none hl] at h; cases h
theorem IsStream.lt {ts : TypeId} {w : World} {b M : Nat} (h : IsStream ts w b M) : b < w.heap.size := by
  obtain ⟨_, _, _, _, hh, _⟩ := h
  exact block_lt hh
theorem IsStream.below {ts : TypeId} {w w' : World} {b M : Nat} (h : IsStream ts w b M) (hb : Below w.heap.size w w') : IsStream ts w' b M := by
  have hlt := h.lt
  obtain ⟨a, len, cap, at_, hh, h1, h2, h3⟩ := h
  refine ⟨a, len, cap, at_, (hb.block b hlt).trans hh, h1, h2, fun h0 => ?_⟩
  obtain ⟨x, hx, hxb, hs, hc⟩ := h3 h0
  refine ⟨x, hx, hxb, hs, fun i hi => ?_⟩
  obtain ⟨z, hz⟩ := hc i hi
  exact ⟨z, (hb.cell (p := ⟨x.block, x.off + i, none⟩) (by show x.block < _; omega)).trans hz⟩
theorem IsStream.mono {ts : TypeId} {w : World} {b M M' : Nat} (h : IsStream ts w b M) (hM : M ≤ M') : IsStream ts w b M' := by
  obtain ⟨a, len, cap, at_, hh, h1, h2⟩ := h
  exact ⟨a, len, cap, at_, hh, by omega, h2⟩
theorem IsStream.alloc {ts : TypeId} {w : World} {b M : Nat} (h : IsStream ts w b M) (o : Obj) : IsStream ts (w.alloc o) b M :=
  h.below ((Below.refl _ _).alloc (Nat.le_refl _) o)
theorem IsStream.drewN {ts : TypeId} {w : World} {b M : Nat} (h : IsStream ts w b M) (n : Nat) : IsStream ts (w.drewN n) b M := h
theorem stream_cells {w : World} {b : Nat} {u v : Value} {t : TypeId} (h : w.heap[b]? = some (.cells #[u, v] t (0, 0))) :
    w.cell? ⟨b, 0, none⟩ = some u ∧ w.cell? ⟨b, 1, none⟩ = some v ∧ w.frozen? ⟨b, 0, none⟩ = false ∧ w.frozen? ⟨b, 1, none⟩ = false := by
  simp [World.cell?, World.frozen?, h]
theorem stream_set {w : World} {b : Nat} {u v v' : Value} {t : TypeId} (h : w.heap[b]? = some (.cells #[u, v] t (0, 0))) :
    (w.setCell ⟨b, 1, none⟩ v').heap[b]? = some (.cells #[u, v'] t (0, 0)) := by
  simp [World.setCell, Array.getElem?_modify, h]
def IsRow (k : IntKind) (w : World) (a : Option Addr) (len cap : Nat) (zs : List Int) : Prop :=
  (a = none ∧ len = 0 ∧ cap = 0 ∧ zs = []) ∨
  ∃ x, a = some x ∧ len ≤ cap ∧ cap ≤ maxLen ∧ zs.length = cap ∧ (∀ i, i < zs.length → w.cell? (x.add i) = some (.int k (zs.getD i 0))) ∧ ∀ n ∈ zs, (Lit.int k n).wf = true
theorem isStream_new {ts : TypeId} {w : World} {a : Option Addr} {len cap : Nat} {zs : List Int} (h : IsRow .i64 w a len cap zs) :
    IsStream ts (w.alloc (.cells #[.slice a len cap, .int .i64 0] ts)) w.heap.size 0 := by
  refine ⟨a, len, cap, 0, heap_alloc_new w _, Nat.le_refl _, ?_, fun h0 => ?_⟩
  · rcases h with ⟨_, rfl, _⟩ | ⟨_, _, hl, hm, _⟩
    · omega
    · unfold maxLen at hm; omega
  · rcases h with ⟨_, rfl, _⟩ | ⟨⟨b, o, sp⟩, rfl, hl, hm, hz, hc, _⟩
    · omega
    · have hc0 := hc 0 (by omega)
      have hsp : sp = none := by simpa [Addr.add] using World.cell?_spot hc0
      subst hsp
      have e : ∀ i, (⟨b, o, none⟩ : Addr).add i = ⟨b, o + i, none⟩ := fun i => by unfold Addr.add; split <;> simp_all
      refine ⟨_, rfl, ?_, rfl, fun i hi => ⟨zs.getD i 0, ?_⟩⟩
      · rw [e] at hc0; exact World.block_lt_of_cell? w _ hc0
      · have h1 := hc i (by omega)
        rw [e] at h1
        rw [World.cell?_alloc_lt _ _ _ (World.block_lt_of_cell? w _ h1)]
        exact h1
structure Goes (ts : TypeId) (b M k : Nat) (w w' : World) : Prop where
  is : IsStream ts w' b (M + k)
  gb : w.grownBy w' (some b)
theorem Goes.refl {ts : TypeId} {b M k : Nat} {w : World} (h : IsStream ts w b M) : Goes ts b M k w w := ⟨h.mono (by omega), gb_refl _ _⟩
theorem Goes.trans {ts : TypeId} {b M k j m : Nat} {w w1 w2 : World} (h : Goes ts b M k w w1) (h' : Goes ts b (M + k) j w1 w2) (hm : k + j ≤ m) : Goes ts b M m w w2 :=
  ⟨h'.is.mono (by omega), gb_trans h.gb h'.gb⟩
theorem Goes.more {ts : TypeId} {b M k k' : Nat} {w w1 : World} (h : Goes ts b M k w w1) (hk : k ≤ k') : Goes ts b M k' w w1 := ⟨h.is.mono (by omega), h.gb⟩
theorem Goes.below {ts : TypeId} {b M k : Nat} {w w1 w2 : World} (h : Goes ts b M k w w1) (hb : Below w1.heap.size w1 w2) : Goes ts b M k w w2 :=
  ⟨h.is.below hb, gb_trans h.gb (gb_below hb _)⟩
theorem Goes.alloc {ts : TypeId} {b M k : Nat} {w w1 : World} (h : Goes ts b M k w w1) (o : Obj) : Goes ts b M k w (w1.alloc o) := ⟨h.is.alloc o, gb_alloc h.gb o⟩
theorem Goes.of_alloc {ts : TypeId} {b M k : Nat} {w w1 : World} {o : Obj} (h : Goes ts b M k (w.alloc o) w1) : Goes ts b M k w w1 := ⟨h.is, gb_trans (gb_alloc (gb_refl w _) o) h.gb⟩
theorem Goes.drewN {ts : TypeId} {b M k : Nat} {w w1 : World} (h : Goes ts b M k w w1) (n : Nat) : Goes ts b M k w (w1.drewN n) := ⟨h.is, gb_drewN h.gb n⟩
theorem goes_set {ts : TypeId} {w : World} {b M len cap at_ : Nat} {a : Option Addr} {nq : Nat}
    (h : w.heap[b]? = some (.cells #[.slice a len cap, .int .i64 (at_ : Int)] ts (0, 0))) (hM : at_ ≤ M) (hl : len ≤ 9223372036854775807)
    (hz : 0 < len → ∃ x, a = some x ∧ x.block < b ∧ x.spot = none ∧ ∀ i, i < len → ∃ z : Int, w.cell? ⟨x.block, x.off + i, none⟩ = some (.int .i64 z)) :
    Goes ts b M 1 w ((w.setCell ⟨b, 1, none⟩ (.int .i64 ((at_ : Int) + 1))).drewN nq) := by
  refine ⟨⟨a, len, cap, at_ + 1, stream_set h, by omega, hl, fun h0 => ?_⟩, ⟨rfl, rfl, rfl, by simp [World.setCell, World.drewN], fun k hk hne => Below.heap_setCell _ _ _ _ (by intro e; exact hne (by rw [e]))⟩⟩
  obtain ⟨x, hx, hb, hs, hc⟩ := hz h0
  refine ⟨x, hx, hb, hs, fun i hi => ?_⟩
  obtain ⟨z, hzc⟩ := hc i hi
  refine ⟨z, ?_⟩
  rw [← hzc]
  exact World.cell?_of_block (w := w) (Below.heap_setCell _ _ _ _ (by show x.block ≠ b; omega))
def GoesInt (ts : TypeId) (b M k : Nat) (P : Int → Prop) (w : World) (e : Ending) (w' : World) : Prop := ∃ r : Int, P r ∧ e = .returned (.int .i64 r) ∧ Goes ts b M k w w'
def GoesStr (ts : TypeId) (b M k : Nat) (P : ByteArray → Prop) (w : World) (e : Ending) (w' : World) : Prop := ∃ r : ByteArray, P r ∧ e = .returned (.string r) ∧ Goes ts b M k w w'
def GoesBool (ts : TypeId) (b M k : Nat) (w : World) (e : Ending) (w' : World) : Prop := ∃ r : Bool, e = .returned (.bool r) ∧ Goes ts b M k w w'
theorem cell_new_list (w : World) (cs : Array Value) (t : TypeId) (i : Nat) (v : Value) (h : cs[i]? = some v) : (w.alloc (.cells cs t)).cell? ⟨w.heap.size, i, none⟩ = some v := by
  have h1 := heap_alloc_new w (.cells cs t)
  simp only [World.cell?, h1]
  exact h
theorem cells_new (w : World) (xs : List Value) (t : TypeId) : ∀ j u, xs[j]? = some u → (w.alloc (.cells xs.toArray t)).cell? ((⟨w.heap.size, 0, none⟩ : Addr).add j) = some u := by
  intro j u h
  have e : (⟨w.heap.size, 0, none⟩ : Addr).add j = ⟨w.heap.size, j, none⟩ := by unfold Addr.add; split <;> simp_all
  rw [e]
  exact cell_new_list w _ t j u (by simpa using h)
theorem ownsRow_base {w : World} {b b' size n : Nat} {e : TypeId} {v : Value} {xs : List Value} (h : w.ownsRow b e size v n xs) (hb : b' ≤ b) : w.ownsRow b' e size v n xs := by
  obtain ⟨hl, h2⟩ := h
  refine ⟨hl, ?_⟩
  rcases h2 with h2 | ⟨g, cap, cur, hv, hg, r⟩
  · exact .inl h2
  · exact .inr ⟨g, cap, cur, hv, Nat.le_trans hb hg, r⟩
theorem ownsRow_below {w w' : World} {b size n : Nat} {e : TypeId} {v : Value} {xs : List Value} (h : w.ownsRow b e size v n xs) (hb : Below w.heap.size w w') : w'.ownsRow b e size v n xs := by
  obtain ⟨hl, h2⟩ := h
  refine ⟨hl, ?_⟩
  rcases h2 with h2 | ⟨g, cap, cur, hv, hg, hh, r⟩
  · exact .inl h2
  · exact .inr ⟨g, cap, cur, hv, hg, (hb.block g (block_lt hh)).trans hh, r⟩
theorem ret_int {k : IntKind} {a b : Int} (h : a = b) : Ending.returned (.int k a) = .returned (.int k b) := by rw [h]
def BelowOf (x n : Int) : Int := if n < 1 then 0 else if x.tmod n < 0 then x.tmod n + n else x.tmod n
theorem belowOf_range (x n : Int) (h : 1 ≤ n) : 0 ≤ BelowOf x n ∧ BelowOf x n < n := by
  unfold BelowOf
  have h1 := Int.tmod_lt_of_pos x (show 0 < n by omega)
  have h2 := Int.lt_tmod_of_pos x (show 0 < n by omega)
  split
  · omega
  · split <;> omega
set_option maxHeartbeats 400000 in
theorem below_any (x n : Int) (w : World) (h1 : 1 ≤ n) (h2 : n ≤ 9223372036854775807) :
    Calls Tryz.prog 69 #[.int .i64 x, .int .i64 n] w fun e w' => e = .returned (.int .i64 (BelowOf x n)) ∧ w = w' := by
  have hr := Int.lt_tmod_of_pos x (show 0 < n by omega)
  have hr2 := Int.tmod_lt_of_pos x (show 0 < n by omega)
  go_enter Tryz.func69, Tryz.ntmps69
  go_wp2
  · have h : x.tmod n < 0 := by assumption
    go_ret
    exact ⟨by unfold BelowOf; rw [if_neg (by omega), if_pos h]; rfl, rfl⟩
  · have h : 0 ≤ x.tmod n := by assumption
    go_ret
    exact ⟨by unfold BelowOf; rw [if_neg (by omega), if_neg (by omega)]; rfl, rfl⟩
def SomeBelow (n : Int) (w : World) (e : Ending) (w' : World) : Prop := ∃ r : Int, 0 ≤ r ∧ r < n ∧ e = .returned (.int .i64 r) ∧ w = w'
theorem below_some (x n : Int) (w : World) (h1 : 1 ≤ n) (h2 : n ≤ 9223372036854775807) :
    Calls Tryz.prog 69 #[.int .i64 x, .int .i64 n] w (SomeBelow n w) :=
  (below_any x n w h1 h2).mono fun _ _ ⟨he, hw⟩ => ⟨_, (belowOf_range x n h1).1, (belowOf_range x n h1).2, he, hw⟩
set_option maxHeartbeats 1000000 in
theorem next_any (b M : Nat) (n : Int) (w : World) (hs : IsStream 25 w b M) (hM : M ≤ 4611686018427387904) (h1 : 1 ≤ n) (h2 : n ≤ 9223372036854775807) :
    Calls Tryz.prog 14 #[.pointer (some ⟨b, 0, none⟩), .int .i64 n] w (GoesInt 25 b M 1 (fun r => 0 ≤ r ∧ r < n) w) := by
  obtain ⟨a, len, cap, at_, hh, hat, hlen, hz⟩ := hs
  obtain ⟨c0, c1, f0, f1⟩ := stream_cells hh
  by_cases h0 : len = 0
  · subst h0
    have H := Lib.hid (fun nq => goes_set (nq := nq) hh hat hlen hz)
    clear hh hz
    go_enter Tryz.func14, Tryz.ntmps14
    go_wp2_with fail
    refine (below_some _ _ _ h1 h2).mono ?_
    rintro e w' ⟨r, hr0, hr1, rfl, rfl⟩
    go_wp2_with fail
    go_ret
    exact ⟨r, ⟨hr0, hr1⟩, rfl, H.out 0⟩
  · obtain ⟨⟨xb, xo, xs⟩, rfl, hxb, hxs, hc⟩ := hz (by omega)
    simp only at hxs; subst hxs
    have hlp : 0 < len := by omega
    obtain ⟨z, hzc⟩ := hc (at_ % len) (Nat.mod_lt _ hlp)
    have H := Lib.hid (fun nq => goes_set (nq := nq) hh hat hlen hz)
    have hne : ((len : Int) == 0) = false := by simp; omega
    have hzc' : (w.setCell ⟨b, 1, none⟩ (.int .i64 ((at_ : Int) + 1))).cell? ⟨xb, xo + at_ % len, none⟩ = some (.int .i64 z) := by
      rw [← hzc]; exact World.cell?_of_block (w := w) (Below.heap_setCell _ _ _ _ (by simp only at hxb; show xb ≠ b; omega))
    have hb1 : (0 : Int) ≤ (at_ : Int) % (len : Int) := Int.emod_nonneg _ (by omega)
    have hb2 : (at_ : Int) % (len : Int) < (len : Int) := Int.emod_lt_of_pos _ (by omega)
    have hb3 : ((at_ : Int) % (len : Int)).toNat = at_ % len := by omega
    clear hh hz hc
    go_enter Tryz.func14, Tryz.ntmps14
    go_wp2_with fail
    go_quiet (fail)
    go_wp2_with fail
    go_quiet (fail)
    go_wp2_with fail
    refine (below_some _ _ _ (by omega) (by omega)).mono ?_
    rintro e w' ⟨r, hr0, hr1, rfl, rfl⟩
    go_wp2_with fail
    refine (below_some _ _ _ h1 h2).mono ?_
    rintro e w' ⟨r2, hr0, hr1, rfl, rfl⟩
    go_wp2_with fail
    go_ret
    exact ⟨r2, ⟨hr0, hr1⟩, rfl, H.out _⟩
set_option maxHeartbeats 400000 in
theorem range_any (b M : Nat) (lo hi : Int) (w : World) (hs : IsStream 25 w b M) (hM : M ≤ 4611686018427387904) (h0 : -1000000000000000 ≤ lo) (h1 : lo ≤ hi) (h2 : hi ≤ 1000000000000000) :
    Calls Tryz.prog 20 #[.pointer (some ⟨b, 0, none⟩), .int .i64 lo, .int .i64 hi] w (GoesInt 25 b M 1 (fun r => lo ≤ r ∧ r ≤ hi) w) := by
  go_enter Tryz.func20, Tryz.ntmps20
  go_wp2_with fail
  refine (next_any _ M _ _ hs hM (by omega) (by omega)).mono ?_
  rintro e w' ⟨r, ⟨hr0, hr1⟩, rfl, hg⟩
  go_wp2_with fail
  go_ret
  exact ⟨lo + r, ⟨by omega, by omega⟩, rfl, hg⟩
set_option maxHeartbeats 400000 in
theorem flip_any (b M : Nat) (n : Int) (w : World) (hs : IsStream 25 w b M) (hM : M ≤ 4611686018427387904) (h1 : 1 ≤ n) (h2 : n ≤ 1000000000000000) :
    Calls Tryz.prog 68 #[.pointer (some ⟨b, 0, none⟩), .int .i64 n] w (GoesBool 25 b M 1 w) := by
  go_enter Tryz.func68, Tryz.ntmps68
  go_wp2_with fail
  refine (next_any _ M _ _ hs hM (by omega) (by omega)).mono ?_
  rintro e w' ⟨r, ⟨hr0, hr1⟩, rfl, hg⟩
  go_wp2_with fail
  go_ret
  exact ⟨r == 0, rfl, hg⟩
set_option maxHeartbeats 400000 in
theorem some_any (b M g : Nat) (ss : List ByteArray) (n cap : Nat) (w : World) (t : TypeId) (hs : IsStream 25 w b M) (hM : M ≤ 4611686018427387904) (hn : n = ss.length) (h1 : 1 ≤ n) (h2 : n ≤ 1000000)
    (hg : w.heap[g]? = some (.cells (ss.map Value.string).toArray t (0, 0))) (hgb : g ≠ b) :
    Calls Tryz.prog 67 #[.pointer (some ⟨b, 0, none⟩), .slice (some ⟨g, 0, none⟩) n cap] w (GoesStr 25 b M 1 (fun r => r ∈ ss) w) := by
  have Hn := Lib.hid hn
  clear hn
  go_enter Tryz.func67, Tryz.ntmps67
  go_wp2_with fail
  refine (next_any _ M _ _ hs hM (by omega) (by omega)).mono ?_
  rintro e w' ⟨r, ⟨hr0, hr1⟩, rfl, hgo⟩
  obtain ⟨k, rfl⟩ := Int.eq_ofNat_of_zero_le hr0
  have hk : k < ss.length := by have := Hn.out; omega
  have hc : w'.cell? ⟨g, k, none⟩ = some (.string ss[k]) := by
    have h3 := (hgo.gb.block g (block_lt hg) (fun e => by injection e with e; omega)).trans hg
    simp [World.cell?, h3, hk]
  clear hg
  go_wp2_with fail
  go_ret
  exact ⟨ss[k], List.getElem_mem hk, rfl, hgo⟩
def outsideB (n lo hi : Int) : Bool := decide (n < lo) || decide (hi < n)
set_option maxHeartbeats 400000 in
theorem outside_any (n lo hi : Int) (w : World) :
    Calls Tryz.prog 74 #[.int .i64 n, .int .i64 lo, .int .i64 hi] w fun e w' => e = .returned (.bool (outsideB n lo hi)) ∧ w = w' := by
  by_cases h1 : n < lo
  · go_enter Tryz.func74, Tryz.ntmps74
    go_wp2
    go_ret
    exact ⟨by simp [outsideB, h1], rfl⟩
  · have h1' : decide (n < lo) = false := by simpa using h1
    go_enter Tryz.func74, Tryz.ntmps74
    go_wp2
    go_ret
    exact ⟨by simp [outsideB, h1'], rfl⟩
def keyByte (i n : Nat) : Bool := (decide (97 ≤ n) && decide (n ≤ 122)) || (decide (0 < i) && ((decide (48 ≤ n) && decide (n ≤ 57)) || n == 45 || n == 95))
def keyTo (s : ByteArray) : Nat → Bool
  | 0 => true
  | k + 1 => keyTo s k && keyByte k (s.data.toList.getD k 0).toNat
def keyB (s : ByteArray) : Bool := keyTo s s.size && decide (1 ≤ s.size) && decide (s.size ≤ 40)
theorem keyTo_le (s : ByteArray) {k m : Nat} (h : k ≤ m) (hm : keyTo s m = true) : keyTo s k = true := by
  induction m with
  | zero => obtain rfl : k = 0 := by omega
            rfl
  | succ m ih =>
    by_cases e : k = m + 1
    · rw [e]; exact hm
    · rw [keyTo, Bool.and_eq_true] at hm
      exact ih (by omega) hm.1
theorem keyB_no (s : ByteArray) {k : Nat} (h : k ≤ s.size) (hk : keyTo s k = false) : keyB s = false := by
  have h2 : keyTo s s.size = false := by
    cases h3 : keyTo s s.size with
    | false => rfl
    | true => rw [keyTo_le s h h3] at hk; cases hk
  simp [keyB, h2]
theorem getD_byte (s : ByteArray) (k : Nat) (h : k < s.size) : s.data.toList.getD k 0 = s[k] := by
  have h' : k < s.data.toList.length := h
  simp [List.getD, List.getElem?_eq_getElem h']; rfl
set_option maxRecDepth 100000 in
set_option maxHeartbeats 2000000 in
theorem isKey_any (s : ByteArray) (hsz : s.size ≤ 1000000000000) (w : World) :
    Calls Tryz.prog 151 #[.string s] w fun e w' => e = .returned (.bool (keyB s)) ∧ w = w' := by
  go_enter Tryz.func151, Tryz.ntmps151
  go_wp2_with fail
  go_loopg [3, 4] s.size (fun g i _ wr => ∃ k : Nat, k + g = s.size ∧ i = .int .i64 k ∧ keyTo s k = true ∧ w = wr)
  case atStart => exact ⟨0, by omega, rfl, rfl, rfl⟩
  case round =>
    obtain ⟨k, hk, rfl, hkey, rfl⟩ := hrel
    have HK := Lib.hid hkey
    clear hkey
    by_cases hg : gk = 0
    · obtain rfl : k = s.size := by omega
      by_cases h0 : s.size = 0
      · have e0 : s = ⟨#[]⟩ := by
          obtain ⟨⟨l⟩⟩ := s
          have : l = [] := List.eq_nil_of_length_eq_zero h0
          rw [this]
        subst e0
        go_wp2_with fail
        go_ret
        exact ⟨rfl, rfl⟩
      · have hne : s.toList.isEmpty = false := by
          rw [ByteArray.toList_eq]
          cases hl : s.data.toList with
          | nil => exact absurd (show s.data.toList.length = 0 by rw [hl]; rfl) h0
          | cons _ _ => rfl
        go_wp2_with fail
        go_ret
        refine ⟨?_, rfl⟩
        have e1 : keyB s = decide ((s.size : Int) ≤ 40) := by
          have h1 : decide (1 ≤ s.size) = true := by simp; omega
          rw [keyB, HK.out, h1, Bool.true_and, Bool.true_and, Bool.eq_iff_iff]; simp; omega
        rw [e1]; rfl
    · have hlt : k < s.size := by omega
      have HG := Lib.hid (show keyTo s (k + 1) = (keyTo s k && keyByte k s[k].toNat) by rw [keyTo, getD_byte s k hlt])
      go_upto_region 5 with fail
      generalize s[k].toNat = n at *
      go_cut [40] (fun s40 wx => s40 = .bool (!keyByte k n) ∧ w = wx)
      case first =>
        by_cases c1 : n < 97
        · by_cases ck : k ≤ 0
          · have HV := Lib.hid (show keyByte k n = false by simp [keyByte]; omega)
            go_wp2_with fail
            go_meet
            exact ⟨by rw [HV.out]; first | rfl | (simp; omega), rfl⟩
          · have ck' : 0 < k := by omega
            by_cases c2 : n < 48
            · by_cases c3 : n = 45
              · have b3 : ((n : Int) == 45) = true := by simp; omega
                have HV := Lib.hid (show keyByte k n = true by simp [keyByte]; omega)
                go_wp2_with fail
                go_meet
                exact ⟨by rw [HV.out]; first | rfl | (simp; omega), rfl⟩
              · have b3 : ((n : Int) == 45) = false := by simp; omega
                have b4 : ((n : Int) == 95) = false := by simp; omega
                have HV := Lib.hid (show keyByte k n = false by simp [keyByte]; omega)
                go_wp2_with fail
                go_meet
                exact ⟨by rw [HV.out]; first | rfl | (simp; omega), rfl⟩
            · by_cases c3 : n ≤ 57
              · have HV := Lib.hid (show keyByte k n = true by simp [keyByte]; omega)
                go_wp2_with fail
                go_meet
                exact ⟨by rw [HV.out]; first | rfl | (simp; omega), rfl⟩
              · have b3 : ((n : Int) == 45) = false := by simp; omega
                by_cases c4 : n = 95
                · have b4 : ((n : Int) == 95) = true := by simp; omega
                  have HV := Lib.hid (show keyByte k n = true by simp [keyByte]; omega)
                  go_wp2_with fail
                  go_meet
                  exact ⟨by rw [HV.out]; first | rfl | (simp; omega), rfl⟩
                · have b4 : ((n : Int) == 95) = false := by simp; omega
                  have HV := Lib.hid (show keyByte k n = false by simp [keyByte]; omega)
                  go_wp2_with fail
                  go_meet
                  exact ⟨by rw [HV.out]; first | rfl | (simp; omega), rfl⟩
        · by_cases c2 : n ≤ 122
          · have HV := Lib.hid (show keyByte k n = true by simp [keyByte]; omega)
            go_wp2_with fail
            go_meet
            exact ⟨by rw [HV.out]; first | rfl | (simp; omega), rfl⟩
          · by_cases ck : k ≤ 0
            · have HV := Lib.hid (show keyByte k n = false by simp [keyByte]; omega)
              go_wp2_with fail
              go_meet
              exact ⟨by rw [HV.out]; first | rfl | (simp; omega), rfl⟩
            · have ck' : 0 < k := by omega
              have b3 : ((n : Int) == 45) = false := by simp; omega
              have b4 : ((n : Int) == 95) = false := by simp; omega
              have HV := Lib.hid (show keyByte k n = false by simp [keyByte]; omega)
              go_wp2_with fail
              go_meet
              exact ⟨by rw [HV.out]; first | rfl | (simp; omega), rfl⟩
      case rest =>
        obtain ⟨rfl, rfl⟩ := hcut
        rcases Bool.eq_false_or_eq_true (keyByte k n) with c | c
        · rw [c]
          go_wp2_with fail
          go_roundg (gk - 1)
          case measure => omega
          case rel => exact ⟨k + 1, by omega, by go_num, by rw [HG.out, HK.out, c]; rfl, rfl⟩
        · rw [c]
          go_wp2_with fail
          go_ret
          refine ⟨?_, rfl⟩
          have : keyB s = false := keyB_no s (show k + 1 ≤ s.size by omega) (by rw [HG.out, c, Bool.and_false])
          rw [this]; rfl
theorem dropWhile_nil {α : Type} (p : α → Bool) : ∀ l : List α, (l.dropWhile p).isEmpty = l.all p
  | [] => rfl
  | x :: l => by
    rw [List.dropWhile_cons, List.all_cons]
    cases h : p x with
    | true => simpa using dropWhile_nil p l
    | false => simp
theorem dropWhile_head {α : Type} (p : α → Bool) : ∀ (l : List α) (x : α) (r : List α), l.dropWhile p = x :: r → p x = false
  | [], x, r, h => by simp at h
  | y :: l, x, r, h => by
    rw [List.dropWhile_cons] at h
    cases hy : p y with
    | true => rw [hy] at h; exact dropWhile_head p l x r (by simpa using h)
    | false => rw [hy] at h; simp at h; rw [← h.1]; exact hy
theorem trimS_empty (l cs : List UInt8) : (Lib.trimS l cs).isEmpty = l.all (cs.contains ·) := by
  unfold Lib.trimS Lib.trimLeftS Lib.trimRightS
  rw [dropWhile_nil, List.all_reverse]
  cases h : l.reverse.dropWhile (cs.contains ·) with
  | nil =>
    have := dropWhile_nil (cs.contains ·) l.reverse
    rw [h, List.all_reverse] at this
    rw [← this]; rfl
  | cons x r =>
    have h1 := dropWhile_head _ _ _ _ h
    have h2 := dropWhile_nil (cs.contains ·) l.reverse
    rw [h, List.all_reverse] at h2
    rw [List.all_cons, h1, ← h2]; rfl
theorem mk_toList (l : List UInt8) : (ByteArray.mk l.toArray).toList = l := by rw [ByteArray.toList_eq]
def hexSet : List UInt8 := [48, 49, 50, 51, 52, 53, 54, 55, 56, 57, 97, 98, 99, 100, 101, 102]
def sumB (s : ByteArray) : Bool := ((s.size : Int) == 16) && s.data.toList.all (hexSet.contains ·)
set_option maxRecDepth 100000 in
set_option maxHeartbeats 1000000 in
theorem isSum_any (s : ByteArray) (hsz : s.size ≤ 1000000000000) (w : World) :
    Calls Tryz.prog 175 #[.string s] w fun e w' => e = .returned (.bool (sumB s)) ∧ Below w.heap.size w w' := by
  rcases Bool.eq_false_or_eq_true ((s.size : Int) == 16) with o | o
  · have HV := Lib.hid (show sumB s = s.data.toList.all (hexSet.contains ·) by rw [sumB, o, Bool.true_and])
    have HT := Lib.hid (trimS_empty s.data.toList hexSet)
    go_enter Tryz.func175, Tryz.ntmps175
    go_wp2_with fail
    refine (Any.strings_Trim_laid Tryz.lays160 (by kernel_rfl) s ⟨hexSet.toArray⟩ w (by omega) (by decide) (ascii_of_all (by decide))).mono ?_
    rintro e w1 ⟨rfl, hb⟩
    have hq : (ByteArray.mk (Lib.trimS s.data.toList hexSet).toArray).toList.isEmpty = s.data.toList.all (hexSet.contains ·) := by rw [mk_toList]; exact HT.out
    show _
    generalize ByteArray.mk (Lib.trimS s.data.toList hexSet).toArray = tr at *
    rcases Bool.eq_false_or_eq_true (s.data.toList.all (hexSet.contains ·)) with c | c
    all_goals
      rw [c] at hq HV
      clear c HT
      go_wp2_with fail
      go_ret
      exact ⟨by rw [HV.out]; rfl, hb⟩
  · have HV := Lib.hid (show sumB s = false by rw [sumB, o, Bool.false_and])
    go_enter Tryz.func175, Tryz.ntmps175
    go_wp2_with fail
    go_ret
    exact ⟨by rw [HV.out]; rfl, Below.refl _ _⟩
set_option maxRecDepth 100000 in
set_option maxHeartbeats 1000000 in
theorem SumRight_any (s : ByteArray) (hsz : s.size ≤ 1000000000000) (w : World) :
    Calls Tryz.prog 116 #[.string s] w fun e w' => e = .returned (.bool (sumB s)) ∧ Below w.heap.size w w' := by
  rcases Bool.eq_false_or_eq_true ((s.size : Int) == 16) with o | o
  · have HV := Lib.hid (show sumB s = s.data.toList.all (hexSet.contains ·) by rw [sumB, o, Bool.true_and])
    have HT := Lib.hid (trimS_empty s.data.toList hexSet)
    go_enter Tryz.func116, Tryz.ntmps116
    go_wp2_with fail
    refine (Any.strings_Trim_laid Tryz.lays160 (by kernel_rfl) s ⟨hexSet.toArray⟩ w (by omega) (by decide) (ascii_of_all (by decide))).mono ?_
    rintro e w1 ⟨rfl, hb⟩
    have hq : (ByteArray.mk (Lib.trimS s.data.toList hexSet).toArray).toList.isEmpty = s.data.toList.all (hexSet.contains ·) := by rw [mk_toList]; exact HT.out
    show _
    generalize ByteArray.mk (Lib.trimS s.data.toList hexSet).toArray = tr at *
    rcases Bool.eq_false_or_eq_true (s.data.toList.all (hexSet.contains ·)) with c | c
    all_goals
      rw [c] at hq HV
      clear c HT
      go_wp2_with fail
      go_ret
      exact ⟨by rw [HV.out]; rfl, hb⟩
  · have HV := Lib.hid (show sumB s = false by rw [sumB, o, Bool.false_and])
    go_enter Tryz.func116, Tryz.ntmps116
    go_wp2_with fail
    go_ret
    exact ⟨by rw [HV.out]; rfl, Below.refl _ _⟩
theorem flat2_at {α : Type} (cs : List α) (f : α → List Value) (hf : ∀ c, (f c).length = 2) (k j : Nat) (hk : k < cs.length) (hj : j < 2) : (cs.flatMap f)[k * 2 + j]? = (f cs[k])[j]? := by
  induction cs generalizing k with
  | nil => simp at hk
  | cons c cs ih =>
    cases k with
    | zero => simp only [List.flatMap_cons]; rw [List.getElem?_append_left (by rw [hf]; omega)]; simp
    | succ k =>
      simp only [List.flatMap_cons, List.getElem_cons_succ]
      rw [List.getElem?_append_right (by rw [hf]; omega), hf, ← ih k (by simpa using hk)]
      congr 1; omega
theorem infoByte : (Tryz.prog.info? 5).map (fun i => (i.zero, i.size, i.bytes)) = some (some (.int .u8 0), 1, 1) := by kernel_rfl
theorem sizeBuilder : (Tryz.prog.info? 205).map (·.size) = some 2 := by kernel_rfl
theorem Goes.belowAt {ts : TypeId} {b M k B : Nat} {w w1 w2 : World} (h : Goes ts b M k w w1) (hw : w.heap.size ≤ B) (hb : b < B) (hB : Below B w1 w2) : Goes ts b M k w w2 := by
  obtain ⟨⟨a, len, cap, at_, hh, h1, h2, h3⟩, gb⟩ := h
  have hg : w.grownBy w2 (some b) := ⟨hB.os.trans gb.os, hB.tape.trans gb.tape, hB.output.trans gb.output, Nat.le_trans gb.size hB.size, fun i hi hn => (hB.block i (by omega)).trans (gb.block i hi hn)⟩
  refine ⟨⟨a, len, cap, at_, (hB.block b hb).trans hh, h1, h2, fun h0 => ?_⟩, hg⟩
  obtain ⟨x, hx, hxb, hs, hc⟩ := h3 h0
  refine ⟨x, hx, hxb, hs, fun i hi => ?_⟩
  obtain ⟨z, hz⟩ := hc i hi
  exact ⟨z, (hB.cell (p := ⟨x.block, x.off + i, none⟩) (by show x.block < _; omega)).trans hz⟩
set_option maxRecDepth 100000 in
set_option maxHeartbeats 400000 in
theorem gsum_any (b M : Nat) (w : World) (hs : IsStream 25 w b M) (hM : M ≤ 1000000000000000) :
    Calls Tryz.prog 113 #[.pointer (some ⟨b, 0, none⟩)] w (GoesStr 25 b M 1 (fun r => r.size = 16) w) := by
  have hlt := hs.lt
  go_enter Tryz.func113, Tryz.ntmps113
  go_wp2_with fail
  refine (some_any b M w.heap.size [⟨#[48]⟩, ⟨#[49]⟩, ⟨#[97]⟩, ⟨#[98]⟩, ⟨#[99]⟩, ⟨#[100]⟩, ⟨#[101]⟩, ⟨#[102]⟩] 8 8 _ 9 (hs.alloc _) (by omega) rfl (by omega) (by omega) (heap_alloc_new _ _) (by omega)).mono ?_
  rintro e w1 ⟨r, hr, rfl, hg1⟩
  have hr1 : r.size = 1 := by
    have := List.all_eq_true.1 (show ([⟨#[48]⟩, ⟨#[49]⟩, ⟨#[97]⟩, ⟨#[98]⟩, ⟨#[99]⟩, ⟨#[100]⟩, ⟨#[101]⟩, ⟨#[102]⟩] : List ByteArray).all (fun r => decide (r.size = 1)) = true by decide) r hr
    simpa using this
  have HR := Lib.hid hr1
  clear hr hr1
  go_wp2_with fail
  refine (Tryz.strings_Repeat r 16 _ (by omega) (by rw [HR.out]; omega)).mono ?_
  rintro e w2 ⟨rfl, hb2⟩
  go_wp2_with fail
  go_ret
  refine ⟨_, ?_, rfl, hg1.of_alloc.below hb2⟩
  show (Lib.repeatL r.data.toList 16).toArray.size = 16
  rw [List.size_toArray, Lib.repeatL_length]
  have : r.data.toList.length = 1 := HR.out
  rw [this]
theorem ownsRow_gb {w w' : World} {base size n b : Nat} {e : TypeId} {v : Value} {xs : List Value} (h : w.ownsRow base e size v n xs) (hg : w.grownBy w' (some b)) (hb : b < base) : w'.ownsRow base e size v n xs := by
  obtain ⟨hl, h2⟩ := h
  refine ⟨hl, ?_⟩
  rcases h2 with h2 | ⟨g, cap, cur, hv, hg', hh, r⟩
  · exact .inl h2
  · exact .inr ⟨g, cap, cur, hv, hg', (hg.block g (block_lt hh) (fun e => by injection e with e; omega)).trans hh, r⟩
theorem Goes.grown {ts : TypeId} {b M k : Nat} {w w1 w2 : World} {row : Option Nat} (h : Goes ts b M k w w1) (hg : w1.grownBy w2 row) (hlt : b < w.heap.size) (hr : ∀ x, row = some x → w.heap.size ≤ x) : Goes ts b M k w w2 := by
  have hB : Below w.heap.size w1 w2 := ⟨hg.os, hg.tape, hg.output, hg.size, fun i hi => hg.block i (Nat.lt_of_lt_of_le hi h.gb.size) (fun e => by have := hr i e.symm; omega)⟩
  exact h.belowAt (Nat.le_refl _) hlt hB
def chC (c : ByteArray × Int) : List Value := [.string c.1, .int .i64 c.2]
def okCh (c : ByteArray × Int) : Prop := c.1.size ≤ 16 ∧ -100000000000001 ≤ c.2 ∧ c.2 ≤ 100000000000001
theorem infoCh : (Tryz.prog.info? 122).map (fun i => (i.zero, i.size, i.bytes)) = some (some (.agg #[.string ⟨#[]⟩, .int .i64 0]), 2, 24) := by kernel_rfl
theorem indexByte_le (l : List UInt8) (c : UInt8) : Lib.indexByte l c < l.length := by
  induction l with
  | nil => simp [Lib.indexByte]
  | cons x l ih =>
    unfold Lib.indexByte
    split
    · simp
    · split <;> simp <;> omega
attribute [local go_sem ↓] Go.wp_at_zero Go.wp_at_succ
def fiC (f : ByteArray × Value) : List Value := [.string f.1, f.2]
theorem infoFile : (Tryz.prog.info? 221).map (fun i => (i.zero, i.size, i.bytes)) = some (some (.agg #[.string ⟨#[]⟩, .slice none 0 0]), 2, 40) := by kernel_rfl
def ChWf (w : World) (base lo : Nat) (v : Value) : Prop := ∃ cs : List (ByteArray × Int), lo ≤ cs.length ∧ cs.length ≤ 3 ∧ (∀ c ∈ cs, okCh c) ∧ w.ownsRow base 122 2 v cs.length (cs.flatMap chC)
def FiWf (w : World) (base lo : Nat) (v : Value) (n : Nat) : Prop := ∃ fs : List (ByteArray × Value), fs.length = n ∧ w.ownsRow base 221 2 v n (fs.flatMap fiC) ∧ ∀ f ∈ fs, f.1.size ≤ 16 ∧ ChWf w base lo f.2
theorem ChWf.gb {w w' : World} {base lo b : Nat} {v : Value} (h : ChWf w base lo v) (hg : w.grownBy w' (some b)) (hb : b < base) : ChWf w' base lo v :=
  let ⟨cs, h1, h2, h3, h4⟩ := h; ⟨cs, h1, h2, h3, ownsRow_gb h4 hg hb⟩
theorem ChWf.mono {w : World} {base base' lo : Nat} {v : Value} (h : ChWf w base lo v) (hb : base' ≤ base) : ChWf w base' lo v :=
  let ⟨cs, h1, h2, h3, h4⟩ := h; ⟨cs, h1, h2, h3, ownsRow_base h4 hb⟩
theorem FiWf.gb {w w' : World} {base lo b n : Nat} {v : Value} (h : FiWf w base lo v n) (hg : w.grownBy w' (some b)) (hb : b < base) : FiWf w' base lo v n :=
  let ⟨fs, h1, h2, h3⟩ := h; ⟨fs, h1, ownsRow_gb h2 hg hb, fun f hf => ⟨(h3 f hf).1, (h3 f hf).2.gb hg hb⟩⟩
theorem ChWf.below {w w' : World} {base lo : Nat} {v : Value} (h : ChWf w base lo v) (hb : Below w.heap.size w w') : ChWf w' base lo v :=
  let ⟨cs, h1, h2, h3, h4⟩ := h; ⟨cs, h1, h2, h3, ownsRow_below h4 hb⟩
theorem FiWf.below {w w' : World} {base lo n : Nat} {v : Value} (h : FiWf w base lo v n) (hb : Below w.heap.size w w') : FiWf w' base lo v n :=
  let ⟨fs, h1, h2, h3⟩ := h; ⟨fs, h1, ownsRow_below h2 hb, fun f hf => ⟨(h3 f hf).1, (h3 f hf).2.below hb⟩⟩
theorem ownsRow_ne {w : World} {b1 b2 s1 s2 n1 n2 : Nat} {e1 e2 : TypeId} {v1 v2 : Value} {x1 x2 : List Value} (h1 : w.ownsRow b1 e1 s1 v1 n1 x1) (h2 : w.ownsRow b2 e2 s2 v2 n2 x2) (he : e1 ≠ e2) : v1.ownBlock = none ∨ v1.ownBlock ≠ v2.ownBlock := by
  rcases h1.2 with ⟨rfl, _⟩ | ⟨g1, c1, k1, rfl, _, hh1, _⟩
  · exact .inl rfl
  · rcases h2.2 with ⟨rfl, _⟩ | ⟨g2, c2, k2, rfl, _, hh2, _⟩
    · exact .inr (by simp [Value.ownBlock])
    · refine .inr (fun h => ?_)
      simp only [Value.ownBlock, Option.some.injEq] at h
      subst h
      rw [hh1] at hh2
      injection hh2 with hh2
      injection hh2 with _ ht
      exact he ht
theorem ownsRow_keep {w w' : World} {base size n : Nat} {e : TypeId} {v : Value} {xs : List Value} (h : w.ownsRow base e size v n xs) (hk : ∀ k, base ≤ k → k < w.heap.size → w'.heap[k]? = w.heap[k]?) : w'.ownsRow base e size v n xs := by
  obtain ⟨hl, h2⟩ := h
  refine ⟨hl, ?_⟩
  rcases h2 with h2 | ⟨g, cap, cur, hv, hg', hh, r⟩
  · exact .inl h2
  · exact .inr ⟨g, cap, cur, hv, hg', (hk g hg' (block_lt hh)).trans hh, r⟩
theorem ChWf.keep {w w' : World} {base lo : Nat} {v : Value} (h : ChWf w base lo v) (hk : ∀ k, base ≤ k → k < w.heap.size → w'.heap[k]? = w.heap[k]?) : ChWf w' base lo v :=
  let ⟨cs, h1, h2, h3, h4⟩ := h; ⟨cs, h1, h2, h3, ownsRow_keep h4 hk⟩
theorem FiWf.keep {w w' : World} {base lo n : Nat} {v : Value} (h : FiWf w base lo v n) (hk : ∀ k, base ≤ k → k < w.heap.size → w'.heap[k]? = w.heap[k]?) : FiWf w' base lo v n :=
  let ⟨fs, h1, h2, h3⟩ := h; ⟨fs, h1, ownsRow_keep h2 hk, fun f hf => ⟨(h3 f hf).1, (h3 f hf).2.keep hk⟩⟩
theorem FiWf.mono {w : World} {base base' lo n : Nat} {v : Value} (h : FiWf w base lo v n) (hb : base' ≤ base) : FiWf w base' lo v n :=
  let ⟨fs, h1, h2, h3⟩ := h; ⟨fs, h1, ownsRow_base h2 hb, fun f hf => ⟨(h3 f hf).1, (h3 f hf).2.mono hb⟩⟩
theorem Goes.setCell {ts : TypeId} {b M k : Nat} {w w1 : World} (h : Goes ts b M k w w1) (hlt : b < w.heap.size) {p : Addr} (hp : w.heap.size ≤ p.block) (u : Value) : Goes ts b M k w (w1.setCell p u) :=
  h.belowAt (Nat.le_refl _) hlt ((Below.refl _ _).setCell hp u)
theorem cf_gb {w w' : World} {b : Nat} {p : Addr} {v : Value} (hg : w.grownBy w' (some b)) (hc : w.cell? p = some v) (hf : w.frozen? p = false) (hb : b ≠ p.block) : w'.cell? p = some v ∧ w'.frozen? p = false := by
  have := hg.block p.block (World.block_lt_of_cell? w _ hc) (fun e => by injection e with e; exact hb e.symm)
  exact ⟨(World.cell?_of_block this).trans hc, (World.frozen?_of_block this).trans hf⟩
theorem cf_row {w w' : World} {r : Option Nat} {p : Addr} {v : Value} (hg : w.grownBy w' r) (hc : w.cell? p = some v) (hf : w.frozen? p = false) (hb : some p.block ≠ r) : w'.cell? p = some v ∧ w'.frozen? p = false := by
  have := hg.block p.block (World.block_lt_of_cell? w _ hc) hb
  exact ⟨(World.cell?_of_block this).trans hc, (World.frozen?_of_block this).trans hf⟩
theorem fi_one {w : World} {base n size : Nat} {e : TypeId} {v : Value} {xs : List Value} {key : ByteArray} (h : w.ownsRow base e size v n xs) : ∀ u ∈ [Value.string key, v], u.oneCell' = true := by
  intro u hu
  simp at hu
  rcases hu with rfl | rfl
  · rfl
  · rcases h.2 with ⟨rfl, _⟩ | ⟨g, cap, cur, rfl, _⟩ <;> rfl
theorem own_form {w : World} {base n size : Nat} {e : TypeId} {v : Value} {xs : List Value} (h : w.ownsRow base e size v n xs) : ∃ A m c, v = .slice A m c := by
  rcases h.2 with ⟨rfl, _⟩ | ⟨g, cap, cur, rfl, _⟩
  · exact ⟨_, _, _, rfl⟩
  · exact ⟨_, _, _, rfl⟩
theorem cf_alloc {w : World} {o : Obj} {p : Addr} {v : Value} (hc : w.cell? p = some v) (hf : w.frozen? p = false) : (w.alloc o).cell? p = some v ∧ (w.alloc o).frozen? p = false := by
  have := Below.heap_alloc w o p.block (World.block_lt_of_cell? w _ hc)
  exact ⟨(World.cell?_of_block this).trans hc, (World.frozen?_of_block this).trans hf⟩
theorem own_ne {w : World} {base n size g : Nat} {e : TypeId} {v : Value} {xs : List Value} (h : w.ownsRow base e size v n xs) (hb : g < base) : some g ≠ v.ownBlock := by
  intro hh
  have := (h.lt g hh.symm).1
  omega
theorem heap_new_at {w : World} {k : Nat} (h : k = w.heap.size) (o : Obj) : (w.alloc o).heap[k]? = some o := by rw [h]; exact heap_alloc_new w o
open Go.RowKit Go.Maps Go.WideMaps
abbrev ChunkD := ByteArray × Int
abbrev FileD := ByteArray × List ChunkD
theorem flat2_len {α : Type} (cs : List α) (f : α → List Value) (hf : ∀ c, (f c).length = 2) : (cs.flatMap f).length = cs.length * 2 := by
  induction cs with
  | nil => rfl
  | cons p ps ih => rw [List.flatMap_cons, List.length_append, ih, hf, List.length_cons]; omega
def FilesAt (w : World) (lo : Nat) (v : Value) (fs : List FileD) : Prop :=
  ∃ ps : List (ByteArray × Value), Lst w lo 2 v (ps.flatMap fiC) ∧ ps.length = fs.length ∧ ∀ i (h : i < fs.length), ∃ u, ps[i]? = some (fs[i].1, u) ∧ Lst w lo 2 u (fs[i].2.flatMap chC)
theorem FilesAt.keep {w w' : World} {lo : Nat} {v : Value} {fs : List FileD} (h : FilesAt w lo v fs) (hs : w.heap.size ≤ w'.heap.size)
    (hk : ∀ k, lo ≤ k → k < w.heap.size → w'.heap[k]? = w.heap[k]?) : FilesAt w' lo v fs :=
  let ⟨ps, h1, h2, h3⟩ := h; ⟨ps, h1.keep hs hk, h2, fun i hi => let ⟨u, a, b⟩ := h3 i hi; ⟨u, a, b.keep hs hk⟩⟩
theorem FilesAt.below {w w' : World} {lo : Nat} {v : Value} {fs : List FileD} (h : FilesAt w lo v fs) (hb : Below w.heap.size w w') : FilesAt w' lo v fs :=
  h.keep hb.size fun k _ hk => hb.block k hk
theorem FilesAt.grown {w w' : World} {lo b : Nat} {v : Value} {fs : List FileD} (h : FilesAt w lo v fs) (hg : w.grownBy w' (some b)) (hb : b < lo) : FilesAt w' lo v fs :=
  h.keep hg.size fun k hk hlt => hg.block k hlt (fun e => by injection e with e; omega)
theorem FilesAt.mono {w : World} {lo lo' : Nat} {v : Value} {fs : List FileD} (h : FilesAt w lo v fs) (hl : lo' ≤ lo) : FilesAt w lo' v fs :=
  let ⟨ps, h1, h2, h3⟩ := h; ⟨ps, h1.mono hl, h2, fun i hi => let ⟨u, a, b⟩ := h3 i hi; ⟨u, a, b.mono hl⟩⟩
theorem FilesAt.form {w : World} {lo : Nat} {v : Value} {fs : List FileD} (h : FilesAt w lo v fs) : ∃ A c, v = .slice A fs.length c := by
  obtain ⟨ps, h1, h2, _⟩ := h
  obtain ⟨A, n, c, rfl, _, _, hx⟩ := h1.form
  have := flat2_len ps fiC (fun _ => rfl)
  exact ⟨A, c, by rw [show n = fs.length by omega]⟩
theorem FilesAt.at_ {w : World} {lo n c : Nat} {A : Option Addr} {fs : List FileD} (h : FilesAt w lo (.slice A n c) fs) {i : Nat} (hi : i < fs.length) :
    ∃ g o B m d, A = some ⟨g, o, none⟩ ∧ g < w.heap.size ∧ w.cell? ⟨g, o + i * 2, none⟩ = some (.string fs[i].1) ∧ w.cell? ⟨g, o + i * 2 + 1, none⟩ = some (.slice B m d) ∧ m = fs[i].2.length ∧ Lst w lo 2 (.slice B m d) (fs[i].2.flatMap chC) := by
  have hf := h.form
  obtain ⟨A', c', e⟩ := hf
  simp only [Value.slice.injEq] at e
  obtain ⟨rfl, rfl, rfl⟩ := e
  obtain ⟨ps, h1, h2, h3⟩ := h
  obtain ⟨u, hu, hl⟩ := h3 i hi
  obtain ⟨g, o, rfl, _, hg, hc⟩ := h1.open_ (by omega)
  have hip : i < ps.length := by omega
  have hpi : ps[i] = (fs[i].1, u) := by rw [List.getElem?_eq_getElem hip] at hu; simpa using hu
  have a0 := hc (i * 2 + 0) (.string fs[i].1) (by rw [flat2_at _ _ (fun _ => rfl) i 0 hip (by omega), hpi]; rfl)
  have a1 := hc (i * 2 + 1) u (by rw [flat2_at _ _ (fun _ => rfl) i 1 hip (by omega), hpi]; rfl)
  obtain ⟨B, m, d, rfl, _, _, hx⟩ := hl.form
  have := flat2_len fs[i].2 chC (fun _ => rfl)
  exact ⟨g, o, B, m, d, rfl, hg, by simpa using a0, by rw [Nat.add_assoc]; exact a1, by omega, hl⟩
theorem Lst.chunk {w : World} {lo n c : Nat} {A : Option Addr} {cs : List ChunkD} (h : Lst w lo 2 (.slice A n c) (cs.flatMap chC)) {j : Nat} (hj : j < cs.length) (hn : n = cs.length) :
    ∃ g o, A = some ⟨g, o, none⟩ ∧ g < w.heap.size ∧ w.cell? ⟨g, o + j * 2, none⟩ = some (.string cs[j].1) ∧ w.cell? ⟨g, o + j * 2 + 1, none⟩ = some (.int .i64 cs[j].2) := by
  obtain ⟨g, o, rfl, _, hg, hc⟩ := h.open_ (by omega)
  have a0 := hc (j * 2 + 0) (.string cs[j].1) (by rw [flat2_at _ _ (fun _ => rfl) j 0 hj (by omega)]; rfl)
  have a1 := hc (j * 2 + 1) (.int .i64 cs[j].2) (by rw [flat2_at _ _ (fun _ => rfl) j 1 hj (by omega)]; rfl)
  exact ⟨g, o, rfl, hg, by simpa using a0, by rw [Nat.add_assoc]; exact a1⟩
def firstTo (f : Nat → Int) : Nat → Int
  | 0 => 0
  | k + 1 => if firstTo f k = 0 then f k else firstTo f k
theorem firstTo_le {f : Nat → Int} {k n : Nat} (h : k ≤ n) (h0 : firstTo f k ≠ 0) : firstTo f n = firstTo f k := by
  induction n with
  | zero => rw [show k = 0 by omega]
  | succ n ih =>
    by_cases e : k = n + 1
    · rw [e]
    · have := ih (by omega)
      rw [firstTo, this, if_neg h0]
theorem firstTo_at {f : Nat → Int} {k n : Nat} (h : k < n) (h0 : firstTo f k = 0) (hf : f k ≠ 0) : firstTo f n = f k := by
  have e : firstTo f (k + 1) = f k := by rw [firstTo, if_pos h0]
  rw [firstTo_le (k := k + 1) h (by rw [e]; exact hf), e]
theorem firstTo_succ {f : Nat → Int} {k : Nat} (h0 : firstTo f k = 0) (hf : f k = 0) : firstTo f (k + 1) = 0 := by rw [firstTo, if_pos h0, hf]
def chF (c : ChunkD) : Int := if sumB c.1 then (if outsideB c.2 1 1000000000000 then 1 else 0) else 3
def chsF (cs : List ChunkD) : Nat → Int := fun j => chF (cs.getD j (⟨#[]⟩, 0))
def keyLe (a b : ByteArray) : Bool := Op.bytesLess a.toList b.toList || a.toList == b.toList
def fAt (fs : List FileD) (i : Nat) : FileD := fs.getD i (⟨#[]⟩, [])
def fiF (fs : List FileD) (i : Nat) : Int :=
  if keyB (fAt fs i).1 then (if decide (0 < i) && keyLe (fAt fs i).1 (fAt fs (i - 1)).1 then 7 else if (fAt fs i).2.length = 0 then 8 else firstTo (chsF (fAt fs i).2) (fAt fs i).2.length) else 5
def litS (s : ByteArray) : Lit := .string s.data.toList
def i64D (z : Int) : DataW Unit := .lit (.int .i64 z)
def dInt : DataW Unit → Int
  | .lit (.int _ a) => a
  | _ => 0
def mStep (D : Option (DataW Unit)) (c : ChunkD) : Option (DataW Unit) :=
  match D with
  | none => none
  | some D => if Maps.has D (litS c.1) && (dInt (D.atKey (litS c.1) (i64D 0)) != c.2) then none else some (D.put (litS c.1) (i64D c.2))
def mAll (cs : List ChunkD) : Option (DataW Unit) := cs.foldl mStep (some (.map []))
theorem mStep_none : ∀ cs : List ChunkD, cs.foldl mStep none = none
  | [] => rfl
  | c :: cs => by rw [List.foldl_cons]; exact mStep_none cs
def chunksTo (fs : List FileD) (k : Nat) : List ChunkD := (fs.take k).flatMap (·.2)
theorem chunksTo_succ (fs : List FileD) (k : Nat) (h : k < fs.length) : chunksTo fs (k + 1) = chunksTo fs k ++ fs[k].2 := by
  unfold chunksTo
  rw [List.take_succ_eq_append_getElem h, List.flatMap_append, List.flatMap_cons, List.flatMap_nil, List.append_nil]
theorem mAll_stop {a b c : List ChunkD} (h : mAll a = none) (e : c = a ++ b) : mAll c = none := by
  rw [e, mAll, List.foldl_append]
  unfold mAll at h
  rw [h]; exact mStep_none b
theorem mAll_no (fs : List FileD) {k j : Nat} (hk : k < fs.length) (hj : j < fs[k].2.length) {D : DataW Unit} (h : mAll (chunksTo fs k ++ fs[k].2.take j) = some D) (h1 : mStep (some D) fs[k].2[j] = none) : mAll (chunksTo fs fs.length) = none := by
  have e1 : mAll (chunksTo fs k ++ fs[k].2.take (j + 1)) = none := by
    rw [List.take_succ_eq_append_getElem hj, ← List.append_assoc, mAll, List.foldl_append]
    unfold mAll at h
    rw [h]; simpa using h1
  refine mAll_stop e1 (b := fs[k].2.drop (j + 1) ++ (fs.drop (k + 1)).flatMap (·.2)) ?_
  unfold chunksTo
  rw [List.take_length]
  have e2 : fs.flatMap (·.2) = (fs.take k ++ (fs[k] :: fs.drop (k + 1))).flatMap (·.2) := by rw [← List.drop_eq_getElem_cons hk, List.take_append_drop]
  have e3 : fs[k].2 = fs[k].2.take (j + 1) ++ fs[k].2.drop (j + 1) := (List.take_append_drop _ _).symm
  rw [e2, List.flatMap_append, List.flatMap_cons]
  generalize fs[k].2.take (j + 1) = a at *
  generalize fs[k].2.drop (j + 1) = b at *
  rw [e3]
  simp only [List.append_assoc]
theorem mAll_snoc (fs : List FileD) {k j : Nat} (hk : k < fs.length) (hj : j < fs[k].2.length) {D D' : DataW Unit} (h : mAll (chunksTo fs k ++ fs[k].2.take j) = some D) (h1 : mStep (some D) fs[k].2[j] = some D') : mAll (chunksTo fs k ++ fs[k].2.take (j + 1)) = some D' := by
  rw [List.take_succ_eq_append_getElem hj, ← List.append_assoc, mAll, List.foldl_append]
  unfold mAll at h
  rw [h]; simpa using h1
def sizeF (n : Int) : Int := if 2000 < n then 2 else 0
def mapF : Option (DataW Unit) → Int
  | none => 13
  | some D => sizeF (Maps.size D)
def filesF (fs : List FileD) : Int :=
  if 300 < fs.length then 2 else if firstTo (fiF fs) fs.length = 0 then mapF (mAll (chunksTo fs fs.length)) else firstTo (fiF fs) fs.length
theorem wf64 {z : Int} (h0 : -9223372036854775808 ≤ z) (h1 : z ≤ 9223372036854775807) : (Lit.int .i64 z).wf = true := by
  have a : IntKind.i64.min = -9223372036854775808 := by decide
  have b : IntKind.i64.max = 9223372036854775807 := by decide
  simp [Lit.wf, a, b, h0, h1]
def FilesOk (fs : List FileD) : Prop := (∀ f ∈ fs, f.1.size ≤ 1000000000000 ∧ f.2.length ≤ 1000000000 ∧ ∀ c ∈ f.2, c.1.size ≤ 1000000000000 ∧ -1000000000000000 ≤ c.2 ∧ c.2 ≤ 1000000000000000)
set_option maxRecDepth 100000 in
theorem chunksTo_len (fs : List FileD) (h : FilesOk fs) : ∀ k, (chunksTo fs k).length ≤ k * 1000000000 := by
  intro k
  induction k with
  | zero => simp [chunksTo]
  | succ k ih =>
    by_cases hk : k < fs.length
    · have := (h _ (List.getElem_mem hk)).2.1
      rw [chunksTo_succ fs k hk, List.length_append]
      omega
    · have e : chunksTo fs (k + 1) = chunksTo fs k := by
        unfold chunksTo
        rw [List.take_of_length_le (l := fs) (i := k + 1) (by omega), List.take_of_length_le (l := fs) (i := k) (by omega)]
      rw [e]
      exact Nat.le_trans ih (Nat.mul_le_mul_right _ (Nat.le_succ k))
theorem bon {a b c : World} (h : Below a.heap.size a b) (k : Below b.heap.size b c) : Below a.heap.size a c := h.trans (k.mono h.size)
theorem bbox {a b : World} (h : Below a.heap.size a b) (o : Obj) : Below a.heap.size a (b.alloc o) := h.alloc h.size o
theorem bfirst (a : World) (o : Obj) : Below a.heap.size a (a.alloc o) := (Below.refl _ _).alloc (Nat.le_refl _) o
theorem blt {a b : World} {o : Obj} (k : Below (a.alloc o).heap.size (a.alloc o) b) : a.heap.size < b.heap.size := by have := k.size; simp at this; omega
theorem bboxed {a b : World} {cs : Array Value} {t : TypeId} (k : Below (a.alloc (.cells cs t)).heap.size (a.alloc (.cells cs t)) b) (i : Nat) (v : Value) (h : cs[i]? = some v) : b.cell? ⟨a.heap.size, i, none⟩ = some v :=
  (k.cell (p := ⟨a.heap.size, i, none⟩) (by simp)).trans (cell_new_list a cs t i v h)
theorem bold {a b : World} (k : Below a.heap.size a b) {p : Addr} {v : Value} (h : a.cell? p = some v) : b.cell? p = some v :=
  (k.cell (World.block_lt_of_cell? a _ h)).trans h
theorem own_cells {w : World} {base e size n c : Nat} {g : Nat} {xs : List Value} (h : w.ownsRow base e size (.slice (some ⟨g, 0, none⟩) n c) n xs) : ∀ j u, xs[j]? = some u → w.cell? ((⟨g, 0, none⟩ : Addr).add j) = some u := by
  intro j u hu
  rcases h.2 with ⟨h0, _⟩ | ⟨g', cap, cur, hv, _, hh, _, _, _, hx⟩
  · cases h0
  · simp only [Value.slice.injEq, Option.some.injEq, Addr.mk.injEq] at hv
    obtain ⟨⟨rfl, _, _⟩, _, _⟩ := hv
    have e : (⟨g, 0, none⟩ : Addr).add j = ⟨g, j, none⟩ := by unfold Addr.add; split <;> simp_all
    rw [e]
    have hcur : cur[j]? = some u := by
      rw [← hx, List.getElem?_take] at hu
      split at hu
      · simpa using hu
      · cases hu
    simp [World.cell?, hh, hcur]
theorem own_nil_or {w : World} {base e size n : Nat} {v : Value} {xs : List Value} (h : w.ownsRow base e size v n xs) : (v = .slice none 0 0 ∧ n = 0 ∧ xs = []) ∨ ∃ g c, v = .slice (some ⟨g, 0, none⟩) n c := by
  rcases h.2 with ⟨rfl, rfl⟩ | ⟨g, cap, cur, rfl, _⟩
  · exact .inl ⟨rfl, rfl, List.eq_nil_of_length_eq_zero (by simpa using h.1)⟩
  · exact .inr ⟨g, cap, rfl⟩
theorem wpList_push {P : Program} {ops : Array Oper} {rest : List Oper} {o : Oper} {a : Act} {Q : Exit → Act → World → Prop} {W w0 w1 : World} {lo : Nat} (hgd : o.guard = none) (s x : Operand) (t : TypeId)
    (ho : o.op = .call { callee := .builtin .append, args := #[s, x], argTypes := #[t, t] })
    (e : TypeId) (i : TypeInfo) (z : Value) (size bytes : Nat) (ht : P.underlying t = some (.slice e)) (hi : P.info? e = some i) (hz : i.zero = some z)
    (hsize : i.size = size) (hby : i.bytes = bytes) (hzs : z.cells.size = size) (hsz : 0 < size) (hb64 : bytes ≤ 100)
    (v : Value) (n : Nat) (xs : List Value) (hs : a.eval s = v) (hB : Below lo W w0) (hlo : lo ≤ w0.heap.size) (hown : w0.ownsRow lo e size v n xs)
    (news : List Value) (hw1 : w1 = w0.alloc (.cells news.toArray e)) (hx : a.eval x = .slice (some ⟨w0.heap.size, 0, none⟩) 1 1) (hl : news.length = size) (h1 : news.all (·.oneCell') = true) (hn : n ≤ 1000000000000)
    (h : ∀ v' w', w'.ownsRow lo e size v' (n + 1) (xs ++ news) → Below lo W w' → w0.heap.size < w'.heap.size → w0.grownBy w' v.ownBlock → wpList P ops Q rest (a.put o.dst v') w') :
    wpList P ops Q (o :: rest) a w1 := by
  subst hw1
  refine wpList_append_own _ hgd s x t ho lo e i z size bytes ht hi hz hsize hby hzs hsz v n xs hs (hown.alloc _) ⟨w0.heap.size, 0, none⟩ 1 1 news hx (by omega) (cells_new w0 news e)
    (fun u hu => List.all_eq_true.1 h1 u hu) (by unfold maxLen; omega) (Nat.le_trans (Nat.mul_le_mul (show n + 1 ≤ 1000000000001 by omega) hb64) (by decide)) (by simp; omega) ?_
  intro v' w' hown' hgrow _
  refine h v' w' hown' ((hB.alloc hlo _).grown hgrow (by simp; omega) (fun x hx => (hown.lt x hx).1)) (by have := hgrow.size; simp at this; omega) ?_
  exact ⟨hgrow.os, hgrow.tape, hgrow.output, by have := hgrow.size; simp at this; omega, fun k hk hne => (hgrow.block k (by simp; omega) hne).trans (Below.heap_alloc w0 _ k hk)⟩
def hasS (S : List ByteArray) (s : ByteArray) : Bool := S.any fun t => t.toList == s.toList
theorem hasS_cons (t s : ByteArray) (S : List ByteArray) : hasS (t :: S) s = (t.toList == s.toList || hasS S s) := rfl
theorem hasS_append (S T : List ByteArray) (s : ByteArray) : hasS (S ++ T) s = (hasS S s || hasS T s) := List.any_append
theorem ba_ext {a b : ByteArray} (h : a.toList = b.toList) : a = b := by
  rw [ByteArray.toList_eq, ByteArray.toList_eq] at h
  exact ByteArray.ext (Array.ext' h)
theorem keyed_str : Keyed Tryz.prog 9 := string_keyed Tryz.underlying9
theorem zero_bool (w : World) : (zeroValue 4).run Tryz.prog w = .ok (.bool false) w := by kernel_rfl
def IsSet (w : World) (b n : Nat) (S : List ByteArray) : Prop :=
  ∃ D : DataW Unit, w.ownsMap Tryz.prog 9 (plainElem Tryz.prog 4) b n D ∧ ∀ s : ByteArray, D.atKey (litS s) (.lit (.bool false)) = .lit (.bool (hasS S s))
theorem IsSet.new (w : World) : IsSet (w.alloc (.map #[] 0)) w.heap.size 0 [] := ⟨.map [], World.ownsMap_made _ _ _ _, fun _ => rfl⟩
theorem IsSet.lt {w : World} {b n : Nat} {S : List ByteArray} (h : IsSet w b n S) : b < w.heap.size := let ⟨_, h1, _⟩ := h; h1.lt
theorem IsSet.kept {w w' : World} {b n : Nat} {row : Option Nat} {S : List ByteArray} (h : IsSet w b n S) (hg : w.grownBy w' row) (hne : some b ≠ row) : IsSet w' b n S := let ⟨D, h1, h2⟩ := h; ⟨D, h1.kept hg hne, h2⟩
theorem IsSet.alloc {w : World} {b n : Nat} {S : List ByteArray} (h : IsSet w b n S) (o : Obj) : IsSet (w.alloc o) b n S := let ⟨D, h1, h2⟩ := h; ⟨D, h1.alloc o, h2⟩
theorem IsSet.below {w w' : World} {b n : Nat} {S : List ByteArray} (h : IsSet w b n S) (hb : Below w.heap.size w w') : IsSet w' b n S := h.kept (gb_below hb none) (by simp)
theorem IsSet.drewN {w : World} {b n : Nat} {S : List ByteArray} (h : IsSet w b n S) (q : Nat) : IsSet (w.drewN q) b n S := h
theorem IsSet.mono {w : World} {b n n' : Nat} {S : List ByteArray} (h : IsSet w b n S) (hn : n ≤ n') : IsSet w b n' S := let ⟨D, h1, h2⟩ := h; ⟨D, h1.mono hn, h2⟩
theorem litS_inj {s t : ByteArray} (h : litS s = litS t) : s = t := by
  unfold litS at h
  injection h with h
  exact ByteArray.ext (Array.ext' h)
theorem keyOf_str {s : ByteArray} (hs : s.size ≤ 1000000000000) : keyOf Tryz.prog 9 (.string s) = some (litS s) := keyOf_string_mk Tryz.underlying9 (by unfold maxLen; omega)
theorem plainElem_bool_inv {H : Type} {P : Program} {e : TypeId} (he : P.underlying e = some .bool) {v : Value} {z : DataW H × List MemPlace} (h : plainElem P e v = some z) : ∃ x, v = .bool x ∧ z = (.lit (.bool x), []) := by
  unfold plainElem at h
  rw [he] at h
  cases v <;> simp at h
  exact ⟨_, rfl, h.symm⟩
theorem IsSet.look {w : World} {b n : Nat} {S : List ByteArray} (h : IsSet w b n S) {s : ByteArray} (hs : s.size ≤ 1000000000000) : (Instr.lookup 183 (.map (some b)) (.string s) false).run Tryz.prog w = .ok (.bool (hasS S s)) w := by
  obtain ⟨D, h1, h2⟩ := h
  obtain ⟨v, ps, hrun, hv⟩ := h1.lookup keyed_str Tryz.underlying183 (zero_bool w) (plainElem_bool Tryz.underlying4 false) (keyOf_str hs)
  obtain ⟨x, rfl, hx⟩ := plainElem_bool_inv Tryz.underlying4 hv
  rw [h2 s] at hx
  simp only [Prod.mk.injEq, DataW.lit.injEq, Lit.bool.injEq] at hx
  rw [hrun, ← hx.1]
theorem wpList_lookup_set {w : World} {ops : Array Oper} {rest : List Oper} {o : Oper} {a : Act} {Q : Exit → Act → World → Prop}
    (hg : o.guard = none) (m x : Operand) (hop : o.op = Op.lookup 183 m x false) (b n : Nat) (S : List ByteArray) (s : ByteArray) (hm : a.eval m = .map (some b)) (hown : IsSet w b n S) (hx : a.eval x = .string s) (hs : s.size ≤ 1000000000000)
    (hK : wpList Tryz.prog ops Q rest (a.put o.dst (.bool (hasS S s))) w) : wpList Tryz.prog ops Q (o :: rest) a w := by
  refine wpList_plain hg fun K' hK' => ?_
  unfold Oper.wp
  simp [execOp, hop, hm, hx, hown.look hs, Result.andThen]
  exact hK' _ _ hK
theorem wpList_update_set {w : World} {ops : Array Oper} {rest : List Oper} {o : Oper} {a : Act} {Q : Exit → Act → World → Prop}
    (hg : o.guard = none) (m x v : Operand) (hop : o.op = Op.mapUpdate 183 m x v) (b n : Nat) (S : List ByteArray) (s : ByteArray) (hm : a.eval m = .map (some b)) (hown : IsSet w b n S) (hx : a.eval x = .string s) (hv : a.eval v = .bool true) (hs : s.size ≤ 1000000000000) (hn : n ≤ 1000000000000)
    (hK : ∀ w', IsSet w' b (n + 1) (s :: S) → w.grownBy w' (some b) → wpList Tryz.prog ops Q rest (a.put o.dst undef) w') : wpList Tryz.prog ops Q (o :: rest) a w := by
  obtain ⟨D, h1, h2⟩ := hown
  refine wpList_mapUpdate_own w hg m x v 183 hop 9 4 keyed_str Tryz.underlying183 _ b n D hm h1 (by unfold maxLen; omega) _ _ (litS s) hx hv (keyOf_str hs) (.lit (.bool true)) [] (plainElem_bool Tryz.underlying4 true) ?_
  intro w' hown' hgrow
  refine hK w' ⟨_, hown', fun t => ?_⟩ hgrow
  by_cases e : litS t = litS s
  · obtain rfl := litS_inj e
    rw [atKey_put_same h1.isMap (by exact trivial)]
    simp [hasS]
  · rw [atKey_put_other e, h2 t]
    have : (s.toList == t.toList) = false := beq_eq_false_iff_ne.2 fun h => e (by rw [ba_ext h])
    rw [hasS_cons, this, Bool.false_or]
theorem fAt_eq (fs : List FileD) {k : Nat} (h : k < fs.length) : fAt fs k = fs[k] := by simp [fAt, List.getD, List.getElem?_eq_getElem h]
theorem ff_no {fs : List FileD} {k : Nat} (hn : fs.length ≤ 300) (hlt : k < fs.length) (h0 : firstTo (fiF fs) k = 0) {x : Int} (hx : fiF fs k = x) (hx0 : x ≠ 0) : filesF fs = x := by
  have e := firstTo_at hlt h0 (by rw [hx]; exact hx0)
  rw [filesF, if_neg (by omega), e, hx, if_neg hx0]
theorem isKey_b (s : ByteArray) (hsz : s.size ≤ 1000000000000) (w : World) : Calls Tryz.prog 151 #[.string s] w fun e w' => e = .returned (.bool (keyB s)) ∧ Below w.heap.size w w' :=
  (isKey_any s hsz w).mono fun _ _ ⟨a, b⟩ => ⟨a, b ▸ Below.refl _ _⟩
theorem law_str : Keyed Tryz.prog 9 := string_keyed Tryz.underlying9
theorem zero_int (w : World) : (zeroValue 3).run Tryz.prog w = .ok (.int .i64 0) w := by kernel_rfl
def FfRel (fs : List FileD) (w : World) (g : Nat) (i : Value) (wr : World) : Prop :=
  ∃ k : Nat, k + g = fs.length ∧ i = .int .i64 k ∧ firstTo (fiF fs) k = 0 ∧ Below w.heap.size w wr
def FcRel (cs : List ChunkD) (w : World) (wb : World) (g : Nat) (i : Value) (wr : World) : Prop :=
  ∃ k : Nat, k + g = cs.length ∧ i = .int .i64 k ∧ firstTo (chsF cs) k = 0 ∧ Below w.heap.size w wr ∧ Below wb.heap.size wb wr
def MfRel (fs : List FileD) (w : World) (mb : Nat) (g : Nat) (i : Value) (wr : World) : Prop :=
  ∃ (k : Nat) (D : DataW Unit), k + g = fs.length ∧ i = .int .i64 k ∧ mAll (chunksTo fs k) = some D ∧ wr.ownsMap Tryz.prog 9 (plainElem Tryz.prog 3) mb (k * 1000000000) D ∧ Below w.heap.size w wr
def McRel (fs : List FileD) (cs : List ChunkD) (q : Nat) (w : World) (mb : Nat) (g : Nat) (i : Value) (wr : World) : Prop :=
  ∃ (k : Nat) (D : DataW Unit), k + g = cs.length ∧ i = .int .i64 k ∧ mAll (chunksTo fs q ++ cs.take k) = some D ∧ wr.ownsMap Tryz.prog 9 (plainElem Tryz.prog 3) mb (q * 1000000000 + k) D ∧ Below w.heap.size w wr
set_option maxRecDepth 100000 in
set_option maxHeartbeats 4000000 in
theorem filesFault_any (A : Option Addr) (lo c : Nat) (fs : List FileD) (w : World) (hf : FilesAt w lo (.slice A fs.length c) fs) (hok : FilesOk fs) (hn : fs.length ≤ 300) :
    Calls Tryz.prog 238 #[.slice A fs.length c] w fun e w' => e = .returned (.int .i64 (filesF fs)) ∧ Below w.heap.size w w' := by
  have hmm := @run_makeMap Tryz.prog
  have HF := Lib.hid hf
  have HOK := Lib.hid hok
  clear hf hok
  go_enter Tryz.func238, Tryz.ntmps238
  go_wp2_with fail
  go_loopg [19, 3, 4, 6, 48] fs.length (fun g i _ _ _ _ wr => FfRel fs w g i wr)
  case atStart => exact ⟨0, by omega, rfl, rfl, Below.refl _ _⟩
  case round =>
    obtain ⟨k, hk, rfl, hz0, hb⟩ := hrel
    by_cases hg : gk = 0
    · obtain rfl : k = fs.length := by omega
      have HW := Lib.hid (show filesF fs = mapF (mAll (chunksTo fs fs.length)) by rw [filesF, if_neg (by omega), if_pos hz0])
      clear hk hz0 hg
      go_wp2_with fail
      have hbz := hb.size
      have hown0 : (wr.alloc (.map #[] 0)).ownsMap Tryz.prog 9 (plainElem (H := Unit) Tryz.prog 3) wr.heap.size 0 (.map []) := World.ownsMap_made _ _ _ _
      have hbA := hb.alloc hbz (.map #[] 0)
      obtain ⟨mb, hmb⟩ : ∃ mb, mb = wr.heap.size := ⟨_, rfl⟩
      rw [← hmb] at hown0 hbz ⊢
      generalize wr.alloc (.map #[] 0) = w0 at *
      clear hb hmb wr
      go_loopg [64, 9, 11, 12, 13, 71] fs.length (fun g i _ _ _ _ _ wr => MfRel fs w mb g i wr)
      case atStart => exact ⟨0, .map [], by omega, rfl, rfl, by simpa using hown0, hbA⟩
      case round =>
        obtain ⟨k, D, hk, rfl, hD, hown, hb⟩ := hrel
        by_cases hg : gk = 0
        · obtain rfl : k = fs.length := by omega
          rw [hD] at HW
          clear hk hD hg
          by_cases hs : (2000 : Int) < (Maps.size D : Int)
          · have HW2 := Lib.hid (show filesF fs = 2 by rw [HW.out, mapF, sizeF, if_pos hs])
            go_wp2_with (at_len; refine wpList_len_own _ rfl _ 415 rfl 9 3 Tryz.underlying415 _ mb _ D rfl hown ?_)
            go_wp2_with fail
            go_ret
            exact ⟨ret_int HW2.out.symm, hb⟩
          · have HW2 := Lib.hid (show filesF fs = 0 by rw [HW.out, mapF, sizeF, if_neg hs])
            go_wp2_with (at_len; refine wpList_len_own _ rfl _ 415 rfl 9 3 Tryz.underlying415 _ mb _ D rfl hown ?_)
            go_wp2_with fail
            go_ret
            exact ⟨ret_int HW2.out.symm, hb⟩
        · have hlt : k < fs.length := by omega
          obtain ⟨g, o, B, m, d, rfl, hgl, cK0, cC0, hm, hL⟩ := HF.out.at_ hlt
          have cK := (hb.cell (p := ⟨g, o + k * 2, none⟩) hgl).trans cK0
          have cC := (hb.cell (p := ⟨g, o + k * 2 + 1, none⟩) hgl).trans cC0
          have HK := Lib.hid hk
          have HD := Lib.hid hD
          have HOW := Lib.hid hown
          have HM := Lib.hid hm
          have HL := Lib.hid hL
          have hgk : gk ≠ 0 := hg
          clear hk hD hm hL hg hown cK0 cC0
          generalize fs[k].1 = key at *
          go_wp2_with fail
          have hcok : ∀ c ∈ fs[k].2, c.1.size ≤ 1000000000000 ∧ -1000000000000000 ≤ c.2 ∧ c.2 ≤ 1000000000000000 := (HOK.out _ (List.getElem_mem hlt)).2.2
          have hclen := (HOK.out _ (List.getElem_mem hlt)).2.1
          have hbz1 := hb.size
          have hb2 := hb.alloc hbz1 (.cells #[.string key, .slice B m d] 221)
          have how2 := HOW.out.alloc (.cells #[.string key, .slice B m d] 221)
          have HNO := Lib.hid (fun j (hj : j < fs[k].2.length) D' h1 h2 => mAll_no fs hlt hj (D := D') h1 h2)
          have HYES := Lib.hid (fun j (hj : j < fs[k].2.length) D1 D2 h1 h2 => mAll_snoc fs hlt hj (D := D1) (D' := D2) h1 h2)
          have HCT := Lib.hid (chunksTo_succ fs k hlt)
          generalize fs[k].2 = cs at *
          have hkn : k ≤ 300 := by omega
          clear cK cC hb
          generalize wr.alloc (.cells #[.string key, .slice B m d] 221) = w2 at *
          generalize wr.heap.size = pb at *
          clear HOW wr
          obtain ⟨gq, rfl⟩ : ∃ gq, gq = gk := ⟨_, rfl⟩
          go_loopg [71, 11, 12, 13] cs.length (fun g i _ _ _ wx => McRel fs cs k w mb g i wx)
          case atStart => exact ⟨0, D, by omega, rfl, by simpa using HD.out, by simpa using how2, hb2⟩
          case round =>
            obtain ⟨j, E, hj, rfl, hE, hown, hb3⟩ := hrel
            have hmc := HM.out
            by_cases hg1 : gk = 0
            · obtain rfl : j = m := by omega
              have HE := Lib.hid (show mAll (chunksTo fs (k + 1)) = some E by rw [HCT.out, ← hE, hmc, List.take_length])
              have how3 := hown.mono (n' := (k + 1) * 1000000000) (by omega)
              have HOW := Lib.hid how3
              clear hown how3 how2 hE hj hmc
              go_wp2_with fail
              go_roundg (gq - 1)
              case measure => omega
              case rel => exact ⟨k + 1, E, by have := HK.out; omega, by go_num, HE.out, HOW.out, hb3⟩
            · have hjl : j < cs.length := by omega
              obtain ⟨g2, o2, rfl, hg2, e0, e1⟩ := HL.out.chunk hjl hmc
              have f0 := (hb3.cell (p := ⟨g2, o2 + j * 2, none⟩) hg2).trans e0
              have f1 := (hb3.cell (p := ⟨g2, o2 + j * 2 + 1, none⟩) hg2).trans e1
              have hcj := hcok _ (List.getElem_mem hjl)
              have HNO' := HNO.out j hjl E hE
              have HYES' := fun D2 => HYES.out j hjl E D2 hE
              have HJ := Lib.hid hj
              have hjm : j < m := by omega
              have hgk1 : gk ≠ 0 := hg1
              have hnm : k * 1000000000 + j < maxLen := by unfold maxLen; omega
              clear hj hmc hg1 e0 e1 how2 hE
              generalize cs[j] = cj at *
              obtain ⟨ck, cz⟩ := cj
              have HN := Lib.hid HNO'
              have HY := Lib.hid HYES'
              have hkey : keyOf Tryz.prog 9 (.string ck) = some (litS ck) := keyOf_string_mk Tryz.underlying9 (by have h : ck.size ≤ 1000000000000 := hcj.1; unfold maxLen; omega)
              have hwz : (Lit.int .i64 cz).wf = true := wf64 (by have h : _ ≤ cz := hcj.2.1; omega) (by have h : cz ≤ _ := hcj.2.2; omega)
              clear HNO' HYES' hcj
              have hbz3 := hb3.size
              have how3 := hown.alloc (.cells #[.string ck, .int .i64 cz] 122)
              clear hown
              go_wp2_with (at_lookup; refine wpList_lookup_own_ok_int _ rfl _ _ 415 rfl 9 3 .i64 law_str Tryz.underlying415 Tryz.underlying3 (zero_int _) mb _ E rfl how3 _ _ rfl hkey ?_)
              intro cL hat hwc
              have hd : dInt (E.atKey (litS ck) (i64D 0)) = cL := by unfold i64D; rw [hat]; rfl
              have HD2 := Lib.hid hd
              clear hat hwc hd
              rcases Bool.eq_false_or_eq_true (Maps.has E (litS ck) && (cL != cz)) with hx | hx
              · have HX := Lib.hid (show filesF fs = 13 by rw [HW.out, HN.out (by simp only [mStep]; rw [HD2.out, hx]; rfl)]; rfl)
                have hx1 := (Bool.and_eq_true _ _ ▸ hx).1
                have hx2 := (Bool.and_eq_true _ _ ▸ hx).2
                rw [hx1]
                go_wp2_with fail
                go_ret
                exact ⟨ret_int HX.out.symm, hb3.alloc hbz3 _⟩
              · have HX := Lib.hid (HY.out (E.put (litS ck) (i64D cz)) (by simp only [mStep]; rw [HD2.out, hx]; rfl))
                rcases Bool.eq_false_or_eq_true (Maps.has E (litS ck)) with hx1 | hx1
                · have hx2 : (cL != cz) = false := by rw [hx1, Bool.true_and] at hx; exact hx
                  clear hx
                  rw [hx1]
                  go_wp2_with (at_mapUpdate; refine wpList_mapUpdate_own _ rfl _ _ _ 415 rfl 9 3 law_str Tryz.underlying415 _ mb _ E rfl how3 hnm _ _ _ rfl rfl hkey (i64D cz) [] (plainElem_int Tryz.underlying3 hwz) ?_)
                  intro w4 how4 hgr4
                  have hb4 : Below w.heap.size w w4 := (hb3.alloc hbz3 _).grown hgr4 (by simp; omega) (fun x hx => by cases hx; exact hbz)
                  have HOW := Lib.hid (how4.mono (n' := k * 1000000000 + (j + 1)) (by omega))
                  clear how3 how4
                  go_wp2_with fail
                  go_roundg (gk - 1)
                  case measure => omega
                  case rel => exact ⟨j + 1, _, by have := HJ.out; omega, by go_num, HX.out, HOW.out, hb4⟩
                · clear hx
                  rw [hx1]
                  go_wp2_with (at_mapUpdate; refine wpList_mapUpdate_own _ rfl _ _ _ 415 rfl 9 3 law_str Tryz.underlying415 _ mb _ E rfl how3 hnm _ _ _ rfl rfl hkey (i64D cz) [] (plainElem_int Tryz.underlying3 hwz) ?_)
                  intro w4 how4 hgr4
                  have hb4 : Below w.heap.size w w4 := (hb3.alloc hbz3 _).grown hgr4 (by simp; omega) (fun x hx => by cases hx; exact hbz)
                  have HOW := Lib.hid (how4.mono (n' := k * 1000000000 + (j + 1)) (by omega))
                  clear how3 how4
                  go_wp2_with fail
                  go_roundg (gk - 1)
                  case measure => omega
                  case rel => exact ⟨j + 1, _, by have := HJ.out; omega, by go_num, HX.out, HOW.out, hb4⟩
    · have hlt : k < fs.length := by omega
      have hf' := HF.out.keep hb.size (fun x _ hx => hb.block x hx)
      obtain ⟨g, o, B, m, d, rfl, hgl, cK, cC, hm, hL⟩ := hf'.at_ hlt
      have HK := Lib.hid hk
      have HZ := Lib.hid hz0
      clear hk hz0
      have HM := Lib.hid hm
      have HL := Lib.hid hL
      have hks : fs[k].1.size ≤ 1000000000000 := (HOK.out _ (List.getElem_mem hlt)).1
      have HA := Lib.hid (fAt_eq fs hlt)
      have hgk : gk ≠ 0 := hg
      clear hm hL hf' hg
      go_wp2_with fail
      generalize hkey : fs[k].1 = key at *
      refine (isKey_b key hks _).mono ?_
      rintro e w1 ⟨rfl, hb1⟩
      have hbz := hb.size
      have hb1z := hb1.size
      have HKEY := Lib.hid hkey
      clear hkey
      rcases Bool.eq_false_or_eq_true (keyB key) with hkb | hkb
      rotate_left
      · have H5 := Lib.hid (ff_no hn hlt HZ.out (x := 5) (by rw [fiF, HA.out, HKEY.out, hkb]; rfl) (by decide))
        rw [hkb]
        go_wp2_with fail
        go_ret
        exact ⟨ret_int H5.out.symm, (hb.alloc hbz _).trans (hb1.mono (by simp; omega))⟩
      · have c0 : w1.cell? ⟨wr.heap.size, 0, none⟩ = some (.string key) := (hb1.cell (p := ⟨wr.heap.size, 0, none⟩) (by simp)).trans (cell_new_list wr _ _ 0 _ rfl)
        have c1 : w1.cell? ⟨wr.heap.size, 1, none⟩ = some (.slice B m d) := (hb1.cell (p := ⟨wr.heap.size, 1, none⟩) (by simp)).trans (cell_new_list wr _ _ 1 _ rfl)
        have hb2 : Below w.heap.size w w1 := (hb.alloc hbz _).trans (hb1.mono (by simp; omega))
        have hl1 : wr.heap.size < w1.heap.size := by simp at hb1z; omega
        have HPREV : Hid (∀ k', k = k' + 1 → w1.cell? ⟨g, o + k' * 2, none⟩ = some (.string (fAt fs k').1)) := fun k' e => by
          subst e
          obtain ⟨g2, o2, _, _, _, e2, _, h2, _⟩ := (HF.out.below hb2).at_ (i := k') (by omega)
          simp only [Option.some.injEq, Addr.mk.injEq] at e2
          obtain ⟨rfl, rfl, _⟩ := e2
          rw [fAt_eq fs (by omega : k' < fs.length)]
          exact h2
        have HLB : Hid (∀ q, Lst (w1.drewN q) lo 2 (.slice B m d) (fs[k].2.flatMap chC)) := fun q =>
          (HL.out.below ((Below.refl _ _).alloc (Nat.le_refl _) _)).below (below_drewN hb1 q)
        clear hb1 cK cC hb1z
        rw [hkb]
        go_upto_region 8 with fail
        go_cut [40] (fun s wx => s = .bool (decide (0 < k) && keyLe key (fAt fs (k - 1)).1) ∧ ∃ q, wx = w1.drewN q)
        case first =>
          rcases k with _ | k'
          · have hd : decide ((0 : Int) < ((0 : Nat) : Int)) = false := by decide
            go_quiet (fail)
            go_wp2_with fail
            go_meet
            exact ⟨rfl, _, rfl⟩
          · have cP := HPREV.out k' rfl
            have hd : decide ((0 : Int) < ((k' + 1 : Nat) : Int)) = true := by simp
            go_quiet (fail)
            go_wp2_with fail
            go_meet
            exact ⟨by simp [keyLe], _, rfl⟩
        case rest =>
          obtain ⟨rfl, q, rfl⟩ := hcut
          have d0 : (w1.drewN q).cell? ⟨wr.heap.size, 0, none⟩ = some (.string key) := c0
          have d1 : (w1.drewN q).cell? ⟨wr.heap.size, 1, none⟩ = some (.slice B m d) := c1
          have hb3 : Below w.heap.size w (w1.drewN q) := below_drewN hb2 q
          have hl2 : wr.heap.size < (w1.drewN q).heap.size := hl1
          have HL1 : Hid (Lst (w1.drewN q) lo 2 (.slice B m d) (fs[k].2.flatMap chC)) := HLB.out q
          have HR := Lib.hid (show fiF fs k = _ by rw [fiF, HA.out, HKEY.out, hkb, if_pos rfl])
          clear HPREV HLB HL c0 c1 hb2 hl1
          generalize w1.drewN q = w2 at *
          clear w1
          rcases Bool.eq_false_or_eq_true (decide (0 < k) && keyLe key (fAt fs (k - 1)).1) with hc | hc
          · have H7 := Lib.hid (ff_no hn hlt HZ.out (x := 7) (by rw [HR.out, hc]; rfl) (by decide))
            rw [hc]
            clear hc HR
            go_wp2_with fail
            go_ret
            exact ⟨ret_int H7.out.symm, hb3⟩
          · rw [hc] at HR ⊢
            clear hc
            rcases Nat.eq_zero_or_pos m with h0 | h0
            · have H8 := Lib.hid (ff_no hn hlt HZ.out (x := 8) (by rw [HR.out, ← HM.out, h0]; rfl) (by decide))
              subst h0
              clear HR
              go_wp2_with fail
              go_ret
              exact ⟨ret_int H8.out.symm, hb3⟩
            · have h0' : ((m : Int) == 0) = false := by simp; omega
              go_wp2_with fail
              have HR2 := Lib.hid (show fiF fs k = firstTo (chsF fs[k].2) fs[k].2.length by rw [HR.out, if_neg (by decide), if_neg (by rw [← HM.out]; omega)])
              clear HR
              have hcok : ∀ c ∈ fs[k].2, c.1.size ≤ 1000000000000 ∧ -1000000000000000 ≤ c.2 ∧ c.2 ≤ 1000000000000000 := (HOK.out _ (List.getElem_mem hlt)).2.2
              have hclen := (HOK.out _ (List.getElem_mem hlt)).2.1
              generalize fs[k].2 = cs at *
              clear hgl hb
              generalize wr.heap.size = pb at *
              clear wr
              obtain ⟨gq, rfl⟩ : ∃ gq, gq = gk := ⟨_, rfl⟩
              go_loopg [48, 6] cs.length (fun g i _ wx => FcRel cs w w2 g i wx)
              case atStart => exact ⟨0, by omega, rfl, rfl, hb3, Below.refl _ _⟩
              case round =>
                obtain ⟨j, hj, rfl, hz1, hb4, hb5⟩ := hrel
                have hmc := HM.out
                by_cases hg1 : gk = 0
                · obtain rfl : j = m := by omega
                  have H0 := Lib.hid (firstTo_succ HZ.out (by rw [HR2.out, ← hmc]; exact hz1))
                  clear hz1 hj hmc
                  go_wp2_with fail
                  go_roundg (gq - 1)
                  case measure => omega
                  case rel => exact ⟨k + 1, by have := HK.out; omega, by go_num, H0.out, hb4⟩
                · have hjl : j < cs.length := by omega
                  obtain ⟨g2, o2, rfl, hg2, e0, e1⟩ := (HL1.out.below hb5).chunk hjl hmc
                  have hcj := hcok _ (List.getElem_mem hjl)
                  have HC := Lib.hid (show chsF cs j = chF cs[j] by simp [chsF, List.getD, List.getElem?_eq_getElem hjl])
                  have HJ := Lib.hid hj
                  have HZ1 := Lib.hid hz1
                  have hjm : j < m := by omega
                  have hgk : gk ≠ 0 := hg1
                  clear hj hz1 hmc hg1
                  go_wp2_with fail
                  generalize hcc : cs[j] = cj at *
                  refine (isSum_any cj.1 hcj.1 _).mono ?_
                  rintro e w3 ⟨rfl, hb6⟩
                  have HCC := Lib.hid hcc
                  have hbz4 := hb4.size
                  have hbz6 := hb6.size
                  have e2 : w3.cell? ⟨wr.heap.size, 1, none⟩ = some (.int .i64 cj.2) := (hb6.cell (p := ⟨wr.heap.size, 1, none⟩) (by simp)).trans (cell_new_list wr _ _ 1 _ rfl)
                  have hb7 : Below w.heap.size w w3 := (hb4.alloc hbz4 _).trans (hb6.mono (by simp; omega))
                  have hb8 : Below w2.heap.size w2 w3 := (hb5.alloc hb5.size _).trans (hb6.mono (by have := hb5.size; simp; omega))
                  have hwl : wr.heap.size < w3.heap.size := by simp at hbz6; omega
                  clear hcc hb6 hb4 hb5 hbz6 hbz4 e0 e1 hg2
                  rcases Bool.eq_false_or_eq_true (sumB cj.1) with hs | hs
                  · rw [hs]
                    go_wp2_with fail
                    refine (outside_any cj.2 1 1000000000000 _).mono ?_
                    rintro e w' ⟨rfl, rfl⟩
                    rcases Bool.eq_false_or_eq_true (outsideB cj.2 1 1000000000000) with ho | ho
                    · have H1 := Lib.hid (ff_no hn hlt HZ.out (x := 1) (by rw [HR2.out, firstTo_at hjl HZ1.out (by rw [HC.out, chF, hs, ho]; decide), HC.out, chF, hs, ho]; rfl) (by decide))
                      rw [ho]
                      go_wp2_with fail
                      go_ret
                      exact ⟨ret_int H1.out.symm, hb7⟩
                    · have H0 := Lib.hid (firstTo_succ HZ1.out (by rw [HC.out, chF, hs, ho]; rfl))
                      rw [ho]
                      go_wp2_with fail
                      go_roundg (gk - 1)
                      case measure => omega
                      case rel => exact ⟨j + 1, by have := HJ.out; omega, by go_num, H0.out, hb7, hb8⟩
                  · have H3 := Lib.hid (ff_no hn hlt HZ.out (x := 3) (by rw [HR2.out, firstTo_at hjl HZ1.out (by rw [HC.out, chF, hs]; simp), HC.out, chF, hs]; rfl) (by decide))
                    rw [hs]
                    go_wp2_with fail
                    go_ret
                    exact ⟨ret_int H3.out.symm, hb7⟩
def Tab (w : World) : Prop := w.cell? ⟨5, 15, none⟩ = some (.int .u8 4)
theorem Tab.below {w w' : World} (h : Tab w) (hb : Below w.heap.size w w') : Tab w' := (hb.cell (p := ⟨5, 15, none⟩) (World.block_lt_of_cell? w _ h)).trans h
theorem Tab.belowAt {w w' : World} {B : Nat} (h : Tab w) (hb : Below B w w') (hB : 5 < B) : Tab w' := (hb.cell (p := ⟨5, 15, none⟩) hB).trans h
theorem Tab.lt {w : World} (h : Tab w) : 5 < w.heap.size := World.block_lt_of_cell? w _ h
def manF (no : Int) (fs : List FileD) : Int := if outsideB no 0 1000000 then 1 else filesF fs
set_option maxRecDepth 100000 in
set_option maxHeartbeats 1000000 in
theorem checkManifest_any (no : Int) (A : Option Addr) (lo c : Nat) (fs : List FileD) (w : World) (hf : FilesAt w lo (.slice A fs.length c) fs) (hok : FilesOk fs) (hn : fs.length ≤ 300) :
    Calls Tryz.prog 174 #[.agg #[.int .i64 no, .slice A fs.length c]] w fun e w' => e = .returned (.int .i64 (manF no fs)) ∧ Below w.heap.size w w' := by
  have HF := Lib.hid hf
  have HOK := Lib.hid hok
  clear hf hok
  rcases Bool.eq_false_or_eq_true (outsideB no 0 1000000) with ho | ho
  · have HV := Lib.hid (show manF no fs = 1 by rw [manF, ho]; rfl)
    go_enter Tryz.func174, Tryz.ntmps174
    go_wp2_with fail
    refine (outside_any no 0 1000000 _).mono ?_
    rintro e w' ⟨rfl, rfl⟩
    rw [ho]
    go_wp2_with fail
    go_ret
    exact ⟨ret_int HV.out.symm, (Below.refl _ _).alloc (Nat.le_refl _) _⟩
  · have HV := Lib.hid (show manF no fs = filesF fs by rw [manF, ho]; rfl)
    go_enter Tryz.func174, Tryz.ntmps174
    go_wp2_with fail
    refine (outside_any no 0 1000000 _).mono ?_
    rintro e w' ⟨rfl, rfl⟩
    rw [ho]
    go_wp2_with fail
    have hb0 : Below w.heap.size w (w.alloc (.cells #[.int .i64 no, .slice A fs.length c] 113)) := (Below.refl _ _).alloc (Nat.le_refl _) _
    refine (filesFault_any A lo c fs _ (HF.out.below hb0) HOK.out hn).mono ?_
    rintro e w1 ⟨rfl, hb1⟩
    go_wp2_with fail
    go_ret
    exact ⟨ret_int HV.out.symm, hb0.trans (hb1.mono (by simp))⟩
def newStep (H : List ByteArray) (out : List ChunkD) (c : ChunkD) : List ChunkD := if hasS (H ++ out.map (·.1)) c.1 then out else out ++ [c]
def newTo (H : List ByteArray) (cs : List ChunkD) : List ChunkD := cs.foldl (newStep H) []
theorem newTo_snoc (H : List ByteArray) (cs : List ChunkD) (c : ChunkD) : newTo H (cs ++ [c]) = newStep H (newTo H cs) c := by unfold newTo; rw [List.foldl_append]; rfl
theorem newStep_len (H : List ByteArray) (out : List ChunkD) (c : ChunkD) : (newStep H out c).length ≤ out.length + 1 := by
  unfold newStep; split
  · omega
  · simp
theorem newTo_len (H : List ByteArray) (cs : List ChunkD) : (newTo H cs).length ≤ cs.length := by
  have : ∀ (cs out : List ChunkD), (cs.foldl (newStep H) out).length ≤ out.length + cs.length := by
    intro cs
    induction cs with
    | nil => intro out; simp
    | cons c cs ih => intro out; have := ih (newStep H out c); have := newStep_len H out c; simp only [List.foldl_cons, List.length_cons]; omega
  have := this cs []
  simpa [newTo] using this
def allC (fs : List FileD) : List ChunkD := chunksTo fs fs.length
theorem infoChunk : (Tryz.prog.info? 122).map (fun i => (i.zero, i.size, i.bytes)) = some (some (.agg #[.string ⟨#[]⟩, .int .i64 0]), 2, 24) := by kernel_rfl
def EoRel (H : List ByteArray) (fs : List FileD) (w : World) (mb base : Nat) (g : Nat) (i out : Value) (wr : World) : Prop :=
  ∃ (k : Nat) (S : List ByteArray), k + g = fs.length ∧ i = .int .i64 k ∧ IsSet wr mb (base + k * 1000000000) S ∧ (∀ s, hasS S s = hasS (H ++ (newTo H (chunksTo fs k)).map (·.1)) s) ∧
    wr.ownsRow w.heap.size 122 2 out (newTo H (chunksTo fs k)).length ((newTo H (chunksTo fs k)).flatMap chC) ∧ Below w.heap.size w wr
def EiRel (H : List ByteArray) (pre cs : List ChunkD) (w : World) (mb base : Nat) (g : Nat) (i out : Value) (wr : World) : Prop :=
  ∃ (k : Nat) (S : List ByteArray), k + g = cs.length ∧ i = .int .i64 k ∧ IsSet wr mb (base + k) S ∧ (∀ s, hasS S s = hasS (H ++ (newTo H (pre ++ cs.take k)).map (·.1)) s) ∧
    wr.ownsRow w.heap.size 122 2 out (newTo H (pre ++ cs.take k)).length ((newTo H (pre ++ cs.take k)).flatMap chC) ∧ Below w.heap.size w wr
theorem own_map_ne {w : World} {base size n mb m : Nat} {e : TypeId} {v : Value} {xs : List Value} {S : List ByteArray} (h : w.ownsRow base e size v n xs) (hs : IsSet w mb m S) : some mb ≠ v.ownBlock := by
  intro hb
  obtain ⟨D, ⟨es, clock, hh, _⟩, _⟩ := hs
  rcases h.2 with ⟨rfl, _⟩ | ⟨g, cap, cur, rfl, _, hh2, _⟩
  · simp [Value.ownBlock] at hb
  · simp [Value.ownBlock] at hb
    subst hb
    rw [hh] at hh2; cases hh2
theorem has_new {H : List ByteArray} {S : List ByteArray} {out : List ChunkD} {c : ChunkD} (h : ∀ s, hasS S s = hasS (H ++ out.map (·.1)) s) (hc : hasS S c.1 = false) : newStep H out c = out ++ [c] ∧ ∀ s, hasS (c.1 :: S) s = hasS (H ++ (newStep H out c).map (·.1)) s := by
  have e : newStep H out c = out ++ [c] := by rw [newStep, ← h, hc]; rfl
  refine ⟨e, fun s => ?_⟩
  rw [e, hasS_cons, h, List.map_append, ← List.append_assoc, hasS_append]
  simp [hasS, Bool.or_comm, Bool.or_left_comm]
theorem has_old {H : List ByteArray} {S : List ByteArray} {out : List ChunkD} {c : ChunkD} (h : ∀ s, hasS S s = hasS (H ++ out.map (·.1)) s) (hc : hasS S c.1 = true) : newStep H out c = out := by rw [newStep, ← h, hc]; rfl
def At2 (w : World) (A : Option Addr) (n : Nat) (x y : Nat → Value) : Prop :=
  ∀ i, i < n → ∃ b o, A = some ⟨b, o, none⟩ ∧ b < w.heap.size ∧ w.cell? ⟨b, o + i * 2, none⟩ = some (x i) ∧ w.cell? ⟨b, o + i * 2 + 1, none⟩ = some (y i)
theorem At2.below {w w' : World} {A : Option Addr} {n : Nat} {x y : Nat → Value} (h : At2 w A n x y) (hb : Below w.heap.size w w') : At2 w' A n x y := fun i hi =>
  let ⟨b, o, e, hl, c0, c1⟩ := h i hi
  ⟨b, o, e, Nat.lt_of_lt_of_le hl hb.size, bold hb c0, bold hb c1⟩
def idxI (p : Nat → Bool) (n : Nat) : Int := match (List.range n).find? p with
  | some i => (i : Int)
  | none => -1
theorem idxI_hit {p : Nat → Bool} {k n : Nat} (hk : k < n) (hp : p k = true) (h : ∀ j, j < k → p j = false) : idxI p n = k := by
  have : (List.range n).find? p = some k := by
    rw [List.find?_eq_some_iff_getElem]
    refine ⟨hp, k, by simpa using hk, by simp, fun j hj => ?_⟩
    simpa using h j hj
  rw [idxI, this]
theorem idxI_miss {p : Nat → Bool} {n : Nat} (h : ∀ j, j < n → p j = false) : idxI p n = -1 := by
  have : (List.range n).find? p = none := by
    rw [List.find?_eq_none]; intro x hx; simpa using h x (by simpa using hx)
  rw [idxI, this]
def anyI (p : Nat → Bool) (n : Nat) : Bool := decide (0 ≤ idxI p n)
def IdxRel (p : Nat → Bool) (n : Nat) (w : World) (g : Nat) (i : Value) (wr : World) : Prop :=
  ∃ k : Nat, k + g = n ∧ i = .int .i64 k ∧ (∀ j, j < k → p j = false) ∧ Below w.heap.size w wr
attribute [local go_sem ↓] Go.wp_at_zero Go.wp_at_succ
theorem own_len {w : World} {base n size m c : Nat} {e : TypeId} {A : Option Addr} {xs : List Value} (h : w.ownsRow base e size (.slice A m c) n xs) : m = n := by
  rcases h.2 with ⟨hv, hn⟩ | ⟨g, cap, cur, hv, _⟩
  · simp at hv; omega
  · simp at hv; omega
structure ManSt (b M : Nat) (w : World) (mb : Nat) (no : Int) (g n c k : Nat) (wx : World) : Prop where
  m : wx.heap[mb]? = some (.cells #[.int .i64 no, .slice (some ⟨g, 0, none⟩) n c] 113 (0, 0))
  r : wx.heap[w.heap.size]? = some (.cells #[.int .i64 0, .slice none 0 0] 113 (0, 0))
  f : FiWf wx (w.heap.size + 1) 1 (.slice (some ⟨g, 0, none⟩) n c) n
  go : Goes 25 b M k w wx
section
variable {b M : Nat} {w : World} {mb : Nat} {no : Int} {g n c k j : Nat} {wA wB : World}
theorem ManSt.below (h : ManSt b M w mb no g n c k wA) (hb : Below wA.heap.size wA wB) : ManSt b M w mb no g n c k wB :=
  ⟨(hb.block _ (block_lt h.m)).trans h.m, (hb.block _ (block_lt h.r)).trans h.r, h.f.below hb, h.go.below hb⟩
theorem ManSt.alloc (h : ManSt b M w mb no g n c k wA) (o : Obj) : ManSt b M w mb no g n c k (wA.alloc o) := h.below ((Below.refl _ _).alloc (Nat.le_refl _) o)
theorem ManSt.drew (h : ManSt b M w mb no g n c k wA) : ManSt b M w mb no g n c k wA.drew := ⟨h.m, h.r, h.f, h.go.is, gb_drew h.go.gb⟩
theorem ManSt.cells (h : ManSt b M w mb no g n c k wA) : wA.cell? ⟨mb, 0, none⟩ = some (.int .i64 no) ∧ wA.cell? ⟨mb, 1, none⟩ = some (.slice (some ⟨g, 0, none⟩) n c) ∧ wA.frozen? ⟨mb, 0, none⟩ = false ∧
    wA.cell? ⟨w.heap.size, 0, none⟩ = some (.int .i64 0) ∧ wA.cell? ⟨w.heap.size, 1, none⟩ = some (.slice none 0 0) ∧ wA.frozen? ⟨w.heap.size, 0, none⟩ = false ∧ wA.frozen? ⟨w.heap.size, 1, none⟩ = false :=
  ⟨(stream_cells h.m).1, (stream_cells h.m).2.1, (stream_cells h.m).2.2.1, (stream_cells h.r).1, (stream_cells h.r).2.1, (stream_cells h.r).2.2.1, (stream_cells h.r).2.2.2⟩
end
open Go.RowKit
set_option linter.unusedVariables false
set_option linter.unusedSimpArgs false
attribute [local go_sem ↓] Go.wp_at_zero Go.wp_at_succ
def At1 (w : World) (A : Option Addr) (n : Nat) (x : Nat → Value) : Prop := ∀ i, i < n → ∃ b o, A = some ⟨b, o, none⟩ ∧ b < w.heap.size ∧ w.cell? ⟨b, o + i, none⟩ = some (x i)
theorem At1.below {w w' : World} {A : Option Addr} {n : Nat} {x : Nat → Value} (h : At1 w A n x) (hb : Below w.heap.size w w') : At1 w' A n x := fun i hi =>
  let ⟨b, o, e, hl, c0⟩ := h i hi
  ⟨b, o, e, Nat.lt_of_lt_of_le hl hb.size, bold hb c0⟩
def Pred1 (P : Program) (g : Nat) (lb : Array Value) (x : Nat → Value) (n : Nat) (p : Nat → Bool) (w : World) : Prop :=
  ∀ (W : World) (i : Nat), i < n → Below w.heap.size w W → Calls P g (#[x i] ++ lb) W fun e w' => e = .returned (.bool (p i)) ∧ Below W.heap.size W w'
set_option maxRecDepth 100000 in
set_option maxHeartbeats 1000000 in
theorem indexFuncStr (A : Option Addr) (n c : Nat) (x : Nat → Value) (p : Nat → Bool) (g : Nat) (lb : Array Value) (eg : ∀ args w, (callFunc g args).run Tryz.prog w = .ok (.enter g args) w) (w : World)
    (hA : At1 w A n x) (hp : Pred1 Tryz.prog g lb x n p w) (hn : n ≤ 1000000000) :
    Calls Tryz.prog 173 #[.slice A n c, .func (.func g) #[] lb] w fun e w' => e = .returned (.int .i64 (idxI p n)) ∧ Below w.heap.size w w' := by
  have HA := Lib.hid hA
  have HP := Lib.hid hp
  clear hA hp
  go_enter Tryz.func173, Tryz.ntmps173
  go_wp2_with fail
  go_loopg [8, 5] n (fun g i _ wr => IdxRel p n w g i wr)
  case atStart => exact ⟨0, by omega, rfl, fun j hj => absurd hj (Nat.not_lt_zero _), Below.refl _ _⟩
  case round =>
    obtain ⟨k, hk, rfl, hno, hb⟩ := hrel
    by_cases hg : gk = 0
    · obtain rfl : k = n := by omega
      have HV := Lib.hid (idxI_miss hno)
      clear hno hk hg
      go_wp2_with fail
      go_ret
      exact ⟨ret_int HV.out.symm, hb⟩
    · have hlt : k < n := by omega
      obtain ⟨b, o, rfl, hbl, c0⟩ := HA.out.below hb k hlt
      have hcall := HP.out wr k hlt hb
      have HK := Lib.hid hk
      have HNO := Lib.hid hno
      have hgk : gk ≠ 0 := hg
      clear hk hno hg
      generalize x k = xk at *
      rcases Bool.eq_false_or_eq_true (p k) with hq | hq
      · have HV := Lib.hid (idxI_hit hlt hq HNO.out)
        rw [hq] at hcall
        clear hq
        go_wp2_with (go_at_fn g; refine hcall.mono ?_; rintro e w1 ⟨rfl, hb1⟩)
        go_ret
        exact ⟨ret_int HV.out.symm, bon hb hb1⟩
      · have HQ := Lib.hid hq
        rw [hq] at hcall
        clear hq
        go_wp2_with (go_at_fn g; refine hcall.mono ?_; rintro e w1 ⟨rfl, hb1⟩)
        go_roundg (gk - 1)
        case measure => omega
        case rel =>
          refine ⟨k + 1, by have := HK.out; omega, by go_num, fun j hj => ?_, bon hb hb1⟩
          rcases Nat.lt_or_ge j k with h | h
          · exact HNO.out j h
          · rw [show j = k by omega]; exact HQ.out
set_option maxRecDepth 100000 in
set_option maxHeartbeats 1000000 in
theorem containsFuncStr (A : Option Addr) (n c : Nat) (x : Nat → Value) (p : Nat → Bool) (g : Nat) (lb : Array Value) (eg : ∀ args w, (callFunc g args).run Tryz.prog w = .ok (.enter g args) w) (w : World)
    (hA : At1 w A n x) (hp : Pred1 Tryz.prog g lb x n p w) (hn : n ≤ 1000000000) :
    Calls Tryz.prog 114 #[.slice A n c, .func (.func g) #[] lb] w fun e w' => e = .returned (.bool (anyI p n)) ∧ Below w.heap.size w w' := by
  have HC := Lib.hid (indexFuncStr A n c x p g lb eg w hA hp hn)
  clear hA hp
  go_enter Tryz.func114, Tryz.ntmps114
  go_wp2_with fail
  refine HC.out.mono ?_
  rintro e w1 ⟨rfl, hb1⟩
  go_wp2_with fail
  go_ret
  exact ⟨rfl, hb1⟩
theorem run_clear_any {P : Program} (w : World) (t e ty : TypeId) (z : Value) (ht : P.underlying t = some (.slice e)) (hv : ∀ w, (zeroValue e).run P w = .ok z w) (b o n c : Nat) (hn : 0 < n) (zs : List Value) (hz : (Builtin.zeroCells z.cells n).toList = zs)
    (hc : ∀ j, j < zs.length → (w.cell? ⟨b, o + j, none⟩).isSome = true) (hf : ∀ j, j < zs.length → w.frozen? ⟨b, o + j, none⟩ = false) (h1 : ∀ v ∈ zs, v.oneCell' = true) :
    (Builtin.clear_ #[t] ty #[.slice (some ⟨b, o, none⟩) n c]).run P w = .ok (.tuple #[]) (w.setCells b o zs) := by
  have hst := run_storeCells_cells (P := P) b o zs 0 w (by simpa using hc) (by simpa using hf) h1
  simp only [Nat.add_zero] at hst
  obtain ⟨m, rfl⟩ : ∃ m, n = m + 1 := ⟨n - 1, by omega⟩
  simp [Builtin.clear_, run_underlying ht, hv, hz, hst]
theorem below_setCells {B b : Nat} {W : World} (hb : B ≤ b) : ∀ (vs : List Value) (o : Nat) (w : World), Below B W w → Below B W (w.setCells b o vs)
  | [], _, _, h => h
  | v :: vs, o, _, h => below_setCells hb vs (o + 1) _ (h.setCell (p := ⟨b, o, none⟩) hb v)
theorem setCells_size (b : Nat) : ∀ (vs : List Value) (o : Nat) (w : World), w.heap.size ≤ (w.setCells b o vs).heap.size
  | [], _, _ => Nat.le_refl _
  | v :: vs, o, w => Nat.le_trans (by simp [World.setCell]) (setCells_size b vs (o + 1) (w.setCell ⟨b, o, none⟩ v))
structure Kept {α : Type} (p : α → Bool) (ds xs : List α) (i j : Nat) : Prop where
  len : xs.length = ds.length
  head : xs.take i = (ds.take j).filter fun x => !p x
  tail : xs.drop j = ds.drop j
  lt : i < j
  le : j ≤ ds.length
theorem Kept.at_ {α : Type} {p : α → Bool} {ds xs : List α} {i j : Nat} (h : Kept p ds xs i j) (hj : j < ds.length) : xs[j]? = some ds[j] := by
  have := congrArg (·[0]?) h.tail
  simpa [List.getElem?_drop, List.getElem?_eq_getElem hj] using this
theorem Kept.drop_ {α : Type} {p : α → Bool} {ds xs : List α} {i j : Nat} (h : Kept p ds xs i j) (hj : j < ds.length) (hp : p ds[j] = true) : Kept p ds xs i (j + 1) := by
  refine ⟨h.len, ?_, ?_, by have := h.lt; omega, hj⟩
  · rw [List.take_succ_eq_append_getElem hj, List.filter_append, ← h.head]; simp [hp]
  · have := congrArg (List.drop 1) h.tail
    simpa [List.drop_drop] using this
theorem Kept.stay {α : Type} {p : α → Bool} {ds xs : List α} {i j : Nat} (h : Kept p ds xs i j) (hj : j < ds.length) (hp : p ds[j] = false) : Kept p ds (xs.set i ds[j]) (i + 1) (j + 1) := by
  have hlt := h.lt
  have hl := h.len
  refine ⟨by simpa using hl, ?_, ?_, by omega, hj⟩
  · rw [List.take_succ_eq_append_getElem hj, List.filter_append, ← h.head, List.take_succ_eq_append_getElem (by simp; omega), List.take_set_of_le (Nat.le_refl _)]
    simp [hp]
  · rw [List.drop_set_of_lt (by omega)]
    have := congrArg (List.drop 1) h.tail
    simpa [List.drop_drop] using this
theorem Kept.start {α : Type} {p : α → Bool} {ds : List α} {k : Nat} (hk : k < ds.length) (hp : p ds[k] = true) (hno : ∀ j (h : j < k), p (ds[j]'(by omega)) = false) : Kept p ds ds k (k + 1) := by
  refine ⟨rfl, ?_, rfl, by omega, hk⟩
  rw [List.take_succ_eq_append_getElem hk, List.filter_append]
  have : (ds.take k).filter (fun x => !p x) = ds.take k := by
    rw [List.filter_eq_self]
    intro x hx
    obtain ⟨j, hj, rfl⟩ := List.getElem_of_mem hx
    have hjk : j < k := by have := hj; rw [List.length_take] at this; omega
    simp only [List.getElem_take]
    rw [hno j hjk]; rfl
  rw [this]; simp [hp]
theorem Kept.done {α : Type} {p : α → Bool} {ds xs : List α} {i : Nat} (h : Kept p ds xs i ds.length) : xs.take i = ds.filter fun x => !p x := by
  have := h.head
  rwa [List.take_length] at this
def PredD {α : Type} (P : Program) (g : Nat) (lb : Array Value) (enc : α → Value) (ds : List α) (p : α → Bool) (base : Nat) (w : World) : Prop :=
  ∀ (W : World) (x : α), x ∈ ds → Below base w W → Calls P g (#[enc x] ++ lb) W fun e w' => e = .returned (.bool (p x)) ∧ Below W.heap.size W w'
def DelRel {α : Type} (cells : α → List Value) (p : α → Bool) (ds : List α) (et : TypeId) (sz base : Nat) (v : Value) (w : World) (g : Nat) (s5 s6 : Value) (wr : World) : Prop :=
  ∃ (i j : Nat) (xs : List α), s5 = .int .i64 i ∧ s6 = .int .i64 j ∧ j + g = ds.length ∧ Kept p ds xs i j ∧ wr.ownsRow base et sz v ds.length (xs.flatMap cells) ∧ Below base w wr ∧ w.heap.size ≤ wr.heap.size
def stCell (s : ByteArray) : List Value := [.string s]
theorem stCell_map (l : List ByteArray) : l.flatMap stCell = l.map Value.string := by
  induction l with
  | nil => rfl
  | cons a l ih => rw [List.flatMap_cons, List.map_cons, ih]; rfl
theorem idx_cases {p : Nat → Bool} (n : Nat) : (idxI p n = -1 ∧ ∀ j, j < n → p j = false) ∨ ∃ k, k < n ∧ idxI p n = k ∧ p k = true ∧ ∀ j, j < k → p j = false := by
  unfold idxI
  cases h : (List.range n).find? p with
  | none =>
    rw [List.find?_eq_none] at h
    exact .inl ⟨rfl, fun j hj => by simpa using h j (by simpa using hj)⟩
  | some k =>
    rw [List.find?_eq_some_iff_getElem] at h
    obtain ⟨hp, i, hi, he, hj⟩ := h
    simp at hi he
    subst he
    exact .inr ⟨i, hi, rfl, hp, fun j h => by simpa using hj j h⟩
theorem own_head {w : World} {base e size n c : Nat} {A : Option Addr} {xs : List Value} (h : w.ownsRow base e size (.slice A n c) n xs) (h0 : 0 < n) : ∃ g, A = some ⟨g, 0, none⟩ ∧ base ≤ g ∧ g < w.heap.size ∧ n ≤ c ∧ c ≤ maxLen ∧ ∀ j, w.frozen? ⟨g, j, none⟩ = false := by
  rcases h.2 with ⟨_, hn⟩ | ⟨g, cap, cur, hv, hg, hh, hnc, hcm, _, _⟩
  · omega
  · simp only [Value.slice.injEq, true_and] at hv
    obtain ⟨rfl, rfl⟩ := hv
    exact ⟨g, rfl, hg, block_lt hh, hnc, hcm, fun j => by simp [World.frozen?, hh]⟩
theorem own_at {w : World} {base e size n c g j : Nat} {u : Value} {xs : List Value} (h : w.ownsRow base e size (.slice (some ⟨g, 0, none⟩) n c) n xs) (hu : xs[j]? = some u) : w.cell? ⟨g, j, none⟩ = some u := by
  have e : (⟨g, 0, none⟩ : Addr).add j = ⟨g, j, none⟩ := by unfold Addr.add; split <;> simp_all
  rw [← e]; exact own_cells h j u hu
set_option maxRecDepth 100000 in
set_option maxHeartbeats 4000000 in
theorem deleteStr_any (A : Option Addr) (base c : Nat) (ds : List ByteArray) (p : ByteArray → Bool) (g : Nat) (lb : Array Value) (eg : ∀ args w, (callFunc g args).run Tryz.prog w = .ok (.enter g args) w) (w : World)
    (hown : w.ownsRow base 9 1 (.slice A ds.length c) ds.length (ds.flatMap stCell)) (hp : PredD Tryz.prog g lb Value.string ds p base w) (hn : ds.length ≤ 1000000000) (hbase : base ≤ w.heap.size) :
    Calls Tryz.prog 118 #[.slice A ds.length c, .func (.func g) #[] lb] w fun e w' => ∃ v, e = .returned v ∧ Lst w' base 1 v ((ds.filter fun x => !p x).flatMap stCell) ∧ Below base w w' := by
  have hA : At1 w A ds.length (fun i => .string (ds.getD i ⟨#[]⟩)) := fun i hi => by
    obtain ⟨b, o, u, e, _, hg, hu, hc⟩ := (Lst.of_own hown).at_ hi
    rw [stCell_map, List.getElem?_map, List.getElem?_eq_getElem hi] at hu
    obtain rfl : u = .string (ds.getD i ⟨#[]⟩) := by simp [List.getD, List.getElem?_eq_getElem hi] at hu ⊢; exact hu.symm
    exact ⟨b, o, e, hg, hc⟩
  have hpi : Pred1 Tryz.prog g lb (fun i => .string (ds.getD i ⟨#[]⟩)) ds.length (fun i => p (ds.getD i ⟨#[]⟩)) w := fun W i hi hb =>
    hp W _ (by simp [List.getD, List.getElem?_eq_getElem hi]) (hb.mono hbase)
  have HI := Lib.hid (indexFuncStr A ds.length c _ _ g lb eg w hA hpi hn)
  have HO := Lib.hid hown
  have HP := Lib.hid hp
  have gd : ∀ i (h : i < ds.length), ds.getD i ⟨#[]⟩ = ds[i] := fun i h => by simp [List.getD, List.getElem?_eq_getElem h]
  have HG := Lib.hid gd
  clear hA hpi hown hp gd
  have hz := fun w => show (zeroValue 9).run Tryz.prog w = .ok (.string ⟨#[]⟩) w by kernel_rfl
  have HZ := Lib.hid hz
  clear hz
  go_enter Tryz.func118, Tryz.ntmps118
  go_wp2_with fail
  refine HI.out.mono ?_
  rintro e w1 ⟨rfl, hb1⟩
  have HO1 := Lib.hid (ownsRow_below HO.out hb1)
  have B1 := hb1.mono hbase
  have z1 := hb1.size
  rcases idx_cases (p := fun i => p (ds.getD i ⟨#[]⟩)) ds.length with ⟨he, hall⟩ | ⟨k, hk, he, hpk, hno⟩
  · rw [he]
    have HF := Lib.hid (show ds.filter (fun x => !p x) = ds by
      rw [List.filter_eq_self]
      intro x hx
      obtain ⟨j, hj, rfl⟩ := List.getElem_of_mem hx
      have := hall j hj
      rw [HG.out j hj] at this
      rw [this]; rfl)
    clear he hall hb1
    go_wp2_with fail
    go_ret
    exact ⟨_, rfl, by rw [HF.out]; exact Lst.of_own HO1.out, B1⟩
  · rw [he]
    have hK0 := Lib.hid (Kept.start (p := p) hk (by rw [← HG.out k hk]; exact hpk) (fun j h => by rw [← HG.out j (by omega)]; exact hno j h))
    obtain ⟨gb, rfl, hgb, hgl, hnc, hcm, hfz⟩ := own_head HO.out (by omega)
    have hk1 : ((k : Int) == -1) = false := beq_eq_false_iff_ne.2 (by omega)
    have hk2 : k + 1 ≤ ds.length := hk
    clear he hpk hno hb1 hfz
    go_wp2_with fail
    go_loopg [5, 6, 7] (ds.length - (k + 1)) (fun g s5 s6 _ wr => DelRel stCell p ds 9 1 base (.slice (some ⟨gb, 0, none⟩) ds.length c) w g s5 s6 wr)
    case atStart => exact ⟨k, k + 1, ds, rfl, by go_num, by omega, hK0.out, HO1.out, B1, z1⟩
    case round =>
      obtain ⟨i, j, xs, rfl, rfl, hj, hkp, hown, hb, hz9⟩ := hrel
      have hij := hkp.lt
      have hjl := hkp.le
      by_cases hg : gk = 0
      · obtain rfl : j = ds.length := by omega
        have HD := Lib.hid hkp.done
        have hxl := hkp.len
        have hle : ∀ q, q < ds.length → ∃ u, wr.cell? ⟨gb, q, none⟩ = some u ∧ (xs.flatMap stCell)[q]? = some u := fun q hq => by
          have e : (xs.flatMap stCell)[q]? = some (.string (xs[q]'(by omega))) := by rw [stCell_map, List.getElem?_map, List.getElem?_eq_getElem (by omega)]; rfl
          exact ⟨_, own_at hown e, e⟩
        obtain ⟨gb', e', _, hgl2, _, _, hfr⟩ := own_head hown (by omega)
        simp only [Option.some.injEq, Addr.mk.injEq, and_true] at e'
        subst e'
        have hzl : (Builtin.zeroCells (Value.string ⟨#[]⟩).cells (ds.length - i)).toList.length = ds.length - i := by simp [Builtin.zeroCells, Value.cells]
        have hcl : ∀ ty, (Builtin.clear_ #[44] ty #[.slice (some ⟨gb, i, none⟩) (ds.length - i) (c - i)]).run Tryz.prog wr = .ok (.tuple #[]) (wr.setCells gb i (Builtin.zeroCells (Value.string ⟨#[]⟩).cells (ds.length - i)).toList) := fun ty =>
          run_clear_any wr _ _ ty _ Tryz.underlying44 HZ.out gb i _ _ (by omega) _ rfl (fun q hq => by rw [hzl] at hq; obtain ⟨u, hu, _⟩ := hle (i + q) (by omega); rw [hu]; rfl) (fun q _ => hfr _) (fun v hv => by
            simp [Builtin.zeroCells, Value.cells] at hv
            obtain ⟨_, _, rfl⟩ := hv
            simp [Nat.mod_one]; rfl)
        have HLE := Lib.hid hle
        have HB2 := Lib.hid (below_setCells hgb (Builtin.zeroCells (Value.string ⟨#[]⟩).cells (ds.length - i)).toList i wr hb)
        have HH := Lib.hid hkp.head
        have HCM := Lib.hid hcm
        clear hle hkp hown hj hg hfr hcm
        generalize (Builtin.zeroCells (Value.string ⟨#[]⟩).cells (ds.length - i)).toList = zs at *
        go_wp2_with fail
        go_ret
        refine ⟨_, rfl, ?_, HB2.out⟩
        rw [← HD.out]
        refine ⟨_, i, c, rfl, by omega, HCM.out, by rw [stCell_map, List.length_map, List.length_take]; omega, fun _ => ⟨gb, 0, rfl, hgb, Nat.lt_of_lt_of_le hgl (Nat.le_trans hz9 (setCells_size gb zs i wr)), fun q u hu => ?_⟩⟩
        rw [stCell_map, List.getElem?_map] at hu
        have hq : q < i := by
          rcases Nat.lt_or_ge q i with h | h
          · exact h
          · rw [List.getElem?_take, if_neg (by omega)] at hu; cases hu
        obtain ⟨u', hu', hx'⟩ := HLE.out q (by omega)
        rw [stCell_map, List.getElem?_map] at hx'
        rw [List.getElem?_take, if_pos hq, hx'] at hu
        rw [Nat.zero_add, World.cell?_setCells_out gb zs i wr ⟨gb, q, none⟩ (fun _ _ => .inl hq), hu']; exact hu
      · have hjn : j < ds.length := by omega
        have hx := hkp.at_ hjn
        have hxl := hkp.len
        have cj : wr.cell? ⟨gb, j, none⟩ = some (.string ds[j]) := own_at hown (by rw [stCell_map, List.getElem?_map, hx]; rfl)
        have hcall := HP.out wr ds[j] (List.getElem_mem hjn) hb
        have HD := Lib.hid (fun h : p ds[j] = true => hkp.drop_ hjn h)
        have HS := Lib.hid (fun h : p ds[j] = false => hkp.stay hjn h)
        have HJ := Lib.hid hj
        have hgk : gk ≠ 0 := hg
        have hbw : base ≤ wr.heap.size := by omega
        have hjlt : (j : Int) < (ds.length : Int) := by omega
        clear hj hg hx hkp
        generalize ds[j] = x at *
        rcases Bool.eq_false_or_eq_true (p x) with hq | hq
        · rw [hq] at hcall
          have HK2 := Lib.hid (HD.out hq)
          have HO2 := Lib.hid hown
          clear hq hown HD HS
          go_wp2_with (go_at_fn g; refine hcall.mono ?_; rintro e w2 ⟨rfl, hb2⟩)
          go_roundg (gk - 1)
          case measure => omega
          case rel => exact ⟨i, j + 1, xs, rfl, by go_num, by have := HJ.out; omega, HK2.out, ownsRow_below HO2.out hb2, hb.trans (hb2.mono hbw), by have := hb2.size; omega⟩
        · rw [hq] at hcall
          have HK2 := Lib.hid (HS.out hq)
          have HO2 := Lib.hid hown
          clear hq hown HD HS
          have hin : i < xs.length := by omega
          go_wp2_with (go_at_fn g; refine hcall.mono ?_; rintro e w2 ⟨rfl, hb2⟩; have own2 := ownsRow_below HO2.out hb2; have ci : w2.cell? ⟨gb, i, none⟩ = some (.string (xs[i]'hin)) := own_at own2 (by rw [stCell_map, List.getElem?_map, List.getElem?_eq_getElem hin]; rfl); have fi : w2.frozen? ⟨gb, i, none⟩ = false := own2.frozenAt i; have HST := Lib.hid (own2.stored i (.string x)).1; clear own2)
          go_roundg (gk - 1)
          case measure => omega
          case rel => exact ⟨i + 1, j + 1, xs.set i x, by go_num, by go_num, by have := HJ.out; omega, HK2.out, by have := HST.out; rw [stCell_map] at this ⊢; rw [List.map_set]; exact this, (hb.trans (hb2.mono hbw)).setCell (p := ⟨gb, i, none⟩) hgb _, by have := hb2.size; simp; omega⟩
open Go.RowKit Go.Maps Go.WideMaps
def suF (have_ : List ByteArray) : Nat → Int := fun j => if sumB (have_.getD j ⟨#[]⟩) then 0 else 3
def haveF (have_ : List ByteArray) : Int := if 2000 < have_.length then 2 else firstTo (suF have_) have_.length
theorem suF_at (l : List ByteArray) {k : Nat} (h : k < l.length) : suF l k = if sumB l[k] then 0 else 3 := by
  show (if sumB (l.getD k ⟨#[]⟩) then (0 : Int) else 3) = _
  rw [show l.getD k ⟨#[]⟩ = l[k] by simp [List.getD, List.getElem?_eq_getElem h]]
def mhF (no : Int) (fs : List FileD) (hv : List ByteArray) : Int := if manF no fs = 0 then haveF hv else manF no fs
def strC (l : List ByteArray) : List Value := l.map Value.string
theorem str_at {w : World} {lo n c k : Nat} {A : Option Addr} {ss : List ByteArray} (h : Lst w lo 1 (.slice A n c) (strC ss)) (hn : n = ss.length) (hk : k < ss.length) :
    ∃ g o, A = some ⟨g, o, none⟩ ∧ g < w.heap.size ∧ w.cell? ⟨g, o + k, none⟩ = some (.string ss[k]) := by
  obtain ⟨g, o, u, rfl, _, hgl, hu, hc⟩ := h.at_ (k := k) (by omega)
  obtain rfl : u = .string ss[k] := by
    rw [strC, List.getElem?_map, List.getElem?_eq_getElem hk] at hu
    simpa using hu.symm
  exact ⟨g, o, rfl, hgl, hc⟩
def HvRel (hv : List ByteArray) (w : World) (g : Nat) (i : Value) (wr : World) : Prop :=
  ∃ k : Nat, k + g = hv.length ∧ i = .int .i64 k ∧ firstTo (suF hv) k = 0 ∧ Below w.heap.size w wr
set_option maxRecDepth 100000 in
set_option maxHeartbeats 2000000 in
theorem haveFaultS_any (no : Int) (A B : Option Addr) (lo c d : Nat) (fs : List FileD) (hv : List ByteArray) (w : World) (hf : FilesAt w lo (.slice A fs.length c) fs) (hok : FilesOk fs) (hn : fs.length ≤ 300)
    (hh : Lst w lo 1 (.slice B hv.length d) (strC hv)) (hl : hv.length ≤ 1000) (hsz : ∀ s ∈ hv, s.size ≤ 1000) :
    Calls Tryz.prog 117 #[.agg #[.int .i64 no, .slice A fs.length c], .slice B hv.length d] w fun e w' => e = .returned (.int .i64 (mhF no fs hv)) ∧ Below w.heap.size w w' := by
  have HF := Lib.hid hf
  have HOK := Lib.hid hok
  have HH := Lib.hid hh
  have HSZ := Lib.hid hsz
  clear hf hok hh hsz
  go_enter Tryz.func117, Tryz.ntmps117
  go_wp2_with fail
  have hb0 := bfirst w (.cells #[.int .i64 no, .slice A fs.length c] 113)
  refine (checkManifest_any no A lo c fs _ (HF.out.below hb0) HOK.out hn).mono ?_
  rintro e w1 ⟨rfl, hb1⟩
  have B1 := bon hb0 hb1
  by_cases hm : manF no fs = 0
  · have HV := Lib.hid (show mhF no fs hv = firstTo (suF hv) hv.length by rw [mhF, if_pos hm, haveF, if_neg (by omega)])
    rw [hm]
    clear hm hb0 hb1
    go_wp2_with fail
    go_loopg [18, 7] hv.length (fun g i _ wr => HvRel hv w g i wr)
    case atStart => exact ⟨0, by omega, rfl, rfl, B1⟩
    case round =>
      obtain ⟨k, hk, rfl, h0, hb⟩ := hrel
      by_cases hg : gk = 0
      · obtain rfl : k = hv.length := by omega
        have HV2 := Lib.hid (HV.out.trans h0)
        clear hk h0 hg
        go_wp2_with fail
        go_ret
        exact ⟨ret_int HV2.out.symm, hb⟩
      · have hlt : k < hv.length := by omega
        obtain ⟨g, o, rfl, hgl, hc⟩ := str_at (HH.out.below hb) rfl hlt
        have HS := Lib.hid (suF_at hv hlt)
        have hs9 := HSZ.out _ (List.getElem_mem hlt)
        have HK := Lib.hid hk
        have H0 := Lib.hid h0
        have hgk : gk ≠ 0 := hg
        clear hk h0 hg
        generalize hv[k] = s at *
        go_wp2_with fail
        refine (isSum_any s (by omega) _).mono ?_
        rintro e w5 ⟨rfl, hb5⟩
        rcases Bool.eq_false_or_eq_true (sumB s) with h | h
        · have HN := Lib.hid (firstTo_succ H0.out (by rw [HS.out, h]; rfl))
          rw [h]
          clear h
          go_wp2_with fail
          go_roundg (gk - 1)
          case measure => omega
          case rel => exact ⟨k + 1, by have := HK.out; omega, by go_num, HN.out, bon hb hb5⟩
        · have HN := Lib.hid (show mhF no fs hv = 3 by rw [HV.out, firstTo_at hlt H0.out (by rw [HS.out, h]; decide), HS.out, h]; rfl)
          rw [h]
          clear h
          go_wp2_with fail
          go_ret
          exact ⟨ret_int HN.out.symm, bon hb hb5⟩
  · have HV := Lib.hid (show mhF no fs hv = manF no fs by rw [mhF, if_neg hm])
    have hm' : (manF no fs != 0) = true := bne_iff_ne.2 hm
    clear hm
    go_wp2_with fail
    go_ret
    exact ⟨ret_int HV.out.symm, B1⟩
set_option maxRecDepth 100000 in
theorem sumNot_any (s : ByteArray) (w : World) (hs : s.size ≤ 1000) : Calls Tryz.prog 115 #[.string s] w fun e w' => e = .returned (.bool (!sumB s)) ∧ Below w.heap.size w w' := by
  go_enter Tryz.func115, Tryz.ntmps115
  go_wp2_with fail
  refine (SumRight_any s (by omega) _).mono ?_
  rintro e w1 ⟨rfl, hb1⟩
  go_wp2_with fail
  go_ret
  exact ⟨rfl, hb1⟩
theorem any_first {f : Nat → Int} {p : Nat → Bool} {z : Int} (hz : z ≠ 0) (h : ∀ i, f i = if p i then z else 0) (n : Nat) : (if anyI p n then z else 0) = firstTo f n := by
  rcases idx_cases (p := p) n with ⟨he, hall⟩ | ⟨k, hk, he, hp, hno⟩
  · have : ∀ m, m ≤ n → firstTo f m = 0 := by
      intro m
      induction m with
      | zero => intro _; rfl
      | succ m ih => intro hm; exact firstTo_succ (ih (by omega)) (by rw [h, hall m (by omega)]; rfl)
    rw [this n (Nat.le_refl _), anyI, he]; rfl
  · have : ∀ m, m ≤ k → firstTo f m = 0 := by
      intro m
      induction m with
      | zero => intro _; rfl
      | succ m ih => intro hm; exact firstTo_succ (ih (by omega)) (by rw [h, hno m (by omega)]; rfl)
    have e : f k = z := by rw [h, hp]; rfl
    rw [firstTo_at hk (this k (Nat.le_refl _)) (by rw [e]; exact hz), e, anyI, he, decide_eq_true (by omega)]; rfl
theorem strs_at1 {w : World} {lo c : Nat} {A : Option Addr} {hv : List ByteArray} (h : Lst w lo 1 (.slice A hv.length c) (strC hv)) : At1 w A hv.length (fun i => .string (hv.getD i ⟨#[]⟩)) := fun i hi => by
  obtain ⟨g, o, e, hg, hc⟩ := str_at h rfl hi
  have ed : hv.getD i ⟨#[]⟩ = hv[i] := by simp [List.getD, List.getElem?_eq_getElem hi]
  rw [← ed] at hc
  exact ⟨g, o, e, hg, hc⟩
set_option maxRecDepth 100000 in
set_option maxHeartbeats 1000000 in
theorem haveFaultR_any (B : Option Addr) (lo d : Nat) (hv : List ByteArray) (w : World) (hh : Lst w lo 1 (.slice B hv.length d) (strC hv)) (hl : hv.length ≤ 1000) (hsz : ∀ s ∈ hv, s.size ≤ 1000) :
    Calls Tryz.prog 54 #[.slice B hv.length d] w fun e w' => e = .returned (.int .i64 (haveF hv)) ∧ Below w.heap.size w w' := by
  have HC := Lib.hid (containsFuncStr B hv.length d _ (fun i => !sumB (hv.getD i ⟨#[]⟩)) 115 #[] (enters_of Tryz.func115 (by kernel_rfl) rfl) w (strs_at1 hh) (fun W i hi _ => sumNot_any _ W (by
    rw [show hv.getD i ⟨#[]⟩ = hv[i] by simp [List.getD, List.getElem?_eq_getElem hi]]; exact hsz _ (List.getElem_mem hi))) (by omega))
  have HV := Lib.hid (show haveF hv = (if anyI (fun i => !sumB (hv.getD i ⟨#[]⟩)) hv.length then (3 : Int) else 0) by
    rw [any_first (f := suF hv) (by decide) (fun i => by unfold suF; cases sumB (hv.getD i ⟨#[]⟩) <;> rfl), haveF, if_neg (by omega)])
  clear hh hsz
  go_enter Tryz.func54, Tryz.ntmps54
  go_wp2_with fail
  refine HC.out.mono ?_
  rintro e w1 ⟨rfl, hb1⟩
  generalize anyI (fun i => !sumB (hv.getD i ⟨#[]⟩)) hv.length = q at *
  cases q
  all_goals
    go_wp2_with fail
    go_ret
    exact ⟨ret_int HV.out.symm, hb1⟩
theorem contains_str (B : Option Addr) (lo d : Nat) (hv : List ByteArray) (s : ByteArray) (w : World) (hh : Lst w lo 1 (.slice B hv.length d) (strC hv)) (hl : hv.length ≤ 1000) :
    Calls Tryz.prog 57 #[.slice B hv.length d, .string s] w fun e w' => e = .returned (.bool (hasS hv s)) ∧ w' = w := by
  have key : ∀ l : List ByteArray, Lib.containsS l s = hasS l s := fun l => by
    rw [Bool.eq_iff_iff, Lib.containsS_iff, hasS, List.any_eq_true]
    constructor
    · intro h; exact ⟨s, h, by simp⟩
    · rintro ⟨t, ht, he⟩
      have e := ba_ext (a := t) (b := s) (by simpa using he)
      rw [← e]; exact ht
  rcases Nat.eq_zero_or_pos hv.length with h0 | h0
  · rw [h0]
    refine (Tryz.slices_Contains_string_empty B d s w).mono ?_
    rintro e w' ⟨rfl, rfl⟩
    rw [List.eq_nil_of_length_eq_zero h0]
    exact ⟨rfl, rfl⟩
  · obtain ⟨g, o, rfl, _, _⟩ := str_at hh rfl h0
    refine (Tryz.slices_Contains_string g o hv.length d hv s w (Nat.le_refl _) (by omega) (fun j hj => ?_)).mono ?_
    · obtain ⟨g', o', e, _, hc⟩ := str_at hh rfl hj
      simp only [Option.some.injEq, Addr.mk.injEq, and_true] at e
      obtain ⟨rfl, rfl⟩ := e
      rw [hc]; simp [List.getD, List.getElem?_eq_getElem hj]
    · rintro e w' ⟨rfl, rfl⟩
      rw [List.take_length, key]
      exact ⟨rfl, rfl⟩
def MhRel (hv : List ByteArray) (w : World) (mb : Nat) (g : Nat) (i : Value) (wr : World) : Prop :=
  ∃ (k : Nat) (S : List ByteArray), k + g = hv.length ∧ i = .int .i64 k ∧ IsSet wr mb k S ∧ (∀ s, hasS S s = hasS (hv.take k) s) ∧ Below mb w wr ∧ w.heap.size ≤ wr.heap.size
set_option maxRecDepth 100000 in
set_option maxHeartbeats 4000000 in
theorem missing_any (no : Int) (A B : Option Addr) (lo c d : Nat) (fs : List FileD) (H : List ByteArray) (w : World) (hf : FilesAt w lo (.slice A fs.length c) fs) (hok : FilesOk fs) (hn : fs.length ≤ 300)
    (hh : Lst w lo 1 (.slice B H.length d) (strC H)) (hl : H.length ≤ 1000) (hsz : ∀ s ∈ H, s.size ≤ 1000) (hm : mhF no fs H = 0) :
    Calls Tryz.prog 55 #[.agg #[.int .i64 no, .slice A fs.length c], .slice B H.length d] w fun e w' => ∃ v, e = .returned (.tuple #[v, .int .i64 0]) ∧ w'.ownsRow w.heap.size 122 2 v (newTo H (allC fs)).length ((newTo H (allC fs)).flatMap chC) ∧ Below w.heap.size w w' := by
  have hmm := @run_makeMap Tryz.prog
  have HF := Lib.hid hf
  have HOK := Lib.hid hok
  have HH := Lib.hid hh
  have HSZ := Lib.hid hsz
  have HM := Lib.hid hm
  clear hf hok hh hsz hm
  obtain ⟨i0, hi, hz0, hz1, hz2⟩ := info_parts infoChunk
  go_enter Tryz.func55, Tryz.ntmps55
  go_wp2_with fail
  have hb0 := bfirst w (.cells #[.int .i64 no, .slice A fs.length c] 113)
  refine (haveFaultS_any no A B lo c d fs H _ (HF.out.below hb0) HOK.out hn (HH.out.below hb0) hl HSZ.out).mono ?_
  rintro e w1 ⟨rfl, hb1⟩
  rw [HM.out]
  have B1 := bon hb0 hb1
  have m0 := bboxed hb1 0 _ rfl
  have m1 := bboxed hb1 1 _ rfl
  have lm := blt hb1
  clear hb0 hb1
  go_wp2_with fail
  have B2 := bbox B1 (.map #[] 0)
  have HS2 := Lib.hid (IsSet.new w1)
  obtain ⟨mb, hmb⟩ : ∃ mb, mb = w1.heap.size := ⟨_, rfl⟩
  have hmbz : w.heap.size < mb := by omega
  have m0' := bold (bfirst w1 (.map #[] 0)) m0
  have m1' := bold (bfirst w1 (.map #[] 0)) m1
  rw [← hmb] at HS2 ⊢
  clear m0 m1 B1 hmb
  generalize w1.alloc (.map #[] 0) = w2 at *
  go_loopg [24, 9] H.length (fun g i _ wr => MhRel H w2 mb g i wr)
  case atStart => exact ⟨0, [], by omega, rfl, HS2.out, by simp [hasS], Below.refl _ _, Nat.le_refl _⟩
  case round =>
    clear HS2
    obtain ⟨k, S, hk, rfl, hset, hS, hb, hz⟩ := hrel
    have hbw : Below w.heap.size w wr := B2.trans (hb.mono (by omega))
    have n0 := (hb.cell (p := ⟨w.heap.size, 0, none⟩) hmbz).trans m0'
    have n1 := (hb.cell (p := ⟨w.heap.size, 1, none⟩) hmbz).trans m1'
    have ln : w.heap.size < wr.heap.size := World.block_lt_of_cell? wr _ n0
    by_cases hg : gk = 0
    · obtain rfl : k = H.length := by omega
      rw [List.take_length] at hS
      have HSET := Lib.hid hset
      have HS := Lib.hid hS
      clear hk hset hS hg hb
      obtain ⟨wa, rfl⟩ : ∃ wa : World, wa = wr := ⟨_, rfl⟩
      obtain ⟨ga, rfl⟩ : ∃ ga, ga = gk := ⟨_, rfl⟩
      have hmbz : w.heap.size ≤ mb := by omega
      go_wp2_with fail
      go_loopg [34, 10, 12, 14, 41] fs.length (fun g i out _ _ _ wr => EoRel H fs w mb H.length g i out wr)
      case atStart => exact ⟨0, S, by omega, rfl, by simpa using HSET.out, by intro s; rw [show newTo H (chunksTo fs 0) = [] from rfl]; simpa using HS.out s, World.ownsRow_nil _ _ _ _, hbw⟩
      case round =>
        clear HSET
        obtain ⟨k, S, hk, rfl, hset, hS, hown, hb⟩ := hrel
        by_cases hg : gk = 0
        · obtain rfl : k = fs.length := by omega
          have HO := Lib.hid hown
          clear hk hg hown hset hS
          go_wp2_with fail
          (go_ret2; exact ⟨_, rfl, HO.out, hb⟩)
        · have hlt : k < fs.length := by omega
          have hl9 := chunksTo_len fs HOK.out k
          obtain ⟨g, o, B, m, d, rfl, hgl, cK0, cC0, hm, hL⟩ := HF.out.at_ hlt
          have cK := (hb.cell (p := ⟨g, o + k * 2, none⟩) hgl).trans cK0
          have cC := (hb.cell (p := ⟨g, o + k * 2 + 1, none⟩) hgl).trans cC0
          have HK := Lib.hid hk
          have HSET := Lib.hid hset
          have HS := Lib.hid hS
          have HOW := Lib.hid hown
          obtain rfl := hm
          have HL := Lib.hid hL
          have hgk : gk ≠ 0 := hg
          have hcok : ∀ c ∈ fs[k].2, c.1.size ≤ 1000000000000 ∧ -1000000000000000 ≤ c.2 ∧ c.2 ≤ 1000000000000000 := (HOK.out _ (List.getElem_mem hlt)).2.2
          have hclen := (HOK.out _ (List.getElem_mem hlt)).2.1
          have HCT := Lib.hid (chunksTo_succ fs k hlt)
          have hkn : k ≤ 300 := by omega
          clear hk hset hS hL hg hown cK0 cC0
          generalize fs[k] = fk at *
          obtain ⟨key, cs⟩ := fk
          have HCT2 : Hid (chunksTo fs (k + 1) = chunksTo fs k ++ cs) := HCT.out
          have HL2 : Hid (Lst w lo 2 (.slice B cs.length d) (cs.flatMap chC)) := HL.out
          have hclen2 : cs.length ≤ 1000000000 := hclen
          have HCO : Hid (∀ c ∈ cs, c.1.size ≤ 1000000000000 ∧ -1000000000000000 ≤ c.2 ∧ c.2 ≤ 1000000000000000) := hcok
          clear HCT HL hclen hcok
          go_wp2_with fail
          have hb2 := bbox hb (.cells #[.string key, .slice B cs.length d] 221)
          obtain ⟨nb, hnb⟩ : ∃ nb, nb = H.length + k * 1000000000 := ⟨_, rfl⟩
          rw [← hnb] at HSET
          have hnb1 : nb + cs.length ≤ H.length + (k + 1) * 1000000000 := by omega
          have hnb2 : nb ≤ 500000000000 := by omega
          have HNB := Lib.hid hnb
          have HNB1 := Lib.hid hnb1
          clear hnb hnb1
          have HSET2 := Lib.hid (HSET.out.alloc (.cells #[.string key, .slice B cs.length d] 221))
          have HOW2 := Lib.hid (HOW.out.alloc (.cells #[.string key, .slice B cs.length d] 221))
          clear cK cC HSET HOW
          obtain ⟨wo, rfl⟩ : ∃ wo : World, wo = wr := ⟨_, rfl⟩
          obtain ⟨gq, rfl⟩ : ∃ gq, gq = gk := ⟨_, rfl⟩
          go_loopg [41, 10, 14] cs.length (fun g i out _ wx => EiRel H (chunksTo fs k) cs w mb nb g i out wx)
          case atStart => exact ⟨0, S, by omega, rfl, HSET2.out, by simpa using HS.out, by simpa using HOW2.out, hb2⟩
          case round =>
            clear HSET2 HS HOW2
            obtain ⟨j, T, hj, rfl, hset, hT, hown, hb3⟩ := hrel
            by_cases hg1 : gk = 0
            · obtain rfl : j = cs.length := by omega
              rw [List.take_length] at hT hown
              have HSE := Lib.hid (hset.mono (n' := H.length + (k + 1) * 1000000000) HNB1.out)
              have HT2 : Hid (∀ s, hasS T s = hasS (H ++ (newTo H (chunksTo fs (k + 1))).map (·.1)) s) := by rw [HCT2.out]; exact hT
              have HO2 : Hid (wr.ownsRow w.heap.size 122 2 u10 (newTo H (chunksTo fs (k + 1))).length ((newTo H (chunksTo fs (k + 1))).flatMap chC)) := by rw [HCT2.out]; exact hown
              clear hset hT hown hj hg1
              go_wp2_with fail
              go_roundg (gq - 1)
              case measure => omega
              case rel => exact ⟨k + 1, T, by have := HK.out; omega, by go_num, HSE.out, HT2.out, HO2.out, hb3⟩
            · have hjl : j < cs.length := by omega
              have hl8 := newTo_len H (chunksTo fs k ++ cs.take j)
              have hl7 : (newTo H (chunksTo fs k ++ cs.take j)).length ≤ 1000000000000 := by rw [List.length_append, List.length_take] at hl8; omega
              obtain ⟨g2, o2, rfl, hg2, e0, e1⟩ := HL2.out.chunk hjl rfl
              have f0 := (hb3.cell (p := ⟨g2, o2 + j * 2, none⟩) hg2).trans e0
              have f1 := (hb3.cell (p := ⟨g2, o2 + j * 2 + 1, none⟩) hg2).trans e1
              have hcj := (HCO.out _ (List.getElem_mem hjl)).1
              have HST := Lib.hid (show newTo H (chunksTo fs k ++ cs.take (j + 1)) = newStep H (newTo H (chunksTo fs k ++ cs.take j)) cs[j] by rw [List.take_succ_eq_append_getElem hjl, ← List.append_assoc, newTo_snoc])
              have HJ := Lib.hid hj
              have hgk1 : gk ≠ 0 := hg1
              clear hj hg1 e0 e1 hl8
              generalize cs[j] = cj at *
              generalize newTo H (chunksTo fs k ++ cs.take j) = out at *
              obtain ⟨ck, cz⟩ := cj
              have hbz3 := hb3.size
              have hset2 := hset.alloc (.cells #[.string ck, .int .i64 cz] 122)
              have hb4 := bbox hb3 (.cells #[.string ck, .int .i64 cz] 122)
              have hown2 := hown.alloc (.cells #[.string ck, .int .i64 cz] 122)
              have hcs : ck.size ≤ 1000000000000 := hcj
              have hmbl := hset.lt
              clear hset hown hcj
              rcases Bool.eq_false_or_eq_true (hasS T ck) with hq | hq
              · have HQ := Lib.hid (has_old hT (c := (ck, cz)) hq)
                have HT2 := Lib.hid hT
                have HSE := Lib.hid (hset2.mono (n' := nb + (j + 1)) (by omega))
                have HO2 := Lib.hid hown2
                clear hT hown2
                go_wp2_with (at_lookup; refine wpList_lookup_set rfl _ _ rfl mb _ T ck rfl hset2 rfl hcs ?_)
                go_roundg (gk - 1)
                case measure => omega
                case rel => exact ⟨j + 1, T, by have := HJ.out; omega, by go_num, HSE.out, by rw [HST.out, HQ.out]; exact HT2.out, by rw [HST.out, HQ.out]; exact HO2.out, hb4⟩
              · have HQ := Lib.hid (has_new hT (c := (ck, cz)) hq)
                clear hT
                go_wp2_with (first | (at_lookup; refine wpList_lookup_set rfl _ _ rfl mb _ T ck rfl hset2 rfl hcs ?_) | (at_mapUpdate; refine wpList_update_set rfl _ _ _ rfl mb _ T ck rfl hset2 rfl rfl hcs (by omega) ?_))
                intro w4 hset4 hgr4
                clear hq
                have hown4 := hown2.kept hgr4 (.inr fun e => own_map_ne hown2 hset2 e.symm)
                have hb5 := hb4.grown hgr4 (by simp; omega) (fun x hx => by cases hx; exact hmbz)
                have hbz5 := hb5.size
                have q0 : w4.cell? ⟨wr.heap.size, 0, none⟩ = some (.string ck) := (World.cell?_of_block (hgr4.block wr.heap.size (by simp) (fun e => by injection e with e; omega))).trans (cell_new_list wr _ _ 0 _ rfl)
                have q1 : w4.cell? ⟨wr.heap.size, 1, none⟩ = some (.int .i64 cz) := (World.cell?_of_block (hgr4.block wr.heap.size (by simp) (fun e => by injection e with e; omega))).trans (cell_new_list wr _ _ 1 _ rfl)
                have ql : wr.heap.size < w4.heap.size := World.block_lt_of_cell? w4 _ q0
                clear hset2 hown2 hgr4 hb4
                go_wp2_with (at_builtin; refine wpList_push (W := w) (lo := w.heap.size) rfl _ _ 117 rfl 122 i0 _ 2 24 Tryz.underlying117 hi hz0 hz1 hz2 rfl (by decide) (by decide) _ _ _ rfl hb5 hbz5 hown4 [.string ck, .int .i64 cz] rfl rfl rfl rfl hl7 ?_)
                intro v' w5 hown5 hb6 _ hg5
                have hset5 := hset4.kept hg5 (own_map_ne hown4 hset4)
                have HSE := Lib.hid (hset5.mono (n' := nb + (j + 1)) (by omega))
                have HO2 := Lib.hid hown5
                clear hset4 hset5 hown4 hown5 hg5 q0 q1
                go_wp2_with fail
                go_roundg (gk - 1)
                case measure => omega
                case rel => exact ⟨j + 1, ck :: T, by have := HJ.out; omega, by go_num, HSE.out, by rw [HST.out]; exact HQ.out.2, by rw [HST.out, HQ.out.1, List.length_append, List.flatMap_append]; exact HO2.out, hb6⟩
    · have hlt : k < H.length := by omega
      obtain ⟨g, o, rfl, hgl, hc⟩ := str_at (HH.out.below hbw) rfl hlt
      have hs9 := HSZ.out _ (List.getElem_mem hlt)
      have HK := Lib.hid hk
      have HTK := Lib.hid (show H.take (k + 1) = H.take k ++ [H[k]] from List.take_succ_eq_append_getElem hlt)
      have HS := Lib.hid hS
      have hgk : gk ≠ 0 := hg
      clear hk hS hg n0 n1 ln
      generalize H[k] = s at *
      go_wp2_with (at_mapUpdate; refine wpList_update_set rfl _ _ _ rfl mb _ S s rfl hset rfl rfl (by omega) (by omega) ?_)
      intro w4 hset4 hgr4
      have hb4 := hb.grown hgr4 (by have := hset.lt; omega) (fun x hx => by cases hx; exact Nat.le_refl _)
      have hz4 := hgr4.size
      have HSE := Lib.hid hset4
      clear hset hset4
      go_wp2_with fail
      go_roundg (gk - 1)
      case measure => omega
      case rel => exact ⟨k + 1, s :: S, by have := HK.out; omega, by go_num, HSE.out, fun t => by rw [hasS_cons, HTK.out, hasS_append, HS.out]; simp [hasS, Bool.or_comm], hb4, by omega⟩
open Go.RowKit Go.Lib Go.Sort
def riseL (hv : List ByteArray) : List (List UInt8) := Lib.compact ((hv.map (·.data.toList)).mergeSort fun x y => decide (x ≤ y))
def riseS (hv : List ByteArray) : List ByteArray := (riseL hv).map fun l => ⟨l.toArray⟩
theorem riseS_cells (hv : List ByteArray) : (riseL hv).map encStr = (riseS hv).map Value.string := by
  rw [riseS, List.map_map]
  rfl
theorem below_grow (w : World) (os : Array Obj) : Below w.heap.size w (grow w os) :=
  ⟨rfl, rfl, rfl, by simp [grow], fun k hk => by show (w.heap ++ os)[k]? = _; rw [Array.getElem?_append_left hk]⟩
set_option maxRecDepth 100000 in
set_option maxHeartbeats 1000000 in
theorem insNil (w : World) : Calls Tryz.prog 257 #[.slice none 0 0, .int .i64 0, .int .i64 0] w fun e w' => e = .returned (.tuple #[]) ∧ w = w' := by
  go_enter Tryz.func257, Tryz.ntmps257
  go_wp2_with fail
  refine wp_loop_rounds 1 ?_
  rw [rounds_succ]
  go_wp2_with fail
  go_end0
  exact ⟨rfl, rfl⟩
set_option maxRecDepth 100000 in
set_option maxHeartbeats 1000000 in
theorem pdqNil (z : Int) (w : World) : Calls Tryz.prog 204 #[.slice none 0 0, .int .i64 0, .int .i64 0, .int .i64 z] w fun e w' => e = .returned (.tuple #[]) ∧ w = w' := by
  go_enter Tryz.func204, Tryz.ntmps204
  go_wp2_with fail
  refine wp_loop_rounds 1 ?_
  rw [rounds_succ]
  go_wp2_with fail
  refine (insNil _).mono ?_
  rintro e w' ⟨rfl, rfl⟩
  go_wp2_with fail
  exact bodyPost_ret (v := .tuple #[]) (by simp [results, Tryz.results204, go_sem]) rfl ⟨rfl, rfl⟩
set_option maxRecDepth 100000 in
set_option maxHeartbeats 1000000 in
theorem sortNil (w : World) : Calls Tryz.prog 144 #[.slice none 0 0] w fun e w' => e = .returned (.tuple #[]) ∧ w = w' := by
  go_enter Tryz.func144, Tryz.ntmps144
  go_wp2_with fail
  refine (Tryz.bits_Len 0 _ (by omega) (by omega)).mono ?_
  rintro e w' ⟨rfl, rfl⟩
  go_wp2_with fail
  refine (pdqNil _ _).mono ?_
  rintro e w' ⟨rfl, rfl⟩
  go_wp2_with fail
  go_end0
  exact ⟨rfl, rfl⟩
set_option maxRecDepth 100000 in
set_option maxHeartbeats 2000000 in
theorem rising_any (v : Value) (lo : Nat) (hv : List ByteArray) (w : World) (hown : w.ownsRow lo 9 1 v hv.length (hv.map Value.string)) (hl : hv.length ≤ 1000) :
    Calls Tryz.prog 119 #[v] w fun e w' => ∃ v', e = .returned v' ∧ w'.ownsRow w.heap.size 9 1 v' (riseS hv).length ((riseS hv).map Value.string) ∧ Below w.heap.size w w' := by
  rcases own_nil_or hown with ⟨rfl, hn0, hxs⟩ | ⟨g, c, rfl⟩
  · have h0 : hv = [] := List.eq_nil_of_length_eq_zero hn0
    have HE := Lib.hid (show riseS hv = [] by rw [h0]; simp [riseS, riseL, Lib.compact]; rfl)
    clear hown hn0 hxs
    go_enter Tryz.func119, Tryz.ntmps119
    go_wp2_with fail
    refine (Tryz.slices_Clone_string_nil 0 0 _).mono ?_
    rintro e w' ⟨rfl, rfl⟩
    go_wp2_with fail
    refine (sortNil _).mono ?_
    rintro e w' ⟨rfl, rfl⟩
    go_wp2_with fail
    refine (Tryz.slices_Compact_string_empty none 0 _).mono ?_
    rintro e w' ⟨rfl, rfl⟩
    go_wp2_with fail
    go_ret
    exact ⟨_, rfl, by rw [HE.out]; exact World.ownsRow_nil _ _ _ _, Below.refl _ _⟩
  · have hc : ∀ j, j < hv.length → w.cell? ⟨g, 0 + j, none⟩ = some (.string (hv.getD j ByteArray.empty)) := fun j hj => by
      have e : (⟨g, 0, none⟩ : Addr).add j = ⟨g, 0 + j, none⟩ := by unfold Addr.add; split <;> simp_all
      rw [← e]
      exact own_cells hown j _ (by rw [List.getElem?_map, List.getElem?_eq_getElem hj]; simp [List.getD, List.getElem?_eq_getElem hj])
    have HCL : Hid (Calls Tryz.prog 176 #[.slice (some ⟨g, 0, none⟩) hv.length c] w fun e w' => ∃ v', e = .returned v' ∧ w'.ownsRow w.heap.size 9 1 v' hv.length (hv.map Value.string) ∧ v' ≠ .slice none 0 0 ∧ Below w.heap.size w w') := by
      have := Tryz.slices_Clone_string g 0 hv.length c hv w (Nat.le_refl _) (by omega) hc
      rw [List.take_length] at this
      exact this
    clear hown hc
    go_enter Tryz.func119, Tryz.ntmps119
    go_wp2_with fail
    refine HCL.out.mono ?_
    rintro e w1 ⟨v1, rfl, own1, hne, hb1⟩
    have own1' : w1.ownsRow w.heap.size 9 1 v1 hv.length ((hv.map (·.data.toList)).map encStr) := by rw [map_encStr]; exact own1
    obtain ⟨g1, c1, rfl, hg1, hg1l, hnc, hcm, _, hH⟩ := holds_of_ownsRow own1' hne
    have HH := Lib.hid hH
    have HO := Lib.hid own1'
    clear own1 own1' hne HCL hH
    obtain ⟨ss, hss⟩ : ∃ ss : List (List UInt8), ss = hv.map (·.data.toList) := ⟨_, rfl⟩
    rw [← hss] at HH HO
    have hsl : ss.length = hv.length := by rw [hss]; simp
    have HSS := Lib.hid hss
    have HSL := Lib.hid hsl
    have HSC : Hid (Calls Tryz.prog 144 #[.slice (some ⟨g1, 0, none⟩) hv.length c1] w1 fun e w' => e = .returned (.tuple #[]) ∧ ∃ n os, w' = grow (putRow encStr (Sort.ahead w1 n) g1 0 (ss.mergeSort fun x y => decide (x ≤ y)).toArray) os) := by
      have := Tryz.slices_Sort_string g1 0 c1 ss w1 HH.out hg1l (by omega)
      rw [hsl] at this
      exact this
    clear hss hsl HH
    go_wp2_with fail
    refine HSC.out.mono ?_
    rintro e w2 ⟨rfl, n2, os2, hw2⟩
    obtain ⟨ts, hts⟩ : ∃ ts, ts = ss.mergeSort fun x y => decide (x ≤ y) := ⟨_, rfl⟩
    rw [← hts] at hw2
    have htl : ts.length = hv.length := by rw [hts, List.length_mergeSort]; exact HSL.out
    have own2 := ownsRow_below (ownsRow_putRow (q := n2) (k := hv.length) HO.out htl (Nat.le_refl _)) (below_grow (putRow encStr (Sort.ahead w1 n2) g1 0 ts.toArray) os2)
    rw [← hw2, List.take_of_length_le (by omega)] at own2
    have hb2 : Below w.heap.size w w2 := by rw [hw2]; exact (below_putRow hb1 hg1).trans ((below_grow _ _).mono (by have := hb1.size; simpa [putRow, mapBlock, Sort.ahead] using this))
    obtain ⟨g3, c3, hv3, _, _, hnc3, _, _, hH2⟩ := holds_of_ownsRow own2 (by simp)
    simp only [Value.slice.injEq, Option.some.injEq, Addr.mk.injEq, and_true, true_and] at hv3
    obtain ⟨rfl, rfl⟩ := hv3
    have HO2 := Lib.hid own2
    have HTS := Lib.hid (show riseL hv = Lib.compact ts by rw [riseL, hts, HSS.out])
    have HCC : Hid (Calls Tryz.prog 177 #[.slice (some ⟨g1, 0, none⟩) hv.length c1] w2 fun e w' => e = .returned (.slice (some ⟨g1, 0, none⟩) (Lib.compact ts).length c1) ∧ ∃ q, w' = putRow encStr (Sort.ahead w2 q) g1 0 (Lib.compact ts ++ List.replicate (hv.length - (Lib.compact ts).length) []).toArray) := by
      have := Tryz.slices_Compact_string g1 0 c1 ts w2 hH2 (by omega) (by omega)
      rw [htl] at this
      exact this
    have HTL := Lib.hid htl
    clear hw2 own2 hts htl hH2 HSC
    go_wp2_with fail
    refine HCC.out.mono ?_
    rintro e w3 ⟨rfl, q3, hw3⟩
    have hcl : (Lib.compact ts).length ≤ hv.length := by have := Lib.compact_length_le ts; have := HTL.out; omega
    have own3 := ownsRow_putRow (q := q3) (k := (Lib.compact ts).length) (ys := Lib.compact ts ++ List.replicate (hv.length - (Lib.compact ts).length) []) HO2.out (by simp; omega) hcl
    rw [← hw3, List.take_append_of_le_length (Nat.le_refl _), List.take_length, ← HTS.out, riseS_cells] at own3
    have hrl : (riseL hv).length = (riseS hv).length := by simp [riseS]
    rw [hrl] at own3
    have hb3 : Below w.heap.size w w3 := by rw [hw3]; exact below_putRow hb2 hg1
    have HO3 := Lib.hid own3
    have HRL := Lib.hid (show (Lib.compact ts).length = (riseS hv).length by rw [← HTS.out, hrl])
    clear own3 hw3 hrl HCC
    rw [HRL.out]
    go_wp2_with fail
    go_ret
    exact ⟨_, rfl, HO3.out, hb3⟩
theorem IsSet.belowAt {w w' : World} {b n B : Nat} {S : List ByteArray} (h : IsSet w b n S) (hb : Below B w w') (hB : b < B) : IsSet w' b n S :=
  let ⟨D, ⟨es, clock, hh, r⟩, h2⟩ := h; ⟨D, ⟨es, clock, (hb.block b hB).trans hh, r⟩, h2⟩
def spareS (fs : List FileD) (hv : List ByteArray) : List ByteArray := (riseS hv).filter fun s => !hasS ((allC fs).map (·.1)) s
set_option maxRecDepth 100000 in
set_option maxHeartbeats 1000000 in
theorem spareIs_any (s : ByteArray) (ub mb n : Nat) (S : List ByteArray) (w : World) (hc : w.cell? ⟨ub, 0, none⟩ = some (.map (some mb))) (hs : IsSet w mb n S) (hz : s.size ≤ 1000) :
    Calls Tryz.prog 120 #[.string s, .pointer (some ⟨ub, 0, none⟩)] w fun e w' => e = .returned (.bool (hasS S s)) ∧ Below w.heap.size w w' := by
  go_enter Tryz.func120, Tryz.ntmps120
  go_wp2_with (at_lookup; refine wpList_lookup_set rfl _ _ rfl mb _ S s rfl hs rfl (by omega) ?_)
  go_ret
  exact ⟨rfl, Below.refl _ _⟩
def UoRel (fs : List FileD) (w : World) (mb : Nat) (g : Nat) (i : Value) (wr : World) : Prop :=
  ∃ (k : Nat) (S : List ByteArray), k + g = fs.length ∧ i = .int .i64 k ∧ IsSet wr mb (k * 1000000000) S ∧ (∀ s, hasS S s = hasS ((chunksTo fs k).map (·.1)) s) ∧ wr.heap[mb + 1]? = some (.cells #[.map (some mb)] 183 (0, 0)) ∧ Below w.heap.size w wr
def UiRel (pre cs : List ChunkD) (w : World) (mb base : Nat) (g : Nat) (i : Value) (wr : World) : Prop :=
  ∃ (k : Nat) (S : List ByteArray), k + g = cs.length ∧ i = .int .i64 k ∧ IsSet wr mb (base + k) S ∧ (∀ s, hasS S s = hasS ((pre ++ cs.take k).map (·.1)) s) ∧ wr.heap[mb + 1]? = some (.cells #[.map (some mb)] 183 (0, 0)) ∧ Below w.heap.size w wr
set_option maxRecDepth 100000 in
set_option maxHeartbeats 4000000 in
theorem spare_any (no : Int) (A B : Option Addr) (lo c d : Nat) (fs : List FileD) (hv : List ByteArray) (w : World) (hf : FilesAt w lo (.slice A fs.length c) fs) (hok : FilesOk fs) (hn : fs.length ≤ 300)
    (hh : w.ownsRow lo 9 1 (.slice B hv.length d) hv.length (strC hv)) (hl : hv.length ≤ 1000) (hsz : ∀ s ∈ hv, s.size ≤ 1000) (hrs : ∀ s ∈ riseS hv, s.size ≤ 1000) (hrl : (riseS hv).length ≤ 1000) (hm : mhF no fs hv = 0) :
    Calls Tryz.prog 56 #[.agg #[.int .i64 no, .slice A fs.length c], .slice B hv.length d] w fun e w' => ∃ v, e = .returned (.tuple #[v, .int .i64 0]) ∧ Lst w' w.heap.size 1 v (strC (spareS fs hv)) ∧ Below w.heap.size w w' := by
  have hmm := @run_makeMap Tryz.prog
  have HF := Lib.hid hf
  have HOK := Lib.hid hok
  have HH := Lib.hid hh
  have HSZ := Lib.hid hsz
  have HRS := Lib.hid hrs
  have HM := Lib.hid hm
  clear hf hok hh hsz hm hrs
  go_enter Tryz.func56, Tryz.ntmps56
  go_wp2_with fail
  have hb0 := bfirst w (.cells #[.int .i64 no, .slice A fs.length c] 113)
  refine (haveFaultS_any no A B lo c d fs hv _ (HF.out.below hb0) HOK.out hn ((Lst.of_own HH.out).below hb0) hl HSZ.out).mono ?_
  rintro e w1 ⟨rfl, hb1⟩
  rw [HM.out]
  have B1 := bon hb0 hb1
  have m0 := bboxed hb1 0 _ rfl
  have m1 := bboxed hb1 1 _ rfl
  have lm := blt hb1
  clear hb0 hb1
  go_wp2_with fail
  have B2 := bbox (bbox B1 (.map #[] 0)) (.cells #[.map (some w1.heap.size)] 183)
  have HS2 := Lib.hid ((IsSet.new w1).alloc (.cells #[.map (some w1.heap.size)] 183))
  have HX2 := Lib.hid (heap_alloc_new (w1.alloc (.map #[] 0)) (.cells #[.map (some w1.heap.size)] 183))
  simp only [World.size_alloc] at HX2
  obtain ⟨mb, hmb⟩ : ∃ mb, mb = w1.heap.size := ⟨_, rfl⟩
  have hmbz : w.heap.size < mb := by omega
  rw [← hmb] at HS2 HX2 B2 ⊢
  clear m0 m1 B1 hmb
  generalize (w1.alloc (.map #[] 0)).alloc (.cells #[.map (some mb)] 183) = w2 at *
  go_loopg [22, 9, 11, 29] fs.length (fun g i _ _ _ wr => UoRel fs w mb g i wr)
  case atStart => exact ⟨0, [], by omega, rfl, by simpa using HS2.out, by simp [hasS, chunksTo], HX2.out, B2⟩
  case round =>
    clear HS2 HX2
    obtain ⟨k, S, hk, rfl, hset, hS, hX, hb⟩ := hrel
    by_cases hg : gk = 0
    · obtain rfl : k = fs.length := by omega
      have HSET := Lib.hid hset
      have HS := Lib.hid hS
      have HX := Lib.hid hX
      have HO := Lib.hid (ownsRow_below HH.out hb)
      have lub := block_lt hX
      clear hset hS hX hk hg
      go_wp2_with fail
      refine (rising_any _ lo hv _ HO.out hl).mono ?_
      rintro e w3 ⟨v3, rfl, own3, hb3⟩
      have B3 := bon hb hb3
      obtain ⟨C, m, q, rfl⟩ := own_form own3
      obtain rfl := own_len own3
      have HO3 : Hid (w3.ownsRow wr.heap.size 9 1 (.slice C (riseS hv).length q) (riseS hv).length ((riseS hv).flatMap stCell)) := by rw [stCell_map]; exact own3
      have z3 := hb3.size
      have zr := hb.size
      have HSET3 := Lib.hid (HSET.out.below hb3)
      have HX3 := Lib.hid ((hb3.block _ lub).trans HX.out)
      clear own3 HO HSET HX
      go_wp2_with fail
      refine (deleteStr_any C wr.heap.size q (riseS hv) (fun s => hasS S s) 120 #[.pointer (some ⟨mb + 1, 0, none⟩)] (enters_of Tryz.func120 (by kernel_rfl) rfl) _ HO3.out (fun W x hx hbW => ?_) (by omega) z3).mono ?_
      · have hcx : w3.cell? ⟨mb + 1, 0, none⟩ = some (.map (some mb)) := by simp [World.cell?, HX3.out]
        exact spareIs_any x (mb + 1) mb _ S W ((hbW.cell (p := ⟨mb + 1, 0, none⟩) lub).trans hcx) (HSET3.out.belowAt hbW (by omega)) (HRS.out x hx)
      · rintro e w4 ⟨v4, rfl, hL4, hb4⟩
        have HL4 : Hid (Lst w4 w.heap.size 1 v4 (strC (spareS fs hv))) := by
          have e : (riseS hv).filter (fun s => !hasS S s) = spareS fs hv := by
            unfold spareS
            congr 1
            funext s
            rw [HS.out s]; rfl
          rw [e, stCell_map] at hL4
          exact hL4.mono zr
        clear hL4
        go_wp2_with fail
        go_ret2
        exact ⟨_, rfl, HL4.out, B3.trans (hb4.mono zr)⟩
    · have hlt : k < fs.length := by omega
      obtain ⟨g, o, C, m, q, rfl, hgl, cK0, cC0, hm, hL⟩ := HF.out.at_ hlt
      have cK := (hb.cell (p := ⟨g, o + k * 2, none⟩) hgl).trans cK0
      have cC := (hb.cell (p := ⟨g, o + k * 2 + 1, none⟩) hgl).trans cC0
      have HK := Lib.hid hk
      obtain ⟨nb, hnb⟩ : ∃ nb, nb = k * 1000000000 := ⟨_, rfl⟩
      rw [← hnb] at hset
      have HSET := Lib.hid hset
      have HS := Lib.hid hS
      have HX := Lib.hid hX
      obtain rfl := hm
      have HL := Lib.hid hL
      have hgk : gk ≠ 0 := hg
      have hcok : ∀ c ∈ fs[k].2, c.1.size ≤ 1000000000000 ∧ -1000000000000000 ≤ c.2 ∧ c.2 ≤ 1000000000000000 := (HOK.out _ (List.getElem_mem hlt)).2.2
      have hclen := (HOK.out _ (List.getElem_mem hlt)).2.1
      have HCT := Lib.hid (chunksTo_succ fs k hlt)
      have hkn : k ≤ 300 := by omega
      have hnb1 : nb + fs[k].2.length ≤ (k + 1) * 1000000000 := by omega
      have hnb2 : nb ≤ 500000000000 := by omega
      have HNB1 := Lib.hid hnb1
      clear hk hset hS hX hL hg cK0 cC0 hnb hnb1
      generalize fs[k] = fk at *
      obtain ⟨key, cs⟩ := fk
      have HCT2 : Hid (chunksTo fs (k + 1) = chunksTo fs k ++ cs) := HCT.out
      have HL2 : Hid (Lst w lo 2 (.slice C cs.length q) (cs.flatMap chC)) := HL.out
      have hclen2 : cs.length ≤ 1000000000 := hclen
      have HCO : Hid (∀ c ∈ cs, c.1.size ≤ 1000000000000 ∧ -1000000000000000 ≤ c.2 ∧ c.2 ≤ 1000000000000000) := hcok
      clear HCT HL hclen hcok
      go_wp2_with fail
      have hb2 := bbox hb (.cells #[.string key, .slice C cs.length q] 221)
      have HSET2 := Lib.hid (HSET.out.alloc (.cells #[.string key, .slice C cs.length q] 221))
      have HX2 := Lib.hid ((Below.heap_alloc wr (.cells #[.string key, .slice C cs.length q] 221) _ (block_lt HX.out)).trans HX.out)
      clear cK cC HSET HX
      obtain ⟨wo, rfl⟩ : ∃ wo : World, wo = wr := ⟨_, rfl⟩
      obtain ⟨gq, rfl⟩ : ∃ gq, gq = gk := ⟨_, rfl⟩
      go_loopg [29, 11] cs.length (fun g i _ wx => UiRel (chunksTo fs k) cs w mb nb g i wx)
      case atStart => exact ⟨0, S, by omega, rfl, HSET2.out, by simpa using HS.out, HX2.out, hb2⟩
      case round =>
        clear HSET2 HS HX2
        obtain ⟨j, T, hj, rfl, hset, hT, hX, hb3⟩ := hrel
        by_cases hg1 : gk = 0
        · obtain rfl : j = cs.length := by omega
          rw [List.take_length, ← HCT2.out] at hT
          have HSE := Lib.hid (hset.mono (n' := (k + 1) * 1000000000) HNB1.out)
          have HT2 := Lib.hid hT
          have HX := Lib.hid hX
          clear hset hT hj hg1 hX
          go_wp2_with fail
          go_roundg (gq - 1)
          case measure => omega
          case rel => exact ⟨k + 1, T, by have := HK.out; omega, by go_num, HSE.out, HT2.out, HX.out, hb3⟩
        · have hjl : j < cs.length := by omega
          obtain ⟨g2, o2, rfl, hg2, e0, e1⟩ := HL2.out.chunk hjl rfl
          have f0 := (hb3.cell (p := ⟨g2, o2 + j * 2, none⟩) hg2).trans e0
          have f1 := (hb3.cell (p := ⟨g2, o2 + j * 2 + 1, none⟩) hg2).trans e1
          have hcj := (HCO.out _ (List.getElem_mem hjl)).1
          have HAP := Lib.hid (show chunksTo fs k ++ cs.take (j + 1) = (chunksTo fs k ++ cs.take j) ++ [cs[j]] by rw [List.take_succ_eq_append_getElem hjl, ← List.append_assoc])
          have HJ := Lib.hid hj
          have HT := Lib.hid hT
          have hgk1 : gk ≠ 0 := hg1
          have hx0 : wr.cell? ⟨mb + 1, 0, none⟩ = some (.map (some mb)) := by simp [World.cell?, hX]
          have hxl := block_lt hX
          have HX := Lib.hid hX
          clear hj hg1 e0 e1 hT hX
          generalize cs[j] = cj at *
          obtain ⟨ck, cz⟩ := cj
          have hset2 := hset.alloc (.cells #[.string ck, .int .i64 cz] 122)
          have hb4 := bbox hb3 (.cells #[.string ck, .int .i64 cz] 122)
          have hcs : ck.size ≤ 1000000000000 := hcj
          have hmbl := hset.lt
          clear hset hcj
          go_wp2_with (at_mapUpdate; refine wpList_update_set rfl _ _ _ rfl mb _ T ck rfl hset2 rfl rfl hcs (by omega) ?_)
          intro w4 hset4 hgr4
          have hb5 := hb4.grown hgr4 (by have := hb3.size; simp; omega) (fun x hx => by cases hx; omega)
          have HX4 := Lib.hid ((hgr4.block (mb + 1) (by simp; omega) (fun e => by injection e with e; omega)).trans ((Below.heap_alloc wr (.cells #[.string ck, .int .i64 cz] 122) _ hxl).trans HX.out))
          have HSE := Lib.hid hset4
          clear hset2 hset4 hgr4 hb4 hx0
          go_wp2_with fail
          go_roundg (gk - 1)
          case measure => omega
          case rel => exact ⟨j + 1, ck :: T, by have := HJ.out; omega, by go_num, HSE.out, fun s => by rw [hasS_cons, HAP.out, List.map_append, hasS_append, HT.out]; simp [hasS, Bool.or_comm], HX4.out, hb5⟩
theorem newTo_sub (H : List ByteArray) (cs : List ChunkD) : ∀ c ∈ newTo H cs, c ∈ cs := by
  have : ∀ (cs out : List ChunkD), ∀ c ∈ cs.foldl (newStep H) out, c ∈ out ∨ c ∈ cs := by
    intro cs
    induction cs with
    | nil => intro out c hc; exact .inl hc
    | cons x cs ih =>
      intro out c hc
      rcases ih _ c hc with h | h
      · unfold newStep at h
        split at h
        · exact .inl h
        · rw [List.mem_append] at h
          rcases h with h | h
          · exact .inl h
          · exact .inr (by simp at h; simp [h])
      · exact .inr (by simp [h])
  intro c hc
  rcases this cs [] c hc with h | h
  · simp at h
  · exact h
theorem hasS_eq {H : List ByteArray} {s t : ByteArray} (h : (s.toList == t.toList) = true) : hasS H s = hasS H t := by
  rw [ba_ext (a := s) (b := t) (by simpa using h)]
theorem newTo_filter (H : List ByteArray) (cs : List ChunkD) : newTo H cs = (newTo [] cs).filter fun x => !hasS H x.1 := by
  have : ∀ (n : Nat) (cs : List ChunkD), cs.length = n → newTo H cs = (newTo [] cs).filter fun x => !hasS H x.1 := by
    intro n
    induction n with
    | zero => intro cs h; rw [List.eq_nil_of_length_eq_zero h]; rfl
    | succ n ih =>
      intro cs h
      obtain ⟨pre, c, rfl⟩ : ∃ pre c, cs = pre ++ [c] := by
        have hne : cs ≠ [] := by intro e; rw [e] at h; simp at h
        exact ⟨cs.dropLast, cs.getLast hne, (List.dropLast_concat_getLast hne).symm⟩
      have hp := ih pre (by simp at h; exact h)
      rw [newTo_snoc, newTo_snoc, hp]
      generalize newTo [] pre = O
      unfold newStep
      rw [List.nil_append, hasS_append]
      rcases Bool.eq_false_or_eq_true (hasS H c.1) with hc | hc
      · rw [hc, Bool.true_or, if_pos rfl]
        split
        · rfl
        · rw [List.filter_append]; simp [hc]
      · rw [hc, Bool.false_or]
        have e : hasS ((O.filter fun x => !hasS H x.1).map (·.1)) c.1 = hasS (O.map (·.1)) c.1 := by
          induction O with
          | nil => rfl
          | cons x O ih2 =>
            rw [List.map_cons, hasS_cons, ← ih2, List.filter_cons]
            by_cases hx : (x.1.toList == c.1.toList) = true
            · rw [hasS_eq (H := H) hx, hc]
              simp [hasS_cons, hx]
            · split
              · simp [hasS_cons, hx]
              · simp [hx]
        rw [e]
        split
        · rfl
        · rw [List.filter_append]; simp [hc]
  exact this _ cs rfl
theorem rise_mem {hv : List ByteArray} {s : ByteArray} (h : s ∈ riseS hv) : s ∈ hv := by
  unfold riseS at h
  obtain ⟨l, hl, rfl⟩ := List.mem_map.1 h
  unfold riseL Lib.compact Lib.compactUpTo at hl
  obtain ⟨j, hj, rfl⟩ := List.mem_map.1 hl
  have hj2 := (List.mem_filter.1 hj).1
  simp only [List.mem_range] at hj2
  have hm : (hv.map (·.data.toList)).mergeSort (fun x y => decide (x ≤ y)) |>.toArray[j]! ∈ (hv.map (·.data.toList)).mergeSort (fun x y => decide (x ≤ y)) := by
    rw [getElem!_pos _ j (by simpa using hj2)]
    simp
  rw [List.mem_mergeSort] at hm
  obtain ⟨t, ht, he⟩ := List.mem_map.1 hm
  rw [← he]
  exact ht
theorem rise_len (hv : List ByteArray) : (riseS hv).length ≤ hv.length := by
  unfold riseS riseL
  rw [List.length_map]
  have := Lib.compact_length_le ((hv.map (·.data.toList)).mergeSort fun x y => decide (x ≤ y))
  rw [List.length_mergeSort, List.length_map] at this
  exact this
open Go Go.Lib
def onceL (l : List (List UInt8)) : List (List UInt8) := compact (l.mergeSort fun x y => decide (x ≤ y))
def onceS (l : List ByteArray) : List ByteArray := (onceL (l.map (·.data.toList))).map fun l => ⟨l.toArray⟩
theorem leT : ∀ a b c : List UInt8, decide (a ≤ b) = true → decide (b ≤ c) = true → decide (a ≤ c) = true := fun a b c h1 h2 => by
 simp only [decide_eq_true_eq] at *; exact List.le_trans h1 h2
theorem leO : ∀ a b : List UInt8, (decide (a ≤ b) || decide (b ≤ a)) = true := fun a b => by
 simp only [Bool.or_eq_true, decide_eq_true_eq]; exact List.le_total a b
theorem comp_up (d : Array (List UInt8)) (hs : ∀ i j, i ≤ j → j < d.size → d[i]! ≤ d[j]!) : ∀ m, m ≤ d.size →
  (compactUpTo d m).Pairwise (fun x y => x ≤ y ∧ x ≠ y) ∧ ∀ x, x ∈ compactUpTo d m ↔ ∃ j, j < m ∧ d[j]! = x
 | 0, _ => ⟨by simp [compactUpTo], by simp [compactUpTo]⟩
 | m + 1, hm => by
  obtain ⟨h1, h2⟩ := comp_up d hs m (by omega)
  rw [compactUpTo_succ]
  cases hk : keeps d m with
  | true =>
   simp only [if_true]
   refine ⟨List.pairwise_append.2 ⟨h1, by simp, fun x hx y hy => ?_⟩, fun x => ?_⟩
   ·simp only [List.mem_singleton] at hy
    subst hy
    obtain ⟨j, hj, rfl⟩ := (h2 x).1 hx
    refine ⟨hs j m (by omega) (by omega), fun e => ?_⟩
    simp only [keeps, decide_eq_true_eq] at hk
    rcases hk with hk | hk
    ·omega
    ·have a1 := hs j (m - 1) (by omega) (by omega)
     have a2 := hs (m - 1) m (by omega) (by omega)
     rw [e] at a1
     exact hk (List.le_antisymm a1 a2)
   ·rw [List.mem_append, h2 x, List.mem_singleton]
    constructor
    ·rintro (⟨j, hj, e⟩ | rfl)
     ·exact ⟨j, by omega, e⟩
     ·exact ⟨m, by omega, rfl⟩
    ·rintro ⟨j, hj, e⟩
     by_cases hjm : j = m
     ·subst hjm; exact .inr e.symm
     ·exact .inl ⟨j, by omega, e⟩
  | false =>
   simp only [Bool.false_eq_true, if_false, List.append_nil]
   refine ⟨h1, fun x => ?_⟩
   rw [h2 x]
   simp only [keeps, decide_eq_false_iff_not, not_or, ne_eq, Decidable.not_not] at hk
   constructor
   ·rintro ⟨j, hj, e⟩; exact ⟨j, by omega, e⟩
   ·rintro ⟨j, hj, e⟩
    by_cases hjm : j = m
    ·subst hjm; exact ⟨j - 1, by omega, by rw [← e, hk.2]⟩
    ·exact ⟨j, by omega, e⟩
theorem onceL_ok (l : List (List UInt8)) : (onceL l).Pairwise (fun x y => x ≤ y ∧ x ≠ y) ∧ ∀ x, x ∈ onceL l ↔ x ∈ l := by
 have hp := List.pairwise_mergeSort leT leO l
 have hm := List.mergeSort_perm l fun x y => decide (x ≤ y)
 unfold onceL
 generalize (l.mergeSort fun x y => decide (x ≤ y)) = zs at hp hm ⊢
 have hs : ∀ i j, i ≤ j → j < zs.toArray.size → zs.toArray[i]! ≤ zs.toArray[j]! := fun i j hij hj => by
  have hj' : j < zs.length := by simpa using hj
  have e1 : zs.toArray[i]! = zs[i] := by simp [getElem!_pos, show i < zs.length by omega]
  have e2 : zs.toArray[j]! = zs[j] := by simp [getElem!_pos, hj']
  rw [e1, e2]
  by_cases e : i = j
  ·subst e; exact List.le_refl _
  ·have := List.pairwise_iff_getElem.1 hp i j (by omega) hj' (by omega)
   simpa using this
 obtain ⟨h1, h2⟩ := comp_up zs.toArray hs zs.length (by simp)
 refine ⟨h1, fun x => ?_⟩
 show x ∈ compactUpTo zs.toArray zs.length ↔ _
 rw [h2 x, ← hm.mem_iff]
 constructor
 ·rintro ⟨j, hj, rfl⟩
  have e2 : zs.toArray[j]! = zs[j] := by simp [getElem!_pos, hj]
  rw [e2]; exact List.getElem_mem hj
 ·intro hx
  obtain ⟨j, hj, e⟩ := List.getElem_of_mem hx
  exact ⟨j, hj, by rw [← e]; simp [getElem!_pos, hj]⟩
theorem onceS_mem (l : List ByteArray) (x : ByteArray) : x ∈ onceS l ↔ x ∈ l := by
 rw [onceS, List.mem_map]
 constructor
 ·rintro ⟨y, hy, rfl⟩
  obtain ⟨z, hz, rfl⟩ := List.mem_map.1 (((onceL_ok _).2 y).1 hy)
  exact hz
 ·intro hx
  exact ⟨x.data.toList, ((onceL_ok _).2 _).2 (List.mem_map.2 ⟨x, hx, rfl⟩), rfl⟩
def sumOfB (b : UInt8) : ByteArray := ⟨(List.replicate 16 b).toArray⟩
def chPairs : List ChunkD := [(sumOfB 48, 10), (sumOfB 49, 11), (sumOfB 97, 12), (sumOfB 98, 13), (sumOfB 99, 14), (sumOfB 100, 15), (sumOfB 101, 16), (sumOfB 102, 17)]
def keysR : List ByteArray := [⟨#[102, 97]⟩, ⟨#[102, 98]⟩, ⟨#[102, 99]⟩, ⟨#[102, 100]⟩, ⟨#[102, 101]⟩]
theorem pairs_ok : ∀ c ∈ chPairs, sumB c.1 = true ∧ c.1.size = 16 ∧ 10 ≤ c.2 ∧ c.2 ≤ 17 := by decide
theorem pairs_fun : ∀ c ∈ chPairs, ∀ e ∈ chPairs, c.1.data.toList = e.1.data.toList → c.2 = e.2 := by decide
theorem keys_ok : ∀ k ∈ keysR, keyB k = true ∧ k.size = 2 := by decide
theorem keys_up : keysR.Pairwise fun x y => keyLe y x = false := by
  simp only [keyLe, ByteArray.toList_eq]
  decide
structure RightFs (fs : List FileD) : Prop where
  keys : (fs.map (·.1)).Sublist keysR
  chs : ∀ f ∈ fs, (1 ≤ f.2.length ∧ f.2.length ≤ 3) ∧ ∀ c ∈ f.2, c ∈ chPairs
theorem RightFs.len {fs : List FileD} (h : RightFs fs) : fs.length ≤ 5 := by
  have := h.keys.length_le
  simpa [keysR] using this
theorem firstTo_none {f : Nat → Int} : ∀ n, (∀ i, i < n → f i = 0) → firstTo f n = 0
  | 0, _ => rfl
  | n + 1, h => firstTo_succ (firstTo_none n fun i hi => h i (by omega)) (h n (by omega))
theorem mAll_right : ∀ (n : Nat) (cs : List ChunkD), cs.length = n → (∀ c ∈ cs, c ∈ chPairs) → ∃ D, mAll cs = some D ∧ Tidy D ∧ Maps.size D ≤ cs.length ∧ ∀ c ∈ chPairs, Maps.has D (litS c.1) = true → D.atKey (litS c.1) (i64D 0) = i64D c.2
  | 0, cs, hn, _ => by
    rw [List.eq_nil_of_length_eq_zero hn]
    exact ⟨.map [], rfl, tidy_empty, Nat.le_refl _, fun c _ h => by cases h⟩
  | n + 1, cs, hn, h => by
    obtain ⟨pre, c, rfl⟩ : ∃ pre c, cs = pre ++ [c] := by
      have hne : cs ≠ [] := by intro e; rw [e] at hn; simp at hn
      exact ⟨cs.dropLast, cs.getLast hne, (List.dropLast_concat_getLast hne).symm⟩
    obtain ⟨D, e, ht, hs, hv⟩ := mAll_right n pre (by simpa using hn) fun x hx => h x (by simp [hx])
    have hc := h c (by simp)
    have e2 : mAll (pre ++ [c]) = mStep (some D) c := by
      rw [mAll, List.foldl_append]
      have e3 : pre.foldl mStep (some (.map [])) = some D := e
      rw [e3]; rfl
    have hk : WideAt.IsKeyLit (litS c.1) := by exact trivial
    have hput : mStep (some D) c = some (D.put (litS c.1) (i64D c.2)) := by
      simp only [mStep]
      rcases Bool.eq_false_or_eq_true (Maps.has D (litS c.1)) with hh | hh
      · rw [hv c hc hh, hh]
        simp [i64D, dInt]
      · rw [hh]; rfl
    refine ⟨_, e2.trans hput, ht.put hk _, ?_, fun x hx hh => ?_⟩
    · rw [size_put ht]
      simp only [List.length_append, List.length_singleton]
      split <;> omega
    · by_cases ek : litS x.1 = litS c.1
      · rw [ek, atKey_put_same ht.isMap hk]
        have : x.1.data.toList = c.1.data.toList := by
          simp only [litS, Lit.string.injEq] at ek; exact ek
        rw [pairs_fun x hx c hc this]
      · rw [atKey_put_other ek]
        rw [has_put_other ek] at hh
        exact hv x hx hh
theorem allC_right {fs : List FileD} (h : RightFs fs) : (∀ c ∈ allC fs, c ∈ chPairs) ∧ (allC fs).length ≤ 15 := by
  have e : allC fs = fs.flatMap (·.2) := by unfold allC chunksTo; rw [List.take_length]
  rw [e]
  refine ⟨fun c hc => ?_, ?_⟩
  · obtain ⟨f, hf, hx⟩ := List.mem_flatMap.1 hc
    exact (h.chs f hf).2 c hx
  · have : ∀ l : List FileD, (∀ f ∈ l, f.2.length ≤ 3) → (l.flatMap (·.2)).length ≤ 3 * l.length := fun l => by
      induction l with
      | nil => simp
      | cons f l ih =>
        intro h
        have h1 := h f (by simp)
        have h2 := ih fun g hg => h g (by simp [hg])
        rw [List.flatMap_cons, List.length_append, List.length_cons]; omega
    have h1 := this fs fun f hf => (h.chs f hf).1.2
    have := h.len
    omega
theorem right_files {fs : List FileD} (h : RightFs fs) : manF 1 fs = 0 := by
  have hl := h.len
  have h1 : firstTo (fiF fs) fs.length = 0 := firstTo_none _ fun i hi => by
    have hm : ∀ j (hj : j < fs.length), fAt fs j = fs[j] := fun j hj => by simp [fAt, List.getD, List.getElem?_eq_getElem hj]
    have hkm : ∀ j (hj : j < fs.length), fs[j].1 ∈ keysR := fun j hj => h.keys.subset (List.mem_map.2 ⟨_, List.getElem_mem hj, rfl⟩)
    have hf := h.chs _ (List.getElem_mem hi)
    unfold fiF
    rw [hm i hi, if_pos (keys_ok _ (hkm i hi)).1]
    have hlt : (decide (0 < i) && keyLe fs[i].1 (fAt fs (i - 1)).1) = false := by
      by_cases h0 : 0 < i
      · rw [hm (i - 1) (by omega)]
        have hp := keys_up.sublist h.keys
        have := List.pairwise_iff_getElem.1 hp (i - 1) i (by simp; omega) (by simpa using hi) (by omega)
        simp only [List.getElem_map] at this
        rw [this]; simp
      · simp [h0]
    rw [hlt]
    rw [if_neg (by decide), if_neg (by omega)]
    refine firstTo_none _ fun j hj => ?_
    unfold chsF chF
    have hc : fs[i].2.getD j (⟨#[]⟩, 0) ∈ chPairs := by
      rw [List.getD_eq_getElem?_getD, List.getElem?_eq_getElem hj]
      exact hf.2 _ (List.getElem_mem hj)
    obtain ⟨c1, c2, c3, c4⟩ := pairs_ok _ hc
    rw [if_pos c1, if_neg]
    unfold outsideB
    simp only [Bool.or_eq_true, decide_eq_true_eq]
    omega
  obtain ⟨D, e, ht, hs, _⟩ := mAll_right _ _ rfl (allC_right h).1
  have hc := (allC_right h).2
  unfold manF filesF
  rw [if_neg (by decide), if_neg (by omega), if_pos h1]
  have e2 : mAll (chunksTo fs fs.length) = some D := e
  rw [e2]
  show sizeF (Maps.size D) = 0
  unfold sizeF
  rw [if_neg (by omega)]
theorem hasS_mem {S : List ByteArray} {s : ByteArray} : hasS S s = true ↔ s ∈ S := by
  unfold hasS
  rw [List.any_eq_true]
  constructor
  · rintro ⟨t, ht, e⟩
    have : t = s := ba_ext (by simpa using e)
    rw [← this]; exact ht
  · intro h; exact ⟨s, h, by simp⟩
theorem new_fresh (H : List ByteArray) : ∀ (n : Nat) (cs : List ChunkD), cs.length = n → ∀ j, j < (newTo H cs).length → ((newTo H cs).getD j (⟨#[]⟩, 0)).1 ∉ H ++ ((newTo H cs).take j).map (·.1)
  | 0, cs, hn, j, hj => by rw [List.eq_nil_of_length_eq_zero hn] at hj; exact absurd hj (by simp [newTo])
  | n + 1, cs, hn, j, hj => by
    obtain ⟨pre, c, rfl⟩ : ∃ pre c, cs = pre ++ [c] := by
      have hne : cs ≠ [] := by intro e; rw [e] at hn; simp at hn
      exact ⟨cs.dropLast, cs.getLast hne, (List.dropLast_concat_getLast hne).symm⟩
    have ih := new_fresh H n pre (by simpa using hn)
    rw [newTo_snoc] at hj ⊢
    unfold newStep at hj ⊢
    generalize newTo H pre = O at *
    split
    · rename_i hc; rw [if_pos hc] at hj; exact ih j hj
    · rename_i hc
      rw [if_neg hc] at hj
      simp only [List.length_append, List.length_singleton] at hj
      by_cases h1 : j < O.length
      · rw [List.getD_eq_getElem?_getD, List.getElem?_append_left h1, ← List.getD_eq_getElem?_getD, List.take_append_of_le_length (by omega)]
        exact ih j h1
      · have : j = O.length := by omega
        subst this
        rw [List.getD_eq_getElem?_getD, List.getElem?_append_right (Nat.le_refl _)]
        simp only [Nat.sub_self, List.getElem?_cons_zero, Option.getD_some, List.take_left]
        intro h
        exact hc (hasS_mem.2 h)
theorem new_mem (H : List ByteArray) (cs : List ChunkD) : ∀ c ∈ newTo H cs, c ∈ cs := newTo_sub H cs
theorem none_missing (H : List ByteArray) (cs : List ChunkD) : newTo (H ++ (newTo H cs).map (·.1)) cs = [] := by
  rw [newTo_filter (H ++ (newTo H cs).map (·.1))]
  refine List.filter_eq_nil_iff.2 fun x hx => ?_
  simp only [Bool.not_eq_true', Bool.not_eq_false]
  rw [hasS_mem]
  rcases Bool.eq_false_or_eq_true (hasS H x.1) with hh | hh
  · exact List.mem_append_left _ (hasS_mem.1 hh)
  · refine List.mem_append_right _ (List.mem_map.2 ⟨x, ?_, rfl⟩)
    rw [newTo_filter H]
    exact List.mem_filter.2 ⟨hx, by rw [hh]; rfl⟩
theorem riseS_once (hv : List ByteArray) : riseS hv = onceS hv := rfl
theorem sorted_eq {l m : List (List UInt8)} (hl : l.Pairwise fun x y => x ≤ y ∧ x ≠ y) (hm : m.Pairwise fun x y => x ≤ y ∧ x ≠ y) (h : ∀ x, x ∈ l ↔ x ∈ m) : l = m := by
  have n1 : l.Nodup := hl.imp fun h => h.2
  have n2 : m.Nodup := hm.imp fun h => h.2
  exact List.Perm.eq_of_pairwise (le := fun x y => x ≤ y) (fun a b _ _ h1 h2 => List.le_antisymm h1 h2) (hl.imp fun h => h.1) (hm.imp fun h => h.1) ((List.perm_ext_iff_of_nodup n1 n2).2 h)
theorem once_data (l : List ByteArray) : (onceS l).map (·.data.toList) = onceL (l.map (·.data.toList)) := by
  unfold onceS
  rw [List.map_map]
  have : ((fun x : ByteArray => x.data.toList) ∘ fun l : List UInt8 => (⟨l.toArray⟩ : ByteArray)) = id := by funext x; simp
  rw [this, List.map_id]
theorem spare_same (fs : List FileD) (H X : List ByteArray) (hX : ∀ x ∈ X, x ∈ (allC fs).map (·.1)) : spareS fs (H ++ X) = spareS fs H := by
  have inj : ∀ l m : List ByteArray, l.map (·.data.toList) = m.map (·.data.toList) → l = m := fun l m e => by
    have h1 : ∀ l : List ByteArray, (l.map (·.data.toList)).map (fun l => (⟨l.toArray⟩ : ByteArray)) = l := fun l => by
      rw [List.map_map]
      have : ((fun l : List UInt8 => (⟨l.toArray⟩ : ByteArray)) ∘ fun x : ByteArray => x.data.toList) = id := by funext x; simp
      rw [this, List.map_id]
    rw [← h1 l, ← h1 m, e]
  have srt : ∀ hv, ((spareS fs hv).map (·.data.toList)).Pairwise fun x y => x ≤ y ∧ x ≠ y := fun hv => by
    have h1 := (onceL_ok (hv.map (·.data.toList))).1
    rw [← once_data] at h1
    exact h1.sublist ((List.filter_sublist).map _)
  apply inj
  refine sorted_eq (srt _) (srt _) fun x => ?_
  simp only [List.mem_map]
  constructor
  · rintro ⟨s, hs, rfl⟩
    obtain ⟨h1, h2⟩ := List.mem_filter.1 hs
    refine ⟨s, List.mem_filter.2 ⟨?_, h2⟩, rfl⟩
    rw [riseS_once, onceS_mem] at h1 ⊢
    rcases List.mem_append.1 h1 with h3 | h3
    · exact h3
    · rw [hasS_mem.2 (hX s h3)] at h2; cases h2
  · rintro ⟨s, hs, rfl⟩
    obtain ⟨h1, h2⟩ := List.mem_filter.1 hs
    refine ⟨s, List.mem_filter.2 ⟨?_, h2⟩, rfl⟩
    rw [riseS_once, onceS_mem] at h1 ⊢
    exact List.mem_append_left _ h1
theorem haveF_more {H X : List ByteArray} (h : haveF H = 0) (hX : ∀ x ∈ X, sumB x = true) (hl : H.length + X.length ≤ 1000) : haveF (H ++ X) = 0 := by
  have h1 : firstTo (suF H) H.length = 0 := by
    unfold haveF at h
    rwa [if_neg (by omega)] at h
  unfold haveF
  rw [if_neg (by simp; omega)]
  refine firstTo_none _ fun i hi => ?_
  have h2 : ∀ x ∈ H, sumB x = true := fun x hx => by
    obtain ⟨k, hk, rfl⟩ := List.getElem_of_mem hx
    cases e : sumB H[k] with
    | true => rfl
    | false =>
      exfalso
      have e1 := suF_at H hk
      rw [e] at e1
      have : ∀ n, k < n → firstTo (suF H) n ≠ 0 := fun n hn hz => by
        induction n with
        | zero => omega
        | succ n ih =>
          rw [firstTo] at hz
          split at hz
          · rename_i h0
            by_cases hkn : k = n
            · subst hkn; rw [e1] at hz; cases hz
            · exact ih (by omega) h0
          · rename_i h0; exact h0 hz
      exact this _ hk h1
  unfold suF
  have hm : (H ++ X).getD i ⟨#[]⟩ ∈ H ++ X := by
    rw [List.getD_eq_getElem?_getD, List.getElem?_eq_getElem hi]; exact List.getElem_mem hi
  rw [if_pos]
  rcases List.mem_append.1 hm with h3 | h3
  · exact h2 _ h3
  · exact hX _ h3
attribute [local go_sem ↓] Go.wp_at_zero Go.wp_at_succ
theorem pairs_at (t : ByteArray) (z : Int) (h : 0 < t.size) (h1 : (t, z) ∈ chPairs) (h2 : (10 : Int) + Lib.indexByte [48, 49, 97, 98, 99, 100, 101, 102] (((t.data.toList.headD 0).toNat : Int).toNat.toUInt8) = z) :
    (t, (10 : Int) + Lib.indexByte [48, 49, 97, 98, 99, 100, 101, 102] (((t[0]'h).toNat : Int).toNat.toUInt8)) ∈ chPairs := by
  have e : t[0]'h = t.data.toList.headD 0 := by
    obtain ⟨⟨l⟩⟩ := t
    cases l with
    | nil => exact absurd h (by decide)
    | cons x l => rfl
  rw [e, h2]
  exact h1
theorem pair_of (t : ByteArray) (ht : t ∈ chPairs.map (·.1)) (h : 0 < t.size) : (t, (10 : Int) + Lib.indexByte [48, 49, 97, 98, 99, 100, 101, 102] (((t[0]'h).toNat : Int).toNat.toUInt8)) ∈ chPairs := by
  obtain ⟨c, hc, rfl⟩ := List.mem_map.1 ht
  simp only [chPairs, List.mem_cons, List.not_mem_nil, or_false] at hc
  rcases hc with rfl | rfl | rfl | rfl | rfl | rfl | rfl | rfl <;> first | exact pairs_at _ 10 _ (by simp [chPairs]) (by decide) | exact pairs_at _ 11 _ (by simp [chPairs]) (by decide) | exact pairs_at _ 12 _ (by simp [chPairs]) (by decide) | exact pairs_at _ 13 _ (by simp [chPairs]) (by decide) | exact pairs_at _ 14 _ (by simp [chPairs]) (by decide) | exact pairs_at _ 15 _ (by simp [chPairs]) (by decide) | exact pairs_at _ 16 _ (by simp [chPairs]) (by decide) | exact pairs_at _ 17 _ (by simp [chPairs]) (by decide)
set_option maxRecDepth 100000 in
set_option maxHeartbeats 400000 in
theorem gsumR_any (b M : Nat) (w : World) (hs : IsStream 25 w b M) (hM : M ≤ 1000000000000000) :
    Calls Tryz.prog 113 #[.pointer (some ⟨b, 0, none⟩)] w (GoesStr 25 b M 1 (fun r => r ∈ chPairs.map (·.1)) w) := by
  have hlt := hs.lt
  go_enter Tryz.func113, Tryz.ntmps113
  go_wp2_with fail
  refine (some_any b M w.heap.size [⟨#[48]⟩, ⟨#[49]⟩, ⟨#[97]⟩, ⟨#[98]⟩, ⟨#[99]⟩, ⟨#[100]⟩, ⟨#[101]⟩, ⟨#[102]⟩] 8 8 _ 9 (hs.alloc _) (by omega) rfl (by omega) (by omega) (heap_alloc_new _ _) (by omega)).mono ?_
  rintro e w1 ⟨r, hr, rfl, hg1⟩
  have hr1 : r.size = 1 := by
    have := List.all_eq_true.1 (show ([⟨#[48]⟩, ⟨#[49]⟩, ⟨#[97]⟩, ⟨#[98]⟩, ⟨#[99]⟩, ⟨#[100]⟩, ⟨#[101]⟩, ⟨#[102]⟩] : List ByteArray).all (fun r => decide (r.size = 1)) = true by decide) r hr
    simpa using this
  have hr2 : (⟨(Lib.repeatL r.data.toList 16).toArray⟩ : ByteArray) ∈ chPairs.map (·.1) := by
    simp only [List.mem_cons, List.not_mem_nil, or_false] at hr
    have key : ∀ b ∈ ([48, 49, 97, 98, 99, 100, 101, 102] : List UInt8), (⟨(Lib.repeatL (⟨#[b]⟩ : ByteArray).data.toList 16).toArray⟩ : ByteArray) ∈ chPairs.map (·.1) := fun b hb => by
      simp only [List.mem_cons, List.not_mem_nil, or_false] at hb
      rcases hb with rfl | rfl | rfl | rfl | rfl | rfl | rfl | rfl <;> (simp only [chPairs, List.map_cons, List.map_nil, List.mem_cons]; first | exact .inl rfl | exact .inr (.inl rfl) | exact .inr (.inr (.inl rfl)) | exact .inr (.inr (.inr (.inl rfl))) | exact .inr (.inr (.inr (.inr (.inl rfl)))) | exact .inr (.inr (.inr (.inr (.inr (.inl rfl))))) | exact .inr (.inr (.inr (.inr (.inr (.inr (.inl rfl)))))) | exact .inr (.inr (.inr (.inr (.inr (.inr (.inr (.inl rfl))))))))
    rcases hr with rfl | rfl | rfl | rfl | rfl | rfl | rfl | rfl <;> exact key _ (by decide)
  have HR := Lib.hid hr1
  have HR2 := Lib.hid hr2
  clear hr hr1 hr2
  go_wp2_with fail
  refine (Tryz.strings_Repeat r 16 _ (by omega) (by rw [HR.out]; omega)).mono ?_
  rintro e w2 ⟨rfl, hb2⟩
  go_wp2_with fail
  go_ret
  exact ⟨_, HR2.out, rfl, hg1.of_alloc.below hb2⟩
def ChunksGenRelR (b M : Nat) (w : World) (n : Nat) (g : Nat) (out i : Value) (wr : World) : Prop :=
  ∃ (k : Nat) (cs : List (ByteArray × Int)), k + g = n ∧ i = .int .i64 k ∧ cs.length = k ∧ (∀ c ∈ cs, c ∈ chPairs) ∧ wr.ownsRow w.heap.size 122 2 out k (cs.flatMap chC) ∧ Goes 25 b M (1 + k) w wr
def GoesChunksR (b M : Nat) (w : World) (e : Ending) (w' : World) : Prop :=
  ∃ (v : Value) (cs : List (ByteArray × Int)), e = .returned v ∧ 1 ≤ cs.length ∧ cs.length ≤ 3 ∧ (∀ c ∈ cs, c ∈ chPairs) ∧ w'.ownsRow w.heap.size 122 2 v cs.length (cs.flatMap chC) ∧ Goes 25 b M 4 w w'
set_option maxRecDepth 100000 in
set_option maxHeartbeats 1000000 in
theorem gchunksR_any (b M : Nat) (w : World) (hs : IsStream 25 w b M) (hM : M ≤ 100000000000000) :
    Calls Tryz.prog 112 #[.pointer (some ⟨b, 0, none⟩)] w (GoesChunksR b M w) := by
  have hlt := hs.lt
  obtain ⟨i0, hi, hz0, hz1, hz2⟩ := info_parts infoCh
  go_enter Tryz.func112, Tryz.ntmps112
  go_wp2_with fail
  refine (range_any b M _ _ _ hs (by omega) (by omega) (by omega) (by omega)).mono ?_
  rintro e w1 ⟨r, ⟨hr0, hr1⟩, rfl, hg1⟩
  obtain ⟨n, rfl⟩ := Int.eq_ofNat_of_zero_le (show 0 ≤ r by omega)
  go_wp2_with fail
  go_loopg [3, 7, 4] n (fun g out i _ wr => ChunksGenRelR b M w n g out i wr)
  case atStart => exact ⟨0, [], by omega, rfl, rfl, by simp, World.ownsRow_nil _ _ _ _, hg1⟩
  case round =>
    obtain ⟨k, cs, hk, rfl, hl, hok, hown, hgo⟩ := hrel
    have HL := Lib.hid hl
    have HO := Lib.hid hok
    clear hl hok
    by_cases hg : gk = 0
    · obtain rfl : k = n := by omega
      go_wp2_with fail
      go_ret
      refine ⟨_, cs, rfl, by have := HL.out; omega, by have := HL.out; omega, HO.out, ?_, hgo.more (by omega)⟩
      have := HL.out
      rw [this]
      exact hown
    · have HK := Lib.hid hk
      have hkn : k < n := by omega
      clear hk
      have hsz := hgo.gb.size
      go_wp2_with fail
      refine (gsumR_any b (M + (1 + k)) _ hgo.is (by omega)).mono ?_
      rintro e w2 ⟨t, ht, rfl, hg2⟩
      have ht16 : t.size = 16 := by
        obtain ⟨c, hc, rfl⟩ := List.mem_map.1 ht
        exact (pairs_ok c hc).2.1
      have ht0 : (0 : Int) < (t.size : Int) := by omega
      have HT := Lib.hid ht16
      have HP := Lib.hid (fun hq : 0 < t.size => pair_of t ht hq)
      clear ht ht16
      go_wp2_with fail
      refine (Tryz.strings_IndexByte ⟨#[48, 49, 97, 98, 99, 100, 101, 102]⟩ _ _).mono ?_
      rintro e w3 ⟨rfl, hw3⟩
      obtain rfl := hw3.symm
      have hi1 := Lib.indexByte_ge [48, 49, 97, 98, 99, 100, 101, 102] (((t[0]'(by omega)).toNat : Int).toNat.toUInt8)
      have hi2 := indexByte_le [48, 49, 97, 98, 99, 100, 101, 102] (((t[0]'(by omega)).toNat : Int).toNat.toUInt8)
      have hpp := HP.out (by omega)
      clear HP
      show _
      generalize hix : Lib.indexByte [48, 49, 97, 98, 99, 100, 101, 102] (((t[0]'(by omega)).toNat : Int).toNat.toUInt8) = ix at *
      have HP := Lib.hid hpp
      clear hpp
      simp only [List.length_cons, List.length_nil] at hi2
      clear hix
      have hown2 := ownsRow_gb hown hg2.gb hlt
      have hgo2 := hgo.trans hg2 (Nat.le_refl _)
      have hsz2 := hgo2.gb.size
      go_wp2_with (at_builtin; refine wpList_append_own _ rfl _ _ 117 rfl w.heap.size 122 i0 (.agg #[.string ⟨#[]⟩, .int .i64 0]) 2 24 Tryz.underlying117 hi hz0 hz1 hz2 rfl (by decide) _ _ _ rfl (hown2.alloc _) ⟨w2.heap.size, 0, none⟩ 1 1 [.string t, .int .i64 (10 + ix)] rfl rfl ?c1 ?c2 ?c3 ?c4 ?c5 ?_)
      case c1 => exact cells_new w2 [.string t, .int .i64 (10 + ix)] _
      case c2 => intro u hu; simp at hu; rcases hu with rfl | rfl <;> rfl
      case c3 => unfold maxLen; omega
      case c4 => omega
      case c5 => simp; omega
      intro v' w3 hown3 hgrow _
      have hgo3 := (hgo2.alloc (.cells #[.string t, .int .i64 (10 + ix)] 122)).grown hgrow hlt (fun x hx => (hown2.lt x hx).1)
      go_wp2_with fail
      go_roundg (gk - 1)
      case measure => omega
      case rel =>
        refine ⟨k + 1, cs ++ [(t, 10 + ix)], by have := HK.out; omega, by go_num, by have := HL.out; simp [this], ?_, ?_, hgo3.more (by omega)⟩
        · intro c hc
          rcases List.mem_append.1 hc with h | h
          · exact HO.out c h
          · simp at h; subst h
            exact HP.out
        · rw [List.flatMap_append]; exact hown3
def ChWfR (w : World) (base lo : Nat) (v : Value) : Prop := ∃ cs : List (ByteArray × Int), lo ≤ cs.length ∧ cs.length ≤ 3 ∧ (∀ c ∈ cs, c ∈ chPairs) ∧ w.ownsRow base 122 2 v cs.length (cs.flatMap chC)
def FiWfR (w : World) (base lo : Nat) (v : Value) (n k : Nat) : Prop := ∃ fs : List (ByteArray × Value), (fs.length = n ∧ (fs.map (·.1)).Sublist (keysR.take k)) ∧ w.ownsRow base 221 2 v n (fs.flatMap fiC) ∧ ∀ f ∈ fs, ChWfR w base lo f.2
theorem ChWfR.gb {w w' : World} {base lo b : Nat} {v : Value} (h : ChWfR w base lo v) (hg : w.grownBy w' (some b)) (hb : b < base) : ChWfR w' base lo v :=
  let ⟨cs, h1, h2, h3, h4⟩ := h; ⟨cs, h1, h2, h3, ownsRow_gb h4 hg hb⟩
theorem ChWfR.mono {w : World} {base base' lo : Nat} {v : Value} (h : ChWfR w base lo v) (hb : base' ≤ base) : ChWfR w base' lo v :=
  let ⟨cs, h1, h2, h3, h4⟩ := h; ⟨cs, h1, h2, h3, ownsRow_base h4 hb⟩
theorem FiWfR.gb {w w' : World} {base lo b n k : Nat} {v : Value} (h : FiWfR w base lo v n k) (hg : w.grownBy w' (some b)) (hb : b < base) : FiWfR w' base lo v n k :=
  let ⟨fs, h1, h2, h3⟩ := h; ⟨fs, h1, ownsRow_gb h2 hg hb, fun f hf => (h3 f hf).gb hg hb⟩
theorem ChWfR.below {w w' : World} {base lo : Nat} {v : Value} (h : ChWfR w base lo v) (hb : Below w.heap.size w w') : ChWfR w' base lo v :=
  let ⟨cs, h1, h2, h3, h4⟩ := h; ⟨cs, h1, h2, h3, ownsRow_below h4 hb⟩
theorem FiWfR.below {w w' : World} {base lo n k : Nat} {v : Value} (h : FiWfR w base lo v n k) (hb : Below w.heap.size w w') : FiWfR w' base lo v n k :=
  let ⟨fs, h1, h2, h3⟩ := h; ⟨fs, h1, ownsRow_below h2 hb, fun f hf => (h3 f hf).below hb⟩
def RmRelR (b M : Nat) (w : World) (no : Int) (g : Nat) (i : Value) (wr : World) : Prop :=
  ∃ (k n : Nat) (v : Value), k + g = 5 ∧ i = .int .i64 k ∧ n ≤ k ∧ FiWfR wr (w.heap.size + 3) 1 v n k ∧
    wr.heap[w.heap.size]? = some (.cells #[.int .i64 0, .slice none 0 0] 113 (0, 0)) ∧ wr.heap[w.heap.size + 1]? = some (.cells #[.int .i64 no, v] 113 (0, 0)) ∧
    wr.heap[w.heap.size + 1 + 1]? = some (.cells #[.string ⟨#[102, 97]⟩, .string ⟨#[102, 98]⟩, .string ⟨#[102, 99]⟩, .string ⟨#[102, 100]⟩, .string ⟨#[102, 101]⟩] 9 (0, 0)) ∧ Goes 25 b M (5 * k) w wr
theorem ChWfR.keep {w w' : World} {base lo : Nat} {v : Value} (h : ChWfR w base lo v) (hk : ∀ k, base ≤ k → k < w.heap.size → w'.heap[k]? = w.heap[k]?) : ChWfR w' base lo v :=
  let ⟨cs, h1, h2, h3, h4⟩ := h; ⟨cs, h1, h2, h3, ownsRow_keep h4 hk⟩
theorem FiWfR.keep {w w' : World} {base lo n k : Nat} {v : Value} (h : FiWfR w base lo v n k) (hk : ∀ k, base ≤ k → k < w.heap.size → w'.heap[k]? = w.heap[k]?) : FiWfR w' base lo v n k :=
  let ⟨fs, h1, h2, h3⟩ := h; ⟨fs, h1, ownsRow_keep h2 hk, fun f hf => (h3 f hf).keep hk⟩
theorem FiWfR.mono {w : World} {base base' lo n k : Nat} {v : Value} (h : FiWfR w base lo v n k) (hb : base' ≤ base) : FiWfR w base' lo v n k :=
  let ⟨fs, h1, h2, h3⟩ := h; ⟨fs, h1, ownsRow_base h2 hb, fun f hf => (h3 f hf).mono hb⟩
theorem FiWfR.up {w : World} {base lo n k : Nat} {v : Value} (h : FiWfR w base lo v n k) : FiWfR w base lo v n (k + 1) :=
  let ⟨fs, h1, h2, h3⟩ := h; ⟨fs, ⟨h1.1, h1.2.trans (List.take_sublist_take_left (by omega))⟩, h2, h3⟩
theorem fi_formR {w : World} {base lo n k : Nat} {v : Value} (h : FiWfR w base lo v n k) : ∃ A m c, v = .slice A m c := by
  obtain ⟨fs, _, h2, _⟩ := h
  rcases h2.2 with ⟨rfl, _⟩ | ⟨g, cap, cur, rfl, _⟩
  · exact ⟨_, _, _, rfl⟩
  · exact ⟨_, _, _, rfl⟩
theorem rm_stepR {b M k n gg cap : Nat} {w w1 w2 w3 : World} {no : Int} {v cv : Value} {key : ByteArray} {fs : List (ByteArray × Value)} {cs : List (ByteArray × Int)} {lc : Array Value} {o : Obj}
    (hlt : b < w.heap.size) (hgo1 : Goes 25 b M (5 * k + 1) w w1) (hkey : keysR[k]? = some key) (hfo : w1.ownsRow (w.heap.size + 3) 221 2 v n (fs.flatMap fiC)) (hfl : fs.length = n ∧ (fs.map (·.1)).Sublist (keysR.take k)) (hfw : ∀ f ∈ fs, ChWfR w1 (w.heap.size + 3) 1 f.2)
    (hR : w1.heap[w.heap.size]? = some (.cells #[.int .i64 0, .slice none 0 0] 113 (0, 0))) (hm : w1.heap[w.heap.size + 1]? = some (.cells #[.int .i64 no, v] 113 (0, 0))) (hl : w1.heap[w.heap.size + 1 + 1]? = some (.cells lc 9 (0, 0)))
    (hc1 : 1 ≤ cs.length) (hc3 : cs.length ≤ 3) (hok : ∀ c ∈ cs, c ∈ chPairs) (hown2 : w2.ownsRow w1.drew.heap.size 122 2 cv cs.length (cs.flatMap chC)) (hg2 : Goes 25 b (M + (5 * k + 1)) 4 w1.drew w2) (hbase : w.heap.size + 3 ≤ w1.heap.size)
    (hown3 : w3.ownsRow (w.heap.size + 3) 221 2 (.slice (some ⟨gg, 0, none⟩) (n + 1) cap) (n + 1) (fs.flatMap fiC ++ [.string key, cv])) (hgrow : (w2.alloc o).grownBy w3 v.ownBlock) :
    FiWfR (w3.setCell ⟨w.heap.size + 1, 1, none⟩ (.slice (some ⟨gg, 0, none⟩) (n + 1) cap)) (w.heap.size + 3) 1 (.slice (some ⟨gg, 0, none⟩) (n + 1) cap) (n + 1) (k + 1) ∧
    (w3.setCell ⟨w.heap.size + 1, 1, none⟩ (.slice (some ⟨gg, 0, none⟩) (n + 1) cap)).heap[w.heap.size]? = some (.cells #[.int .i64 0, .slice none 0 0] 113 (0, 0)) ∧
    (w3.setCell ⟨w.heap.size + 1, 1, none⟩ (.slice (some ⟨gg, 0, none⟩) (n + 1) cap)).heap[w.heap.size + 1]? = some (.cells #[.int .i64 no, .slice (some ⟨gg, 0, none⟩) (n + 1) cap] 113 (0, 0)) ∧
    (w3.setCell ⟨w.heap.size + 1, 1, none⟩ (.slice (some ⟨gg, 0, none⟩) (n + 1) cap)).heap[w.heap.size + 1 + 1]? = some (.cells lc 9 (0, 0)) ∧
    Goes 25 b M (5 * k + 5) w (w3.setCell ⟨w.heap.size + 1, 1, none⟩ (.slice (some ⟨gg, 0, none⟩) (n + 1) cap)) := by
  have hz2 : w1.heap.size ≤ w2.heap.size := hg2.gb.size
  have bk2 : ∀ x, x < w1.heap.size → x ≠ b → w2.heap[x]? = w1.heap[x]? := fun x h1 h2 => hg2.gb.block x h1 (fun e => by injection e with e; omega)
  have bk3 : ∀ x, x < w2.heap.size → some x ≠ v.ownBlock → w3.heap[x]? = w2.heap[x]? := fun x h1 h2 => (hgrow.block x (by simp; omega) h2).trans (Below.heap_alloc w2 o x h1)
  have small : ∀ x, x < w.heap.size + 3 → some x ≠ v.ownBlock := fun x hx => own_ne hfo hx
  have put : ∀ x, x ≠ w.heap.size + 1 → (w3.setCell ⟨w.heap.size + 1, 1, none⟩ (.slice (some ⟨gg, 0, none⟩) (n + 1) cap)).heap[x]? = w3.heap[x]? := fun x hx => Below.heap_setCell _ _ _ _ hx
  have hm3 : w3.heap[w.heap.size + 1]? = some (.cells #[.int .i64 no, v] 113 (0, 0)) :=
    (bk3 _ (by have := block_lt hm; omega) (small _ (by omega))).trans ((bk2 _ (block_lt hm) (by omega)).trans hm)
  have chk : ∀ (lo : Nat) (u : Value), ChWfR w2 (w.heap.size + 3) lo u → ChWfR (w3.setCell ⟨w.heap.size + 1, 1, none⟩ (.slice (some ⟨gg, 0, none⟩) (n + 1) cap)) (w.heap.size + 3) lo u := by
    rintro lo u ⟨cs', h1, h2, h3, h4⟩
    have hv2 : (w2.alloc o).ownsRow (w.heap.size + 3) 221 2 v n (fs.flatMap fiC) := (ownsRow_gb (w := w1.drew) hfo hg2.gb (by omega)).alloc o
    have h5 : w3.ownsRow (w.heap.size + 3) 122 2 u cs'.length (cs'.flatMap chC) := (h4.alloc o).kept hgrow (ownsRow_ne (h4.alloc o) hv2 (by decide))
    exact ⟨cs', h1, h2, h3, ownsRow_keep h5 (fun x hx _ => put x (by omega))⟩
  refine ⟨⟨fs ++ [(key, cv)], ⟨by simp [hfl.1], by
    rw [List.map_append, List.take_add_one, hkey]
    exact List.Sublist.append hfl.2 (List.Sublist.refl _)⟩, ?_, ?_⟩, ?_, ?_, ?_, ?_⟩
  · have : (fs ++ [(key, cv)]).flatMap fiC = fs.flatMap fiC ++ [.string key, cv] := by rw [List.flatMap_append]; rfl
    rw [this]
    exact ownsRow_keep hown3 (fun x hx _ => put x (by omega))
  · intro f hf
    rcases List.mem_append.1 hf with h | h
    · exact chk 1 _ ((hfw f h).keep (fun x hx h2 => bk2 x h2 (by omega)))
    · simp at h
      subst h
      exact chk 1 _ ⟨cs, hc1, hc3, hok, ownsRow_base hown2 hbase⟩
  · rw [put _ (by omega), bk3 _ (by have := block_lt hR; omega) (small _ (by omega)), bk2 _ (block_lt hR) (by omega)]; exact hR
  · exact stream_set hm3
  · rw [put _ (by omega), bk3 _ (by have := block_lt hl; omega) (small _ (by omega)), bk2 _ (block_lt hl) (by omega)]; exact hl
  · have g1 : Goes 25 b M (5 * k + 5) w w2 := Goes.trans (w1 := w1.drew) (j := 4) ⟨hgo1.is, gb_drew hgo1.gb⟩ hg2 (by omega)
    have g2 := (g1.alloc o).grown hgrow hlt (fun x hx => by have := (hfo.lt x hx).1; omega)
    exact g2.setCell hlt (by show w.heap.size ≤ w.heap.size + 1; omega) _
set_option maxRecDepth 100000 in
set_option maxHeartbeats 2000000 in
theorem rightManifestR_any (b M : Nat) (no : Int) (w : World) (hs : IsStream 25 w b M) (hM : M ≤ 10000000000000) :
    Calls Tryz.prog 52 #[.pointer (some ⟨b, 0, none⟩), .int .i64 no] w fun e w' => ∃ (v : Value) (n : Nat), n ≤ 5 ∧ e = .returned (.agg #[.int .i64 no, v]) ∧ FiWfR w' w.heap.size 1 v n 5 ∧ Goes 25 b M 25 w w' := by
  have hlt := hs.lt
  obtain ⟨i0, hi, hz0, hz1, hz2⟩ := info_parts infoFile
  go_enter Tryz.func52, Tryz.ntmps52
  go_wp2_with fail
  go_loopg [12, 7] 5 (fun g i _ wr => RmRelR b M w no g i wr)
  case atStart =>
    refine ⟨0, 0, .slice none 0 0, by omega, rfl, by omega, ⟨[], ⟨rfl, List.nil_sublist _⟩, World.ownsRow_nil _ _ _ _, by simp⟩, ?_, ?_, ?_, (((Goes.refl hs).alloc _).alloc _).alloc _⟩
    · rw [Below.heap_alloc _ _ _ (by simp; omega), Below.heap_alloc _ _ _ (by simp)]; exact heap_alloc_new w _
    · rw [Below.heap_alloc _ _ _ (by simp)]; exact heap_new_at (by simp) _
    · exact heap_new_at (by simp) _
  case round =>
    obtain ⟨k, n, v, hk, rfl, hn, hf, hR, hm, hl, hgo⟩ := hrel
    have hR0 := (stream_cells hR).1; have hR1 := (stream_cells hR).2.1; have hRf0 := (stream_cells hR).2.2.1; have hRf1 := (stream_cells hR).2.2.2
    have hm0 := (stream_cells hm).1; have hm1 := (stream_cells hm).2.1
    have hz := hgo.gb.size
    have hmz := block_lt hm
    by_cases hg : gk = 0
    · obtain rfl : k = 5 := by omega
      obtain ⟨A, n', c, rfl⟩ := fi_formR hf
      go_wp2_with fail
      refine bodyPost_ret (v := .agg #[.int .i64 no, .slice A n' c]) (by simp [results, Tryz.results52, go_sem, hR0, hR1]) rfl ⟨_, n, hn, rfl, ?_, ((hgo.setCell hlt (p := ⟨w.heap.size, 0, none⟩) (Nat.le_refl _) _).setCell hlt (p := ⟨w.heap.size, 1, none⟩) (Nat.le_refl _) _)⟩
      exact (hf.keep (fun k hk _ => by rw [Below.heap_setCell _ _ _ _ (by show k ≠ w.heap.size; omega), Below.heap_setCell _ _ _ _ (by show k ≠ w.heap.size; omega)])).mono (by omega)
    · have hk5 : k < 5 := by omega
      have HK := Lib.hid hk
      clear hk
      obtain ⟨key, hkey, hkc⟩ : ∃ key : ByteArray, keysR[k]? = some key ∧ wr.cell? ⟨w.heap.size + 1 + 1, k, none⟩ = some (.string key) := by
        have e : ∀ j, wr.cell? ⟨w.heap.size + 1 + 1, j, none⟩ = (#[.string ⟨#[102, 97]⟩, .string ⟨#[102, 98]⟩, .string ⟨#[102, 99]⟩, .string ⟨#[102, 100]⟩, .string ⟨#[102, 101]⟩] : Array Value)[j]? := fun j => cell_of_row wr _ j _ _ _ hl
        rw [e]
        rcases k with _ | _ | _ | _ | _ | k
        · exact ⟨_, rfl, rfl⟩
        · exact ⟨_, rfl, rfl⟩
        · exact ⟨_, rfl, rfl⟩
        · exact ⟨_, rfl, rfl⟩
        · exact ⟨_, rfl, rfl⟩
        · omega
      go_wp2_with fail
      refine (flip_any b (M + 5 * k) _ _ hgo.is (by omega) (by omega) (by omega)).mono ?_
      rintro e w1 ⟨r, rfl, hg1⟩
      have hgo1 := hgo.trans hg1 (Nat.le_refl _)
      have bk : ∀ x, w.heap.size ≤ x → x < wr.heap.size → w1.heap[x]? = wr.heap[x]? := fun x h1 h2 => hg1.gb.block x h2 (fun e => by injection e with e; omega)
      have hR' := (bk _ (by omega) (block_lt hR)).trans hR
      have hm' := (bk _ (by omega) (block_lt hm)).trans hm
      have hl' := (bk _ (by omega) (block_lt hl)).trans hl
      have hf' := hf.keep (w' := w1) (fun x h1 h2 => bk x (by omega) h2)
      have hz1' := hgo1.gb.size
      have hmz1 := block_lt hm'
      clear hR hm hl hf hR0 hR1 hRf0 hRf1 hm0 hm1 hg1 hgo bk hkc hz hmz
      cases r
      · obtain ⟨fs, hfl, hfo, hfw⟩ := hf'
        have hcm : w1.cell? ⟨w.heap.size + 1, 1, none⟩ = some v := (stream_cells hm').2.1
        have hcf : w1.frozen? ⟨w.heap.size + 1, 1, none⟩ = false := (stream_cells hm').2.2.2
        have HFL := Lib.hid hfl; have HFW := Lib.hid hfw; have Hm := Lib.hid hm'; have HR := Lib.hid hR'; have Hl := Lib.hid hl'
        clear hfl hfw hm' hR' hl'
        have hbase : w.heap.size + 3 ≤ w1.heap.size := by have := block_lt Hl.out; omega
        go_upto_region 6 with fail
        go_region_law (first
            | ((refine step_append_lies _ (by rfl) _ _ _ (by rfl) (w.heap.size + 3) 221 i0 _ 2 40 Tryz.underlying111 hi hz0 hz1 hz2 rfl (by omega) v n (fs.flatMap fiC) (by rfl) ((ownsRow_gb (w := w1.drew) hfo hg2.gb (by omega)).alloc _) ⟨w2.heap.size, 0, none⟩ 1 1 [.string key, .slice cA cn cc] (by rfl) (by rfl) (cells_new w2 [.string key, .slice cA cn cc] 221) (fi_one hown2) (by omega) (by unfold maxLen; omega) (by omega) (by simp; omega) (w2.heap.size + 1) (by simp) ?_; intro gg cap w3 hown3 hgrow hat hlt3; have hcf3 := cf_row hgrow (cf_alloc (o := .cells #[.string key, .slice cA cn cc] 221) hcm2 hcf2).1 (cf_alloc (o := .cells #[.string key, .slice cA cn cc] 221) hcm2 hcf2).2 (own_ne hfo (show w.heap.size + 1 < w.heap.size + 3 by omega)); obtain ⟨hcm3, hcf3⟩ := hcf3))
            | ((go_simp; go_at_call 112; refine (gchunksR_any b (M + (5 * k + 1)) _ ?_ ?_).mono ?_; (exact hgo1.is); (omega); rintro e w2 ⟨cv, cs, rfl, hc1, hc3, hok, hown2, hg2⟩; obtain ⟨cA, cn, cc, rfl⟩ := own_form hown2; have hzz : w1.heap.size ≤ w2.heap.size := hg2.gb.size; have hcf2 := cf_gb (w := w1.drew) hg2.gb hcm hcf (by show b ≠ w.heap.size + 1; omega); obtain ⟨hcm2, hcf2⟩ := hcf2; have hne2 : w.heap.size + 1 < w2.heap.size := World.block_lt_of_cell? w2 _ hcm2)))
        all_goals
          have HS := Lib.hid (rm_stepR (no := no) hlt hgo1 hkey hfo HFL.out HFW.out HR.out Hm.out Hl.out hc1 hc3 hok hown2 hg2 hbase hown3 hgrow)
          clear hown2 hg2 hgrow hok hat
          go_wp2_with fail
          go_roundg (gk - 1)
          case measure => omega
          case rel =>
            obtain ⟨q1, q2, q3, q4, q5⟩ := HS.out
            exact ⟨k + 1, n + 1, _, by have := HK.out; omega, by go_num, by omega, q1, q2, q3, q4, q5.more (by omega)⟩
      · go_wp2_with fail
        go_roundg (gk - 1)
        case measure => omega
        case rel => exact ⟨k + 1, n, v, by have := HK.out; omega, by go_num, by omega, hf'.up, hR', hm', hl', hgo1.more (by omega)⟩
theorem infoS : (Tryz.prog.info? 9).map (fun i => (i.zero, i.size, i.bytes)) = some (some (.string ⟨#[]⟩), 1, 16) := by kernel_rfl
def GoesSums (b M : Nat) (w : World) (e : Ending) (w' : World) : Prop :=
  ∃ (v : Value) (hv : List ByteArray), hv.length ≤ 6 ∧ (∀ s ∈ hv, s.size ≤ 16) ∧ e = .returned v ∧ w'.ownsRow w.heap.size 9 1 v hv.length (hv.map Value.string) ∧ Goes 25 b M 20 w w'
def SumsRel (b M : Nat) (w : World) (n : Nat) (g : Nat) (out i : Value) (wr : World) : Prop :=
  ∃ (k : Nat) (hv : List ByteArray), k + g = n ∧ i = .int .i64 k ∧ hv.length = k ∧ (∀ s ∈ hv, s.size ≤ 16) ∧ wr.ownsRow w.heap.size 9 1 out k (hv.map Value.string) ∧ Goes 25 b M (1 + k) w wr
set_option maxRecDepth 100000 in
set_option maxHeartbeats 2000000 in
theorem gsums_any (b M : Nat) (w : World) (hs : IsStream 25 w b M) (hM : M ≤ 100000000000000) :
    Calls Tryz.prog 53 #[.pointer (some ⟨b, 0, none⟩)] w (GoesSums b M w) := by
  have hlt := hs.lt
  obtain ⟨i0, hi, hz0, hz1, hz2⟩ := info_parts infoS
  go_enter Tryz.func53, Tryz.ntmps53
  go_wp2_with fail
  refine (next_any b M 6 _ hs (by omega) (by omega) (by omega)).mono ?_
  rintro e w1 ⟨r, ⟨hr0, hr1⟩, rfl, hg1⟩
  obtain ⟨n, rfl⟩ := Int.eq_ofNat_of_zero_le (show 0 ≤ r by omega)
  go_wp2_with fail
  go_loopg [3, 6] n (fun g out i wr => SumsRel b M w n g out i wr)
  case atStart => exact ⟨0, [], by omega, rfl, rfl, by simp, World.ownsRow_nil _ _ _ _, hg1⟩
  case round =>
    obtain ⟨k, hv, hk, rfl, hl, hok, hown, hgo⟩ := hrel
    have HL := Lib.hid hl
    have HO := Lib.hid hok
    clear hl hok
    by_cases hg : gk = 0
    · obtain rfl : k = n := by omega
      have hz := hgo.gb.size
      go_wp2_with fail
      refine (flip_any b (M + (1 + k)) 20 _ hgo.is (by omega) (by omega) (by omega)).mono ?_
      rintro e w2 ⟨fl, rfl, hg2⟩
      have hgo2 := hgo.trans hg2 (Nat.le_refl _)
      have hown2 := ownsRow_gb hown hg2.gb hlt
      have hz2' := hgo2.gb.size
      clear hgo hg2 hown
      cases fl
      · have HO2 := Lib.hid hown2
        clear hown2
        go_wp2_with fail
        go_ret
        exact ⟨_, hv, by have := HL.out; omega, HO.out, rfl, by rw [HL.out]; exact HO2.out, hgo2.more (by omega)⟩
      · go_wp2_with fail
        refine (some_any b (M + (1 + k + 1)) w2.heap.size [⟨#[]⟩, ⟨#[120]⟩] 2 2 _ 9 (hgo2.is.alloc _) (by omega) rfl (by omega) (by omega) (heap_alloc_new _ _) (by omega)).mono ?_
        rintro e w3 ⟨t, ht, rfl, hg3⟩
        have ht16 : t.size ≤ 16 := by
          simp at ht
          rcases ht with rfl | rfl <;> decide
        have hgo3 := hgo2.trans hg3.of_alloc (Nat.le_refl _)
        have hown3 := ownsRow_gb (ownsRow_below hown2 (bfirst _ _)) hg3.gb hlt
        have hz3' := hgo3.gb.size
        clear ht hgo2 hown2 hg3
        go_wp2_with (at_builtin; refine wpList_push (W := w3) (lo := w.heap.size) rfl _ _ 44 rfl 9 i0 _ 1 16 Tryz.underlying44 hi hz0 hz1 hz2 rfl (by decide) (by decide) _ _ _ rfl (Below.refl _ _) hz3' hown3 [.string t] rfl rfl rfl rfl (by omega) ?_)
        intro v4 w4 hown4 hb4 _ _
        have hgo4 := hgo3.belowAt (Nat.le_refl _) hlt hb4
        have HO4 := Lib.hid hown4
        clear hown3 hown4 hgo3
        go_wp2_with fail
        go_ret
        exact ⟨_, hv ++ [t], by have := HL.out; simp; omega, by intro s hs; rw [List.mem_append] at hs; rcases hs with hs | hs; exact HO.out s hs; simp at hs; subst hs; exact ht16, rfl, by rw [List.map_append, List.length_append, HL.out]; exact HO4.out, hgo4.more (by omega)⟩
    · have HK := Lib.hid hk
      have hkn : k < n := by omega
      clear hk
      have hsz := hgo.gb.size
      go_wp2_with fail
      refine (gsum_any b (M + (1 + k)) _ hgo.is (by omega)).mono ?_
      rintro e w2 ⟨t, ht, rfl, hg2⟩
      have ht16 : t.size ≤ 16 := by omega
      have hgo2 := hgo.trans hg2 (Nat.le_refl _)
      have hown2 := ownsRow_gb hown hg2.gb hlt
      have hz2' := hgo2.gb.size
      clear ht hgo hg2 hown
      go_wp2_with (at_builtin; refine wpList_push (W := w2) (lo := w.heap.size) rfl _ _ 44 rfl 9 i0 _ 1 16 Tryz.underlying44 hi hz0 hz1 hz2 rfl (by decide) (by decide) _ _ _ rfl (Below.refl _ _) hz2' hown2 [.string t] rfl rfl rfl rfl (by omega) ?_)
      intro v4 w4 hown4 hb4 _ _
      have hgo4 := hgo2.belowAt (Nat.le_refl _) hlt hb4
      have HO4 := Lib.hid hown4
      clear hown2 hown4 hgo2
      go_wp2_with fail
      go_roundg (gk - 1)
      case measure => omega
      case rel => exact ⟨k + 1, hv ++ [t], by have := HK.out; omega, by go_num, by have := HL.out; simp [this], by intro s hs; rw [List.mem_append] at hs; rcases hs with hs | hs; exact HO.out s hs; simp at hs; subst hs; exact ht16, by rw [List.map_append]; exact HO4.out, hgo4.more (by omega)⟩
attribute [local go_sem ↓] Go.wp_at_zero Go.wp_at_succ
theorem equalStr_same (A A' : Option Addr) (c c' lo lo' : Nat) (ss : List ByteArray) (w : World) (hn : ss.length ≤ 1000000)
    (h1 : Lst w lo 1 (.slice A ss.length c) (strC ss)) (h2 : Lst w lo' 1 (.slice A' ss.length c') (strC ss)) :
    Calls Tryz.prog 58 #[.slice A ss.length c, .slice A' ss.length c'] w fun e w' => e = .returned (.bool true) ∧ ∃ q, w' = w.drewN q := by
  by_cases h0 : ss.length = 0
  · rw [h0]
    refine (Tryz.slices_Equal_string_empty A A' c 0 c' w (by omega)).mono ?_
    rintro e w' ⟨rfl, rfl⟩
    exact ⟨rfl, 0, rfl⟩
  · obtain ⟨g, o, rfl, _, _, hc⟩ := h1.open_ (by omega)
    obtain ⟨g', o', rfl, _, _, hc'⟩ := h2.open_ (by omega)
    have get : ∀ j, j < ss.length → (strC ss)[j]? = some (.string (ss.getD j ByteArray.empty)) := fun j hj => by simp [strC, List.getElem?_eq_getElem hj]
    refine (Tryz.slices_Equal_string g o ss.length c g' o' ss.length c' ss ss w (Nat.le_refl _) (Nat.le_refl _) (by omega) (by omega) (fun j hj => hc j _ (get j hj)) (fun j hj => hc' j _ (get j hj))).mono ?_
    rintro e w' ⟨rfl, q, rfl⟩
    exact ⟨by simp, q, rfl⟩
theorem str_form {w : World} {lo n : Nat} {v : Value} {ss : List ByteArray} (h : Lst w lo 1 v (strC ss)) (hn : ss.length = n) : ∃ A c, v = .slice A n c := by
  obtain ⟨A, m, c, rfl, _, _, hx⟩ := h.form
  simp [strC] at hx
  exact ⟨A, c, by rw [show m = n by omega]⟩
open Go
open Nat renaming reduceAdd → nA, reduceSub → nB, reduceMul → nC, reduceLT → nD, reduceLeDiff → nE, reduceEqDiff → nF, reduceMod → nG, reduceDiv → nH, reducePow → nI
abbrev zP0E : List Nat := [0, 1, 2, 3, 4, 5, 6, 7, 8, 9, 10, 11]
abbrev zP0P : List (Nat × List Nat × List Nat) := []
abbrev zP1E : List Nat := [0, 1, 2, 3, 4, 5, 6, 7, 8, 9, 10, 11]
abbrev zP1P : List (Nat × List Nat × List Nat) := []
attribute [go_sem] zP0E zP0P zP1E zP1P
set_option maxRecDepth 100000
theorem a_outside (x lo hi : Int) (h : Hp) : ACalls Tryz.prog 74 [.v (.int .i64 x), .v (.int .i64 lo), .v (.int .i64 hi)] h (fun r h' => r = .v (.bool (decide (x < lo) || decide (hi < x))) ∧ h' = h) := by
 refine gE Tryz.func74 rfl (by kernel_rfl) 12 rfl fun c => ?_
 (repeat (first | refine gO rfl ?_ | (refine gR fun K1 hK1 => ?_; simp only [go_sem, ↓reduceIte, reduceCtorEq, nA, nB, nC, nD, nE, nF] <;> and_intros <;> first | (apply hK1; clear hK1 K1) | (intros; first | omega | decide | (simp_all <;> omega)) | skip)))
 simp only [Tryz.results74, go_sem, ↓reduceIte, reduceCtorEq, nA, nB, nC, nD, nE, nF]
 exact ⟨_, _, Weak.refl _, Hp.le.refl _, rfl, rfl⟩
def encI (x : Int) : List AV := [.v (.int .i64 x)]
def rowI (l : List Int) : AV := .row 1 (l.map encI) none
def strm (l : List Int) (a : Int) : AO := .cells [rowI l, .v (.int .i64 a)]
def Hp.st (h : Hp) (i : Nat) (l : List Int) (a : Int) : Hp := { h with H := upd h.H i (some (strm l a)) }
inductive LT where
 | mk (kind : Int) (item : ByteArray) (long many : Int) (kids : List LT) (shares : List Int)
instance : Inhabited LT := ⟨.mk 0 default 0 0 [] []⟩
def encL : LT → List AV
 | .mk kind item long many kids shares => [.v (.int .i64 kind), .v (.string item), .v (.int .i64 long), .v (.int .i64 many), .row 6 (kids.map encL) none, .row 1 (shares.map encI) none]
theorem encL_eq (kind : Int) (item : ByteArray) (long many : Int) (kids : List LT) (shares : List Int) : encL (.mk kind item long many kids shares) = [.v (.int .i64 kind), .v (.string item), .v (.int .i64 long), .v (.int .i64 many), .row 6 (kids.map encL) none, .row 1 (shares.map encI) none] := by rw [encL]
theorem encL_len (t : LT) : (encL t).length = 6 := by cases t; rw [encL_eq]; rfl
def WL (cs ds : List AV) : Prop := cs.length = ds.length ∧ ∀ j, Weak (cs.getD j .junk) (ds.getD j .junk)
theorem WL.nil : WL [] [] := ⟨rfl, fun _ => Weak.refl _⟩
theorem WL.cons {a b : AV} {cs ds : List AV} (h : Weak a b) (k : WL cs ds) : WL (a :: cs) (b :: ds) := ⟨by simp [k.1], fun j => by
 cases j with
 | zero => exact h
 | succ j => exact k.2 j⟩
theorem Weak.agg {cs ds : List AV} (h : WL cs ds) : Weak (.agg cs) (.agg ds) := fun G v hr => by
 cases hr with
 | agg _ vs u hl hu hr h1 =>
  refine .agg _ vs u (by rw [hl, h.1]) (fun j hj => hu j (by rw [h.1]; exact hj)) (fun j hj => ?_) (fun j hj => h1 j (by rw [h.1]; exact hj))
  have hj' : j < cs.length := by rw [h.1]; exact hj
  have := h.2 j G _ (by rw [List.getD_eq_getElem?_getD, List.getElem?_eq_getElem hj']; exact hr j hj')
  rwa [List.getD_eq_getElem?_getD, List.getElem?_eq_getElem hj] at this
def NB (x : Int) : Prop := -5000000000000000 ≤ x ∧ x ≤ 5000000000000000
def LB : Nat → LT → Prop
 | 0, _ => False
 | d + 1, .mk kind item long many kids shares => NB kind ∧ item.size ≤ 2 ∧ NB long ∧ NB many ∧ kids.length ≤ 3 ∧ shares.length ≤ 4 ∧ (∀ x ∈ shares, NB x) ∧ ∀ k ∈ kids, LB d k
theorem LB.mono : ∀ {d e : Nat} {t : LT}, LB d t → d ≤ e → LB e t
 | 0, _, _, h, _ => h.elim
 | d + 1, 0, _, _, h => by omega
 | d + 1, e + 1, .mk .., h, hd => ⟨h.1, h.2.1, h.2.2.1, h.2.2.2.1, h.2.2.2.2.1, h.2.2.2.2.2.1, h.2.2.2.2.2.2.1, fun k hk => (h.2.2.2.2.2.2.2 k hk).mono (by omega)⟩
def OLd (b : Bool) (T : Nat → Option TO) (S : Nat → Prop) : Nat → List AV → Prop
 | 0, _ => False
 | d + 1, cs => ∃ (kind : Int) (item : ByteArray) (long many : Int) (K Sh : AV), cs = [.v (.int .i64 kind), .v (.string item), .v (.int .i64 long), .v (.int .i64 many), K, Sh] ∧
   (NB kind ∧ item.size ≤ 2 ∧ NB long ∧ NB many) ∧
   (K = .v (.slice none 0 0) ∨ (∃ q css, S q ∧ T q = some (.cont 6 css) ∧ K = .arr 6 q css.length ∧ 0 < css.length ∧ css.length ≤ 3 ∧ ∀ c ∈ css, OLd b T S d c) ∨ (b = false ∧ ∃ css, K = .row 6 css none ∧ css.length ≤ 3 ∧ ∀ c ∈ css, OLd b T S d c)) ∧
   (Sh = .v (.slice none 0 0) ∨ ∃ (xs : List Int) (k : Nat), Sh = .row 1 (xs.map encI) (some k) ∧ xs.length ≤ 5 ∧ (∀ x ∈ xs, NB x) ∧ (b = true → S k ∧ T k = some (.tail xs.length) ∧ xs.length ≤ 4))
theorem OLd.len {b : Bool} {T : Nat → Option TO} {S : Nat → Prop} {d : Nat} {cs : List AV} (h : OLd b T S d cs) : cs.length = 6 := by
 cases d with
 | zero => exact h.elim
 | succ d => obtain ⟨_, _, _, _, _, _, rfl, _⟩ := h; rfl
theorem OLd.keep {b : Bool} {T T' : Nat → Option TO} {S : Nat → Prop} (hT : ∀ k, S k → (∃ x, T k = some (.cont 6 x)) → T' k = T k) (hs : b = true → ∀ k n, T k = some (.tail n) → T' k = some (.tail n)) : ∀ {d : Nat} {cs : List AV}, OLd b T S d cs → OLd b T' S d cs
 | 0, _, h => h.elim
 | d + 1, cs, ⟨kind, item, long, many, K, Sh, e, h1, h2, h3⟩ => by
  refine ⟨kind, item, long, many, K, Sh, e, h1, ?_, ?_⟩
  ·rcases h2 with h2 | ⟨q, css, hq, hTq, hK, hp, hl, hc⟩ | ⟨hbf, css, hK, hl, hc⟩
   ·exact .inl h2
   ·exact .inr (.inl ⟨q, css, hq, by rw [hT q hq ⟨css, hTq⟩]; exact hTq, hK, hp, hl, fun c hc' => (hc c hc').keep hT hs⟩)
   ·exact .inr (.inr ⟨hbf, css, hK, hl, fun c hc' => (hc c hc').keep hT hs⟩)
  ·rcases h3 with h3 | ⟨xs, k, h3, hl, hx, hb⟩
   ·exact .inl h3
   ·exact .inr ⟨xs, k, h3, hl, hx, fun hb' => ⟨(hb hb').1, hs hb' k _ (hb hb').2.1, (hb hb').2.2⟩⟩
theorem OLd.more {b : Bool} {T : Nat → Option TO} {S S' : Nat → Prop} (hS : ∀ k, S k → S' k) : ∀ {d : Nat} {cs : List AV}, OLd b T S d cs → OLd b T S' d cs
 | 0, _, h => h.elim
 | d + 1, cs, ⟨kind, item, long, many, K, Sh, e, h1, h2, h3⟩ => by
  have h3' : Sh = .v (.slice none 0 0) ∨ ∃ (xs : List Int) (k : Nat), Sh = .row 1 (xs.map encI) (some k) ∧ xs.length ≤ 5 ∧ (∀ x ∈ xs, NB x) ∧ (b = true → S' k ∧ T k = some (.tail xs.length) ∧ xs.length ≤ 4) := by
   rcases h3 with h3 | ⟨xs, k, h3, h4, h5, h6⟩
   ·exact .inl h3
   ·exact .inr ⟨xs, k, h3, h4, h5, fun hb => ⟨hS k (h6 hb).1, (h6 hb).2⟩⟩
  refine ⟨kind, item, long, many, K, Sh, e, h1, ?_, h3'⟩
  rcases h2 with h2 | ⟨q, css, hq, hTq, hK, hp, hl, hc⟩ | ⟨hbf, css, hK, hl, hc⟩
  ·exact .inl h2
  ·exact .inr (.inl ⟨q, css, hS q hq, hTq, hK, hp, hl, fun c hc' => (hc c hc').more hS⟩)
  ·exact .inr (.inr ⟨hbf, css, hK, hl, fun c hc' => (hc c hc').more hS⟩)
theorem OLd.up {b : Bool} {T : Nat → Option TO} {S : Nat → Prop} : ∀ {d e : Nat} {cs : List AV}, d ≤ e → OLd b T S d cs → OLd b T S e cs
 | 0, _, _, _, h => h.elim
 | d + 1, 0, _, he, _ => by omega
 | d + 1, e + 1, cs, he, ⟨kind, item, long, many, K, Sh, e', h1, h2, h3⟩ => by
  refine ⟨kind, item, long, many, K, Sh, e', h1, ?_, h3⟩
  rcases h2 with h2 | ⟨q, css, hq, hTq, hK, hp, hl, hc⟩ | ⟨hbf, css, hK, hl, hc⟩
  ·exact .inl h2
  ·exact .inr (.inl ⟨q, css, hq, hTq, hK, hp, hl, fun c hc' => (hc c hc').up (by omega)⟩)
  ·exact .inr (.inr ⟨hbf, css, hK, hl, fun c hc' => (hc c hc').up (by omega)⟩)
theorem RepL.of6 {G G' : Gh} {a b c d e f a' b' c' d' e' f' : AV} {us : List Value} (h : RepL G [a, b, c, d, e, f] us) (h0 : ∀ x, Rep G a x → Rep G' a' x) (h1 : ∀ x, Rep G b x → Rep G' b' x) (h2 : ∀ x, Rep G c x → Rep G' c' x) (h3 : ∀ x, Rep G d x → Rep G' d' x)
  (h4 : ∀ x, Rep G e x → Rep G' e' x) (h5 : ∀ x, Rep G f x → Rep G' f' x) : RepL G' [a', b', c', d', e', f'] us := by
 refine ⟨h.1, fun j hj hj' => ⟨?_, (h.2 j hj hj').2⟩⟩
 have h9 := (h.2 j hj hj').1
 match j, hj with
 | 0, _ => exact h0 _ h9
 | 1, _ => exact h1 _ h9
 | 2, _ => exact h2 _ h9
 | 3, _ => exact h3 _ h9
 | 4, _ => exact h4 _ h9
 | 5, _ => exact h5 _ h9
 | j + 6, hj => simp at hj; omega
def LC : Nat → LT → Prop
 | 0, _ => False
 | d + 1, .mk kind item long many kids shares => NB kind ∧ item.size ≤ 2 ∧ NB long ∧ NB many ∧ kids.length ≤ 3 ∧ shares.length ≤ 5 ∧ (∀ x ∈ shares, NB x) ∧ ∀ k ∈ kids, LC d k
theorem LC.mono : ∀ {d e : Nat} {t : LT}, LC d t → d ≤ e → LC e t
 | 0, _, _, h, _ => h.elim
 | d + 1, 0, _, _, h => by omega
 | d + 1, e + 1, .mk .., h, hd => ⟨h.1, h.2.1, h.2.2.1, h.2.2.2.1, h.2.2.2.2.1, h.2.2.2.2.2.1, h.2.2.2.2.2.2.1, fun k hk => (h.2.2.2.2.2.2.2 k hk).mono (by omega)⟩
theorem LB.lc : ∀ {d : Nat} {t : LT}, LB d t → LC d t
 | 0, _, h => h.elim
 | d + 1, .mk .., h => ⟨h.1, h.2.1, h.2.2.1, h.2.2.2.1, h.2.2.2.2.1, by have := h.2.2.2.2.2.1; omega, h.2.2.2.2.2.2.1, fun k hk => (h.2.2.2.2.2.2.2 k hk).lc⟩
theorem OLd.list {b : Bool} {T : Nat → Option TO} {S : Nat → Prop} {G G' : Gh} {d : Nat} (ih : ∀ cs, OLd b T S d cs → ∃ t, LC d t ∧ ∀ us, RepL G cs us → RepL G' (encL t) us) : ∀ (css : List (List AV)) (_ : ∀ c ∈ css, OLd b T S d c),
  ∃ ts : List LT, ts.length = css.length ∧ (∀ t ∈ ts, LC d t) ∧ ∀ us, RepL G css.flatten us → RepL G' (ts.map encL).flatten us
 | [], _ => ⟨[], rfl, by simp, fun us h => by cases us with | nil => exact RepL.nil _ | cons => have := h.1; simp at this⟩
 | c :: css, h => by
  obtain ⟨t, ht, hr⟩ := ih c (h c (by simp))
  obtain ⟨ts, hl, hts, hrs⟩ := OLd.list ih css fun c hc => h c (by simp [hc])
  refine ⟨t :: ts, by simp [hl], by simpa using ⟨ht, hts⟩, fun us hu => ?_⟩
  have h1 := hu.take c.length
  have h2 := hu.drop c.length
  simp only [List.flatten_cons, List.take_left, List.drop_left] at h1 h2
  have := (hr _ h1).append (hrs _ h2)
  rw [List.take_append_drop] at this
  exact this
theorem OLd.freeze {b : Bool} {T : Nat → Option TO} {S : Nat → Prop} {G G' : Gh} (hle : GLe G G') (hf : Fzs T S G G') : ∀ (d : Nat) (cs : List AV), OLd b T S d cs → ∃ t, LC d t ∧ ∀ us, RepL G cs us → RepL G' (encL t) us
 | 0, _, h => h.elim
 | d + 1, cs, ⟨kind, item, long, many, K, Sh, e, ⟨b1, b2, b3, b4⟩, h2, h3⟩ => by
  subst e
  have hK : ∃ ts : List LT, ts.length ≤ 3 ∧ (∀ t ∈ ts, LC d t) ∧ ∀ x, Rep G K x → Rep G' (.row 6 (ts.map encL) none) x := by
   have hz : ∀ ts : List LT, ∀ y ∈ ts.map encL, y.length = 6 := fun ts y hy => by
    obtain ⟨t, _, rfl⟩ := List.mem_map.1 hy
    exact encL_len t
   rcases h2 with rfl | ⟨q, css, hq, hT, rfl, _, hl, hc⟩ | ⟨_, css, rfl, hl, hc⟩
   ·exact ⟨[], by simp, by simp, fun x hx => Weak.nil 6 0 0 ⟨rfl, rfl⟩ G' x (hx.mono hle)⟩
   ·obtain ⟨ts, htl, htb, hts⟩ := OLd.list (OLd.freeze hle hf d) css hc
    exact ⟨ts, by omega, htb, fun x hx => hf q 6 css x hq hT hx _ (by simpa using htl) (hz ts) hts⟩
   ·obtain ⟨ts, htl, htb, hts⟩ := OLd.list (OLd.freeze hle hf d) css hc
    exact ⟨ts, by omega, htb, fun x hx => hx.rowFlat hle (by simpa using htl) (hz ts) hts⟩
  have hS : ∃ xs : List Int, xs.length ≤ 5 ∧ (∀ x ∈ xs, NB x) ∧ ∀ x, Rep G Sh x → Rep G' (.row 1 (xs.map encI) none) x := by
   rcases h3 with rfl | ⟨xs, k, rfl, hl, hx, _⟩
   ·exact ⟨[], by simp, by simp, fun x hx => Weak.nil 1 0 0 ⟨rfl, rfl⟩ G' x (hx.mono hle)⟩
   ·exact ⟨xs, hl, hx, fun x hx => Weak.row _ _ _ G' x (hx.mono hle)⟩
  obtain ⟨ts, hl, htb, hts⟩ := hK
  obtain ⟨xs, hxl, hxb, hxs⟩ := hS
  refine ⟨.mk kind item long many ts xs, ⟨b1, b2, b3, b4, hl, hxl, hxb, htb⟩, fun us hu => ?_⟩
  rw [encL_eq]
  exact hu.of6 (fun x hx => hx.mono hle) (fun x hx => hx.mono hle) (fun x hx => hx.mono hle) (fun x hx => hx.mono hle) hts hxs
theorem acalls_pure {P : Program} {f : Nat} (hok : fnOk P f = true) (xs : List Value) {v : Value} (h1 : v.oneCell' = true) (hc : ∀ w, Calls P f xs.toArray w fun e w' => e = .returned v ∧ RowKit.Below w.heap.size w w') (h : Hp) : ACalls P f (xs.map .v) h (fun r h' => r = .v v ∧ h' = h) := by
 refine ⟨hok, fun G w vs hs hl ha => ?_⟩
 have e : vs = xs.toArray := by
  apply Array.ext
  ·simpa using hl
  ·intro j hj hj'
   have hjx : j < (xs.map AV.v).length := by rw [← hl]; exact hj
   have := ha j hjx
   simp only [List.getElem_map] at this
   have h2 : vs.getD j undef = vs[j] := by simp [Array.getD, hj]
   rw [h2] at this
   simp only [List.getElem_toArray]
   generalize vs[j] = y at this
   cases this
   rfl
 subst e
 refine (hc w).mono ?_
 rintro _ w' ⟨rfl, hb⟩
 have hb' : ∀ b, b < w.heap.size → w'.heap[b]? = w.heap[b]? := fun b hb2 => hb.block b hb2
 exact ⟨_, h, G, v, rfl, ⟨rfl, rfl⟩, GLe.refl _, Fr.below (Fr.refl _ _ _) hb' hb.os hb.tape hb.output hb.size, hs.below hb', .v _ h1⟩
theorem a_isKey (s : ByteArray) (hs : s.size ≤ 1000000000000) (h : Hp) : ACalls Tryz.prog 151 [.v (.string s)] h (fun r h' => r = .v (.bool (keyB s)) ∧ h' = h) :=
 acalls_pure (by kernel_rfl) [.string s] rfl (fun w => (isKey_any s hs w).mono fun e w' ⟨h1, h2⟩ => ⟨h1, by subst h2; exact ⟨rfl, rfl, rfl, Nat.le_refl _, fun _ _ => rfl⟩⟩) h
inductive AT where
 | mk (i c : Nat) (kids : List AT)
instance : Inhabited AT := ⟨.mk 0 0 []⟩
inductive PS where
 | mk (had : Int) (of : List Int) (kids : List PS)
instance : Inhabited PS := ⟨.mk 0 [] []⟩
def AT.id : AT → Nat
 | .mk i _ _ => i
def idsT : AT → List Nat
 | .mk i _ ks => i :: (ks.map idsT).flatten
def toksT : AT → List Nat
 | .mk _ c ks => c :: (ks.map toksT).flatten
theorem idsT_eq (i c : Nat) (ks : List AT) : idsT (.mk i c ks) = i :: (ks.map idsT).flatten := by rw [idsT]
theorem toksT_eq (i c : Nat) (ks : List AT) : toksT (.mk i c ks) = c :: (ks.map toksT).flatten := by rw [toksT]
theorem idsT_kid {i c : Nat} {ks : List AT} {j : Nat} (h : j < ks.length) {x : Nat} (hx : x ∈ idsT (ks.getD j default)) : x ∈ idsT (.mk i c ks) := by
 rw [idsT_eq]
 refine List.mem_cons_of_mem _ (List.mem_flatten.2 ⟨_, List.mem_map.2 ⟨_, ?_, rfl⟩, hx⟩)
 rw [List.getD_eq_getElem?_getD, List.getElem?_eq_getElem h]; exact List.getElem_mem _
theorem toksT_kid {i c : Nat} {ks : List AT} {j : Nat} (h : j < ks.length) {x : Nat} (hx : x ∈ toksT (ks.getD j default)) : x ∈ toksT (.mk i c ks) := by
 rw [toksT_eq]
 refine List.mem_cons_of_mem _ (List.mem_flatten.2 ⟨_, List.mem_map.2 ⟨_, ?_, rfl⟩, hx⟩)
 rw [List.getD_eq_getElem?_getD, List.getElem?_eq_getElem h]; exact List.getElem_mem _
structure RK where
 ex : LT → List AV
 cf : Int → List Int → List Int
def kidsC (az : List AT) (K : AV) : Prop := az = [] ∧ K = .v (.slice none 0 0) ∨ ∃ tk, K = .row 1 (az.map fun a => [.ptr a.id 0]) tk
def RAt (X : RK) (h : Hp) : Nat → LT → AT → PS → Prop
 | 0, _, _, _ => False
 | d + 1, .mk kind item long many kids shares, .mk i c az, .mk p cs ks =>
  (∃ K, h.H i = some (.cells ([.v (.int .i64 kind), .v (.string item), .v (.int .i64 long), .v (.int .i64 many), .row 6 (kids.map encL) none, .row 1 (shares.map encI) none, K, .v (.int .i64 p), .arr 1 c kids.length] ++ X.ex (.mk kind item long many kids shares))) ∧ kidsC az K) ∧
  h.T c = some (.cont 1 ((X.cf kind cs).map encI)) ∧ ((X.cf kind cs).length = kids.length ∧ cs.length = kids.length ∧ az.length = kids.length ∧ ks.length = kids.length) ∧
  ∀ j, j < kids.length → RAt X h d (kids.getD j default) (az.getD j default) (ks.getD j default)
theorem RAt.frame {X : RK} {h h' : Hp} : ∀ {d : Nat} {t : LT} {a : AT} {s : PS}, RAt X h d t a s → (∀ i ∈ idsT a, h'.H i = h.H i) → (∀ c ∈ toksT a, h'.T c = h.T c) → RAt X h' d t a s
 | 0, _, _, _, h, _, _ => h.elim
 | d + 1, .mk kind item long many kids shares, .mk i c az, .mk p cs ks, ⟨⟨K, h1, hK⟩, h2, h3, h4⟩, hi, hc =>
  ⟨⟨K, by rw [hi i (by rw [idsT_eq]; simp)]; exact h1, hK⟩, by rw [hc c (by rw [toksT_eq]; simp)]; exact h2, h3, fun j hj =>
   (h4 j hj).frame (fun x hx => hi x (idsT_kid (by omega) hx)) (fun x hx => hc x (toksT_kid (by omega) hx))⟩
def PSB : Nat → LT → PS → Int → Prop
 | 0, _, _, _ => True
 | d + 1, .mk _ _ _ _ kids _, .mk p cs ks, n => (0 ≤ p ∧ p ≤ n) ∧ (∀ x ∈ cs, 0 ≤ x ∧ x ≤ n) ∧ ∀ j, j < kids.length → PSB d (kids.getD j default) (ks.getD j default) n
theorem PSB.mono {n m : Int} (hnm : n ≤ m) : ∀ {d : Nat} {t : LT} {s : PS}, PSB d t s n → PSB d t s m
 | 0, _, _, _ => trivial
 | d + 1, .mk .., .mk p cs ks, ⟨h1, h2, h3⟩ => ⟨by omega, fun x hx => by have := h2 x hx; omega, fun j hj => (h3 j hj).mono hnm⟩
section
variable {P : Program} {c : Cx} {Q : Exit → St → Prop} {s : St}
end
end Go.Proofs.YtidkkmoiolffnaaGreatDoor
