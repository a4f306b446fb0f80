/- Words of memory that all walks of this seat share: facts kept out of the walk's sight, a slice that reads as a list, the stream. Plain lemmas; no statement of the seat. -/
import Derived.WalkKit
import Derived.WalkSpells
import Derived.WalkLawsBesides
import Derived.Deep.QuietTactic
import Derived.BigQuiet
import Derived.Lib.Hide
import Derived.Test.YtidkkmoiolffnaaGreatDoorProg
import Derived.Deep.LoopGhost
import Derived.Shelf.GgClosure.Gives
import Derived.Test.YtidkkmoiolffnaaGreatDoorShelf
import Derived.Deep.DeepCutAuto
import Derived.Shelf.Strings.SlTrimAscii
import Derived.Shelf.Strings.Builder1
import Derived.Deep.RegionHeld3
import Derived.Deep.AppendLies
import Derived.Deep.DrawnRows
import Derived.Deep.RegionLaw
import Derived.Maps.Own
import Derived.Maps.OwnOps
import Derived.Maps.OwnSet
import Derived.Deep.CutBlock
import Derived.Sort.Grow
import Derived.Sort.Defs
import Derived.Sort.LotA
import Derived.Shelf.GgSortFunc.InsertionK
import Derived.Test.YtidkkmoiolffnaaGreatDoorSortLays
import Derived.Shelf.SlSortCmp.SmallK
import Derived.Sort.Walk0
import Derived.OrdersHeld
import Derived.RegionTactic
namespace Go.Proofs.YtidkkmoiolffnaaGreatDoor
open Go.RowKit
set_option linter.unusedVariables false
set_option linter.unusedSimpArgs false
theorem gb_refl (w : World) (r : Option Nat) : w.grownBy w r := ⟨rfl, rfl, rfl, Nat.le_refl _, fun _ _ _ => rfl⟩
theorem gb_trans {a b c : World} {r : Option Nat} (h : a.grownBy b r) (k : b.grownBy c r) : a.grownBy c r :=
  ⟨k.os.trans h.os, k.tape.trans h.tape, k.output.trans h.output, Nat.le_trans h.size k.size, fun i hi hn => (k.block i (Nat.lt_of_lt_of_le hi h.size) hn).trans (h.block i hi hn)⟩
theorem gb_drewN {a w : World} {r : Option Nat} (h : a.grownBy w r) (n : Nat) : a.grownBy (w.drewN n) r := ⟨h.os, h.tape, h.output, h.size, h.block⟩
theorem gb_drew {a w : World} {r : Option Nat} (h : a.grownBy w r) : a.grownBy w.drew r := ⟨h.os, h.tape, h.output, h.size, h.block⟩
theorem gb_alloc {a w : World} {r : Option Nat} (h : a.grownBy w r) (o : Obj) : a.grownBy (w.alloc o) r :=
  ⟨h.os, h.tape, h.output, Nat.le_trans h.size (by simp), fun i hi hne => (Below.heap_alloc w o i (Nat.lt_of_lt_of_le hi h.size)).trans (h.block i hi hne)⟩
theorem gb_below {a w : World} (h : Below a.heap.size a w) (r : Option Nat) : a.grownBy w r := ⟨h.os, h.tape, h.output, h.size, fun i hi _ => h.block i hi⟩
theorem below_gb {W a w : World} {b : Nat} (h : Below W.heap.size W a) (g : a.grownBy w (some b)) (hb : W.heap.size ≤ b) : Below W.heap.size W w :=
  h.trans ⟨g.os, g.tape, g.output, g.size, fun k hk => g.block k (Nat.lt_of_lt_of_le hk h.size) (fun e => by injection e with e; omega)⟩
theorem below_drewN {B : Nat} {a w : World} (h : Below B a w) (n : Nat) : Below B a (w.drewN n) := ⟨h.os, h.tape, h.output, h.size, h.block⟩
def Lst (w : World) (lo size : Nat) (v : Value) (xs : List Value) : Prop :=
  ∃ (A : Option Addr) (n c : Nat), v = .slice A n c ∧ n ≤ c ∧ c ≤ maxLen ∧ xs.length = n * size ∧
    (0 < n → ∃ g o, A = some ⟨g, o, none⟩ ∧ lo ≤ g ∧ g < w.heap.size ∧ ∀ j u, xs[j]? = some u → w.cell? ⟨g, o + j, none⟩ = some u)
theorem Lst.mono {w : World} {lo lo' size : Nat} {v : Value} {xs : List Value} (h : Lst w lo size v xs) (hl : lo' ≤ lo) : Lst w lo' size v xs := by
  obtain ⟨A, n, c, hv, hn, hc, hx, hr⟩ := h
  exact ⟨A, n, c, hv, hn, hc, hx, fun h0 => let ⟨g, o, hA, hg, hlt, hcell⟩ := hr h0; ⟨g, o, hA, Nat.le_trans hl hg, hlt, hcell⟩⟩
theorem Lst.keep {w w' : World} {lo size : Nat} {v : Value} {xs : List Value} (h : Lst w lo size v xs) (hs : w.heap.size ≤ w'.heap.size)
    (hk : ∀ k, lo ≤ k → k < w.heap.size → w'.heap[k]? = w.heap[k]?) : Lst w' lo size v xs := by
  obtain ⟨A, n, c, hv, hn, hc, hx, hr⟩ := h
  refine ⟨A, n, c, hv, hn, hc, hx, fun h0 => ?_⟩
  obtain ⟨g, o, hA, hg, hlt, hcell⟩ := hr h0
  exact ⟨g, o, hA, hg, Nat.lt_of_lt_of_le hlt hs, fun j u hu => (World.cell?_of_block (w := w) (hk g hg hlt)).trans (hcell j u hu)⟩
theorem Lst.below {w w' : World} {lo size : Nat} {v : Value} {xs : List Value} (h : Lst w lo size v xs) (hb : Below w.heap.size w w') : Lst w' lo size v xs :=
  h.keep hb.size fun k _ hk => hb.block k hk
theorem Lst.grown {w w' : World} {lo size b : Nat} {v : Value} {xs : List Value} (h : Lst w lo size v xs) (hg : w.grownBy w' (some b)) (hb : b < lo) : Lst w' lo size v xs :=
  h.keep hg.size fun k hk hlt => hg.block k hlt (fun e => by injection e with e; omega)
theorem Lst.nil (w : World) (lo size : Nat) : Lst w lo size (.slice none 0 0) [] := ⟨none, 0, 0, rfl, Nat.le_refl _, Nat.zero_le _, by simp, fun h => absurd h (by omega)⟩
theorem Lst.of_own {w : World} {base size n : Nat} {e : TypeId} {v : Value} {xs : List Value} (h : w.ownsRow base e size v n xs) : Lst w base size v xs := by
  obtain ⟨hl, h2⟩ := h
  rcases h2 with ⟨rfl, rfl⟩ | ⟨g, cap, cur, rfl, hg, hh, hnc, hcm, hsz, hx⟩
  · have : xs = [] := List.eq_nil_of_length_eq_zero (by simpa using hl)
    subst this; exact Lst.nil w base size
  · refine ⟨_, n, cap, rfl, hnc, hcm, hl, fun h0 => ⟨g, 0, rfl, hg, ?_, fun j u hu => ?_⟩⟩
    · rcases Nat.lt_or_ge g w.heap.size with h | h
      · exact h
      · rw [Array.getElem?_eq_none h] at hh; cases hh
    · have hcur : cur[j]? = some u := by
        rw [← hx, List.getElem?_take] at hu
        split at hu
        · simpa using hu
        · cases hu
      simp [World.cell?, hh, hcur]
theorem Lst.at_ {w : World} {lo n c k : Nat} {A : Option Addr} {xs : List Value} (h : Lst w lo 1 (.slice A n c) xs) (hk : k < n) :
    ∃ g o u, A = some ⟨g, o, none⟩ ∧ lo ≤ g ∧ g < w.heap.size ∧ xs[k]? = some u ∧ w.cell? ⟨g, o + k, none⟩ = some u := by
  obtain ⟨A', n', c', hv, hn, hc, hx, hr⟩ := h
  simp only [Value.slice.injEq] at hv
  obtain ⟨rfl, rfl, rfl⟩ := hv
  obtain ⟨g, o, hA, hg, hlt, hcell⟩ := hr (by omega)
  have hl : k < xs.length := by omega
  exact ⟨g, o, xs[k], hA, hg, hlt, List.getElem?_eq_getElem hl, hcell k _ (List.getElem?_eq_getElem hl)⟩
theorem Lst.open_ {w : World} {lo size n c : Nat} {A : Option Addr} {xs : List Value} (h : Lst w lo size (.slice A n c) xs) (hk : 0 < n) :
    ∃ g o, A = some ⟨g, o, none⟩ ∧ lo ≤ g ∧ g < w.heap.size ∧ ∀ j u, xs[j]? = some u → w.cell? ⟨g, o + j, none⟩ = some u := by
  obtain ⟨A', n', c', hv, hn, hc, hx, hr⟩ := h
  simp only [Value.slice.injEq] at hv
  obtain ⟨rfl, rfl, rfl⟩ := hv
  exact hr hk
theorem Lst.form {w : World} {lo size : Nat} {v : Value} {xs : List Value} (h : Lst w lo size v xs) : ∃ A n c, v = .slice A n c ∧ n ≤ c ∧ c ≤ maxLen ∧ xs.length = n * size :=
  let ⟨A, n, c, hv, hn, hc, hx, _⟩ := h; ⟨A, n, c, hv, hn, hc, hx⟩
def IsStream (ts : TypeId) (w : World) (b M : Nat) : Prop :=
  ∃ (a : Option Addr) (len cap : Nat) (at_ : Nat), w.heap[b]? = some (.cells #[.slice a len cap, .int .i64 (at_ : Int)] ts (0, 0)) ∧ at_ ≤ M ∧ len ≤ 9223372036854775807 ∧
    (0 < len → ∃ x, a = some x ∧ x.block < b ∧ x.spot = none ∧ ∀ i, i < len → ∃ z : Int, w.cell? ⟨x.block, x.off + i, none⟩ = some (.int .i64 z))
theorem block_lt {w : World} {b : Nat} {o : Obj} (h : w.heap[b]? = some o) : b < w.heap.size := by
  rcases Nat.lt_or_ge b w.heap.size with hl | hl
  · exact hl
  · rw [Array.getElem?_eq_none hl] at h; cases h
theorem IsStream.lt {ts : TypeId} {w : World} {b M : Nat} (h : IsStream ts w b M) : b < w.heap.size := by
  obtain ⟨_, _, _, _, hh, _⟩ := h
  exact block_lt hh
theorem IsStream.below {ts : TypeId} {w w' : World} {b M : Nat} (h : IsStream ts w b M) (hb : Below w.heap.size w w') : IsStream ts w' b M := by
  have hlt := h.lt
  obtain ⟨a, len, cap, at_, hh, h1, h2, h3⟩ := h
  refine ⟨a, len, cap, at_, (hb.block b hlt).trans hh, h1, h2, fun h0 => ?_⟩
  obtain ⟨x, hx, hxb, hs, hc⟩ := h3 h0
  refine ⟨x, hx, hxb, hs, fun i hi => ?_⟩
  obtain ⟨z, hz⟩ := hc i hi
  exact ⟨z, (hb.cell (p := ⟨x.block, x.off + i, none⟩) (by show x.block < _; omega)).trans hz⟩
theorem IsStream.mono {ts : TypeId} {w : World} {b M M' : Nat} (h : IsStream ts w b M) (hM : M ≤ M') : IsStream ts w b M' := by
  obtain ⟨a, len, cap, at_, hh, h1, h2⟩ := h
  exact ⟨a, len, cap, at_, hh, by omega, h2⟩
theorem IsStream.alloc {ts : TypeId} {w : World} {b M : Nat} (h : IsStream ts w b M) (o : Obj) : IsStream ts (w.alloc o) b M :=
  h.below ((Below.refl _ _).alloc (Nat.le_refl _) o)
theorem IsStream.drewN {ts : TypeId} {w : World} {b M : Nat} (h : IsStream ts w b M) (n : Nat) : IsStream ts (w.drewN n) b M := h
theorem stream_cells {w : World} {b : Nat} {u v : Value} {t : TypeId} (h : w.heap[b]? = some (.cells #[u, v] t (0, 0))) :
    w.cell? ⟨b, 0, none⟩ = some u ∧ w.cell? ⟨b, 1, none⟩ = some v ∧ w.frozen? ⟨b, 0, none⟩ = false ∧ w.frozen? ⟨b, 1, none⟩ = false := by
  simp [World.cell?, World.frozen?, h]
theorem stream_set {w : World} {b : Nat} {u v v' : Value} {t : TypeId} (h : w.heap[b]? = some (.cells #[u, v] t (0, 0))) :
    (w.setCell ⟨b, 1, none⟩ v').heap[b]? = some (.cells #[u, v'] t (0, 0)) := by
  simp [World.setCell, Array.getElem?_modify, h]
def IsRow (k : IntKind) (w : World) (a : Option Addr) (len cap : Nat) (zs : List Int) : Prop :=
  (a = none ∧ len = 0 ∧ cap = 0 ∧ zs = []) ∨
  ∃ x, a = some x ∧ len ≤ cap ∧ cap ≤ maxLen ∧ zs.length = cap ∧ (∀ i, i < zs.length → w.cell? (x.add i) = some (.int k (zs.getD i 0))) ∧ ∀ n ∈ zs, (Lit.int k n).wf = true
theorem isStream_new {ts : TypeId} {w : World} {a : Option Addr} {len cap : Nat} {zs : List Int} (h : IsRow .i64 w a len cap zs) :
    IsStream ts (w.alloc (.cells #[.slice a len cap, .int .i64 0] ts)) w.heap.size 0 := by
  refine ⟨a, len, cap, 0, heap_alloc_new w _, Nat.le_refl _, ?_, fun h0 => ?_⟩
  · rcases h with ⟨_, rfl, _⟩ | ⟨_, _, hl, hm, _⟩
    · omega
    · unfold maxLen at hm; omega
  · rcases h with ⟨_, rfl, _⟩ | ⟨⟨b, o, sp⟩, rfl, hl, hm, hz, hc, _⟩
    · omega
    · have hc0 := hc 0 (by omega)
      have hsp : sp = none := by simpa [Addr.add] using World.cell?_spot hc0
      subst hsp
      have e : ∀ i, (⟨b, o, none⟩ : Addr).add i = ⟨b, o + i, none⟩ := fun i => by unfold Addr.add; split <;> simp_all
      refine ⟨_, rfl, ?_, rfl, fun i hi => ⟨zs.getD i 0, ?_⟩⟩
      · rw [e] at hc0; exact World.block_lt_of_cell? w _ hc0
      · have h1 := hc i (by omega)
        rw [e] at h1
        rw [World.cell?_alloc_lt _ _ _ (World.block_lt_of_cell? w _ h1)]
        exact h1
structure Goes (ts : TypeId) (b M k : Nat) (w w' : World) : Prop where
  is : IsStream ts w' b (M + k)
  gb : w.grownBy w' (some b)
theorem Goes.refl {ts : TypeId} {b M k : Nat} {w : World} (h : IsStream ts w b M) : Goes ts b M k w w := ⟨h.mono (by omega), gb_refl _ _⟩
theorem Goes.trans {ts : TypeId} {b M k j m : Nat} {w w1 w2 : World} (h : Goes ts b M k w w1) (h' : Goes ts b (M + k) j w1 w2) (hm : k + j ≤ m) : Goes ts b M m w w2 :=
  ⟨h'.is.mono (by omega), gb_trans h.gb h'.gb⟩
theorem Goes.more {ts : TypeId} {b M k k' : Nat} {w w1 : World} (h : Goes ts b M k w w1) (hk : k ≤ k') : Goes ts b M k' w w1 := ⟨h.is.mono (by omega), h.gb⟩
theorem Goes.below {ts : TypeId} {b M k : Nat} {w w1 w2 : World} (h : Goes ts b M k w w1) (hb : Below w1.heap.size w1 w2) : Goes ts b M k w w2 :=
  ⟨h.is.below hb, gb_trans h.gb (gb_below hb _)⟩
theorem Goes.alloc {ts : TypeId} {b M k : Nat} {w w1 : World} (h : Goes ts b M k w w1) (o : Obj) : Goes ts b M k w (w1.alloc o) := ⟨h.is.alloc o, gb_alloc h.gb o⟩
theorem Goes.of_alloc {ts : TypeId} {b M k : Nat} {w w1 : World} {o : Obj} (h : Goes ts b M k (w.alloc o) w1) : Goes ts b M k w w1 := ⟨h.is, gb_trans (gb_alloc (gb_refl w _) o) h.gb⟩
theorem Goes.drewN {ts : TypeId} {b M k : Nat} {w w1 : World} (h : Goes ts b M k w w1) (n : Nat) : Goes ts b M k w (w1.drewN n) := ⟨h.is, gb_drewN h.gb n⟩
theorem goes_set {ts : TypeId} {w : World} {b M len cap at_ : Nat} {a : Option Addr} {nq : Nat}
    (h : w.heap[b]? = some (.cells #[.slice a len cap, .int .i64 (at_ : Int)] ts (0, 0))) (hM : at_ ≤ M) (hl : len ≤ 9223372036854775807)
    (hz : 0 < len → ∃ x, a = some x ∧ x.block < b ∧ x.spot = none ∧ ∀ i, i < len → ∃ z : Int, w.cell? ⟨x.block, x.off + i, none⟩ = some (.int .i64 z)) :
    Goes ts b M 1 w ((w.setCell ⟨b, 1, none⟩ (.int .i64 ((at_ : Int) + 1))).drewN nq) := by
  refine ⟨⟨a, len, cap, at_ + 1, stream_set h, by omega, hl, fun h0 => ?_⟩, ⟨rfl, rfl, rfl, by simp [World.setCell, World.drewN], fun k hk hne => Below.heap_setCell _ _ _ _ (by intro e; exact hne (by rw [e]))⟩⟩
  obtain ⟨x, hx, hb, hs, hc⟩ := hz h0
  refine ⟨x, hx, hb, hs, fun i hi => ?_⟩
  obtain ⟨z, hzc⟩ := hc i hi
  refine ⟨z, ?_⟩
  rw [← hzc]
  exact World.cell?_of_block (w := w) (Below.heap_setCell _ _ _ _ (by show x.block ≠ b; omega))
def GoesInt (ts : TypeId) (b M k : Nat) (P : Int → Prop) (w : World) (e : Ending) (w' : World) : Prop := ∃ r : Int, P r ∧ e = .returned (.int .i64 r) ∧ Goes ts b M k w w'
def GoesStr (ts : TypeId) (b M k : Nat) (P : ByteArray → Prop) (w : World) (e : Ending) (w' : World) : Prop := ∃ r : ByteArray, P r ∧ e = .returned (.string r) ∧ Goes ts b M k w w'
def GoesBool (ts : TypeId) (b M k : Nat) (w : World) (e : Ending) (w' : World) : Prop := ∃ r : Bool, e = .returned (.bool r) ∧ Goes ts b M k w w'
theorem cell_new_list (w : World) (cs : Array Value) (t : TypeId) (i : Nat) (v : Value) (h : cs[i]? = some v) : (w.alloc (.cells cs t)).cell? ⟨w.heap.size, i, none⟩ = some v := by
  have h1 := heap_alloc_new w (.cells cs t)
  simp only [World.cell?, h1]
  exact h
theorem cells_new (w : World) (xs : List Value) (t : TypeId) : ∀ j u, xs[j]? = some u → (w.alloc (.cells xs.toArray t)).cell? ((⟨w.heap.size, 0, none⟩ : Addr).add j) = some u := by
  intro j u h
  have e : (⟨w.heap.size, 0, none⟩ : Addr).add j = ⟨w.heap.size, j, none⟩ := by unfold Addr.add; split <;> simp_all
  rw [e]
  exact cell_new_list w _ t j u (by simpa using h)
theorem ownsRow_base {w : World} {b b' size n : Nat} {e : TypeId} {v : Value} {xs : List Value} (h : w.ownsRow b e size v n xs) (hb : b' ≤ b) : w.ownsRow b' e size v n xs := by
  obtain ⟨hl, h2⟩ := h
  refine ⟨hl, ?_⟩
  rcases h2 with h2 | ⟨g, cap, cur, hv, hg, r⟩
  · exact .inl h2
  · exact .inr ⟨g, cap, cur, hv, Nat.le_trans hb hg, r⟩
theorem ownsRow_below {w w' : World} {b size n : Nat} {e : TypeId} {v : Value} {xs : List Value} (h : w.ownsRow b e size v n xs) (hb : Below w.heap.size w w') : w'.ownsRow b e size v n xs := by
  obtain ⟨hl, h2⟩ := h
  refine ⟨hl, ?_⟩
  rcases h2 with h2 | ⟨g, cap, cur, hv, hg, hh, r⟩
  · exact .inl h2
  · exact .inr ⟨g, cap, cur, hv, hg, (hb.block g (block_lt hh)).trans hh, r⟩
theorem ret_int {k : IntKind} {a b : Int} (h : a = b) : Ending.returned (.int k a) = .returned (.int k b) := by rw [h]
theorem bon {a b c : World} (h : Below a.heap.size a b) (k : Below b.heap.size b c) : Below a.heap.size a c := h.trans (k.mono h.size)
theorem bbox {a b : World} (h : Below a.heap.size a b) (o : Obj) : Below a.heap.size a (b.alloc o) := h.alloc h.size o
theorem bfirst (a : World) (o : Obj) : Below a.heap.size a (a.alloc o) := (Below.refl _ _).alloc (Nat.le_refl _) o
theorem bold {a b : World} (k : Below a.heap.size a b) {p : Addr} {v : Value} (h : a.cell? p = some v) : b.cell? p = some v :=
  (k.cell (World.block_lt_of_cell? a _ h)).trans h
theorem own_cells {w : World} {base e size n c : Nat} {g : Nat} {xs : List Value} (h : w.ownsRow base e size (.slice (some ⟨g, 0, none⟩) n c) n xs) : ∀ j u, xs[j]? = some u → w.cell? ((⟨g, 0, none⟩ : Addr).add j) = some u := by
  intro j u hu
  rcases h.2 with ⟨h0, _⟩ | ⟨g', cap, cur, hv, _, hh, _, _, _, hx⟩
  · cases h0
  · simp only [Value.slice.injEq, Option.some.injEq, Addr.mk.injEq] at hv
    obtain ⟨⟨rfl, _, _⟩, _, _⟩ := hv
    have e : (⟨g, 0, none⟩ : Addr).add j = ⟨g, j, none⟩ := by unfold Addr.add; split <;> simp_all
    rw [e]
    have hcur : cur[j]? = some u := by
      rw [← hx, List.getElem?_take] at hu
      split at hu
      · simpa using hu
      · cases hu
    simp [World.cell?, hh, hcur]
theorem own_nil_or {w : World} {base e size n : Nat} {v : Value} {xs : List Value} (h : w.ownsRow base e size v n xs) : (v = .slice none 0 0 ∧ n = 0 ∧ xs = []) ∨ ∃ g c, v = .slice (some ⟨g, 0, none⟩) n c := by
  rcases h.2 with ⟨rfl, rfl⟩ | ⟨g, cap, cur, rfl, _⟩
  · exact .inl ⟨rfl, rfl, List.eq_nil_of_length_eq_zero (by simpa using h.1)⟩
  · exact .inr ⟨g, cap, rfl⟩
theorem ownsRow_empty {w : World} {t : TypeId} {base size : Nat} (hb : base ≤ w.heap.size) : (w.alloc (.cells #[] t)).ownsRow base t size (.slice (some ⟨w.heap.size, 0, none⟩) 0 0) 0 [] :=
  ⟨by simp, .inr ⟨w.heap.size, 0, #[], rfl, hb, heap_alloc_new w _, Nat.le_refl _, by unfold maxLen; omega, by simp, by simp⟩⟩
theorem wpList_push {P : Program} {ops : Array Oper} {rest : List Oper} {o : Oper} {a : Act} {Q : Exit → Act → World → Prop} {W w0 w1 : World} {lo : Nat} (hgd : o.guard = none) (s x : Operand) (t : TypeId)
    (ho : o.op = .call { callee := .builtin .append, args := #[s, x], argTypes := #[t, t] })
    (e : TypeId) (i : TypeInfo) (z : Value) (size bytes : Nat) (ht : P.underlying t = some (.slice e)) (hi : P.info? e = some i) (hz : i.zero = some z)
    (hsize : i.size = size) (hby : i.bytes = bytes) (hzs : z.cells.size = size) (hsz : 0 < size) (hb64 : bytes ≤ 100)
    (v : Value) (n : Nat) (xs : List Value) (hs : a.eval s = v) (hB : Below lo W w0) (hlo : lo ≤ w0.heap.size) (hown : w0.ownsRow lo e size v n xs)
    (news : List Value) (hw1 : w1 = w0.alloc (.cells news.toArray e)) (hx : a.eval x = .slice (some ⟨w0.heap.size, 0, none⟩) 1 1) (hl : news.length = size) (h1 : news.all (·.oneCell') = true) (hn : n ≤ 1000000000000)
    (h : ∀ v' w', w'.ownsRow lo e size v' (n + 1) (xs ++ news) → Below lo W w' → w0.heap.size < w'.heap.size → w0.grownBy w' v.ownBlock → wpList P ops Q rest (a.put o.dst v') w') :
    wpList P ops Q (o :: rest) a w1 := by
  subst hw1
  refine wpList_append_own _ hgd s x t ho lo e i z size bytes ht hi hz hsize hby hzs hsz v n xs hs (hown.alloc _) ⟨w0.heap.size, 0, none⟩ 1 1 news hx (by omega) (cells_new w0 news e)
    (fun u hu => List.all_eq_true.1 h1 u hu) (by unfold maxLen; omega) (Nat.le_trans (Nat.mul_le_mul (show n + 1 ≤ 1000000000001 by omega) hb64) (by decide)) (by simp; omega) ?_
  intro v' w' hown' hgrow _
  refine h v' w' hown' ((hB.alloc hlo _).grown hgrow (by simp; omega) (fun x hx => (hown.lt x hx).1)) (by have := hgrow.size; simp at this; omega) ?_
  exact ⟨hgrow.os, hgrow.tape, hgrow.output, by have := hgrow.size; simp at this; omega, fun k hk hne => (hgrow.block k (by simp; omega) hne).trans (Below.heap_alloc w0 _ k hk)⟩
def PredL {α : Type} (P : Program) (g : Nat) (lb : Array Value) (enc : α → List Value) (ts : List α) (p : α → Bool) (w : World) : Prop :=
  ∀ (W : World) (x : α), x ∈ ts → Below w.heap.size w W → Calls P g (#[.agg (enc x).toArray] ++ lb) W fun e w' => e = .returned (.bool (p x)) ∧ Below W.heap.size W w'
def idxLs {α : Type} (p : α → Bool) (ts : List α) : Int := match ts.findIdx? p with
  | some i => (i : Int)
  | none => -1
section
variable {α : Type} {p : α → Bool} {ts : List α} {k : Nat}
theorem idxL_miss (h : ∀ x ∈ ts, p x = false) : idxLs p ts = -1 := by
  have : ts.findIdx? p = none := by rw [List.findIdx?_eq_none_iff]; exact h
  rw [idxLs, this]
theorem idxL_hit (hk : k < ts.length) (hp : p ts[k] = true) (h : ∀ x ∈ ts.take k, p x = false) : idxLs p ts = k := by
  have : ts.findIdx? p = some k := by
    rw [List.findIdx?_eq_some_iff_getElem]
    refine ⟨hk, hp, fun j hj => ?_⟩
    have := h (ts[j]'(by omega)) (by rw [List.mem_take_iff_getElem]; exact ⟨j, by omega, rfl⟩)
    simpa using this
  rw [idxLs, this]
theorem idxL_more (hk : k < ts.length) (hp : p ts[k] = false) (h : ∀ x ∈ ts.take k, p x = false) : ∀ x ∈ ts.take (k + 1), p x = false := by
  rw [List.take_succ_eq_append_getElem hk]
  intro x hx
  rcases List.mem_append.1 hx with hx | hx
  · exact h x hx
  · simp at hx; subst hx; exact hp
end
theorem idxLs_any {α : Type} (p : α → Bool) (ts : List α) : decide (0 ≤ idxLs p ts) = ts.any p := by
  unfold idxLs
  cases h : ts.findIdx? p with
  | none =>
    rw [List.findIdx?_eq_none_iff] at h
    have : ts.any p = false := by rw [List.any_eq_false]; intro x hx; simp [h x hx]
    rw [this]; rfl
  | some i =>
    rw [List.findIdx?_eq_some_iff_getElem] at h
    obtain ⟨hi, hp, _⟩ := h
    have : ts.any p = true := List.any_eq_true.2 ⟨_, List.getElem_mem hi, hp⟩
    rw [this]
    simp
def IdxLRel {α : Type} (p : α → Bool) (ts : List α) (w : World) (g : Nat) (i : Value) (wr : World) : Prop :=
  ∃ k : Nat, k + g = ts.length ∧ i = .int .i64 k ∧ (∀ x ∈ ts.take k, p x = false) ∧ Below w.heap.size w wr
set_option linter.unusedVariables false
set_option linter.unusedSimpArgs false
abbrev LinkD := Int × Int × Int
def linC (x : LinkD) (a t : Int) : Int := x.2.2 * max 0 (min x.2.1 t - max x.1 a)
def car (ls : List LinkD) (a t : Int) : Int := (ls.map fun x => linC x a t).sum
theorem car_cons (x : LinkD) (r : List LinkD) (a t : Int) : car (x :: r) a t = linC x a t + car r a t := by simp [car]
def okLink (x : LinkD) : Prop := 0 ≤ x.1 ∧ x.1 < x.2.1 ∧ x.2.1 ≤ 345686400000 ∧ 1 ≤ x.2.2 ∧ x.2.2 ≤ 1000000
structure LinksOk (ls : List LinkD) : Prop where
  each : ∀ x ∈ ls, okLink x
  rise : ls.Pairwise fun x y => x.2.1 ≤ y.1
theorem LinksOk.tail {x : LinkD} {r : List LinkD} (h : LinksOk (x :: r)) : LinksOk r := ⟨fun y hy => h.each y (by simp [hy]), (List.pairwise_cons.1 h.rise).2⟩
theorem linC_zero {x : LinkD} {a t : Int} (h : t ≤ x.1) : linC x a t = 0 := by
  unfold linC
  rw [show max 0 (min x.2.1 t - max x.1 a) = 0 by omega, Int.mul_zero]
theorem car_zero {ls : List LinkD} {a t : Int} (h : ∀ x ∈ ls, t ≤ x.1) : car ls a t = 0 := by
  induction ls with
  | nil => rfl
  | cons x r ih => rw [car_cons, linC_zero (h x (by simp)), ih fun y hy => h y (by simp [hy])]; rfl
def canL (x : LinkD) (a : Int) : Int := max 0 (x.2.1 - max x.1 a) * x.2.2
theorem linC_le {x : LinkD} (h : okLink x) (a t : Int) : linC x a t ≤ canL x a := by
  unfold linC canL
  rw [Int.mul_comm]
  exact Int.mul_le_mul_of_nonneg_right (by omega) (by have := h.2.2.2.1; omega)
theorem linC_full {x : LinkD} {a t : Int} (h : x.2.1 ≤ t) : linC x a t = canL x a := by
  unfold linC canL
  rw [Int.mul_comm, show min x.2.1 t = x.2.1 by omega]
def doneL : List LinkD → Int → Int → Option Int
  | [], _, _ => none
  | x :: r, a, b => if b ≤ canL x a then some (max x.1 a + (b + x.2.2 - 1) / x.2.2) else doneL r a (b - canL x a)
def Tells (ls : List LinkD) (a b : Int) : Option Int → Prop
  | some t => a ≤ t ∧ t ≤ 345686400000 ∧ b ≤ car ls a t ∧ ∀ t', t' < t → car ls a t' < b
  | none => ∀ t, car ls a t < b
theorem doneL_tells {ls : List LinkD} (h : LinksOk ls) (a : Int) : ∀ {b : Int}, 0 < b → Tells ls a b (doneL ls a b) := by
  induction ls with
  | nil => intro b hb t; simpa [car] using hb
  | cons x r ih =>
    intro b hb
    have hx := h.each x (by simp)
    obtain ⟨x0, x1, x2, x3, x4⟩ := hx
    have hr : ∀ y ∈ r, x.2.1 ≤ y.1 := (List.pairwise_cons.1 h.rise).1
    unfold doneL
    by_cases hc : b ≤ canL x a
    · rw [if_pos hc]
      have hpos : max x.1 a < x.2.1 := by
        rcases Int.lt_or_le (max x.1 a) x.2.1 with h1 | h1
        · exact h1
        · unfold canL at hc
          rw [show max 0 (x.2.1 - max x.1 a) = 0 by omega, Int.zero_mul] at hc
          omega
      have e1 : x.2.2 * ((b + x.2.2 - 1) / x.2.2) ≤ b + x.2.2 - 1 := Int.mul_ediv_self_le (by omega)
      have e2 : b + x.2.2 - 1 < x.2.2 * ((b + x.2.2 - 1) / x.2.2) + x.2.2 := Int.lt_mul_ediv_self_add (by omega)
      have q0 : 0 ≤ (b + x.2.2 - 1) / x.2.2 := Int.ediv_nonneg (by omega) (by omega)
      generalize (b + x.2.2 - 1) / x.2.2 = q at *
      have hq : max x.1 a + q ≤ x.2.1 := by
        rcases Int.lt_or_le x.2.1 (max x.1 a + q) with h1 | h1
        · exfalso
          unfold canL at hc
          rw [show max 0 (x.2.1 - max x.1 a) = x.2.1 - max x.1 a by omega, Int.mul_comm] at hc
          have : x.2.2 * (x.2.1 - max x.1 a) ≤ x.2.2 * (q - 1) := Int.mul_le_mul_of_nonneg_left (by omega) (by omega)
          rw [Int.mul_sub, Int.mul_sub] at this
          rw [Int.mul_sub] at hc
          omega
        · exact h1
      refine ⟨by omega, by omega, ?_, fun t' ht => ?_⟩
      · rw [car_cons, car_zero fun y hy => by have := hr y hy; omega]
        unfold linC
        rw [show max 0 (min x.2.1 (max x.1 a + q) - max x.1 a) = q by omega]
        omega
      · rw [car_cons, car_zero fun y hy => by have := hr y hy; omega]
        unfold linC
        have : x.2.2 * max 0 (min x.2.1 t' - max x.1 a) ≤ x.2.2 * max 0 (q - 1) := Int.mul_le_mul_of_nonneg_left (by omega) (by omega)
        rcases Int.lt_or_le q 1 with h1 | h1
        · rw [show max 0 (q - 1) = 0 by omega, Int.mul_zero] at this; omega
        · rw [show max 0 (q - 1) = q - 1 by omega, Int.mul_sub] at this; omega
    · rw [if_neg hc]
      have ihr := ih h.tail (b := b - canL x a) (by omega)
      cases hd : doneL r a (b - canL x a) with
      | none =>
        rw [hd] at ihr
        intro t
        have := ihr t
        have := linC_le (h.each x (by simp)) a t
        rw [car_cons]; omega
      | some t =>
        rw [hd] at ihr
        obtain ⟨h1, h2, h3, h4⟩ := ihr
        refine ⟨h1, h2, ?_, fun t' ht => ?_⟩
        · have hge : x.2.1 ≤ t := by
            rcases Int.lt_or_le t x.2.1 with h5 | h5
            · exfalso
              rw [car_zero fun y hy => by have := hr y hy; omega] at h3
              omega
            · exact h5
          rw [car_cons, linC_full hge]; omega
        · have := h4 t' ht
          have := linC_le (h.each x (by simp)) a t'
          rw [car_cons]; omega
theorem Tells.one {ls : List LinkD} {a b : Int} {o o' : Option Int} (h : Tells ls a b o) (h' : Tells ls a b o') : o = o' := by
  cases o with
  | none =>
    cases o' with
    | none => rfl
    | some t => have := h t; have := h'.2.2.1; omega
  | some t =>
    cases o' with
    | none => have := h' t; have := h.2.2.1; omega
    | some t' =>
      rcases Int.lt_trichotomy t t' with h1 | h1 | h1
      · have := h'.2.2.2 t h1; have := h.2.2.1; omega
      · rw [h1]
      · have := h.2.2.2 t' h1; have := h'.2.2.1; omega
def fastL (p : Int) (x : LinkD) : LinkD := (x.1, x.2.1, min (x.2.2 * p / 100) 1000000)
theorem fastL_ok {x : LinkD} (h : okLink x) {p : Int} (hp : 100 ≤ p) : okLink (fastL p x) := by
  obtain ⟨h0, h1, h2, h3, h4⟩ := h
  refine ⟨h0, h1, h2, ?_, by show min _ _ ≤ _; omega⟩
  have : 1 ≤ x.2.2 * p / 100 := by
    have : 1 * 100 ≤ x.2.2 * p := Int.mul_le_mul h3 hp (by omega) (by omega)
    omega
  show 1 ≤ min _ _
  omega
theorem fast_ok {ls : List LinkD} (h : LinksOk ls) {p : Int} (hp : 100 ≤ p) : LinksOk (ls.map (fastL p)) := by
  refine ⟨fun y hy => ?_, ?_⟩
  · obtain ⟨x, hx, rfl⟩ := List.mem_map.1 hy
    exact fastL_ok (h.each x hx) hp
  · rw [List.pairwise_map]; exact h.rise
theorem fast_car {ls : List LinkD} (h : LinksOk ls) {p q : Int} (_hp : 100 ≤ p) (hpq : p ≤ q) (a t : Int) : car (ls.map (fastL p)) a t ≤ car (ls.map (fastL q)) a t := by
  induction ls with
  | nil => simp [car]
  | cons x r ih =>
    rw [List.map_cons, List.map_cons, car_cons, car_cons]
    have h1 := ih h.tail
    have h2 : linC (fastL p x) a t ≤ linC (fastL q x) a t := by
      unfold linC fastL
      refine Int.mul_le_mul_of_nonneg_right ?_ (by omega)
      have := (h.each x (by simp)).2.2.2.1
      have : x.2.2 * p ≤ x.2.2 * q := Int.mul_le_mul_of_nonneg_left hpq (by omega)
      show min (x.2.2 * p / 100) 1000000 ≤ min (x.2.2 * q / 100) 1000000
      omega
    omega
open Go.RowKit
def BelowOf (x n : Int) : Int := if n < 1 then 0 else if x.tmod n < 0 then x.tmod n + n else x.tmod n
theorem belowOf_range (x n : Int) (h : 1 ≤ n) : 0 ≤ BelowOf x n ∧ BelowOf x n < n := by
  unfold BelowOf
  have h1 := Int.tmod_lt_of_pos x (show 0 < n by omega)
  have h2 := Int.lt_tmod_of_pos x (show 0 < n by omega)
  split
  · omega
  · split <;> omega
set_option maxHeartbeats 400000 in
theorem below_any (x n : Int) (w : World) (h1 : 1 ≤ n) (h2 : n ≤ 9223372036854775807) :
    Calls Tryz.prog 69 #[.int .i64 x, .int .i64 n] w fun e w' => e = .returned (.int .i64 (BelowOf x n)) ∧ w = w' := by
  have hr := Int.lt_tmod_of_pos x (show 0 < n by omega)
  have hr2 := Int.tmod_lt_of_pos x (show 0 < n by omega)
  go_enter Tryz.func69, Tryz.ntmps69
  go_wp2
  · have h : x.tmod n < 0 := by assumption
    go_ret
    exact ⟨by unfold BelowOf; rw [if_neg (by omega), if_pos h]; rfl, rfl⟩
  · have h : 0 ≤ x.tmod n := by assumption
    go_ret
    exact ⟨by unfold BelowOf; rw [if_neg (by omega), if_neg (by omega)]; rfl, rfl⟩
def SomeBelow (n : Int) (w : World) (e : Ending) (w' : World) : Prop := ∃ r : Int, 0 ≤ r ∧ r < n ∧ e = .returned (.int .i64 r) ∧ w = w'
theorem below_some (x n : Int) (w : World) (h1 : 1 ≤ n) (h2 : n ≤ 9223372036854775807) :
    Calls Tryz.prog 69 #[.int .i64 x, .int .i64 n] w (SomeBelow n w) :=
  (below_any x n w h1 h2).mono fun _ _ ⟨he, hw⟩ => ⟨_, (belowOf_range x n h1).1, (belowOf_range x n h1).2, he, hw⟩
set_option maxHeartbeats 1000000 in
theorem next_any (b M : Nat) (n : Int) (w : World) (hs : IsStream 25 w b M) (hM : M ≤ 4611686018427387904) (h1 : 1 ≤ n) (h2 : n ≤ 9223372036854775807) :
    Calls Tryz.prog 14 #[.pointer (some ⟨b, 0, none⟩), .int .i64 n] w (GoesInt 25 b M 1 (fun r => 0 ≤ r ∧ r < n) w) := by
  obtain ⟨a, len, cap, at_, hh, hat, hlen, hz⟩ := hs
  obtain ⟨c0, c1, f0, f1⟩ := stream_cells hh
  by_cases h0 : len = 0
  · subst h0
    have H := Lib.hid (fun nq => goes_set (nq := nq) hh hat hlen hz)
    clear hh hz
    go_enter Tryz.func14, Tryz.ntmps14
    go_wp2_with fail
    refine (below_some _ _ _ h1 h2).mono ?_
    rintro e w' ⟨r, hr0, hr1, rfl, rfl⟩
    go_wp2_with fail
    go_ret
    exact ⟨r, ⟨hr0, hr1⟩, rfl, H.out 0⟩
  · obtain ⟨⟨xb, xo, xs⟩, rfl, hxb, hxs, hc⟩ := hz (by omega)
    simp only at hxs; subst hxs
    have hlp : 0 < len := by omega
    obtain ⟨z, hzc⟩ := hc (at_ % len) (Nat.mod_lt _ hlp)
    have H := Lib.hid (fun nq => goes_set (nq := nq) hh hat hlen hz)
    have hne : ((len : Int) == 0) = false := by simp; omega
    have hzc' : (w.setCell ⟨b, 1, none⟩ (.int .i64 ((at_ : Int) + 1))).cell? ⟨xb, xo + at_ % len, none⟩ = some (.int .i64 z) := by
      rw [← hzc]; exact World.cell?_of_block (w := w) (Below.heap_setCell _ _ _ _ (by simp only at hxb; show xb ≠ b; omega))
    have hb1 : (0 : Int) ≤ (at_ : Int) % (len : Int) := Int.emod_nonneg _ (by omega)
    have hb2 : (at_ : Int) % (len : Int) < (len : Int) := Int.emod_lt_of_pos _ (by omega)
    have hb3 : ((at_ : Int) % (len : Int)).toNat = at_ % len := by omega
    clear hh hz hc
    go_enter Tryz.func14, Tryz.ntmps14
    go_wp2_with fail
    go_quiet (fail)
    go_wp2_with fail
    go_quiet (fail)
    go_wp2_with fail
    refine (below_some _ _ _ (by omega) (by omega)).mono ?_
    rintro e w' ⟨r, hr0, hr1, rfl, rfl⟩
    go_wp2_with fail
    refine (below_some _ _ _ h1 h2).mono ?_
    rintro e w' ⟨r2, hr0, hr1, rfl, rfl⟩
    go_wp2_with fail
    go_ret
    exact ⟨r2, ⟨hr0, hr1⟩, rfl, H.out _⟩
set_option maxHeartbeats 400000 in
theorem range_any (b M : Nat) (lo hi : Int) (w : World) (hs : IsStream 25 w b M) (hM : M ≤ 4611686018427387904) (h0 : -1000000000000000 ≤ lo) (h1 : lo ≤ hi) (h2 : hi ≤ 1000000000000000) :
    Calls Tryz.prog 20 #[.pointer (some ⟨b, 0, none⟩), .int .i64 lo, .int .i64 hi] w (GoesInt 25 b M 1 (fun r => lo ≤ r ∧ r ≤ hi) w) := by
  go_enter Tryz.func20, Tryz.ntmps20
  go_wp2_with fail
  refine (next_any _ M _ _ hs hM (by omega) (by omega)).mono ?_
  rintro e w' ⟨r, ⟨hr0, hr1⟩, rfl, hg⟩
  go_wp2_with fail
  go_ret
  exact ⟨lo + r, ⟨by omega, by omega⟩, rfl, hg⟩
set_option maxHeartbeats 400000 in
theorem flip_any (b M : Nat) (n : Int) (w : World) (hs : IsStream 25 w b M) (hM : M ≤ 4611686018427387904) (h1 : 1 ≤ n) (h2 : n ≤ 1000000000000000) :
    Calls Tryz.prog 68 #[.pointer (some ⟨b, 0, none⟩), .int .i64 n] w (GoesBool 25 b M 1 w) := by
  go_enter Tryz.func68, Tryz.ntmps68
  go_wp2_with fail
  refine (next_any _ M _ _ hs hM (by omega) (by omega)).mono ?_
  rintro e w' ⟨r, ⟨hr0, hr1⟩, rfl, hg⟩
  go_wp2_with fail
  go_ret
  exact ⟨r == 0, rfl, hg⟩
set_option maxHeartbeats 400000 in
theorem pick_any (b M g : Nat) (zs : List Int) (n cap : Nat) (w : World) (t : TypeId) (hs : IsStream 25 w b M) (hM : M ≤ 4611686018427387904) (hn : n = zs.length) (h1 : 1 ≤ n) (h2 : n ≤ 1000000)
    (hg : w.heap[g]? = some (.cells (zs.map (Value.int .i64)).toArray t (0, 0))) (hgb : g ≠ b) :
    Calls Tryz.prog 21 #[.pointer (some ⟨b, 0, none⟩), .slice (some ⟨g, 0, none⟩) n cap] w (GoesInt 25 b M 1 (fun r => r ∈ zs) w) := by
  have Hn := Lib.hid hn
  clear hn
  go_enter Tryz.func21, Tryz.ntmps21
  go_wp2_with fail
  refine (next_any _ M _ _ hs hM (by omega) (by omega)).mono ?_
  rintro e w' ⟨r, ⟨hr0, hr1⟩, rfl, hgo⟩
  obtain ⟨k, rfl⟩ := Int.eq_ofNat_of_zero_le hr0
  have hk : k < zs.length := by have := Hn.out; omega
  have hc : w'.cell? ⟨g, k, none⟩ = some (.int .i64 zs[k]) := by
    have h3 := (hgo.gb.block g (block_lt hg) (fun e => by injection e with e; omega)).trans hg
    simp [World.cell?, h3, hk]
  clear hg
  go_wp2_with fail
  go_ret
  exact ⟨zs[k], List.getElem_mem hk, rfl, hgo⟩
set_option maxHeartbeats 400000 in
theorem some_any (b M g : Nat) (ss : List ByteArray) (n cap : Nat) (w : World) (t : TypeId) (hs : IsStream 25 w b M) (hM : M ≤ 4611686018427387904) (hn : n = ss.length) (h1 : 1 ≤ n) (h2 : n ≤ 1000000)
    (hg : w.heap[g]? = some (.cells (ss.map Value.string).toArray t (0, 0))) (hgb : g ≠ b) :
    Calls Tryz.prog 67 #[.pointer (some ⟨b, 0, none⟩), .slice (some ⟨g, 0, none⟩) n cap] w (GoesStr 25 b M 1 (fun r => r ∈ ss) w) := by
  have Hn := Lib.hid hn
  clear hn
  go_enter Tryz.func67, Tryz.ntmps67
  go_wp2_with fail
  refine (next_any _ M _ _ hs hM (by omega) (by omega)).mono ?_
  rintro e w' ⟨r, ⟨hr0, hr1⟩, rfl, hgo⟩
  obtain ⟨k, rfl⟩ := Int.eq_ofNat_of_zero_le hr0
  have hk : k < ss.length := by have := Hn.out; omega
  have hc : w'.cell? ⟨g, k, none⟩ = some (.string ss[k]) := by
    have h3 := (hgo.gb.block g (block_lt hg) (fun e => by injection e with e; omega)).trans hg
    simp [World.cell?, h3, hk]
  clear hg
  go_wp2_with fail
  go_ret
  exact ⟨ss[k], List.getElem_mem hk, rfl, hgo⟩
def outsideB (n lo hi : Int) : Bool := decide (n < lo) || decide (hi < n)
set_option maxHeartbeats 400000 in
theorem outside_any (n lo hi : Int) (w : World) :
    Calls Tryz.prog 74 #[.int .i64 n, .int .i64 lo, .int .i64 hi] w fun e w' => e = .returned (.bool (outsideB n lo hi)) ∧ w = w' := by
  by_cases h1 : n < lo
  · go_enter Tryz.func74, Tryz.ntmps74
    go_wp2
    go_ret
    exact ⟨by simp [outsideB, h1], rfl⟩
  · have h1' : decide (n < lo) = false := by simpa using h1
    go_enter Tryz.func74, Tryz.ntmps74
    go_wp2
    go_ret
    exact ⟨by simp [outsideB, h1'], rfl⟩
set_option maxHeartbeats 400000 in
theorem in_any (n lo hi : Int) (w : World) :
    Calls Tryz.prog 91 #[.int .i64 n, .int .i64 lo, .int .i64 hi] w fun e w' => e = .returned (.bool (!outsideB n lo hi)) ∧ w = w' := by
  by_cases h1 : lo ≤ n
  · go_enter Tryz.func91, Tryz.ntmps91
    go_wp2
    go_ret
    exact ⟨by have : ¬ n < lo := by omega
              simp [outsideB, this, ← Int.not_lt], rfl⟩
  · have h1' : decide (lo ≤ n) = false := by simpa using h1
    go_enter Tryz.func91, Tryz.ntmps91
    go_wp2
    go_ret
    exact ⟨by have : n < lo := by omega
              simp [outsideB, this], rfl⟩
def keyByte (i n : Nat) : Bool := (decide (97 ≤ n) && decide (n ≤ 122)) || (decide (0 < i) && ((decide (48 ≤ n) && decide (n ≤ 57)) || n == 45 || n == 95))
def keyTo (s : ByteArray) : Nat → Bool
  | 0 => true
  | k + 1 => keyTo s k && keyByte k (s.data.toList.getD k 0).toNat
def keyB (s : ByteArray) : Bool := keyTo s s.size && decide (1 ≤ s.size) && decide (s.size ≤ 40)
theorem keyTo_le (s : ByteArray) {k m : Nat} (h : k ≤ m) (hm : keyTo s m = true) : keyTo s k = true := by
  induction m with
  | zero => obtain rfl : k = 0 := by omega
            rfl
  | succ m ih =>
    by_cases e : k = m + 1
    · rw [e]; exact hm
    · rw [keyTo, Bool.and_eq_true] at hm
      exact ih (by omega) hm.1
theorem keyB_no (s : ByteArray) {k : Nat} (h : k ≤ s.size) (hk : keyTo s k = false) : keyB s = false := by
  have h2 : keyTo s s.size = false := by
    cases h3 : keyTo s s.size with
    | false => rfl
    | true => rw [keyTo_le s h h3] at hk; cases hk
  simp [keyB, h2]
theorem getD_byte (s : ByteArray) (k : Nat) (h : k < s.size) : s.data.toList.getD k 0 = s[k] := by
  have h' : k < s.data.toList.length := h
  simp [List.getD, List.getElem?_eq_getElem h']; rfl
set_option maxRecDepth 100000 in
set_option maxHeartbeats 2000000 in
theorem isKey_any (s : ByteArray) (hsz : s.size ≤ 1000000000000) (w : World) :
    Calls Tryz.prog 151 #[.string s] w fun e w' => e = .returned (.bool (keyB s)) ∧ w = w' := by
  go_enter Tryz.func151, Tryz.ntmps151
  go_wp2_with fail
  go_loopg [3, 4] s.size (fun g i _ wr => ∃ k : Nat, k + g = s.size ∧ i = .int .i64 k ∧ keyTo s k = true ∧ w = wr)
  case atStart => exact ⟨0, by omega, rfl, rfl, rfl⟩
  case round =>
    obtain ⟨k, hk, rfl, hkey, rfl⟩ := hrel
    have HK := Lib.hid hkey
    clear hkey
    by_cases hg : gk = 0
    · obtain rfl : k = s.size := by omega
      by_cases h0 : s.size = 0
      · have e0 : s = ⟨#[]⟩ := by
          obtain ⟨⟨l⟩⟩ := s
          have : l = [] := List.eq_nil_of_length_eq_zero h0
          rw [this]
        subst e0
        go_wp2_with fail
        go_ret
        exact ⟨rfl, rfl⟩
      · have hne : s.toList.isEmpty = false := by
          rw [ByteArray.toList_eq]
          cases hl : s.data.toList with
          | nil => exact absurd (show s.data.toList.length = 0 by rw [hl]; rfl) h0
          | cons _ _ => rfl
        go_wp2_with fail
        go_ret
        refine ⟨?_, rfl⟩
        have e1 : keyB s = decide ((s.size : Int) ≤ 40) := by
          have h1 : decide (1 ≤ s.size) = true := by simp; omega
          rw [keyB, HK.out, h1, Bool.true_and, Bool.true_and, Bool.eq_iff_iff]; simp; omega
        rw [e1]; rfl
    · have hlt : k < s.size := by omega
      have HG := Lib.hid (show keyTo s (k + 1) = (keyTo s k && keyByte k s[k].toNat) by rw [keyTo, getD_byte s k hlt])
      go_upto_region 5 with fail
      generalize s[k].toNat = n at *
      go_cut [40] (fun s40 wx => s40 = .bool (!keyByte k n) ∧ w = wx)
      case first =>
        by_cases c1 : n < 97
        · by_cases ck : k ≤ 0
          · have HV := Lib.hid (show keyByte k n = false by simp [keyByte]; omega)
            go_wp2_with fail
            go_meet
            exact ⟨by rw [HV.out]; first | rfl | (simp; omega), rfl⟩
          · have ck' : 0 < k := by omega
            by_cases c2 : n < 48
            · by_cases c3 : n = 45
              · have b3 : ((n : Int) == 45) = true := by simp; omega
                have HV := Lib.hid (show keyByte k n = true by simp [keyByte]; omega)
                go_wp2_with fail
                go_meet
                exact ⟨by rw [HV.out]; first | rfl | (simp; omega), rfl⟩
              · have b3 : ((n : Int) == 45) = false := by simp; omega
                have b4 : ((n : Int) == 95) = false := by simp; omega
                have HV := Lib.hid (show keyByte k n = false by simp [keyByte]; omega)
                go_wp2_with fail
                go_meet
                exact ⟨by rw [HV.out]; first | rfl | (simp; omega), rfl⟩
            · by_cases c3 : n ≤ 57
              · have HV := Lib.hid (show keyByte k n = true by simp [keyByte]; omega)
                go_wp2_with fail
                go_meet
                exact ⟨by rw [HV.out]; first | rfl | (simp; omega), rfl⟩
              · have b3 : ((n : Int) == 45) = false := by simp; omega
                by_cases c4 : n = 95
                · have b4 : ((n : Int) == 95) = true := by simp; omega
                  have HV := Lib.hid (show keyByte k n = true by simp [keyByte]; omega)
                  go_wp2_with fail
                  go_meet
                  exact ⟨by rw [HV.out]; first | rfl | (simp; omega), rfl⟩
                · have b4 : ((n : Int) == 95) = false := by simp; omega
                  have HV := Lib.hid (show keyByte k n = false by simp [keyByte]; omega)
                  go_wp2_with fail
                  go_meet
                  exact ⟨by rw [HV.out]; first | rfl | (simp; omega), rfl⟩
        · by_cases c2 : n ≤ 122
          · have HV := Lib.hid (show keyByte k n = true by simp [keyByte]; omega)
            go_wp2_with fail
            go_meet
            exact ⟨by rw [HV.out]; first | rfl | (simp; omega), rfl⟩
          · by_cases ck : k ≤ 0
            · have HV := Lib.hid (show keyByte k n = false by simp [keyByte]; omega)
              go_wp2_with fail
              go_meet
              exact ⟨by rw [HV.out]; first | rfl | (simp; omega), rfl⟩
            · have ck' : 0 < k := by omega
              have b3 : ((n : Int) == 45) = false := by simp; omega
              have b4 : ((n : Int) == 95) = false := by simp; omega
              have HV := Lib.hid (show keyByte k n = false by simp [keyByte]; omega)
              go_wp2_with fail
              go_meet
              exact ⟨by rw [HV.out]; first | rfl | (simp; omega), rfl⟩
      case rest =>
        obtain ⟨rfl, rfl⟩ := hcut
        rcases Bool.eq_false_or_eq_true (keyByte k n) with c | c
        · rw [c]
          go_wp2_with fail
          go_roundg (gk - 1)
          case measure => omega
          case rel => exact ⟨k + 1, by omega, by go_num, by rw [HG.out, HK.out, c]; rfl, rfl⟩
        · rw [c]
          go_wp2_with fail
          go_ret
          refine ⟨?_, rfl⟩
          have : keyB s = false := keyB_no s (show k + 1 ≤ s.size by omega) (by rw [HG.out, c, Bool.and_false])
          rw [this]; rfl
theorem dropWhile_nil {α : Type} (p : α → Bool) : ∀ l : List α, (l.dropWhile p).isEmpty = l.all p
  | [] => rfl
  | x :: l => by
    rw [List.dropWhile_cons, List.all_cons]
    cases h : p x with
    | true => simpa using dropWhile_nil p l
    | false => simp
theorem dropWhile_head {α : Type} (p : α → Bool) : ∀ (l : List α) (x : α) (r : List α), l.dropWhile p = x :: r → p x = false
  | [], x, r, h => by simp at h
  | y :: l, x, r, h => by
    rw [List.dropWhile_cons] at h
    cases hy : p y with
    | true => rw [hy] at h; exact dropWhile_head p l x r (by simpa using h)
    | false => rw [hy] at h; simp at h; rw [← h.1]; exact hy
theorem trimS_empty (l cs : List UInt8) : (Lib.trimS l cs).isEmpty = l.all (cs.contains ·) := by
  unfold Lib.trimS Lib.trimLeftS Lib.trimRightS
  rw [dropWhile_nil, List.all_reverse]
  cases h : l.reverse.dropWhile (cs.contains ·) with
  | nil =>
    have := dropWhile_nil (cs.contains ·) l.reverse
    rw [h, List.all_reverse] at this
    rw [← this]; rfl
  | cons x r =>
    have h1 := dropWhile_head _ _ _ _ h
    have h2 := dropWhile_nil (cs.contains ·) l.reverse
    rw [h, List.all_reverse] at h2
    rw [List.all_cons, h1, ← h2]; rfl
def smallL : List UInt8 := [97, 98, 99, 100, 101, 102, 103, 104, 105, 106, 107, 108, 109, 110, 111, 112, 113, 114, 115, 116, 117, 118, 119, 120, 121, 122]
def keySet : List UInt8 := [97, 98, 99, 100, 101, 102, 103, 104, 105, 106, 107, 108, 109, 110, 111, 112, 113, 114, 115, 116, 117, 118, 119, 120, 121, 122, 48, 49, 50, 51, 52, 53, 54, 55, 56, 57, 45, 95]
theorem keySet_byte : ∀ n, n < 256 → keySet.contains (UInt8.ofNat n) = keyByte 1 n := by decide +kernel
theorem small_byte : ∀ n, n < 256 → decide (0 ≤ Lib.indexByte smallL (UInt8.ofNat n)) = keyByte 0 n := by decide +kernel
theorem keyByte_pos (i n : Nat) (h : 0 < i) : keyByte i n = keyByte 1 n := by simp [keyByte, h]
theorem keyByte_zero (n : Nat) (h : keyByte 0 n = true) : keyByte 1 n = true := by simp [keyByte] at h ⊢; omega
theorem ofNat_toNat8 (b : UInt8) : UInt8.ofNat b.toNat = b := by simp
theorem keyTo_all (s : ByteArray) (x : UInt8) (r : List UInt8) (h : s.data.toList = x :: r) : ∀ k, k ≤ r.length → keyTo s (k + 1) = (keyByte 0 x.toNat && (r.take k).all (keySet.contains ·))
  | 0, _ => by simp [keyTo, h]
  | k + 1, hk => by
    rw [keyTo, keyTo_all s x r h k (by omega), h]
    have hg : (x :: r).getD (k + 1) 0 = r[k]'(by omega) := by simp [List.getD, List.getElem?_eq_getElem (show k < r.length by omega)]
    rw [hg, keyByte_pos (k + 1) _ (by omega), ← keySet_byte _ (UInt8.toNat_lt _), ofNat_toNat8, List.take_succ_eq_append_getElem (by omega), List.all_append, List.all_cons, List.all_nil, Bool.and_true, Bool.and_assoc]
theorem keyB_eq (s : ByteArray) (x : UInt8) (r : List UInt8) (h : s.data.toList = x :: r) (h40 : s.size ≤ 40) :
    keyB s = ((x :: r).all (keySet.contains ·) && decide (0 ≤ Lib.indexByte smallL x)) := by
  have hl : s.size = r.length + 1 := by show s.data.toList.length = _; rw [h]; rfl
  have h1 : decide (1 ≤ s.size) = true := by simp; omega
  have h2 : decide (s.size ≤ 40) = true := by simpa using h40
  rw [keyB, h1, h2, Bool.and_true, Bool.and_true, hl, keyTo_all s x r h r.length (Nat.le_refl _), List.take_length, List.all_cons]
  have e := small_byte x.toNat (UInt8.toNat_lt _)
  have e2 := keySet_byte x.toNat (UInt8.toNat_lt _)
  rw [ofNat_toNat8] at e e2
  rw [e, e2]
  cases h0 : keyByte 0 x.toNat with
  | false => simp
  | true => rw [keyByte_zero _ h0]; simp
theorem mk_toList (l : List UInt8) : (ByteArray.mk l.toArray).toList = l := by rw [ByteArray.toList_eq]
set_option maxRecDepth 100000 in
set_option maxHeartbeats 1000000 in
theorem Key_any (s : ByteArray) (hsz : s.size ≤ 1000000000000) (w : World) :
    Calls Tryz.prog 90 #[.string s] w fun e w' => e = .returned (.bool (keyB s)) ∧ Below w.heap.size w w' := by
  rcases Bool.eq_false_or_eq_true (outsideB (s.size : Int) 1 40) with o | o
  · have HV := Lib.hid (show keyB s = false by
      simp [outsideB] at o
      have : (decide (1 ≤ s.size) && decide (s.size ≤ 40)) = false := by simp; omega
      rw [keyB, Bool.and_assoc, this, Bool.and_false])
    go_enter Tryz.func90, Tryz.ntmps90
    go_wp2_with fail
    refine (in_any _ _ _ _).mono ?_
    rintro e w' ⟨rfl, rfl⟩
    rw [o]
    go_wp2_with fail
    go_ret
    exact ⟨by rw [HV.out]; rfl, Below.refl _ _⟩
  · have hb : 1 ≤ s.size ∧ s.size ≤ 40 := by simp [outsideB] at o; omega
    obtain ⟨hb1, hb2⟩ := hb
    obtain ⟨x, r, hl⟩ : ∃ x r, s.data.toList = x :: r := by
      cases hl : s.data.toList with
      | nil => exact absurd (show s.data.toList.length = 0 by rw [hl]; rfl) (by show s.size ≠ 0; omega)
      | cons x r => exact ⟨x, r, rfl⟩
    have hx : s[0]'(by omega) = x := by rw [← getD_byte s 0 (by omega), hl]; rfl
    have HV := Lib.hid (keyB_eq s x r hl hb2)
    have HT := Lib.hid (show (Lib.trimS s.data.toList keySet).isEmpty = (x :: r).all (keySet.contains ·) by rw [trimS_empty, hl])
    clear hl
    go_enter Tryz.func90, Tryz.ntmps90
    go_wp2_with fail
    refine (in_any _ _ _ _).mono ?_
    rintro e w' ⟨rfl, rfl⟩
    rw [o]
    go_wp2_with fail
    refine (Any.strings_Trim_laid Tryz.lays160 (by kernel_rfl) s ⟨keySet.toArray⟩ w (by omega) (by decide) (ascii_of_all (by decide))).mono ?_
    rintro e w1 ⟨rfl, hb⟩
    have hq : (ByteArray.mk (Lib.trimS s.data.toList keySet).toArray).toList.isEmpty = (x :: r).all (keySet.contains ·) := by rw [mk_toList]; exact HT.out
    generalize ByteArray.mk (Lib.trimS s.data.toList keySet).toArray = tr at *
    rcases Bool.eq_false_or_eq_true ((x :: r).all (keySet.contains ·)) with c | c
    · rw [c] at hq HV
      clear c HT
      go_wp2_with fail
      refine (Tryz.strings_IndexByte ⟨smallL.toArray⟩ (x.toNat : Int) w1).mono ?_
      rintro e w2 ⟨rfl, rfl⟩
      rw [show ((x.toNat : Int).toNat.toUInt8) = x by simp]
      go_wp2_with fail
      go_ret
      exact ⟨by rw [HV.out, Bool.true_and]; rfl, hb⟩
    · rw [c] at hq HV
      clear c HT
      go_wp2_with fail
      go_ret
      exact ⟨by rw [HV.out]; rfl, hb⟩
theorem flat2_at {α : Type} (cs : List α) (f : α → List Value) (hf : ∀ c, (f c).length = 2) (k j : Nat) (hk : k < cs.length) (hj : j < 2) : (cs.flatMap f)[k * 2 + j]? = (f cs[k])[j]? := by
  induction cs generalizing k with
  | nil => simp at hk
  | cons c cs ih =>
    cases k with
    | zero => simp only [List.flatMap_cons]; rw [List.getElem?_append_left (by rw [hf]; omega)]; simp
    | succ k =>
      simp only [List.flatMap_cons, List.getElem_cons_succ]
      rw [List.getElem?_append_right (by rw [hf]; omega), hf, ← ih k (by simpa using hk)]
      congr 1; omega
theorem sizeBuilder : (Tryz.prog.info? 205).map (·.size) = some 2 := by kernel_rfl
theorem Goes.belowAt {ts : TypeId} {b M k B : Nat} {w w1 w2 : World} (h : Goes ts b M k w w1) (hw : w.heap.size ≤ B) (hb : b < B) (hB : Below B w1 w2) : Goes ts b M k w w2 := by
  obtain ⟨⟨a, len, cap, at_, hh, h1, h2, h3⟩, gb⟩ := h
  have hg : w.grownBy w2 (some b) := ⟨hB.os.trans gb.os, hB.tape.trans gb.tape, hB.output.trans gb.output, Nat.le_trans gb.size hB.size, fun i hi hn => (hB.block i (by omega)).trans (gb.block i hi hn)⟩
  refine ⟨⟨a, len, cap, at_, (hB.block b hb).trans hh, h1, h2, fun h0 => ?_⟩, hg⟩
  obtain ⟨x, hx, hxb, hs, hc⟩ := h3 h0
  refine ⟨x, hx, hxb, hs, fun i hi => ?_⟩
  obtain ⟨z, hz⟩ := hc i hi
  exact ⟨z, (hB.cell (p := ⟨x.block, x.off + i, none⟩) (by show x.block < _; omega)).trans hz⟩
set_option maxRecDepth 100000 in
set_option maxHeartbeats 400000 in
theorem odd_any (b M : Nat) (lo hi : Int) (w : World) (hs : IsStream 25 w b M) (hM : M ≤ 1000000000000000) (h0 : -100000000000000 ≤ lo) (h1 : lo ≤ hi) (h2 : hi ≤ 100000000000000) :
    Calls Tryz.prog 89 #[.pointer (some ⟨b, 0, none⟩), .int .i64 lo, .int .i64 hi] w (GoesInt 25 b M 2 (fun r => -100000000000001 ≤ r ∧ r ≤ 100000000000001) w) := by
  have hlt := hs.lt
  go_enter Tryz.func89, Tryz.ntmps89
  go_wp2_with fail
  refine (flip_any b M _ _ hs (by omega) (by omega) (by omega)).mono ?_
  rintro e w1 ⟨r, rfl, hg1⟩
  have hz := hg1.gb.size
  cases r
  · go_wp2_with fail
    refine (range_any b (M + 1) _ _ _ hg1.is (by omega) (by omega) h1 (by omega)).mono ?_
    rintro e w2 ⟨r, ⟨hr0, hr1⟩, rfl, hg2⟩
    go_wp2_with fail
    go_ret
    exact ⟨r, ⟨by omega, by omega⟩, rfl, hg1.trans hg2 (by omega)⟩
  · go_wp2_with fail
    refine (pick_any b (M + 1) w1.heap.size [lo - 1, hi + 1, lo, hi, -1099511627776, 1099511627776] 6 6 _ 3 (hg1.is.alloc _) (by omega) rfl (by omega) (by omega) (heap_alloc_new _ _) (by omega)).mono ?_
    rintro e w2 ⟨r, hr, rfl, hg2⟩
    go_wp2_with fail
    go_ret
    refine ⟨r, ?_, rfl, hg1.trans hg2.of_alloc (by omega)⟩
    simp at hr
    omega
theorem ownsRow_gb {w w' : World} {base size n b : Nat} {e : TypeId} {v : Value} {xs : List Value} (h : w.ownsRow base e size v n xs) (hg : w.grownBy w' (some b)) (hb : b < base) : w'.ownsRow base e size v n xs := by
  obtain ⟨hl, h2⟩ := h
  refine ⟨hl, ?_⟩
  rcases h2 with h2 | ⟨g, cap, cur, hv, hg', hh, r⟩
  · exact .inl h2
  · exact .inr ⟨g, cap, cur, hv, hg', (hg.block g (block_lt hh) (fun e => by injection e with e; omega)).trans hh, r⟩
theorem Goes.grown {ts : TypeId} {b M k : Nat} {w w1 w2 : World} {row : Option Nat} (h : Goes ts b M k w w1) (hg : w1.grownBy w2 row) (hlt : b < w.heap.size) (hr : ∀ x, row = some x → w.heap.size ≤ x) : Goes ts b M k w w2 := by
  have hB : Below w.heap.size w1 w2 := ⟨hg.os, hg.tape, hg.output, hg.size, fun i hi => hg.block i (Nat.lt_of_lt_of_le hi h.gb.size) (fun e => by have := hr i e.symm; omega)⟩
  exact h.belowAt (Nat.le_refl _) hlt hB
def chC (c : ByteArray × Int) : List Value := [.string c.1, .int .i64 c.2]
def okCh (c : ByteArray × Int) : Prop := c.1.size ≤ 16 ∧ -100000000000001 ≤ c.2 ∧ c.2 ≤ 100000000000001
attribute [local go_sem ↓] Go.wp_at_zero Go.wp_at_succ
def fiC (f : ByteArray × Value) : List Value := [.string f.1, f.2]
def ChWf (w : World) (base lo : Nat) (v : Value) : Prop := ∃ cs : List (ByteArray × Int), lo ≤ cs.length ∧ cs.length ≤ 3 ∧ (∀ c ∈ cs, okCh c) ∧ w.ownsRow base 122 2 v cs.length (cs.flatMap chC)
def FiWf (w : World) (base lo : Nat) (v : Value) (n : Nat) : Prop := ∃ fs : List (ByteArray × Value), fs.length = n ∧ w.ownsRow base 221 2 v n (fs.flatMap fiC) ∧ ∀ f ∈ fs, f.1.size ≤ 16 ∧ ChWf w base lo f.2
theorem ChWf.gb {w w' : World} {base lo b : Nat} {v : Value} (h : ChWf w base lo v) (hg : w.grownBy w' (some b)) (hb : b < base) : ChWf w' base lo v :=
  let ⟨cs, h1, h2, h3, h4⟩ := h; ⟨cs, h1, h2, h3, ownsRow_gb h4 hg hb⟩
theorem ChWf.mono {w : World} {base base' lo : Nat} {v : Value} (h : ChWf w base lo v) (hb : base' ≤ base) : ChWf w base' lo v :=
  let ⟨cs, h1, h2, h3, h4⟩ := h; ⟨cs, h1, h2, h3, ownsRow_base h4 hb⟩
theorem FiWf.gb {w w' : World} {base lo b n : Nat} {v : Value} (h : FiWf w base lo v n) (hg : w.grownBy w' (some b)) (hb : b < base) : FiWf w' base lo v n :=
  let ⟨fs, h1, h2, h3⟩ := h; ⟨fs, h1, ownsRow_gb h2 hg hb, fun f hf => ⟨(h3 f hf).1, (h3 f hf).2.gb hg hb⟩⟩
theorem ChWf.below {w w' : World} {base lo : Nat} {v : Value} (h : ChWf w base lo v) (hb : Below w.heap.size w w') : ChWf w' base lo v :=
  let ⟨cs, h1, h2, h3, h4⟩ := h; ⟨cs, h1, h2, h3, ownsRow_below h4 hb⟩
theorem FiWf.below {w w' : World} {base lo n : Nat} {v : Value} (h : FiWf w base lo v n) (hb : Below w.heap.size w w') : FiWf w' base lo v n :=
  let ⟨fs, h1, h2, h3⟩ := h; ⟨fs, h1, ownsRow_below h2 hb, fun f hf => ⟨(h3 f hf).1, (h3 f hf).2.below hb⟩⟩
theorem ownsRow_keep {w w' : World} {base size n : Nat} {e : TypeId} {v : Value} {xs : List Value} (h : w.ownsRow base e size v n xs) (hk : ∀ k, base ≤ k → k < w.heap.size → w'.heap[k]? = w.heap[k]?) : w'.ownsRow base e size v n xs := by
  obtain ⟨hl, h2⟩ := h
  refine ⟨hl, ?_⟩
  rcases h2 with h2 | ⟨g, cap, cur, hv, hg', hh, r⟩
  · exact .inl h2
  · exact .inr ⟨g, cap, cur, hv, hg', (hk g hg' (block_lt hh)).trans hh, r⟩
theorem ChWf.keep {w w' : World} {base lo : Nat} {v : Value} (h : ChWf w base lo v) (hk : ∀ k, base ≤ k → k < w.heap.size → w'.heap[k]? = w.heap[k]?) : ChWf w' base lo v :=
  let ⟨cs, h1, h2, h3, h4⟩ := h; ⟨cs, h1, h2, h3, ownsRow_keep h4 hk⟩
theorem FiWf.keep {w w' : World} {base lo n : Nat} {v : Value} (h : FiWf w base lo v n) (hk : ∀ k, base ≤ k → k < w.heap.size → w'.heap[k]? = w.heap[k]?) : FiWf w' base lo v n :=
  let ⟨fs, h1, h2, h3⟩ := h; ⟨fs, h1, ownsRow_keep h2 hk, fun f hf => ⟨(h3 f hf).1, (h3 f hf).2.keep hk⟩⟩
theorem FiWf.mono {w : World} {base base' lo n : Nat} {v : Value} (h : FiWf w base lo v n) (hb : base' ≤ base) : FiWf w base' lo v n :=
  let ⟨fs, h1, h2, h3⟩ := h; ⟨fs, h1, ownsRow_base h2 hb, fun f hf => ⟨(h3 f hf).1, (h3 f hf).2.mono hb⟩⟩
theorem Goes.setCell {ts : TypeId} {b M k : Nat} {w w1 : World} (h : Goes ts b M k w w1) (hlt : b < w.heap.size) {p : Addr} (hp : w.heap.size ≤ p.block) (u : Value) : Goes ts b M k w (w1.setCell p u) :=
  h.belowAt (Nat.le_refl _) hlt ((Below.refl _ _).setCell hp u)
theorem own_form {w : World} {base n size : Nat} {e : TypeId} {v : Value} {xs : List Value} (h : w.ownsRow base e size v n xs) : ∃ A m c, v = .slice A m c := by
  rcases h.2 with ⟨rfl, _⟩ | ⟨g, cap, cur, rfl, _⟩
  · exact ⟨_, _, _, rfl⟩
  · exact ⟨_, _, _, rfl⟩
open Go.RowKit Go.Maps Go.WideMaps
abbrev ChunkD := ByteArray × Int
abbrev FileD := ByteArray × List ChunkD
theorem flat2_len {α : Type} (cs : List α) (f : α → List Value) (hf : ∀ c, (f c).length = 2) : (cs.flatMap f).length = cs.length * 2 := by
  induction cs with
  | nil => rfl
  | cons p ps ih => rw [List.flatMap_cons, List.length_append, ih, hf, List.length_cons]; omega
def FilesAt (w : World) (lo : Nat) (v : Value) (fs : List FileD) : Prop :=
  ∃ ps : List (ByteArray × Value), Lst w lo 2 v (ps.flatMap fiC) ∧ ps.length = fs.length ∧ ∀ i (h : i < fs.length), ∃ u, ps[i]? = some (fs[i].1, u) ∧ Lst w lo 2 u (fs[i].2.flatMap chC)
theorem FilesAt.keep {w w' : World} {lo : Nat} {v : Value} {fs : List FileD} (h : FilesAt w lo v fs) (hs : w.heap.size ≤ w'.heap.size)
    (hk : ∀ k, lo ≤ k → k < w.heap.size → w'.heap[k]? = w.heap[k]?) : FilesAt w' lo v fs :=
  let ⟨ps, h1, h2, h3⟩ := h; ⟨ps, h1.keep hs hk, h2, fun i hi => let ⟨u, a, b⟩ := h3 i hi; ⟨u, a, b.keep hs hk⟩⟩
theorem FilesAt.below {w w' : World} {lo : Nat} {v : Value} {fs : List FileD} (h : FilesAt w lo v fs) (hb : Below w.heap.size w w') : FilesAt w' lo v fs :=
  h.keep hb.size fun k _ hk => hb.block k hk
theorem FilesAt.grown {w w' : World} {lo b : Nat} {v : Value} {fs : List FileD} (h : FilesAt w lo v fs) (hg : w.grownBy w' (some b)) (hb : b < lo) : FilesAt w' lo v fs :=
  h.keep hg.size fun k hk hlt => hg.block k hlt (fun e => by injection e with e; omega)
theorem FilesAt.mono {w : World} {lo lo' : Nat} {v : Value} {fs : List FileD} (h : FilesAt w lo v fs) (hl : lo' ≤ lo) : FilesAt w lo' v fs :=
  let ⟨ps, h1, h2, h3⟩ := h; ⟨ps, h1.mono hl, h2, fun i hi => let ⟨u, a, b⟩ := h3 i hi; ⟨u, a, b.mono hl⟩⟩
theorem FilesAt.form {w : World} {lo : Nat} {v : Value} {fs : List FileD} (h : FilesAt w lo v fs) : ∃ A c, v = .slice A fs.length c := by
  obtain ⟨ps, h1, h2, _⟩ := h
  obtain ⟨A, n, c, rfl, _, _, hx⟩ := h1.form
  have := flat2_len ps fiC (fun _ => rfl)
  exact ⟨A, c, by rw [show n = fs.length by omega]⟩
theorem FilesAt.at_ {w : World} {lo n c : Nat} {A : Option Addr} {fs : List FileD} (h : FilesAt w lo (.slice A n c) fs) {i : Nat} (hi : i < fs.length) :
    ∃ g o B m d, A = some ⟨g, o, none⟩ ∧ g < w.heap.size ∧ w.cell? ⟨g, o + i * 2, none⟩ = some (.string fs[i].1) ∧ w.cell? ⟨g, o + i * 2 + 1, none⟩ = some (.slice B m d) ∧ m = fs[i].2.length ∧ Lst w lo 2 (.slice B m d) (fs[i].2.flatMap chC) := by
  have hf := h.form
  obtain ⟨A', c', e⟩ := hf
  simp only [Value.slice.injEq] at e
  obtain ⟨rfl, rfl, rfl⟩ := e
  obtain ⟨ps, h1, h2, h3⟩ := h
  obtain ⟨u, hu, hl⟩ := h3 i hi
  obtain ⟨g, o, rfl, _, hg, hc⟩ := h1.open_ (by omega)
  have hip : i < ps.length := by omega
  have hpi : ps[i] = (fs[i].1, u) := by rw [List.getElem?_eq_getElem hip] at hu; simpa using hu
  have a0 := hc (i * 2 + 0) (.string fs[i].1) (by rw [flat2_at _ _ (fun _ => rfl) i 0 hip (by omega), hpi]; rfl)
  have a1 := hc (i * 2 + 1) u (by rw [flat2_at _ _ (fun _ => rfl) i 1 hip (by omega), hpi]; rfl)
  obtain ⟨B, m, d, rfl, _, _, hx⟩ := hl.form
  have := flat2_len fs[i].2 chC (fun _ => rfl)
  exact ⟨g, o, B, m, d, rfl, hg, by simpa using a0, by rw [Nat.add_assoc]; exact a1, by omega, hl⟩
def firstTo (f : Nat → Int) : Nat → Int
  | 0 => 0
  | k + 1 => if firstTo f k = 0 then f k else firstTo f k
theorem firstTo_le {f : Nat → Int} {k n : Nat} (h : k ≤ n) (h0 : firstTo f k ≠ 0) : firstTo f n = firstTo f k := by
  induction n with
  | zero => rw [show k = 0 by omega]
  | succ n ih =>
    by_cases e : k = n + 1
    · rw [e]
    · have := ih (by omega)
      rw [firstTo, this, if_neg h0]
theorem firstTo_at {f : Nat → Int} {k n : Nat} (h : k < n) (h0 : firstTo f k = 0) (hf : f k ≠ 0) : firstTo f n = f k := by
  have e : firstTo f (k + 1) = f k := by rw [firstTo, if_pos h0]
  rw [firstTo_le (k := k + 1) h (by rw [e]; exact hf), e]
theorem firstTo_succ {f : Nat → Int} {k : Nat} (h0 : firstTo f k = 0) (hf : f k = 0) : firstTo f (k + 1) = 0 := by rw [firstTo, if_pos h0, hf]
def keyLe (a b : ByteArray) : Bool := Op.bytesLess a.toList b.toList || a.toList == b.toList
def lkC (x : LinkD) : List Value := [.int .i64 x.1, .int .i64 x.2.1, .int .i64 x.2.2]
theorem flat3_at {α : Type} (cs : List α) (f : α → List Value) (hf : ∀ c, (f c).length = 3) (i j : Nat) (hi : i < cs.length) (hj : j < 3) : (cs.flatMap f)[i * 3 + j]? = (f cs[i])[j]? := by
  induction cs generalizing i with
  | nil => simp at hi
  | cons c cs ih =>
    rw [List.flatMap_cons]
    rcases i with _ | i
    · rw [List.getElem?_append_left (by rw [hf]; omega)]; simp
    · rw [List.getElem?_append_right (by rw [hf]; omega), hf, show (i + 1) * 3 + j - 3 = i * 3 + j by omega]
      simpa using ih i (by simpa using hi)
theorem Lst.link {w : World} {lo n c : Nat} {A : Option Addr} {ls : List LinkD} (h : Lst w lo 3 (.slice A n c) (ls.flatMap lkC)) {j : Nat} (hj : j < ls.length) (hn : n = ls.length) :
    ∃ g o, A = some ⟨g, o, none⟩ ∧ g < w.heap.size ∧ w.cell? ⟨g, o + j * 3, none⟩ = some (.int .i64 ls[j].1) ∧ w.cell? ⟨g, o + j * 3 + 1, none⟩ = some (.int .i64 ls[j].2.1) ∧ w.cell? ⟨g, o + j * 3 + 2, none⟩ = some (.int .i64 ls[j].2.2) := by
  obtain ⟨g, o, rfl, _, hg, hc⟩ := h.open_ (by omega)
  have a0 := hc (j * 3 + 0) (.int .i64 ls[j].1) (by rw [flat3_at _ _ (fun _ => rfl) j 0 hj (by omega)]; rfl)
  have a1 := hc (j * 3 + 1) (.int .i64 ls[j].2.1) (by rw [flat3_at _ _ (fun _ => rfl) j 1 hj (by omega)]; rfl)
  have a2 := hc (j * 3 + 2) (.int .i64 ls[j].2.2) (by rw [flat3_at _ _ (fun _ => rfl) j 2 hj (by omega)]; rfl)
  exact ⟨g, o, rfl, hg, by simpa using a0, by rw [Nat.add_assoc]; exact a1, by rw [Nat.add_assoc]; exact a2⟩
def lAt (ls : List LinkD) (i : Nat) : LinkD := ls.getD i (0, 0, 0)
theorem lAt_eq (ls : List LinkD) {k : Nat} (h : k < ls.length) : lAt ls k = ls[k] := by simp [lAt, List.getD, List.getElem?_eq_getElem h]
def lkBad (x : LinkD) : Bool := decide (x.1 < 0) || decide (x.2.1 ≤ x.1) || decide (345686400000 < x.2.1) || outsideB x.2.2 1 1000000
def liF (ls : List LinkD) (i : Nat) : Int := if lkBad (lAt ls i) then 1 else if decide (0 < i) && decide ((lAt ls i).1 < (lAt ls (i - 1)).2.1) then 7 else 0
def linksF (ls : List LinkD) : Int := if 500 < ls.length then 2 else firstTo (liF ls) ls.length
def LkRel (ls : List LinkD) (w : World) (g : Nat) (i : Value) (wr : World) : Prop :=
  ∃ k : Nat, k + g = ls.length ∧ i = .int .i64 k ∧ firstTo (liF ls) k = 0 ∧ Below w.heap.size w wr
def LkBd (ls : List LinkD) : Prop := ∀ x ∈ ls, (-1000000000000000 ≤ x.1 ∧ x.1 ≤ 1000000000000000) ∧ (-1000000000000000 ≤ x.2.1 ∧ x.2.1 ≤ 1000000000000000) ∧ -1000000000000000 ≤ x.2.2 ∧ x.2.2 ≤ 1000000000000000
set_option maxRecDepth 100000 in
set_option maxHeartbeats 4000000 in
theorem checkLinks_any (A : Option Addr) (lo c : Nat) (ls : List LinkD) (w : World) (hf : Lst w lo 3 (.slice A ls.length c) (ls.flatMap lkC)) (hn : ls.length ≤ 500) (hbd : LkBd ls) :
    Calls Tryz.prog 101 #[.slice A ls.length c] w fun e w' => e = .returned (.int .i64 (linksF ls)) ∧ Below w.heap.size w w' := by
  have HF := Lib.hid hf
  have HBD := Lib.hid hbd
  have HV := Lib.hid (show linksF ls = firstTo (liF ls) ls.length by rw [linksF, if_neg (by omega)])
  clear hf hbd
  go_enter Tryz.func101, Tryz.ntmps101
  go_wp2_with fail
  go_loopg [10, 3, 4] ls.length (fun g i _ _ wr => LkRel ls w g i wr)
  case atStart => exact ⟨0, by omega, rfl, rfl, Below.refl _ _⟩
  case round =>
    obtain ⟨k, hk, rfl, h0, hb⟩ := hrel
    by_cases hg : gk = 0
    · obtain rfl : k = ls.length := by omega
      have HV2 := Lib.hid (HV.out.trans h0)
      clear hk hg h0
      go_wp2_with fail
      go_ret
      exact ⟨ret_int HV2.out.symm, hb⟩
    · have hlt : k < ls.length := by omega
      obtain ⟨g, o, rfl, hgl, c0, c1, c2⟩ := (HF.out.below hb).link hlt rfl
      have hbx := HBD.out _ (List.getElem_mem hlt)
      have HL := Lib.hid (lAt_eq ls hlt)
      have HPREV : Hid (∀ k', k = k' + 1 → wr.cell? ⟨g, o + k' * 3 + 1, none⟩ = some (.int .i64 (lAt ls k').2.1)) := fun k' e => by
        subst e
        obtain ⟨g2, o2, e2, _, _, h2, _⟩ := (HF.out.below hb).link (j := k') (by omega) rfl
        simp only [Option.some.injEq, Addr.mk.injEq] at e2
        obtain ⟨rfl, rfl, _⟩ := e2
        rw [lAt_eq ls (by omega : k' < ls.length)]
        exact h2
      have HK := Lib.hid hk
      have H0 := Lib.hid h0
      have hgk : gk ≠ 0 := hg
      clear hk hg h0
      generalize ls[k] = x at *
      obtain ⟨xf, xt, xs⟩ := x
      obtain ⟨⟨hf0, hf1⟩, ⟨ht0, ht1⟩, hs0, hs1⟩ : (-1000000000000000 ≤ xf ∧ xf ≤ 1000000000000000) ∧ (-1000000000000000 ≤ xt ∧ xt ≤ 1000000000000000) ∧ -1000000000000000 ≤ xs ∧ xs ≤ 1000000000000000 := hbx
      have hb1 := bbox hb (.cells #[.int .i64 xf, .int .i64 xt, .int .i64 xs] 110)
      go_upto_region 6 with fail
      go_cut [38] (fun s wx => s = .bool (lkBad (xf, xt, xs)) ∧ wx = wr.alloc (.cells #[.int .i64 xf, .int .i64 xt, .int .i64 xs] 110))
      case first =>
        by_cases t1 : xf < 0
        · go_wp2_with fail
          go_meet
          exact ⟨by simp [lkBad, t1], rfl⟩
        · by_cases t2 : xt ≤ xf
          · go_wp2_with fail
            go_meet
            exact ⟨by simp [lkBad, t2], rfl⟩
          · by_cases t3 : 345686400000 < xt
            · go_wp2_with fail
              go_meet
              exact ⟨by simp [lkBad, t3], rfl⟩
            · have HB := Lib.hid (show lkBad (xf, xt, xs) = outsideB xs 1 1000000 by simp [lkBad, t1, t2, t3])
              go_wp2_with fail
              refine (outside_any xs 1 1000000 _).mono ?_
              rintro e w' ⟨rfl, rfl⟩
              go_wp2_with fail
              go_meet
              exact ⟨by rw [HB.out], rfl⟩
      case rest =>
        obtain ⟨rfl, rfl⟩ := hcut
        have HX := Lib.hid (heap_alloc_new wr (.cells #[.int .i64 xf, .int .i64 xt, .int .i64 xs] 110))
        have hl1 : wr.heap.size < (wr.alloc (.cells #[.int .i64 xf, .int .i64 xt, .int .i64 xs] 110)).heap.size := by simp
        have d0 : (wr.alloc (.cells #[.int .i64 xf, .int .i64 xt, .int .i64 xs] 110)).cell? ⟨wr.heap.size, 0, none⟩ = some (.int .i64 xf) := cell_new_list wr _ _ 0 _ rfl
        have HP2 : Hid (∀ k', k = k' + 1 → (wr.alloc (.cells #[.int .i64 xf, .int .i64 xt, .int .i64 xs] 110)).cell? ⟨g, o + k' * 3 + 1, none⟩ = some (.int .i64 (lAt ls k').2.1)) := fun k' e => bold (bfirst _ _) (HPREV.out k' e)
        have HLI := Lib.hid (show liF ls k = if lkBad (xf, xt, xs) then 1 else if decide (0 < k) && decide (xf < (lAt ls (k - 1)).2.1) then 7 else 0 by rw [liF, HL.out])
        generalize wr.alloc (.cells #[.int .i64 xf, .int .i64 xt, .int .i64 xs] 110) = w1 at *
        generalize wr.heap.size = pb at *
        clear HPREV HX c0 c1 c2
        rcases Bool.eq_false_or_eq_true (lkBad (xf, xt, xs)) with hbad | hbad
        · have HN := Lib.hid (show linksF ls = 1 by rw [HV.out, firstTo_at hlt H0.out (by rw [HLI.out, hbad, if_pos rfl]; decide), HLI.out, hbad]; rfl)
          rw [hbad]
          clear hbad HLI
          go_wp2_with fail
          go_ret
          exact ⟨ret_int HN.out.symm, hb1⟩
        · rw [hbad] at HLI ⊢
          clear hbad
          have HLJ := Lib.hid (show liF ls k = if decide (0 < k) && decide (xf < (lAt ls (k - 1)).2.1) then 7 else 0 from HLI.out)
          clear HLI
          go_upto_region 8 with fail
          go_cut [53] (fun s wx => s = .bool (decide (0 < k) && decide (xf < (lAt ls (k - 1)).2.1)) ∧ ∃ q, wx = w1.drewN q)
          case first =>
            rcases k with _ | k'
            · have hd : decide ((0 : Int) < ((0 : Nat) : Int)) = false := by decide
              go_quiet (fail)
              go_wp2_with fail
              go_meet
              exact ⟨rfl, _, rfl⟩
            · have cP := HP2.out k' rfl
              have hd : decide ((0 : Int) < ((k' + 1 : Nat) : Int)) = true := by simp
              go_quiet (fail)
              go_wp2_with fail
              go_meet
              exact ⟨by simp, _, rfl⟩
          case rest =>
            obtain ⟨rfl, q, rfl⟩ := hcut
            have hb3 := below_drewN hb1 q
            rcases Bool.eq_false_or_eq_true (decide (0 < k) && decide (xf < (lAt ls (k - 1)).2.1)) with hc | hc
            · have HN := Lib.hid (show linksF ls = 7 by rw [HV.out, firstTo_at hlt H0.out (by rw [HLJ.out, hc]; decide), HLJ.out, hc]; rfl)
              rw [hc]
              clear hc HLJ
              go_wp2_with fail
              go_ret
              exact ⟨ret_int HN.out.symm, hb3⟩
            · have HN := Lib.hid (firstTo_succ H0.out (by rw [HLJ.out, hc]; rfl))
              rw [hc]
              clear hc HLJ
              go_wp2_with fail
              go_roundg (gk - 1)
              case measure => omega
              case rel => exact ⟨k + 1, by have := HK.out; omega, by go_num, HN.out, hb3⟩
set_option maxRecDepth 100000 in
set_option maxHeartbeats 4000000 in
theorem linksFault_any (A : Option Addr) (lo c : Nat) (ls : List LinkD) (w : World) (hf : Lst w lo 3 (.slice A ls.length c) (ls.flatMap lkC)) (hn : ls.length ≤ 500) (hbd : LkBd ls) :
    Calls Tryz.prog 38 #[.slice A ls.length c] w fun e w' => e = .returned (.int .i64 (linksF ls)) ∧ Below w.heap.size w w' := by
  have HF := Lib.hid hf
  have HBD := Lib.hid hbd
  have HV := Lib.hid (show linksF ls = firstTo (liF ls) ls.length by rw [linksF, if_neg (by omega)])
  clear hf hbd
  go_enter Tryz.func38, Tryz.ntmps38
  go_wp2_with fail
  go_loopg [10, 3, 4] ls.length (fun g i _ _ wr => LkRel ls w g i wr)
  case atStart => exact ⟨0, by omega, rfl, rfl, Below.refl _ _⟩
  case round =>
    obtain ⟨k, hk, rfl, h0, hb⟩ := hrel
    by_cases hg : gk = 0
    · obtain rfl : k = ls.length := by omega
      have HV2 := Lib.hid (HV.out.trans h0)
      clear hk hg h0
      go_wp2_with fail
      go_ret
      exact ⟨ret_int HV2.out.symm, hb⟩
    · have hlt : k < ls.length := by omega
      obtain ⟨g, o, rfl, hgl, c0, c1, c2⟩ := (HF.out.below hb).link hlt rfl
      have hbx := HBD.out _ (List.getElem_mem hlt)
      have HL := Lib.hid (lAt_eq ls hlt)
      have HPREV : Hid (∀ k', k = k' + 1 → wr.cell? ⟨g, o + k' * 3 + 1, none⟩ = some (.int .i64 (lAt ls k').2.1)) := fun k' e => by
        subst e
        obtain ⟨g2, o2, e2, _, _, h2, _⟩ := (HF.out.below hb).link (j := k') (by omega) rfl
        simp only [Option.some.injEq, Addr.mk.injEq] at e2
        obtain ⟨rfl, rfl, _⟩ := e2
        rw [lAt_eq ls (by omega : k' < ls.length)]
        exact h2
      have HK := Lib.hid hk
      have H0 := Lib.hid h0
      have hgk : gk ≠ 0 := hg
      clear hk hg h0
      generalize ls[k] = x at *
      obtain ⟨xf, xt, xs⟩ := x
      obtain ⟨⟨hf0, hf1⟩, ⟨ht0, ht1⟩, hs0, hs1⟩ : (-1000000000000000 ≤ xf ∧ xf ≤ 1000000000000000) ∧ (-1000000000000000 ≤ xt ∧ xt ≤ 1000000000000000) ∧ -1000000000000000 ≤ xs ∧ xs ≤ 1000000000000000 := hbx
      have hb1 := bbox hb (.cells #[.int .i64 xf, .int .i64 xt, .int .i64 xs] 110)
      go_upto_region 6 with fail
      go_cut [15] (fun s wx => s = .bool (lkBad (xf, xt, xs)) ∧ wx = wr.alloc (.cells #[.int .i64 xf, .int .i64 xt, .int .i64 xs] 110))
      case first =>
        by_cases t1 : xf < 0
        · go_wp2_with fail
          go_meet
          exact ⟨by simp [lkBad, t1], rfl⟩
        · by_cases t2 : xt ≤ xf
          · go_wp2_with fail
            go_meet
            exact ⟨by simp [lkBad, t2], rfl⟩
          · by_cases t3 : 345686400000 < xt
            · go_wp2_with fail
              go_meet
              exact ⟨by simp [lkBad, t3], rfl⟩
            · have HB := Lib.hid (show lkBad (xf, xt, xs) = outsideB xs 1 1000000 by simp [lkBad, t1, t2, t3])
              go_wp2_with fail
              refine (in_any xs 1 1000000 _).mono ?_
              rintro e w' ⟨rfl, rfl⟩
              go_wp2_with fail
              go_meet
              exact ⟨by rw [HB.out], rfl⟩
      case rest =>
        obtain ⟨rfl, rfl⟩ := hcut
        have HX := Lib.hid (heap_alloc_new wr (.cells #[.int .i64 xf, .int .i64 xt, .int .i64 xs] 110))
        have hl1 : wr.heap.size < (wr.alloc (.cells #[.int .i64 xf, .int .i64 xt, .int .i64 xs] 110)).heap.size := by simp
        have d0 : (wr.alloc (.cells #[.int .i64 xf, .int .i64 xt, .int .i64 xs] 110)).cell? ⟨wr.heap.size, 0, none⟩ = some (.int .i64 xf) := cell_new_list wr _ _ 0 _ rfl
        have HP2 : Hid (∀ k', k = k' + 1 → (wr.alloc (.cells #[.int .i64 xf, .int .i64 xt, .int .i64 xs] 110)).cell? ⟨g, o + k' * 3 + 1, none⟩ = some (.int .i64 (lAt ls k').2.1)) := fun k' e => bold (bfirst _ _) (HPREV.out k' e)
        have HLI := Lib.hid (show liF ls k = if lkBad (xf, xt, xs) then 1 else if decide (0 < k) && decide (xf < (lAt ls (k - 1)).2.1) then 7 else 0 by rw [liF, HL.out])
        generalize wr.alloc (.cells #[.int .i64 xf, .int .i64 xt, .int .i64 xs] 110) = w1 at *
        generalize wr.heap.size = pb at *
        clear HPREV HX c0 c1 c2
        rcases Bool.eq_false_or_eq_true (lkBad (xf, xt, xs)) with hbad | hbad
        · have HN := Lib.hid (show linksF ls = 1 by rw [HV.out, firstTo_at hlt H0.out (by rw [HLI.out, hbad, if_pos rfl]; decide), HLI.out, hbad]; rfl)
          rw [hbad]
          clear hbad HLI
          go_wp2_with fail
          go_ret
          exact ⟨ret_int HN.out.symm, hb1⟩
        · rw [hbad] at HLI ⊢
          clear hbad
          have HLJ := Lib.hid (show liF ls k = if decide (0 < k) && decide (xf < (lAt ls (k - 1)).2.1) then 7 else 0 from HLI.out)
          clear HLI
          go_upto_region 8 with fail
          go_cut [41] (fun s wx => s = .bool (decide (0 < k) && decide (xf < (lAt ls (k - 1)).2.1)) ∧ ∃ q, wx = w1.drewN q)
          case first =>
            rcases k with _ | k'
            · have hd : decide ((0 : Int) < ((0 : Nat) : Int)) = false := by decide
              go_quiet (fail)
              go_wp2_with fail
              go_meet
              exact ⟨rfl, _, rfl⟩
            · have cP := HP2.out k' rfl
              have hd : decide ((0 : Int) < ((k' + 1 : Nat) : Int)) = true := by simp
              go_quiet (fail)
              go_wp2_with fail
              go_meet
              exact ⟨by simp, _, rfl⟩
          case rest =>
            obtain ⟨rfl, q, rfl⟩ := hcut
            have hb3 := below_drewN hb1 q
            rcases Bool.eq_false_or_eq_true (decide (0 < k) && decide (xf < (lAt ls (k - 1)).2.1)) with hc | hc
            · have HN := Lib.hid (show linksF ls = 7 by rw [HV.out, firstTo_at hlt H0.out (by rw [HLJ.out, hc]; decide), HLJ.out, hc]; rfl)
              rw [hc]
              clear hc HLJ
              go_wp2_with fail
              go_ret
              exact ⟨ret_int HN.out.symm, hb3⟩
            · have HN := Lib.hid (firstTo_succ H0.out (by rw [HLJ.out, hc]; rfl))
              rw [hc]
              clear hc HLJ
              go_wp2_with fail
              go_roundg (gk - 1)
              case measure => omega
              case rel => exact ⟨k + 1, by have := HK.out; omega, by go_num, HN.out, hb3⟩
theorem links_ok {ls : List LinkD} (h : linksF ls = 0) : LinksOk ls := by
  have hlen : firstTo (liF ls) ls.length = 0 := by
    unfold linksF at h
    split at h
    · omega
    · exact h
  have hall : ∀ k, k < ls.length → liF ls k = 0 := by
    intro k hk
    by_cases e : liF ls k = 0
    · exact e
    · have hz : firstTo (liF ls) k = 0 := by
        by_cases z : firstTo (liF ls) k = 0
        · exact z
        · have := firstTo_le (f := liF ls) (n := ls.length) (by omega) z; omega
      have := firstTo_at (f := liF ls) hk hz e; omega
  have hbad : ∀ k, k < ls.length → lkBad (lAt ls k) = false := by
    intro k hk
    have := hall k hk
    unfold liF at this
    split at this
    · omega
    · rename_i h1; simpa using h1
  have hord : ∀ k, k + 1 < ls.length → (lAt ls k).2.1 ≤ (lAt ls (k + 1)).1 := by
    intro k hk
    have := hall (k + 1) hk
    unfold liF at this
    rw [hbad (k + 1) hk] at this
    simp at this
    exact this
  have hok : ∀ k, k < ls.length → okLink (lAt ls k) := by
    intro k hk
    have := hbad k hk
    simp [lkBad, outsideB] at this
    obtain ⟨⟨⟨h1, h2⟩, h3⟩, h4⟩ := this
    exact ⟨by omega, by omega, by omega, by omega, by omega⟩
  refine ⟨fun x hx => ?_, ?_⟩
  · obtain ⟨k, hk, rfl⟩ := List.getElem_of_mem hx
    rw [← lAt_eq ls hk]; exact hok k hk
  · rw [List.pairwise_iff_getElem]
    intro i j hi hj hij
    rw [← lAt_eq ls hi, ← lAt_eq ls hj]
    induction j with
    | zero => omega
    | succ j ih =>
      have h1 := hord j (by omega)
      rcases Nat.lt_or_ge i j with h2 | h2
      · have h3 := ih (by omega) h2
        have h4 := (hok j (by omega)).2.1
        omega
      · rw [show i = j by omega]; exact h1
def tellD (ls : List LinkD) (a b : Int) : Option Int := if b = 0 then some a else doneL ls a b
def optZ : Option Int → Int
  | some t => t
  | none => 0
def DnRel (ls : List LinkD) (a b : Int) (w : World) (g : Nat) (i s2 : Value) (wr : World) : Prop :=
  ∃ (k : Nat) (b' : Int), k + g = ls.length ∧ i = .int .i64 k ∧ s2 = .int .i64 b' ∧ 0 < b' ∧ b' ≤ b ∧ doneL (ls.drop k) a b' = doneL ls a b ∧ Below w.heap.size w wr
theorem canL_bd {x : LinkD} (h : okLink x) (a : Int) (ha : 0 ≤ a) : 0 ≤ canL x a ∧ canL x a ≤ 345686400000000000 := by
  obtain ⟨h0, h1, h2, h3, h4⟩ := h
  unfold canL
  have : max 0 (x.2.1 - max x.1 a) * x.2.2 ≤ 345686400000 * 1000000 := Int.mul_le_mul (by omega) h4 (by omega) (by omega)
  exact ⟨Int.mul_nonneg (by omega) (by omega), by omega⟩
set_option maxRecDepth 100000 in
set_option maxHeartbeats 2000000 in
theorem done_any (A : Option Addr) (lo c : Nat) (ls : List LinkD) (a b : Int) (w : World) (hf : Lst w lo 3 (.slice A ls.length c) (ls.flatMap lkC)) (hn : ls.length ≤ 500) (hok : LinksOk ls) (ha : 0 ≤ a) (ha1 : a ≤ 345686400000) (hb0 : 0 ≤ b) (hb1 : b ≤ 1000000000000000) :
    Calls Tryz.prog 103 #[.slice A ls.length c, .int .i64 a, .int .i64 b] w fun e w' => e = .returned (.tuple #[.int .i64 (optZ (tellD ls a b)), .bool (tellD ls a b).isSome]) ∧ Below w.heap.size w w' := by
  have HF := Lib.hid hf
  have HOK := Lib.hid hok
  clear hf hok
  by_cases hz : b = 0
  · have HT := Lib.hid (show tellD ls a b = some a by rw [tellD, if_pos hz])
    subst hz
    go_enter Tryz.func103, Tryz.ntmps103
    go_wp2_with fail
    go_ret2
    exact ⟨by rw [HT.out]; rfl, Below.refl _ _⟩
  · have HT := Lib.hid (show tellD ls a b = doneL ls a b by rw [tellD, if_neg hz])
    have hz' : (b == 0) = false := beq_eq_false_iff_ne.2 hz
    have hbp : 0 < b := by omega
    clear hz
    go_enter Tryz.func103, Tryz.ntmps103
    go_wp2_with fail
    go_loopg [17, 2, 9, 10, 11] ls.length (fun g i s2 _ _ _ wr => DnRel ls a b w g i s2 wr)
    case atStart => exact ⟨0, b, by omega, rfl, rfl, hbp, Int.le_refl _, by simp, Below.refl _ _⟩
    case round =>
      obtain ⟨k, b', hk, rfl, rfl, hp, hle, hd, hb⟩ := hrel
      by_cases hg : gk = 0
      · obtain rfl : k = ls.length := by omega
        have HD := Lib.hid (show tellD ls a b = none by rw [HT.out, ← hd, List.drop_length]; rfl)
        clear hk hg hd
        go_wp2_with fail
        go_ret2
        exact ⟨by rw [HD.out]; rfl, hb⟩
      · have hlt : k < ls.length := by omega
        obtain ⟨g, o, rfl, hgl, c0, c1, c2⟩ := (HF.out.below hb).link hlt rfl
        have hx := HOK.out.each _ (List.getElem_mem hlt)
        have hcb := canL_bd hx a ha
        have HDR := Lib.hid (show doneL ls a b = if b' ≤ canL ls[k] a then some (max ls[k].1 a + (b' + ls[k].2.2 - 1) / ls[k].2.2) else doneL (ls.drop (k + 1)) a (b' - canL ls[k] a) by rw [← hd, List.drop_eq_getElem_cons hlt, doneL])
        have HK := Lib.hid hk
        have hgk : gk ≠ 0 := hg
        clear hk hg hd
        generalize ls[k] = x at *
        obtain ⟨xf, xt, xs⟩ := x
        obtain ⟨x0, x1, x2, x3, x4⟩ : 0 ≤ xf ∧ xf < xt ∧ xt ≤ 345686400000 ∧ 1 ≤ xs ∧ xs ≤ 1000000 := hx
        have HCE : Hid (canL (xf, xt, xs) a = max 0 (xt - max xf a) * xs) := rfl
        obtain ⟨q0, q1⟩ : 0 ≤ max 0 (xt - max xf a) * xs ∧ max 0 (xt - max xf a) * xs ≤ 345686400000000000 := hcb
        have hb3 := bbox hb (.cells #[.int .i64 xf, .int .i64 xt, .int .i64 xs] 110)
        have hq1 : 0 ≤ (b' + xs - 1) / xs := Int.ediv_nonneg (by omega) (by omega)
        have hq2 : (b' + xs - 1) / xs ≤ b' + xs - 1 := Int.ediv_le_self _ (by omega)
        by_cases hc : b' ≤ max 0 (xt - max xf a) * xs
        · have HR := Lib.hid (show tellD ls a b = some (max xf a + (b' + xs - 1) / xs) by rw [HT.out, HDR.out, HCE.out, if_pos hc])
          go_wp2_with fail
          go_ret2
          exact ⟨by rw [HR.out]; rfl, hb3⟩
        · have HR := Lib.hid (show doneL (ls.drop (k + 1)) a (b' - max 0 (xt - max xf a) * xs) = doneL ls a b by rw [HDR.out, HCE.out, if_neg hc])
          go_wp2_with fail
          go_roundg (gk - 1)
          case measure => omega
          case rel => exact ⟨k + 1, b' - max 0 (xt - max xf a) * xs, by have := HK.out; omega, by go_num, rfl, by omega, by omega, HR.out, hb3⟩
def momB (a : Int) : Bool := decide (0 ≤ a) && decide (a < 345686400000)
set_option maxRecDepth 100000 in
theorem isMoment_any (a : Int) (w : World) : Calls Tryz.prog 102 #[.int .i64 a] w fun e w' => e = .returned (.bool (momB a)) ∧ w = w' := by
  by_cases h1 : 0 ≤ a
  · by_cases h2 : a < 345686400000
    · have HV := Lib.hid (show momB a = true by simp [momB, h1, h2])
      go_enter Tryz.func102, Tryz.ntmps102
      go_wp2_with fail
      go_ret
      exact ⟨by rw [HV.out]; rfl, rfl⟩
    · have HV := Lib.hid (show momB a = false by simp [momB, h2])
      go_enter Tryz.func102, Tryz.ntmps102
      go_wp2_with fail
      go_ret
      exact ⟨by rw [HV.out]; rfl, rfl⟩
  · have HV := Lib.hid (show momB a = false by simp [momB, h1])
    go_enter Tryz.func102, Tryz.ntmps102
    go_wp2_with fail
    go_ret
    exact ⟨by rw [HV.out]; rfl, rfl⟩
def doneF (ls : List LinkD) (a b : Int) : Int := if linksF ls = 0 then (if momB a && !outsideB b 0 1000000000000 then 0 else 1) else linksF ls
set_option maxRecDepth 100000 in
set_option maxHeartbeats 2000000 in
theorem Done_any (A : Option Addr) (lo c : Nat) (ls : List LinkD) (a b : Int) (w : World) (hf : Lst w lo 3 (.slice A ls.length c) (ls.flatMap lkC)) (hn : ls.length ≤ 20) (hbd : LkBd ls) :
    Calls Tryz.prog 39 #[.slice A ls.length c, .int .i64 a, .int .i64 b] w fun e w' => e = .returned (.tuple #[.int .i64 (if doneF ls a b == 0 then optZ (tellD ls a b) else 0), .bool (doneF ls a b == 0 && (tellD ls a b).isSome), .int .i64 (doneF ls a b)]) ∧ Below w.heap.size w w' := by
  have HF := Lib.hid hf
  have HBD := Lib.hid hbd
  clear hf hbd
  obtain ⟨z1, hz1⟩ : ∃ z, z = if doneF ls a b == 0 then optZ (tellD ls a b) else 0 := ⟨_, rfl⟩
  obtain ⟨z2, hz2⟩ : ∃ z, z = (doneF ls a b == 0 && (tellD ls a b).isSome) := ⟨_, rfl⟩
  rw [← hz1, ← hz2]
  have HZ1 := Lib.hid hz1
  have HZ2 := Lib.hid hz2
  clear hz1 hz2
  go_enter Tryz.func39, Tryz.ntmps39
  go_wp2_with fail
  refine (checkLinks_any A lo c ls _ HF.out (by omega) HBD.out).mono ?_
  rintro e w1 ⟨rfl, b1⟩
  by_cases hl : linksF ls = 0
  · have HL := Lib.hid hl
    rw [hl]
    clear hl
    go_wp2_with fail
    refine (isMoment_any a _).mono ?_
    rintro e w' ⟨rfl, rfl⟩
    rcases Bool.eq_false_or_eq_true (momB a) with hm | hm
    · have hm2 : 0 ≤ a ∧ a < 345686400000 := by simpa [momB] using hm
      have HM := Lib.hid hm
      rw [hm]
      clear hm
      go_wp2_with fail
      refine (outside_any b 0 1000000000000 _).mono ?_
      rintro e w' ⟨rfl, rfl⟩
      rcases Bool.eq_false_or_eq_true (outsideB b 0 1000000000000) with ho | ho
      · have HD := Lib.hid (show doneF ls a b = 1 by rw [doneF, if_pos HL.out, HM.out, ho]; rfl)
        rw [ho]
        clear ho
        go_wp2_with fail
        go_ret3
        exact ⟨by rw [HZ1.out, HZ2.out, HD.out]; rfl, b1⟩
      · have HD := Lib.hid (show doneF ls a b = 0 by rw [doneF, if_pos HL.out, HM.out, ho]; rfl)
        have hb2 : 0 ≤ b ∧ b ≤ 1000000000000 := by simp [outsideB] at ho; omega
        rw [ho]
        clear ho
        go_wp2_with fail
        refine (done_any A lo c ls a b _ (HF.out.below b1) (by omega) (links_ok HL.out) (by omega) (by omega) (by omega) (by omega)).mono ?_
        rintro e w2 ⟨rfl, b2⟩
        go_wp2_with fail
        go_ret3
        exact ⟨by rw [HZ1.out, HZ2.out, HD.out]; rfl, bon b1 b2⟩
    · have HD := Lib.hid (show doneF ls a b = 1 by rw [doneF, if_pos HL.out, hm]; rfl)
      rw [hm]
      clear hm
      go_wp2_with fail
      go_ret3
      exact ⟨by rw [HZ1.out, HZ2.out, HD.out]; rfl, b1⟩
  · have HD := Lib.hid (show doneF ls a b = linksF ls by rw [doneF, if_neg hl])
    have HL := Lib.hid (show (linksF ls == 0) = false from beq_eq_false_iff_ne.2 hl)
    have hl' : (linksF ls != 0) = true := bne_iff_ne.2 hl
    clear hl
    go_wp2_with fail
    go_ret3
    exact ⟨by rw [HZ1.out, HZ2.out, HD.out, HL.out]; rfl, b1⟩
theorem isKey_b (s : ByteArray) (hsz : s.size ≤ 1000000000000) (w : World) : Calls Tryz.prog 151 #[.string s] w fun e w' => e = .returned (.bool (keyB s)) ∧ Below w.heap.size w w' :=
  (isKey_any s hsz w).mono fun _ _ ⟨a, b⟩ => ⟨a, b ▸ Below.refl _ _⟩
abbrev NeedD := ByteArray × Int × Int
def ndC (x : NeedD) : List Value := [.string x.1, .int .i64 x.2.1, .int .i64 x.2.2]
theorem Lst.need {w : World} {lo n c : Nat} {A : Option Addr} {ls : List NeedD} (h : Lst w lo 3 (.slice A n c) (ls.flatMap ndC)) {j : Nat} (hj : j < ls.length) (hn : n = ls.length) :
    ∃ g o, A = some ⟨g, o, none⟩ ∧ g < w.heap.size ∧ w.cell? ⟨g, o + j * 3, none⟩ = some (.string ls[j].1) ∧ w.cell? ⟨g, o + j * 3 + 1, none⟩ = some (.int .i64 ls[j].2.1) ∧ w.cell? ⟨g, o + j * 3 + 2, none⟩ = some (.int .i64 ls[j].2.2) := by
  obtain ⟨g, o, rfl, _, hg, hc⟩ := h.open_ (by omega)
  have a0 := hc (j * 3 + 0) (.string ls[j].1) (by rw [flat3_at _ _ (fun _ => rfl) j 0 hj (by omega)]; rfl)
  have a1 := hc (j * 3 + 1) (.int .i64 ls[j].2.1) (by rw [flat3_at _ _ (fun _ => rfl) j 1 hj (by omega)]; rfl)
  have a2 := hc (j * 3 + 2) (.int .i64 ls[j].2.2) (by rw [flat3_at _ _ (fun _ => rfl) j 2 hj (by omega)]; rfl)
  exact ⟨g, o, rfl, hg, by simpa using a0, by rw [Nat.add_assoc]; exact a1, by rw [Nat.add_assoc]; exact a2⟩
def nAt (ns : List NeedD) (i : Nat) : NeedD := ns.getD i (.empty, 0, 0)
theorem nAt_eq (ns : List NeedD) {k : Nat} (h : k < ns.length) : nAt ns k = ns[k] := by simp [nAt, List.getD, List.getElem?_eq_getElem h]
def ndBad (b d : Int) : Bool := outsideB b 1 1000000000000 || outsideB d 0 345686400000
def niF (ns : List NeedD) (i : Nat) : Int :=
  if keyB (nAt ns i).1 then (if decide (0 < i) && keyLe (nAt ns i).1 (nAt ns (i - 1)).1 then 7 else if ndBad (nAt ns i).2.1 (nAt ns i).2.2 then 1 else 0) else 5
def needsF (ns : List NeedD) : Int := if 300 < ns.length then 2 else firstTo (niF ns) ns.length
def NdRel (ns : List NeedD) (w : World) (g : Nat) (i : Value) (wr : World) : Prop :=
  ∃ k : Nat, k + g = ns.length ∧ i = .int .i64 k ∧ firstTo (niF ns) k = 0 ∧ Below w.heap.size w wr
def NdOk (ns : List NeedD) : Prop := ∀ x ∈ ns, x.1.size ≤ 1000000000000 ∧ (-1000000000000000 ≤ x.2.1 ∧ x.2.1 ≤ 1000000000000000) ∧ -1000000000000000 ≤ x.2.2 ∧ x.2.2 ≤ 1000000000000000
theorem need_cells {w : World} {b : Nat} {u v x : Value} {t : TypeId} (h : w.heap[b]? = some (.cells #[u, v, x] t (0, 0))) :
    w.cell? ⟨b, 0, none⟩ = some u ∧ w.cell? ⟨b, 1, none⟩ = some v ∧ w.cell? ⟨b, 2, none⟩ = some x := by
  simp [World.cell?, h]
set_option maxRecDepth 100000 in
set_option maxHeartbeats 4000000 in
theorem NeedsFault_any (A : Option Addr) (lo c : Nat) (ns : List NeedD) (w : World) (hf : Lst w lo 3 (.slice A ns.length c) (ns.flatMap ndC)) (hok : NdOk ns) (hn : ns.length ≤ 300) :
    Calls Tryz.prog 45 #[.slice A ns.length c] w fun e w' => e = .returned (.int .i64 (needsF ns)) ∧ Below w.heap.size w w' := by
  have HN := Lib.hid hf
  have HOK := Lib.hid hok
  obtain ⟨v, hv⟩ : ∃ v, v = needsF ns := ⟨_, rfl⟩
  rw [← hv]
  have HV := Lib.hid (show v = firstTo (niF ns) ns.length by rw [hv, needsF, if_neg (by omega)])
  clear hf hok hv
  have hB0 := Below.refl w.heap.size w
  go_enter Tryz.func45, Tryz.ntmps45
  go_wp2_with fail
  go_loopg [10, 3, 4] ns.length (fun g i _ _ wr => NdRel ns w g i wr)
  case atStart => exact ⟨0, by omega, rfl, rfl, hB0⟩
  case round =>
    obtain ⟨k, hk, rfl, hz0, hb⟩ := hrel
    by_cases hg : gk = 0
    · obtain rfl : k = ns.length := by omega
      have HW := Lib.hid (HV.out.trans hz0)
      clear hk hz0 hg
      go_wp2_with fail
      go_ret
      exact ⟨ret_int HW.out.symm, hb⟩
    · have hlt : k < ns.length := by omega
      obtain ⟨g, o, rfl, hgl, cK, cB, cD⟩ := (HN.out.below hb).need hlt rfl
      have hox := HOK.out _ (List.getElem_mem hlt)
      have HA := Lib.hid (nAt_eq ns hlt)
      have HK := Lib.hid hk
      have HZ := Lib.hid hz0
      have hgk : gk ≠ 0 := hg
      clear hk hz0 hg
      generalize ns[k] = x at *
      obtain ⟨key, nb, nd⟩ := x
      obtain ⟨hks, ⟨hq0, hq1⟩, hd0, hd1⟩ : key.size ≤ 1000000000000 ∧ (-1000000000000000 ≤ nb ∧ nb ≤ 1000000000000000) ∧ -1000000000000000 ≤ nd ∧ nd ≤ 1000000000000000 := hox
      have HFI := Lib.hid (show niF ns k = if keyB key then (if decide (0 < k) && keyLe key (nAt ns (k - 1)).1 then 7 else if ndBad nb nd then 1 else 0) else 5 by rw [niF, HA.out])
      go_wp2_with fail
      have hb0 := bbox hb (.cells #[.string key, .int .i64 nb, .int .i64 nd] 107)
      have HX := Lib.hid (heap_alloc_new wr (.cells #[.string key, .int .i64 nb, .int .i64 nd] 107))
      generalize wr.alloc (.cells #[.string key, .int .i64 nb, .int .i64 nd] 107) = w0 at *
      refine (Key_any key hks _).mono ?_
      rintro e w1 ⟨rfl, hb1⟩
      have hb2 := bon hb0 hb1
      have hM := (hb1.block wr.heap.size (block_lt HX.out)).trans HX.out
      have c0 := (need_cells hM).1
      have c1 := (need_cells hM).2.1
      have c2 := (need_cells hM).2.2
      have hl1 := block_lt hM
      have HPREV : Hid (∀ k', k = k' + 1 → w1.cell? ⟨g, o + k' * 3, none⟩ = some (.string (nAt ns k').1)) := fun k' e => by
        subst e
        obtain ⟨g2, o2, e2, _, h2, _⟩ := (HN.out.below hb2).need (j := k') (by omega) rfl
        simp only [Option.some.injEq, Addr.mk.injEq] at e2
        obtain ⟨rfl, rfl, _⟩ := e2
        rw [nAt_eq ns (by omega : k' < ns.length)]
        exact h2
      clear hM HX hb1 hb0 cK cB cD hb HA
      generalize wr.heap.size = pb at *
      clear w0
      rcases Bool.eq_false_or_eq_true (keyB key) with hkb | hkb
      rotate_left
      · have H5 := Lib.hid (show v = 5 by rw [HV.out, firstTo_at hlt HZ.out (by rw [HFI.out, hkb, if_neg Bool.false_ne_true]; decide), HFI.out, hkb]; rfl)
        rw [hkb]
        clear hkb HFI
        go_wp2_with fail
        go_ret
        exact ⟨ret_int H5.out.symm, hb2⟩
      · rw [hkb, if_pos rfl] at HFI
        rw [hkb]
        clear hkb
        go_upto_region 8 with fail
        go_cut [20] (fun s wx => s = .bool (decide (0 < k) && keyLe key (nAt ns (k - 1)).1) ∧ ∃ q, wx = w1.drewN q)
        case first =>
          rcases k with _ | k'
          · have hd : decide ((0 : Int) < ((0 : Nat) : Int)) = false := by decide
            go_quiet (fail)
            go_wp2_with fail
            go_meet
            exact ⟨rfl, _, rfl⟩
          · have cP := HPREV.out k' rfl
            have hd : decide ((0 : Int) < ((k' + 1 : Nat) : Int)) = true := by simp
            go_quiet (fail)
            go_wp2_with fail
            go_meet
            exact ⟨by simp [keyLe], _, rfl⟩
        case rest =>
          obtain ⟨rfl, q, rfl⟩ := hcut
          have d1 : (w1.drewN q).cell? ⟨pb, 1, none⟩ = some (.int .i64 nb) := c1
          have d2 : (w1.drewN q).cell? ⟨pb, 2, none⟩ = some (.int .i64 nd) := c2
          have hb3 : Below w.heap.size w (w1.drewN q) := below_drewN hb2 q
          have hl2 : pb < (w1.drewN q).heap.size := hl1
          clear HPREV c0 c1 c2 hb2 hl1
          generalize w1.drewN q = w2 at *
          clear w1
          rcases Bool.eq_false_or_eq_true (decide (0 < k) && keyLe key (nAt ns (k - 1)).1) with hc | hc
          · have H7 := Lib.hid (show v = 7 by rw [HV.out, firstTo_at hlt HZ.out (by rw [HFI.out, hc, if_pos rfl]; decide), HFI.out, hc]; rfl)
            rw [hc]
            clear hc HFI
            go_wp2_with fail
            go_ret
            exact ⟨ret_int H7.out.symm, hb3⟩
          · rw [hc] at HFI ⊢
            clear hc
            have HFJ := Lib.hid (show niF ns k = if ndBad nb nd then 1 else 0 from HFI.out)
            clear HFI
            go_upto_region 10 with fail
            go_cut [34] (fun s wx => s = .bool (ndBad nb nd) ∧ w2 = wx)
            case first =>
              go_wp2_with fail
              refine (in_any nb 1 1000000000000 _).mono ?_
              rintro e w' ⟨rfl, rfl⟩
              rcases Bool.eq_false_or_eq_true (outsideB nb 1 1000000000000) with ho | ho
              · have HB := Lib.hid (show ndBad nb nd = true by rw [ndBad, ho]; rfl)
                rw [ho]
                clear ho HFJ
                go_wp2_with fail
                go_meet
                exact ⟨by rw [HB.out], rfl⟩
              · have HB := Lib.hid (show ndBad nb nd = outsideB nd 0 345686400000 by rw [ndBad, ho]; rfl)
                rw [ho]
                clear ho HFJ
                go_wp2_with fail
                refine (in_any nd 0 345686400000 _).mono ?_
                rintro e w' ⟨rfl, rfl⟩
                rcases Bool.eq_false_or_eq_true (outsideB nd 0 345686400000) with hp | hp
                all_goals
                  rw [hp] at HB ⊢
                  clear hp
                  go_wp2_with fail
                  go_meet
                  exact ⟨by rw [HB.out], rfl⟩
            case rest =>
              obtain ⟨rfl, rfl⟩ := hcut
              rcases Bool.eq_false_or_eq_true (ndBad nb nd) with hc | hc
              · have H1 := Lib.hid (show v = 1 by rw [HV.out, firstTo_at hlt HZ.out (by rw [HFJ.out, hc]; decide), HFJ.out, hc]; rfl)
                rw [hc]
                clear hc HFJ
                go_wp2_with fail
                go_ret
                exact ⟨ret_int H1.out.symm, hb3⟩
              · have H0 := Lib.hid (firstTo_succ HZ.out (by rw [HFJ.out, hc]; rfl))
                rw [hc]
                clear hc HFJ
                go_wp2_with fail
                go_roundg (gk - 1)
                case measure => omega
                case rel => exact ⟨k + 1, by have := HK.out; omega, by go_num, H0.out, hb3⟩
def nfF (ls : List LinkD) (a : Int) (ns : List NeedD) : Int := if linksF ls = 0 then (if momB a then needsF ns else 1) else linksF ls
set_option maxRecDepth 100000 in
set_option maxHeartbeats 4000000 in
theorem needsFault_any (A A' : Option Addr) (lo lo' c c' : Nat) (ls : List LinkD) (a : Int) (ns : List NeedD) (w : World) (hf : Lst w lo 3 (.slice A ls.length c) (ls.flatMap lkC)) (hm : ls.length ≤ 20) (hbd : LkBd ls)
    (hf' : Lst w lo' 3 (.slice A' ns.length c') (ns.flatMap ndC)) (hok : NdOk ns) (hn : ns.length ≤ 300) :
    Calls Tryz.prog 108 #[.slice A ls.length c, .int .i64 a, .slice A' ns.length c'] w fun e w' => e = .returned (.int .i64 (nfF ls a ns)) ∧ Below w.heap.size w w' := by
  have HF := Lib.hid hf
  have HN := Lib.hid hf'
  have HOK := Lib.hid hok
  obtain ⟨v, hv⟩ : ∃ v, v = nfF ls a ns := ⟨_, rfl⟩
  rw [← hv]
  have HU := Lib.hid hv
  clear hf hf' hok hv
  go_enter Tryz.func108, Tryz.ntmps108
  go_wp2_with fail
  refine (checkLinks_any A lo c ls _ HF.out (by omega) hbd).mono ?_
  rintro e w0 ⟨rfl, hB0⟩
  by_cases hl : linksF ls = 0
  · have HL := Lib.hid hl
    rw [hl]
    clear hl
    go_wp2_with fail
    refine (isMoment_any a _).mono ?_
    rintro e w' ⟨rfl, rfl⟩
    rcases Bool.eq_false_or_eq_true (momB a) with hm | hm
    · have HV := Lib.hid (show v = firstTo (niF ns) ns.length by rw [HU.out, nfF, if_pos HL.out, hm, if_pos rfl, needsF, if_neg (by omega)])
      rw [hm]
      clear hm HU
      go_wp2_with fail
      go_loopg [23, 8, 9] ns.length (fun g i _ _ wr => NdRel ns w g i wr)
      case atStart => exact ⟨0, by omega, rfl, rfl, hB0⟩
      case round =>
        obtain ⟨k, hk, rfl, hz0, hb⟩ := hrel
        by_cases hg : gk = 0
        · obtain rfl : k = ns.length := by omega
          have HW := Lib.hid (HV.out.trans hz0)
          clear hk hz0 hg
          go_wp2_with fail
          go_ret
          exact ⟨ret_int HW.out.symm, hb⟩
        · have hlt : k < ns.length := by omega
          obtain ⟨g, o, rfl, hgl, cK, cB, cD⟩ := (HN.out.below hb).need hlt rfl
          have hox := HOK.out _ (List.getElem_mem hlt)
          have HA := Lib.hid (nAt_eq ns hlt)
          have HK := Lib.hid hk
          have HZ := Lib.hid hz0
          have hgk : gk ≠ 0 := hg
          clear hk hz0 hg
          generalize ns[k] = x at *
          obtain ⟨key, nb, nd⟩ := x
          obtain ⟨hks, ⟨hq0, hq1⟩, hd0, hd1⟩ : key.size ≤ 1000000000000 ∧ (-1000000000000000 ≤ nb ∧ nb ≤ 1000000000000000) ∧ -1000000000000000 ≤ nd ∧ nd ≤ 1000000000000000 := hox
          have HFI := Lib.hid (show niF ns k = if keyB key then (if decide (0 < k) && keyLe key (nAt ns (k - 1)).1 then 7 else if ndBad nb nd then 1 else 0) else 5 by rw [niF, HA.out])
          go_wp2_with fail
          have hb0 := bbox hb (.cells #[.string key, .int .i64 nb, .int .i64 nd] 107)
          have HX := Lib.hid (heap_alloc_new wr (.cells #[.string key, .int .i64 nb, .int .i64 nd] 107))
          generalize wr.alloc (.cells #[.string key, .int .i64 nb, .int .i64 nd] 107) = w0 at *
          refine (isKey_b key hks _).mono ?_
          rintro e w1 ⟨rfl, hb1⟩
          have hb2 := bon hb0 hb1
          have hM := (hb1.block wr.heap.size (block_lt HX.out)).trans HX.out
          have c0 := (need_cells hM).1
          have c1 := (need_cells hM).2.1
          have c2 := (need_cells hM).2.2
          have hl1 := block_lt hM
          have HPREV : Hid (∀ k', k = k' + 1 → w1.cell? ⟨g, o + k' * 3, none⟩ = some (.string (nAt ns k').1)) := fun k' e => by
            subst e
            obtain ⟨g2, o2, e2, _, h2, _⟩ := (HN.out.below hb2).need (j := k') (by omega) rfl
            simp only [Option.some.injEq, Addr.mk.injEq] at e2
            obtain ⟨rfl, rfl, _⟩ := e2
            rw [nAt_eq ns (by omega : k' < ns.length)]
            exact h2
          clear hM HX hb1 hb0 cK cB cD hb HA
          generalize wr.heap.size = pb at *
          clear w0
          rcases Bool.eq_false_or_eq_true (keyB key) with hkb | hkb
          rotate_left
          · have H5 := Lib.hid (show v = 5 by rw [HV.out, firstTo_at hlt HZ.out (by rw [HFI.out, hkb, if_neg Bool.false_ne_true]; decide), HFI.out, hkb]; rfl)
            rw [hkb]
            clear hkb HFI
            go_wp2_with fail
            go_ret
            exact ⟨ret_int H5.out.symm, hb2⟩
          · rw [hkb, if_pos rfl] at HFI
            rw [hkb]
            clear hkb
            go_upto_region 13 with fail
            go_cut [33] (fun s wx => s = .bool (decide (0 < k) && keyLe key (nAt ns (k - 1)).1) ∧ ∃ q, wx = w1.drewN q)
            case first =>
              rcases k with _ | k'
              · have hd : decide ((0 : Int) < ((0 : Nat) : Int)) = false := by decide
                go_quiet (fail)
                go_wp2_with fail
                go_meet
                exact ⟨rfl, _, rfl⟩
              · have cP := HPREV.out k' rfl
                have hd : decide ((0 : Int) < ((k' + 1 : Nat) : Int)) = true := by simp
                go_quiet (fail)
                go_wp2_with fail
                go_meet
                exact ⟨by simp [keyLe], _, rfl⟩
            case rest =>
              obtain ⟨rfl, q, rfl⟩ := hcut
              have d1 : (w1.drewN q).cell? ⟨pb, 1, none⟩ = some (.int .i64 nb) := c1
              have d2 : (w1.drewN q).cell? ⟨pb, 2, none⟩ = some (.int .i64 nd) := c2
              have hb3 : Below w.heap.size w (w1.drewN q) := below_drewN hb2 q
              have hl2 : pb < (w1.drewN q).heap.size := hl1
              clear HPREV c0 c1 c2 hb2 hl1
              generalize w1.drewN q = w2 at *
              clear w1
              rcases Bool.eq_false_or_eq_true (decide (0 < k) && keyLe key (nAt ns (k - 1)).1) with hc | hc
              · have H7 := Lib.hid (show v = 7 by rw [HV.out, firstTo_at hlt HZ.out (by rw [HFI.out, hc, if_pos rfl]; decide), HFI.out, hc]; rfl)
                rw [hc]
                clear hc HFI
                go_wp2_with fail
                go_ret
                exact ⟨ret_int H7.out.symm, hb3⟩
              · rw [hc] at HFI ⊢
                clear hc
                have HFJ := Lib.hid (show niF ns k = if ndBad nb nd then 1 else 0 from HFI.out)
                clear HFI
                go_upto_region 15 with fail
                go_cut [47] (fun s wx => s = .bool (ndBad nb nd) ∧ w2 = wx)
                case first =>
                  go_wp2_with fail
                  refine (outside_any nb 1 1000000000000 _).mono ?_
                  rintro e w' ⟨rfl, rfl⟩
                  rcases Bool.eq_false_or_eq_true (outsideB nb 1 1000000000000) with ho | ho
                  · have HB := Lib.hid (show ndBad nb nd = true by rw [ndBad, ho]; rfl)
                    rw [ho]
                    clear ho HFJ
                    go_wp2_with fail
                    go_meet
                    exact ⟨by rw [HB.out], rfl⟩
                  · have HB := Lib.hid (show ndBad nb nd = outsideB nd 0 345686400000 by rw [ndBad, ho]; rfl)
                    rw [ho]
                    clear ho HFJ
                    go_wp2_with fail
                    refine (outside_any nd 0 345686400000 _).mono ?_
                    rintro e w' ⟨rfl, rfl⟩
                    rcases Bool.eq_false_or_eq_true (outsideB nd 0 345686400000) with hp | hp
                    all_goals
                      rw [hp] at HB ⊢
                      clear hp
                      go_wp2_with fail
                      go_meet
                      exact ⟨by rw [HB.out], rfl⟩
                case rest =>
                  obtain ⟨rfl, rfl⟩ := hcut
                  rcases Bool.eq_false_or_eq_true (ndBad nb nd) with hc | hc
                  · have H1 := Lib.hid (show v = 1 by rw [HV.out, firstTo_at hlt HZ.out (by rw [HFJ.out, hc]; decide), HFJ.out, hc]; rfl)
                    rw [hc]
                    clear hc HFJ
                    go_wp2_with fail
                    go_ret
                    exact ⟨ret_int H1.out.symm, hb3⟩
                  · have H0 := Lib.hid (firstTo_succ HZ.out (by rw [HFJ.out, hc]; rfl))
                    rw [hc]
                    clear hc HFJ
                    go_wp2_with fail
                    go_roundg (gk - 1)
                    case measure => omega
                    case rel => exact ⟨k + 1, by have := HK.out; omega, by go_num, H0.out, hb3⟩
    · have HD := Lib.hid (show v = 1 by rw [HU.out, nfF, if_pos HL.out, hm]; rfl)
      rw [hm]
      clear hm
      go_wp2_with fail
      go_ret
      exact ⟨ret_int HD.out.symm, hB0⟩
  · have HD := Lib.hid (show v = linksF ls by rw [HU.out, nfF, if_neg hl])
    have hl' : (linksF ls != 0) = true := bne_iff_ne.2 hl
    clear hl
    go_wp2_with fail
    go_ret
    exact ⟨ret_int HD.out.symm, hB0⟩
def orF : List Int → Int
  | [] => 0
  | z :: zs => if z = 0 then orF zs else z
theorem orF_drop {zs : List Int} {k : Nat} (h : k < zs.length) (hz : zs[k] = 0) : orF (zs.drop k) = orF (zs.drop (k + 1)) := by
  rw [List.drop_eq_getElem_cons h, orF, if_pos hz]
theorem orF_hit {zs : List Int} {k : Nat} (h : k < zs.length) (hz : zs[k] ≠ 0) : orF (zs.drop k) = zs[k] := by
  rw [List.drop_eq_getElem_cons h, orF, if_neg hz]
def OrRel (zs : List Int) (w : World) (g : Nat) (i : Value) (wr : World) : Prop :=
  ∃ k : Nat, k + g = zs.length ∧ i = .int .i64 k ∧ orF (zs.drop k) = orF zs ∧ wr = w
open Go.RowKit Go.Sort Go.Lib
def ndV (x : NeedD) : Value := .agg #[.string x.1, .int .i64 x.2.1, .int .i64 x.2.2]
def keyC (x y : NeedD) : Int := Lib.compareBytes x.1.data.toList y.1.data.toList
set_option maxRecDepth 100000 in
set_option maxHeartbeats 1000000 in
theorem plan_key (x y : NeedD) (W : World) : Calls Tryz.prog 169 #[ndV x, ndV y] W fun e w' => e = .returned (.int .i64 (keyC x y)) ∧ ∃ q os', w' = grow (W.drewN q) os' := by
  unfold ndV keyC
  go_enter Tryz.func169, Tryz.ntmps169
  go_wp2_with fail
  refine (Tryz.strings_Compare x.1 y.1 _).mono ?_
  rintro e w1 ⟨rfl, rfl⟩
  go_wp2_with fail
  go_ret
  exact ⟨rfl, 0, _, by rw [alloc_eq_grow, alloc_eq_grow, grow_grow]; rfl⟩
set_option maxRecDepth 100000 in
set_option maxHeartbeats 1000000 in
theorem orInt_any (g n c : Nat) (zs : List Int) (t : TypeId) (w : World) (hn : n = zs.length) (h9 : n ≤ 1000) (hg : w.heap[g]? = some (.cells (zs.map (Value.int .i64)).toArray t (0, 0))) :
    Calls Tryz.prog 165 #[.slice (some ⟨g, 0, none⟩) n c] w fun e w' => e = .returned (.int .i64 (orF zs)) ∧ w = w' := by
  have HG := Lib.hid hg
  have HN := Lib.hid hn
  clear hg hn
  go_enter Tryz.func165, Tryz.ntmps165
  go_wp2_with fail
  go_loopg [8, 5] zs.length (fun g i _ wr => OrRel zs w g i wr)
  case atStart => exact ⟨0, by omega, rfl, by simp, rfl⟩
  case round =>
    obtain ⟨k, hk, rfl, ho, rfl⟩ := hrel
    have hn := HN.out
    by_cases hgz : gk = 0
    · obtain rfl : k = n := by omega
      have HO := Lib.hid (show orF zs = 0 by rw [← ho, hn, List.drop_length]; rfl)
      clear ho hk hn hgz
      go_wp2_with fail
      go_ret
      exact ⟨ret_int HO.out.symm, rfl⟩
    · have hlt : k < zs.length := by omega
      have hkn : k < n := by omega
      have c0 : wr.cell? ⟨g, k, none⟩ = some (.int .i64 zs[k]) := by simp [World.cell?, HG.out, hlt]
      have HK := Lib.hid hk
      have hgk : gk ≠ 0 := hgz
      have HO := Lib.hid ho
      have H1 := Lib.hid (fun h : zs[k] = 0 => orF_drop hlt h)
      have H2 := Lib.hid (fun h : zs[k] ≠ 0 => orF_hit hlt h)
      clear ho hk hn hgz
      generalize zs[k] = z at *
      by_cases hz : z = 0
      · have HZ := Lib.hid ((H1.out hz).symm.trans HO.out)
        subst hz
        go_wp2_with fail
        go_roundg (gk - 1)
        case measure => omega
        case rel => exact ⟨k + 1, by have := HK.out; omega, by go_num, HZ.out, rfl⟩
      · have HZ := Lib.hid (show orF zs = z by rw [← HO.out, H2.out hz])
        have hz' : (z != 0) = true := bne_iff_ne.2 hz
        clear hz
        go_wp2_with fail
        go_ret
        exact ⟨ret_int HZ.out.symm, rfl⟩
open Go.Sort
variable {α : Type} [Inhabited α]
theorem swp_size (d : Array α) (i j : Nat) : (swp d i j).size = d.size := by simp [swp]
theorem get_sib (d : Array α) (i p : Nat) (x : α) : (d.setIfInBounds i x)[p]! = if i = p ∧ p < d.size then x else d[p]! := by
  simp only [getElem!_def, Array.getElem?_setIfInBounds]
  by_cases h : i = p
  · subst h
    by_cases h2 : i < d.size <;> simp [h2]
  · simp [h]
theorem swp_get (d : Array α) {j : Nat} (hj : j + 1 < d.size) (p : Nat) : (swp d (j + 1) j)[p]! = if p = j then d[j + 1]! else if p = j + 1 then d[j]! else d[p]! := by
  rw [swp, get_sib, get_sib]
  simp only [Array.size_setIfInBounds]
  by_cases h1 : p = j
  · subst h1; simp; omega
  · by_cases h2 : p = j + 1
    · subst h2; simp [hj]
    · rw [if_neg (by omega), if_neg (by omega), if_neg h1, if_neg h2]
theorem insInner_size (lt : α → α → Bool) (a j : Nat) (d : Array α) : (insInner lt a j d).size = d.size := by
  induction j generalizing d with
  | zero => rfl
  | succ j ih =>
    rw [insInner]
    split
    · rw [ih, swp_size]
    · rfl
theorem insInner_get (lt : α → α → Bool) (j : Nat) (d : Array α) (hj : j < d.size) (p : Nat) :
    (j < p → (insInner lt 0 j d)[p]! = d[p]!) ∧ (p ≤ j → ∃ p', p' ≤ j ∧ (insInner lt 0 j d)[p]! = d[p']!) := by
  induction j generalizing d with
  | zero => exact ⟨fun _ => rfl, fun h => ⟨p, h, rfl⟩⟩
  | succ j ih =>
    rw [insInner]
    split
    · obtain ⟨h1, h2⟩ := ih (swp d (j + 1) j) (by rw [swp_size]; omega)
      refine ⟨fun h => ?_, fun h => ?_⟩
      · rw [h1 (by omega), swp_get d hj, if_neg (by omega), if_neg (by omega)]
      · by_cases hp : p ≤ j
        · obtain ⟨p', hp', e⟩ := h2 hp
          rw [e, swp_get d hj]
          split
          · exact ⟨j + 1, by omega, rfl⟩
          · split
            · exact ⟨j, by omega, rfl⟩
            · exact ⟨p', by omega, rfl⟩
        · rw [h1 (by omega), swp_get d hj, if_neg (by omega), if_pos (by omega)]
          exact ⟨j, by omega, rfl⟩
    · exact ⟨fun _ => rfl, fun h => ⟨p, h, rfl⟩⟩
theorem insInner_cong (l1 l2 : α → α → Bool) (j : Nat) (d : Array α) (hj : j < d.size) (h : ∀ i, i < j → l1 d[j]! d[i]! = l2 d[j]! d[i]!) : insInner l1 0 j d = insInner l2 0 j d := by
  induction j generalizing d with
  | zero => rfl
  | succ j ih =>
    rw [insInner, insInner, h j (by omega), ih (swp d (j + 1) j) (by rw [swp_size]; omega) (fun i hi => by
      rw [swp_get d hj, swp_get d hj, if_pos rfl, if_neg (by omega), if_neg (by omega)]
      exact h i (by omega))]
theorem insOuter_cong (l1 l2 : α → α → Bool) (n : Nat) (m : Nat) (i : Nat) (hm : m + i = n) (d : Array α) (hn : n ≤ d.size) (h : ∀ p q, p < q → i ≤ q → q < n → l1 d[q]! d[p]! = l2 d[q]! d[p]!) : insOuter l1 0 n i d = insOuter l2 0 n i d := by
  induction m generalizing i d with
  | zero => rw [insOuter, if_neg (by omega), insOuter, if_neg (by omega)]
  | succ m ih =>
    rw [insOuter, insOuter.eq_def l2, if_pos (by omega), if_pos (by omega), ← insInner_cong l1 l2 i d (by omega) (fun p hp => h p i hp (Nat.le_refl _) (by omega))]
    refine ih (i + 1) (by omega) _ (by rw [insInner_size]; exact hn) (fun p q hpq hq hqn => ?_)
    rw [(insInner_get l1 i d (by omega) q).1 (by omega)]
    by_cases hp : p ≤ i
    · obtain ⟨p', hp', e⟩ := (insInner_get l1 i d (by omega) p).2 hp
      rw [e]
      exact h p' q (by omega) (by omega) hqn
    · rw [(insInner_get l1 i d (by omega) p).1 (by omega)]
      exact h p q hpq (by omega) hqn
theorem sort_cong (l1 l2 : α → α → Bool) (d : Array α) (h : ∀ p q, p < q → q < d.size → l1 d[q]! d[p]! = l2 d[q]! d[p]!) : insertionSort l1 d 0 d.size = insertionSort l2 d 0 d.size := by
  rw [insertionSort, insertionSort]
  by_cases h0 : d.size = 0
  · rw [h0, insOuter, if_neg (by omega), insOuter, if_neg (by omega)]
  · exact insOuter_cong l1 l2 d.size (d.size - 1) 1 (by omega) d (Nat.le_refl _) (fun p q h1 _ h3 => h p q h1 h3)
section
variable {α : Type} [Inhabited α]
theorem insOuter_size (lt : α → α → Bool) (a b : Nat) : ∀ (m i : Nat) (d : Array α), m + i = b ∨ b ≤ i → (insOuter lt a b i d).size = d.size := by
  intro m
  induction m with
  | zero => intro i d h; rw [insOuter, if_neg (by omega)]
  | succ m ih =>
    intro i d h
    rw [insOuter]
    split
    · rw [ih (i + 1) _ (by omega), insInner_size]
    · rfl
theorem sort_size (lt : α → α → Bool) (d : Array α) : (insertionSort lt d 0 d.size).size = d.size := by
  rw [insertionSort]
  exact insOuter_size lt 0 d.size (d.size - 1) 1 d (by omega)
theorem insOuter_get (lt : α → α → Bool) (n : Nat) : ∀ (m i : Nat) (d : Array α), m + i = n ∨ n ≤ i → n ≤ d.size → ∀ p, p < n → ∃ p', p' < n ∧ (insOuter lt 0 n i d)[p]! = d[p']! := by
  intro m
  induction m with
  | zero => intro i d h hn p hp; rw [insOuter, if_neg (by omega)]; exact ⟨p, hp, rfl⟩
  | succ m ih =>
    intro i d h hn p hp
    rw [insOuter]
    split
    · obtain ⟨p', hp', e⟩ := ih (i + 1) (insInner lt 0 i d) (by omega) (by rw [insInner_size]; exact hn) p hp
      rw [e]
      by_cases hq : p' ≤ i
      · obtain ⟨p2, h2, e2⟩ := (insInner_get lt i d (by omega) p').2 hq
        exact ⟨p2, by omega, e2⟩
      · exact ⟨p', hp', (insInner_get lt i d (by omega) p').1 (by omega)⟩
    · exact ⟨p, hp, rfl⟩
theorem swp_mem (d : Array α) {j : Nat} (hj : j + 1 < d.size) (p : Nat) (hp : p < d.size) : ∃ p', p' < d.size ∧ d[p]! = (swp d (j + 1) j)[p']! := by
  by_cases h1 : p = j
  · exact ⟨j + 1, hj, by rw [swp_get d hj, if_neg (by omega), if_pos rfl, h1]⟩
  · by_cases h2 : p = j + 1
    · exact ⟨j, by omega, by rw [swp_get d hj, if_pos rfl, h2]⟩
    · exact ⟨p, hp, by rw [swp_get d hj, if_neg h1, if_neg h2]⟩
theorem insInner_mem (lt : α → α → Bool) : ∀ (j : Nat) (d : Array α), j < d.size → ∀ p, p < d.size → ∃ p', p' < d.size ∧ d[p]! = (insInner lt 0 j d)[p']! := by
  intro j
  induction j with
  | zero => intro d _ p hp; exact ⟨p, hp, rfl⟩
  | succ j ih =>
    intro d hj p hp
    rw [insInner]
    split
    · obtain ⟨p1, h1, e1⟩ := swp_mem d hj p hp
      obtain ⟨p2, h2, e2⟩ := ih (swp d (j + 1) j) (by rw [swp_size]; omega) p1 (by rw [swp_size]; exact h1)
      exact ⟨p2, by rw [swp_size] at h2; exact h2, e1.trans e2⟩
    · exact ⟨p, hp, rfl⟩
theorem insOuter_mem (lt : α → α → Bool) (n : Nat) : ∀ (m i : Nat) (d : Array α), m + i = n ∨ n ≤ i → n = d.size → ∀ p, p < n → ∃ p', p' < n ∧ d[p]! = (insOuter lt 0 n i d)[p']! := by
  intro m
  induction m with
  | zero => intro i d h hn p hp; rw [insOuter, if_neg (by omega)]; exact ⟨p, hp, rfl⟩
  | succ m ih =>
    intro i d h hn p hp
    rw [insOuter]
    split
    · obtain ⟨p1, h1, e1⟩ := insInner_mem lt i d (by omega) p (by omega)
      obtain ⟨p2, h2, e2⟩ := ih (i + 1) (insInner lt 0 i d) (by omega) (by rw [insInner_size]; exact hn) p1 (by omega)
      exact ⟨p2, h2, e1.trans e2⟩
    · exact ⟨p, hp, rfl⟩
def srt (lt : α → α → Bool) (l : List α) : List α := (insertionSort lt l.toArray 0 l.length).toList
theorem srt_len (lt : α → α → Bool) (l : List α) : (srt lt l).length = l.length := by
  have := sort_size lt l.toArray
  simpa [srt] using this
theorem get_eq {d : Array α} {p : Nat} (h : p < d.size) : d[p]! = d[p] := by simp [h]
theorem mem_srt (lt : α → α → Bool) (l : List α) (x : α) : x ∈ srt lt l ↔ x ∈ l := by
  have hs := sort_size lt l.toArray
  simp only [List.size_toArray] at hs
  unfold srt
  rw [Array.mem_toList_iff]
  constructor
  · intro h
    obtain ⟨p, hp, rfl⟩ := Array.getElem_of_mem h
    have hp2 : p < l.length := by omega
    obtain ⟨p', hp', e⟩ := insOuter_get lt l.length (l.length - 1) 1 l.toArray (by omega) (by simp) p hp2
    have e0 := get_eq hp
    rw [← e0]
    rw [insertionSort, show 0 + 1 = 1 from rfl, e, get_eq (by simpa using hp')]
    simp
  · intro h
    obtain ⟨p, hp, rfl⟩ := List.getElem_of_mem h
    obtain ⟨p', hp', e⟩ := insOuter_mem lt l.length (l.length - 1) 1 l.toArray (by omega) (by simp) p hp
    have e0 : l.toArray[p]! = l[p] := by rw [get_eq (by simpa using hp)]; simp
    rw [← e0, e, get_eq (by show p' < (insertionSort lt l.toArray 0 l.length).size; omega)]
    exact Array.getElem_mem _
theorem srt_cong (l1 l2 : α → α → Bool) (l : List α) (h : ∀ p q, (hp : p < q) → (hq : q < l.length) → l1 l[q] (l[p]'(by omega)) = l2 l[q] (l[p]'(by omega))) : srt l1 l = srt l2 l := by
  unfold srt
  have := sort_cong l1 l2 l.toArray (fun p q hp hq => by
    have hq' : q < l.length := by simpa using hq
    rw [get_eq (by simpa using hq'), get_eq (show p < l.toArray.size by simp; omega)]
    simpa using h p q hp hq')
  simp only [List.size_toArray] at this
  rw [this]
end
abbrev CameD := ByteArray × Int × Int
def comeT (ls : List LinkD) (a b : Int) : Int := (tellD ls a b).getD 345686400000
def cameL (ls : List LinkD) (a : Int) : Int → List NeedD → List CameD
  | _, [] => []
  | s, x :: r => (x.1, comeT ls a (s + x.2.1), max 0 (comeT ls a (s + x.2.1) - x.2.2)) :: cameL ls a (s + x.2.1) r
theorem cameL_len (ls : List LinkD) (a : Int) : ∀ (s : Int) (l : List NeedD), (cameL ls a s l).length = l.length
  | _, [] => rfl
  | s, x :: r => by simp [cameL, cameL_len ls a _ r]
def sumN (l : List NeedD) : Int := (l.map fun x => x.2.1).sum
theorem cameL_snoc (ls : List LinkD) (a : Int) : ∀ (l : List NeedD) (s : Int) (x : NeedD), cameL ls a s (l ++ [x]) = cameL ls a s l ++ [(x.1, comeT ls a (s + sumN l + x.2.1), max 0 (comeT ls a (s + sumN l + x.2.1) - x.2.2))]
  | [], s, x => by simp [cameL, sumN]
  | y :: r, s, x => by
    simp only [List.cons_append, cameL, cameL_snoc ls a r]
    rw [show s + y.2.1 + sumN r = s + sumN (y :: r) by simp [sumN]; omega]
theorem sumB_snoc (l : List NeedD) (x : NeedD) : sumN (l ++ [x]) = sumN l + x.2.1 := by simp [sumN]
def dueLt (x y : NeedD) : Bool := decide (Lib.compareInt x.2.2 y.2.2 < 0)
def keyLt (x y : ByteArray) : Bool := decide (Lib.compareBytes x.data.toList y.data.toList < 0)
def bothC (x y : NeedD) : Int := if Lib.compareInt x.2.2 y.2.2 = 0 then Lib.compareBytes x.1.data.toList y.1.data.toList else Lib.compareInt x.2.2 y.2.2
def ordD (ns : List NeedD) : List NeedD := srt dueLt ns
def planL (ls : List LinkD) (a : Int) (ns : List NeedD) : List CameD := cameL ls a 0 (ordD ns)
def planS (ls : List LinkD) (a : Int) (ns : List NeedD) : List CameD := srt (fun x y => keyLt x.1 y.1) (planL ls a ns)
def anyLate (l : List CameD) : Bool := l.any fun c => decide (0 < c.2.2)
theorem anyLate_plan (ls : List LinkD) (a : Int) (ns : List NeedD) : anyLate (planS ls a ns) = anyLate (planL ls a ns) := by
  rw [Bool.eq_iff_iff, anyLate, anyLate, List.any_eq_true, List.any_eq_true]
  constructor
  · rintro ⟨x, hx, h⟩; exact ⟨x, (mem_srt _ _ x).1 hx, h⟩
  · rintro ⟨x, hx, h⟩; exact ⟨x, (mem_srt _ _ x).2 hx, h⟩
theorem planS_len (ls : List LinkD) (a : Int) (ns : List NeedD) : (planS ls a ns).length = ns.length := by
  rw [planS, srt_len, planL, cameL_len, ordD, srt_len]
theorem comeT_mono {ls : List LinkD} (h : LinksOk ls) {p q : Int} (hp : 100 ≤ p) (hpq : p ≤ q) (a b : Int) (hb : 0 ≤ b) : comeT (ls.map (fastL q)) a b ≤ comeT (ls.map (fastL p)) a b := by
  unfold comeT tellD
  by_cases e : b = 0
  · rw [if_pos e, if_pos e]; exact Int.le_refl _
  · rw [if_neg e, if_neg e]
    have t1 := doneL_tells (fast_ok h hp) a (b := b) (by omega)
    have t2 := doneL_tells (fast_ok h (show 100 ≤ q by omega)) a (b := b) (by omega)
    have hc := fun t => fast_car h hp hpq a t
    cases h1 : doneL (ls.map (fastL p)) a b with
    | none =>
      cases h2 : doneL (ls.map (fastL q)) a b with
      | none => exact Int.le_refl _
      | some t => rw [h2] at t2; exact t2.2.1
    | some t =>
      rw [h1] at t1
      cases h2 : doneL (ls.map (fastL q)) a b with
      | none => rw [h2] at t2; have := t2 t; have := hc t; have := t1.2.2.1; omega
      | some t' =>
        rw [h2] at t2
        show t' ≤ t
        rcases Int.lt_or_le t t' with h3 | h3
        · have := t2.2.2.2 t h3; have := hc t; have := t1.2.2.1; omega
        · exact h3
theorem cameL_late {ls : List LinkD} (h : LinksOk ls) {p q : Int} (hp : 100 ≤ p) (hpq : p ≤ q) (a : Int) : ∀ (l : List NeedD) (s : Int), 0 ≤ s → (∀ x ∈ l, 0 ≤ x.2.1) → anyLate (cameL (ls.map (fastL q)) a s l) = true → anyLate (cameL (ls.map (fastL p)) a s l) = true
  | [], _, _, _, h2 => h2
  | x :: r, s, hs, hx, h2 => by
    have hx0 := hx x (by simp)
    have hm := comeT_mono h hp hpq a (s + x.2.1) (by omega)
    simp only [cameL, anyLate, List.any_cons, Bool.or_eq_true, decide_eq_true_eq] at h2 ⊢
    rcases h2 with h2 | h2
    · left; omega
    · right; exact cameL_late h hp hpq a r (s + x.2.1) (by omega) (fun y hy => hx y (by simp [hy])) h2
def lateB (ls : List LinkD) (a : Int) (ns : List NeedD) (p : Int) : Bool := anyLate (planS (ls.map (fastL p)) a ns)
theorem lateB_mono {ls : List LinkD} (h : LinksOk ls) {p q : Int} (hp : 100 ≤ p) (hpq : p ≤ q) {a : Int} (_ha : a ≤ 345686400000) {ns : List NeedD} (hn : ∀ x ∈ ns, 0 ≤ x.2.1) (hl : lateB ls a ns q = true) : lateB ls a ns p = true := by
  unfold lateB at *
  rw [anyLate_plan] at *
  exact cameL_late h hp hpq a _ 0 (Int.le_refl _) (fun x hx => hn x ((mem_srt _ _ x).1 hx)) hl
def FastIs (ls : List LinkD) (a : Int) (ns : List NeedD) : Option Int → Prop
  | some p => 100 ≤ p ∧ p ≤ 100000 ∧ lateB ls a ns p = false ∧ ∀ q, 100 ≤ q → q < p → lateB ls a ns q = true
  | none => lateB ls a ns 100000 = true
theorem FastIs.one {ls : List LinkD} (h : LinksOk ls) {a : Int} (ha : a ≤ 345686400000) {ns : List NeedD} (hn : ∀ x ∈ ns, 0 ≤ x.2.1) {o o' : Option Int} (h1 : FastIs ls a ns o) (h2 : FastIs ls a ns o') : o = o' := by
  have no : ∀ p, FastIs ls a ns (some p) → FastIs ls a ns none → False := fun p h1 h2 => by
    have := lateB_mono h h1.1 h1.2.1 ha hn h2
    rw [h1.2.2.1] at this; cases this
  cases o with
  | none =>
    cases o' with
    | none => rfl
    | some p => exact (no p h2 h1).elim
  | some p =>
    cases o' with
    | none => exact (no p h1 h2).elim
    | some p' =>
      rcases Int.lt_trichotomy p p' with h3 | h3 | h3
      · have := h2.2.2.2 p h1.1 h3; rw [h1.2.2.1] at this; cases this
      · rw [h3]
      · have := h1.2.2.2 p' h2.1 h3; rw [h2.2.2.1] at this; cases this
theorem ordD_both {ns : List NeedD} (h : ∀ p q, (hp : p < q) → (hq : q < ns.length) → 0 ≤ Lib.compareBytes ns[q].1.data.toList (ns[p]'(by omega)).1.data.toList) : srt (fun x y => decide (bothC x y < 0)) ns = ordD ns := by
  refine srt_cong _ _ ns fun p q hp hq => ?_
  have := h p q hp hq
  unfold dueLt bothC
  by_cases e : Lib.compareInt ns[q].2.2 (ns[p]'(by omega)).2.2 = 0
  · rw [if_pos e, e]
    simp
    omega
  · rw [if_neg e]
open Go.RowKit Go.Sort Go.Lib
set_option linter.unusedVariables false
set_option linter.unusedSimpArgs false
attribute [local go_sem ↓] Go.wp_at_zero Go.wp_at_succ
theorem orF_two (a b : Int) : orF [a, b] = if a = 0 then b else a := by
  unfold orF orF orF
  split
  · split
    · rename_i h; rw [h]
    · rfl
  · rfl
set_option maxRecDepth 100000 in
set_option maxHeartbeats 2000000 in
theorem plan_both (x y : NeedD) (W : World) : Calls Tryz.prog 164 #[ndV x, ndV y] W fun e w' => e = .returned (.int .i64 (bothC x y)) ∧ ∃ q os', w' = grow (W.drewN q) os' := by
  unfold ndV
  obtain ⟨k1, b1, d1⟩ := x
  obtain ⟨k2, b2, d2⟩ := y
  have HB := Lib.hid (show bothC (k1, b1, d1) (k2, b2, d2) = orF [Lib.compareInt d1 d2, Lib.compareBytes k1.data.toList k2.data.toList] by rw [orF_two]; rfl)
  go_enter Tryz.func164, Tryz.ntmps164
  go_wp2_with fail
  have HW : Hid ((W.alloc (.cells #[.string k1, .int .i64 b1, .int .i64 d1] 107)).alloc (.cells #[.string k2, .int .i64 b2, .int .i64 d2] 107) = grow W #[.cells #[.string k1, .int .i64 b1, .int .i64 d1] 107, .cells #[.string k2, .int .i64 b2, .int .i64 d2] 107]) := by
    show _ = _
    rw [alloc_eq_grow, alloc_eq_grow, grow_grow]; rfl
  have h1 := need_cells ((Below.heap_alloc (W.alloc (.cells #[.string k1, .int .i64 b1, .int .i64 d1] 107)) (.cells #[.string k2, .int .i64 b2, .int .i64 d2] 107) W.heap.size (by simp)).trans (heap_alloc_new W (.cells #[.string k1, .int .i64 b1, .int .i64 d1] 107)))
  have h2 := need_cells (heap_alloc_new (W.alloc (.cells #[.string k1, .int .i64 b1, .int .i64 d1] 107)) (.cells #[.string k2, .int .i64 b2, .int .i64 d2] 107))
  simp only [World.size_alloc] at h1 h2
  obtain ⟨a0, _, a2⟩ := h1
  obtain ⟨c0, _, c2⟩ := h2
  have hz1 : W.heap.size < ((W.alloc (.cells #[.string k1, .int .i64 b1, .int .i64 d1] 107)).alloc (.cells #[.string k2, .int .i64 b2, .int .i64 d2] 107)).heap.size := by simp; omega
  have hz2 : W.heap.size + 1 < ((W.alloc (.cells #[.string k1, .int .i64 b1, .int .i64 d1] 107)).alloc (.cells #[.string k2, .int .i64 b2, .int .i64 d2] 107)).heap.size := by simp
  generalize (W.alloc (.cells #[.string k1, .int .i64 b1, .int .i64 d1] 107)).alloc (.cells #[.string k2, .int .i64 b2, .int .i64 d2] 107) = W2 at *
  generalize hp : W.heap.size = p at *
  clear hp
  go_region_held3 (fun w' => w'.cell? ⟨p, 2, none⟩ = some (.int .i64 d1) ∧ w'.cell? ⟨p + 1, 2, none⟩ = some (.int .i64 d2) ∧ w'.cell? ⟨p, 0, none⟩ = some (.string k1) ∧ w'.cell? ⟨p + 1, 0, none⟩ = some (.string k2)) (go_keep)
    (first
      | (go_at_call 166; refine (Tryz.cmp_Compare_int d1 d2 _).mono ?_; rintro e w1 ⟨rfl, rfl⟩)
      | (go_at_call 167; refine (Tryz.strings_Compare k1 k2 _).mono ?_; rintro e w1 ⟨rfl, rfl⟩)
      | (go_at_call 165; refine (orInt_any W2.heap.size 2 2 [Lib.compareInt d1 d2, Lib.compareBytes k1.data.toList k2.data.toList] 3 _ ?_ ?_ ?_).mono ?_; (rfl); (omega); (exact heap_alloc_new _ _); rintro e w1 ⟨rfl, rfl⟩))
  all_goals
    go_wp2_with fail
    go_ret
    exact ⟨by rw [HB.out]; rfl, 1, _, by rw [HW.out, alloc_eq_grow]; show grow (grow (W.drewN 1) _) _ = _; rw [grow_grow]⟩
open Go.RowKit Go.Sort Go.Proofs
section
variable {α : Type} {enc : α → List Value} {k : Nat}
theorem flatK_at (hk : ∀ x, (enc x).length = k) : ∀ (l : List α) (j i : Nat) (hj : j < l.length), i < k → (l.flatMap enc)[j * k + i]? = (enc l[j])[i]?
  | [], _, _, hj, _ => absurd hj (by simp)
  | x :: r, 0, i, _, hi => by
    rw [List.flatMap_cons, Nat.zero_mul, Nat.zero_add, List.getElem?_append_left (by rw [hk]; exact hi)]
    rfl
  | x :: r, j + 1, i, hj, hi => by
    rw [List.flatMap_cons, List.getElem?_append_right (by rw [hk, Nat.add_mul]; omega), hk, show (j + 1) * k + i - k = j * k + i by rw [Nat.add_mul]; omega, flatK_at hk r j i (by simpa using hj) hi]
    rfl
theorem flatK_len (hk : ∀ x, (enc x).length = k) : ∀ l : List α, (l.flatMap enc).length = l.length * k
  | [] => by simp
  | x :: r => by rw [List.flatMap_cons, List.length_append, hk, flatK_len hk r, List.length_cons, Nat.add_mul]; omega
variable [Inhabited α]
theorem flatK_list (hk : ∀ x, (enc x).length = k) (d : Array α) : (flatK enc k d).toList = d.toList.flatMap enc := by
  apply List.ext_getElem?
  intro t
  by_cases h : t < d.size * k
  · have hk0 : 0 < k := Nat.pos_of_ne_zero (fun e => by rw [e, Nat.mul_zero] at h; omega)
    have hq : t / k < d.size := Nat.div_lt_of_lt_mul (by rw [Nat.mul_comm]; exact h)
    have hm := Nat.mod_lt t hk0
    have e := flatK_at hk d.toList (t / k) (t % k) (by simpa using hq) hm
    rw [show t / k * k + t % k = t by rw [Nat.mul_comm]; exact Nat.div_add_mod t k] at e
    rw [e, Array.getElem?_toList, Array.getElem?_eq_getElem (by rw [size_flatK]; exact h)]
    have g := get_flatK enc k d t h
    rw [getElem!_pos _ t (by rw [size_flatK]; exact h)] at g
    rw [g, getElem!_pos d _ hq, Array.getElem_toList, List.getElem?_eq_getElem (by rw [hk]; exact hm), getElem!_pos _ _ (by rw [hk]; exact hm)]
  · rw [List.getElem?_eq_none (by rw [Array.length_toList, size_flatK]; omega), List.getElem?_eq_none (by rw [flatK_len hk, Array.length_toList]; omega)]
theorem own_holds {w : World} {base e n cap g : Nat} {d : Array α} (hk : ∀ x, (enc x).length = k) (h : w.ownsRow base e k (.slice (some ⟨g, 0, none⟩) n cap) n (d.toList.flatMap enc)) (hd : d.size = n) :
    HoldsK enc k w g 0 d := by
  rcases h.2 with ⟨h0, _⟩ | ⟨g', cap', cur, hv, _, hh, _, _, _, hx⟩
  · cases h0
  · simp only [Value.slice.injEq, Option.some.injEq, Addr.mk.injEq] at hv
    obtain ⟨⟨rfl, _, _⟩, _, rfl⟩ := hv
    intro t ht
    rw [size_flatK] at ht
    have e : (flatK enc k d).toList[t]? = some (flatK enc k d)[t]! := by
      rw [Array.getElem?_toList, Array.getElem?_eq_getElem (by rw [size_flatK]; exact ht), getElem!_pos _ _ (by rw [size_flatK]; exact ht)]
    rw [flatK_list hk, ← hx, List.getElem?_take_of_lt (by rw [← hd]; exact ht)] at e
    simp only [Array.getElem?_toList] at e
    simp [World.cell?, World.frozen?, hh, e]
theorem sortK_own {w : World} {base e n cap g m : Nat} {d d' : Array α} {os : Array Obj} (hk : ∀ x, (enc x).length = k) (h : w.ownsRow base e k (.slice (some ⟨g, 0, none⟩) n cap) n (d.toList.flatMap enc)) (hd' : d'.size = n) :
    (sortWorldK enc k w g 0 m d' os).ownsRow base e k (.slice (some ⟨g, 0, none⟩) n cap) n (d'.toList.flatMap enc) ∧ w.grownBy (sortWorldK enc k w g 0 m d' os) (some g) := by
  rcases h.2 with ⟨h0, _⟩ | ⟨g', cap', cur, hv, hg, hh, hnc, hcm, hsz, hx⟩
  · cases h0
  · simp only [Value.slice.injEq, Option.some.injEq, Addr.mk.injEq] at hv
    obtain ⟨⟨rfl, _, _⟩, _, rfl⟩ := hv
    have hlt := block_lt hh
    have hgh : (sortWorldK enc k w g 0 m d' os).heap[g]? = some (.cells (putCells id 0 (flatK enc k d') cur) e (0, 0)) := by
      unfold sortWorldK grow putRowK putRow mapBlock
      simp only [Array.getElem?_append, Array.size_modify, heap_ahead]
      rw [if_pos hlt, Array.getElem?_modify, if_pos rfl, hh]
      rfl
    have hle : n * k ≤ cap * k := Nat.mul_le_mul_right k hnc
    refine ⟨⟨by rw [flatK_len hk, Array.length_toList, hd'], .inr ⟨g, cap, _, rfl, hg, hgh, hnc, hcm, by simp [putCells, hsz], ?_⟩⟩, rfl, rfl, rfl, ?_, ?_⟩
    · rw [← flatK_list hk]
      apply List.ext_getElem?
      intro t
      by_cases ht : t < n * k
      · have hs : t < (flatK enc k d').size := by rw [size_flatK, hd']; exact ht
        rw [List.getElem?_take_of_lt ht, Array.getElem?_toList, Array.getElem?_toList, putCells, Array.getElem?_mapIdx, Array.getElem?_eq_getElem (show t < cur.size by omega), Array.getElem?_eq_getElem hs]
        simp only [Option.map_some]
        rw [if_pos ⟨Nat.zero_le _, by omega⟩, Nat.sub_zero, getElem!_pos (flatK enc k d') t hs]
        rfl
      · rw [List.getElem?_eq_none (by rw [List.length_take]; exact Nat.le_trans (Nat.min_le_left _ _) (by omega)), List.getElem?_eq_none (by rw [Array.length_toList, size_flatK, hd']; omega)]
    · unfold sortWorldK
      rw [size_grow]
      simp [putRowK]
    · intro j hj hne
      unfold sortWorldK grow putRowK putRow mapBlock
      simp only [Array.getElem?_append, Array.size_modify, heap_ahead]
      rw [if_pos hj, Array.getElem?_modify, if_neg (fun e => hne (by rw [e]))]
end
open Go.RowKit
set_option linter.unusedVariables false
set_option linter.unusedSimpArgs false
attribute [local go_sem ↓] Go.wp_at_zero Go.wp_at_succ
theorem own_len {w : World} {base n size m c : Nat} {e : TypeId} {A : Option Addr} {xs : List Value} (h : w.ownsRow base e size (.slice A m c) n xs) : m = n := by
  rcases h.2 with ⟨hv, hn⟩ | ⟨g, cap, cur, hv, _⟩
  · simp at hv; omega
  · simp at hv; omega
structure ManSt (b M : Nat) (w : World) (mb : Nat) (no : Int) (g n c k : Nat) (wx : World) : Prop where
  m : wx.heap[mb]? = some (.cells #[.int .i64 no, .slice (some ⟨g, 0, none⟩) n c] 113 (0, 0))
  r : wx.heap[w.heap.size]? = some (.cells #[.int .i64 0, .slice none 0 0] 113 (0, 0))
  f : FiWf wx (w.heap.size + 1) 1 (.slice (some ⟨g, 0, none⟩) n c) n
  go : Goes 25 b M k w wx
section
variable {b M : Nat} {w : World} {mb : Nat} {no : Int} {g n c k j : Nat} {wA wB : World}
theorem ManSt.goes (h : ManSt b M w mb no g n c k wA) (hlt : b < w.heap.size) (hmb : w.heap.size ≤ mb) (hg : Goes 25 b (M + k) j wA wB) : ManSt b M w mb no g n c (k + j) wB := by
  have bk : ∀ x, x < wA.heap.size → x ≠ b → wB.heap[x]? = wA.heap[x]? := fun x h1 h2 => hg.gb.block x h1 (fun e => by injection e with e; omega)
  exact ⟨(bk _ (block_lt h.m) (by omega)).trans h.m, (bk _ (block_lt h.r) (by omega)).trans h.r, h.f.keep (fun x hx h2 => bk x h2 (by omega)), h.go.trans hg (Nat.le_refl _)⟩
theorem ManSt.below (h : ManSt b M w mb no g n c k wA) (hb : Below wA.heap.size wA wB) : ManSt b M w mb no g n c k wB :=
  ⟨(hb.block _ (block_lt h.m)).trans h.m, (hb.block _ (block_lt h.r)).trans h.r, h.f.below hb, h.go.below hb⟩
theorem ManSt.alloc (h : ManSt b M w mb no g n c k wA) (o : Obj) : ManSt b M w mb no g n c k (wA.alloc o) := h.below ((Below.refl _ _).alloc (Nat.le_refl _) o)
theorem ManSt.drew (h : ManSt b M w mb no g n c k wA) : ManSt b M w mb no g n c k wA.drew := ⟨h.m, h.r, h.f, h.go.is, gb_drew h.go.gb⟩
theorem ManSt.cells (h : ManSt b M w mb no g n c k wA) : wA.cell? ⟨mb, 0, none⟩ = some (.int .i64 no) ∧ wA.cell? ⟨mb, 1, none⟩ = some (.slice (some ⟨g, 0, none⟩) n c) ∧ wA.frozen? ⟨mb, 0, none⟩ = false ∧
    wA.cell? ⟨w.heap.size, 0, none⟩ = some (.int .i64 0) ∧ wA.cell? ⟨w.heap.size, 1, none⟩ = some (.slice none 0 0) ∧ wA.frozen? ⟨w.heap.size, 0, none⟩ = false ∧ wA.frozen? ⟨w.heap.size, 1, none⟩ = false :=
  ⟨(stream_cells h.m).1, (stream_cells h.m).2.1, (stream_cells h.m).2.2.1, (stream_cells h.r).1, (stream_cells h.r).2.1, (stream_cells h.r).2.2.1, (stream_cells h.r).2.2.2⟩
end
open Go.RowKit Go.Sort Go.Lib Go.Proofs
set_option linter.unusedVariables false
set_option linter.unusedSimpArgs false
def CmpTells {α : Type} (P : Program) (f : Nat) (enc : α → List Value) (cf : α → α → Int) : Prop :=
  ∀ x y W, Calls P f #[.agg (enc x).toArray, .agg (enc y).toArray] W fun e w' => e = .returned (.int .i64 (cf x y)) ∧ ∃ q os', w' = grow (W.drewN q) os'
set_option maxRecDepth 100000 in
set_option maxHeartbeats 1000000 in
theorem insNeed_none (A : Option Addr) (c : Nat) (f : Value) (w : World) : Calls Tryz.prog 282 #[.slice A 0 c, .int .i64 0, .int .i64 0, f] w fun e w' => e = .returned (.tuple #[]) ∧ w = w' := by
  go_enter Tryz.func282, Tryz.ntmps282
  go_wp2_with fail
  refine wp_loop_rounds 1 ?_
  rw [rounds_succ]
  go_wp2_with fail
  go_end0
  exact ⟨rfl, rfl⟩
set_option maxRecDepth 100000 in
set_option maxHeartbeats 1000000 in
theorem pdqNeed_none (A : Option Addr) (c : Nat) (l : Int) (f : Value) (w : World) : Calls Tryz.prog 231 #[.slice A 0 c, .int .i64 0, .int .i64 0, .int .i64 l, f] w fun e w' => e = .returned (.tuple #[]) ∧ w = w' := by
  go_enter Tryz.func231, Tryz.ntmps231
  go_wp2_with fail
  refine wp_loop_rounds 1 ?_
  rw [rounds_succ]
  go_wp2_with fail
  refine (insNeed_none A c f _).mono ?_
  rintro e w1 ⟨rfl, rfl⟩
  go_wp2_with fail
  (try simp only [Exit.inBlock, Exit.then]); refine bodyPost_ret (results_none rfl _ _ _) rfl ?_
  exact ⟨rfl, rfl⟩
set_option maxRecDepth 100000 in
set_option maxHeartbeats 1000000 in
theorem sortNeed_none (A : Option Addr) (c : Nat) (f : Value) (w : World) : Calls Tryz.prog 163 #[.slice A 0 c, f] w fun e w' => e = .returned (.tuple #[]) ∧ w = w' := by
  go_enter Tryz.func163, Tryz.ntmps163
  go_wp2_with fail
  refine (Tryz.bits_Len 0 _ (by omega) (by omega)).mono ?_
  rintro e w1 ⟨rfl, rfl⟩
  go_wp2_with fail
  refine (pdqNeed_none A c _ f _).mono ?_
  rintro e w1 ⟨rfl, rfl⟩
  go_wp2_with fail
  go_end0
  exact ⟨rfl, rfl⟩
theorem sortNeed_own (f : Nat) (cf : NeedD → NeedD → Int) (eg : ∀ args w, (callFunc f args).run Tryz.prog w = .ok (.enter f args) w) (hc : CmpTells Tryz.prog f ndC cf) (v : Value) (base : Nat) (ns : List NeedD) (w : World) (h12 : ns.length ≤ 12)
    (h : w.ownsRow base 107 3 v ns.length (ns.flatMap ndC)) :
    Calls Tryz.prog 163 #[v, .func (.func f) #[] #[]] w fun e w' => e = .returned (.tuple #[]) ∧ w'.ownsRow base 107 3 v ns.length ((srt (ltOf cf) ns).flatMap ndC) ∧ w.grownBy w' v.ownBlock := by
  rcases own_nil_or h with ⟨rfl, hn0, hxs⟩ | ⟨g, c, rfl⟩
  · have e0 : ns = [] := List.eq_nil_of_length_eq_zero hn0
    subst e0
    refine (sortNeed_none none 0 _ w).mono ?_
    rintro e w1 ⟨rfl, rfl⟩
    exact ⟨rfl, by rw [show srt (ltOf cf) ([] : List NeedD) = [] from List.eq_nil_of_length_eq_zero (srt_len _ _)]; exact h, gb_refl _ _⟩
  · have hk : ∀ x : NeedD, (ndC x).length = 3 := fun _ => rfl
    have hblk : g < w.heap.size := (h.lt g rfl).2
    have hcl : CmpLays Tryz.prog f #[] ndC 3 cf g 0 ns.toArray.size w := fun m os dk _ x y => by
      simpa using hc x y (sortWorldK ndC 3 w g 0 m dk os)
    have := AnyQ.slices_SortFunc_small Tryz.sortNeed 3 Tryz.isAgg107 Tryz.sizeOf107 ndC hk (fun x u hu => by simp [ndC] at hu; rcases hu with rfl | rfl | rfl <;> rfl) cf f #[] g 0 c ns.toArray w eg hcl (own_holds hk (by simpa using h) (by simp)) hblk (by simpa using h12)
      (fun n W hn => (Tryz.bits_Len n W (by omega) (by omega)).mono fun _ _ ⟨he, hw⟩ => ⟨⟨_, he⟩, hw⟩)
    simp only [List.size_toArray] at this
    change Calls Tryz.prog 163 _ _ _ at this
    refine this.mono ?_
    rintro e w1 ⟨rfl, m, os, rfl⟩
    have hs := sort_size (ltOf cf) ns.toArray
    simp only [List.size_toArray] at hs
    have := sortK_own (m := m) (os := os) (d' := insertionSort (ltOf cf) ns.toArray 0 ns.length) (d := ns.toArray) hk (by simpa using h) hs
    exact ⟨rfl, this.1, this.2⟩
set_option maxRecDepth 100000 in
set_option maxHeartbeats 1000000 in
theorem insCame_none (A : Option Addr) (c : Nat) (f : Value) (w : World) : Calls Tryz.prog 291 #[.slice A 0 c, .int .i64 0, .int .i64 0, f] w fun e w' => e = .returned (.tuple #[]) ∧ w = w' := by
  go_enter Tryz.func291, Tryz.ntmps291
  go_wp2_with fail
  refine wp_loop_rounds 1 ?_
  rw [rounds_succ]
  go_wp2_with fail
  go_end0
  exact ⟨rfl, rfl⟩
set_option maxRecDepth 100000 in
set_option maxHeartbeats 1000000 in
theorem pdqCame_none (A : Option Addr) (c : Nat) (l : Int) (f : Value) (w : World) : Calls Tryz.prog 234 #[.slice A 0 c, .int .i64 0, .int .i64 0, .int .i64 l, f] w fun e w' => e = .returned (.tuple #[]) ∧ w = w' := by
  go_enter Tryz.func234, Tryz.ntmps234
  go_wp2_with fail
  refine wp_loop_rounds 1 ?_
  rw [rounds_succ]
  go_wp2_with fail
  refine (insCame_none A c f _).mono ?_
  rintro e w1 ⟨rfl, rfl⟩
  go_wp2_with fail
  (try simp only [Exit.inBlock, Exit.then]); refine bodyPost_ret (results_none rfl _ _ _) rfl ?_
  exact ⟨rfl, rfl⟩
set_option maxRecDepth 100000 in
set_option maxHeartbeats 1000000 in
theorem sortCame_none (A : Option Addr) (c : Nat) (f : Value) (w : World) : Calls Tryz.prog 168 #[.slice A 0 c, f] w fun e w' => e = .returned (.tuple #[]) ∧ w = w' := by
  go_enter Tryz.func168, Tryz.ntmps168
  go_wp2_with fail
  refine (Tryz.bits_Len 0 _ (by omega) (by omega)).mono ?_
  rintro e w1 ⟨rfl, rfl⟩
  go_wp2_with fail
  refine (pdqCame_none A c _ f _).mono ?_
  rintro e w1 ⟨rfl, rfl⟩
  go_wp2_with fail
  go_end0
  exact ⟨rfl, rfl⟩
theorem sortCame_own (f : Nat) (cf : CameD → CameD → Int) (eg : ∀ args w, (callFunc f args).run Tryz.prog w = .ok (.enter f args) w) (hc : CmpTells Tryz.prog f ndC cf) (v : Value) (base : Nat) (ns : List CameD) (w : World) (h12 : ns.length ≤ 12)
    (h : w.ownsRow base 103 3 v ns.length (ns.flatMap ndC)) :
    Calls Tryz.prog 168 #[v, .func (.func f) #[] #[]] w fun e w' => e = .returned (.tuple #[]) ∧ w'.ownsRow base 103 3 v ns.length ((srt (ltOf cf) ns).flatMap ndC) ∧ w.grownBy w' v.ownBlock := by
  rcases own_nil_or h with ⟨rfl, hn0, hxs⟩ | ⟨g, c, rfl⟩
  · have e0 : ns = [] := List.eq_nil_of_length_eq_zero hn0
    subst e0
    refine (sortCame_none none 0 _ w).mono ?_
    rintro e w1 ⟨rfl, rfl⟩
    exact ⟨rfl, by rw [show srt (ltOf cf) ([] : List CameD) = [] from List.eq_nil_of_length_eq_zero (srt_len _ _)]; exact h, gb_refl _ _⟩
  · have hk : ∀ x : CameD, (ndC x).length = 3 := fun _ => rfl
    have hblk : g < w.heap.size := (h.lt g rfl).2
    have hcl : CmpLays Tryz.prog f #[] ndC 3 cf g 0 ns.toArray.size w := fun m os dk _ x y => by
      simpa using hc x y (sortWorldK ndC 3 w g 0 m dk os)
    have := AnyQ.slices_SortFunc_small Tryz.sortCame 3 Tryz.isAgg103 Tryz.sizeOf103 ndC hk (fun x u hu => by simp [ndC] at hu; rcases hu with rfl | rfl | rfl <;> rfl) cf f #[] g 0 c ns.toArray w eg hcl (own_holds hk (by simpa using h) (by simp)) hblk (by simpa using h12)
      (fun n W hn => (Tryz.bits_Len n W (by omega) (by omega)).mono fun _ _ ⟨he, hw⟩ => ⟨⟨_, he⟩, hw⟩)
    simp only [List.size_toArray] at this
    change Calls Tryz.prog 168 _ _ _ at this
    refine this.mono ?_
    rintro e w1 ⟨rfl, m, os, rfl⟩
    have hs := sort_size (ltOf cf) ns.toArray
    simp only [List.size_toArray] at hs
    have := sortK_own (m := m) (os := os) (d' := insertionSort (ltOf cf) ns.toArray 0 ns.length) (d := ns.toArray) hk (by simpa using h) hs
    exact ⟨rfl, this.1, this.2⟩
open Go.RowKit
theorem infoNeed : (Tryz.prog.info? 107).map (fun i => (i.zero, i.size, i.bytes)) = some (some (.agg #[.string ⟨#[]⟩, .int .i64 0, .int .i64 0]), 3, 32) := by kernel_rfl
set_option maxRecDepth 100000 in
set_option maxHeartbeats 1000000 in
theorem cloneNeed_any (v : Value) (lo : Nat) (ts : List NeedD) (w : World) (hn : ts.length ≤ 1000000) (h : w.ownsRow lo 107 3 v ts.length (ts.flatMap ndC)) :
    Calls Tryz.prog 162 #[v] w fun e w' => ∃ v', e = .returned v' ∧ w'.ownsRow w.heap.size 107 3 v' ts.length (ts.flatMap ndC) ∧ Below w.heap.size w w' := by
  obtain ⟨i0, hi, hz0, hz1, hz2⟩ := info_parts infoNeed
  have hnil := fun (w : World) (a : Option Addr) (n c : Nat) => Lib.run_eql_slice_nil (P := Tryz.prog) w 95 107 a n c 0 0 Tryz.underlying95
  rcases own_nil_or h with ⟨rfl, hn0, hxs⟩ | ⟨g, c, rfl⟩
  · have HX := Lib.hid hxs
    have HN := Lib.hid hn0
    clear h hxs hn0
    go_enter Tryz.func162, Tryz.ntmps162
    go_wp2_with fail
    go_ret
    exact ⟨_, rfl, by rw [HX.out, HN.out]; exact World.ownsRow_nil _ _ _ _, Below.refl _ _⟩
  · have hc1 := own_cells (h.alloc (.cells #[] 107))
    have h1 : ∀ u ∈ ts.flatMap ndC, u.oneCell' = true := by
      intro u hu
      obtain ⟨t, _, ht⟩ := List.mem_flatMap.1 hu
      exact List.all_eq_true.1 (show (ndC t).all (·.oneCell') = true from rfl) u ht
    have hl : (ts.flatMap ndC).length = ts.length * 3 := flatK_len (enc := ndC) (k := 3) (fun _ => rfl) ts
    have HH := Lib.hid (show (w.alloc (.cells #[] 107)).ownsRow w.heap.size 107 3 (.slice (some ⟨w.heap.size, 0, none⟩) 0 0) 0 [] from ownsRow_empty (Nat.le_refl _))
    have HC := Lib.hid hc1
    have H1 := Lib.hid h1
    have HL := Lib.hid hl
    clear h hc1 h1 hl
    go_enter Tryz.func162, Tryz.ntmps162
    go_wp2_with (at_builtin; refine wpList_append_own _ rfl _ _ 95 rfl w.heap.size 107 i0 _ 3 32 Tryz.underlying95 hi hz0 hz1 hz2 rfl (by decide) _ _ _ rfl HH.out ⟨g, 0, none⟩ ts.length c (ts.flatMap ndC) rfl HL.out HC.out H1.out (by unfold maxLen; omega) (Nat.le_trans (Nat.mul_le_mul_right 32 (show 0 + ts.length ≤ 1000000 by omega)) (by decide)) (by simp) ?_)
    intro v' w1 hown hgrow _
    have hb1 : Below w.heap.size w w1 := (bfirst w _).grown hgrow (by simp) (fun x hx => by cases hx; exact Nat.le_refl _)
    have HO := Lib.hid (show w1.ownsRow w.heap.size 107 3 v' ts.length (ts.flatMap ndC) by simpa using hown)
    clear hown hgrow
    go_wp2_with fail
    go_ret
    exact ⟨_, rfl, HO.out, hb1⟩
theorem infoLink : (Tryz.prog.info? 110).map (fun i => (i.zero, i.size, i.bytes)) = some (some (.agg #[.int .i64 0, .int .i64 0, .int .i64 0]), 3, 24) := by kernel_rfl
set_option maxRecDepth 100000 in
set_option maxHeartbeats 1000000 in
theorem cloneLink_any (v : Value) (lo : Nat) (ts : List LinkD) (w : World) (hn : ts.length ≤ 1000000) (h : w.ownsRow lo 110 3 v ts.length (ts.flatMap lkC)) :
    Calls Tryz.prog 170 #[v] w fun e w' => ∃ v', e = .returned v' ∧ w'.ownsRow w.heap.size 110 3 v' ts.length (ts.flatMap lkC) ∧ Below w.heap.size w w' := by
  obtain ⟨i0, hi, hz0, hz1, hz2⟩ := info_parts infoLink
  have hnil := fun (w : World) (a : Option Addr) (n c : Nat) => Lib.run_eql_slice_nil (P := Tryz.prog) w 84 110 a n c 0 0 Tryz.underlying84
  rcases own_nil_or h with ⟨rfl, hn0, hxs⟩ | ⟨g, c, rfl⟩
  · have HX := Lib.hid hxs
    have HN := Lib.hid hn0
    clear h hxs hn0
    go_enter Tryz.func170, Tryz.ntmps170
    go_wp2_with fail
    go_ret
    exact ⟨_, rfl, by rw [HX.out, HN.out]; exact World.ownsRow_nil _ _ _ _, Below.refl _ _⟩
  · have hc1 := own_cells (h.alloc (.cells #[] 110))
    have h1 : ∀ u ∈ ts.flatMap lkC, u.oneCell' = true := by
      intro u hu
      obtain ⟨t, _, ht⟩ := List.mem_flatMap.1 hu
      exact List.all_eq_true.1 (show (lkC t).all (·.oneCell') = true from rfl) u ht
    have hl : (ts.flatMap lkC).length = ts.length * 3 := flatK_len (enc := lkC) (k := 3) (fun _ => rfl) ts
    have HH := Lib.hid (show (w.alloc (.cells #[] 110)).ownsRow w.heap.size 110 3 (.slice (some ⟨w.heap.size, 0, none⟩) 0 0) 0 [] from ownsRow_empty (Nat.le_refl _))
    have HC := Lib.hid hc1
    have H1 := Lib.hid h1
    have HL := Lib.hid hl
    clear h hc1 h1 hl
    go_enter Tryz.func170, Tryz.ntmps170
    go_wp2_with (at_builtin; refine wpList_append_own _ rfl _ _ 84 rfl w.heap.size 110 i0 _ 3 24 Tryz.underlying84 hi hz0 hz1 hz2 rfl (by decide) _ _ _ rfl HH.out ⟨g, 0, none⟩ ts.length c (ts.flatMap lkC) rfl HL.out HC.out H1.out (by unfold maxLen; omega) (Nat.le_trans (Nat.mul_le_mul_right 24 (show 0 + ts.length ≤ 1000000 by omega)) (by decide)) (by simp) ?_)
    intro v' w1 hown hgrow _
    have hb1 : Below w.heap.size w w1 := (bfirst w _).grown hgrow (by simp) (fun x hx => by cases hx; exact Nat.le_refl _)
    have HO := Lib.hid (show w1.ownsRow w.heap.size 110 3 v' ts.length (ts.flatMap lkC) by simpa using hown)
    clear hown hgrow
    go_wp2_with fail
    go_ret
    exact ⟨_, rfl, HO.out, hb1⟩
def At2 (w : World) (A : Option Addr) (n : Nat) (x y : Nat → Value) : Prop :=
  ∀ i, i < n → ∃ b o, A = some ⟨b, o, none⟩ ∧ b < w.heap.size ∧ w.cell? ⟨b, o + i * 2, none⟩ = some (x i) ∧ w.cell? ⟨b, o + i * 2 + 1, none⟩ = some (y i)
theorem At2.below {w w' : World} {A : Option Addr} {n : Nat} {x y : Nat → Value} (h : At2 w A n x y) (hb : Below w.heap.size w w') : At2 w' A n x y := fun i hi =>
  let ⟨b, o, e, hl, c0, c1⟩ := h i hi
  ⟨b, o, e, Nat.lt_of_lt_of_le hl hb.size, bold hb c0, bold hb c1⟩
theorem bl_lt (a b : ByteArray) : Op.bytesLess a.toList b.toList = decide (a.toList < b.toList) := bytesLess_eq _ _
theorem keyLe_eq (a b : ByteArray) : keyLe a b = decide (a.toList ≤ b.toList) := by
  unfold keyLe
  rw [bl_lt]
  by_cases h : a.toList < b.toList
  · simp [h, List.le_of_lt h]
  · by_cases e : a.toList = b.toList
    · simp [e]
    · have : ¬ a.toList ≤ b.toList := fun hle => by
        rcases List.le_total a.toList b.toList with _ | _
        all_goals exact e (List.le_antisymm hle (List.not_lt.1 h))
      simp [h, e, this]
theorem cb_lt : ∀ a b : List UInt8, Lib.compareBytes a b < 0 ↔ a < b
  | [], [] => by simp [Lib.compareBytes]
  | [], _ :: _ => by simp [Lib.compareBytes]
  | _ :: _, [] => by simp [Lib.compareBytes]
  | a :: xs, b :: ys => by
    rw [Lib.compareBytes, List.cons_lt_cons_iff]
    by_cases h : a < b
    · simp [h]
    · by_cases h2 : b < a
      · simp only [h, h2, if_true, if_false, false_or]
        constructor
        · intro h3; omega
        · intro h3; rw [h3.1] at h2; exact absurd h2 (UInt8.lt_irrefl _)
      · have e : a = b := UInt8.le_antisymm (UInt8.not_lt.1 h2) (UInt8.not_lt.1 h)
        subst e
        simp only [h, if_false, false_or, true_and]
        exact cb_lt xs ys
open Go.RowKit Go.Sort Go.Lib
attribute [local go_sem ↓] Go.wp_at_zero Go.wp_at_succ
structure NeedsOk (ns : List NeedD) : Prop where
  each : ∀ x ∈ ns, 1 ≤ x.2.1 ∧ x.2.1 ≤ 1000000000000 ∧ 0 ≤ x.2.2 ∧ x.2.2 ≤ 345686400000
  rise : ∀ p q, (hp : p < q) → (hq : q < ns.length) → 0 ≤ Lib.compareBytes ns[q].1.data.toList (ns[p]'(by omega)).1.data.toList
theorem ba_list (s : ByteArray) : s.toList = s.data.toList := ByteArray.toList_eq s
theorem needs_ok {ns : List NeedD} (h : needsF ns = 0) : NeedsOk ns := by
  have hf : firstTo (niF ns) ns.length = 0 := by
    unfold needsF at h
    split at h
    · omega
    · exact h
  have h0 : ∀ i, i < ns.length → niF ns i = 0 := fun i hi => by
    by_cases e : niF ns i = 0
    · exact e
    · have hz : firstTo (niF ns) i = 0 := by
        by_cases z : firstTo (niF ns) i = 0
        · exact z
        · have := firstTo_le (f := niF ns) (n := ns.length) (by omega) z; omega
      have := firstTo_at (f := niF ns) hi hz e; omega
  have hk : ∀ i, i + 1 < ns.length → (nAt ns i).1.toList < (nAt ns (i + 1)).1.toList := fun i hi => by
    have h0 := h0 (i + 1) hi
    unfold niF at h0
    split at h0
    · split at h0
      · omega
      · rename_i hk
        simp only [Nat.add_sub_cancel, keyLe_eq] at hk
        simp at hk
        simpa using hk
    · omega
  have hr : ∀ i j, i < j → j < ns.length → (nAt ns i).1.toList < (nAt ns j).1.toList := by
    intro i j hij hj
    induction j with
    | zero => omega
    | succ j ih =>
      have h1 := hk j hj
      rcases Nat.lt_or_ge i j with h2 | h2
      · exact List.lt_trans (ih h2 (by omega)) h1
      · rw [show i = j by omega]; exact h1
  refine ⟨fun x hx => ?_, fun p q hp hq => ?_⟩
  · obtain ⟨i, hi, rfl⟩ := List.getElem_of_mem hx
    have h0 := h0 i hi
    unfold niF at h0
    rw [nAt_eq ns hi] at h0
    split at h0
    · split at h0
      · omega
      · split at h0
        · omega
        · rename_i hb
          simp [ndBad, outsideB] at hb
          omega
    · omega
  · have := hr p q hp hq
    rw [nAt_eq ns (by omega), nAt_eq ns hq, ba_list, ba_list] at this
    rcases Int.lt_or_le (Lib.compareBytes ns[q].1.data.toList (ns[p]'(by omega)).1.data.toList) 0 with h1 | h1
    · exact absurd (List.lt_trans this ((cb_lt _ _).1 h1)) (List.lt_irrefl _)
    · exact h1
theorem sumN_bd {ns : List NeedD} (h : ∀ x ∈ ns, 1 ≤ x.2.1 ∧ x.2.1 ≤ 1000000000000 ∧ 0 ≤ x.2.2 ∧ x.2.2 ≤ 345686400000) : 0 ≤ sumN ns ∧ sumN ns ≤ ns.length * 1000000000000 := by
  induction ns with
  | nil => simp [sumN]
  | cons x r ih =>
    have := ih fun y hy => h y (by simp [hy])
    have := h x (by simp)
    simp only [sumN, List.map_cons, List.sum_cons, List.length_cons] at *
    omega
theorem comeT_bd {ls : List LinkD} (h : LinksOk ls) {a b : Int} (ha : 0 ≤ a) (ha1 : a ≤ 345686400000) (hb : 0 ≤ b) : 0 ≤ comeT ls a b ∧ comeT ls a b ≤ 345686400000 := by
  unfold comeT tellD
  by_cases e : b = 0
  · rw [if_pos e]; exact ⟨ha, ha1⟩
  · rw [if_neg e]
    have := doneL_tells h a (b := b) (by omega)
    cases hd : doneL ls a b with
    | none => exact ⟨by decide, by decide⟩
    | some t => rw [hd] at this; exact ⟨Int.le_trans ha this.1, this.2.1⟩
theorem infoCame : (Tryz.prog.info? 103).map (fun i => (i.zero, i.size, i.bytes)) = some (some (.agg #[.string ⟨#[]⟩, .int .i64 0, .int .i64 0]), 3, 32) := by kernel_rfl
def PlRel (ls : List LinkD) (a : Int) (os : List NeedD) (w2 : World) (g : Nat) (i s out : Value) (wr : World) : Prop :=
  ∃ k : Nat, k + g = os.length ∧ i = .int .i64 k ∧ s = .int .i64 (sumN (os.take k)) ∧ wr.ownsRow w2.heap.size 103 3 out k ((cameL ls a 0 (os.take k)).flatMap ndC) ∧ Below w2.heap.size w2 wr
theorem cameL_take (ls : List LinkD) (a : Int) (os : List NeedD) {k : Nat} (h : k < os.length) :
    (cameL ls a 0 (os.take (k + 1))).flatMap ndC = (cameL ls a 0 (os.take k)).flatMap ndC ++ [.string os[k].1, .int .i64 (comeT ls a (sumN (os.take k) + os[k].2.1)), .int .i64 (max 0 (comeT ls a (sumN (os.take k) + os[k].2.1) - os[k].2.2))] := by
  rw [List.take_succ_eq_append_getElem h, cameL_snoc, List.flatMap_append, Int.zero_add]
  simp [ndC]
theorem sumN_take (os : List NeedD) {k : Nat} (h : k < os.length) : sumN (os.take (k + 1)) = sumN (os.take k) + os[k].2.1 := by
  rw [List.take_succ_eq_append_getElem h, sumB_snoc]
set_option maxRecDepth 100000 in
set_option maxHeartbeats 4000000 in
theorem plan_any (A : Option Addr) (lo lo' c : Nat) (ls : List LinkD) (a : Int) (vN : Value) (ns : List NeedD) (w : World) (hf : Lst w lo 3 (.slice A ls.length c) (ls.flatMap lkC)) (hm : ls.length ≤ 20) (hlk : LinksOk ls) (ha : 0 ≤ a) (ha1 : a ≤ 345686400000)
    (hN : w.ownsRow lo' 107 3 vN ns.length (ns.flatMap ndC)) (hn : ns.length ≤ 12) (hok : NeedsOk ns) :
    Calls Tryz.prog 109 #[.slice A ls.length c, .int .i64 a, vN] w fun e w' => ∃ v, e = .returned v ∧ w'.ownsRow w.heap.size 103 3 v ns.length ((planS ls a ns).flatMap ndC) ∧ Below w.heap.size w w' := by
  have HF := Lib.hid hf
  have HLK := Lib.hid hlk
  obtain ⟨os, hos⟩ : ∃ os, os = ordD ns := ⟨_, rfl⟩
  have HOS := Lib.hid hos
  have HSR := Lib.hid (show srt (ltOf bothC) ns = os by rw [hos]; exact ordD_both hok.rise)
  have HOL := Lib.hid (show os.length = ns.length by rw [hos]; exact srt_len _ _)
  have HOK := Lib.hid (show ∀ x ∈ os, 1 ≤ x.2.1 ∧ x.2.1 ≤ 1000000000000 ∧ 0 ≤ x.2.2 ∧ x.2.2 ≤ 345686400000 from fun x hx => hok.each x ((mem_srt _ _ x).1 (by rw [hos] at hx; exact hx)))
  obtain ⟨i0, hi, hz0, hz1, hz2⟩ := info_parts infoCame
  clear hf hlk hos hok
  go_enter Tryz.func109, Tryz.ntmps109
  go_wp2_with fail
  refine (cloneNeed_any vN lo' ns _ (by omega) hN).mono ?_
  rintro e w1 ⟨vO, rfl, hO1, b1⟩
  clear hN
  go_wp2_with fail
  refine (sortNeed_own 164 bothC (enters_of Tryz.func164 (by kernel_rfl) rfl) (fun x y W => plan_both x y W) vO _ ns _ hn hO1).mono ?_
  rintro e w2 ⟨rfl, hO2, hg2⟩
  have b2 : Below w.heap.size w w2 := b1.grown hg2 b1.size (fun x hx => (hO1.lt x hx).1)
  rw [HSR.out] at hO2
  rw [← HOL.out] at hO2
  obtain ⟨OA, m, oc, rfl⟩ := own_form hO2
  obtain rfl := own_len hO2
  have HON := Lib.hid (Lst.of_own hO2)
  clear hO1 b1 hg2 hO2
  go_wp2_with fail
  have hoL : os.length ≤ 12 := by rw [HOL.out]; exact hn
  go_loopg [20, 9, 8, 11, 12, 13] os.length (fun g i s o _ _ _ wr => PlRel ls a os w2 g i s o wr)
  case atStart => exact ⟨0, by omega, rfl, rfl, World.ownsRow_nil _ _ _ _, Below.refl _ _⟩
  case round =>
    obtain ⟨k, hk, rfl, rfl, hown, hb⟩ := hrel
    have hbw := b2.trans (hb.mono b2.size)
    have hsz := hb.size
    by_cases hg : gk = 0
    · obtain rfl : k = os.length := by omega
      rw [List.take_length] at hown ⊢
      have HCL := Lib.hid (cameL_len ls a 0 os)
      have ho2 := hown
      rw [← HCL.out] at ho2
      clear hk hg hown
      go_wp2_with fail
      refine (sortCame_own 169 (fun x y => keyC x y) (enters_of Tryz.func169 (by kernel_rfl) rfl) (fun x y W => plan_key x y W) _ _ _ _ (by rw [HCL.out]; omega) ho2).mono ?_
      rintro e w4 ⟨rfl, ho4, hg4⟩
      have hb4 : Below w.heap.size w w4 := hbw.grown hg4 (by have := b2.size; omega) (fun x hx => by have := (ho2.lt x hx).1; have := b2.size; omega)
      have HO4 := Lib.hid ho4
      clear ho4 hg4 ho2
      go_wp2_with fail
      go_ret
      refine ⟨_, rfl, ?_, hb4⟩
      have h5 := ownsRow_base HO4.out b2.size
      rw [HCL.out, HOL.out] at h5
      rw [planS, planL, ← HOS.out]
      exact h5
    · have hlt : k < os.length := by omega
      obtain ⟨g, oo, rfl, hgl, cK, cB, cD⟩ := (HON.out.below hb).need hlt rfl
      have hx := HOK.out _ (List.getElem_mem hlt)
      have hsb := sumN_bd (ns := os.take k) (fun x hx => HOK.out x (List.mem_of_mem_take hx))
      rw [List.length_take] at hsb
      have HS := Lib.hid (sumN_take os hlt)
      have HC := Lib.hid (cameL_take ls a os hlt)
      have HK := Lib.hid hk
      have hgk : gk ≠ 0 := hg
      clear hk hg
      generalize os[k] = x at *
      obtain ⟨key, nb, nd⟩ := x
      obtain ⟨x0, x1, x2, x3⟩ : 1 ≤ nb ∧ nb ≤ 1000000000000 ∧ 0 ≤ nd ∧ nd ≤ 345686400000 := hx
      have HS' := Lib.hid (show sumN (os.take (k + 1)) = sumN (os.take k) + nb from HS.out)
      have HC' := Lib.hid (show (cameL ls a 0 (os.take (k + 1))).flatMap ndC = (cameL ls a 0 (os.take k)).flatMap ndC ++ [.string key, .int .i64 (comeT ls a (sumN (os.take k) + nb)), .int .i64 (max 0 (comeT ls a (sumN (os.take k) + nb) - nd))] from HC.out)
      clear HS HC
      generalize sumN (os.take k) = s0 at *
      have hs0 : 0 ≤ s0 := hsb.1
      have hs1 : s0 ≤ 12000000000000 := by omega
      clear hsb
      go_wp2_with fail
      have hb0 := bbox hb (.cells #[.string key, .int .i64 nb, .int .i64 nd] 107)
      have HX := Lib.hid (heap_alloc_new wr (.cells #[.string key, .int .i64 nb, .int .i64 nd] 107))
      have ho0 := hown.alloc (.cells #[.string key, .int .i64 nb, .int .i64 nd] 107)
      have hbw0 := bbox hbw (.cells #[.string key, .int .i64 nb, .int .i64 nd] 107)
      generalize wr.alloc (.cells #[.string key, .int .i64 nb, .int .i64 nd] 107) = w3 at *
      refine (done_any A lo c ls a (s0 + nb) _ (HF.out.below hbw0) (by omega) HLK.out ha ha1 (by omega) (by omega)).mono ?_
      rintro e w4 ⟨rfl, b4⟩
      have hM := (b4.block wr.heap.size (block_lt HX.out)).trans HX.out
      have c0 := (need_cells hM).1
      have c1 := (need_cells hM).2.1
      have c2 := (need_cells hM).2.2
      have ml := block_lt hM
      have hb4 := bon hb0 b4
      have ho4 := ownsRow_below ho0 b4
      have hct := comeT_bd HLK.out ha ha1 (show 0 ≤ s0 + nb by omega)
      obtain ⟨t0, t1⟩ := hct
      clear hM HX hb0 ho0 hbw0 b4 hown hb hbw cK cB cD
      generalize wr.heap.size = pb at *
      clear w3
      have HT := Lib.hid (show comeT ls a (s0 + nb) = (tellD ls a (s0 + nb)).getD 345686400000 from rfl)
      generalize comeT ls a (s0 + nb) = ct at *
      go_upto_if 36 with fail
      go_cut [12, 13] (fun s _ wx => s = .int .i64 ct ∧ w4 = wx)
      case first =>
        cases hd : tellD ls a (s0 + nb) with
        | none =>
          have H1 := Lib.hid (show ct = 345686400000 by rw [HT.out, hd]; rfl)
          clear hd
          go_wp2_with fail
          go_meet
          exact ⟨by rw [H1.out], rfl⟩
        | some t =>
          have H1 := Lib.hid (show ct = t by rw [HT.out, hd]; rfl)
          skip
          clear hd
          simp only [Option.isSome, optZ]
          go_wp2_with fail
          go_meet
          exact ⟨by rw [H1.out], rfl⟩
      case rest =>
        obtain ⟨rfl, rfl⟩ := hcut
        have hs4 := hb4.size
        go_wp2_with (at_builtin; refine wpList_push (W := w2) (lo := w2.heap.size) rfl _ _ 98 rfl 103 i0 _ 3 32 Tryz.underlying98 hi hz0 hz1 hz2 rfl (by decide) (by decide) _ _ _ rfl hb4 hs4 ho4 [.string key, .int .i64 ct, .int .i64 (max 0 (ct - nd))] rfl rfl rfl rfl (by omega) ?_)
        intro v5 w5 ho5 hb5 _ _
        have HO5 := Lib.hid ho5
        clear ho4 ho5 hb4
        go_wp2_with fail
        go_roundg (gk - 1)
        case measure => omega
        case rel => exact ⟨k + 1, by have := HK.out; omega, by go_num, by rw [HS'.out], by rw [HC'.out]; exact HO5.out, hb5⟩
set_option maxRecDepth 100000 in
set_option maxHeartbeats 1000000 in
theorem indexCame (A : Option Addr) (lo c : Nat) (ts : List CameD) (p : CameD → Bool) (g : Nat) (lb : Array Value) (eg : ∀ args w, (callFunc g args).run Tryz.prog w = .ok (.enter g args) w) (w : World)
    (hA : Lst w lo 3 (.slice A ts.length c) (ts.flatMap ndC)) (hp : PredL Tryz.prog g lb ndC ts p w) (hn : ts.length ≤ 1000000000) :
    Calls Tryz.prog 110 #[.slice A ts.length c, .func (.func g) #[] lb] w fun e w' => e = .returned (.int .i64 (idxLs p ts)) ∧ Below w.heap.size w w' := by
  have HA := Lib.hid hA
  have HP := Lib.hid hp
  clear hA hp
  go_enter Tryz.func110, Tryz.ntmps110
  go_wp2_with fail
  go_loopg [8, 5] ts.length (fun g i _ wr => IdxLRel p ts w g i wr)
  case atStart => exact ⟨0, by omega, rfl, by simp, Below.refl _ _⟩
  case round =>
    obtain ⟨k, hk, rfl, hno, hb⟩ := hrel
    by_cases hg : gk = 0
    · obtain rfl : k = ts.length := by omega
      have HV := Lib.hid (idxL_miss (by rw [List.take_length] at hno; exact hno))
      clear hno hk hg
      go_wp2_with fail
      go_ret
      exact ⟨ret_int HV.out.symm, hb⟩
    · have hlt : k < ts.length := by omega
      obtain ⟨b, o, rfl, hbl, c0, c1, c2⟩ := (HA.out.below hb).need hlt rfl
      have hcall := HP.out wr ts[k] (List.getElem_mem hlt) hb
      have HV := Lib.hid (fun h : p ts[k] = true => idxL_hit hlt h hno)
      have HW := Lib.hid (fun h : p ts[k] = false => idxL_more hlt h hno)
      have HK := Lib.hid hk
      have hgk : gk ≠ 0 := hg
      clear hk hno hg
      generalize ts[k] = x at *
      obtain ⟨x0, x1, x2⟩ := x
      simp only [ndC] at hcall
      simp only at c0 c1 c2
      rcases Bool.eq_false_or_eq_true (p ⟨x0, x1, x2⟩) with hq | hq
      · have HX := Lib.hid (HV.out hq)
        rw [hq] at hcall
        clear hq HV HW
        go_wp2_with (go_at_fn g; refine hcall.mono ?_; rintro e w1 ⟨rfl, hb1⟩)
        go_ret
        exact ⟨ret_int HX.out.symm, bon hb hb1⟩
      · have HX := Lib.hid (HW.out hq)
        rw [hq] at hcall
        clear hq HV HW
        go_wp2_with (go_at_fn g; refine hcall.mono ?_; rintro e w1 ⟨rfl, hb1⟩)
        go_roundg (gk - 1)
        case measure => omega
        case rel => exact ⟨k + 1, by have := HK.out; omega, by go_num, HX.out, bon hb hb1⟩
set_option maxRecDepth 100000 in
set_option maxHeartbeats 1000000 in
theorem containsCame (A : Option Addr) (lo c : Nat) (ts : List CameD) (p : CameD → Bool) (g : Nat) (lb : Array Value) (eg : ∀ args w, (callFunc g args).run Tryz.prog w = .ok (.enter g args) w) (w : World)
    (hA : Lst w lo 3 (.slice A ts.length c) (ts.flatMap ndC)) (hp : PredL Tryz.prog g lb ndC ts p w) (hn : ts.length ≤ 1000000000) :
    Calls Tryz.prog 47 #[.slice A ts.length c, .func (.func g) #[] lb] w fun e w' => e = .returned (.bool (ts.any p)) ∧ Below w.heap.size w w' := by
  have HC := Lib.hid (indexCame A lo c ts p g lb eg w hA hp hn)
  have HI := Lib.hid (idxLs_any p ts)
  clear hA hp
  go_enter Tryz.func47, Tryz.ntmps47
  go_wp2_with fail
  refine HC.out.mono ?_
  rintro e w1 ⟨rfl, hb1⟩
  go_wp2_with fail
  go_ret
  exact ⟨by rw [← HI.out]; rfl, hb1⟩
theorem flatK_set {α : Type} {enc : α → List Value} {k : Nat} (hk : ∀ x, (enc x).length = k) : ∀ (l : List α) (j i : Nat) (y : α) (v : Value) (hj : j < l.length), i < k → enc y = (enc l[j]).set i v → (l.flatMap enc).set (j * k + i) v = (l.set j y).flatMap enc
  | [], _, _, _, _, hj, _, _ => absurd hj (by simp)
  | x :: r, 0, i, y, v, _, hi, he => by
    rw [List.flatMap_cons, Nat.zero_mul, Nat.zero_add, List.set_append_left _ _ (by rw [hk]; exact hi)]
    simp only [List.set_cons_zero, List.flatMap_cons]
    rw [he]; rfl
  | x :: r, j + 1, i, y, v, hj, hi, he => by
    rw [List.flatMap_cons, List.set_append_right _ _ (by rw [hk, Nat.add_mul]; omega), hk, show (j + 1) * k + i - k = j * k + i by rw [Nat.add_mul]; omega, flatK_set hk r j i y v (by simpa using hj) hi (by simpa using he)]
    simp
def mixL (p : Int) (k : Nat) (ls : List LinkD) : List LinkD := (ls.take k).map (fastL p) ++ ls.drop k
theorem mixL_len (p : Int) (k : Nat) (ls : List LinkD) : (mixL p k ls).length = ls.length := by simp [mixL]; omega
theorem mixL_at (p : Int) {k : Nat} (ls : List LinkD) (h : k < ls.length) : (mixL p k ls)[k]'(by rw [mixL_len]; exact h) = ls[k] := by
  unfold mixL
  rw [List.getElem_append_right (by simp; omega)]
  simp [Nat.min_eq_left (Nat.le_of_lt h)]
theorem mixL_succ (p : Int) {k : Nat} (ls : List LinkD) (h : k < ls.length) : (mixL p k ls).set k (fastL p ls[k]) = mixL p (k + 1) ls := by
  unfold mixL
  rw [List.set_append_right _ _ (by simp; omega), List.take_succ_eq_append_getElem h, List.map_append]
  simp [Nat.min_eq_left (Nat.le_of_lt h)]
  rw [List.drop_eq_getElem_cons h]; rfl
theorem mixL_store (p : Int) {k : Nat} (ls : List LinkD) (h : k < ls.length) : ((mixL p k ls).flatMap lkC).set (k * 3 + 2) (.int .i64 (min (ls[k].2.2 * p / 100) 1000000)) = (mixL p (k + 1) ls).flatMap lkC := by
  have := flatK_set (enc := lkC) (k := 3) (fun _ => rfl) (mixL p k ls) k 2 (fastL p ls[k]) (.int .i64 (min (ls[k].2.2 * p / 100) 1000000)) (by rw [mixL_len]; exact h) (by omega) (by rw [mixL_at p ls h]; rfl)
  rw [this, mixL_succ p ls h]
def FaRel (p : Int) (ls : List LinkD) (vC : Value) (w : World) (g : Nat) (i : Value) (wr : World) : Prop :=
  ∃ k : Nat, k + g = ls.length ∧ i = .int .i64 k ∧ wr.ownsRow w.heap.size 110 3 vC ls.length ((mixL p k ls).flatMap lkC) ∧ Below w.heap.size w wr
theorem own_frozen {w : World} {base e size n c : Nat} {g : Nat} {xs : List Value} (h : w.ownsRow base e size (.slice (some ⟨g, 0, none⟩) n c) n xs) (j : Nat) : w.frozen? ⟨g, j, none⟩ = false := by
  rcases h.2 with ⟨h0, _⟩ | ⟨g', cap, cur, hv, _, hh, _, _, _, hx⟩
  · cases h0
  · simp only [Value.slice.injEq, Option.some.injEq, Addr.mk.injEq] at hv
    obtain ⟨⟨rfl, _, _⟩, _, _⟩ := hv
    simp [World.frozen?, hh]
theorem own_at {w : World} {base e size n c : Nat} {A : Option Addr} {xs : List Value} (h : w.ownsRow base e size (.slice A n c) n xs) (hn : 0 < n) : ∃ g, A = some ⟨g, 0, none⟩ ∧ base ≤ g ∧ g < w.heap.size := by
  rcases h.2 with ⟨h0, h1⟩ | ⟨g', cap, cur, hv, hb, hh, _, _, _, hx⟩
  · omega
  · simp only [Value.slice.injEq] at hv
    exact ⟨g', hv.1, hb, block_lt hh⟩
attribute [local go_sem ↓] Go.wp_at_zero Go.wp_at_succ
set_option maxRecDepth 100000 in
theorem late1_any (ts : List CameD) (w : World) : PredL Tryz.prog 171 #[] ndC ts (fun c => decide (0 < c.2.2)) w := by
  rintro W ⟨x0, x1, x2⟩ _ _
  show Calls Tryz.prog 171 #[.agg #[.string x0, .int .i64 x1, .int .i64 x2]] W _
  go_enter Tryz.func171, Tryz.ntmps171
  go_wp2_with fail
  go_ret
  exact ⟨rfl, bfirst _ _⟩
set_option maxRecDepth 100000 in
set_option maxHeartbeats 1000000 in
theorem inTime_any (vL vN : Value) (lo lo' : Nat) (ls : List LinkD) (a : Int) (ns : List NeedD) (p : Int) (w : World) (hL : w.ownsRow lo 110 3 vL ls.length (ls.flatMap lkC)) (hm : ls.length ≤ 20) (hlk : LinksOk ls) (ha : 0 ≤ a) (ha1 : a ≤ 345686400000)
    (hN : w.ownsRow lo' 107 3 vN ns.length (ns.flatMap ndC)) (hn : ns.length ≤ 12) (hok : NeedsOk ns) (hp : 100 ≤ p) (hp9 : p ≤ 100001) :
    Calls Tryz.prog 111 #[vL, .int .i64 a, vN, .int .i64 p] w fun e w' => e = .returned (.bool (!lateB ls a ns p)) ∧ Below w.heap.size w w' := by
  have HLK := Lib.hid hlk
  have HOK := Lib.hid hok
  have HN := Lib.hid hN
  clear hlk hok hN
  go_enter Tryz.func111, Tryz.ntmps111
  go_wp2_with fail
  refine (cloneLink_any vL lo ls _ (by omega) hL).mono ?_
  rintro e w1 ⟨vC, rfl, hC, b1⟩
  clear hL
  obtain ⟨A, m, c, rfl⟩ := own_form hC
  obtain rfl := own_len hC
  go_wp2_with fail
  go_loopg [15, 9, 10] ls.length (fun g i _ _ wr => FaRel p ls (.slice A ls.length c) w g i wr)
  case atStart => exact ⟨0, by omega, rfl, by simpa [mixL] using hC, b1⟩
  case round =>
    obtain ⟨k, hk, rfl, hown, hb⟩ := hrel
    by_cases hg : gk = 0
    · obtain rfl : k = ls.length := by omega
      have HM := Lib.hid (show mixL p ls.length ls = ls.map (fastL p) by simp [mixL])
      have ho2 : wr.ownsRow w.heap.size 110 3 (.slice A (ls.map (fastL p)).length c) (ls.map (fastL p)).length ((ls.map (fastL p)).flatMap lkC) := by rw [HM.out] at hown; simpa using hown
      have hL2 := Lib.hid (Lst.of_own ho2)
      have hfl := Lib.hid (fast_ok HLK.out hp)
      have HLen := Lib.hid (show (ls.map (fastL p)).length = ls.length by simp)
      have hml : (ls.map (fastL p)).length ≤ 20 := by rw [HLen.out]; exact hm
      have HPL := Lib.hid (planS_len (ls.map (fastL p)) a ns)
      clear hk hg hown ho2
      rw [← HLen.out]
      have HLB := Lib.hid (show lateB ls a ns p = (planS (ls.map (fastL p)) a ns).any (fun c => decide (0 < c.2.2)) from rfl)
      generalize ls.map (fastL p) = lf at *
      go_wp2_with fail
      refine (plan_any A _ lo' c lf a vN ns _ hL2.out hml hfl.out ha ha1 (ownsRow_below HN.out hb) hn HOK.out).mono ?_
      rintro e w2 ⟨v, rfl, ho, b2⟩
      obtain ⟨B, m2, d, rfl⟩ := own_form ho
      obtain rfl := own_len ho
      have hl := Lst.of_own ho
      rw [← HPL.out] at hl ⊢
      have hpl : (planS lf a ns).length ≤ 1000000000 := by rw [HPL.out]; omega
      have HLL := Lib.hid hl
      clear ho hl
      go_wp2_with fail
      refine (containsCame B _ d (planS lf a ns) (fun c => decide (0 < c.2.2)) 171 #[] (enters_of Tryz.func171 (by kernel_rfl) rfl) _ HLL.out (late1_any _ _) hpl).mono ?_
      rintro e w3 ⟨rfl, b3⟩
      rw [← HLB.out]
      go_wp2_with fail
      go_ret
      exact ⟨rfl, bon (bon hb b2) b3⟩
    have hlt : k < ls.length := by omega
    obtain ⟨g, rfl, hg0, hgl⟩ := own_at hown (by omega)
    obtain ⟨g2, o2, e2, _, c0, c1, c2⟩ := (Lst.of_own hown).link (j := k) (ls := mixL p k ls) (by rw [mixL_len]; exact hlt) (mixL_len p k ls).symm
    simp only [Option.some.injEq, Addr.mk.injEq] at e2
    obtain ⟨rfl, rfl, _⟩ := e2
    rw [mixL_at p ls hlt] at c0 c1 c2
    have hfz := own_frozen hown (k * 3 + 2)
    have HST := Lib.hid (mixL_store p ls hlt)
    have hx := HLK.out.each _ (List.getElem_mem hlt)
    have HK := Lib.hid hk
    have hgk : gk ≠ 0 := hg
    clear hk hg
    generalize ls[k] = x at *
    obtain ⟨xf, xt, xs⟩ := x
    obtain ⟨x0, x1, x2, x3, x4⟩ : 0 ≤ xf ∧ xf < xt ∧ xt ≤ 345686400000 ∧ 1 ≤ xs ∧ xs ≤ 1000000 := hx
    simp only [Nat.zero_add] at c0 c1 c2
    have hp0 : 0 ≤ xs * p := Int.mul_nonneg (by omega) (by omega)
    have hp1 : xs * p ≤ 1000000 * 100001 := Int.mul_le_mul x4 hp9 (by omega) (by omega)
    have hw1 : IntKind.i64.wrap (xs * p) = xs * p := by rw [IntKind.wrap_i64]; omega
    have HST' := Lib.hid (show ((mixL p k ls).flatMap lkC).set (k * 3 + 2) (.int .i64 (min (xs * p / 100) 1000000)) = (mixL p (k + 1) ls).flatMap lkC from HST.out)
    clear HST
    have hne : g ≠ wr.heap.size := by omega
    go_wp2_with fail
    go_roundg (gk - 1)
    case measure => omega
    case rel =>
      have h1 := (hown.stored (k * 3 + 2) (.int .i64 (min (xs * p / 100) 1000000)))
      refine ⟨k + 1, by have := HK.out; omega, by go_num, ?_, bbox (hb.setCell (p := ⟨g, k * 3 + 2, none⟩) hg0 _) _⟩
      rw [← HST'.out]; exact h1.1.alloc _
theorem nfF_zero {ls : List LinkD} {a : Int} {ns : List NeedD} (h : nfF ls a ns = 0) : linksF ls = 0 ∧ momB a = true ∧ needsF ns = 0 := by
  unfold nfF at h
  split at h
  · split at h
    · rename_i h1 h2; exact ⟨h1, h2, h⟩
    · omega
  · rename_i h1; exact absurd h h1
structure AllOk (ls : List LinkD) (a : Int) (ns : List NeedD) : Prop where
  lk : LinksOk ls
  a0 : 0 ≤ a
  a1 : a ≤ 345686400000
  nd : NeedsOk ns
theorem allOk {ls : List LinkD} {a : Int} {ns : List NeedD} (h : nfF ls a ns = 0) : AllOk ls a ns := by
  obtain ⟨h1, h2, h3⟩ := nfF_zero h
  have : 0 ≤ a ∧ a ≤ 345686400000 := by simp [momB] at h2; omega
  exact ⟨links_ok h1, this.1, this.2, needs_ok h3⟩
set_option maxRecDepth 100000 in
set_option maxHeartbeats 1000000 in
theorem Plan_ok (vL vN : Value) (lo lo' : Nat) (ls : List LinkD) (a : Int) (ns : List NeedD) (w : World) (hL : w.ownsRow lo 110 3 vL ls.length (ls.flatMap lkC)) (hm : ls.length ≤ 20) (hbd : LkBd ls)
    (hN : w.ownsRow lo' 107 3 vN ns.length (ns.flatMap ndC)) (hn : ns.length ≤ 12) (hok : NdOk ns) (h0 : nfF ls a ns = 0) :
    Calls Tryz.prog 46 #[vL, .int .i64 a, vN] w fun e w' => ∃ v, e = .returned (.tuple #[v, .int .i64 0]) ∧ w'.ownsRow w.heap.size 103 3 v ns.length ((planS ls a ns).flatMap ndC) ∧ Below w.heap.size w w' := by
  have HOK := Lib.hid (allOk h0)
  have H0 := Lib.hid h0
  obtain ⟨LA, m, lc, rfl⟩ := own_form hL
  obtain rfl := own_len hL
  obtain ⟨NA, m, nc, rfl⟩ := own_form hN
  obtain rfl := own_len hN
  have HL := Lib.hid hL
  have HN := Lib.hid hN
  have HD := Lib.hid hok
  clear hL hN h0 hok
  go_enter Tryz.func46, Tryz.ntmps46
  go_wp2_with fail
  refine (needsFault_any LA NA _ _ lc nc ls a ns _ (Lst.of_own HL.out) (by omega) hbd (Lst.of_own HN.out) HD.out (by omega)).mono ?_
  rintro e w1 ⟨rfl, b1⟩
  rw [H0.out]
  go_wp2_with fail
  refine (plan_any LA _ _ lc ls a _ ns _ (Lst.of_own (ownsRow_below HL.out b1)) (by omega) HOK.out.lk HOK.out.a0 HOK.out.a1 (ownsRow_below HN.out b1) hn HOK.out.nd).mono ?_
  rintro e w2 ⟨v, rfl, o2, b2⟩
  have HO := Lib.hid (ownsRow_base o2 b1.size)
  clear o2
  go_wp2_with fail
  go_ret2
  exact ⟨_, rfl, HO.out, bon b1 b2⟩
def SearchR (P : Int → Bool) (top : Int) (w : World) (g : Nat) (s7 s8 : Value) (wr : World) : Prop :=
  ∃ lo hi : Int, s7 = .int .i64 lo ∧ s8 = .int .i64 hi ∧ 100 ≤ lo ∧ lo ≤ hi ∧ hi ≤ top ∧ hi - lo ≤ g ∧ (∀ q, 100 ≤ q → q < lo → P q = true) ∧ (hi < 100001 → P hi = false) ∧ Below w.heap.size w wr
set_option maxRecDepth 100000 in
set_option maxHeartbeats 2000000 in
theorem Faster_ok (vL vN : Value) (lo lo' : Nat) (ls : List LinkD) (a : Int) (ns : List NeedD) (o : Option Int) (w : World) (hL : w.ownsRow lo 110 3 vL ls.length (ls.flatMap lkC)) (hm : ls.length ≤ 20) (hbd : LkBd ls)
    (hN : w.ownsRow lo' 107 3 vN ns.length (ns.flatMap ndC)) (hn : ns.length ≤ 12) (hok : NdOk ns) (h0 : nfF ls a ns = 0) (ho : FastIs ls a ns o) :
    Calls Tryz.prog 50 #[vL, .int .i64 a, vN] w fun e w' => e = .returned (.tuple #[.int .i64 (optZ o), .bool o.isSome, .int .i64 0]) ∧ Below w.heap.size w w' := by
  have HOK := Lib.hid (allOk h0)
  have hns : ∀ x ∈ ns, 0 ≤ x.2.1 := fun x hx => by have := ((allOk h0).nd.each x hx).1; omega
  have HONE := Lib.hid (fun o' (h : FastIs ls a ns o') => FastIs.one (allOk h0).lk (allOk h0).a1 hns ho h)
  have HMO := Lib.hid (fun p q (hp : 100 ≤ p) (hpq : p ≤ q) (h : lateB ls a ns q = true) => lateB_mono (allOk h0).lk hp hpq (allOk h0).a1 hns h)
  have H0 := Lib.hid h0
  obtain ⟨LA, m, lc, rfl⟩ := own_form hL
  obtain rfl := own_len hL
  obtain ⟨NA, m, nc, rfl⟩ := own_form hN
  obtain rfl := own_len hN
  have HL := Lib.hid hL
  have HN := Lib.hid hN
  have HD := Lib.hid hok
  clear hL hN h0 hok hns ho
  go_enter Tryz.func50, Tryz.ntmps50
  go_wp2_with fail
  refine (needsFault_any LA NA _ _ lc nc ls a ns _ (Lst.of_own HL.out) (by omega) hbd (Lst.of_own HN.out) HD.out (by omega)).mono ?_
  rintro e w1 ⟨rfl, b1⟩
  rw [H0.out]
  go_wp2_with fail
  refine (inTime_any _ _ _ _ ls a ns 100000 _ (ownsRow_below HL.out b1) hm HOK.out.lk HOK.out.a0 HOK.out.a1 (ownsRow_below HN.out b1) hn HOK.out.nd (by omega) (by omega)).mono ?_
  rintro e w2 ⟨rfl, b2⟩
  have B2 := bon b1 b2
  clear b1 b2
  rcases Bool.eq_false_or_eq_true (lateB ls a ns 100000) with hl | hl
  · have HR := Lib.hid (HONE.out none hl)
    rw [hl]
    clear hl
    go_wp2_with fail
    go_ret3
    exact ⟨by rw [HR.out]; rfl, B2⟩
  · have HLT := Lib.hid hl
    rw [hl]
    clear hl
    go_wp2_with fail
    go_loopg [10, 11, 12] 100000 (fun g s7 s8 _ wr => SearchR (lateB ls a ns) 100000 w g s7 s8 wr)
    case atStart => exact ⟨100, 100000, rfl, rfl, by omega, by omega, by omega, by omega, fun q h1 h2 => by omega, fun _ => HLT.out, B2⟩
    case round =>
      obtain ⟨l, hi, rfl, rfl, h1, h2, h3, h4, h5, h6, hb⟩ := hrel
      have H5 := Lib.hid h5
      have H6 := Lib.hid (h6 (by omega))
      clear h5 h6
      by_cases hlt : l < hi
      · have hm1 : l ≤ (l + hi) / 2 := by omega
        have hm2 : (l + hi) / 2 < hi := by omega
        go_wp2_with fail
        refine (inTime_any _ _ _ _ ls a ns ((l + hi) / 2) _ (ownsRow_below HL.out hb) hm HOK.out.lk HOK.out.a0 HOK.out.a1 (ownsRow_below HN.out hb) hn HOK.out.nd (by omega) (by omega)).mono ?_
        rintro e w3 ⟨rfl, b3⟩
        rcases Bool.eq_false_or_eq_true (lateB ls a ns ((l + hi) / 2)) with hl | hl
        · have HX := Lib.hid (show ∀ q, 100 ≤ q → q < (l + hi) / 2 + 1 → lateB ls a ns q = true from fun q h7 h8 => HMO.out q ((l + hi) / 2) h7 (by omega) hl)
          rw [hl]
          clear hl
          go_wp2_with fail
          go_roundg (hi - ((l + hi) / 2 + 1)).toNat
          case measure => omega
          case rel => exact ⟨(l + hi) / 2 + 1, hi, rfl, rfl, by omega, by omega, h3, by omega, HX.out, fun _ => H6.out, bon hb b3⟩
        · have HX := Lib.hid hl
          rw [hl]
          clear hl
          go_wp2_with fail
          go_roundg ((l + hi) / 2 - l).toNat
          case measure => omega
          case rel => exact ⟨l, (l + hi) / 2, rfl, rfl, h1, by omega, by omega, by omega, H5.out, fun _ => HX.out, bon hb b3⟩
      · obtain rfl : l = hi := by omega
        have HR := Lib.hid (HONE.out (some l) ⟨h1, h3, H6.out, H5.out⟩)
        go_wp2_with fail
        go_ret3
        exact ⟨by rw [HR.out]; rfl, hb⟩
theorem fast_is (ls : List LinkD) (a : Int) (ns : List NeedD) : ∃ o, FastIs ls a ns o := by
  have key : ∀ n : Nat, ∀ p : Int, 100 ≤ p → p + n = 100000 → (∀ q, 100 ≤ q → q < p → lateB ls a ns q = true) → ∃ o, FastIs ls a ns o := by
    intro n
    induction n with
    | zero =>
      intro p h1 h2 h3
      rcases Bool.eq_false_or_eq_true (lateB ls a ns 100000) with h | h
      · exact ⟨none, h⟩
      · exact ⟨some 100000, by omega, by omega, h, fun q h4 h5 => h3 q h4 (by omega)⟩
    | succ n ih =>
      intro p h1 h2 h3
      rcases Bool.eq_false_or_eq_true (lateB ls a ns p) with h | h
      · refine ih (p + 1) (by omega) (by omega) fun q h4 h5 => ?_
        rcases Int.lt_or_le q p with h6 | h6
        · exact h3 q h4 h6
        · rw [show q = p by omega]; exact h
      · exact ⟨some p, h1, by omega, h, h3⟩
  exact key 99900 100 (by omega) (by omega) (fun q h1 h2 => by omega)
attribute [local go_sem ↓] Go.wp_at_zero Go.wp_at_succ
def GoesLinks (b M : Nat) (w : World) (e : Ending) (w' : World) : Prop :=
  ∃ (v : Value) (ls : List LinkD), ls.length ≤ 4 ∧ LkBd ls ∧ e = .returned v ∧ w'.ownsRow w.heap.size 110 3 v ls.length (ls.flatMap lkC) ∧ Goes 25 b M 30 w w'
def GlRel (b M : Nat) (w : World) (n : Nat) (g : Nat) (out at_ i : Value) (wr : World) : Prop :=
  ∃ (k : Nat) (ls : List LinkD) (t : Int), k + g = n ∧ i = .int .i64 k ∧ at_ = .int .i64 t ∧ 0 ≤ t ∧ t ≤ 100 + 100 * k ∧ ls.length = k ∧ LkBd ls ∧ wr.ownsRow w.heap.size 110 3 out k (ls.flatMap lkC) ∧ Goes 25 b M (2 + 3 * k) w wr
theorem lkBd_snoc {ls : List LinkD} (h : LkBd ls) {a b s : Int} (ha : -1000000000000000 ≤ a ∧ a ≤ 1000000000000000) (hb : -1000000000000000 ≤ b ∧ b ≤ 1000000000000000) (hs : -1000000000000000 ≤ s ∧ s ≤ 1000000000000000) : LkBd (ls ++ [(a, b, s)]) := by
  intro x hx
  rcases List.mem_append.1 hx with hx | hx
  · exact h x hx
  · simp at hx; subst hx; exact ⟨ha, hb, hs⟩
theorem heap_new' (w : World) (o : Obj) (n : Nat) (hn : n = w.heap.size) : (w.alloc o).heap[n]? = some o := by subst hn; exact heap_alloc_new w o
structure LkSt (b M : Nat) (w : World) (g n c : Nat) (ls : List LinkD) (k : Nat) (wx : World) : Prop where
  own : wx.ownsRow w.heap.size 110 3 (.slice (some ⟨g, 0, none⟩) n c) n (ls.flatMap lkC)
  go : Goes 25 b M k w wx
section
variable {b M : Nat} {w : World} {g n c : Nat} {ls : List LinkD} {k j i : Nat} {wA wB : World}
theorem LkSt.goes (h : LkSt b M w g n c ls k wA) (hlt : b < w.heap.size) (hg : Goes 25 b (M + k) j wA wB) : LkSt b M w g n c ls (k + j) wB :=
  ⟨ownsRow_gb h.own hg.gb hlt, h.go.trans hg (Nat.le_refl _)⟩
theorem LkSt.alloc (h : LkSt b M w g n c ls k wA) (o : Obj) : LkSt b M w g n c ls k (wA.alloc o) := ⟨h.own.alloc o, h.go.alloc o⟩
theorem LkSt.drew (h : LkSt b M w g n c ls k wA) : LkSt b M w g n c ls k wA.drew := ⟨h.own, h.go.is, gb_drew h.go.gb⟩
theorem LkSt.cells (h : LkSt b M w g n c ls k wA) (hn : ls.length = n) {x0 x1 x2 : Int} (hx : ls[i]? = some (x0, x1, x2)) : wA.cell? ⟨g, i * 3, none⟩ = some (.int .i64 x0) ∧ wA.cell? ⟨g, i * 3 + 1, none⟩ = some (.int .i64 x1) ∧ wA.cell? ⟨g, i * 3 + 2, none⟩ = some (.int .i64 x2) ∧ g < wA.heap.size ∧ wA.frozen? ⟨g, i * 3, none⟩ = false ∧ wA.frozen? ⟨g, i * 3 + 1, none⟩ = false ∧ wA.frozen? ⟨g, i * 3 + 2, none⟩ = false := by
  subst hn
  obtain ⟨hi, hx⟩ := List.getElem?_eq_some_iff.1 hx
  obtain ⟨g2, o2, e2, hl, c0, c1, c2⟩ := (Lst.of_own h.own).link hi rfl
  simp only [Option.some.injEq, Addr.mk.injEq] at e2
  obtain ⟨rfl, rfl, _⟩ := e2
  simp only [Nat.zero_add, hx] at c0 c1 c2
  exact ⟨c0, c1, c2, hl, own_frozen h.own _, own_frozen h.own _, own_frozen h.own _⟩
theorem lkBd_set {ls : List LinkD} (h : LkBd ls) {x : LinkD} (hx : (-1000000000000000 ≤ x.1 ∧ x.1 ≤ 1000000000000000) ∧ (-1000000000000000 ≤ x.2.1 ∧ x.2.1 ≤ 1000000000000000) ∧ -1000000000000000 ≤ x.2.2 ∧ x.2.2 ≤ 1000000000000000) (i : Nat) : LkBd (ls.set i x) := by
  intro y hy
  rcases List.mem_or_eq_of_mem_set hy with h1 | rfl
  · exact h y h1
  · exact hx
theorem LkSt.stores (h : LkSt b M w g n c ls k wA) (hn : n = ls.length) (hi : i < ls.length) (hlt : b < w.heap.size) (hg : w.heap.size ≤ g) (p q s : Int) :
    LkSt b M w g n c (ls.set i (p, q, s)) k (((wA.setCell ⟨g, i * 3, none⟩ (.int .i64 p)).setCell ⟨g, i * 3 + 1, none⟩ (.int .i64 q)).setCell ⟨g, i * 3 + 2, none⟩ (.int .i64 s)) := by
  subst hn
  have o1 := (h.own.stored (i * 3) (.int .i64 p)).1
  have o2 := (o1.stored (i * 3 + 1) (.int .i64 q)).1
  have o3 := (o2.stored (i * 3 + 2) (.int .i64 s)).1
  have e1 := flatK_set (enc := lkC) (k := 3) (fun _ => rfl) ls i 0 (p, ls[i].2) (.int .i64 p) hi (by omega) rfl
  have e2 := flatK_set (enc := lkC) (k := 3) (fun _ => rfl) (ls.set i (p, ls[i].2)) i 1 (p, q, ls[i].2.2) (.int .i64 q) (by simpa using hi) (by omega) (by simp [lkC])
  have e3 := flatK_set (enc := lkC) (k := 3) (fun _ => rfl) ((ls.set i (p, ls[i].2)).set i (p, q, ls[i].2.2)) i 2 (p, q, s) (.int .i64 s) (by simpa using hi) (by omega) (by simp [lkC])
  rw [Nat.add_zero] at e1
  rw [e1, e2, e3, List.set_set, List.set_set] at o3
  exact ⟨o3, ((h.go.setCell hlt (p := ⟨g, i * 3, none⟩) hg _).setCell hlt (p := ⟨g, i * 3 + 1, none⟩) hg _).setCell hlt (p := ⟨g, i * 3 + 2, none⟩) hg _⟩
end
set_option maxRecDepth 100000 in
set_option maxHeartbeats 8000000 in
theorem glinks_any (b M : Nat) (w : World) (hs : IsStream 25 w b M) (hM : M ≤ 100000000000000) :
    Calls Tryz.prog 37 #[.pointer (some ⟨b, 0, none⟩)] w (GoesLinks b M w) := by
  have hlt := hs.lt
  obtain ⟨i0, hi, hz0, hz1, hz2⟩ := info_parts infoLink
  go_enter Tryz.func37, Tryz.ntmps37
  go_wp2_with fail
  refine (pick_any b M w.heap.size [0, 0, 5, 20] 4 4 _ 3 (hs.alloc _) (by omega) rfl (by omega) (by omega) (heap_alloc_new _ _) (by omega)).mono ?_
  rintro e w1 ⟨t0, ht, rfl, g1⟩
  have ht0 : 0 ≤ t0 ∧ t0 ≤ 20 := by simp at ht; omega
  obtain ⟨ta, tb⟩ := ht0
  have G1 := g1.of_alloc
  clear ht g1
  go_wp2_with fail
  refine (range_any b (M + 1) 0 4 _ G1.is (by omega) (by omega) (by omega) (by omega)).mono ?_
  rintro e w2 ⟨r, ⟨hr0, hr1⟩, rfl, g2⟩
  obtain ⟨n, rfl⟩ := Int.eq_ofNat_of_zero_le hr0
  have G2 := G1.trans g2 (Nat.le_refl _)
  clear G1 g2
  go_wp2_with fail
  go_loopg [3, 4, 5, 12] n (fun g out at_ _ i wr => GlRel b M w n g out at_ i wr)
  case atStart => exact ⟨0, [], t0, by omega, rfl, rfl, by omega, by omega, rfl, (fun x hx => by cases hx), World.ownsRow_nil _ _ _ _, G2⟩
  case round =>
    obtain ⟨k, ls, t, hk, rfl, rfl, hta, htb, hl, hbd, hown, hgo⟩ := hrel
    have HL := Lib.hid hl
    have HB := Lib.hid hbd
    have hz := hgo.gb.size
    clear hl hbd
    by_cases hg : gk = 0
    rotate_left
    · have HK := Lib.hid hk
      have hkn : k < n := by omega
      clear hk
      go_wp2_with fail
      refine (pick_any b (M + (2 + 3 * k)) wr.heap.size [1, 3, 10, 50] 4 4 _ 3 (hgo.is.alloc _) (by omega) rfl (by omega) (by omega) (heap_alloc_new _ _) (by omega)).mono ?_
      rintro e w3 ⟨d, hd, rfl, g3⟩
      have hd0 : 1 ≤ d ∧ d ≤ 50 := by simp at hd; omega
      obtain ⟨da, db⟩ := hd0
      have G3 := hgo.trans g3.of_alloc (Nat.le_refl _)
      have O3 := ownsRow_gb (hown.alloc (.cells (List.map (Value.int .i64) [1, 3, 10, 50]).toArray 3)) g3.gb hlt
      have z3 := G3.gb.size
      clear hd g3 hgo hown
      go_wp2_with fail
      refine (pick_any b (M + (2 + 3 * k + 1)) w3.heap.size [1, 2, 5, 10, 300] 5 5 _ 3 (G3.is.alloc _) (by omega) rfl (by omega) (by omega) (heap_alloc_new _ _) (by omega)).mono ?_
      rintro e w4 ⟨s, hd, rfl, g4⟩
      have hs0 : 1 ≤ s ∧ s ≤ 300 := by simp at hd; omega
      obtain ⟨sa, sb⟩ := hs0
      have G4 := G3.trans g4.of_alloc (Nat.le_refl _)
      have O4 := ownsRow_gb (O3.alloc (.cells (List.map (Value.int .i64) [1, 2, 5, 10, 300]).toArray 3)) g4.gb hlt
      have z4 := G4.gb.size
      clear hd g4 G3 O3 z3
      go_wp2_with (at_builtin; refine wpList_push (W := w4) (lo := w.heap.size) rfl _ _ 84 rfl 110 i0 _ 3 24 Tryz.underlying84 hi hz0 hz1 hz2 rfl (by decide) (by decide) _ _ _ rfl (Below.refl _ _) z4 O4 [.int .i64 t, .int .i64 (t + d), .int .i64 s] rfl rfl rfl rfl (by omega) ?_)
      intro v5 w5 O5 b5 _ _
      have G5 := G4.belowAt (Nat.le_refl _) hlt b5
      have HO5 := Lib.hid O5
      have z5 := G5.gb.size
      clear O4 O5 b5 G4
      go_wp2_with fail
      refine (pick_any b (M + (2 + 3 * k + 1 + 1)) w5.heap.size [0, 1, 10] 3 3 _ 3 (G5.is.alloc _) (by omega) rfl (by omega) (by omega) (heap_alloc_new _ _) (by omega)).mono ?_
      rintro e w6 ⟨d2, hd, rfl, g6⟩
      have hd2 : 0 ≤ d2 ∧ d2 ≤ 10 := by simp at hd; omega
      obtain ⟨dc, dd⟩ := hd2
      have G6 := G5.trans g6.of_alloc (Nat.le_refl _)
      have HO6 := Lib.hid (ownsRow_gb (HO5.out.alloc (.cells (List.map (Value.int .i64) [0, 1, 10]).toArray 3)) g6.gb hlt)
      clear hd g6 HO5 G5
      go_wp2_with fail
      go_roundg (gk - 1)
      case measure => omega
      case rel => exact ⟨k + 1, ls ++ [(t, t + d, s)], t + d + d2, by have := HK.out; omega, by go_num, rfl, by omega, by omega, by have := HL.out; simp [this], lkBd_snoc HB.out ⟨by omega, by omega⟩ ⟨by omega, by omega⟩ ⟨by omega, by omega⟩, by rw [List.flatMap_append]; exact HO6.out, G6.more (by omega)⟩
    · obtain rfl : k = n := by omega
      have HEND : Hid (∀ (v : Value) (ls' : List LinkD) (w' : World), ls'.length = k → LkBd ls' → w'.ownsRow w.heap.size 110 3 v k (ls'.flatMap lkC) → Goes 25 b M 30 w w' → GoesLinks b M w (.returned v) w') := fun v ls' w' h1 h2 h3 h4 => ⟨v, ls', by omega, h2, rfl, by rw [h1]; exact h3, h4⟩
      clear hk
      by_cases hk0 : k = 0
      · subst hk0
        obtain ⟨A, m, c, rfl⟩ := own_form hown
        obtain rfl := own_len hown
        have HO := Lib.hid hown
        clear hown
        go_wp2_with fail
        go_ret
        exact HEND.out _ ls _ HL.out HB.out HO.out (hgo.more (by omega))
      · obtain ⟨A, m, c, rfl⟩ := own_form hown
        obtain rfl := (own_len hown).symm
        have hkp : 0 < k := by omega
        obtain ⟨g, rfl, hgb, hgl⟩ := own_at hown hkp
        clear hk0
        go_wp2_with fail
        refine (flip_any b (M + (2 + 3 * k)) 15 _ hgo.is (by omega) (by omega) (by omega)).mono ?_
        rintro e w3 ⟨fl, rfl, g3⟩
        have st : LkSt b M w g k c ls (2 + 3 * k + 1) w3 := (LkSt.mk hown hgo).goes hlt g3
        clear g3 hown hgo hgl
        cases fl
        · go_wp2_with fail
          go_ret
          exact HEND.out _ ls _ HL.out HB.out st.own (st.go.more (by omega))
        · go_wp2_with fail
          refine (next_any b (M + (2 + 3 * k + 1)) k _ st.go.is (by omega) (by omega) (by omega)).mono ?_
          rintro e w4 ⟨r, ⟨hi0, hi1⟩, rfl, g4⟩
          obtain ⟨i, rfl⟩ := Int.eq_ofNat_of_zero_le hi0
          have st4 := st.goes hlt g4
          have hik : i < k := by omega
          clear g4 st
          obtain ⟨⟨x0, x1, x2⟩, hx⟩ : ∃ x, ls[i]? = some x := ⟨_, List.getElem?_eq_getElem (by have := HL.out; omega)⟩
          have hbx := HB.out _ (List.mem_of_getElem? hx)
          obtain ⟨⟨e0, e1⟩, ⟨e2, e3⟩, e4, e5⟩ : (-1000000000000000 ≤ x0 ∧ x0 ≤ 1000000000000000) ∧ (-1000000000000000 ≤ x1 ∧ x1 ≤ 1000000000000000) ∧ -1000000000000000 ≤ x2 ∧ x2 ≤ 1000000000000000 := hbx
          have HX := Lib.hid hx
          clear hx
          obtain ⟨c0, c1, c2, hgl, f0, f1, f2⟩ := st4.cells HL.out HX.out
          have st := st4.drew
          clear st4
          have z4 : w.heap.size ≤ w4.heap.size := st.go.gb.size
          go_upto_region 11 with fail
          go_region_with (first
              | ((have hb5 := bk5; clear hb5; go_at_call 21; refine (pick_any b (M + (2 + 3 * k + 1 + 1 + 1)) _ [x1, 1, 345686400001, 345686400000] 4 4 _ 3 ?_ ?_ ?_ ?_ ?_ ?_ ?_).mono ?_; (first | exact st.go.is | exact st.go.is.alloc _); (omega); (rfl); (omega); (omega); (first | exact heap_new' _ _ _ (by simp) | exact (bk5.out _ (by simp <;> omega) (fun e => by injection e with e; omega)).trans (heap_new' _ _ _ (by simp)) | exact (bk5.out _ (by simp <;> omega) (fun e => by injection e with e; omega)).trans ((Below.heap_alloc _ _ _ (by simp)).trans (heap_new' _ _ _ (by simp)))); (omega); rintro e w6 ⟨p1, hp1, rfl, g6⟩; have st : LkSt b M w g k c ls (2 + 3 * k + 1 + 1 + 1 + 1) w6 := (by first | exact st.goes hlt g6 | exact (st.alloc _).goes hlt g6); have cc := st.cells HL.out HX.out; obtain ⟨c0, c1, c2, hgl, f0, f1, f2⟩ := cc))
              | ((go_at_call 21; refine (pick_any b (M + (2 + 3 * k + 1 + 1)) _ [x0, -1, 0] 3 3 _ 3 ?_ ?_ ?_ ?_ ?_ ?_ ?_).mono ?_; (first | exact st.go.is.alloc _ | exact (st.go.is.alloc _).alloc _); (omega); (rfl); (omega); (omega); (first | exact heap_new' _ _ _ (by simp) | exact (Below.heap_alloc _ _ _ (by simp)).trans (heap_new' _ _ _ (by simp))); (omega); rintro e w5 ⟨p0, hp0, rfl, g5⟩; have st : LkSt b M w g k c ls (2 + 3 * k + 1 + 1 + 1) w5 := (by first | exact (st.alloc _).goes hlt g5 | exact ((st.alloc _).alloc _).goes hlt g5); have cc := st.cells HL.out HX.out; obtain ⟨c0, c1, c2, hgl, f0, f1, f2⟩ := cc; have z5 : w4.heap.size ≤ w5.heap.size := (by have := g5.gb.size; simp at this; omega); have bk5 := Lib.hid g5.gb.block))
              | ((go_at_call 89; refine (odd_any b (M + (2 + 3 * k + 1 + 1 + 1 + 1)) _ _ _ st.go.is (by omega) (by omega) (by omega) (by omega)).mono ?_; rintro e w7 ⟨p2, ⟨hq0, hq1⟩, rfl, g7⟩; have st : LkSt b M w g k c ls (2 + 3 * k + 1 + 1 + 1 + 1 + 2) w7 := st.goes hlt g7; have cc := st.cells HL.out HX.out; obtain ⟨c0, c1, c2, hgl, f0, f1, f2⟩ := cc)))
          all_goals
            have hp0' : -1000000000000000 ≤ p0 ∧ p0 ≤ 1000000000000000 := by simp at hp0; omega
            have hp1' : -1000000000000000 ≤ p1 ∧ p1 ≤ 1000000000000000 := by simp at hp1; omega
            have hp2' : -1000000000000000 ≤ p2 ∧ p2 ≤ 1000000000000000 := by omega
            have HS := Lib.hid (st.stores HL.out.symm (i := i) (by have := HL.out; omega) hlt hgb p0 p1 p2)
            clear st hp0 hp1
            go_wp2_with fail
            go_ret
            exact HEND.out _ (ls.set i (p0, p1, p2)) _ (by have := HL.out; simpa using this) (lkBd_set HB.out ⟨hp0', hp1', hp2'⟩ i) HS.out.own (HS.out.go.more (by omega))
open Go.RowKit
set_option linter.unusedVariables false
set_option linter.unusedSimpArgs false
def GoesNeeds (b M : Nat) (w : World) (e : Ending) (w' : World) : Prop :=
  ∃ (v : Value) (ns : List NeedD), ns.length ≤ 4 ∧ NdOk ns ∧ e = .returned v ∧ w'.ownsRow w.heap.size 107 3 v ns.length (ns.flatMap ndC) ∧ Goes 25 b M 30 w w'
def keysN : List ByteArray := [⟨#[100, 97]⟩, ⟨#[100, 98]⟩, ⟨#[100, 99]⟩, ⟨#[100, 100]⟩]
def GnRel (b M : Nat) (w : World) (n : Nat) (g : Nat) (out i : Value) (wr : World) : Prop :=
  ∃ (k : Nat) (ns : List NeedD), k + g = n ∧ i = .int .i64 k ∧ ns.length = k ∧ NdOk ns ∧ wr.heap[w.heap.size]? = some (.cells (keysN.map Value.string).toArray 9 (0, 0)) ∧ wr.ownsRow (w.heap.size + 1) 107 3 out k (ns.flatMap ndC) ∧ Goes 25 b M (1 + 2 * k) w wr
theorem ndOk_snoc {ns : List NeedD} (h : NdOk ns) {x : NeedD} (hx : x.1.size ≤ 1000000000000 ∧ (-1000000000000000 ≤ x.2.1 ∧ x.2.1 ≤ 1000000000000000) ∧ -1000000000000000 ≤ x.2.2 ∧ x.2.2 ≤ 1000000000000000) : NdOk (ns ++ [x]) := by
  intro y hy
  rcases List.mem_append.1 hy with hy | hy
  · exact h y hy
  · simp at hy; subst hy; exact hx
theorem ndOk_set {ns : List NeedD} (h : NdOk ns) {x : NeedD} (hx : x.1.size ≤ 1000000000000 ∧ (-1000000000000000 ≤ x.2.1 ∧ x.2.1 ≤ 1000000000000000) ∧ -1000000000000000 ≤ x.2.2 ∧ x.2.2 ≤ 1000000000000000) (i : Nat) : NdOk (ns.set i x) := by
  intro y hy
  rcases List.mem_or_eq_of_mem_set hy with h1 | rfl
  · exact h y h1
  · exact hx
theorem keysN_at {w : World} {p : Nat} (h : w.heap[p]? = some (.cells (keysN.map Value.string).toArray 9 (0, 0))) {k : Nat} (hk : k < 4) : ∃ s : ByteArray, s.size ≤ 2 ∧ w.cell? ⟨p, k, none⟩ = some (.string s) := by
  have h4 : k < keysN.length := hk
  refine ⟨keysN[k], ?_, by simp [World.cell?, h, h4]⟩
  have := List.all_eq_true.1 (show keysN.all (fun r => decide (r.size ≤ 2)) = true by decide) _ (List.getElem_mem h4)
  simpa using this
theorem own_need {w : World} {base g n c i : Nat} {ns : List NeedD} (h : w.ownsRow base 107 3 (.slice (some ⟨g, 0, none⟩) n c) n (ns.flatMap ndC)) (hn : ns.length = n) {x0 : ByteArray} {x1 x2 : Int} (hx : ns[i]? = some (x0, x1, x2)) :
    w.cell? ⟨g, i * 3, none⟩ = some (.string x0) ∧ w.cell? ⟨g, i * 3 + 1, none⟩ = some (.int .i64 x1) ∧ w.cell? ⟨g, i * 3 + 2, none⟩ = some (.int .i64 x2) ∧ g < w.heap.size ∧ w.frozen? ⟨g, i * 3, none⟩ = false ∧ w.frozen? ⟨g, i * 3 + 1, none⟩ = false ∧ w.frozen? ⟨g, i * 3 + 2, none⟩ = false := by
  subst hn
  obtain ⟨hi, hx⟩ := List.getElem?_eq_some_iff.1 hx
  obtain ⟨g2, o2, e2, hl, c0, c1, c2⟩ := (Lst.of_own h).need hi rfl
  simp only [Option.some.injEq, Addr.mk.injEq] at e2
  obtain ⟨rfl, rfl, _⟩ := e2
  simp only [Nat.zero_add, hx] at c0 c1 c2
  exact ⟨c0, c1, c2, hl, own_frozen h _, own_frozen h _, own_frozen h _⟩
theorem own_need3 {w : World} {base g n c i : Nat} {ns : List NeedD} (h : w.ownsRow base 107 3 (.slice (some ⟨g, 0, none⟩) n c) n (ns.flatMap ndC)) (hi : i < ns.length) (p : ByteArray) (q s : Int) :
    (((w.setCell ⟨g, i * 3, none⟩ (.string p)).setCell ⟨g, i * 3 + 1, none⟩ (.int .i64 q)).setCell ⟨g, i * 3 + 2, none⟩ (.int .i64 s)).ownsRow base 107 3 (.slice (some ⟨g, 0, none⟩) n c) n ((ns.set i (p, q, s)).flatMap ndC) := by
  have o1 := (h.stored (i * 3) (.string p)).1
  have o2 := (o1.stored (i * 3 + 1) (.int .i64 q)).1
  have o3 := (o2.stored (i * 3 + 2) (.int .i64 s)).1
  have e1 := flatK_set (enc := ndC) (k := 3) (fun _ => rfl) ns i 0 (p, ns[i].2) (.string p) hi (by omega) rfl
  have e2 := flatK_set (enc := ndC) (k := 3) (fun _ => rfl) (ns.set i (p, ns[i].2)) i 1 (p, q, ns[i].2.2) (.int .i64 q) (by simpa using hi) (by omega) (by simp [ndC])
  have e3 := flatK_set (enc := ndC) (k := 3) (fun _ => rfl) ((ns.set i (p, ns[i].2)).set i (p, q, ns[i].2.2)) i 2 (p, q, s) (.int .i64 s) (by simpa using hi) (by omega) (by simp [ndC])
  rw [Nat.add_zero] at e1
  rw [e1, e2, e3, List.set_set, List.set_set] at o3
  exact o3
set_option maxRecDepth 100000 in
set_option maxHeartbeats 4000000 in
theorem gneeds_any (b M : Nat) (w : World) (hs : IsStream 25 w b M) (hM : M ≤ 100000000000000) :
    Calls Tryz.prog 44 #[.pointer (some ⟨b, 0, none⟩)] w (GoesNeeds b M w) := by
  have hlt := hs.lt
  obtain ⟨i0, hi, hz0, hz1, hz2⟩ := info_parts infoNeed
  go_enter Tryz.func44, Tryz.ntmps44
  go_wp2_with fail
  refine (range_any b M 0 4 _ (hs.alloc _) (by omega) (by omega) (by omega) (by omega)).mono ?_
  rintro e w1 ⟨r, ⟨hr0, hr1⟩, rfl, g1⟩
  obtain ⟨n, rfl⟩ := Int.eq_ofNat_of_zero_le hr0
  have hR : w1.heap[w.heap.size]? = some (.cells (keysN.map Value.string).toArray 9 (0, 0)) := (g1.gb.block w.heap.size (by simp) (fun e => by injection e with e; omega)).trans (heap_alloc_new w _)
  have HR := Lib.hid hR
  have G1 := g1.of_alloc
  have hn4 : n ≤ 4 := by omega
  have hn4' : (n : Int) ≤ 4 := by omega
  clear g1 hR
  go_wp2_with fail
  go_loopg [3, 5, 12] n (fun g out _ i wr => GnRel b M w n g out i wr)
  case atStart => exact ⟨0, [], by omega, rfl, rfl, (fun x hx => by cases hx), HR.out, World.ownsRow_nil _ _ _ _, G1⟩
  case round =>
    obtain ⟨k, ns, hk, rfl, hl, hok, hR, hown, hgo⟩ := hrel
    have HL := Lib.hid hl
    have HB := Lib.hid hok
    have HR := Lib.hid hR
    have hz := hgo.gb.size
    have hRl := block_lt hR
    clear hl hok hR
    by_cases hg : gk = 0
    rotate_left
    · have HK := Lib.hid hk
      have hkn : k < n := by omega
      obtain ⟨key, hks, ck⟩ := keysN_at HR.out (show k < 4 by omega)
      clear hk
      go_wp2_with fail
      refine (pick_any b (M + (1 + 2 * k)) wr.heap.size [1, 5, 20, 100] 4 4 _ 3 (hgo.is.alloc _) (by omega) rfl (by omega) (by omega) (heap_alloc_new _ _) (by omega)).mono ?_
      rintro e w3 ⟨d, hd, rfl, g3⟩
      have hd0 : 1 ≤ d ∧ d ≤ 100 := by simp at hd; omega
      have G3 := hgo.trans g3.of_alloc (Nat.le_refl _)
      have O3 := ownsRow_gb (hown.alloc (.cells (List.map (Value.int .i64) [1, 5, 20, 100]).toArray 3)) g3.gb (by omega)
      have R3 := Lib.hid ((g3.gb.block w.heap.size (by simp; omega) (fun e => by injection e with e; omega)).trans ((Below.heap_alloc wr _ w.heap.size hRl).trans HR.out))
      have z3 := G3.gb.size
      clear hd g3 hgo hown ck HR
      go_wp2_with fail
      refine (pick_any b (M + (1 + 2 * k + 1)) w3.heap.size [0, 3, 10, 10, 40, 100, 345686400000] 7 7 _ 3 (G3.is.alloc _) (by omega) rfl (by omega) (by omega) (heap_alloc_new _ _) (by omega)).mono ?_
      rintro e w4 ⟨s, hd, rfl, g4⟩
      have hs0 : 0 ≤ s ∧ s ≤ 345686400000 := by simp at hd; omega
      have G4 := G3.trans g4.of_alloc (Nat.le_refl _)
      have O4 := ownsRow_gb (O3.alloc (.cells (List.map (Value.int .i64) [0, 3, 10, 10, 40, 100, 345686400000]).toArray 3)) g4.gb (by omega)
      have rl3 := block_lt R3.out
      have R4 := Lib.hid ((g4.gb.block w.heap.size (by simp; omega) (fun e => by injection e with e; omega)).trans ((Below.heap_alloc w3 _ w.heap.size rl3).trans R3.out))
      have z4 := G4.gb.size
      have rl4 := block_lt R4.out
      clear hd g4 G3 O3 z3 R3
      go_wp2_with (at_builtin; refine wpList_push (W := w4) (lo := w.heap.size + 1) rfl _ _ 95 rfl 107 i0 _ 3 32 Tryz.underlying95 hi hz0 hz1 hz2 rfl (by decide) (by decide) _ _ _ rfl (Below.refl _ _) (by omega) O4 [.string key, .int .i64 d, .int .i64 s] rfl rfl rfl rfl (by omega) ?_)
      intro v5 w5 O5 b5 _ _
      have G5 := G4.belowAt (Nat.le_succ _) (by omega) b5
      have R5 := Lib.hid ((b5.block w.heap.size (by omega)).trans R4.out)
      have HO5 := Lib.hid O5
      clear O4 O5 b5 G4 R4
      go_wp2_with fail
      go_roundg (gk - 1)
      case measure => omega
      case rel => exact ⟨k + 1, ns ++ [(key, d, s)], by have := HK.out; omega, by go_num, by have := HL.out; simp [this], ndOk_snoc HB.out ⟨by show key.size ≤ _; omega, ⟨by show _ ≤ d; omega, by show d ≤ _; omega⟩, by show _ ≤ s; omega, by show s ≤ _; omega⟩, R5.out, by rw [List.flatMap_append]; exact HO5.out, G5.more (by omega)⟩
    · obtain rfl : k = n := by omega
      have hown := ownsRow_base hown (Nat.le_succ w.heap.size)
      have HEND : Hid (∀ (v : Value) (ns' : List NeedD) (w' : World), ns'.length = k → NdOk ns' → w'.ownsRow w.heap.size 107 3 v k (ns'.flatMap ndC) → Goes 25 b M 30 w w' → GoesNeeds b M w (.returned v) w') := fun v ns' w' h1 h2 h3 h4 => ⟨v, ns', by omega, h2, rfl, by rw [h1]; exact h3, h4⟩
      clear hk HR
      by_cases hk0 : k = 0
      · subst hk0
        obtain ⟨A, m, c, rfl⟩ := own_form hown
        obtain rfl := own_len hown
        have HO := Lib.hid hown
        clear hown
        go_wp2_with fail
        go_ret
        exact HEND.out _ ns _ HL.out HB.out HO.out (hgo.more (by omega))
      · obtain ⟨A, m, c, rfl⟩ := own_form hown
        obtain rfl := (own_len hown).symm
        have hkp : 0 < k := by omega
        obtain ⟨g, rfl, hgb, hgl⟩ := own_at hown hkp
        clear hk0
        go_wp2_with fail
        refine (flip_any b (M + (1 + 2 * k)) 15 _ hgo.is (by omega) (by omega) (by omega)).mono ?_
        rintro e w3 ⟨fl, rfl, g3⟩
        have o3 := ownsRow_gb hown g3.gb hlt
        have G3 := hgo.trans g3 (Nat.le_refl _)
        clear g3 hown hgo hgl
        cases fl
        · go_wp2_with fail
          go_ret
          exact HEND.out _ ns _ HL.out HB.out o3 (G3.more (by omega))
        · go_wp2_with fail
          refine (next_any b (M + (1 + 2 * k + 1)) k _ G3.is (by omega) (by omega) (by omega)).mono ?_
          rintro e w4 ⟨r, ⟨hi0, hi1⟩, rfl, g4⟩
          obtain ⟨i, rfl⟩ := Int.eq_ofNat_of_zero_le hi0
          have o4 := ownsRow_gb o3 g4.gb hlt
          have G4 := G3.trans g4 (Nat.le_refl _)
          have hik : i < k := by omega
          have hiL : i < ns.length := by have := HL.out; omega
          have z4 := G4.gb.size
          clear g4 o3 G3
          obtain ⟨⟨x0, x1, x2⟩, hx⟩ : ∃ x, ns[i]? = some x := ⟨_, List.getElem?_eq_getElem hiL⟩
          obtain ⟨c0, c1, c2, hl4, _, _, _⟩ := own_need o4 HL.out hx
          have hbx : x0.size ≤ 1000000000000 := (HB.out _ (List.mem_of_getElem? hx)).1
          have HX := Lib.hid hx
          have HI := Lib.hid hiL
          clear hiL hx
          go_wp2_with fail
          refine (some_any b (M + (1 + 2 * k + 1 + 1)) w4.heap.size [x0, ⟨#[]⟩, ⟨#[100, 97]⟩] 3 3 _ 9 (G4.is.alloc _) (by omega) rfl (by omega) (by omega) (heap_alloc_new _ _) (by omega)).mono ?_
          rintro e w5 ⟨p0, hp0, rfl, g5⟩
          have o5 := ownsRow_gb (o4.alloc (.cells (List.map Value.string [x0, ⟨#[]⟩, ⟨#[100, 97]⟩]).toArray 9)) g5.gb hlt
          have G5 := G4.trans g5.of_alloc (Nat.le_refl _)
          have hp0' : p0.size ≤ 1000000000000 := by
            simp at hp0
            rcases hp0 with rfl | rfl | rfl
            · exact hbx
            · decide
            · decide
          clear g5 o4 G4 hp0 c0 c1 c2 hl4
          go_wp2_with fail
          refine (odd_any b (M + (1 + 2 * k + 1 + 1 + 1)) _ _ _ G5.is (by omega) (by omega) (by omega) (by omega)).mono ?_
          rintro e w6 ⟨p1, ⟨q0, q1⟩, rfl, g6⟩
          have o6 := ownsRow_gb o5 g6.gb hlt
          have G6 := G5.trans g6 (Nat.le_refl _)
          clear g6 o5 G5
          go_wp2_with fail
          refine (odd_any b (M + (1 + 2 * k + 1 + 1 + 1 + 2)) _ _ _ G6.is (by omega) (by omega) (by omega) (by omega)).mono ?_
          rintro e w7 ⟨p2, ⟨q2, q3⟩, rfl, g7⟩
          have o7 := ownsRow_gb o6 g7.gb hlt
          have G7 := G6.trans g7 (Nat.le_refl _)
          clear g7 o6 G6
          obtain ⟨c0, c1, c2, hl7, f0, f1, f2⟩ := own_need o7 HL.out HX.out
          have HO := Lib.hid (own_need3 o7 HI.out p0 p1 p2)
          have HG := Lib.hid (((G7.setCell hlt (p := ⟨g, i * 3, none⟩) hgb (.string p0)).setCell hlt (p := ⟨g, i * 3 + 1, none⟩) hgb (.int .i64 p1)).setCell hlt (p := ⟨g, i * 3 + 2, none⟩) hgb (.int .i64 p2))
          clear o7 G7
          go_wp2_with fail
          go_ret
          exact HEND.out _ (ns.set i (p0, p1, p2)) _ (by have := HL.out; simpa using this) (ndOk_set HB.out ⟨hp0', ⟨by show _ ≤ p1; omega, by show p1 ≤ _; omega⟩, by show _ ≤ p2; omega, by show p2 ≤ _; omega⟩ i) HO.out (HG.out.more (by omega))
open Go
section
variable {P : Program} {ops : Array Oper} {Q : Exit → Act → World → Prop} {md : Region.Mode} {S : World → Prop} {late : Nat → Bool}
def wpLate (P : Program) (md : Region.Mode) (ops : Array Oper) (Q : Exit → Act → World → Prop) (S : World → Prop) (late : Nat → Bool) : Nat → Array Bool → Act → World → Prop
  | 0, listed, a, w => Region.ready md ops listed = [] ∧ Q .normal a w
  | fuel + 1, listed, a, w =>
    (Region.ready md ops listed = [] → Q .normal a w) ∧
    ∀ i ∈ Region.ready md ops listed, wpOp P ops Q i (fun a' w' => (late i = false → S w → S w') ∧ wpLate P md ops Q S late fuel (listed.setIfInBounds i true) a' w') a w
theorem wpAny_of_late : ∀ (fuel : Nat) (listed : Array Bool) (a : Act) (w : World), wpLate P md ops Q S late fuel listed a w → wpAny P md ops Q fuel listed a w
  | 0, _, _, _, h => h
  | fuel + 1, _, _, _, h => ⟨h.1, fun i hi => wpOp_mono (fun a' w' h' => wpAny_of_late fuel _ a' w' h'.2) (h.2 i hi)⟩
theorem wpLate_first {i : Nat} {oi : Oper} {v : Value} (hi : ops[i]? = some oi) (hsel : ∀ (j : Nat) (o : Oper) cs b, ops[j]? = some o → o.op ≠ .select cs b)
    (hQ : ∀ c a w, Q (.panic c) (a.put oi.dst v) w → Q (.panic c) a w) (hlate : ∀ j oj, ops[j]? = some oj → late j = true → ∃ e ∈ oj.after, Region.binds md e = true ∧ e.on = i) :
    ∀ (fuel : Nat) (listed : Array Bool) (a : Act) (w : World),
      (∀ j oj, ops[j]? = some oj → j ≠ i → listed.getD j true = false → (∀ e ∈ oj.after, Region.binds md e = true → e.on ≠ i) → oi.apart ops oj = true) →
      i ∈ Region.ready md ops listed → YieldsIf P ops S oi v a → S w →
      wpLate P md ops Q S late fuel (listed.setIfInBounds i true) (a.put oi.dst v) w → wpLate P md ops Q S late (fuel + 1) listed a w := by
  intro fuel
  induction fuel with
  | zero =>
    intro listed a w _ hr hy hS H
    refine ⟨fun h => (by rw [h] at hr; cases hr), fun j hj => ?_⟩
    by_cases hji : j = i
    · subst hji; exact hy.wpOp hi hS ⟨fun _ h => h, H⟩
    · have := ready_mono hj hji
      rw [H.1] at this
      cases this
  | succ fuel ih =>
    intro listed a w hfree hr hy hS H
    refine ⟨fun h => (by rw [h] at hr; cases hr), fun j hj => ?_⟩
    by_cases hji : j = i
    · subst hji; exact hy.wpOp hi hS ⟨fun _ h => h, H⟩
    · have h1 := H.2 j (ready_mono hj hji)
      obtain ⟨hjun, oj, hoj, hall⟩ := mem_ready.1 hj
      have hnot : ∀ e ∈ oj.after, Region.binds md e = true → e.on ≠ i := fun e he hb heq => by
        have h1 := hall e he hb
        have h0 := (mem_ready.1 hr).1
        rw [heq] at h1
        rcases Nat.lt_or_ge i listed.size with h' | h'
        · simp [h'] at h0 h1; rw [h0] at h1; cases h1
        · simp [Array.getElem?_eq_none h'] at h1
      have hjl : late j = false := by
        cases hl : late j with
        | false => rfl
        | true =>
          obtain ⟨e, he, hb, heq⟩ := hlate j oj hoj hl
          exact absurd heq (hnot e he hb)
      have h2 := wpOp_putIf hoj (hfree j oj hoj hji hjun hnot) (fun cs b => hsel i oi cs b hi) (fun cs b => hsel j oj cs b hoj) hQ hy h1
      have hfree' : ∀ k ok, ops[k]? = some ok → k ≠ i → (listed.setIfInBounds j true).getD k true = false →
          (∀ e ∈ ok.after, Region.binds md e = true → e.on ≠ i) → oi.apart ops ok = true := fun k ok hk hki hun hno => by
        refine hfree k ok hk hki ?_ hno
        by_cases hjk : j = k
        · subst hjk; exact hjun
        · rw [getD_set_ne true hjk] at hun; exact hun
      refine wpOp_mono (fun a' w' h3 => ⟨h3.2.1, ih (listed.setIfInBounds j true) a' w' hfree' (ready_mono hr (Ne.symm hji)) h3.1 (h3.2.1 hjl hS) ?_⟩) h2
      rw [Array.setIfInBounds_comm _ _ hji]
      exact h3.2.2
def rlateB (md : Region.Mode) (ops : Array Oper) (late : Nat → Bool) (i : Nat) : Bool := (List.range ops.size).all fun j => !late j || match ops[j]? with
  | some oj => oj.after.any fun e => Region.binds md e && e.on == i
  | none => true
theorem rlateB_spec {i : Nat} (h : rlateB md ops late i = true) : ∀ j oj, ops[j]? = some oj → late j = true → ∃ e ∈ oj.after, Region.binds md e = true ∧ e.on = i := by
  intro j oj hj hl
  simp only [rlateB, List.all_eq_true, List.mem_range] at h
  have h1 := h j (Array.getElem?_eq_some_iff.1 hj).1
  simp only [hl, hj, Bool.not_true, Bool.false_or, Array.any_eq_true] at h1
  obtain ⟨n, hn, h2⟩ := h1
  simp only [Bool.and_eq_true, beq_iff_eq] at h2
  exact ⟨oj.after[n], Array.getElem_mem hn, h2.1, h2.2⟩
theorem wpLate_take {i : Nat} {oi : Oper} {v : Value} {fuel : Nat} {listed : Array Bool} {a : Act} {w : World} (hi : ops[i]? = some oi)
    (hs : Region.noSelect ops = true) (hf : Region.free md ops listed i = true) (hr : (Region.ready md ops listed).contains i = true) (hl : rlateB md ops late i = true)
    (hQ : ∀ c a w, Q (.panic c) (a.put oi.dst v) w → Q (.panic c) a w) (hy : YieldsIf P ops S oi v a) (hS : S w)
    (h : wpLate P md ops Q S late fuel (listed.setIfInBounds i true) (a.put oi.dst v) w) : wpLate P md ops Q S late (fuel + 1) listed a w :=
  wpLate_first hi (Region.noSelect_spec hs) hQ (rlateB_spec hl) fuel listed a w (Region.free_spec hi hf) (by simpa using hr) hy hS h
theorem wpLate_firstP {i : Nat} {oi : Oper} {v : Value} (hi : ops[i]? = some oi) (hsel : ∀ (j : Nat) (o : Oper) cs b, ops[j]? = some o → o.op ≠ .select cs b)
    (hQ : ∀ c a w, Q (.panic c) (a.put oi.dst v) w → Q (.panic c) a w) :
    ∀ (fuel : Nat) (listed : Array Bool) (a : Act) (w : World),
      (∀ j oj, ops[j]? = some oj → j ≠ i → listed.getD j true = false → (∀ e ∈ oj.after, Region.binds md e = true → e.on ≠ i) → oi.apart ops oj = true) →
      i ∈ Region.ready md ops listed → YieldsIf P ops (fun _ => True) oi v a →
      wpLate P md ops Q S late fuel (listed.setIfInBounds i true) (a.put oi.dst v) w → wpLate P md ops Q S late (fuel + 1) listed a w := by
  intro fuel
  induction fuel with
  | zero =>
    intro listed a w _ hr hy H
    refine ⟨fun h => (by rw [h] at hr; cases hr), fun j hj => ?_⟩
    by_cases hji : j = i
    · subst hji; exact hy.wpOp hi trivial ⟨fun _ h => h, H⟩
    · have := ready_mono hj hji
      rw [H.1] at this
      cases this
  | succ fuel ih =>
    intro listed a w hfree hr hy H
    refine ⟨fun h => (by rw [h] at hr; cases hr), fun j hj => ?_⟩
    by_cases hji : j = i
    · subst hji; exact hy.wpOp hi trivial ⟨fun _ h => h, H⟩
    · have h1 := H.2 j (ready_mono hj hji)
      obtain ⟨hjun, oj, hoj, hall⟩ := mem_ready.1 hj
      have hnot : ∀ e ∈ oj.after, Region.binds md e = true → e.on ≠ i := fun e he hb heq => by
        have h1 := hall e he hb
        have h0 := (mem_ready.1 hr).1
        rw [heq] at h1
        rcases Nat.lt_or_ge i listed.size with h' | h'
        · simp [h'] at h0 h1; rw [h0] at h1; cases h1
        · simp [Array.getElem?_eq_none h'] at h1
      have h2 := wpOp_putIf hoj (hfree j oj hoj hji hjun hnot) (fun cs b => hsel i oi cs b hi) (fun cs b => hsel j oj cs b hoj) hQ hy h1
      have hfree' : ∀ k ok, ops[k]? = some ok → k ≠ i → (listed.setIfInBounds j true).getD k true = false →
          (∀ e ∈ ok.after, Region.binds md e = true → e.on ≠ i) → oi.apart ops ok = true := fun k ok hk hki hun hno => by
        refine hfree k ok hk hki ?_ hno
        by_cases hjk : j = k
        · subst hjk; exact hjun
        · rw [getD_set_ne true hjk] at hun; exact hun
      refine wpOp_mono (fun a' w' h3 => ⟨h3.2.1, ih (listed.setIfInBounds j true) a' w' hfree' (ready_mono hr (Ne.symm hji)) h3.1 ?_⟩) h2
      rw [Array.setIfInBounds_comm _ _ hji]
      exact h3.2.2
theorem wpLate_takeP {i : Nat} {oi : Oper} {v : Value} {fuel : Nat} {listed : Array Bool} {a : Act} {w : World} (hi : ops[i]? = some oi)
    (hs : Region.noSelect ops = true) (hf : Region.free md ops listed i = true) (hr : (Region.ready md ops listed).contains i = true)
    (hQ : ∀ c a w, Q (.panic c) (a.put oi.dst v) w → Q (.panic c) a w) (hy : YieldsIf P ops (fun _ => True) oi v a)
    (h : wpLate P md ops Q S late fuel (listed.setIfInBounds i true) (a.put oi.dst v) w) : wpLate P md ops Q S late (fuel + 1) listed a w :=
  wpLate_firstP hi (Region.noSelect_spec hs) hQ fuel listed a w (Region.free_spec hi hf) (by simpa using hr) hy h
theorem wpLate_done {listed : Array Bool} {a : Act} {w : World} (hr : Region.ready md ops listed = []) (h : Q .normal a w) : ∀ fuel, wpLate P md ops Q S late fuel listed a w
  | 0 => ⟨hr, h⟩
  | _ + 1 => ⟨fun _ => h, by rw [hr]; simp⟩
def AllLate (P : Program) (md : Region.Mode) (ops : Array Oper) (Q : Exit → Act → World → Prop) (S : World → Prop) (late : Nat → Bool) (fuel : Nat) (listed : Array Bool) (a : Act) (w : World) (rs : List Nat) : Prop :=
  ∀ i ∈ rs, wpOp P ops Q i (fun a' w' => (late i = false → S w → S w') ∧ wpLate P md ops Q S late fuel (listed.setIfInBounds i true) a' w') a w
theorem AllLate.nil {fuel : Nat} {listed : Array Bool} {a : Act} {w : World} : AllLate P md ops Q S late fuel listed a w [] := fun _ h => by cases h
theorem AllLate.cons {fuel : Nat} {listed : Array Bool} {a : Act} {w : World} {i : Nat} {o : Oper} {rs : List Nat} (ho : ops[i]? = some o)
    (h : ∀ K' : Act → World → Prop, (∀ a' w', (late i = false → S w → S w') → wpLate P md ops Q S late fuel (listed.setIfInBounds i true) a' w' → K' a' w') → if Region.wanted o (yielded ops a.tmps) = true then Oper.wp P o a w K' Q else K' (a.put o.dst undef) w)
    (hs : AllLate P md ops Q S late fuel listed a w rs) : AllLate P md ops Q S late fuel listed a w (i :: rs) := fun j hj => by
  rcases List.mem_cons.1 hj with rfl | hj
  · exact wpOp_step ho (fun K' hK => h K' (fun a' w' hS hW => hK a' w' ⟨hS, hW⟩))
  · exact hs j hj
theorem wpLate_ready {rs : List Nat} {fuel : Nat} {listed : Array Bool} {a : Act} {w : World} (hr : Region.ready md ops listed = rs) (hne : rs ≠ [])
    (h : AllLate P md ops Q S late fuel listed a w rs) : wpLate P md ops Q S late (fuel + 1) listed a w := ⟨fun h0 => absurd (hr ▸ h0) hne, hr ▸ h⟩
theorem wp_region_late (late : Nat → Bool) (S : World → Prop) {id : Nat} {a : Act} {w : World} (hm : P.follows .mixedOrders = true) (h : wpLate P .any ops Q S late ops.size (Array.replicate ops.size false) a w.drew) : (Code.region id ops true).wp P Q a w :=
  wp_region_any hm (wpAny_of_late _ _ _ _ h)
end
open Go.RowKit
set_option linter.unusedVariables false
set_option linter.unusedSimpArgs false
attribute [local go_sem ↓] Go.wp_at_zero Go.wp_at_succ
theorem infoInt : (Tryz.prog.info? 3).map (fun i => (i.zero, i.size, i.bytes)) = some (some (.int .i64 0), 1, 8) := by kernel_rfl
def natC (l : List Nat) : List Value := l.map fun (i : Nat) => Value.int .i64 (i : Int)
theorem natC_set (l : List Nat) (i x : Nat) : (natC l).set i (.int .i64 (x : Int)) = natC (l.set i x) := by
  unfold natC
  rw [List.map_set]
def swapL (l : List Nat) (i k : Nat) : List Nat := (l.set i (l.getD k 0)).set k (l.getD i 0)
theorem swap_perm (l : List Nat) {i k : Nat} (hi : i < l.length) (hk : k < l.length) : (swapL l i k).Perm l := by
  have e1 : l.getD k 0 = l[k] := by rw [List.getD_eq_getElem?_getD, List.getElem?_eq_getElem hk]; rfl
  have e2 : l.getD i 0 = l[i] := by rw [List.getD_eq_getElem?_getD, List.getElem?_eq_getElem hi]; rfl
  unfold swapL
  rw [e1, e2]
  exact Go.Sort.perm_set_set l i k hi hk
theorem natC_at {l : List Nat} {i : Nat} (h : i < l.length) : (natC l)[i]? = some (.int .i64 (l.getD i 0 : Nat)) := by
  unfold natC
  rw [List.getElem?_map, List.getElem?_eq_getElem h, List.getD_eq_getElem?_getD, List.getElem?_eq_getElem h]; rfl
theorem own_cellO {W : World} {lo og k c n j : Nat} {v : Value} {xs : List Value} {e size : Nat} (h : W.ownsRow lo e size (.slice (some ⟨og, 0, none⟩) k c) n xs) (hkn : k = n) (hj : xs[j]? = some v) : W.cell? ⟨og, j, none⟩ = some v := by
  subst hkn
  have hc := own_cells h j v hj
  have e : (⟨og, 0, none⟩ : Addr).add j = ⟨og, j, none⟩ := by unfold Addr.add; split <;> simp_all
  rw [e] at hc
  exact hc
structure OrSt (b M : Nat) (w : World) (og n c : Nat) (os : List Nat) (k : Nat) (W : World) : Prop where
  own : W.ownsRow w.heap.size 3 1 (.slice (some ⟨og, 0, none⟩) n c) n (natC os)
  go : Goes 25 b M k w W
section
variable {b M : Nat} {w : World} {og n c : Nat} {os : List Nat} {k j i q : Nat} {W W' : World}
theorem OrSt.drew (h : OrSt b M w og n c os k W) : OrSt b M w og n c os k W.drew := ⟨h.own, h.go.is, gb_drew h.go.gb⟩
theorem OrSt.goes (h : OrSt b M w og n c os k W) (hlt : b < w.heap.size) (hg : Goes 25 b (M + k) j W W') : OrSt b M w og n c os (k + j) W' :=
  ⟨ownsRow_gb h.own hg.gb hlt, h.go.trans hg (Nat.le_refl _)⟩
theorem OrSt.cell (h : OrSt b M w og n c os k W) (hi : i < os.length) : W.cell? ⟨og, i, none⟩ = some (.int .i64 (os.getD i 0 : Nat)) := own_cellO h.own rfl (natC_at hi)
theorem OrSt.set (h : OrSt b M w og n c os k W) (hlt : b < w.heap.size) (hog : w.heap.size ≤ og) (i x : Nat) : OrSt b M w og n c (os.set i x) k (W.setCell ⟨og, i, none⟩ (.int .i64 (x : Int))) :=
  ⟨by rw [← natC_set]; exact (h.own.stored i _).1, h.go.belowAt (Nat.le_refl _) hlt ((Below.refl _ _).setCell hog _)⟩
theorem OrSt.fr (h : OrSt b M w og n c os k W) (i : Nat) : W.frozen? ⟨og, i, none⟩ = false := own_frozen h.own i
end
def GoesOrder (b M n : Nat) (w : World) (e : Ending) (w' : World) : Prop :=
  ∃ (v : Value) (os : List Nat), e = .returned v ∧ os.Perm (List.range n) ∧ w'.ownsRow w.heap.size 3 1 v n (natC os) ∧ Goes 25 b M n w w'
def Or1 (b M n : Nat) (w : World) (g : Nat) (out i : Value) (wr : World) : Prop :=
  ∃ k : Nat, k + g = n ∧ i = .int .i64 k ∧ wr.ownsRow w.heap.size 3 1 out k (natC (List.range k)) ∧ Goes 25 b M 0 w wr
def Or2 (b M n : Nat) (w : World) (out : Value) (g : Nat) (i : Value) (wr : World) : Prop :=
  ∃ (z : Int) (os : List Nat), i = .int .i64 z ∧ (-1 ≤ z ∧ z < n) ∧ z ≤ g ∧ os.Perm (List.range n) ∧ wr.ownsRow w.heap.size 3 1 out n (natC os) ∧ Goes 25 b M (n - 1 - z).toNat w wr
theorem Or2.start {b M n : Nat} {w wr : World} {out : Value} (h : wr.ownsRow w.heap.size 3 1 out n (natC (List.range n))) (hg : Goes 25 b M 0 w wr) : Or2 b M n w out n (.int .i64 ((n : Int) - 1)) wr :=
  ⟨(n : Int) - 1, List.range n, rfl, ⟨by omega, by omega⟩, by omega, List.Perm.refl _, h, by rw [show ((n : Int) - 1 - ((n : Int) - 1)).toNat = 0 by omega]; exact hg⟩
set_option maxRecDepth 100000 in
set_option maxHeartbeats 1000000 in
theorem gorder_any (b M n : Nat) (w : World) (hs : IsStream 25 w b M) (hM : M ≤ 100000000000000) (hn : n ≤ 100) :
    Calls Tryz.prog 49 #[.pointer (some ⟨b, 0, none⟩), .int .i64 n] w (GoesOrder b M n w) := by
  have hlt := hs.lt
  obtain ⟨i0, hi, hz0, hz1, hz2⟩ := info_parts infoInt
  go_enter Tryz.func49, Tryz.ntmps49
  go_wp2_with fail
  go_loopg [5, 10, 6] n (fun g out i _ wr => Or1 b M n w g out i wr)
  case atStart => exact ⟨0, by omega, rfl, World.ownsRow_nil _ _ _ _, Goes.refl hs⟩
  case round =>
    obtain ⟨k, hk, rfl, hown, hgo⟩ := hrel
    by_cases hg : gk = 0
    · obtain rfl : k = n := by omega
      obtain ⟨A, m, c, rfl⟩ := own_form hown
      obtain rfl := own_len hown
      have HO := Lib.hid hown
      have HG := Lib.hid hgo
      clear hk hg hown hgo
      generalize wr.heap.size = pb at *
      go_wp2_with fail
      go_loopg [7, 8] m (fun g i _ wr => Or2 b M m w (.slice A m c) g i wr)
      case atStart => exact Or2.start HO.out HG.out
      case round =>
        obtain ⟨z, os, rfl, ⟨hi0, hi1⟩, hzg, hp, hown, hgo⟩ := hrel
        by_cases hz : z ≤ 0
        · clear hi1
          have HE := Lib.hid (show GoesOrder b M m w (.returned (.slice A m c)) wr from ⟨_, os, rfl, hp, hown, hgo.more (by omega)⟩)
          clear hp hown hgo hzg hi0
          go_wp2_with fail
          go_ret
          exact HE.out
        · obtain ⟨i, rfl⟩ := Int.eq_ofNat_of_zero_le (show 0 ≤ z by omega)
          have hz1 : (0 : Int) < (i : Int) := by omega
          obtain ⟨og, rfl, hog, hogl⟩ := own_at hown (by omega)
          have hol : os.length = m := by rw [hp.length_eq, List.length_range]
          have hi : i < os.length := by omega
          have HI := Lib.hid hi
          have HP := Lib.hid hp
          have hgg : ¬ gk = 0 := by omega
          have HZG := Lib.hid hzg
          have hM2 : M + (((m : Int) - 1 - (i : Int)).toNat) ≤ 4611686018427387904 := by omega
          generalize hq : ((m : Int) - 1 - (i : Int)).toNat = q at *
          have HQ := Lib.hid hq
          have st : OrSt b M w og m c os q wr := ⟨hown, hgo⟩
          have hi1' : (i : Int) < 100 := by omega
          clear hz hi0 hp hown hgo hzg hq hogl
          go_wp2_with fail
          refine (next_any b (M + q) ((i : Int) + 1) _ st.go.is hM2 (by omega) (by omega)).mono ?_
          rintro e w3 ⟨r, ⟨hr0, hr1⟩, rfl, g3⟩
          obtain ⟨k, rfl⟩ := Int.eq_ofNat_of_zero_le hr0
          have st := st.goes hlt g3
          have hk : k < os.length := by omega
          have HK := Lib.hid hk
          have HEND : Hid (∀ w' : World, OrSt b M w og m c (swapL os i k) (q + 1) w' → Or2 b M m w (.slice (some ⟨og, 0, none⟩) m c) (gk - 1) (.int .i64 ((i : Int) - 1)) w') := fun w' h => ⟨(i : Int) - 1, swapL os i k, rfl, ⟨by omega, by omega⟩, by have := HZG.out; omega, (swap_perm os hi hk).trans HP.out, by have := h.own; exact this, by have := h.go; rw [show ((m : Int) - 1 - ((i : Int) - 1)).toNat = q + 1 by have := HQ.out; omega]; exact this⟩
          have hkm : k < m := by omega
          have him : i < m := by omega
          clear g3 hr0 hr1 hi hk hol
          go_upto_region 11 with fail
          have sw := st
          clear st
          obtain ⟨xi, hxi⟩ : ∃ x, x = os.getD i 0 := ⟨_, rfl⟩
          obtain ⟨xk, hxk⟩ : ∃ x, x = os.getD k 0 := ⟨_, rfl⟩
          have ci : w3.cell? ⟨og, i, none⟩ = some (.int .i64 (xi : Nat)) := by rw [hxi]; exact sw.cell HI.out
          have ck : w3.cell? ⟨og, k, none⟩ = some (.int .i64 (xk : Nat)) := by rw [hxk]; exact sw.cell HK.out
          have fi := sw.fr i
          have fk := sw.fr k
          have HXI := Lib.hid hxi
          have HXK := Lib.hid hxk
          clear hxi hxk
          refine wp_region_late (fun j => j == 13 || j == 15) (fun w' => w'.cell? ⟨og, i, none⟩ = some (.int .i64 (xi : Nat)) ∧ w'.cell? ⟨og, k, none⟩ = some (.int .i64 (xk : Nat))) (by kernel_rfl) ?_
          refine wpLate_takeP (i := 0) (v := .slice (some ⟨og, 0, none⟩) m c) rfl (by kernel_rfl) (by kernel_rfl) (by kernel_rfl) (fun _ _ _ h => h) (Or.inl ⟨by rfl, fun _ _ => by go_simp⟩) ?_
          refine wpLate_takeP (i := 1) (v := .int .i64 i) rfl (by kernel_rfl) (by kernel_rfl) (by kernel_rfl) (fun _ _ _ h => h) (Or.inl ⟨by rfl, fun _ _ => by go_simp⟩) ?_
          refine wpLate_takeP (i := 2) (v := .slice (some ⟨og, 0, none⟩) m c) rfl (by kernel_rfl) (by kernel_rfl) (by kernel_rfl) (fun _ _ _ h => h) (Or.inl ⟨by rfl, fun _ _ => by go_simp⟩) ?_
          refine wpLate_takeP (i := 3) (v := .int .i64 k) rfl (by kernel_rfl) (by kernel_rfl) (by kernel_rfl) (fun _ _ _ h => h) (Or.inl ⟨by rfl, fun _ _ => by go_simp⟩) ?_
          refine wpLate_takeP (i := 4) (v := .slice (some ⟨og, 0, none⟩) m c) rfl (by kernel_rfl) (by kernel_rfl) (by kernel_rfl) (fun _ _ _ h => h) (Or.inl ⟨by rfl, fun _ _ => by go_simp⟩) ?_
          refine wpLate_takeP (i := 5) (v := .int .i64 k) rfl (by kernel_rfl) (by kernel_rfl) (by kernel_rfl) (fun _ _ _ h => h) (Or.inl ⟨by rfl, fun _ _ => by go_simp⟩) ?_
          refine wpLate_takeP (i := 6) (v := .pointer (some ⟨og, k, none⟩)) rfl (by kernel_rfl) (by kernel_rfl) (by kernel_rfl) (fun _ _ _ h => h) (Or.inl ⟨by rfl, fun _ _ => by go_simp⟩) ?_
          refine wpLate_takeP (i := 8) (v := .slice (some ⟨og, 0, none⟩) m c) rfl (by kernel_rfl) (by kernel_rfl) (by kernel_rfl) (fun _ _ _ h => h) (Or.inl ⟨by rfl, fun _ _ => by go_simp⟩) ?_
          refine wpLate_takeP (i := 9) (v := .int .i64 i) rfl (by kernel_rfl) (by kernel_rfl) (by kernel_rfl) (fun _ _ _ h => h) (Or.inl ⟨by rfl, fun _ _ => by go_simp⟩) ?_
          refine wpLate_takeP (i := 10) (v := .pointer (some ⟨og, i, none⟩)) rfl (by kernel_rfl) (by kernel_rfl) (by kernel_rfl) (fun _ _ _ h => h) (Or.inl ⟨by rfl, fun _ _ => by go_simp⟩) ?_
          refine wpLate_take (i := 7) (v := .int .i64 (xk : Nat)) rfl (by kernel_rfl) (by kernel_rfl) (by kernel_rfl) (by kernel_rfl) (fun _ _ _ h => h) (Or.inl ⟨by rfl, fun w' hw' => by obtain ⟨h1, h2⟩ := hw'; go_simp⟩) ⟨ci, ck⟩ ?_
          refine wpLate_take (i := 11) (v := .int .i64 (xi : Nat)) rfl (by kernel_rfl) (by kernel_rfl) (by kernel_rfl) (by kernel_rfl) (fun _ _ _ h => h) (Or.inl ⟨by rfl, fun w' hw' => by obtain ⟨h1, h2⟩ := hw'; go_simp⟩) ⟨ci, ck⟩ ?_
          refine wpLate_takeP (i := 12) (v := .pointer (some ⟨og, i, none⟩)) rfl (by kernel_rfl) (by kernel_rfl) (by kernel_rfl) (fun _ _ _ h => h) (Or.inl ⟨by rfl, fun _ _ => by go_simp⟩) ?_
          refine wpLate_ready (rs := [13]) (by kernel_rfl) (by simp) ?_
          refine AllLate.cons (i := 13) rfl (fun K hK => ?_) AllLate.nil
          go_simp
          refine hK _ _ (fun h => by cases h) ?_
          clear hK K ci ck
          obtain ⟨xz, hxz⟩ : ∃ x, x = (os.set i xk).getD k 0 := ⟨_, rfl⟩
          have ck := (sw.set hlt hog i xk).cell (i := k) (by simpa using HK.out)
          rw [← hxz] at ck
          clear hxz
          refine wpLate_takeP (i := 14) (v := .pointer (some ⟨og, k, none⟩)) rfl (by kernel_rfl) (by kernel_rfl) (by kernel_rfl) (fun _ _ _ h => h) (Or.inl ⟨by rfl, fun _ _ => by go_simp⟩) ?_
          refine wpLate_ready (rs := [15]) (by kernel_rfl) (by simp) ?_
          refine AllLate.cons (i := 15) rfl (fun K hK => ?_) AllLate.nil
          go_simp
          have st := ((sw.set hlt hog i xk).set hlt hog k xi).drew
          rw [show (os.set i xk).set k xi = swapL os i k by rw [HXI.out, HXK.out]; rfl] at st
          refine hK _ _ (fun h => by cases h) ?_
          clear hK K fk ck fi sw
          refine wpLate_done (by kernel_rfl) ?_ _
          have ST := Lib.hid st
          clear st
          go_wp2_with fail
          go_roundg (gk - 1)
          case measure => omega
          case rel => exact HEND.out _ ST.out
    · have hkn : k < n := by omega
      have HK := Lib.hid hk
      have hgk : gk ≠ 0 := hg
      have hsz := hgo.gb.size
      clear hk hg
      go_wp2_with (at_builtin; refine wpList_append_own _ rfl _ _ 22 rfl w.heap.size 3 i0 (.int .i64 0) 1 8 Tryz.underlying22 hi hz0 hz1 hz2 rfl (by decide) _ _ _ rfl (hown.alloc _) ⟨wr.heap.size, 0, none⟩ 1 1 [.int .i64 k] rfl rfl ?c1 ?c2 ?c3 ?c4 ?c5 ?_)
      case c1 => exact cells_new wr [.int .i64 k] _
      case c2 => intro u hu; simp at hu; subst hu; rfl
      case c3 => unfold maxLen; omega
      case c4 => omega
      case c5 => simp; omega
      intro v' w3 hown3 hgrow _
      have hgo3 := (hgo.alloc (.cells #[.int .i64 k] 3)).grown hgrow hlt (fun x hx => (hown.lt x hx).1)
      have HO3 := Lib.hid (show w3.ownsRow w.heap.size 3 1 v' (k + 1) (natC (List.range (k + 1))) by
        have := hown3
        rw [List.range_succ, natC, List.map_append]
        exact this)
      clear hown3 hgrow hown hgo
      go_wp2_with fail
      go_roundg (gk - 1)
      case measure => omega
      case rel => exact ⟨k + 1, by have := HK.out; omega, by go_num, HO3.out, hgo3⟩
end Go.Proofs.YtidkkmoiolffnaaGreatDoor
