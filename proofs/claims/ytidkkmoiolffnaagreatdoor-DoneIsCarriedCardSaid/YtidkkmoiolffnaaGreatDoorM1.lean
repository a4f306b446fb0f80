/- Lines that carry bytes: the plain law. Imports nothing of the program. -/
import Derived.WalkKit
import Derived.WalkSpells
import Derived.WalkLawsBesides
import Derived.Deep.QuietTactic
import Derived.BigQuiet
import Derived.Lib.Hide
import Derived.Test.YtidkkmoiolffnaaGreatDoorProg
import Derived.Test.YtidkkmoiolffnaaGreatDoorShelf
import Derived.Shelf.Strings.Builder1
import Derived.Deep.LoopGhost
import Derived.Deep.DeepCutAuto
import Derived.Deep.RegionHeld3
import Derived.Deep.AppendLies
import Derived.Deep.DrawnRows
import Derived.Deep.RegionLaw
import Derived.Maps.Own
import Derived.Maps.OwnOps
import Derived.Maps.OwnSet
import Derived.Deep.CutBlock
import Derived.Shelf.GgClosure.Gives
import Derived.Maps.Views
import Derived.Test.YtidkkmoiolffnaaGreatDoorAvRun
import Derived.Test.YtidkkmoiolffnaaGreatDoorAvTy
import Derived.Test.YtidkkmoiolffnaaGreatDoorAvFz
import Derived.Shelf.Strings.SlTrimAscii
import Derived.Test.YtidkkmoiolffnaaGreatDoorAvUn
namespace Go.Proofs.YtidkkmoiolffnaaGreatDoor
set_option linter.unusedVariables false
set_option linter.unusedSimpArgs false
abbrev zM10 : Option Tmp → Nat := mdL []
abbrev zM11 : Option Tmp → Nat := mdL [(65, 1)]
attribute [go_sem] zM10 zM11
abbrev LinkD := Int × Int × Int
def linC (x : LinkD) (a t : Int) : Int := x.2.2 * max 0 (min x.2.1 t - max x.1 a)
def car (ls : List LinkD) (a t : Int) : Int := (ls.map fun x => linC x a t).sum
theorem car_cons (x : LinkD) (r : List LinkD) (a t : Int) : car (x :: r) a t = linC x a t + car r a t := by simp [car]
def okLink (x : LinkD) : Prop := 0 ≤ x.1 ∧ x.1 < x.2.1 ∧ x.2.1 ≤ 345686400000 ∧ 1 ≤ x.2.2 ∧ x.2.2 ≤ 1000000
structure LinksOk (ls : List LinkD) : Prop where
  each : ∀ x ∈ ls, okLink x
  rise : ls.Pairwise fun x y => x.2.1 ≤ y.1
theorem LinksOk.tail {x : LinkD} {r : List LinkD} (h : LinksOk (x :: r)) : LinksOk r := ⟨fun y hy => h.each y (by simp [hy]), (List.pairwise_cons.1 h.rise).2⟩
theorem linC_zero {x : LinkD} {a t : Int} (h : t ≤ x.1) : linC x a t = 0 := by
  unfold linC
  rw [show max 0 (min x.2.1 t - max x.1 a) = 0 by omega, Int.mul_zero]
theorem car_zero {ls : List LinkD} {a t : Int} (h : ∀ x ∈ ls, t ≤ x.1) : car ls a t = 0 := by
  induction ls with
  | nil => rfl
  | cons x r ih => rw [car_cons, linC_zero (h x (by simp)), ih fun y hy => h y (by simp [hy])]; rfl
theorem linC_nonneg {x : LinkD} (h : okLink x) (a t : Int) : 0 ≤ linC x a t := Int.mul_nonneg (by have := h.2.2.2.1; omega) (by omega)
def canL (x : LinkD) (a : Int) : Int := max 0 (x.2.1 - max x.1 a) * x.2.2
theorem linC_le {x : LinkD} (h : okLink x) (a t : Int) : linC x a t ≤ canL x a := by
  unfold linC canL
  rw [Int.mul_comm]
  exact Int.mul_le_mul_of_nonneg_right (by omega) (by have := h.2.2.2.1; omega)
theorem linC_full {x : LinkD} {a t : Int} (h : x.2.1 ≤ t) : linC x a t = canL x a := by
  unfold linC canL
  rw [Int.mul_comm, show min x.2.1 t = x.2.1 by omega]
def doneL : List LinkD → Int → Int → Option Int
  | [], _, _ => none
  | x :: r, a, b => if b ≤ canL x a then some (max x.1 a + (b + x.2.2 - 1) / x.2.2) else doneL r a (b - canL x a)
def Tells (ls : List LinkD) (a b : Int) : Option Int → Prop
  | some t => a ≤ t ∧ t ≤ 345686400000 ∧ b ≤ car ls a t ∧ ∀ t', t' < t → car ls a t' < b
  | none => ∀ t, car ls a t < b
theorem doneL_tells {ls : List LinkD} (h : LinksOk ls) (a : Int) : ∀ {b : Int}, 0 < b → Tells ls a b (doneL ls a b) := by
  induction ls with
  | nil => intro b hb t; simpa [car] using hb
  | cons x r ih =>
    intro b hb
    have hx := h.each x (by simp)
    obtain ⟨x0, x1, x2, x3, x4⟩ := hx
    have hr : ∀ y ∈ r, x.2.1 ≤ y.1 := (List.pairwise_cons.1 h.rise).1
    unfold doneL
    by_cases hc : b ≤ canL x a
    · rw [if_pos hc]
      have hpos : max x.1 a < x.2.1 := by
        rcases Int.lt_or_le (max x.1 a) x.2.1 with h1 | h1
        · exact h1
        · unfold canL at hc
          rw [show max 0 (x.2.1 - max x.1 a) = 0 by omega, Int.zero_mul] at hc
          omega
      have e1 : x.2.2 * ((b + x.2.2 - 1) / x.2.2) ≤ b + x.2.2 - 1 := Int.mul_ediv_self_le (by omega)
      have e2 : b + x.2.2 - 1 < x.2.2 * ((b + x.2.2 - 1) / x.2.2) + x.2.2 := Int.lt_mul_ediv_self_add (by omega)
      have q0 : 0 ≤ (b + x.2.2 - 1) / x.2.2 := Int.ediv_nonneg (by omega) (by omega)
      generalize (b + x.2.2 - 1) / x.2.2 = q at *
      have hq : max x.1 a + q ≤ x.2.1 := by
        rcases Int.lt_or_le x.2.1 (max x.1 a + q) with h1 | h1
        · exfalso
          unfold canL at hc
          rw [show max 0 (x.2.1 - max x.1 a) = x.2.1 - max x.1 a by omega, Int.mul_comm] at hc
          have : x.2.2 * (x.2.1 - max x.1 a) ≤ x.2.2 * (q - 1) := Int.mul_le_mul_of_nonneg_left (by omega) (by omega)
          rw [Int.mul_sub, Int.mul_sub] at this
          rw [Int.mul_sub] at hc
          omega
        · exact h1
      refine ⟨by omega, by omega, ?_, fun t' ht => ?_⟩
      · rw [car_cons, car_zero fun y hy => by have := hr y hy; omega]
        unfold linC
        rw [show max 0 (min x.2.1 (max x.1 a + q) - max x.1 a) = q by omega]
        omega
      · rw [car_cons, car_zero fun y hy => by have := hr y hy; omega]
        unfold linC
        have : x.2.2 * max 0 (min x.2.1 t' - max x.1 a) ≤ x.2.2 * max 0 (q - 1) := Int.mul_le_mul_of_nonneg_left (by omega) (by omega)
        rcases Int.lt_or_le q 1 with h1 | h1
        · rw [show max 0 (q - 1) = 0 by omega, Int.mul_zero] at this; omega
        · rw [show max 0 (q - 1) = q - 1 by omega, Int.mul_sub] at this; omega
    · rw [if_neg hc]
      have ihr := ih h.tail (b := b - canL x a) (by omega)
      cases hd : doneL r a (b - canL x a) with
      | none =>
        rw [hd] at ihr
        intro t
        have := ihr t
        have := linC_le (h.each x (by simp)) a t
        rw [car_cons]; omega
      | some t =>
        rw [hd] at ihr
        obtain ⟨h1, h2, h3, h4⟩ := ihr
        refine ⟨h1, h2, ?_, fun t' ht => ?_⟩
        · have hge : x.2.1 ≤ t := by
            rcases Int.lt_or_le t x.2.1 with h5 | h5
            · exfalso
              rw [car_zero fun y hy => by have := hr y hy; omega] at h3
              omega
            · exact h5
          rw [car_cons, linC_full hge]; omega
        · have := h4 t' ht
          have := linC_le (h.each x (by simp)) a t'
          rw [car_cons]; omega
theorem linC_mono {x : LinkD} (h : okLink x) (a : Int) {t t' : Int} (ht : t ≤ t') : linC x a t ≤ linC x a t' := Int.mul_le_mul_of_nonneg_left (by omega) (by have := h.2.2.2.1; omega)
theorem car_mono {ls : List LinkD} (h : LinksOk ls) (a : Int) {t t' : Int} (ht : t ≤ t') : car ls a t ≤ car ls a t' := by
  induction ls with
  | nil => simp [car]
  | cons x r ih => rw [car_cons, car_cons]; have := linC_mono (h.each x (by simp)) a ht; have := ih h.tail; omega
open Go.RowKit
theorem gb_refl (w : World) (r : Option Nat) : w.grownBy w r := ⟨rfl, rfl, rfl, Nat.le_refl _, fun _ _ _ => rfl⟩
theorem gb_trans {a b c : World} {r : Option Nat} (h : a.grownBy b r) (k : b.grownBy c r) : a.grownBy c r :=
  ⟨k.os.trans h.os, k.tape.trans h.tape, k.output.trans h.output, Nat.le_trans h.size k.size, fun i hi hn => (k.block i (Nat.lt_of_lt_of_le hi h.size) hn).trans (h.block i hi hn)⟩
theorem gb_drewN {a w : World} {r : Option Nat} (h : a.grownBy w r) (n : Nat) : a.grownBy (w.drewN n) r := ⟨h.os, h.tape, h.output, h.size, h.block⟩
theorem gb_drew {a w : World} {r : Option Nat} (h : a.grownBy w r) : a.grownBy w.drew r := ⟨h.os, h.tape, h.output, h.size, h.block⟩
theorem gb_alloc {a w : World} {r : Option Nat} (h : a.grownBy w r) (o : Obj) : a.grownBy (w.alloc o) r :=
  ⟨h.os, h.tape, h.output, Nat.le_trans h.size (by simp), fun i hi hne => (Below.heap_alloc w o i (Nat.lt_of_lt_of_le hi h.size)).trans (h.block i hi hne)⟩
theorem gb_below {a w : World} (h : Below a.heap.size a w) (r : Option Nat) : a.grownBy w r := ⟨h.os, h.tape, h.output, h.size, fun i hi _ => h.block i hi⟩
theorem below_gb {W a w : World} {b : Nat} (h : Below W.heap.size W a) (g : a.grownBy w (some b)) (hb : W.heap.size ≤ b) : Below W.heap.size W w :=
  h.trans ⟨g.os, g.tape, g.output, g.size, fun k hk => g.block k (Nat.lt_of_lt_of_le hk h.size) (fun e => by injection e with e; omega)⟩
theorem below_drewN {B : Nat} {a w : World} (h : Below B a w) (n : Nat) : Below B a (w.drewN n) := ⟨h.os, h.tape, h.output, h.size, h.block⟩
def Lst (w : World) (lo size : Nat) (v : Value) (xs : List Value) : Prop :=
  ∃ (A : Option Addr) (n c : Nat), v = .slice A n c ∧ n ≤ c ∧ c ≤ maxLen ∧ xs.length = n * size ∧
    (0 < n → ∃ g o, A = some ⟨g, o, none⟩ ∧ lo ≤ g ∧ g < w.heap.size ∧ ∀ j u, xs[j]? = some u → w.cell? ⟨g, o + j, none⟩ = some u)
theorem Lst.mono {w : World} {lo lo' size : Nat} {v : Value} {xs : List Value} (h : Lst w lo size v xs) (hl : lo' ≤ lo) : Lst w lo' size v xs := by
  obtain ⟨A, n, c, hv, hn, hc, hx, hr⟩ := h
  exact ⟨A, n, c, hv, hn, hc, hx, fun h0 => let ⟨g, o, hA, hg, hlt, hcell⟩ := hr h0; ⟨g, o, hA, Nat.le_trans hl hg, hlt, hcell⟩⟩
theorem Lst.keep {w w' : World} {lo size : Nat} {v : Value} {xs : List Value} (h : Lst w lo size v xs) (hs : w.heap.size ≤ w'.heap.size)
    (hk : ∀ k, lo ≤ k → k < w.heap.size → w'.heap[k]? = w.heap[k]?) : Lst w' lo size v xs := by
  obtain ⟨A, n, c, hv, hn, hc, hx, hr⟩ := h
  refine ⟨A, n, c, hv, hn, hc, hx, fun h0 => ?_⟩
  obtain ⟨g, o, hA, hg, hlt, hcell⟩ := hr h0
  exact ⟨g, o, hA, hg, Nat.lt_of_lt_of_le hlt hs, fun j u hu => (World.cell?_of_block (w := w) (hk g hg hlt)).trans (hcell j u hu)⟩
theorem Lst.below {w w' : World} {lo size : Nat} {v : Value} {xs : List Value} (h : Lst w lo size v xs) (hb : Below w.heap.size w w') : Lst w' lo size v xs :=
  h.keep hb.size fun k _ hk => hb.block k hk
theorem Lst.grown {w w' : World} {lo size b : Nat} {v : Value} {xs : List Value} (h : Lst w lo size v xs) (hg : w.grownBy w' (some b)) (hb : b < lo) : Lst w' lo size v xs :=
  h.keep hg.size fun k hk hlt => hg.block k hlt (fun e => by injection e with e; omega)
theorem Lst.nil (w : World) (lo size : Nat) : Lst w lo size (.slice none 0 0) [] := ⟨none, 0, 0, rfl, Nat.le_refl _, Nat.zero_le _, by simp, fun h => absurd h (by omega)⟩
theorem Lst.of_own {w : World} {base size n : Nat} {e : TypeId} {v : Value} {xs : List Value} (h : w.ownsRow base e size v n xs) : Lst w base size v xs := by
  obtain ⟨hl, h2⟩ := h
  rcases h2 with ⟨rfl, rfl⟩ | ⟨g, cap, cur, rfl, hg, hh, hnc, hcm, hsz, hx⟩
  · have : xs = [] := List.eq_nil_of_length_eq_zero (by simpa using hl)
    subst this; exact Lst.nil w base size
  · refine ⟨_, n, cap, rfl, hnc, hcm, hl, fun h0 => ⟨g, 0, rfl, hg, ?_, fun j u hu => ?_⟩⟩
    · rcases Nat.lt_or_ge g w.heap.size with h | h
      · exact h
      · rw [Array.getElem?_eq_none h] at hh; cases hh
    · have hcur : cur[j]? = some u := by
        rw [← hx, List.getElem?_take] at hu
        split at hu
        · simpa using hu
        · cases hu
      simp [World.cell?, hh, hcur]
theorem Lst.at_ {w : World} {lo n c k : Nat} {A : Option Addr} {xs : List Value} (h : Lst w lo 1 (.slice A n c) xs) (hk : k < n) :
    ∃ g o u, A = some ⟨g, o, none⟩ ∧ lo ≤ g ∧ g < w.heap.size ∧ xs[k]? = some u ∧ w.cell? ⟨g, o + k, none⟩ = some u := by
  obtain ⟨A', n', c', hv, hn, hc, hx, hr⟩ := h
  simp only [Value.slice.injEq] at hv
  obtain ⟨rfl, rfl, rfl⟩ := hv
  obtain ⟨g, o, hA, hg, hlt, hcell⟩ := hr (by omega)
  have hl : k < xs.length := by omega
  exact ⟨g, o, xs[k], hA, hg, hlt, List.getElem?_eq_getElem hl, hcell k _ (List.getElem?_eq_getElem hl)⟩
theorem Lst.open_ {w : World} {lo size n c : Nat} {A : Option Addr} {xs : List Value} (h : Lst w lo size (.slice A n c) xs) (hk : 0 < n) :
    ∃ g o, A = some ⟨g, o, none⟩ ∧ lo ≤ g ∧ g < w.heap.size ∧ ∀ j u, xs[j]? = some u → w.cell? ⟨g, o + j, none⟩ = some u := by
  obtain ⟨A', n', c', hv, hn, hc, hx, hr⟩ := h
  simp only [Value.slice.injEq] at hv
  obtain ⟨rfl, rfl, rfl⟩ := hv
  exact hr hk
theorem Lst.form {w : World} {lo size : Nat} {v : Value} {xs : List Value} (h : Lst w lo size v xs) : ∃ A n c, v = .slice A n c ∧ n ≤ c ∧ c ≤ maxLen ∧ xs.length = n * size :=
  let ⟨A, n, c, hv, hn, hc, hx, _⟩ := h; ⟨A, n, c, hv, hn, hc, hx⟩
def IsStream (ts : TypeId) (w : World) (b M : Nat) : Prop :=
  ∃ (a : Option Addr) (len cap : Nat) (at_ : Nat), w.heap[b]? = some (.cells #[.slice a len cap, .int .i64 (at_ : Int)] ts (0, 0)) ∧ at_ ≤ M ∧ len ≤ 9223372036854775807 ∧
    (0 < len → ∃ x, a = some x ∧ x.block < b ∧ x.spot = none ∧ ∀ i, i < len → ∃ z : Int, w.cell? ⟨x.block, x.off + i, none⟩ = some (.int .i64 z))
theorem block_lt {w : World} {b : Nat} {o : Obj} (h : w.heap[b]? = some o) : b < w.heap.size := by
  rcases Nat.lt_or_ge b w.heap.size with hl | hl
  · exact hl
  · rw [Array.getElem?_eq_none hl] at h; cases h
theorem IsStream.lt {ts : TypeId} {w : World} {b M : Nat} (h : IsStream ts w b M) : b < w.heap.size := by
  obtain ⟨_, _, _, _, hh, _⟩ := h
  exact block_lt hh
theorem IsStream.below {ts : TypeId} {w w' : World} {b M : Nat} (h : IsStream ts w b M) (hb : Below w.heap.size w w') : IsStream ts w' b M := by
  have hlt := h.lt
  obtain ⟨a, len, cap, at_, hh, h1, h2, h3⟩ := h
  refine ⟨a, len, cap, at_, (hb.block b hlt).trans hh, h1, h2, fun h0 => ?_⟩
  obtain ⟨x, hx, hxb, hs, hc⟩ := h3 h0
  refine ⟨x, hx, hxb, hs, fun i hi => ?_⟩
  obtain ⟨z, hz⟩ := hc i hi
  exact ⟨z, (hb.cell (p := ⟨x.block, x.off + i, none⟩) (by show x.block < _; omega)).trans hz⟩
theorem IsStream.mono {ts : TypeId} {w : World} {b M M' : Nat} (h : IsStream ts w b M) (hM : M ≤ M') : IsStream ts w b M' := by
  obtain ⟨a, len, cap, at_, hh, h1, h2⟩ := h
  exact ⟨a, len, cap, at_, hh, by omega, h2⟩
theorem IsStream.alloc {ts : TypeId} {w : World} {b M : Nat} (h : IsStream ts w b M) (o : Obj) : IsStream ts (w.alloc o) b M :=
  h.below ((Below.refl _ _).alloc (Nat.le_refl _) o)
theorem IsStream.drewN {ts : TypeId} {w : World} {b M : Nat} (h : IsStream ts w b M) (n : Nat) : IsStream ts (w.drewN n) b M := h
theorem stream_cells {w : World} {b : Nat} {u v : Value} {t : TypeId} (h : w.heap[b]? = some (.cells #[u, v] t (0, 0))) :
    w.cell? ⟨b, 0, none⟩ = some u ∧ w.cell? ⟨b, 1, none⟩ = some v ∧ w.frozen? ⟨b, 0, none⟩ = false ∧ w.frozen? ⟨b, 1, none⟩ = false := by
  simp [World.cell?, World.frozen?, h]
theorem stream_set {w : World} {b : Nat} {u v v' : Value} {t : TypeId} (h : w.heap[b]? = some (.cells #[u, v] t (0, 0))) :
    (w.setCell ⟨b, 1, none⟩ v').heap[b]? = some (.cells #[u, v'] t (0, 0)) := by
  simp [World.setCell, Array.getElem?_modify, h]
def IsRow (k : IntKind) (w : World) (a : Option Addr) (len cap : Nat) (zs : List Int) : Prop :=
  (a = none ∧ len = 0 ∧ cap = 0 ∧ zs = []) ∨
  ∃ x, a = some x ∧ len ≤ cap ∧ cap ≤ maxLen ∧ zs.length = cap ∧ (∀ i, i < zs.length → w.cell? (x.add i) = some (.int k (zs.getD i 0))) ∧ ∀ n ∈ zs, (Lit.int k n).wf = true
theorem isStream_new {ts : TypeId} {w : World} {a : Option Addr} {len cap : Nat} {zs : List Int} (h : IsRow .i64 w a len cap zs) :
    IsStream ts (w.alloc (.cells #[.slice a len cap, .int .i64 0] ts)) w.heap.size 0 := by
  refine ⟨a, len, cap, 0, heap_alloc_new w _, Nat.le_refl _, ?_, fun h0 => ?_⟩
  · rcases h with ⟨_, rfl, _⟩ | ⟨_, _, hl, hm, _⟩
    · omega
    · unfold maxLen at hm; omega
  · rcases h with ⟨_, rfl, _⟩ | ⟨⟨b, o, sp⟩, rfl, hl, hm, hz, hc, _⟩
    · omega
    · have hc0 := hc 0 (by omega)
      have hsp : sp = none := by simpa [Addr.add] using World.cell?_spot hc0
      subst hsp
      have e : ∀ i, (⟨b, o, none⟩ : Addr).add i = ⟨b, o + i, none⟩ := fun i => by unfold Addr.add; split <;> simp_all
      refine ⟨_, rfl, ?_, rfl, fun i hi => ⟨zs.getD i 0, ?_⟩⟩
      · rw [e] at hc0; exact World.block_lt_of_cell? w _ hc0
      · have h1 := hc i (by omega)
        rw [e] at h1
        rw [World.cell?_alloc_lt _ _ _ (World.block_lt_of_cell? w _ h1)]
        exact h1
structure Goes (ts : TypeId) (b M k : Nat) (w w' : World) : Prop where
  is : IsStream ts w' b (M + k)
  gb : w.grownBy w' (some b)
theorem Goes.refl {ts : TypeId} {b M k : Nat} {w : World} (h : IsStream ts w b M) : Goes ts b M k w w := ⟨h.mono (by omega), gb_refl _ _⟩
theorem Goes.trans {ts : TypeId} {b M k j m : Nat} {w w1 w2 : World} (h : Goes ts b M k w w1) (h' : Goes ts b (M + k) j w1 w2) (hm : k + j ≤ m) : Goes ts b M m w w2 :=
  ⟨h'.is.mono (by omega), gb_trans h.gb h'.gb⟩
theorem Goes.more {ts : TypeId} {b M k k' : Nat} {w w1 : World} (h : Goes ts b M k w w1) (hk : k ≤ k') : Goes ts b M k' w w1 := ⟨h.is.mono (by omega), h.gb⟩
theorem Goes.below {ts : TypeId} {b M k : Nat} {w w1 w2 : World} (h : Goes ts b M k w w1) (hb : Below w1.heap.size w1 w2) : Goes ts b M k w w2 :=
  ⟨h.is.below hb, gb_trans h.gb (gb_below hb _)⟩
theorem Goes.alloc {ts : TypeId} {b M k : Nat} {w w1 : World} (h : Goes ts b M k w w1) (o : Obj) : Goes ts b M k w (w1.alloc o) := ⟨h.is.alloc o, gb_alloc h.gb o⟩
theorem Goes.of_alloc {ts : TypeId} {b M k : Nat} {w w1 : World} {o : Obj} (h : Goes ts b M k (w.alloc o) w1) : Goes ts b M k w w1 := ⟨h.is, gb_trans (gb_alloc (gb_refl w _) o) h.gb⟩
theorem Goes.drewN {ts : TypeId} {b M k : Nat} {w w1 : World} (h : Goes ts b M k w w1) (n : Nat) : Goes ts b M k w (w1.drewN n) := ⟨h.is, gb_drewN h.gb n⟩
theorem goes_set {ts : TypeId} {w : World} {b M len cap at_ : Nat} {a : Option Addr} {nq : Nat}
    (h : w.heap[b]? = some (.cells #[.slice a len cap, .int .i64 (at_ : Int)] ts (0, 0))) (hM : at_ ≤ M) (hl : len ≤ 9223372036854775807)
    (hz : 0 < len → ∃ x, a = some x ∧ x.block < b ∧ x.spot = none ∧ ∀ i, i < len → ∃ z : Int, w.cell? ⟨x.block, x.off + i, none⟩ = some (.int .i64 z)) :
    Goes ts b M 1 w ((w.setCell ⟨b, 1, none⟩ (.int .i64 ((at_ : Int) + 1))).drewN nq) := by
  refine ⟨⟨a, len, cap, at_ + 1, stream_set h, by omega, hl, fun h0 => ?_⟩, ⟨rfl, rfl, rfl, by simp [World.setCell, World.drewN], fun k hk hne => Below.heap_setCell _ _ _ _ (by intro e; exact hne (by rw [e]))⟩⟩
  obtain ⟨x, hx, hb, hs, hc⟩ := hz h0
  refine ⟨x, hx, hb, hs, fun i hi => ?_⟩
  obtain ⟨z, hzc⟩ := hc i hi
  refine ⟨z, ?_⟩
  rw [← hzc]
  exact World.cell?_of_block (w := w) (Below.heap_setCell _ _ _ _ (by show x.block ≠ b; omega))
def GoesInt (ts : TypeId) (b M k : Nat) (P : Int → Prop) (w : World) (e : Ending) (w' : World) : Prop := ∃ r : Int, P r ∧ e = .returned (.int .i64 r) ∧ Goes ts b M k w w'
def GoesBool (ts : TypeId) (b M k : Nat) (w : World) (e : Ending) (w' : World) : Prop := ∃ r : Bool, e = .returned (.bool r) ∧ Goes ts b M k w w'
theorem cell_new_list (w : World) (cs : Array Value) (t : TypeId) (i : Nat) (v : Value) (h : cs[i]? = some v) : (w.alloc (.cells cs t)).cell? ⟨w.heap.size, i, none⟩ = some v := by
  have h1 := heap_alloc_new w (.cells cs t)
  simp only [World.cell?, h1]
  exact h
theorem cells_new (w : World) (xs : List Value) (t : TypeId) : ∀ j u, xs[j]? = some u → (w.alloc (.cells xs.toArray t)).cell? ((⟨w.heap.size, 0, none⟩ : Addr).add j) = some u := by
  intro j u h
  have e : (⟨w.heap.size, 0, none⟩ : Addr).add j = ⟨w.heap.size, j, none⟩ := by unfold Addr.add; split <;> simp_all
  rw [e]
  exact cell_new_list w _ t j u (by simpa using h)
theorem ownsRow_base {w : World} {b b' size n : Nat} {e : TypeId} {v : Value} {xs : List Value} (h : w.ownsRow b e size v n xs) (hb : b' ≤ b) : w.ownsRow b' e size v n xs := by
  obtain ⟨hl, h2⟩ := h
  refine ⟨hl, ?_⟩
  rcases h2 with h2 | ⟨g, cap, cur, hv, hg, r⟩
  · exact .inl h2
  · exact .inr ⟨g, cap, cur, hv, Nat.le_trans hb hg, r⟩
theorem ownsRow_below {w w' : World} {b size n : Nat} {e : TypeId} {v : Value} {xs : List Value} (h : w.ownsRow b e size v n xs) (hb : Below w.heap.size w w') : w'.ownsRow b e size v n xs := by
  obtain ⟨hl, h2⟩ := h
  refine ⟨hl, ?_⟩
  rcases h2 with h2 | ⟨g, cap, cur, hv, hg, hh, r⟩
  · exact .inl h2
  · exact .inr ⟨g, cap, cur, hv, hg, (hb.block g (block_lt hh)).trans hh, r⟩
theorem ret_int {k : IntKind} {a b : Int} (h : a = b) : Ending.returned (.int k a) = .returned (.int k b) := by rw [h]
theorem bon {a b c : World} (h : Below a.heap.size a b) (k : Below b.heap.size b c) : Below a.heap.size a c := h.trans (k.mono h.size)
theorem bbox {a b : World} (h : Below a.heap.size a b) (o : Obj) : Below a.heap.size a (b.alloc o) := h.alloc h.size o
theorem bfirst (a : World) (o : Obj) : Below a.heap.size a (a.alloc o) := (Below.refl _ _).alloc (Nat.le_refl _) o
theorem bold {a b : World} (k : Below a.heap.size a b) {p : Addr} {v : Value} (h : a.cell? p = some v) : b.cell? p = some v :=
  (k.cell (World.block_lt_of_cell? a _ h)).trans h
theorem wpList_push {P : Program} {ops : Array Oper} {rest : List Oper} {o : Oper} {a : Act} {Q : Exit → Act → World → Prop} {W w0 w1 : World} {lo : Nat} (hgd : o.guard = none) (s x : Operand) (t : TypeId)
    (ho : o.op = .call { callee := .builtin .append, args := #[s, x], argTypes := #[t, t] })
    (e : TypeId) (i : TypeInfo) (z : Value) (size bytes : Nat) (ht : P.underlying t = some (.slice e)) (hi : P.info? e = some i) (hz : i.zero = some z)
    (hsize : i.size = size) (hby : i.bytes = bytes) (hzs : z.cells.size = size) (hsz : 0 < size) (hb64 : bytes ≤ 100)
    (v : Value) (n : Nat) (xs : List Value) (hs : a.eval s = v) (hB : Below lo W w0) (hlo : lo ≤ w0.heap.size) (hown : w0.ownsRow lo e size v n xs)
    (news : List Value) (hw1 : w1 = w0.alloc (.cells news.toArray e)) (hx : a.eval x = .slice (some ⟨w0.heap.size, 0, none⟩) 1 1) (hl : news.length = size) (h1 : news.all (·.oneCell') = true) (hn : n ≤ 1000000000000)
    (h : ∀ v' w', w'.ownsRow lo e size v' (n + 1) (xs ++ news) → Below lo W w' → w0.heap.size < w'.heap.size → w0.grownBy w' v.ownBlock → wpList P ops Q rest (a.put o.dst v') w') :
    wpList P ops Q (o :: rest) a w1 := by
  subst hw1
  refine wpList_append_own _ hgd s x t ho lo e i z size bytes ht hi hz hsize hby hzs hsz v n xs hs (hown.alloc _) ⟨w0.heap.size, 0, none⟩ 1 1 news hx (by omega) (cells_new w0 news e)
    (fun u hu => List.all_eq_true.1 h1 u hu) (by unfold maxLen; omega) (Nat.le_trans (Nat.mul_le_mul (show n + 1 ≤ 1000000000001 by omega) hb64) (by decide)) (by simp; omega) ?_
  intro v' w' hown' hgrow _
  refine h v' w' hown' ((hB.alloc hlo _).grown hgrow (by simp; omega) (fun x hx => (hown.lt x hx).1)) (by have := hgrow.size; simp at this; omega) ?_
  exact ⟨hgrow.os, hgrow.tape, hgrow.output, by have := hgrow.size; simp at this; omega, fun k hk hne => (hgrow.block k (by simp; omega) hne).trans (Below.heap_alloc w0 _ k hk)⟩
def BelowOf (x n : Int) : Int := if n < 1 then 0 else if x.tmod n < 0 then x.tmod n + n else x.tmod n
theorem belowOf_range (x n : Int) (h : 1 ≤ n) : 0 ≤ BelowOf x n ∧ BelowOf x n < n := by
  unfold BelowOf
  have h1 := Int.tmod_lt_of_pos x (show 0 < n by omega)
  have h2 := Int.lt_tmod_of_pos x (show 0 < n by omega)
  split
  · omega
  · split <;> omega
set_option maxHeartbeats 400000 in
theorem below_any (x n : Int) (w : World) (h1 : 1 ≤ n) (h2 : n ≤ 9223372036854775807) :
    Calls Tryz.prog 69 #[.int .i64 x, .int .i64 n] w fun e w' => e = .returned (.int .i64 (BelowOf x n)) ∧ w = w' := by
  have hr := Int.lt_tmod_of_pos x (show 0 < n by omega)
  have hr2 := Int.tmod_lt_of_pos x (show 0 < n by omega)
  go_enter Tryz.func69, Tryz.ntmps69
  go_wp2
  · have h : x.tmod n < 0 := by assumption
    go_ret
    exact ⟨by unfold BelowOf; rw [if_neg (by omega), if_pos h]; rfl, rfl⟩
  · have h : 0 ≤ x.tmod n := by assumption
    go_ret
    exact ⟨by unfold BelowOf; rw [if_neg (by omega), if_neg (by omega)]; rfl, rfl⟩
def SomeBelow (n : Int) (w : World) (e : Ending) (w' : World) : Prop := ∃ r : Int, 0 ≤ r ∧ r < n ∧ e = .returned (.int .i64 r) ∧ w = w'
theorem below_some (x n : Int) (w : World) (h1 : 1 ≤ n) (h2 : n ≤ 9223372036854775807) :
    Calls Tryz.prog 69 #[.int .i64 x, .int .i64 n] w (SomeBelow n w) :=
  (below_any x n w h1 h2).mono fun _ _ ⟨he, hw⟩ => ⟨_, (belowOf_range x n h1).1, (belowOf_range x n h1).2, he, hw⟩
set_option maxHeartbeats 1000000 in
theorem next_any (b M : Nat) (n : Int) (w : World) (hs : IsStream 25 w b M) (hM : M ≤ 4611686018427387904) (h1 : 1 ≤ n) (h2 : n ≤ 9223372036854775807) :
    Calls Tryz.prog 14 #[.pointer (some ⟨b, 0, none⟩), .int .i64 n] w (GoesInt 25 b M 1 (fun r => 0 ≤ r ∧ r < n) w) := by
  obtain ⟨a, len, cap, at_, hh, hat, hlen, hz⟩ := hs
  obtain ⟨c0, c1, f0, f1⟩ := stream_cells hh
  by_cases h0 : len = 0
  · subst h0
    have H := Lib.hid (fun nq => goes_set (nq := nq) hh hat hlen hz)
    clear hh hz
    go_enter Tryz.func14, Tryz.ntmps14
    go_wp2_with fail
    refine (below_some _ _ _ h1 h2).mono ?_
    rintro e w' ⟨r, hr0, hr1, rfl, rfl⟩
    go_wp2_with fail
    go_ret
    exact ⟨r, ⟨hr0, hr1⟩, rfl, H.out 0⟩
  · obtain ⟨⟨xb, xo, xs⟩, rfl, hxb, hxs, hc⟩ := hz (by omega)
    simp only at hxs; subst hxs
    have hlp : 0 < len := by omega
    obtain ⟨z, hzc⟩ := hc (at_ % len) (Nat.mod_lt _ hlp)
    have H := Lib.hid (fun nq => goes_set (nq := nq) hh hat hlen hz)
    have hne : ((len : Int) == 0) = false := by simp; omega
    have hzc' : (w.setCell ⟨b, 1, none⟩ (.int .i64 ((at_ : Int) + 1))).cell? ⟨xb, xo + at_ % len, none⟩ = some (.int .i64 z) := by
      rw [← hzc]; exact World.cell?_of_block (w := w) (Below.heap_setCell _ _ _ _ (by simp only at hxb; show xb ≠ b; omega))
    have hb1 : (0 : Int) ≤ (at_ : Int) % (len : Int) := Int.emod_nonneg _ (by omega)
    have hb2 : (at_ : Int) % (len : Int) < (len : Int) := Int.emod_lt_of_pos _ (by omega)
    have hb3 : ((at_ : Int) % (len : Int)).toNat = at_ % len := by omega
    clear hh hz hc
    go_enter Tryz.func14, Tryz.ntmps14
    go_wp2_with fail
    go_quiet (fail)
    go_wp2_with fail
    go_quiet (fail)
    go_wp2_with fail
    refine (below_some _ _ _ (by omega) (by omega)).mono ?_
    rintro e w' ⟨r, hr0, hr1, rfl, rfl⟩
    go_wp2_with fail
    refine (below_some _ _ _ h1 h2).mono ?_
    rintro e w' ⟨r2, hr0, hr1, rfl, rfl⟩
    go_wp2_with fail
    go_ret
    exact ⟨r2, ⟨hr0, hr1⟩, rfl, H.out _⟩
set_option maxHeartbeats 400000 in
theorem range_any (b M : Nat) (lo hi : Int) (w : World) (hs : IsStream 25 w b M) (hM : M ≤ 4611686018427387904) (h0 : -1000000000000000 ≤ lo) (h1 : lo ≤ hi) (h2 : hi ≤ 1000000000000000) :
    Calls Tryz.prog 20 #[.pointer (some ⟨b, 0, none⟩), .int .i64 lo, .int .i64 hi] w (GoesInt 25 b M 1 (fun r => lo ≤ r ∧ r ≤ hi) w) := by
  go_enter Tryz.func20, Tryz.ntmps20
  go_wp2_with fail
  refine (next_any _ M _ _ hs hM (by omega) (by omega)).mono ?_
  rintro e w' ⟨r, ⟨hr0, hr1⟩, rfl, hg⟩
  go_wp2_with fail
  go_ret
  exact ⟨lo + r, ⟨by omega, by omega⟩, rfl, hg⟩
set_option maxHeartbeats 400000 in
theorem flip_any (b M : Nat) (n : Int) (w : World) (hs : IsStream 25 w b M) (hM : M ≤ 4611686018427387904) (h1 : 1 ≤ n) (h2 : n ≤ 1000000000000000) :
    Calls Tryz.prog 68 #[.pointer (some ⟨b, 0, none⟩), .int .i64 n] w (GoesBool 25 b M 1 w) := by
  go_enter Tryz.func68, Tryz.ntmps68
  go_wp2_with fail
  refine (next_any _ M _ _ hs hM (by omega) (by omega)).mono ?_
  rintro e w' ⟨r, ⟨hr0, hr1⟩, rfl, hg⟩
  go_wp2_with fail
  go_ret
  exact ⟨r == 0, rfl, hg⟩
set_option maxHeartbeats 400000 in
theorem pick_any (b M g : Nat) (zs : List Int) (n cap : Nat) (w : World) (t : TypeId) (hs : IsStream 25 w b M) (hM : M ≤ 4611686018427387904) (hn : n = zs.length) (h1 : 1 ≤ n) (h2 : n ≤ 1000000)
    (hg : w.heap[g]? = some (.cells (zs.map (Value.int .i64)).toArray t (0, 0))) (hgb : g ≠ b) :
    Calls Tryz.prog 21 #[.pointer (some ⟨b, 0, none⟩), .slice (some ⟨g, 0, none⟩) n cap] w (GoesInt 25 b M 1 (fun r => r ∈ zs) w) := by
  have Hn := Lib.hid hn
  clear hn
  go_enter Tryz.func21, Tryz.ntmps21
  go_wp2_with fail
  refine (next_any _ M _ _ hs hM (by omega) (by omega)).mono ?_
  rintro e w' ⟨r, ⟨hr0, hr1⟩, rfl, hgo⟩
  obtain ⟨k, rfl⟩ := Int.eq_ofNat_of_zero_le hr0
  have hk : k < zs.length := by have := Hn.out; omega
  have hc : w'.cell? ⟨g, k, none⟩ = some (.int .i64 zs[k]) := by
    have h3 := (hgo.gb.block g (block_lt hg) (fun e => by injection e with e; omega)).trans hg
    simp [World.cell?, h3, hk]
  clear hg
  go_wp2_with fail
  go_ret
  exact ⟨zs[k], List.getElem_mem hk, rfl, hgo⟩
def outsideB (n lo hi : Int) : Bool := decide (n < lo) || decide (hi < n)
set_option maxHeartbeats 400000 in
theorem outside_any (n lo hi : Int) (w : World) :
    Calls Tryz.prog 74 #[.int .i64 n, .int .i64 lo, .int .i64 hi] w fun e w' => e = .returned (.bool (outsideB n lo hi)) ∧ w = w' := by
  by_cases h1 : n < lo
  · go_enter Tryz.func74, Tryz.ntmps74
    go_wp2
    go_ret
    exact ⟨by simp [outsideB, h1], rfl⟩
  · have h1' : decide (n < lo) = false := by simpa using h1
    go_enter Tryz.func74, Tryz.ntmps74
    go_wp2
    go_ret
    exact ⟨by simp [outsideB, h1'], rfl⟩
set_option maxHeartbeats 400000 in
theorem in_any (n lo hi : Int) (w : World) :
    Calls Tryz.prog 91 #[.int .i64 n, .int .i64 lo, .int .i64 hi] w fun e w' => e = .returned (.bool (!outsideB n lo hi)) ∧ w = w' := by
  by_cases h1 : lo ≤ n
  · go_enter Tryz.func91, Tryz.ntmps91
    go_wp2
    go_ret
    exact ⟨by have : ¬ n < lo := by omega
              simp [outsideB, this, ← Int.not_lt], rfl⟩
  · have h1' : decide (lo ≤ n) = false := by simpa using h1
    go_enter Tryz.func91, Tryz.ntmps91
    go_wp2
    go_ret
    exact ⟨by have : n < lo := by omega
              simp [outsideB, this], rfl⟩
theorem flat2_at {α : Type} (cs : List α) (f : α → List Value) (hf : ∀ c, (f c).length = 2) (k j : Nat) (hk : k < cs.length) (hj : j < 2) : (cs.flatMap f)[k * 2 + j]? = (f cs[k])[j]? := by
  induction cs generalizing k with
  | nil => simp at hk
  | cons c cs ih =>
    cases k with
    | zero => simp only [List.flatMap_cons]; rw [List.getElem?_append_left (by rw [hf]; omega)]; simp
    | succ k =>
      simp only [List.flatMap_cons, List.getElem_cons_succ]
      rw [List.getElem?_append_right (by rw [hf]; omega), hf, ← ih k (by simpa using hk)]
      congr 1; omega
theorem sizeBuilder : (Tryz.prog.info? 205).map (·.size) = some 2 := by kernel_rfl
theorem Goes.belowAt {ts : TypeId} {b M k B : Nat} {w w1 w2 : World} (h : Goes ts b M k w w1) (hw : w.heap.size ≤ B) (hb : b < B) (hB : Below B w1 w2) : Goes ts b M k w w2 := by
  obtain ⟨⟨a, len, cap, at_, hh, h1, h2, h3⟩, gb⟩ := h
  have hg : w.grownBy w2 (some b) := ⟨hB.os.trans gb.os, hB.tape.trans gb.tape, hB.output.trans gb.output, Nat.le_trans gb.size hB.size, fun i hi hn => (hB.block i (by omega)).trans (gb.block i hi hn)⟩
  refine ⟨⟨a, len, cap, at_, (hB.block b hb).trans hh, h1, h2, fun h0 => ?_⟩, hg⟩
  obtain ⟨x, hx, hxb, hs, hc⟩ := h3 h0
  refine ⟨x, hx, hxb, hs, fun i hi => ?_⟩
  obtain ⟨z, hz⟩ := hc i hi
  exact ⟨z, (hB.cell (p := ⟨x.block, x.off + i, none⟩) (by show x.block < _; omega)).trans hz⟩
set_option maxRecDepth 100000 in
set_option maxHeartbeats 400000 in
theorem odd_any (b M : Nat) (lo hi : Int) (w : World) (hs : IsStream 25 w b M) (hM : M ≤ 1000000000000000) (h0 : -100000000000000 ≤ lo) (h1 : lo ≤ hi) (h2 : hi ≤ 100000000000000) :
    Calls Tryz.prog 89 #[.pointer (some ⟨b, 0, none⟩), .int .i64 lo, .int .i64 hi] w (GoesInt 25 b M 2 (fun r => -100000000000001 ≤ r ∧ r ≤ 100000000000001) w) := by
  have hlt := hs.lt
  go_enter Tryz.func89, Tryz.ntmps89
  go_wp2_with fail
  refine (flip_any b M _ _ hs (by omega) (by omega) (by omega)).mono ?_
  rintro e w1 ⟨r, rfl, hg1⟩
  have hz := hg1.gb.size
  cases r
  · go_wp2_with fail
    refine (range_any b (M + 1) _ _ _ hg1.is (by omega) (by omega) h1 (by omega)).mono ?_
    rintro e w2 ⟨r, ⟨hr0, hr1⟩, rfl, hg2⟩
    go_wp2_with fail
    go_ret
    exact ⟨r, ⟨by omega, by omega⟩, rfl, hg1.trans hg2 (by omega)⟩
  · go_wp2_with fail
    refine (pick_any b (M + 1) w1.heap.size [lo - 1, hi + 1, lo, hi, -1099511627776, 1099511627776] 6 6 _ 3 (hg1.is.alloc _) (by omega) rfl (by omega) (by omega) (heap_alloc_new _ _) (by omega)).mono ?_
    rintro e w2 ⟨r, hr, rfl, hg2⟩
    go_wp2_with fail
    go_ret
    refine ⟨r, ?_, rfl, hg1.trans hg2.of_alloc (by omega)⟩
    simp at hr
    omega
theorem ownsRow_gb {w w' : World} {base size n b : Nat} {e : TypeId} {v : Value} {xs : List Value} (h : w.ownsRow base e size v n xs) (hg : w.grownBy w' (some b)) (hb : b < base) : w'.ownsRow base e size v n xs := by
  obtain ⟨hl, h2⟩ := h
  refine ⟨hl, ?_⟩
  rcases h2 with h2 | ⟨g, cap, cur, hv, hg', hh, r⟩
  · exact .inl h2
  · exact .inr ⟨g, cap, cur, hv, hg', (hg.block g (block_lt hh) (fun e => by injection e with e; omega)).trans hh, r⟩
theorem Goes.grown {ts : TypeId} {b M k : Nat} {w w1 w2 : World} {row : Option Nat} (h : Goes ts b M k w w1) (hg : w1.grownBy w2 row) (hlt : b < w.heap.size) (hr : ∀ x, row = some x → w.heap.size ≤ x) : Goes ts b M k w w2 := by
  have hB : Below w.heap.size w1 w2 := ⟨hg.os, hg.tape, hg.output, hg.size, fun i hi => hg.block i (Nat.lt_of_lt_of_le hi h.gb.size) (fun e => by have := hr i e.symm; omega)⟩
  exact h.belowAt (Nat.le_refl _) hlt hB
def chC (c : ByteArray × Int) : List Value := [.string c.1, .int .i64 c.2]
def okCh (c : ByteArray × Int) : Prop := c.1.size ≤ 16 ∧ -100000000000001 ≤ c.2 ∧ c.2 ≤ 100000000000001
attribute [local go_sem ↓] Go.wp_at_zero Go.wp_at_succ
def fiC (f : ByteArray × Value) : List Value := [.string f.1, f.2]
def ChWf (w : World) (base lo : Nat) (v : Value) : Prop := ∃ cs : List (ByteArray × Int), lo ≤ cs.length ∧ cs.length ≤ 3 ∧ (∀ c ∈ cs, okCh c) ∧ w.ownsRow base 122 2 v cs.length (cs.flatMap chC)
def FiWf (w : World) (base lo : Nat) (v : Value) (n : Nat) : Prop := ∃ fs : List (ByteArray × Value), fs.length = n ∧ w.ownsRow base 221 2 v n (fs.flatMap fiC) ∧ ∀ f ∈ fs, f.1.size ≤ 16 ∧ ChWf w base lo f.2
theorem ChWf.gb {w w' : World} {base lo b : Nat} {v : Value} (h : ChWf w base lo v) (hg : w.grownBy w' (some b)) (hb : b < base) : ChWf w' base lo v :=
  let ⟨cs, h1, h2, h3, h4⟩ := h; ⟨cs, h1, h2, h3, ownsRow_gb h4 hg hb⟩
theorem ChWf.mono {w : World} {base base' lo : Nat} {v : Value} (h : ChWf w base lo v) (hb : base' ≤ base) : ChWf w base' lo v :=
  let ⟨cs, h1, h2, h3, h4⟩ := h; ⟨cs, h1, h2, h3, ownsRow_base h4 hb⟩
theorem FiWf.gb {w w' : World} {base lo b n : Nat} {v : Value} (h : FiWf w base lo v n) (hg : w.grownBy w' (some b)) (hb : b < base) : FiWf w' base lo v n :=
  let ⟨fs, h1, h2, h3⟩ := h; ⟨fs, h1, ownsRow_gb h2 hg hb, fun f hf => ⟨(h3 f hf).1, (h3 f hf).2.gb hg hb⟩⟩
theorem ChWf.below {w w' : World} {base lo : Nat} {v : Value} (h : ChWf w base lo v) (hb : Below w.heap.size w w') : ChWf w' base lo v :=
  let ⟨cs, h1, h2, h3, h4⟩ := h; ⟨cs, h1, h2, h3, ownsRow_below h4 hb⟩
theorem FiWf.below {w w' : World} {base lo n : Nat} {v : Value} (h : FiWf w base lo v n) (hb : Below w.heap.size w w') : FiWf w' base lo v n :=
  let ⟨fs, h1, h2, h3⟩ := h; ⟨fs, h1, ownsRow_below h2 hb, fun f hf => ⟨(h3 f hf).1, (h3 f hf).2.below hb⟩⟩
theorem ownsRow_keep {w w' : World} {base size n : Nat} {e : TypeId} {v : Value} {xs : List Value} (h : w.ownsRow base e size v n xs) (hk : ∀ k, base ≤ k → k < w.heap.size → w'.heap[k]? = w.heap[k]?) : w'.ownsRow base e size v n xs := by
  obtain ⟨hl, h2⟩ := h
  refine ⟨hl, ?_⟩
  rcases h2 with h2 | ⟨g, cap, cur, hv, hg', hh, r⟩
  · exact .inl h2
  · exact .inr ⟨g, cap, cur, hv, hg', (hk g hg' (block_lt hh)).trans hh, r⟩
theorem ChWf.keep {w w' : World} {base lo : Nat} {v : Value} (h : ChWf w base lo v) (hk : ∀ k, base ≤ k → k < w.heap.size → w'.heap[k]? = w.heap[k]?) : ChWf w' base lo v :=
  let ⟨cs, h1, h2, h3, h4⟩ := h; ⟨cs, h1, h2, h3, ownsRow_keep h4 hk⟩
theorem FiWf.keep {w w' : World} {base lo n : Nat} {v : Value} (h : FiWf w base lo v n) (hk : ∀ k, base ≤ k → k < w.heap.size → w'.heap[k]? = w.heap[k]?) : FiWf w' base lo v n :=
  let ⟨fs, h1, h2, h3⟩ := h; ⟨fs, h1, ownsRow_keep h2 hk, fun f hf => ⟨(h3 f hf).1, (h3 f hf).2.keep hk⟩⟩
theorem FiWf.mono {w : World} {base base' lo n : Nat} {v : Value} (h : FiWf w base lo v n) (hb : base' ≤ base) : FiWf w base' lo v n :=
  let ⟨fs, h1, h2, h3⟩ := h; ⟨fs, h1, ownsRow_base h2 hb, fun f hf => ⟨(h3 f hf).1, (h3 f hf).2.mono hb⟩⟩
theorem Goes.setCell {ts : TypeId} {b M k : Nat} {w w1 : World} (h : Goes ts b M k w w1) (hlt : b < w.heap.size) {p : Addr} (hp : w.heap.size ≤ p.block) (u : Value) : Goes ts b M k w (w1.setCell p u) :=
  h.belowAt (Nat.le_refl _) hlt ((Below.refl _ _).setCell hp u)
theorem own_form {w : World} {base n size : Nat} {e : TypeId} {v : Value} {xs : List Value} (h : w.ownsRow base e size v n xs) : ∃ A m c, v = .slice A m c := by
  rcases h.2 with ⟨rfl, _⟩ | ⟨g, cap, cur, rfl, _⟩
  · exact ⟨_, _, _, rfl⟩
  · exact ⟨_, _, _, rfl⟩
open Go.RowKit Go.Maps Go.WideMaps
abbrev ChunkD := ByteArray × Int
abbrev FileD := ByteArray × List ChunkD
theorem flat2_len {α : Type} (cs : List α) (f : α → List Value) (hf : ∀ c, (f c).length = 2) : (cs.flatMap f).length = cs.length * 2 := by
  induction cs with
  | nil => rfl
  | cons p ps ih => rw [List.flatMap_cons, List.length_append, ih, hf, List.length_cons]; omega
def FilesAt (w : World) (lo : Nat) (v : Value) (fs : List FileD) : Prop :=
  ∃ ps : List (ByteArray × Value), Lst w lo 2 v (ps.flatMap fiC) ∧ ps.length = fs.length ∧ ∀ i (h : i < fs.length), ∃ u, ps[i]? = some (fs[i].1, u) ∧ Lst w lo 2 u (fs[i].2.flatMap chC)
theorem FilesAt.keep {w w' : World} {lo : Nat} {v : Value} {fs : List FileD} (h : FilesAt w lo v fs) (hs : w.heap.size ≤ w'.heap.size)
    (hk : ∀ k, lo ≤ k → k < w.heap.size → w'.heap[k]? = w.heap[k]?) : FilesAt w' lo v fs :=
  let ⟨ps, h1, h2, h3⟩ := h; ⟨ps, h1.keep hs hk, h2, fun i hi => let ⟨u, a, b⟩ := h3 i hi; ⟨u, a, b.keep hs hk⟩⟩
theorem FilesAt.below {w w' : World} {lo : Nat} {v : Value} {fs : List FileD} (h : FilesAt w lo v fs) (hb : Below w.heap.size w w') : FilesAt w' lo v fs :=
  h.keep hb.size fun k _ hk => hb.block k hk
theorem FilesAt.grown {w w' : World} {lo b : Nat} {v : Value} {fs : List FileD} (h : FilesAt w lo v fs) (hg : w.grownBy w' (some b)) (hb : b < lo) : FilesAt w' lo v fs :=
  h.keep hg.size fun k hk hlt => hg.block k hlt (fun e => by injection e with e; omega)
theorem FilesAt.mono {w : World} {lo lo' : Nat} {v : Value} {fs : List FileD} (h : FilesAt w lo v fs) (hl : lo' ≤ lo) : FilesAt w lo' v fs :=
  let ⟨ps, h1, h2, h3⟩ := h; ⟨ps, h1.mono hl, h2, fun i hi => let ⟨u, a, b⟩ := h3 i hi; ⟨u, a, b.mono hl⟩⟩
theorem FilesAt.form {w : World} {lo : Nat} {v : Value} {fs : List FileD} (h : FilesAt w lo v fs) : ∃ A c, v = .slice A fs.length c := by
  obtain ⟨ps, h1, h2, _⟩ := h
  obtain ⟨A, n, c, rfl, _, _, hx⟩ := h1.form
  have := flat2_len ps fiC (fun _ => rfl)
  exact ⟨A, c, by rw [show n = fs.length by omega]⟩
theorem FilesAt.at_ {w : World} {lo n c : Nat} {A : Option Addr} {fs : List FileD} (h : FilesAt w lo (.slice A n c) fs) {i : Nat} (hi : i < fs.length) :
    ∃ g o B m d, A = some ⟨g, o, none⟩ ∧ g < w.heap.size ∧ w.cell? ⟨g, o + i * 2, none⟩ = some (.string fs[i].1) ∧ w.cell? ⟨g, o + i * 2 + 1, none⟩ = some (.slice B m d) ∧ m = fs[i].2.length ∧ Lst w lo 2 (.slice B m d) (fs[i].2.flatMap chC) := by
  have hf := h.form
  obtain ⟨A', c', e⟩ := hf
  simp only [Value.slice.injEq] at e
  obtain ⟨rfl, rfl, rfl⟩ := e
  obtain ⟨ps, h1, h2, h3⟩ := h
  obtain ⟨u, hu, hl⟩ := h3 i hi
  obtain ⟨g, o, rfl, _, hg, hc⟩ := h1.open_ (by omega)
  have hip : i < ps.length := by omega
  have hpi : ps[i] = (fs[i].1, u) := by rw [List.getElem?_eq_getElem hip] at hu; simpa using hu
  have a0 := hc (i * 2 + 0) (.string fs[i].1) (by rw [flat2_at _ _ (fun _ => rfl) i 0 hip (by omega), hpi]; rfl)
  have a1 := hc (i * 2 + 1) u (by rw [flat2_at _ _ (fun _ => rfl) i 1 hip (by omega), hpi]; rfl)
  obtain ⟨B, m, d, rfl, _, _, hx⟩ := hl.form
  have := flat2_len fs[i].2 chC (fun _ => rfl)
  exact ⟨g, o, B, m, d, rfl, hg, by simpa using a0, by rw [Nat.add_assoc]; exact a1, by omega, hl⟩
def firstTo (f : Nat → Int) : Nat → Int
  | 0 => 0
  | k + 1 => if firstTo f k = 0 then f k else firstTo f k
theorem firstTo_le {f : Nat → Int} {k n : Nat} (h : k ≤ n) (h0 : firstTo f k ≠ 0) : firstTo f n = firstTo f k := by
  induction n with
  | zero => rw [show k = 0 by omega]
  | succ n ih =>
    by_cases e : k = n + 1
    · rw [e]
    · have := ih (by omega)
      rw [firstTo, this, if_neg h0]
theorem firstTo_at {f : Nat → Int} {k n : Nat} (h : k < n) (h0 : firstTo f k = 0) (hf : f k ≠ 0) : firstTo f n = f k := by
  have e : firstTo f (k + 1) = f k := by rw [firstTo, if_pos h0]
  rw [firstTo_le (k := k + 1) h (by rw [e]; exact hf), e]
theorem firstTo_succ {f : Nat → Int} {k : Nat} (h0 : firstTo f k = 0) (hf : f k = 0) : firstTo f (k + 1) = 0 := by rw [firstTo, if_pos h0, hf]
def litS (s : ByteArray) : Lit := .string s.data.toList
def lkC (x : LinkD) : List Value := [.int .i64 x.1, .int .i64 x.2.1, .int .i64 x.2.2]
theorem flat3_at {α : Type} (cs : List α) (f : α → List Value) (hf : ∀ c, (f c).length = 3) (i j : Nat) (hi : i < cs.length) (hj : j < 3) : (cs.flatMap f)[i * 3 + j]? = (f cs[i])[j]? := by
  induction cs generalizing i with
  | nil => simp at hi
  | cons c cs ih =>
    rw [List.flatMap_cons]
    rcases i with _ | i
    · rw [List.getElem?_append_left (by rw [hf]; omega)]; simp
    · rw [List.getElem?_append_right (by rw [hf]; omega), hf, show (i + 1) * 3 + j - 3 = i * 3 + j by omega]
      simpa using ih i (by simpa using hi)
theorem Lst.link {w : World} {lo n c : Nat} {A : Option Addr} {ls : List LinkD} (h : Lst w lo 3 (.slice A n c) (ls.flatMap lkC)) {j : Nat} (hj : j < ls.length) (hn : n = ls.length) :
    ∃ g o, A = some ⟨g, o, none⟩ ∧ g < w.heap.size ∧ w.cell? ⟨g, o + j * 3, none⟩ = some (.int .i64 ls[j].1) ∧ w.cell? ⟨g, o + j * 3 + 1, none⟩ = some (.int .i64 ls[j].2.1) ∧ w.cell? ⟨g, o + j * 3 + 2, none⟩ = some (.int .i64 ls[j].2.2) := by
  obtain ⟨g, o, rfl, _, hg, hc⟩ := h.open_ (by omega)
  have a0 := hc (j * 3 + 0) (.int .i64 ls[j].1) (by rw [flat3_at _ _ (fun _ => rfl) j 0 hj (by omega)]; rfl)
  have a1 := hc (j * 3 + 1) (.int .i64 ls[j].2.1) (by rw [flat3_at _ _ (fun _ => rfl) j 1 hj (by omega)]; rfl)
  have a2 := hc (j * 3 + 2) (.int .i64 ls[j].2.2) (by rw [flat3_at _ _ (fun _ => rfl) j 2 hj (by omega)]; rfl)
  exact ⟨g, o, rfl, hg, by simpa using a0, by rw [Nat.add_assoc]; exact a1, by rw [Nat.add_assoc]; exact a2⟩
def lAt (ls : List LinkD) (i : Nat) : LinkD := ls.getD i (0, 0, 0)
theorem lAt_eq (ls : List LinkD) {k : Nat} (h : k < ls.length) : lAt ls k = ls[k] := by simp [lAt, List.getD, List.getElem?_eq_getElem h]
def lkBad (x : LinkD) : Bool := decide (x.1 < 0) || decide (x.2.1 ≤ x.1) || decide (345686400000 < x.2.1) || outsideB x.2.2 1 1000000
def liF (ls : List LinkD) (i : Nat) : Int := if lkBad (lAt ls i) then 1 else if decide (0 < i) && decide ((lAt ls i).1 < (lAt ls (i - 1)).2.1) then 7 else 0
def linksF (ls : List LinkD) : Int := if 500 < ls.length then 2 else firstTo (liF ls) ls.length
def LkRel (ls : List LinkD) (w : World) (g : Nat) (i : Value) (wr : World) : Prop :=
  ∃ k : Nat, k + g = ls.length ∧ i = .int .i64 k ∧ firstTo (liF ls) k = 0 ∧ Below w.heap.size w wr
def LkBd (ls : List LinkD) : Prop := ∀ x ∈ ls, (-1000000000000000 ≤ x.1 ∧ x.1 ≤ 1000000000000000) ∧ (-1000000000000000 ≤ x.2.1 ∧ x.2.1 ≤ 1000000000000000) ∧ -1000000000000000 ≤ x.2.2 ∧ x.2.2 ≤ 1000000000000000
set_option maxRecDepth 100000 in
set_option maxHeartbeats 4000000 in
theorem checkLinks_any (A : Option Addr) (lo c : Nat) (ls : List LinkD) (w : World) (hf : Lst w lo 3 (.slice A ls.length c) (ls.flatMap lkC)) (hn : ls.length ≤ 500) (hbd : LkBd ls) :
    Calls Tryz.prog 101 #[.slice A ls.length c] w fun e w' => e = .returned (.int .i64 (linksF ls)) ∧ Below w.heap.size w w' := by
  have HF := Lib.hid hf
  have HBD := Lib.hid hbd
  have HV := Lib.hid (show linksF ls = firstTo (liF ls) ls.length by rw [linksF, if_neg (by omega)])
  clear hf hbd
  go_enter Tryz.func101, Tryz.ntmps101
  go_wp2_with fail
  go_loopg [10, 3, 4] ls.length (fun g i _ _ wr => LkRel ls w g i wr)
  case atStart => exact ⟨0, by omega, rfl, rfl, Below.refl _ _⟩
  case round =>
    obtain ⟨k, hk, rfl, h0, hb⟩ := hrel
    by_cases hg : gk = 0
    · obtain rfl : k = ls.length := by omega
      have HV2 := Lib.hid (HV.out.trans h0)
      clear hk hg h0
      go_wp2_with fail
      go_ret
      exact ⟨ret_int HV2.out.symm, hb⟩
    · have hlt : k < ls.length := by omega
      obtain ⟨g, o, rfl, hgl, c0, c1, c2⟩ := (HF.out.below hb).link hlt rfl
      have hbx := HBD.out _ (List.getElem_mem hlt)
      have HL := Lib.hid (lAt_eq ls hlt)
      have HPREV : Hid (∀ k', k = k' + 1 → wr.cell? ⟨g, o + k' * 3 + 1, none⟩ = some (.int .i64 (lAt ls k').2.1)) := fun k' e => by
        subst e
        obtain ⟨g2, o2, e2, _, _, h2, _⟩ := (HF.out.below hb).link (j := k') (by omega) rfl
        simp only [Option.some.injEq, Addr.mk.injEq] at e2
        obtain ⟨rfl, rfl, _⟩ := e2
        rw [lAt_eq ls (by omega : k' < ls.length)]
        exact h2
      have HK := Lib.hid hk
      have H0 := Lib.hid h0
      have hgk : gk ≠ 0 := hg
      clear hk hg h0
      generalize ls[k] = x at *
      obtain ⟨xf, xt, xs⟩ := x
      obtain ⟨⟨hf0, hf1⟩, ⟨ht0, ht1⟩, hs0, hs1⟩ : (-1000000000000000 ≤ xf ∧ xf ≤ 1000000000000000) ∧ (-1000000000000000 ≤ xt ∧ xt ≤ 1000000000000000) ∧ -1000000000000000 ≤ xs ∧ xs ≤ 1000000000000000 := hbx
      have hb1 := bbox hb (.cells #[.int .i64 xf, .int .i64 xt, .int .i64 xs] 110)
      go_upto_region 6 with fail
      go_cut [38] (fun s wx => s = .bool (lkBad (xf, xt, xs)) ∧ wx = wr.alloc (.cells #[.int .i64 xf, .int .i64 xt, .int .i64 xs] 110))
      case first =>
        by_cases t1 : xf < 0
        · go_wp2_with fail
          go_meet
          exact ⟨by simp [lkBad, t1], rfl⟩
        · by_cases t2 : xt ≤ xf
          · go_wp2_with fail
            go_meet
            exact ⟨by simp [lkBad, t2], rfl⟩
          · by_cases t3 : 345686400000 < xt
            · go_wp2_with fail
              go_meet
              exact ⟨by simp [lkBad, t3], rfl⟩
            · have HB := Lib.hid (show lkBad (xf, xt, xs) = outsideB xs 1 1000000 by simp [lkBad, t1, t2, t3])
              go_wp2_with fail
              refine (outside_any xs 1 1000000 _).mono ?_
              rintro e w' ⟨rfl, rfl⟩
              go_wp2_with fail
              go_meet
              exact ⟨by rw [HB.out], rfl⟩
      case rest =>
        obtain ⟨rfl, rfl⟩ := hcut
        have HX := Lib.hid (heap_alloc_new wr (.cells #[.int .i64 xf, .int .i64 xt, .int .i64 xs] 110))
        have hl1 : wr.heap.size < (wr.alloc (.cells #[.int .i64 xf, .int .i64 xt, .int .i64 xs] 110)).heap.size := by simp
        have d0 : (wr.alloc (.cells #[.int .i64 xf, .int .i64 xt, .int .i64 xs] 110)).cell? ⟨wr.heap.size, 0, none⟩ = some (.int .i64 xf) := cell_new_list wr _ _ 0 _ rfl
        have HP2 : Hid (∀ k', k = k' + 1 → (wr.alloc (.cells #[.int .i64 xf, .int .i64 xt, .int .i64 xs] 110)).cell? ⟨g, o + k' * 3 + 1, none⟩ = some (.int .i64 (lAt ls k').2.1)) := fun k' e => bold (bfirst _ _) (HPREV.out k' e)
        have HLI := Lib.hid (show liF ls k = if lkBad (xf, xt, xs) then 1 else if decide (0 < k) && decide (xf < (lAt ls (k - 1)).2.1) then 7 else 0 by rw [liF, HL.out])
        generalize wr.alloc (.cells #[.int .i64 xf, .int .i64 xt, .int .i64 xs] 110) = w1 at *
        generalize wr.heap.size = pb at *
        clear HPREV HX c0 c1 c2
        rcases Bool.eq_false_or_eq_true (lkBad (xf, xt, xs)) with hbad | hbad
        · have HN := Lib.hid (show linksF ls = 1 by rw [HV.out, firstTo_at hlt H0.out (by rw [HLI.out, hbad, if_pos rfl]; decide), HLI.out, hbad]; rfl)
          rw [hbad]
          clear hbad HLI
          go_wp2_with fail
          go_ret
          exact ⟨ret_int HN.out.symm, hb1⟩
        · rw [hbad] at HLI ⊢
          clear hbad
          have HLJ := Lib.hid (show liF ls k = if decide (0 < k) && decide (xf < (lAt ls (k - 1)).2.1) then 7 else 0 from HLI.out)
          clear HLI
          go_upto_region 8 with fail
          go_cut [53] (fun s wx => s = .bool (decide (0 < k) && decide (xf < (lAt ls (k - 1)).2.1)) ∧ ∃ q, wx = w1.drewN q)
          case first =>
            rcases k with _ | k'
            · have hd : decide ((0 : Int) < ((0 : Nat) : Int)) = false := by decide
              go_quiet (fail)
              go_wp2_with fail
              go_meet
              exact ⟨rfl, _, rfl⟩
            · have cP := HP2.out k' rfl
              have hd : decide ((0 : Int) < ((k' + 1 : Nat) : Int)) = true := by simp
              go_quiet (fail)
              go_wp2_with fail
              go_meet
              exact ⟨by simp, _, rfl⟩
          case rest =>
            obtain ⟨rfl, q, rfl⟩ := hcut
            have hb3 := below_drewN hb1 q
            rcases Bool.eq_false_or_eq_true (decide (0 < k) && decide (xf < (lAt ls (k - 1)).2.1)) with hc | hc
            · have HN := Lib.hid (show linksF ls = 7 by rw [HV.out, firstTo_at hlt H0.out (by rw [HLJ.out, hc]; decide), HLJ.out, hc]; rfl)
              rw [hc]
              clear hc HLJ
              go_wp2_with fail
              go_ret
              exact ⟨ret_int HN.out.symm, hb3⟩
            · have HN := Lib.hid (firstTo_succ H0.out (by rw [HLJ.out, hc]; rfl))
              rw [hc]
              clear hc HLJ
              go_wp2_with fail
              go_roundg (gk - 1)
              case measure => omega
              case rel => exact ⟨k + 1, by have := HK.out; omega, by go_num, HN.out, hb3⟩
set_option maxRecDepth 100000 in
set_option maxHeartbeats 4000000 in
theorem linksFault_any (A : Option Addr) (lo c : Nat) (ls : List LinkD) (w : World) (hf : Lst w lo 3 (.slice A ls.length c) (ls.flatMap lkC)) (hn : ls.length ≤ 500) (hbd : LkBd ls) :
    Calls Tryz.prog 38 #[.slice A ls.length c] w fun e w' => e = .returned (.int .i64 (linksF ls)) ∧ Below w.heap.size w w' := by
  have HF := Lib.hid hf
  have HBD := Lib.hid hbd
  have HV := Lib.hid (show linksF ls = firstTo (liF ls) ls.length by rw [linksF, if_neg (by omega)])
  clear hf hbd
  go_enter Tryz.func38, Tryz.ntmps38
  go_wp2_with fail
  go_loopg [10, 3, 4] ls.length (fun g i _ _ wr => LkRel ls w g i wr)
  case atStart => exact ⟨0, by omega, rfl, rfl, Below.refl _ _⟩
  case round =>
    obtain ⟨k, hk, rfl, h0, hb⟩ := hrel
    by_cases hg : gk = 0
    · obtain rfl : k = ls.length := by omega
      have HV2 := Lib.hid (HV.out.trans h0)
      clear hk hg h0
      go_wp2_with fail
      go_ret
      exact ⟨ret_int HV2.out.symm, hb⟩
    · have hlt : k < ls.length := by omega
      obtain ⟨g, o, rfl, hgl, c0, c1, c2⟩ := (HF.out.below hb).link hlt rfl
      have hbx := HBD.out _ (List.getElem_mem hlt)
      have HL := Lib.hid (lAt_eq ls hlt)
      have HPREV : Hid (∀ k', k = k' + 1 → wr.cell? ⟨g, o + k' * 3 + 1, none⟩ = some (.int .i64 (lAt ls k').2.1)) := fun k' e => by
        subst e
        obtain ⟨g2, o2, e2, _, _, h2, _⟩ := (HF.out.below hb).link (j := k') (by omega) rfl
        simp only [Option.some.injEq, Addr.mk.injEq] at e2
        obtain ⟨rfl, rfl, _⟩ := e2
        rw [lAt_eq ls (by omega : k' < ls.length)]
        exact h2
      have HK := Lib.hid hk
      have H0 := Lib.hid h0
      have hgk : gk ≠ 0 := hg
      clear hk hg h0
      generalize ls[k] = x at *
      obtain ⟨xf, xt, xs⟩ := x
      obtain ⟨⟨hf0, hf1⟩, ⟨ht0, ht1⟩, hs0, hs1⟩ : (-1000000000000000 ≤ xf ∧ xf ≤ 1000000000000000) ∧ (-1000000000000000 ≤ xt ∧ xt ≤ 1000000000000000) ∧ -1000000000000000 ≤ xs ∧ xs ≤ 1000000000000000 := hbx
      have hb1 := bbox hb (.cells #[.int .i64 xf, .int .i64 xt, .int .i64 xs] 110)
      go_upto_region 6 with fail
      go_cut [15] (fun s wx => s = .bool (lkBad (xf, xt, xs)) ∧ wx = wr.alloc (.cells #[.int .i64 xf, .int .i64 xt, .int .i64 xs] 110))
      case first =>
        by_cases t1 : xf < 0
        · go_wp2_with fail
          go_meet
          exact ⟨by simp [lkBad, t1], rfl⟩
        · by_cases t2 : xt ≤ xf
          · go_wp2_with fail
            go_meet
            exact ⟨by simp [lkBad, t2], rfl⟩
          · by_cases t3 : 345686400000 < xt
            · go_wp2_with fail
              go_meet
              exact ⟨by simp [lkBad, t3], rfl⟩
            · have HB := Lib.hid (show lkBad (xf, xt, xs) = outsideB xs 1 1000000 by simp [lkBad, t1, t2, t3])
              go_wp2_with fail
              refine (in_any xs 1 1000000 _).mono ?_
              rintro e w' ⟨rfl, rfl⟩
              go_wp2_with fail
              go_meet
              exact ⟨by rw [HB.out], rfl⟩
      case rest =>
        obtain ⟨rfl, rfl⟩ := hcut
        have HX := Lib.hid (heap_alloc_new wr (.cells #[.int .i64 xf, .int .i64 xt, .int .i64 xs] 110))
        have hl1 : wr.heap.size < (wr.alloc (.cells #[.int .i64 xf, .int .i64 xt, .int .i64 xs] 110)).heap.size := by simp
        have d0 : (wr.alloc (.cells #[.int .i64 xf, .int .i64 xt, .int .i64 xs] 110)).cell? ⟨wr.heap.size, 0, none⟩ = some (.int .i64 xf) := cell_new_list wr _ _ 0 _ rfl
        have HP2 : Hid (∀ k', k = k' + 1 → (wr.alloc (.cells #[.int .i64 xf, .int .i64 xt, .int .i64 xs] 110)).cell? ⟨g, o + k' * 3 + 1, none⟩ = some (.int .i64 (lAt ls k').2.1)) := fun k' e => bold (bfirst _ _) (HPREV.out k' e)
        have HLI := Lib.hid (show liF ls k = if lkBad (xf, xt, xs) then 1 else if decide (0 < k) && decide (xf < (lAt ls (k - 1)).2.1) then 7 else 0 by rw [liF, HL.out])
        generalize wr.alloc (.cells #[.int .i64 xf, .int .i64 xt, .int .i64 xs] 110) = w1 at *
        generalize wr.heap.size = pb at *
        clear HPREV HX c0 c1 c2
        rcases Bool.eq_false_or_eq_true (lkBad (xf, xt, xs)) with hbad | hbad
        · have HN := Lib.hid (show linksF ls = 1 by rw [HV.out, firstTo_at hlt H0.out (by rw [HLI.out, hbad, if_pos rfl]; decide), HLI.out, hbad]; rfl)
          rw [hbad]
          clear hbad HLI
          go_wp2_with fail
          go_ret
          exact ⟨ret_int HN.out.symm, hb1⟩
        · rw [hbad] at HLI ⊢
          clear hbad
          have HLJ := Lib.hid (show liF ls k = if decide (0 < k) && decide (xf < (lAt ls (k - 1)).2.1) then 7 else 0 from HLI.out)
          clear HLI
          go_upto_region 8 with fail
          go_cut [41] (fun s wx => s = .bool (decide (0 < k) && decide (xf < (lAt ls (k - 1)).2.1)) ∧ ∃ q, wx = w1.drewN q)
          case first =>
            rcases k with _ | k'
            · have hd : decide ((0 : Int) < ((0 : Nat) : Int)) = false := by decide
              go_quiet (fail)
              go_wp2_with fail
              go_meet
              exact ⟨rfl, _, rfl⟩
            · have cP := HP2.out k' rfl
              have hd : decide ((0 : Int) < ((k' + 1 : Nat) : Int)) = true := by simp
              go_quiet (fail)
              go_wp2_with fail
              go_meet
              exact ⟨by simp, _, rfl⟩
          case rest =>
            obtain ⟨rfl, q, rfl⟩ := hcut
            have hb3 := below_drewN hb1 q
            rcases Bool.eq_false_or_eq_true (decide (0 < k) && decide (xf < (lAt ls (k - 1)).2.1)) with hc | hc
            · have HN := Lib.hid (show linksF ls = 7 by rw [HV.out, firstTo_at hlt H0.out (by rw [HLJ.out, hc]; decide), HLJ.out, hc]; rfl)
              rw [hc]
              clear hc HLJ
              go_wp2_with fail
              go_ret
              exact ⟨ret_int HN.out.symm, hb3⟩
            · have HN := Lib.hid (firstTo_succ H0.out (by rw [HLJ.out, hc]; rfl))
              rw [hc]
              clear hc HLJ
              go_wp2_with fail
              go_roundg (gk - 1)
              case measure => omega
              case rel => exact ⟨k + 1, by have := HK.out; omega, by go_num, HN.out, hb3⟩
theorem links_ok {ls : List LinkD} (h : linksF ls = 0) : LinksOk ls := by
  have hlen : firstTo (liF ls) ls.length = 0 := by
    unfold linksF at h
    split at h
    · omega
    · exact h
  have hall : ∀ k, k < ls.length → liF ls k = 0 := by
    intro k hk
    by_cases e : liF ls k = 0
    · exact e
    · have hz : firstTo (liF ls) k = 0 := by
        by_cases z : firstTo (liF ls) k = 0
        · exact z
        · have := firstTo_le (f := liF ls) (n := ls.length) (by omega) z; omega
      have := firstTo_at (f := liF ls) hk hz e; omega
  have hbad : ∀ k, k < ls.length → lkBad (lAt ls k) = false := by
    intro k hk
    have := hall k hk
    unfold liF at this
    split at this
    · omega
    · rename_i h1; simpa using h1
  have hord : ∀ k, k + 1 < ls.length → (lAt ls k).2.1 ≤ (lAt ls (k + 1)).1 := by
    intro k hk
    have := hall (k + 1) hk
    unfold liF at this
    rw [hbad (k + 1) hk] at this
    simp at this
    exact this
  have hok : ∀ k, k < ls.length → okLink (lAt ls k) := by
    intro k hk
    have := hbad k hk
    simp [lkBad, outsideB] at this
    obtain ⟨⟨⟨h1, h2⟩, h3⟩, h4⟩ := this
    exact ⟨by omega, by omega, by omega, by omega, by omega⟩
  refine ⟨fun x hx => ?_, ?_⟩
  · obtain ⟨k, hk, rfl⟩ := List.getElem_of_mem hx
    rw [← lAt_eq ls hk]; exact hok k hk
  · rw [List.pairwise_iff_getElem]
    intro i j hi hj hij
    rw [← lAt_eq ls hi, ← lAt_eq ls hj]
    induction j with
    | zero => omega
    | succ j ih =>
      have h1 := hord j (by omega)
      rcases Nat.lt_or_ge i j with h2 | h2
      · have h3 := ih (by omega) h2
        have h4 := (hok j (by omega)).2.1
        omega
      · rw [show i = j by omega]; exact h1
theorem linC_bd {x : LinkD} (h : okLink x) (a t : Int) (ha : 0 ≤ a) : linC x a t ≤ 345686400000000000 := by
  obtain ⟨h0, h1, h2, h3, h4⟩ := h
  have : max 0 (min x.2.1 t - max x.1 a) * x.2.2 ≤ 345686400000 * 1000000 := Int.mul_le_mul (by omega) h4 (by omega) (by omega)
  unfold linC
  rw [Int.mul_comm]; omega
theorem car_snoc (ls : List LinkD) (a t : Int) {k : Nat} (h : k < ls.length) : car (ls.take (k + 1)) a t = car (ls.take k) a t + linC ls[k] a t := by
  unfold car
  rw [List.take_succ_eq_append_getElem h, List.map_append, List.sum_append]; simp
theorem car_bd {ls : List LinkD} (h : LinksOk ls) (a t : Int) (ha : 0 ≤ a) : ∀ k, k ≤ ls.length → 0 ≤ car (ls.take k) a t ∧ car (ls.take k) a t ≤ k * 345686400000000000 := by
  intro k
  induction k with
  | zero => intro _; simp [car]
  | succ k ih =>
    intro hk
    have h1 := ih (by omega)
    have h2 := linC_nonneg (h.each _ (List.getElem_mem (show k < ls.length by omega))) a t
    have h3 := linC_bd (h.each _ (List.getElem_mem (show k < ls.length by omega))) a t ha
    rw [car_snoc ls a t (by omega)]
    omega
def CaRel (ls : List LinkD) (a t : Int) (w : World) (g : Nat) (i s : Value) (wr : World) : Prop :=
  ∃ k : Nat, k + g = ls.length ∧ i = .int .i64 k ∧ s = .int .i64 (car (ls.take k) a t) ∧ Below w.heap.size w wr
def tellD (ls : List LinkD) (a b : Int) : Option Int := if b = 0 then some a else doneL ls a b
def optZ : Option Int → Int
  | some t => t
  | none => 0
theorem car_before {ls : List LinkD} {a t : Int} (h : t < a) : car ls a t = 0 := by
  induction ls with
  | nil => rfl
  | cons x r ih =>
    rw [car_cons, ih]
    unfold linC
    rw [show max 0 (min x.2.1 t - max x.1 a) = 0 by omega, Int.mul_zero]; rfl
def DnRel (ls : List LinkD) (a b : Int) (w : World) (g : Nat) (i s2 : Value) (wr : World) : Prop :=
  ∃ (k : Nat) (b' : Int), k + g = ls.length ∧ i = .int .i64 k ∧ s2 = .int .i64 b' ∧ 0 < b' ∧ b' ≤ b ∧ doneL (ls.drop k) a b' = doneL ls a b ∧ Below w.heap.size w wr
theorem canL_bd {x : LinkD} (h : okLink x) (a : Int) (ha : 0 ≤ a) : 0 ≤ canL x a ∧ canL x a ≤ 345686400000000000 := by
  obtain ⟨h0, h1, h2, h3, h4⟩ := h
  unfold canL
  have : max 0 (x.2.1 - max x.1 a) * x.2.2 ≤ 345686400000 * 1000000 := Int.mul_le_mul (by omega) h4 (by omega) (by omega)
  exact ⟨Int.mul_nonneg (by omega) (by omega), by omega⟩
set_option maxRecDepth 100000 in
set_option maxHeartbeats 2000000 in
theorem done_any (A : Option Addr) (lo c : Nat) (ls : List LinkD) (a b : Int) (w : World) (hf : Lst w lo 3 (.slice A ls.length c) (ls.flatMap lkC)) (hn : ls.length ≤ 500) (hok : LinksOk ls) (ha : 0 ≤ a) (ha1 : a ≤ 345686400000) (hb0 : 0 ≤ b) (hb1 : b ≤ 1000000000000000) :
    Calls Tryz.prog 103 #[.slice A ls.length c, .int .i64 a, .int .i64 b] w fun e w' => e = .returned (.tuple #[.int .i64 (optZ (tellD ls a b)), .bool (tellD ls a b).isSome]) ∧ Below w.heap.size w w' := by
  have HF := Lib.hid hf
  have HOK := Lib.hid hok
  clear hf hok
  by_cases hz : b = 0
  · have HT := Lib.hid (show tellD ls a b = some a by rw [tellD, if_pos hz])
    subst hz
    go_enter Tryz.func103, Tryz.ntmps103
    go_wp2_with fail
    go_ret2
    exact ⟨by rw [HT.out]; rfl, Below.refl _ _⟩
  · have HT := Lib.hid (show tellD ls a b = doneL ls a b by rw [tellD, if_neg hz])
    have hz' : (b == 0) = false := beq_eq_false_iff_ne.2 hz
    have hbp : 0 < b := by omega
    clear hz
    go_enter Tryz.func103, Tryz.ntmps103
    go_wp2_with fail
    go_loopg [17, 2, 9, 10, 11] ls.length (fun g i s2 _ _ _ wr => DnRel ls a b w g i s2 wr)
    case atStart => exact ⟨0, b, by omega, rfl, rfl, hbp, Int.le_refl _, by simp, Below.refl _ _⟩
    case round =>
      obtain ⟨k, b', hk, rfl, rfl, hp, hle, hd, hb⟩ := hrel
      by_cases hg : gk = 0
      · obtain rfl : k = ls.length := by omega
        have HD := Lib.hid (show tellD ls a b = none by rw [HT.out, ← hd, List.drop_length]; rfl)
        clear hk hg hd
        go_wp2_with fail
        go_ret2
        exact ⟨by rw [HD.out]; rfl, hb⟩
      · have hlt : k < ls.length := by omega
        obtain ⟨g, o, rfl, hgl, c0, c1, c2⟩ := (HF.out.below hb).link hlt rfl
        have hx := HOK.out.each _ (List.getElem_mem hlt)
        have hcb := canL_bd hx a ha
        have HDR := Lib.hid (show doneL ls a b = if b' ≤ canL ls[k] a then some (max ls[k].1 a + (b' + ls[k].2.2 - 1) / ls[k].2.2) else doneL (ls.drop (k + 1)) a (b' - canL ls[k] a) by rw [← hd, List.drop_eq_getElem_cons hlt, doneL])
        have HK := Lib.hid hk
        have hgk : gk ≠ 0 := hg
        clear hk hg hd
        generalize ls[k] = x at *
        obtain ⟨xf, xt, xs⟩ := x
        obtain ⟨x0, x1, x2, x3, x4⟩ : 0 ≤ xf ∧ xf < xt ∧ xt ≤ 345686400000 ∧ 1 ≤ xs ∧ xs ≤ 1000000 := hx
        have HCE : Hid (canL (xf, xt, xs) a = max 0 (xt - max xf a) * xs) := rfl
        obtain ⟨q0, q1⟩ : 0 ≤ max 0 (xt - max xf a) * xs ∧ max 0 (xt - max xf a) * xs ≤ 345686400000000000 := hcb
        have hb3 := bbox hb (.cells #[.int .i64 xf, .int .i64 xt, .int .i64 xs] 110)
        have hq1 : 0 ≤ (b' + xs - 1) / xs := Int.ediv_nonneg (by omega) (by omega)
        have hq2 : (b' + xs - 1) / xs ≤ b' + xs - 1 := Int.ediv_le_self _ (by omega)
        by_cases hc : b' ≤ max 0 (xt - max xf a) * xs
        · have HR := Lib.hid (show tellD ls a b = some (max xf a + (b' + xs - 1) / xs) by rw [HT.out, HDR.out, HCE.out, if_pos hc])
          go_wp2_with fail
          go_ret2
          exact ⟨by rw [HR.out]; rfl, hb3⟩
        · have HR := Lib.hid (show doneL (ls.drop (k + 1)) a (b' - max 0 (xt - max xf a) * xs) = doneL ls a b by rw [HDR.out, HCE.out, if_neg hc])
          go_wp2_with fail
          go_roundg (gk - 1)
          case measure => omega
          case rel => exact ⟨k + 1, b' - max 0 (xt - max xf a) * xs, by have := HK.out; omega, by go_num, rfl, by omega, by omega, HR.out, hb3⟩
def winB (a t : Int) : Bool := outsideB a 0 t || decide (345686400000 < t)
def winF (a t : Int) : Int := if winB a t then 1 else 0
def momB (a : Int) : Bool := decide (0 ≤ a) && decide (a < 345686400000)
set_option maxRecDepth 100000 in
theorem isMoment_any (a : Int) (w : World) : Calls Tryz.prog 102 #[.int .i64 a] w fun e w' => e = .returned (.bool (momB a)) ∧ w = w' := by
  by_cases h1 : 0 ≤ a
  · by_cases h2 : a < 345686400000
    · have HV := Lib.hid (show momB a = true by simp [momB, h1, h2])
      go_enter Tryz.func102, Tryz.ntmps102
      go_wp2_with fail
      go_ret
      exact ⟨by rw [HV.out]; rfl, rfl⟩
    · have HV := Lib.hid (show momB a = false by simp [momB, h2])
      go_enter Tryz.func102, Tryz.ntmps102
      go_wp2_with fail
      go_ret
      exact ⟨by rw [HV.out]; rfl, rfl⟩
  · have HV := Lib.hid (show momB a = false by simp [momB, h1])
    go_enter Tryz.func102, Tryz.ntmps102
    go_wp2_with fail
    go_ret
    exact ⟨by rw [HV.out]; rfl, rfl⟩
def doneF (ls : List LinkD) (a b : Int) : Int := if linksF ls = 0 then (if momB a && !outsideB b 0 1000000000000 then 0 else 1) else linksF ls
set_option maxRecDepth 100000 in
set_option maxHeartbeats 2000000 in
theorem Done_any (A : Option Addr) (lo c : Nat) (ls : List LinkD) (a b : Int) (w : World) (hf : Lst w lo 3 (.slice A ls.length c) (ls.flatMap lkC)) (hn : ls.length ≤ 20) (hbd : LkBd ls) :
    Calls Tryz.prog 39 #[.slice A ls.length c, .int .i64 a, .int .i64 b] w fun e w' => e = .returned (.tuple #[.int .i64 (if doneF ls a b == 0 then optZ (tellD ls a b) else 0), .bool (doneF ls a b == 0 && (tellD ls a b).isSome), .int .i64 (doneF ls a b)]) ∧ Below w.heap.size w w' := by
  have HF := Lib.hid hf
  have HBD := Lib.hid hbd
  clear hf hbd
  obtain ⟨z1, hz1⟩ : ∃ z, z = if doneF ls a b == 0 then optZ (tellD ls a b) else 0 := ⟨_, rfl⟩
  obtain ⟨z2, hz2⟩ : ∃ z, z = (doneF ls a b == 0 && (tellD ls a b).isSome) := ⟨_, rfl⟩
  rw [← hz1, ← hz2]
  have HZ1 := Lib.hid hz1
  have HZ2 := Lib.hid hz2
  clear hz1 hz2
  go_enter Tryz.func39, Tryz.ntmps39
  go_wp2_with fail
  refine (checkLinks_any A lo c ls _ HF.out (by omega) HBD.out).mono ?_
  rintro e w1 ⟨rfl, b1⟩
  by_cases hl : linksF ls = 0
  · have HL := Lib.hid hl
    rw [hl]
    clear hl
    go_wp2_with fail
    refine (isMoment_any a _).mono ?_
    rintro e w' ⟨rfl, rfl⟩
    rcases Bool.eq_false_or_eq_true (momB a) with hm | hm
    · have hm2 : 0 ≤ a ∧ a < 345686400000 := by simpa [momB] using hm
      have HM := Lib.hid hm
      rw [hm]
      clear hm
      go_wp2_with fail
      refine (outside_any b 0 1000000000000 _).mono ?_
      rintro e w' ⟨rfl, rfl⟩
      rcases Bool.eq_false_or_eq_true (outsideB b 0 1000000000000) with ho | ho
      · have HD := Lib.hid (show doneF ls a b = 1 by rw [doneF, if_pos HL.out, HM.out, ho]; rfl)
        rw [ho]
        clear ho
        go_wp2_with fail
        go_ret3
        exact ⟨by rw [HZ1.out, HZ2.out, HD.out]; rfl, b1⟩
      · have HD := Lib.hid (show doneF ls a b = 0 by rw [doneF, if_pos HL.out, HM.out, ho]; rfl)
        have hb2 : 0 ≤ b ∧ b ≤ 1000000000000 := by simp [outsideB] at ho; omega
        rw [ho]
        clear ho
        go_wp2_with fail
        refine (done_any A lo c ls a b _ (HF.out.below b1) (by omega) (links_ok HL.out) (by omega) (by omega) (by omega) (by omega)).mono ?_
        rintro e w2 ⟨rfl, b2⟩
        go_wp2_with fail
        go_ret3
        exact ⟨by rw [HZ1.out, HZ2.out, HD.out]; rfl, bon b1 b2⟩
    · have HD := Lib.hid (show doneF ls a b = 1 by rw [doneF, if_pos HL.out, hm]; rfl)
      rw [hm]
      clear hm
      go_wp2_with fail
      go_ret3
      exact ⟨by rw [HZ1.out, HZ2.out, HD.out]; rfl, b1⟩
  · have HD := Lib.hid (show doneF ls a b = linksF ls by rw [doneF, if_neg hl])
    have HL := Lib.hid (show (linksF ls == 0) = false from beq_eq_false_iff_ne.2 hl)
    have hl' : (linksF ls != 0) = true := bne_iff_ne.2 hl
    clear hl
    go_wp2_with fail
    go_ret3
    exact ⟨by rw [HZ1.out, HZ2.out, HD.out, HL.out]; rfl, b1⟩
def carF (ls : List LinkD) (a t : Int) : Int := if linksF ls = 0 then winF a t else linksF ls
set_option maxRecDepth 100000 in
set_option maxHeartbeats 4000000 in
theorem carried_any (A : Option Addr) (lo c : Nat) (ls : List LinkD) (a t : Int) (w : World) (hf : Lst w lo 3 (.slice A ls.length c) (ls.flatMap lkC)) (hn : ls.length ≤ 20) (hbd : LkBd ls) :
    Calls Tryz.prog 40 #[.slice A ls.length c, .agg #[.int .i64 a, .int .i64 t]] w fun e w' => e = .returned (.tuple #[.int .i64 (if carF ls a t == 0 then car ls a t else 0), .int .i64 (carF ls a t)]) ∧ Below w.heap.size w w' := by
  have HF := Lib.hid hf
  have HBD := Lib.hid hbd
  clear hf hbd
  obtain ⟨z1, hz1⟩ : ∃ z, z = if carF ls a t == 0 then car ls a t else 0 := ⟨_, rfl⟩
  rw [← hz1]
  have HZ1 := Lib.hid hz1
  clear hz1
  go_enter Tryz.func40, Tryz.ntmps40
  go_wp2_with fail
  have hb0 := bfirst w (.cells #[.int .i64 a, .int .i64 t] 69)
  have X0 := Lib.hid (heap_alloc_new w (.cells #[.int .i64 a, .int .i64 t] 69))
  obtain ⟨w0, hw0⟩ : ∃ w0, w0 = w.alloc (.cells #[.int .i64 a, .int .i64 t] 69) := ⟨_, rfl⟩
  rw [← hw0] at X0 hb0 ⊢
  clear hw0
  refine (checkLinks_any A lo c ls _ (HF.out.below hb0) (by omega) HBD.out).mono ?_
  rintro e w1 ⟨rfl, b1⟩
  have hbw1 := bon hb0 b1
  by_cases hl : linksF ls = 0
  · have HL := Lib.hid hl
    rw [hl]
    clear hl
    have hM := (b1.block w.heap.size (block_lt X0.out)).trans X0.out
    have m0 := (stream_cells hM).1
    have m1 := (stream_cells hM).2.1
    have ml := block_lt hM
    have X1 := Lib.hid hM
    clear hM
    go_upto_region 4 with fail
    go_cut [24] (fun s wx => s = .bool (winB a t) ∧ w1 = wx)
    case first =>
      go_wp2_with fail
      refine (outside_any a 0 t _).mono ?_
      rintro e w' ⟨rfl, rfl⟩
      rcases Bool.eq_false_or_eq_true (outsideB a 0 t) with ho | ho
      · have HW := Lib.hid (show winB a t = true by rw [winB, ho]; rfl)
        rw [ho]
        clear ho
        go_wp2_with fail
        go_meet
        exact ⟨by rw [HW.out], rfl⟩
      · have HW := Lib.hid (show winB a t = decide (345686400000 < t) by rw [winB, ho]; rfl)
        rw [ho]
        clear ho
        go_wp2_with fail
        go_meet
        exact ⟨by rw [HW.out], rfl⟩
    case rest =>
      obtain ⟨rfl, rfl⟩ := hcut
      rcases Bool.eq_false_or_eq_true (winB a t) with hw | hw
      · have HD := Lib.hid (show carF ls a t = 1 by rw [carF, if_pos HL.out, winF, hw]; rfl)
        rw [hw]
        clear hw
        go_wp2_with fail
        go_ret2
        exact ⟨by rw [HZ1.out, HD.out]; rfl, hbw1⟩
      · have HD := Lib.hid (show carF ls a t = 0 by rw [carF, if_pos HL.out, winF, hw]; rfl)
        have hin : 0 ≤ a ∧ a ≤ t ∧ t ≤ 345686400000 := by simp [winB, outsideB] at hw; omega
        obtain ⟨ha, ha1, ht1⟩ := hin
        have HOK := Lib.hid (links_ok HL.out)
        rw [hw]
        clear hw m0 m1 ml
        go_wp2_with fail
        go_loopg [27, 7, 9] ls.length (fun g i s _ wr => CaRel ls a t w1 g i s wr)
        case atStart => exact ⟨0, by omega, rfl, rfl, Below.refl _ _⟩
        case round =>
          obtain ⟨k, hk, rfl, rfl, hb⟩ := hrel
          have hbw := bon hbw1 hb
          by_cases hg : gk = 0
          · obtain rfl : k = ls.length := by omega
            rw [List.take_length]
            clear hk hg
            go_wp2_with fail
            go_ret2
            exact ⟨by rw [HZ1.out, HD.out]; rfl, hbw⟩
          · have hlt : k < ls.length := by omega
            obtain ⟨g, o, rfl, hgl, c0, c1, c2⟩ := (HF.out.below hbw).link hlt rfl
            have hM := (hb.block w.heap.size (block_lt X1.out)).trans X1.out
            have m0 := (stream_cells hM).1
            have m1 := (stream_cells hM).2.1
            have ml := block_lt hM
            have hbd := car_bd HOK.out a t ha k (by omega)
            have hx := HOK.out.each _ (List.getElem_mem hlt)
            have hln := linC_nonneg hx a t
            have hlb := linC_bd hx a t ha
            have HS := Lib.hid (car_snoc ls a t hlt)
            have HK := Lib.hid hk
            have hgk : gk ≠ 0 := hg
            clear hk hg hM
            generalize ls[k] = x at *
            obtain ⟨xf, xt, xs⟩ := x
            obtain ⟨x0, x1, x2, x3, x4⟩ : 0 ≤ xf ∧ xf < xt ∧ xt ≤ 345686400000 ∧ 1 ≤ xs ∧ xs ≤ 1000000 := hx
            have HLC : Hid (linC (xf, xt, xs) a t = max 0 (min xt t - max xf a) * xs) := Int.mul_comm _ _
            have hp0 : 0 ≤ max 0 (min xt t - max xf a) * xs := by rw [← HLC.out]; exact hln
            have hp1 : max 0 (min xt t - max xf a) * xs ≤ 345686400000000000 := by rw [← HLC.out]; exact hlb
            have hw1 : IntKind.i64.wrap (max 0 (min xt t - max xf a) * xs) = max 0 (min xt t - max xf a) * xs := by
              rw [IntKind.wrap_i64]; omega
            clear hln hlb
            obtain ⟨p0, p1⟩ := hbd
            have hb3 := bbox hb (.cells #[.int .i64 xf, .int .i64 xt, .int .i64 xs] 110)
            generalize car (ls.take k) a t = s0 at *
            have hk20 : s0 ≤ 20 * 345686400000000000 := by omega
            clear p1
            go_wp2_with fail
            go_roundg (gk - 1)
            case measure => omega
            case rel => exact ⟨k + 1, by have := HK.out; omega, by go_num, by rw [HS.out, HLC.out], hb3⟩
  · have HD := Lib.hid (show carF ls a t = linksF ls by rw [carF, if_neg hl])
    have HL := Lib.hid (show (linksF ls == 0) = false from beq_eq_false_iff_ne.2 hl)
    have hl' : (linksF ls != 0) = true := bne_iff_ne.2 hl
    clear hl
    go_wp2_with fail
    go_ret2
    exact ⟨by rw [HZ1.out, HD.out, HL.out]; rfl, hbw1⟩
attribute [local go_sem ↓] Go.wp_at_zero Go.wp_at_succ
theorem own_len {w : World} {base n size m c : Nat} {e : TypeId} {A : Option Addr} {xs : List Value} (h : w.ownsRow base e size (.slice A m c) n xs) : m = n := by
  rcases h.2 with ⟨hv, hn⟩ | ⟨g, cap, cur, hv, _⟩
  · simp at hv; omega
  · simp at hv; omega
structure ManSt (b M : Nat) (w : World) (mb : Nat) (no : Int) (g n c k : Nat) (wx : World) : Prop where
  m : wx.heap[mb]? = some (.cells #[.int .i64 no, .slice (some ⟨g, 0, none⟩) n c] 113 (0, 0))
  r : wx.heap[w.heap.size]? = some (.cells #[.int .i64 0, .slice none 0 0] 113 (0, 0))
  f : FiWf wx (w.heap.size + 1) 1 (.slice (some ⟨g, 0, none⟩) n c) n
  go : Goes 25 b M k w wx
section
variable {b M : Nat} {w : World} {mb : Nat} {no : Int} {g n c k j : Nat} {wA wB : World}
theorem ManSt.goes (h : ManSt b M w mb no g n c k wA) (hlt : b < w.heap.size) (hmb : w.heap.size ≤ mb) (hg : Goes 25 b (M + k) j wA wB) : ManSt b M w mb no g n c (k + j) wB := by
  have bk : ∀ x, x < wA.heap.size → x ≠ b → wB.heap[x]? = wA.heap[x]? := fun x h1 h2 => hg.gb.block x h1 (fun e => by injection e with e; omega)
  exact ⟨(bk _ (block_lt h.m) (by omega)).trans h.m, (bk _ (block_lt h.r) (by omega)).trans h.r, h.f.keep (fun x hx h2 => bk x h2 (by omega)), h.go.trans hg (Nat.le_refl _)⟩
theorem ManSt.below (h : ManSt b M w mb no g n c k wA) (hb : Below wA.heap.size wA wB) : ManSt b M w mb no g n c k wB :=
  ⟨(hb.block _ (block_lt h.m)).trans h.m, (hb.block _ (block_lt h.r)).trans h.r, h.f.below hb, h.go.below hb⟩
theorem ManSt.alloc (h : ManSt b M w mb no g n c k wA) (o : Obj) : ManSt b M w mb no g n c k (wA.alloc o) := h.below ((Below.refl _ _).alloc (Nat.le_refl _) o)
theorem ManSt.drew (h : ManSt b M w mb no g n c k wA) : ManSt b M w mb no g n c k wA.drew := ⟨h.m, h.r, h.f, h.go.is, gb_drew h.go.gb⟩
theorem ManSt.cells (h : ManSt b M w mb no g n c k wA) : wA.cell? ⟨mb, 0, none⟩ = some (.int .i64 no) ∧ wA.cell? ⟨mb, 1, none⟩ = some (.slice (some ⟨g, 0, none⟩) n c) ∧ wA.frozen? ⟨mb, 0, none⟩ = false ∧
    wA.cell? ⟨w.heap.size, 0, none⟩ = some (.int .i64 0) ∧ wA.cell? ⟨w.heap.size, 1, none⟩ = some (.slice none 0 0) ∧ wA.frozen? ⟨w.heap.size, 0, none⟩ = false ∧ wA.frozen? ⟨w.heap.size, 1, none⟩ = false :=
  ⟨(stream_cells h.m).1, (stream_cells h.m).2.1, (stream_cells h.m).2.2.1, (stream_cells h.r).1, (stream_cells h.r).2.1, (stream_cells h.r).2.2.1, (stream_cells h.r).2.2.2⟩
end
open Go.RowKit
set_option linter.unusedVariables false
set_option linter.unusedSimpArgs false
theorem infoLink : (Tryz.prog.info? 110).map (fun i => (i.zero, i.size, i.bytes)) = some (some (.agg #[.int .i64 0, .int .i64 0, .int .i64 0]), 3, 24) := by kernel_rfl
def At2 (w : World) (A : Option Addr) (n : Nat) (x y : Nat → Value) : Prop :=
  ∀ i, i < n → ∃ b o, A = some ⟨b, o, none⟩ ∧ b < w.heap.size ∧ w.cell? ⟨b, o + i * 2, none⟩ = some (x i) ∧ w.cell? ⟨b, o + i * 2 + 1, none⟩ = some (y i)
theorem At2.below {w w' : World} {A : Option Addr} {n : Nat} {x y : Nat → Value} (h : At2 w A n x y) (hb : Below w.heap.size w w') : At2 w' A n x y := fun i hi =>
  let ⟨b, o, e, hl, c0, c1⟩ := h i hi
  ⟨b, o, e, Nat.lt_of_lt_of_le hl hb.size, bold hb c0, bold hb c1⟩
open Go.RowKit Go.Sort Go.Lib
theorem flatK_set {α : Type} {enc : α → List Value} {k : Nat} (hk : ∀ x, (enc x).length = k) : ∀ (l : List α) (j i : Nat) (y : α) (v : Value) (hj : j < l.length), i < k → enc y = (enc l[j]).set i v → (l.flatMap enc).set (j * k + i) v = (l.set j y).flatMap enc
  | [], _, _, _, _, hj, _, _ => absurd hj (by simp)
  | x :: r, 0, i, y, v, _, hi, he => by
    rw [List.flatMap_cons, Nat.zero_mul, Nat.zero_add, List.set_append_left _ _ (by rw [hk]; exact hi)]
    simp only [List.set_cons_zero, List.flatMap_cons]
    rw [he]; rfl
  | x :: r, j + 1, i, y, v, hj, hi, he => by
    rw [List.flatMap_cons, List.set_append_right _ _ (by rw [hk, Nat.add_mul]; omega), hk, show (j + 1) * k + i - k = j * k + i by rw [Nat.add_mul]; omega, flatK_set hk r j i y v (by simpa using hj) hi (by simpa using he)]
    simp
theorem own_frozen {w : World} {base e size n c : Nat} {g : Nat} {xs : List Value} (h : w.ownsRow base e size (.slice (some ⟨g, 0, none⟩) n c) n xs) (j : Nat) : w.frozen? ⟨g, j, none⟩ = false := by
  rcases h.2 with ⟨h0, _⟩ | ⟨g', cap, cur, hv, _, hh, _, _, _, hx⟩
  · cases h0
  · simp only [Value.slice.injEq, Option.some.injEq, Addr.mk.injEq] at hv
    obtain ⟨⟨rfl, _, _⟩, _, _⟩ := hv
    simp [World.frozen?, hh]
theorem own_at {w : World} {base e size n c : Nat} {A : Option Addr} {xs : List Value} (h : w.ownsRow base e size (.slice A n c) n xs) (hn : 0 < n) : ∃ g, A = some ⟨g, 0, none⟩ ∧ base ≤ g ∧ g < w.heap.size := by
  rcases h.2 with ⟨h0, h1⟩ | ⟨g', cap, cur, hv, hb, hh, _, _, _, hx⟩
  · omega
  · simp only [Value.slice.injEq] at hv
    exact ⟨g', hv.1, hb, block_lt hh⟩
attribute [local go_sem ↓] Go.wp_at_zero Go.wp_at_succ
def GoesLinks (b M : Nat) (w : World) (e : Ending) (w' : World) : Prop :=
  ∃ (v : Value) (ls : List LinkD), ls.length ≤ 4 ∧ LkBd ls ∧ e = .returned v ∧ w'.ownsRow w.heap.size 110 3 v ls.length (ls.flatMap lkC) ∧ Goes 25 b M 30 w w'
def GlRel (b M : Nat) (w : World) (n : Nat) (g : Nat) (out at_ i : Value) (wr : World) : Prop :=
  ∃ (k : Nat) (ls : List LinkD) (t : Int), k + g = n ∧ i = .int .i64 k ∧ at_ = .int .i64 t ∧ 0 ≤ t ∧ t ≤ 100 + 100 * k ∧ ls.length = k ∧ LkBd ls ∧ wr.ownsRow w.heap.size 110 3 out k (ls.flatMap lkC) ∧ Goes 25 b M (2 + 3 * k) w wr
theorem lkBd_snoc {ls : List LinkD} (h : LkBd ls) {a b s : Int} (ha : -1000000000000000 ≤ a ∧ a ≤ 1000000000000000) (hb : -1000000000000000 ≤ b ∧ b ≤ 1000000000000000) (hs : -1000000000000000 ≤ s ∧ s ≤ 1000000000000000) : LkBd (ls ++ [(a, b, s)]) := by
  intro x hx
  rcases List.mem_append.1 hx with hx | hx
  · exact h x hx
  · simp at hx; subst hx; exact ⟨ha, hb, hs⟩
theorem heap_new' (w : World) (o : Obj) (n : Nat) (hn : n = w.heap.size) : (w.alloc o).heap[n]? = some o := by subst hn; exact heap_alloc_new w o
structure LkSt (b M : Nat) (w : World) (g n c : Nat) (ls : List LinkD) (k : Nat) (wx : World) : Prop where
  own : wx.ownsRow w.heap.size 110 3 (.slice (some ⟨g, 0, none⟩) n c) n (ls.flatMap lkC)
  go : Goes 25 b M k w wx
section
variable {b M : Nat} {w : World} {g n c : Nat} {ls : List LinkD} {k j i : Nat} {wA wB : World}
theorem LkSt.goes (h : LkSt b M w g n c ls k wA) (hlt : b < w.heap.size) (hg : Goes 25 b (M + k) j wA wB) : LkSt b M w g n c ls (k + j) wB :=
  ⟨ownsRow_gb h.own hg.gb hlt, h.go.trans hg (Nat.le_refl _)⟩
theorem LkSt.alloc (h : LkSt b M w g n c ls k wA) (o : Obj) : LkSt b M w g n c ls k (wA.alloc o) := ⟨h.own.alloc o, h.go.alloc o⟩
theorem LkSt.drew (h : LkSt b M w g n c ls k wA) : LkSt b M w g n c ls k wA.drew := ⟨h.own, h.go.is, gb_drew h.go.gb⟩
theorem LkSt.cells (h : LkSt b M w g n c ls k wA) (hn : ls.length = n) {x0 x1 x2 : Int} (hx : ls[i]? = some (x0, x1, x2)) : wA.cell? ⟨g, i * 3, none⟩ = some (.int .i64 x0) ∧ wA.cell? ⟨g, i * 3 + 1, none⟩ = some (.int .i64 x1) ∧ wA.cell? ⟨g, i * 3 + 2, none⟩ = some (.int .i64 x2) ∧ g < wA.heap.size ∧ wA.frozen? ⟨g, i * 3, none⟩ = false ∧ wA.frozen? ⟨g, i * 3 + 1, none⟩ = false ∧ wA.frozen? ⟨g, i * 3 + 2, none⟩ = false := by
  subst hn
  obtain ⟨hi, hx⟩ := List.getElem?_eq_some_iff.1 hx
  obtain ⟨g2, o2, e2, hl, c0, c1, c2⟩ := (Lst.of_own h.own).link hi rfl
  simp only [Option.some.injEq, Addr.mk.injEq] at e2
  obtain ⟨rfl, rfl, _⟩ := e2
  simp only [Nat.zero_add, hx] at c0 c1 c2
  exact ⟨c0, c1, c2, hl, own_frozen h.own _, own_frozen h.own _, own_frozen h.own _⟩
theorem lkBd_set {ls : List LinkD} (h : LkBd ls) {x : LinkD} (hx : (-1000000000000000 ≤ x.1 ∧ x.1 ≤ 1000000000000000) ∧ (-1000000000000000 ≤ x.2.1 ∧ x.2.1 ≤ 1000000000000000) ∧ -1000000000000000 ≤ x.2.2 ∧ x.2.2 ≤ 1000000000000000) (i : Nat) : LkBd (ls.set i x) := by
  intro y hy
  rcases List.mem_or_eq_of_mem_set hy with h1 | rfl
  · exact h y h1
  · exact hx
theorem LkSt.stores (h : LkSt b M w g n c ls k wA) (hn : n = ls.length) (hi : i < ls.length) (hlt : b < w.heap.size) (hg : w.heap.size ≤ g) (p q s : Int) :
    LkSt b M w g n c (ls.set i (p, q, s)) k (((wA.setCell ⟨g, i * 3, none⟩ (.int .i64 p)).setCell ⟨g, i * 3 + 1, none⟩ (.int .i64 q)).setCell ⟨g, i * 3 + 2, none⟩ (.int .i64 s)) := by
  subst hn
  have o1 := (h.own.stored (i * 3) (.int .i64 p)).1
  have o2 := (o1.stored (i * 3 + 1) (.int .i64 q)).1
  have o3 := (o2.stored (i * 3 + 2) (.int .i64 s)).1
  have e1 := flatK_set (enc := lkC) (k := 3) (fun _ => rfl) ls i 0 (p, ls[i].2) (.int .i64 p) hi (by omega) rfl
  have e2 := flatK_set (enc := lkC) (k := 3) (fun _ => rfl) (ls.set i (p, ls[i].2)) i 1 (p, q, ls[i].2.2) (.int .i64 q) (by simpa using hi) (by omega) (by simp [lkC])
  have e3 := flatK_set (enc := lkC) (k := 3) (fun _ => rfl) ((ls.set i (p, ls[i].2)).set i (p, q, ls[i].2.2)) i 2 (p, q, s) (.int .i64 s) (by simpa using hi) (by omega) (by simp [lkC])
  rw [Nat.add_zero] at e1
  rw [e1, e2, e3, List.set_set, List.set_set] at o3
  exact ⟨o3, ((h.go.setCell hlt (p := ⟨g, i * 3, none⟩) hg _).setCell hlt (p := ⟨g, i * 3 + 1, none⟩) hg _).setCell hlt (p := ⟨g, i * 3 + 2, none⟩) hg _⟩
end
set_option maxRecDepth 100000 in
set_option maxHeartbeats 8000000 in
theorem glinks_any (b M : Nat) (w : World) (hs : IsStream 25 w b M) (hM : M ≤ 100000000000000) :
    Calls Tryz.prog 37 #[.pointer (some ⟨b, 0, none⟩)] w (GoesLinks b M w) := by
  have hlt := hs.lt
  obtain ⟨i0, hi, hz0, hz1, hz2⟩ := info_parts infoLink
  go_enter Tryz.func37, Tryz.ntmps37
  go_wp2_with fail
  refine (pick_any b M w.heap.size [0, 0, 5, 20] 4 4 _ 3 (hs.alloc _) (by omega) rfl (by omega) (by omega) (heap_alloc_new _ _) (by omega)).mono ?_
  rintro e w1 ⟨t0, ht, rfl, g1⟩
  have ht0 : 0 ≤ t0 ∧ t0 ≤ 20 := by simp at ht; omega
  obtain ⟨ta, tb⟩ := ht0
  have G1 := g1.of_alloc
  clear ht g1
  go_wp2_with fail
  refine (range_any b (M + 1) 0 4 _ G1.is (by omega) (by omega) (by omega) (by omega)).mono ?_
  rintro e w2 ⟨r, ⟨hr0, hr1⟩, rfl, g2⟩
  obtain ⟨n, rfl⟩ := Int.eq_ofNat_of_zero_le hr0
  have G2 := G1.trans g2 (Nat.le_refl _)
  clear G1 g2
  go_wp2_with fail
  go_loopg [3, 4, 5, 12] n (fun g out at_ _ i wr => GlRel b M w n g out at_ i wr)
  case atStart => exact ⟨0, [], t0, by omega, rfl, rfl, by omega, by omega, rfl, (fun x hx => by cases hx), World.ownsRow_nil _ _ _ _, G2⟩
  case round =>
    obtain ⟨k, ls, t, hk, rfl, rfl, hta, htb, hl, hbd, hown, hgo⟩ := hrel
    have HL := Lib.hid hl
    have HB := Lib.hid hbd
    have hz := hgo.gb.size
    clear hl hbd
    by_cases hg : gk = 0
    rotate_left
    · have HK := Lib.hid hk
      have hkn : k < n := by omega
      clear hk
      go_wp2_with fail
      refine (pick_any b (M + (2 + 3 * k)) wr.heap.size [1, 3, 10, 50] 4 4 _ 3 (hgo.is.alloc _) (by omega) rfl (by omega) (by omega) (heap_alloc_new _ _) (by omega)).mono ?_
      rintro e w3 ⟨d, hd, rfl, g3⟩
      have hd0 : 1 ≤ d ∧ d ≤ 50 := by simp at hd; omega
      obtain ⟨da, db⟩ := hd0
      have G3 := hgo.trans g3.of_alloc (Nat.le_refl _)
      have O3 := ownsRow_gb (hown.alloc (.cells (List.map (Value.int .i64) [1, 3, 10, 50]).toArray 3)) g3.gb hlt
      have z3 := G3.gb.size
      clear hd g3 hgo hown
      go_wp2_with fail
      refine (pick_any b (M + (2 + 3 * k + 1)) w3.heap.size [1, 2, 5, 10, 300] 5 5 _ 3 (G3.is.alloc _) (by omega) rfl (by omega) (by omega) (heap_alloc_new _ _) (by omega)).mono ?_
      rintro e w4 ⟨s, hd, rfl, g4⟩
      have hs0 : 1 ≤ s ∧ s ≤ 300 := by simp at hd; omega
      obtain ⟨sa, sb⟩ := hs0
      have G4 := G3.trans g4.of_alloc (Nat.le_refl _)
      have O4 := ownsRow_gb (O3.alloc (.cells (List.map (Value.int .i64) [1, 2, 5, 10, 300]).toArray 3)) g4.gb hlt
      have z4 := G4.gb.size
      clear hd g4 G3 O3 z3
      go_wp2_with (at_builtin; refine wpList_push (W := w4) (lo := w.heap.size) rfl _ _ 84 rfl 110 i0 _ 3 24 Tryz.underlying84 hi hz0 hz1 hz2 rfl (by decide) (by decide) _ _ _ rfl (Below.refl _ _) z4 O4 [.int .i64 t, .int .i64 (t + d), .int .i64 s] rfl rfl rfl rfl (by omega) ?_)
      intro v5 w5 O5 b5 _ _
      have G5 := G4.belowAt (Nat.le_refl _) hlt b5
      have HO5 := Lib.hid O5
      have z5 := G5.gb.size
      clear O4 O5 b5 G4
      go_wp2_with fail
      refine (pick_any b (M + (2 + 3 * k + 1 + 1)) w5.heap.size [0, 1, 10] 3 3 _ 3 (G5.is.alloc _) (by omega) rfl (by omega) (by omega) (heap_alloc_new _ _) (by omega)).mono ?_
      rintro e w6 ⟨d2, hd, rfl, g6⟩
      have hd2 : 0 ≤ d2 ∧ d2 ≤ 10 := by simp at hd; omega
      obtain ⟨dc, dd⟩ := hd2
      have G6 := G5.trans g6.of_alloc (Nat.le_refl _)
      have HO6 := Lib.hid (ownsRow_gb (HO5.out.alloc (.cells (List.map (Value.int .i64) [0, 1, 10]).toArray 3)) g6.gb hlt)
      clear hd g6 HO5 G5
      go_wp2_with fail
      go_roundg (gk - 1)
      case measure => omega
      case rel => exact ⟨k + 1, ls ++ [(t, t + d, s)], t + d + d2, by have := HK.out; omega, by go_num, rfl, by omega, by omega, by have := HL.out; simp [this], lkBd_snoc HB.out ⟨by omega, by omega⟩ ⟨by omega, by omega⟩ ⟨by omega, by omega⟩, by rw [List.flatMap_append]; exact HO6.out, G6.more (by omega)⟩
    · obtain rfl : k = n := by omega
      have HEND : Hid (∀ (v : Value) (ls' : List LinkD) (w' : World), ls'.length = k → LkBd ls' → w'.ownsRow w.heap.size 110 3 v k (ls'.flatMap lkC) → Goes 25 b M 30 w w' → GoesLinks b M w (.returned v) w') := fun v ls' w' h1 h2 h3 h4 => ⟨v, ls', by omega, h2, rfl, by rw [h1]; exact h3, h4⟩
      clear hk
      by_cases hk0 : k = 0
      · subst hk0
        obtain ⟨A, m, c, rfl⟩ := own_form hown
        obtain rfl := own_len hown
        have HO := Lib.hid hown
        clear hown
        go_wp2_with fail
        go_ret
        exact HEND.out _ ls _ HL.out HB.out HO.out (hgo.more (by omega))
      · obtain ⟨A, m, c, rfl⟩ := own_form hown
        obtain rfl := (own_len hown).symm
        have hkp : 0 < k := by omega
        obtain ⟨g, rfl, hgb, hgl⟩ := own_at hown hkp
        clear hk0
        go_wp2_with fail
        refine (flip_any b (M + (2 + 3 * k)) 15 _ hgo.is (by omega) (by omega) (by omega)).mono ?_
        rintro e w3 ⟨fl, rfl, g3⟩
        have st : LkSt b M w g k c ls (2 + 3 * k + 1) w3 := (LkSt.mk hown hgo).goes hlt g3
        clear g3 hown hgo hgl
        cases fl
        · go_wp2_with fail
          go_ret
          exact HEND.out _ ls _ HL.out HB.out st.own (st.go.more (by omega))
        · go_wp2_with fail
          refine (next_any b (M + (2 + 3 * k + 1)) k _ st.go.is (by omega) (by omega) (by omega)).mono ?_
          rintro e w4 ⟨r, ⟨hi0, hi1⟩, rfl, g4⟩
          obtain ⟨i, rfl⟩ := Int.eq_ofNat_of_zero_le hi0
          have st4 := st.goes hlt g4
          have hik : i < k := by omega
          clear g4 st
          obtain ⟨⟨x0, x1, x2⟩, hx⟩ : ∃ x, ls[i]? = some x := ⟨_, List.getElem?_eq_getElem (by have := HL.out; omega)⟩
          have hbx := HB.out _ (List.mem_of_getElem? hx)
          obtain ⟨⟨e0, e1⟩, ⟨e2, e3⟩, e4, e5⟩ : (-1000000000000000 ≤ x0 ∧ x0 ≤ 1000000000000000) ∧ (-1000000000000000 ≤ x1 ∧ x1 ≤ 1000000000000000) ∧ -1000000000000000 ≤ x2 ∧ x2 ≤ 1000000000000000 := hbx
          have HX := Lib.hid hx
          clear hx
          obtain ⟨c0, c1, c2, hgl, f0, f1, f2⟩ := st4.cells HL.out HX.out
          have st := st4.drew
          clear st4
          have z4 : w.heap.size ≤ w4.heap.size := st.go.gb.size
          go_upto_region 11 with fail
          go_region_with (first
              | ((have hb5 := bk5; clear hb5; go_at_call 21; refine (pick_any b (M + (2 + 3 * k + 1 + 1 + 1)) _ [x1, 1, 345686400001, 345686400000] 4 4 _ 3 ?_ ?_ ?_ ?_ ?_ ?_ ?_).mono ?_; (first | exact st.go.is | exact st.go.is.alloc _); (omega); (rfl); (omega); (omega); (first | exact heap_new' _ _ _ (by simp) | exact (bk5.out _ (by simp <;> omega) (fun e => by injection e with e; omega)).trans (heap_new' _ _ _ (by simp)) | exact (bk5.out _ (by simp <;> omega) (fun e => by injection e with e; omega)).trans ((Below.heap_alloc _ _ _ (by simp)).trans (heap_new' _ _ _ (by simp)))); (omega); rintro e w6 ⟨p1, hp1, rfl, g6⟩; have st : LkSt b M w g k c ls (2 + 3 * k + 1 + 1 + 1 + 1) w6 := (by first | exact st.goes hlt g6 | exact (st.alloc _).goes hlt g6); have cc := st.cells HL.out HX.out; obtain ⟨c0, c1, c2, hgl, f0, f1, f2⟩ := cc))
              | ((go_at_call 21; refine (pick_any b (M + (2 + 3 * k + 1 + 1)) _ [x0, -1, 0] 3 3 _ 3 ?_ ?_ ?_ ?_ ?_ ?_ ?_).mono ?_; (first | exact st.go.is.alloc _ | exact (st.go.is.alloc _).alloc _); (omega); (rfl); (omega); (omega); (first | exact heap_new' _ _ _ (by simp) | exact (Below.heap_alloc _ _ _ (by simp)).trans (heap_new' _ _ _ (by simp))); (omega); rintro e w5 ⟨p0, hp0, rfl, g5⟩; have st : LkSt b M w g k c ls (2 + 3 * k + 1 + 1 + 1) w5 := (by first | exact (st.alloc _).goes hlt g5 | exact ((st.alloc _).alloc _).goes hlt g5); have cc := st.cells HL.out HX.out; obtain ⟨c0, c1, c2, hgl, f0, f1, f2⟩ := cc; have z5 : w4.heap.size ≤ w5.heap.size := (by have := g5.gb.size; simp at this; omega); have bk5 := Lib.hid g5.gb.block))
              | ((go_at_call 89; refine (odd_any b (M + (2 + 3 * k + 1 + 1 + 1 + 1)) _ _ _ st.go.is (by omega) (by omega) (by omega) (by omega)).mono ?_; rintro e w7 ⟨p2, ⟨hq0, hq1⟩, rfl, g7⟩; have st : LkSt b M w g k c ls (2 + 3 * k + 1 + 1 + 1 + 1 + 2) w7 := st.goes hlt g7; have cc := st.cells HL.out HX.out; obtain ⟨c0, c1, c2, hgl, f0, f1, f2⟩ := cc)))
          all_goals
            have hp0' : -1000000000000000 ≤ p0 ∧ p0 ≤ 1000000000000000 := by simp at hp0; omega
            have hp1' : -1000000000000000 ≤ p1 ∧ p1 ≤ 1000000000000000 := by simp at hp1; omega
            have hp2' : -1000000000000000 ≤ p2 ∧ p2 ≤ 1000000000000000 := by omega
            have HS := Lib.hid (st.stores HL.out.symm (i := i) (by have := HL.out; omega) hlt hgb p0 p1 p2)
            clear st hp0 hp1
            go_wp2_with fail
            go_ret
            exact HEND.out _ (ls.set i (p0, p1, p2)) _ (by have := HL.out; simpa using this) (lkBd_set HB.out ⟨hp0', hp1', hp2'⟩ i) HS.out.own (HS.out.go.more (by omega))
open Go.RowKit Go.Maps Go.WideMaps
set_option linter.unusedVariables false
set_option linter.unusedSimpArgs false
def hasS (S : List ByteArray) (s : ByteArray) : Bool := S.any fun t => t.toList == s.toList
def IsSet (w : World) (b n : Nat) (S : List ByteArray) : Prop :=
  ∃ D : DataW Unit, w.ownsMap Tryz.prog 9 (plainElem Tryz.prog 4) b n D ∧ ∀ s : ByteArray, D.atKey (litS s) (.lit (.bool false)) = .lit (.bool (hasS S s))
theorem IsSet.lt {w : World} {b n : Nat} {S : List ByteArray} (h : IsSet w b n S) : b < w.heap.size := let ⟨_, h1, _⟩ := h; h1.lt
theorem IsSet.kept {w w' : World} {b n : Nat} {row : Option Nat} {S : List ByteArray} (h : IsSet w b n S) (hg : w.grownBy w' row) (hne : some b ≠ row) : IsSet w' b n S := let ⟨D, h1, h2⟩ := h; ⟨D, h1.kept hg hne, h2⟩
theorem IsSet.alloc {w : World} {b n : Nat} {S : List ByteArray} (h : IsSet w b n S) (o : Obj) : IsSet (w.alloc o) b n S := let ⟨D, h1, h2⟩ := h; ⟨D, h1.alloc o, h2⟩
theorem IsSet.below {w w' : World} {b n : Nat} {S : List ByteArray} (h : IsSet w b n S) (hb : Below w.heap.size w w') : IsSet w' b n S := h.kept (gb_below hb none) (by simp)
theorem IsSet.drewN {w : World} {b n : Nat} {S : List ByteArray} (h : IsSet w b n S) (q : Nat) : IsSet (w.drewN q) b n S := h
theorem IsSet.mono {w : World} {b n n' : Nat} {S : List ByteArray} (h : IsSet w b n S) (hn : n ≤ n') : IsSet w b n' S := let ⟨D, h1, h2⟩ := h; ⟨D, h1.mono hn, h2⟩
open Go.RowKit
def Tab (w : World) : Prop := w.cell? ⟨5, 15, none⟩ = some (.int .u8 4)
theorem Tab.below {w w' : World} (h : Tab w) (hb : Below w.heap.size w w') : Tab w' := (hb.cell (p := ⟨5, 15, none⟩) (World.block_lt_of_cell? w _ h)).trans h
theorem Tab.belowAt {w w' : World} {B : Nat} (h : Tab w) (hb : Below B w w') (hB : 5 < B) : Tab w' := (hb.cell (p := ⟨5, 15, none⟩) hB).trans h
theorem Tab.lt {w : World} (h : Tab w) : 5 < w.heap.size := World.block_lt_of_cell? w _ h
open Go
open Nat renaming reduceAdd → nA, reduceSub → nB, reduceMul → nC, reduceLT → nD, reduceLeDiff → nE, reduceEqDiff → nF, reduceMod → nG, reduceDiv → nH, reducePow → nI
abbrev zP0E : List Nat := [0, 1, 2, 3, 4, 5, 6, 7, 8, 9, 10, 11]
abbrev zP0P : List (Nat × List Nat × List Nat) := []
abbrev zP1E : List Nat := [0, 1, 2, 3, 4, 5, 6, 7, 8, 9, 10, 11]
abbrev zP1P : List (Nat × List Nat × List Nat) := []
attribute [go_sem] zP0E zP0P zP1E zP1P
set_option maxRecDepth 100000
theorem a_outside (x lo hi : Int) (h : Hp) : ACalls Tryz.prog 74 [.v (.int .i64 x), .v (.int .i64 lo), .v (.int .i64 hi)] h (fun r h' => r = .v (.bool (decide (x < lo) || decide (hi < x))) ∧ h' = h) := by
 refine gE Tryz.func74 rfl (by kernel_rfl) 12 rfl fun c => ?_
 (repeat (first | refine gO rfl ?_ | (refine gR fun K1 hK1 => ?_; simp only [go_sem, ↓reduceIte, reduceCtorEq, nA, nB, nC, nD, nE, nF] <;> and_intros <;> first | (apply hK1; clear hK1 K1) | (intros; first | omega | decide | (simp_all <;> omega)) | skip)))
 simp only [Tryz.results74, go_sem, ↓reduceIte, reduceCtorEq, nA, nB, nC, nD, nE, nF]
 exact ⟨_, _, Weak.refl _, Hp.le.refl _, rfl, rfl⟩
def encI (x : Int) : List AV := [.v (.int .i64 x)]
def rowI (l : List Int) : AV := .row 1 (l.map encI) none
def strm (l : List Int) (a : Int) : AO := .cells [rowI l, .v (.int .i64 a)]
def Hp.st (h : Hp) (i : Nat) (l : List Int) (a : Int) : Hp := { h with H := upd h.H i (some (strm l a)) }
inductive LT where
 | mk (kind : Int) (item : ByteArray) (long many : Int) (kids : List LT) (shares : List Int)
instance : Inhabited LT := ⟨.mk 0 default 0 0 [] []⟩
def encL : LT → List AV
 | .mk kind item long many kids shares => [.v (.int .i64 kind), .v (.string item), .v (.int .i64 long), .v (.int .i64 many), .row 6 (kids.map encL) none, .row 1 (shares.map encI) none]
theorem encL_eq (kind : Int) (item : ByteArray) (long many : Int) (kids : List LT) (shares : List Int) : encL (.mk kind item long many kids shares) = [.v (.int .i64 kind), .v (.string item), .v (.int .i64 long), .v (.int .i64 many), .row 6 (kids.map encL) none, .row 1 (shares.map encI) none] := by rw [encL]
theorem encL_len (t : LT) : (encL t).length = 6 := by cases t; rw [encL_eq]; rfl
def WL (cs ds : List AV) : Prop := cs.length = ds.length ∧ ∀ j, Weak (cs.getD j .junk) (ds.getD j .junk)
theorem WL.nil : WL [] [] := ⟨rfl, fun _ => Weak.refl _⟩
theorem WL.cons {a b : AV} {cs ds : List AV} (h : Weak a b) (k : WL cs ds) : WL (a :: cs) (b :: ds) := ⟨by simp [k.1], fun j => by
 cases j with
 | zero => exact h
 | succ j => exact k.2 j⟩
theorem Weak.agg {cs ds : List AV} (h : WL cs ds) : Weak (.agg cs) (.agg ds) := fun G v hr => by
 cases hr with
 | agg _ vs u hl hu hr h1 =>
  refine .agg _ vs u (by rw [hl, h.1]) (fun j hj => hu j (by rw [h.1]; exact hj)) (fun j hj => ?_) (fun j hj => h1 j (by rw [h.1]; exact hj))
  have hj' : j < cs.length := by rw [h.1]; exact hj
  have := h.2 j G _ (by rw [List.getD_eq_getElem?_getD, List.getElem?_eq_getElem hj']; exact hr j hj')
  rwa [List.getD_eq_getElem?_getD, List.getElem?_eq_getElem hj] at this
def NB (x : Int) : Prop := -5000000000000000 ≤ x ∧ x ≤ 5000000000000000
def LB : Nat → LT → Prop
 | 0, _ => False
 | d + 1, .mk kind item long many kids shares => NB kind ∧ item.size ≤ 2 ∧ NB long ∧ NB many ∧ kids.length ≤ 3 ∧ shares.length ≤ 4 ∧ (∀ x ∈ shares, NB x) ∧ ∀ k ∈ kids, LB d k
theorem LB.mono : ∀ {d e : Nat} {t : LT}, LB d t → d ≤ e → LB e t
 | 0, _, _, h, _ => h.elim
 | d + 1, 0, _, _, h => by omega
 | d + 1, e + 1, .mk .., h, hd => ⟨h.1, h.2.1, h.2.2.1, h.2.2.2.1, h.2.2.2.2.1, h.2.2.2.2.2.1, h.2.2.2.2.2.2.1, fun k hk => (h.2.2.2.2.2.2.2 k hk).mono (by omega)⟩
def OLd (b : Bool) (T : Nat → Option TO) (S : Nat → Prop) : Nat → List AV → Prop
 | 0, _ => False
 | d + 1, cs => ∃ (kind : Int) (item : ByteArray) (long many : Int) (K Sh : AV), cs = [.v (.int .i64 kind), .v (.string item), .v (.int .i64 long), .v (.int .i64 many), K, Sh] ∧
   (NB kind ∧ item.size ≤ 2 ∧ NB long ∧ NB many) ∧
   (K = .v (.slice none 0 0) ∨ (∃ q css, S q ∧ T q = some (.cont 6 css) ∧ K = .arr 6 q css.length ∧ 0 < css.length ∧ css.length ≤ 3 ∧ ∀ c ∈ css, OLd b T S d c) ∨ (b = false ∧ ∃ css, K = .row 6 css none ∧ css.length ≤ 3 ∧ ∀ c ∈ css, OLd b T S d c)) ∧
   (Sh = .v (.slice none 0 0) ∨ ∃ (xs : List Int) (k : Nat), Sh = .row 1 (xs.map encI) (some k) ∧ xs.length ≤ 5 ∧ (∀ x ∈ xs, NB x) ∧ (b = true → S k ∧ T k = some (.tail xs.length) ∧ xs.length ≤ 4))
theorem OLd.len {b : Bool} {T : Nat → Option TO} {S : Nat → Prop} {d : Nat} {cs : List AV} (h : OLd b T S d cs) : cs.length = 6 := by
 cases d with
 | zero => exact h.elim
 | succ d => obtain ⟨_, _, _, _, _, _, rfl, _⟩ := h; rfl
theorem OLd.keep {b : Bool} {T T' : Nat → Option TO} {S : Nat → Prop} (hT : ∀ k, S k → (∃ x, T k = some (.cont 6 x)) → T' k = T k) (hs : b = true → ∀ k n, T k = some (.tail n) → T' k = some (.tail n)) : ∀ {d : Nat} {cs : List AV}, OLd b T S d cs → OLd b T' S d cs
 | 0, _, h => h.elim
 | d + 1, cs, ⟨kind, item, long, many, K, Sh, e, h1, h2, h3⟩ => by
  refine ⟨kind, item, long, many, K, Sh, e, h1, ?_, ?_⟩
  ·rcases h2 with h2 | ⟨q, css, hq, hTq, hK, hp, hl, hc⟩ | ⟨hbf, css, hK, hl, hc⟩
   ·exact .inl h2
   ·exact .inr (.inl ⟨q, css, hq, by rw [hT q hq ⟨css, hTq⟩]; exact hTq, hK, hp, hl, fun c hc' => (hc c hc').keep hT hs⟩)
   ·exact .inr (.inr ⟨hbf, css, hK, hl, fun c hc' => (hc c hc').keep hT hs⟩)
  ·rcases h3 with h3 | ⟨xs, k, h3, hl, hx, hb⟩
   ·exact .inl h3
   ·exact .inr ⟨xs, k, h3, hl, hx, fun hb' => ⟨(hb hb').1, hs hb' k _ (hb hb').2.1, (hb hb').2.2⟩⟩
theorem OLd.more {b : Bool} {T : Nat → Option TO} {S S' : Nat → Prop} (hS : ∀ k, S k → S' k) : ∀ {d : Nat} {cs : List AV}, OLd b T S d cs → OLd b T S' d cs
 | 0, _, h => h.elim
 | d + 1, cs, ⟨kind, item, long, many, K, Sh, e, h1, h2, h3⟩ => by
  have h3' : Sh = .v (.slice none 0 0) ∨ ∃ (xs : List Int) (k : Nat), Sh = .row 1 (xs.map encI) (some k) ∧ xs.length ≤ 5 ∧ (∀ x ∈ xs, NB x) ∧ (b = true → S' k ∧ T k = some (.tail xs.length) ∧ xs.length ≤ 4) := by
   rcases h3 with h3 | ⟨xs, k, h3, h4, h5, h6⟩
   ·exact .inl h3
   ·exact .inr ⟨xs, k, h3, h4, h5, fun hb => ⟨hS k (h6 hb).1, (h6 hb).2⟩⟩
  refine ⟨kind, item, long, many, K, Sh, e, h1, ?_, h3'⟩
  rcases h2 with h2 | ⟨q, css, hq, hTq, hK, hp, hl, hc⟩ | ⟨hbf, css, hK, hl, hc⟩
  ·exact .inl h2
  ·exact .inr (.inl ⟨q, css, hS q hq, hTq, hK, hp, hl, fun c hc' => (hc c hc').more hS⟩)
  ·exact .inr (.inr ⟨hbf, css, hK, hl, fun c hc' => (hc c hc').more hS⟩)
theorem RepL.of6 {G G' : Gh} {a b c d e f a' b' c' d' e' f' : AV} {us : List Value} (h : RepL G [a, b, c, d, e, f] us) (h0 : ∀ x, Rep G a x → Rep G' a' x) (h1 : ∀ x, Rep G b x → Rep G' b' x) (h2 : ∀ x, Rep G c x → Rep G' c' x) (h3 : ∀ x, Rep G d x → Rep G' d' x)
  (h4 : ∀ x, Rep G e x → Rep G' e' x) (h5 : ∀ x, Rep G f x → Rep G' f' x) : RepL G' [a', b', c', d', e', f'] us := by
 refine ⟨h.1, fun j hj hj' => ⟨?_, (h.2 j hj hj').2⟩⟩
 have h9 := (h.2 j hj hj').1
 match j, hj with
 | 0, _ => exact h0 _ h9
 | 1, _ => exact h1 _ h9
 | 2, _ => exact h2 _ h9
 | 3, _ => exact h3 _ h9
 | 4, _ => exact h4 _ h9
 | 5, _ => exact h5 _ h9
 | j + 6, hj => simp at hj; omega
def LC : Nat → LT → Prop
 | 0, _ => False
 | d + 1, .mk kind item long many kids shares => NB kind ∧ item.size ≤ 2 ∧ NB long ∧ NB many ∧ kids.length ≤ 3 ∧ shares.length ≤ 5 ∧ (∀ x ∈ shares, NB x) ∧ ∀ k ∈ kids, LC d k
theorem LC.mono : ∀ {d e : Nat} {t : LT}, LC d t → d ≤ e → LC e t
 | 0, _, _, h, _ => h.elim
 | d + 1, 0, _, _, h => by omega
 | d + 1, e + 1, .mk .., h, hd => ⟨h.1, h.2.1, h.2.2.1, h.2.2.2.1, h.2.2.2.2.1, h.2.2.2.2.2.1, h.2.2.2.2.2.2.1, fun k hk => (h.2.2.2.2.2.2.2 k hk).mono (by omega)⟩
theorem LB.lc : ∀ {d : Nat} {t : LT}, LB d t → LC d t
 | 0, _, h => h.elim
 | d + 1, .mk .., h => ⟨h.1, h.2.1, h.2.2.1, h.2.2.2.1, h.2.2.2.2.1, by have := h.2.2.2.2.2.1; omega, h.2.2.2.2.2.2.1, fun k hk => (h.2.2.2.2.2.2.2 k hk).lc⟩
theorem OLd.list {b : Bool} {T : Nat → Option TO} {S : Nat → Prop} {G G' : Gh} {d : Nat} (ih : ∀ cs, OLd b T S d cs → ∃ t, LC d t ∧ ∀ us, RepL G cs us → RepL G' (encL t) us) : ∀ (css : List (List AV)) (_ : ∀ c ∈ css, OLd b T S d c),
  ∃ ts : List LT, ts.length = css.length ∧ (∀ t ∈ ts, LC d t) ∧ ∀ us, RepL G css.flatten us → RepL G' (ts.map encL).flatten us
 | [], _ => ⟨[], rfl, by simp, fun us h => by cases us with | nil => exact RepL.nil _ | cons => have := h.1; simp at this⟩
 | c :: css, h => by
  obtain ⟨t, ht, hr⟩ := ih c (h c (by simp))
  obtain ⟨ts, hl, hts, hrs⟩ := OLd.list ih css fun c hc => h c (by simp [hc])
  refine ⟨t :: ts, by simp [hl], by simpa using ⟨ht, hts⟩, fun us hu => ?_⟩
  have h1 := hu.take c.length
  have h2 := hu.drop c.length
  simp only [List.flatten_cons, List.take_left, List.drop_left] at h1 h2
  have := (hr _ h1).append (hrs _ h2)
  rw [List.take_append_drop] at this
  exact this
theorem OLd.freeze {b : Bool} {T : Nat → Option TO} {S : Nat → Prop} {G G' : Gh} (hle : GLe G G') (hf : Fzs T S G G') : ∀ (d : Nat) (cs : List AV), OLd b T S d cs → ∃ t, LC d t ∧ ∀ us, RepL G cs us → RepL G' (encL t) us
 | 0, _, h => h.elim
 | d + 1, cs, ⟨kind, item, long, many, K, Sh, e, ⟨b1, b2, b3, b4⟩, h2, h3⟩ => by
  subst e
  have hK : ∃ ts : List LT, ts.length ≤ 3 ∧ (∀ t ∈ ts, LC d t) ∧ ∀ x, Rep G K x → Rep G' (.row 6 (ts.map encL) none) x := by
   have hz : ∀ ts : List LT, ∀ y ∈ ts.map encL, y.length = 6 := fun ts y hy => by
    obtain ⟨t, _, rfl⟩ := List.mem_map.1 hy
    exact encL_len t
   rcases h2 with rfl | ⟨q, css, hq, hT, rfl, _, hl, hc⟩ | ⟨_, css, rfl, hl, hc⟩
   ·exact ⟨[], by simp, by simp, fun x hx => Weak.nil 6 0 0 ⟨rfl, rfl⟩ G' x (hx.mono hle)⟩
   ·obtain ⟨ts, htl, htb, hts⟩ := OLd.list (OLd.freeze hle hf d) css hc
    exact ⟨ts, by omega, htb, fun x hx => hf q 6 css x hq hT hx _ (by simpa using htl) (hz ts) hts⟩
   ·obtain ⟨ts, htl, htb, hts⟩ := OLd.list (OLd.freeze hle hf d) css hc
    exact ⟨ts, by omega, htb, fun x hx => hx.rowFlat hle (by simpa using htl) (hz ts) hts⟩
  have hS : ∃ xs : List Int, xs.length ≤ 5 ∧ (∀ x ∈ xs, NB x) ∧ ∀ x, Rep G Sh x → Rep G' (.row 1 (xs.map encI) none) x := by
   rcases h3 with rfl | ⟨xs, k, rfl, hl, hx, _⟩
   ·exact ⟨[], by simp, by simp, fun x hx => Weak.nil 1 0 0 ⟨rfl, rfl⟩ G' x (hx.mono hle)⟩
   ·exact ⟨xs, hl, hx, fun x hx => Weak.row _ _ _ G' x (hx.mono hle)⟩
  obtain ⟨ts, hl, htb, hts⟩ := hK
  obtain ⟨xs, hxl, hxb, hxs⟩ := hS
  refine ⟨.mk kind item long many ts xs, ⟨b1, b2, b3, b4, hl, hxl, hxb, htb⟩, fun us hu => ?_⟩
  rw [encL_eq]
  exact hu.of6 (fun x hx => hx.mono hle) (fun x hx => hx.mono hle) (fun x hx => hx.mono hle) (fun x hx => hx.mono hle) hts hxs
def keyByte (i n : Nat) : Bool := (decide (97 ≤ n) && decide (n ≤ 122)) || (decide (0 < i) && ((decide (48 ≤ n) && decide (n ≤ 57)) || n == 45 || n == 95))
def keyTo (s : ByteArray) : Nat → Bool
  | 0 => true
  | k + 1 => keyTo s k && keyByte k (s.data.toList.getD k 0).toNat
def keyB (s : ByteArray) : Bool := keyTo s s.size && decide (1 ≤ s.size) && decide (s.size ≤ 40)
theorem keyTo_le (s : ByteArray) {k m : Nat} (h : k ≤ m) (hm : keyTo s m = true) : keyTo s k = true := by
  induction m with
  | zero => obtain rfl : k = 0 := by omega
            rfl
  | succ m ih =>
    by_cases e : k = m + 1
    · rw [e]; exact hm
    · rw [keyTo, Bool.and_eq_true] at hm
      exact ih (by omega) hm.1
theorem keyB_no (s : ByteArray) {k : Nat} (h : k ≤ s.size) (hk : keyTo s k = false) : keyB s = false := by
  have h2 : keyTo s s.size = false := by
    cases h3 : keyTo s s.size with
    | false => rfl
    | true => rw [keyTo_le s h h3] at hk; cases hk
  simp [keyB, h2]
theorem getD_byte (s : ByteArray) (k : Nat) (h : k < s.size) : s.data.toList.getD k 0 = s[k] := by
  have h' : k < s.data.toList.length := h
  simp [List.getD, List.getElem?_eq_getElem h']; rfl
set_option maxRecDepth 100000 in
set_option maxHeartbeats 2000000 in
theorem isKey_any (s : ByteArray) (hsz : s.size ≤ 1000000000000) (w : World) :
    Calls Tryz.prog 151 #[.string s] w fun e w' => e = .returned (.bool (keyB s)) ∧ w = w' := by
  go_enter Tryz.func151, Tryz.ntmps151
  go_wp2_with fail
  go_loopg [3, 4] s.size (fun g i _ wr => ∃ k : Nat, k + g = s.size ∧ i = .int .i64 k ∧ keyTo s k = true ∧ w = wr)
  case atStart => exact ⟨0, by omega, rfl, rfl, rfl⟩
  case round =>
    obtain ⟨k, hk, rfl, hkey, rfl⟩ := hrel
    have HK := Lib.hid hkey
    clear hkey
    by_cases hg : gk = 0
    · obtain rfl : k = s.size := by omega
      by_cases h0 : s.size = 0
      · have e0 : s = ⟨#[]⟩ := by
          obtain ⟨⟨l⟩⟩ := s
          have : l = [] := List.eq_nil_of_length_eq_zero h0
          rw [this]
        subst e0
        go_wp2_with fail
        go_ret
        exact ⟨rfl, rfl⟩
      · have hne : s.toList.isEmpty = false := by
          rw [ByteArray.toList_eq]
          cases hl : s.data.toList with
          | nil => exact absurd (show s.data.toList.length = 0 by rw [hl]; rfl) h0
          | cons _ _ => rfl
        go_wp2_with fail
        go_ret
        refine ⟨?_, rfl⟩
        have e1 : keyB s = decide ((s.size : Int) ≤ 40) := by
          have h1 : decide (1 ≤ s.size) = true := by simp; omega
          rw [keyB, HK.out, h1, Bool.true_and, Bool.true_and, Bool.eq_iff_iff]; simp; omega
        rw [e1]; rfl
    · have hlt : k < s.size := by omega
      have HG := Lib.hid (show keyTo s (k + 1) = (keyTo s k && keyByte k s[k].toNat) by rw [keyTo, getD_byte s k hlt])
      go_upto_region 5 with fail
      generalize s[k].toNat = n at *
      go_cut [40] (fun s40 wx => s40 = .bool (!keyByte k n) ∧ w = wx)
      case first =>
        by_cases c1 : n < 97
        · by_cases ck : k ≤ 0
          · have HV := Lib.hid (show keyByte k n = false by simp [keyByte]; omega)
            go_wp2_with fail
            go_meet
            exact ⟨by rw [HV.out]; first | rfl | (simp; omega), rfl⟩
          · have ck' : 0 < k := by omega
            by_cases c2 : n < 48
            · by_cases c3 : n = 45
              · have b3 : ((n : Int) == 45) = true := by simp; omega
                have HV := Lib.hid (show keyByte k n = true by simp [keyByte]; omega)
                go_wp2_with fail
                go_meet
                exact ⟨by rw [HV.out]; first | rfl | (simp; omega), rfl⟩
              · have b3 : ((n : Int) == 45) = false := by simp; omega
                have b4 : ((n : Int) == 95) = false := by simp; omega
                have HV := Lib.hid (show keyByte k n = false by simp [keyByte]; omega)
                go_wp2_with fail
                go_meet
                exact ⟨by rw [HV.out]; first | rfl | (simp; omega), rfl⟩
            · by_cases c3 : n ≤ 57
              · have HV := Lib.hid (show keyByte k n = true by simp [keyByte]; omega)
                go_wp2_with fail
                go_meet
                exact ⟨by rw [HV.out]; first | rfl | (simp; omega), rfl⟩
              · have b3 : ((n : Int) == 45) = false := by simp; omega
                by_cases c4 : n = 95
                · have b4 : ((n : Int) == 95) = true := by simp; omega
                  have HV := Lib.hid (show keyByte k n = true by simp [keyByte]; omega)
                  go_wp2_with fail
                  go_meet
                  exact ⟨by rw [HV.out]; first | rfl | (simp; omega), rfl⟩
                · have b4 : ((n : Int) == 95) = false := by simp; omega
                  have HV := Lib.hid (show keyByte k n = false by simp [keyByte]; omega)
                  go_wp2_with fail
                  go_meet
                  exact ⟨by rw [HV.out]; first | rfl | (simp; omega), rfl⟩
        · by_cases c2 : n ≤ 122
          · have HV := Lib.hid (show keyByte k n = true by simp [keyByte]; omega)
            go_wp2_with fail
            go_meet
            exact ⟨by rw [HV.out]; first | rfl | (simp; omega), rfl⟩
          · by_cases ck : k ≤ 0
            · have HV := Lib.hid (show keyByte k n = false by simp [keyByte]; omega)
              go_wp2_with fail
              go_meet
              exact ⟨by rw [HV.out]; first | rfl | (simp; omega), rfl⟩
            · have ck' : 0 < k := by omega
              have b3 : ((n : Int) == 45) = false := by simp; omega
              have b4 : ((n : Int) == 95) = false := by simp; omega
              have HV := Lib.hid (show keyByte k n = false by simp [keyByte]; omega)
              go_wp2_with fail
              go_meet
              exact ⟨by rw [HV.out]; first | rfl | (simp; omega), rfl⟩
      case rest =>
        obtain ⟨rfl, rfl⟩ := hcut
        rcases Bool.eq_false_or_eq_true (keyByte k n) with c | c
        · rw [c]
          go_wp2_with fail
          go_roundg (gk - 1)
          case measure => omega
          case rel => exact ⟨k + 1, by omega, by go_num, by rw [HG.out, HK.out, c]; rfl, rfl⟩
        · rw [c]
          go_wp2_with fail
          go_ret
          refine ⟨?_, rfl⟩
          have : keyB s = false := keyB_no s (show k + 1 ≤ s.size by omega) (by rw [HG.out, c, Bool.and_false])
          rw [this]; rfl
theorem acalls_pure {P : Program} {f : Nat} (hok : fnOk P f = true) (xs : List Value) {v : Value} (h1 : v.oneCell' = true) (hc : ∀ w, Calls P f xs.toArray w fun e w' => e = .returned v ∧ RowKit.Below w.heap.size w w') (h : Hp) : ACalls P f (xs.map .v) h (fun r h' => r = .v v ∧ h' = h) := by
 refine ⟨hok, fun G w vs hs hl ha => ?_⟩
 have e : vs = xs.toArray := by
  apply Array.ext
  ·simpa using hl
  ·intro j hj hj'
   have hjx : j < (xs.map AV.v).length := by rw [← hl]; exact hj
   have := ha j hjx
   simp only [List.getElem_map] at this
   have h2 : vs.getD j undef = vs[j] := by simp [Array.getD, hj]
   rw [h2] at this
   simp only [List.getElem_toArray]
   generalize vs[j] = y at this
   cases this
   rfl
 subst e
 refine (hc w).mono ?_
 rintro _ w' ⟨rfl, hb⟩
 have hb' : ∀ b, b < w.heap.size → w'.heap[b]? = w.heap[b]? := fun b hb2 => hb.block b hb2
 exact ⟨_, h, G, v, rfl, ⟨rfl, rfl⟩, GLe.refl _, Fr.below (Fr.refl _ _ _) hb' hb.os hb.tape hb.output hb.size, hs.below hb', .v _ h1⟩
theorem a_isKey (s : ByteArray) (hs : s.size ≤ 1000000000000) (h : Hp) : ACalls Tryz.prog 151 [.v (.string s)] h (fun r h' => r = .v (.bool (keyB s)) ∧ h' = h) :=
 acalls_pure (by kernel_rfl) [.string s] rfl (fun w => (isKey_any s hs w).mono fun e w' ⟨h1, h2⟩ => ⟨h1, by subst h2; exact ⟨rfl, rfl, rfl, Nat.le_refl _, fun _ _ => rfl⟩⟩) h
inductive AT where
 | mk (i c : Nat) (kids : List AT)
instance : Inhabited AT := ⟨.mk 0 0 []⟩
inductive PS where
 | mk (had : Int) (of : List Int) (kids : List PS)
instance : Inhabited PS := ⟨.mk 0 [] []⟩
def AT.id : AT → Nat
 | .mk i _ _ => i
def idsT : AT → List Nat
 | .mk i _ ks => i :: (ks.map idsT).flatten
def toksT : AT → List Nat
 | .mk _ c ks => c :: (ks.map toksT).flatten
theorem idsT_eq (i c : Nat) (ks : List AT) : idsT (.mk i c ks) = i :: (ks.map idsT).flatten := by rw [idsT]
theorem toksT_eq (i c : Nat) (ks : List AT) : toksT (.mk i c ks) = c :: (ks.map toksT).flatten := by rw [toksT]
theorem idsT_kid {i c : Nat} {ks : List AT} {j : Nat} (h : j < ks.length) {x : Nat} (hx : x ∈ idsT (ks.getD j default)) : x ∈ idsT (.mk i c ks) := by
 rw [idsT_eq]
 refine List.mem_cons_of_mem _ (List.mem_flatten.2 ⟨_, List.mem_map.2 ⟨_, ?_, rfl⟩, hx⟩)
 rw [List.getD_eq_getElem?_getD, List.getElem?_eq_getElem h]; exact List.getElem_mem _
theorem toksT_kid {i c : Nat} {ks : List AT} {j : Nat} (h : j < ks.length) {x : Nat} (hx : x ∈ toksT (ks.getD j default)) : x ∈ toksT (.mk i c ks) := by
 rw [toksT_eq]
 refine List.mem_cons_of_mem _ (List.mem_flatten.2 ⟨_, List.mem_map.2 ⟨_, ?_, rfl⟩, hx⟩)
 rw [List.getD_eq_getElem?_getD, List.getElem?_eq_getElem h]; exact List.getElem_mem _
structure RK where
 ex : LT → List AV
 cf : Int → List Int → List Int
def kidsC (az : List AT) (K : AV) : Prop := az = [] ∧ K = .v (.slice none 0 0) ∨ ∃ tk, K = .row 1 (az.map fun a => [.ptr a.id 0]) tk
def RAt (X : RK) (h : Hp) : Nat → LT → AT → PS → Prop
 | 0, _, _, _ => False
 | d + 1, .mk kind item long many kids shares, .mk i c az, .mk p cs ks =>
  (∃ K, h.H i = some (.cells ([.v (.int .i64 kind), .v (.string item), .v (.int .i64 long), .v (.int .i64 many), .row 6 (kids.map encL) none, .row 1 (shares.map encI) none, K, .v (.int .i64 p), .arr 1 c kids.length] ++ X.ex (.mk kind item long many kids shares))) ∧ kidsC az K) ∧
  h.T c = some (.cont 1 ((X.cf kind cs).map encI)) ∧ ((X.cf kind cs).length = kids.length ∧ cs.length = kids.length ∧ az.length = kids.length ∧ ks.length = kids.length) ∧
  ∀ j, j < kids.length → RAt X h d (kids.getD j default) (az.getD j default) (ks.getD j default)
theorem RAt.frame {X : RK} {h h' : Hp} : ∀ {d : Nat} {t : LT} {a : AT} {s : PS}, RAt X h d t a s → (∀ i ∈ idsT a, h'.H i = h.H i) → (∀ c ∈ toksT a, h'.T c = h.T c) → RAt X h' d t a s
 | 0, _, _, _, h, _, _ => h.elim
 | d + 1, .mk kind item long many kids shares, .mk i c az, .mk p cs ks, ⟨⟨K, h1, hK⟩, h2, h3, h4⟩, hi, hc =>
  ⟨⟨K, by rw [hi i (by rw [idsT_eq]; simp)]; exact h1, hK⟩, by rw [hc c (by rw [toksT_eq]; simp)]; exact h2, h3, fun j hj =>
   (h4 j hj).frame (fun x hx => hi x (idsT_kid (by omega) hx)) (fun x hx => hc x (toksT_kid (by omega) hx))⟩
def PSB : Nat → LT → PS → Int → Prop
 | 0, _, _, _ => True
 | d + 1, .mk _ _ _ _ kids _, .mk p cs ks, n => (0 ≤ p ∧ p ≤ n) ∧ (∀ x ∈ cs, 0 ≤ x ∧ x ≤ n) ∧ ∀ j, j < kids.length → PSB d (kids.getD j default) (ks.getD j default) n
theorem PSB.mono {n m : Int} (hnm : n ≤ m) : ∀ {d : Nat} {t : LT} {s : PS}, PSB d t s n → PSB d t s m
 | 0, _, _, _ => trivial
 | d + 1, .mk .., .mk p cs ks, ⟨h1, h2, h3⟩ => ⟨by omega, fun x hx => by have := h2 x hx; omega, fun j hj => (h3 j hj).mono hnm⟩
section
variable {P : Program} {c : Cx} {Q : Exit → St → Prop} {s : St}
end
open Go
set_option linter.unusedVariables false
set_option linter.unusedSimpArgs false
open Nat renaming reduceAdd → nA, reduceSub → nB, reduceMul → nC, reduceLT → nD, reduceLeDiff → nE, reduceEqDiff → nF, reduceMod → nG, reduceDiv → nH, reducePow → nI
abbrev zP2E : List Nat := [0, 1, 2, 3, 4, 5, 6, 7, 8, 9, 10, 11]
abbrev zP2P : List (Nat × List Nat × List Nat) := []
attribute [go_sem] zP2E zP2P
set_option maxRecDepth 100000
set_option maxHeartbeats 8000000
theorem acalls_pureT {P : Program} {f : Nat} (hok : fnOk P f = true) (xs rs : List Value) (h1 : ∀ v ∈ rs, v.oneCell' = true) (hc : ∀ w, Calls P f xs.toArray w fun e w' => e = .returned (.tuple rs.toArray) ∧ RowKit.Below w.heap.size w w') (h : Hp) : ACalls P f (xs.map .v) h (fun r h' => r = .tup (rs.map .v) ∧ h' = h) := by
 refine ⟨hok, fun G w vs hs hl ha => ?_⟩
 have e : vs = xs.toArray := by
  apply Array.ext
  ·simpa using hl
  ·intro j hj hj'
   have hjx : j < (xs.map AV.v).length := by rw [← hl]; exact hj
   have := ha j hjx
   simp only [List.getElem_map] at this
   have h2 : vs.getD j undef = vs[j] := by simp [Array.getD, hj]
   rw [h2] at this
   simp only [List.getElem_toArray]
   generalize vs[j] = y at this
   cases this
   rfl
 subst e
 refine (hc w).mono ?_
 rintro _ w' ⟨rfl, hb⟩
 have hb' : ∀ b, b < w.heap.size → w'.heap[b]? = w.heap[b]? := fun b hb2 => hb.block b hb2
 refine ⟨_, h, G, .tuple rs.toArray, rfl, ⟨rfl, rfl⟩, GLe.refl _, Fr.below (Fr.refl _ _ _) hb' hb.os hb.tape hb.output hb.size, hs.below hb', ?_⟩
 refine .tup _ _ (fun j => rs.getD j undef) (by simp) (fun j hj => ?_) (fun j hj => ?_)
 ·have hj' : j < rs.length := by simpa using hj
  simp [List.getD_eq_getElem?_getD, hj']
 ·have hj' : j < rs.length := by simpa using hj
  simp only [List.getElem_map, List.getD_eq_getElem?_getD, List.getElem?_eq_getElem hj', Option.getD_some]
  exact .v _ (h1 _ (List.getElem_mem _))
theorem ACalls.frz {P : Program} {f : Nat} {args : List AV} {h : Hp} {z : Nat} {xs : List (List AV)} (hc : ACalls P f args h (fun r h' => ∃ k, r = .arr z k xs.length ∧ h'.H = h.H ∧ h.T k = none ∧ h'.T k = some (.cont z xs) ∧ ∀ t, h.T t ≠ none → h'.T t = h.T t)) (hz : ∀ y ∈ xs, y.length = z) :
  ACalls P f args h (fun r h' => r = .row z xs none ∧ h' = h) := by
 refine hc.gup ?_
 rintro _ h' G w v ⟨k, rfl, hH, hk, hT, hold⟩ hs hr
 obtain ⟨G', hle, hfr, hs2, hfz⟩ := hs.freeze (h2 := h) (fun j => h.T j = none) hH.symm (fun j hj => hj) (fun j hj => (hold j hj).symm)
 exact ⟨_, h, G', ⟨rfl, rfl⟩, hle, hfr, hs2, hfz k z xs v hk hT hr xs rfl hz fun us hus => hus.mono hle⟩
theorem bel_id (w : World) : RowKit.Below w.heap.size w w := ⟨rfl, rfl, rfl, Nat.le_refl _, fun _ _ => rfl⟩
def sN : ByteArray := ⟨#[110]⟩
def sT : ByteArray := ⟨#[123, 110, 125]⟩
theorem c_cutPrefix (p : ByteArray) (h : Hp) (hp : Lib.trimPrefix sN.data.toList p.data.toList = [110] ∧ Lib.hasPrefix sN.data.toList p.data.toList = false) : ACalls Tryz.prog 313 [.v (.string sN), .v (.string p)] h (fun r h' => r = .tup [.v (.string sN), .v (.bool false)] ∧ h' = h) :=
 acalls_pureT (by kernel_rfl) [.string sN, .string p] [.string sN, .bool false] (by simp [Value.oneCell']) (fun w => (Tryz.strings_CutPrefix sN p w).mono fun e w' ⟨h1, h2⟩ => ⟨by rw [h1, hp.1, hp.2]; rfl, by rw [h2]; exact bel_id w⟩) h
theorem c_count (h : Hp) : ACalls Tryz.prog 400 [.v (.string sN), .v (.string ⟨#[58]⟩)] h (fun r h' => r = .v (.int .i64 0) ∧ h' = h) :=
 acalls_pure (by kernel_rfl) [.string sN, .string ⟨#[58]⟩] rfl (fun w => (Tryz.strings_Count_one sN 58 w).mono fun e w' ⟨h1, h2⟩ => ⟨by rw [h1]; rfl, by rw [h2]; exact bel_id w⟩) h
theorem c_index (h : Hp) : ACalls Tryz.prog 411 [.v (.string sN), .v (.string ⟨#[46]⟩)] h (fun r h' => r = .v (.int .i64 (-1)) ∧ h' = h) :=
 acalls_pure (by kernel_rfl) [.string sN, .string ⟨#[46]⟩] rfl (fun w => (Tryz.stringslite_Index_one sN 46 w).mono fun e w' ⟨h1, h2⟩ => ⟨by rw [h1]; rfl, by rw [h2]; exact bel_id w⟩) h
theorem c_indexByte (h : Hp) : ACalls Tryz.prog 150 [.v (.string sT), .v (.int .u8 125)] h (fun r h' => r = .v (.int .i64 2) ∧ h' = h) :=
 acalls_pure (by kernel_rfl) [.string sT, .int .u8 125] rfl (fun w => (Tryz.strings_IndexByte sT 125 w).mono fun e w' ⟨h1, h2⟩ => ⟨by rw [h1]; rfl, by rw [h2]; exact bel_id w⟩) h
theorem c_indexAny (h : Hp) : ACalls Tryz.prog 245 [.v (.string sT), .v (.string ⟨#[123, 125]⟩)] h (fun r h' => r = .v (.int .i64 0) ∧ h' = h) :=
 acalls_pure (by kernel_rfl) [.string sT, .string ⟨#[123, 125]⟩] rfl (fun w => (Tryz.strings_IndexAny_short sT ⟨#[123, 125]⟩ w (by decide) (by decide) (fun j b hb => by
  have hm : b ∈ sT.data.toList := List.mem_of_getElem? hb
  have hall : ∀ x ∈ sT.data.toList, x.toNat < 128 := by decide
  exact hall b hm)).mono fun e w' ⟨h1, h2⟩ => ⟨by rw [h1]; rfl, by
   obtain ⟨pos, rfl⟩ := h2
   exact (bel_id w).alloc (Nat.le_refl _) _⟩) h
theorem c_cutL (h : Hp) : ACalls Tryz.prog 398 [.v (.string sN), .v (.string ⟨#[46]⟩)] h (fun r h' => r = .tup [.v (.string sN), .v (.string ⟨#[]⟩), .v (.bool false)] ∧ h' = h) := by
 have h1 := fun h => c_index h
 refine gE Tryz.func398 rfl (by kernel_rfl) 21 rfl fun c => ?_
 (repeat (first | refine gO rfl ?_ | ((first | refine gR ?_ | (with_reducible refine wM ?_ ?_) | ((with_reducible refine xS ?_); refine uD 3 zM10 zP2E zP2P 23 rfl (by kernel_rfl) ?_)) <;> ((try with_reducible intro K1 hK1); simp only [go_sem, ↓reduceIte, reduceCtorEq, nA, nB, nC, nD, nE, nF, Int.reduceBEq, Int.reduceTMod, Int.reduceTDiv, Int.reduceMul, Int.reduceBNe, Int.reduceLT, Int.reduceLE, Int.reduceAdd, Int.reduceSub, Int.reduceNeg, decide_true, decide_false, Bool.true_and, Bool.false_and, Bool.and_true, Bool.and_false, Bool.or_false, Bool.or_true, Bool.true_or, Bool.false_or, Bool.not_true, Bool.not_false, true_implies, false_implies, true_and, and_true, Int.reduceToNat] <;> and_intros <;> first | (apply hK1; clear hK1 K1) | (intros; first | omega | decide) | skip)) | (refine awp_cond (t := _) rfl (fun hq => ?_) (fun hq => ?_) <;> first | (exact absurd hq (by decide)) | (cases hq; done) | (clear hq)) | (refine awp_un 8 ?_) | (with_reducible exact rfl) | (with_reducible exact trivial) | ((with_reducible show uside _); first | exact True.intro | exact rfl) | ((with_reducible show opS _ _); exact True.intro) | (refine ⟨AV.v (.bool true), rfl, hK1 _ ?_⟩; clear hK1 K1) | (refine (h1 _).mono ?_; rintro _ hz ⟨rfl, hh⟩; (first | (refine hK1 _ ?_) | (refine ⟨rfl, hK1 _ ?_⟩)); clear hK1 K1; rw [hh]; clear hh hz)))
 simp only [Tryz.results398, go_sem, ↓reduceIte, reduceCtorEq, nA, nB, nC, nD, nE, nF]
 exact ⟨_, _, Weak.refl _, Hp.le.refl _, rfl, rfl⟩
theorem c_cut (h : Hp) : ACalls Tryz.prog 383 [.v (.string sN), .v (.string ⟨#[46]⟩)] h (fun r h' => r = .tup [.v (.string sN), .v (.string ⟨#[]⟩), .v (.bool false)] ∧ h' = h) := by
 have h1 := fun h => c_cutL h
 refine gE Tryz.func383 rfl (by kernel_rfl) 11 rfl fun c => ?_
 (repeat (first | refine gO rfl ?_ | (refine gR fun K1 hK1 => ?_; simp only [go_sem, ↓reduceIte, reduceCtorEq, nA, nB, nC, nD, nE, nF, Int.reduceBEq, Int.reduceTMod, Int.reduceTDiv, Int.reduceMul, Int.reduceBNe, Int.reduceLT, Int.reduceLE, Int.reduceAdd, Int.reduceSub, Int.reduceNeg, decide_true, decide_false, Bool.true_and, Bool.false_and, Bool.and_true, Bool.and_false, Bool.or_false, Bool.or_true, Bool.true_or, Bool.false_or, Bool.not_true, Bool.not_false, true_implies, false_implies, true_and, and_true, Int.reduceToNat] <;> and_intros <;> first | (apply hK1; clear hK1 K1) | (intros; first | omega | decide) | skip) | (refine awp_cond (t := _) rfl (fun hq => ?_) (fun hq => ?_) <;> first | (exact absurd hq (by decide)) | (cases hq; done) | (clear hq)) | (refine awp_un 8 ?_) | (with_reducible exact rfl) | (with_reducible exact trivial) | ((with_reducible show uside _); first | exact True.intro | exact rfl) | ((with_reducible show opS _ _); exact True.intro) | (refine ⟨AV.v (.bool true), rfl, hK1 _ ?_⟩; clear hK1 K1) | (refine (h1 _).mono ?_; rintro _ hz ⟨rfl, hh⟩; (first | (refine hK1 _ ?_) | (refine ⟨rfl, hK1 _ ?_⟩)); clear hK1 K1; rw [hh]; clear hh hz)))
 simp only [Tryz.results383, go_sem, ↓reduceIte, reduceCtorEq, nA, nB, nC, nD, nE, nF]
 exact ⟨_, _, Weak.refl _, Hp.le.refl _, rfl, rfl⟩
theorem c_genSplit (h : Hp) : ACalls Tryz.prog 384 [.v (.string sN), .v (.string ⟨#[58]⟩), .v (.int .i64 0), .v (.int .i64 (-1))] h (fun r h' => r = .row 1 [[.v (.string sN)]] none ∧ h' = h) := by
 refine ACalls.frz ?_ (by simp)
 have h1 := fun h => c_count h
 have hs : (sN.size : Int) = 1 := rfl
 have e2 : min (1 : Int) (1 + 1) = 1 := by decide
 have e3 : min (1 : Int) 2 = 1 := by decide
 have e1 : ((⟨#[58]⟩ : ByteArray) == ⟨#[]⟩) = false := by decide
 refine gE Tryz.func384 rfl (by kernel_rfl) 62 rfl fun c => ?_
 (repeat (first | refine gO rfl ?_ | (refine gM zM11 fun K1 hK1 => ?_; simp only [go_sem, ↓reduceIte, reduceCtorEq, nA, nB, nC, nD, nE, nF, Int.reduceBEq, Int.reduceTMod, Int.reduceTDiv, Int.reduceMul, Int.reduceBNe, Int.reduceLT, Int.reduceLE, Int.reduceAdd, Int.reduceSub, Int.reduceNeg, decide_true, decide_false, Bool.true_and, Bool.false_and, Bool.and_true, Bool.and_false, Bool.or_false, Bool.or_true, Bool.true_or, Bool.false_or, Bool.not_true, Bool.not_false, true_implies, false_implies, true_and, and_true, Int.reduceToNat, e1, hs, e2, e3] <;> and_intros <;> first | (apply hK1; clear hK1 K1) | (intros; first | omega | decide) | skip) | (refine awp_cond (t := _) rfl (fun hq => ?_) (fun hq => ?_) <;> first | (exact absurd hq (by decide)) | (cases hq; done) | (clear hq)) | (refine awp_un 8 ?_) | (with_reducible exact rfl) | (with_reducible exact trivial) | ((with_reducible show uside _); first | exact True.intro | exact rfl) | ((with_reducible show opS _ _); exact True.intro) | (refine ⟨AV.v (.bool true), rfl, hK1 _ ?_⟩; clear hK1 K1) | (refine (h1 _).mono ?_; rintro _ hz ⟨rfl, hh⟩; (first | (refine hK1 _ ?_) | (refine ⟨rfl, hK1 _ ?_⟩)); clear hK1 K1; rw [hh]; clear hh hz)))
 intro k hk
 refine hK1 _ ?_; clear hK1 K1
 (repeat (first | refine gO rfl ?_ | (refine gM zM11 fun K1 hK1 => ?_; simp only [go_sem, ↓reduceIte, reduceCtorEq, nA, nB, nC, nD, nE, nF, Int.reduceBEq, Int.reduceTMod, Int.reduceTDiv, Int.reduceMul, Int.reduceBNe, Int.reduceLT, Int.reduceLE, Int.reduceAdd, Int.reduceSub, Int.reduceNeg, decide_true, decide_false, Bool.true_and, Bool.false_and, Bool.and_true, Bool.and_false, Bool.or_false, Bool.or_true, Bool.true_or, Bool.false_or, Bool.not_true, Bool.not_false, true_implies, false_implies, true_and, and_true, Int.reduceToNat, upd_same, List.replicate] <;> and_intros <;> first | (apply hK1; clear hK1 K1) | (intros; first | omega | decide) | skip) | (refine awp_cond (t := _) rfl (fun hq => ?_) (fun hq => ?_) <;> first | (exact absurd hq (by decide)) | (cases hq; done) | (clear hq)) | (refine awp_un 8 ?_) | (with_reducible exact rfl) | (with_reducible exact trivial) | ((with_reducible show uside _); first | exact True.intro | exact rfl) | ((with_reducible show opS _ _); exact True.intro) | (refine ⟨AV.v (.bool true), rfl, hK1 _ ?_⟩; clear hK1 K1)))
 all_goals first | exact True.intro | exact rfl | skip
 intro q hq
 refine hK1 _ ?_; clear hK1 K1
 (repeat (first | refine gO rfl ?_ | (refine gM zM11 fun K1 hK1 => ?_; simp only [go_sem, ↓reduceIte, reduceCtorEq, nA, nB, nC, nD, nE, nF, Int.reduceBEq, Int.reduceTMod, Int.reduceTDiv, Int.reduceMul, Int.reduceBNe, Int.reduceLT, Int.reduceLE, Int.reduceAdd, Int.reduceSub, Int.reduceNeg, decide_true, decide_false, Bool.true_and, Bool.false_and, Bool.and_true, Bool.and_false, Bool.or_false, Bool.or_true, Bool.true_or, Bool.false_or, Bool.not_true, Bool.not_false, true_implies, false_implies, true_and, and_true, Int.reduceToNat] <;> and_intros <;> first | (apply hK1; clear hK1 K1) | (intros; first | omega | decide) | skip) | (refine awp_cond (t := _) rfl (fun hq => ?_) (fun hq => ?_) <;> first | (exact absurd hq (by decide)) | (cases hq; done) | (clear hq)) | (refine awp_un 8 ?_) | (with_reducible exact rfl) | (with_reducible exact trivial) | ((with_reducible show uside _); first | exact True.intro | exact rfl) | ((with_reducible show opS _ _); exact True.intro) | (refine ⟨AV.v (.bool true), rfl, hK1 _ ?_⟩; clear hK1 K1)))
 simp only [Tryz.results384, go_sem, ↓reduceIte, reduceCtorEq, nA, nB, nC, nD, nE, nF]
 replace hk : h.T k = none := hk
 have hq2 : h.T q = none := by
  replace hq : upd h.T k (some (TO.cont 1 [[.v (.string sN)]])) q = none := hq
  by_cases e : q = k
  ·rw [e, upd_same] at hq; cases hq
  ·rwa [upd_other _ _ e] at hq
 refine ⟨_, _, Weak.refl _, Hp.le.refl _, q, rfl, rfl, hq2, upd_same _ _ _, fun t ht => ?_⟩
 have tq : t ≠ q := by rintro rfl; exact ht hq2
 have tk : t ≠ k := by rintro rfl; exact ht hk
 show upd (upd h.T k none) q _ t = _
 rw [upd_other _ _ tq, upd_other _ _ tk]
theorem c_split (h : Hp) : ACalls Tryz.prog 354 [.v (.string sN), .v (.string ⟨#[58]⟩)] h (fun r h' => r = .row 1 [[.v (.string sN)]] none ∧ h' = h) := by
 have h1 := fun h => c_genSplit h
 refine gE Tryz.func354 rfl (by kernel_rfl) 6 rfl fun c => ?_
 (repeat (first | refine gO rfl ?_ | (refine gR fun K1 hK1 => ?_; simp only [go_sem, ↓reduceIte, reduceCtorEq, nA, nB, nC, nD, nE, nF, Int.reduceBEq, Int.reduceTMod, Int.reduceTDiv, Int.reduceMul, Int.reduceBNe, Int.reduceLT, Int.reduceLE, Int.reduceAdd, Int.reduceSub, Int.reduceNeg, decide_true, decide_false, Bool.true_and, Bool.false_and, Bool.and_true, Bool.and_false, Bool.or_false, Bool.or_true, Bool.true_or, Bool.false_or, Bool.not_true, Bool.not_false, true_implies, false_implies, true_and, and_true, Int.reduceToNat] <;> and_intros <;> first | (apply hK1; clear hK1 K1) | (intros; first | omega | decide) | skip) | (refine awp_cond (t := _) rfl (fun hq => ?_) (fun hq => ?_) <;> first | (exact absurd hq (by decide)) | (cases hq; done) | (clear hq)) | (refine awp_un 8 ?_) | (with_reducible exact rfl) | (with_reducible exact trivial) | ((with_reducible show uside _); first | exact True.intro | exact rfl) | ((with_reducible show opS _ _); exact True.intro) | (refine ⟨AV.v (.bool true), rfl, hK1 _ ?_⟩; clear hK1 K1) | (refine (h1 _).mono ?_; rintro _ hz ⟨rfl, hh⟩; (first | (refine hK1 _ ?_) | (refine ⟨rfl, hK1 _ ?_⟩)); clear hK1 K1; rw [hh]; clear hh hz)))
 simp only [Tryz.results354, go_sem, ↓reduceIte, reduceCtorEq, nA, nB, nC, nD, nE, nF]
 exact ⟨_, _, Weak.refl _, Hp.le.refl _, rfl, rfl⟩
theorem c_ixNil (s : ByteArray) (h : Hp) : ACalls Tryz.prog 121 [.v (.slice none 0 0), .v (.string s)] h (fun r h' => r = .v (.int .i64 (-1)) ∧ h' = h) := by
 refine gE Tryz.func121 rfl (by kernel_rfl) 17 rfl fun c => ?_
 (repeat (first | refine gO rfl ?_ | (refine gR fun K1 hK1 => ?_; simp only [go_sem, ↓reduceIte, reduceCtorEq, nA, nB, nC, nD, nE, nF, Int.reduceBEq, Int.reduceTMod, Int.reduceTDiv, Int.reduceMul, Int.reduceBNe, Int.reduceLT, Int.reduceLE, Int.reduceAdd, Int.reduceSub, Int.reduceNeg, decide_true, decide_false, Bool.true_and, Bool.false_and, Bool.and_true, Bool.and_false, Bool.or_false, Bool.or_true, Bool.true_or, Bool.false_or, Bool.not_true, Bool.not_false, true_implies, false_implies, true_and, and_true, Int.reduceToNat] <;> and_intros <;> first | (apply hK1; clear hK1 K1) | (intros; first | omega | decide) | skip) | (refine awp_cond (t := _) rfl (fun hq => ?_) (fun hq => ?_) <;> first | (exact absurd hq (by decide)) | (cases hq; done) | (clear hq)) | (refine awp_un 8 ?_) | (with_reducible exact rfl) | (with_reducible exact trivial) | ((with_reducible show uside _); first | exact True.intro | exact rfl) | ((with_reducible show opS _ _); exact True.intro) | (refine ⟨AV.v (.bool true), rfl, hK1 _ ?_⟩; clear hK1 K1)))
 simp only [Tryz.results121, go_sem, ↓reduceIte, reduceCtorEq, nA, nB, nC, nD, nE, nF]
 exact ⟨_, _, Weak.refl _, Hp.le.refl _, rfl, rfl⟩
theorem c_hasNil (s : ByteArray) (h : Hp) : ACalls Tryz.prog 57 [.v (.slice none 0 0), .v (.string s)] h (fun r h' => r = .v (.bool false) ∧ h' = h) := by
 have h1 := fun h => c_ixNil s h
 refine gE Tryz.func57 rfl (by kernel_rfl) 7 rfl fun c => ?_
 (repeat (first | refine gO rfl ?_ | (refine gR fun K1 hK1 => ?_; simp only [go_sem, ↓reduceIte, reduceCtorEq, nA, nB, nC, nD, nE, nF, Int.reduceBEq, Int.reduceTMod, Int.reduceTDiv, Int.reduceMul, Int.reduceBNe, Int.reduceLT, Int.reduceLE, Int.reduceAdd, Int.reduceSub, Int.reduceNeg, decide_true, decide_false, Bool.true_and, Bool.false_and, Bool.and_true, Bool.and_false, Bool.or_false, Bool.or_true, Bool.true_or, Bool.false_or, Bool.not_true, Bool.not_false, true_implies, false_implies, true_and, and_true, Int.reduceToNat] <;> and_intros <;> first | (apply hK1; clear hK1 K1) | (intros; first | omega | decide) | skip) | (refine awp_cond (t := _) rfl (fun hq => ?_) (fun hq => ?_) <;> first | (exact absurd hq (by decide)) | (cases hq; done) | (clear hq)) | (refine awp_un 8 ?_) | (with_reducible exact rfl) | (with_reducible exact trivial) | ((with_reducible show uside _); first | exact True.intro | exact rfl) | ((with_reducible show opS _ _); exact True.intro) | (refine ⟨AV.v (.bool true), rfl, hK1 _ ?_⟩; clear hK1 K1) | (refine (h1 _).mono ?_; rintro _ hz ⟨rfl, hh⟩; (first | (refine hK1 _ ?_) | (refine ⟨rfl, hK1 _ ?_⟩)); clear hK1 K1; rw [hh]; clear hh hz)))
 simp only [Tryz.results57, go_sem, ↓reduceIte, reduceCtorEq, nA, nB, nC, nD, nE, nF]
 exact ⟨_, _, Weak.refl _, Hp.le.refl _, rfl, rfl⟩
theorem g_ixNo (s : ByteArray) (l : List ByteArray) (h : Hp) (hl : l.length ≤ 100000) (hn : ∀ x ∈ l, (s == x) = false) : ACalls Tryz.prog 121 [.row 1 (l.map fun x => [.v (.string x)]) none, .v (.string s)] h (fun r h' => r = .v (.int .i64 (-1)) ∧ h' = h) := by
 obtain ⟨en, hen⟩ : ∃ en : ByteArray → List AV, en = fun x => [.v (.string x)] := ⟨_, rfl⟩
 rw [← hen]
 have hml : (l.map en).length = l.length := List.length_map _
 refine gE Tryz.func121 rfl (by kernel_rfl) 17 rfl fun c => ?_
 (repeat (first | refine gO rfl ?_ | (refine gR fun K1 hK1 => ?_; simp only [go_sem, ↓reduceIte, reduceCtorEq, nA, nB, nC, nD, nE, nF, hml] <;> and_intros <;> first | (apply hK1; clear hK1 K1) | (intros; first | omega | decide | (simp_all <;> omega)) | skip)))
 refine awp_loopC (rl false [0, 2, 5, 2, 10]) 0 (fun g s' => ∃ j : Nat, g + j = l.length ∧
  s' = ⟨((.row 1 (l.map en) none) :: (.v (.string s)) :: (jnk 5 ((.v (.int .i64 l.length)) :: (.v (.int .i64 j)) :: (jnk 10 [])))), [], h⟩) l.length ⟨0, by omega, rfl⟩ ?_
 rintro g _ ⟨j, hj, rfl⟩
 (repeat (first | refine gO rfl ?_ | (refine gR fun K1 hK1 => ?_; simp only [go_sem, ↓reduceIte, reduceCtorEq, nA, nB, nC, nD, nE, nF] <;> and_intros <;> first | (apply hK1; clear hK1 K1) | (intros; first | omega | decide) | skip)))
 refine awp_cond (t := _) rfl (fun h1 => ?_) (fun h1 => ?_)
 ·simp only [decide_eq_true_eq] at h1
  have hjl : j < l.length := by omega
  have gx : (l.map en).getD j [] = en (l.getD j default) := getD_enc en l j default hjl
  have hno := hn (l.getD j default) (by rw [List.getD_eq_getElem?_getD, List.getElem?_eq_getElem hjl]; exact List.getElem_mem _)
  generalize l.getD j default = y at *
  have gx2 : (l.map en).getD j [] = [.v (.string y)] := by rw [gx, hen]
  (repeat (first | refine gO rfl ?_ | (refine gR fun K1 hK1 => ?_; simp only [go_sem, ↓reduceIte, reduceCtorEq, nA, nB, nC, nD, nE, nF, hml, Int.toNat_natCast, gx2] <;> and_intros <;> first | (apply hK1; clear hK1 K1) | (intros; first | omega | decide) | skip)))
  refine awp_cond (t := _) rfl (fun h9 => by rw [hno] at h9; cases h9) (fun _ => ?_)
  (repeat (first | refine gO rfl ?_ | (refine gR fun K1 hK1 => ?_; simp only [go_sem, ↓reduceIte, reduceCtorEq, nA, nB, nC, nD, nE, nF] <;> and_intros <;> first | (apply hK1; clear hK1 K1) | (intros; first | omega | decide) | skip)))
  exact ⟨g - 1, by omega, j + 1, by omega, rfl⟩
 ·(repeat (first | refine gO rfl ?_ | (refine gR fun K1 hK1 => ?_; simp only [go_sem, ↓reduceIte, reduceCtorEq, nA, nB, nC, nD, nE, nF] <;> and_intros <;> first | (apply hK1; clear hK1 K1) | (intros; first | omega | decide) | skip)))
  simp only [Tryz.results121, go_sem, ↓reduceIte, reduceCtorEq, nA, nB, nC, nD, nE, nF]
  exact ⟨_, _, Weak.refl _, Hp.le.refl _, rfl, rfl⟩
theorem g_hasNo (s : ByteArray) (l : List ByteArray) (h : Hp) (hl : l.length ≤ 100000) (hn : ∀ x ∈ l, (s == x) = false) : ACalls Tryz.prog 57 [.row 1 (l.map fun x => [.v (.string x)]) none, .v (.string s)] h (fun r h' => r = .v (.bool false) ∧ h' = h) := by
 have h1 := fun h => g_ixNo s l h hl hn
 generalize (l.map fun x => [AV.v (.string x)]) = rw0 at *
 refine gE Tryz.func57 rfl (by kernel_rfl) 7 rfl fun c => ?_
 (repeat (first | refine gO rfl ?_ | (refine gR fun K1 hK1 => ?_; simp only [go_sem, ↓reduceIte, reduceCtorEq, nA, nB, nC, nD, nE, nF, Int.reduceBEq, Int.reduceTMod, Int.reduceTDiv, Int.reduceMul, Int.reduceBNe, Int.reduceLT, Int.reduceLE, Int.reduceAdd, Int.reduceSub, Int.reduceNeg, decide_true, decide_false, Bool.true_and, Bool.false_and, Bool.and_true, Bool.and_false, Bool.or_false, Bool.or_true, Bool.true_or, Bool.false_or, Bool.not_true, Bool.not_false, true_implies, false_implies, true_and, and_true, Int.reduceToNat] <;> and_intros <;> first | (apply hK1; clear hK1 K1) | (intros; first | omega | decide) | skip) | (refine awp_cond (t := _) rfl (fun hq => ?_) (fun hq => ?_) <;> first | (exact absurd hq (by decide)) | (cases hq; done) | (clear hq)) | (refine awp_un 8 ?_) | (with_reducible exact rfl) | (with_reducible exact trivial) | ((with_reducible show uside _); first | exact True.intro | exact rfl) | ((with_reducible show opS _ _); exact True.intro) | (refine ⟨AV.v (.bool true), rfl, hK1 _ ?_⟩; clear hK1 K1) | (refine (h1 _).mono ?_; rintro _ hz ⟨rfl, hh⟩; (first | (refine hK1 _ ?_) | (refine ⟨rfl, hK1 _ ?_⟩)); clear hK1 K1; rw [hh]; clear hh hz)))
 simp only [Tryz.results57, go_sem, ↓reduceIte, reduceCtorEq, nA, nB, nC, nD, nE, nF]
 exact ⟨_, _, Weak.refl _, Hp.le.refl _, rfl, rfl⟩
end Go.Proofs.YtidkkmoiolffnaaGreatDoor
