/- Values as trees: what a slot holds, told without addresses; the ghost state; what stays. -/
import Derived.Laws.AppendOwn
import Derived.Laws.MakeOwn
import Derived.Calls
import Derived.Below
import Derived.Laws.Slices
import Derived.IntWalk
import Derived.Laws.Concat
import Derived.Laws.StructEq
import Derived.WalkLawsBesides
namespace Go.Proofs.YtoleejecmefogaaDoor
open Go

/-- A value as a tree. row z xs k: a slice over memory that stays, elements of z cells, k: the right to append; ref cs o: a pointer into memory that stays; ptr i o: into the shared object i; loc j o: into the frame's own object j; arr z k n: the slice of the n elements of z cells of the array k, which may be written; eptr k n i f: into element i of that array, cell f; opt b a: a, if b (in a slot alone). -/
inductive AV where
  | v (x : Value)
  | row (z : Nat) (xs : List (List AV)) (k : Option Nat)
  | ref (cs : List AV) (o : Nat)
  | ptr (i o : Nat)
  | loc (j o : Nat)
  | arr (z k n : Nat)
  | eptr (k n i f : Nat)
  | map (i : Nat)
  | agg (cs : List AV)
  | tup (vs : List AV)
  | fn (f : Nat) (cap : List AV)
  | opt (b : Bool) (a : AV)
  | junk
instance : Inhabited AV := ⟨.junk⟩

structure Tail where
  g : Nat
  m : Nat
  z : Nat
  c : Nat

structure Gh where
  val : Nat → Nat → Option Value
  at_ : Nat → Option Nat
  tl : Nat → Option (Option Tail)
  nx : Nat

def TokOk (G : Gh) (k : Option Nat) (z n : Nat) (x : Value) : Prop :=
  match k with
  | none => True
  | some k => k < G.nx ∧ match G.tl k with
    | none => True
    | some none => n = 0 ∧ ∃ a, x = .slice a 0 0
    | some (some t) => n ≤ t.m ∧ (n = t.m → x = .slice (some ⟨t.g, 0, none⟩) n t.c ∧ z = t.z)

def ArrOk (G : Gh) (z k n : Nat) (x : Value) : Prop :=
  k < G.nx ∧ (∃ a c, x = .slice a n c ∧ n ≤ c ∧ (a = none ∧ n = 0 ∨ ∃ g, a = some ⟨g, 0, none⟩)) ∧ match G.tl k with
    | none => True
    | some none => n = 0 ∧ ∃ a, x = .slice a 0 0
    | some (some t) => n ≤ t.m ∧ (n = t.m → x = .slice (some ⟨t.g, 0, none⟩) n t.c ∧ z = t.z)
def EptrOk (G : Gh) (k n i f : Nat) (x : Value) : Prop :=
  k < G.nx ∧ ∃ b q, x = .pointer (some ⟨b, q + f, none⟩) ∧ match G.tl k with
    | none => True
    | some none => False
    | some (some t) => n ≤ t.m ∧ (n = t.m → b = t.g ∧ q = i * t.z)

inductive Rep (G : Gh) : AV → Value → Prop where
  | v (x : Value) (h : x.oneCell' = true) : Rep G (.v x) x
  | row (z : Nat) (xs : List (List AV)) (k : Option Nat) (g o n c : Nat) (u : Nat → Value) (hn : xs.length = n) (hc : n ≤ c) (hz : ∀ x ∈ xs, x.length = z)
      (hu : ∀ j, j < n * z → G.val g (o + j) = some (u j)) (hr : ∀ j (h : j < xs.flatten.length), Rep G (xs.flatten[j]) (u j)) (h1 : ∀ j, j < n * z → (u j).oneCell' = true)
      (ht : TokOk G k z n (.slice (some ⟨g, o, none⟩) n c)) : Rep G (.row z xs k) (.slice (some ⟨g, o, none⟩) n c)
  | nil (z : Nat) (k : Option Nat) (ht : TokOk G k z 0 (.slice none 0 0)) : Rep G (.row z [] k) (.slice none 0 0)
  | nilA (z : Nat) (a : Option Addr) : Rep G (.row z [] none) (.slice a 0 0)
  | ref (cs : List AV) (o g b : Nat) (u : Nat → Value) (hu : ∀ j, j < cs.length → G.val g (b + j) = some (u j)) (hr : ∀ j (h : j < cs.length), Rep G cs[j] (u j)) (h1 : ∀ j, j < cs.length → (u j).oneCell' = true) :
      Rep G (.ref cs o) (.pointer (some ⟨g, b + o, none⟩))
  | ptr (i o b : Nat) (h : G.at_ i = some b) : Rep G (.ptr i o) (.pointer (some ⟨b, o, none⟩))
  | arr (z k n : Nat) (a : Option Addr) (m c : Nat) (h : ArrOk G z k n (.slice a m c)) : Rep G (.arr z k n) (.slice a m c)
  | eptr (k n i f : Nat) (p : Option Addr) (h : EptrOk G k n i f (.pointer p)) : Rep G (.eptr k n i f) (.pointer p)
  | map (i b : Nat) (h : G.at_ i = some b) : Rep G (.map i) (.map (some b))
  | agg (cs : List AV) (vs : Array Value) (u : Nat → Value) (hl : vs.size = cs.length) (hu : ∀ j, j < cs.length → vs[j]? = some (u j)) (hr : ∀ j (h : j < cs.length), Rep G cs[j] (u j)) (h1 : ∀ j, j < cs.length → (u j).oneCell' = true) :
      Rep G (.agg cs) (.agg vs)
  | tup (cs : List AV) (vs : Array Value) (u : Nat → Value) (hl : vs.size = cs.length) (hu : ∀ j, j < cs.length → vs[j]? = some (u j)) (hr : ∀ j (h : j < cs.length), Rep G cs[j] (u j)) :
      Rep G (.tup cs) (.tuple vs)
  | fn (f : Nat) (cs : List AV) (vs : Array Value) (u : Nat → Value) (hl : vs.size = cs.length) (hu : ∀ j, j < cs.length → vs[j]? = some (u j)) (hr : ∀ j (h : j < cs.length), Rep G cs[j] (u j)) :
      Rep G (.fn f cs) (.func (.func f) #[] vs)
  | junk (x : Value) : Rep G .junk x

inductive TlLe : Option (Option Tail) → Option (Option Tail) → Prop where
  | dead (x) : TlLe x none
  | same (x) : TlLe x x
  | born (t : Tail) (h : 0 < t.m) : TlLe (some none) (some (some t))
  | more (t t' : Tail) (h : t.m < t'.m) : TlLe (some (some t)) (some (some t'))
theorem TlLe.trans {a b c : Option (Option Tail)} (h : TlLe a b) (k : TlLe b c) : TlLe a c := by
  cases h with
  | dead => cases k <;> exact .dead _
  | same => exact k
  | born t h => cases k with
    | dead => exact .dead _
    | same => exact .born _ h
    | more _ t' h' => exact .born _ (by omega)
  | more t t' h => cases k with
    | dead => exact .dead _
    | same => exact .more _ _ h
    | more _ t'' h' => exact .more _ _ (by omega)

structure GLe (G G' : Gh) : Prop where
  val : ∀ g o x, G.val g o = some x → G'.val g o = some x
  at_ : ∀ i b, G.at_ i = some b → G'.at_ i = some b
  nx : G.nx ≤ G'.nx
  tl : ∀ k, k < G.nx → TlLe (G.tl k) (G'.tl k)
theorem GLe.refl (G : Gh) : GLe G G := ⟨fun _ _ _ h => h, fun _ _ h => h, Nat.le_refl _, fun _ _ => .same _⟩
theorem GLe.trans {a b c : Gh} (h : GLe a b) (k : GLe b c) : GLe a c :=
  ⟨fun g o x e => k.val g o x (h.val g o x e), fun i b e => k.at_ i b (h.at_ i b e), Nat.le_trans h.nx k.nx, fun t ht => (h.tl t ht).trans (k.tl t (Nat.lt_of_lt_of_le ht h.nx))⟩
theorem TokOk.mono {G G' : Gh} (hG : GLe G G') {k : Option Nat} {z n : Nat} {x : Value} (h : TokOk G k z n x) : TokOk G' k z n x := by
  cases k with
  | none => trivial
  | some k =>
    obtain ⟨hk, h⟩ := h
    refine ⟨Nat.lt_of_lt_of_le hk hG.nx, ?_⟩
    have ht := hG.tl k hk
    cases e : G.tl k with
    | none =>
      rw [e] at ht
      cases e' : G'.tl k with
      | none => trivial
      | some y => rw [e'] at ht; cases ht
    | some y =>
      rw [e] at h ht
      cases e' : G'.tl k with
      | none => trivial
      | some y' =>
        rw [e'] at ht
        cases ht with
        | same => exact h
        | born t h0 =>
          obtain ⟨rfl, _, rfl⟩ := h
          exact ⟨by omega, fun e => by omega⟩
        | more t t' h0 => exact ⟨Nat.le_trans h.1 (by omega), fun e => by have := h.1; omega⟩
theorem ArrOk.mono {G G' : Gh} (hG : GLe G G') {z k n : Nat} {x : Value} (h : ArrOk G z k n x) : ArrOk G' z k n x := by
  obtain ⟨hk, hx, h⟩ := h
  refine ⟨Nat.lt_of_lt_of_le hk hG.nx, hx, ?_⟩
  have ht := hG.tl k hk
  cases e : G.tl k with
  | none =>
    rw [e] at ht
    cases e' : G'.tl k with
    | none => trivial
    | some y => rw [e'] at ht; cases ht
  | some y =>
    rw [e] at h ht
    cases e' : G'.tl k with
    | none => trivial
    | some y' =>
      rw [e'] at ht
      cases ht with
      | same => exact h
      | born t h0 =>
        obtain ⟨rfl, _, rfl⟩ := h
        exact ⟨by omega, fun e => by omega⟩
      | more t t' h0 => exact ⟨Nat.le_trans h.1 (by omega), fun e => by have := h.1; omega⟩
theorem EptrOk.mono {G G' : Gh} (hG : GLe G G') {k n i f : Nat} {x : Value} (h : EptrOk G k n i f x) : EptrOk G' k n i f x := by
  obtain ⟨hk, b, q, hx, h⟩ := h
  refine ⟨Nat.lt_of_lt_of_le hk hG.nx, b, q, hx, ?_⟩
  have ht := hG.tl k hk
  cases e : G.tl k with
  | none =>
    rw [e] at ht
    cases e' : G'.tl k with
    | none => trivial
    | some y => rw [e'] at ht; cases ht
  | some y =>
    rw [e] at h ht
    cases e' : G'.tl k with
    | none => trivial
    | some y' =>
      rw [e'] at ht
      cases ht with
      | same => exact h
      | born t h0 => exact h.elim
      | more t t' h0 => exact ⟨Nat.le_trans h.1 (by omega), fun e => by have := h.1; omega⟩
theorem Rep.mono {G G' : Gh} (hG : GLe G G') {a : AV} {x : Value} (h : Rep G a x) : Rep G' a x := by
  induction h with
  | v x h => exact .v x h
  | row z xs k g o n c u hn hc hz hu hr h1 ht ih => exact .row z xs k g o n c u hn hc hz (fun j hj => hG.val _ _ _ (hu j hj)) ih h1 (ht.mono hG)
  | nil z k ht => exact .nil z k (ht.mono hG)
  | nilA z a => exact .nilA z a
  | ref cs o g b u hu hr h1 ih => exact .ref cs o g b u (fun j hj => hG.val _ _ _ (hu j hj)) ih h1
  | ptr i o b h => exact .ptr i o b (hG.at_ _ _ h)
  | arr z k n a m c h => exact .arr z k n a m c (h.mono hG)
  | eptr k n i f p h => exact .eptr k n i f p (h.mono hG)
  | map i b h => exact .map i b (hG.at_ _ _ h)
  | agg cs vs u hl hu hr h1 ih => exact .agg cs vs u hl hu ih h1
  | tup cs vs u hl hu hr ih => exact .tup cs vs u hl hu ih
  | fn f cs vs u hl hu hr ih => exact .fn f cs vs u hl hu ih
  | junk x => exact .junk x

/-- Cells: each is one cell, and told by a tree. -/
def RepL (G : Gh) (cs : List AV) (vs : List Value) : Prop :=
  vs.length = cs.length ∧ ∀ j (h : j < cs.length) (h' : j < vs.length), Rep G cs[j] vs[j] ∧ vs[j].oneCell' = true
theorem RepL.mono {G G' : Gh} (hG : GLe G G') {cs : List AV} {vs : List Value} (h : RepL G cs vs) : RepL G' cs vs :=
  ⟨h.1, fun j a b => ⟨(h.2 j a b).1.mono hG, (h.2 j a b).2⟩⟩
theorem RepL.nil (G : Gh) : RepL G [] [] := ⟨rfl, fun j h => by simp at h⟩
theorem RepL.cons {G : Gh} {a : AV} {x : Value} {cs : List AV} {vs : List Value} (h : Rep G a x) (h1 : x.oneCell' = true) (k : RepL G cs vs) : RepL G (a :: cs) (x :: vs) := by
  refine ⟨by simp [k.1], fun j hj hj' => ?_⟩
  cases j with
  | zero => exact ⟨h, h1⟩
  | succ j => exact k.2 j (by simpa using hj) (by simpa using hj')
theorem RepL.append {G : Gh} {cs ds : List AV} {vs ws : List Value} (h : RepL G cs vs) (k : RepL G ds ws) : RepL G (cs ++ ds) (vs ++ ws) := by
  refine ⟨by simp [h.1, k.1], fun j hj hj' => ?_⟩
  by_cases hlt : j < cs.length
  · rw [List.getElem_append_left hlt, List.getElem_append_left (by rw [h.1]; exact hlt)]
    exact h.2 j hlt _
  · rw [List.getElem_append_right (by omega), List.getElem_append_right (by rw [h.1]; omega)]
    have e : vs.length = cs.length := h.1
    simp only [e]
    exact k.2 _ _ _
theorem RepL.take {G : Gh} {cs : List AV} {vs : List Value} (h : RepL G cs vs) (n : Nat) : RepL G (cs.take n) (vs.take n) := by
  refine ⟨by simp [h.1], fun j hj hj' => ?_⟩
  simp only [List.getElem_take]
  exact h.2 j _ _
theorem RepL.drop {G : Gh} {cs : List AV} {vs : List Value} (h : RepL G cs vs) (n : Nat) : RepL G (cs.drop n) (vs.drop n) := by
  refine ⟨by simp [h.1], fun j hj hj' => ?_⟩
  simp only [List.getElem_drop]
  exact h.2 _ _ _
theorem RepL.getD {G : Gh} {cs : List AV} {vs : List Value} (h : RepL G cs vs) {j : Nat} (hj : j < cs.length) : ∃ x, vs[j]? = some x ∧ Rep G (cs.getD j .junk) x ∧ x.oneCell' = true := by
  have hj' : j < vs.length := by rw [h.1]; exact hj
  refine ⟨vs[j], List.getElem?_eq_getElem hj', ?_⟩
  rw [List.getD_eq_getElem?_getD, List.getElem?_eq_getElem hj]
  exact h.2 j hj hj'
theorem RepL.agg {G : Gh} {cs : List AV} {vs : List Value} (h : RepL G cs vs) : Rep G (.agg cs) (.agg vs.toArray) := by
  refine .agg cs vs.toArray (fun j => vs.getD j undef) (by simpa using h.1) (fun j hj => ?_) (fun j hj => ?_) (fun j hj => ?_)
  all_goals have hj' : j < vs.length := by rw [h.1]; exact hj
  all_goals simp only [List.getElem?_toArray, List.getD_eq_getElem?_getD, List.getElem?_eq_getElem hj', Option.getD_some]
  · exact (h.2 j hj hj').1
  · exact (h.2 j hj hj').2
theorem RepL.of_agg {G : Gh} {cs : List AV} {x : Value} (h : Rep G (.agg cs) x) : ∃ vs : List Value, x = .agg vs.toArray ∧ RepL G cs vs := by
  cases h with
  | agg _ vs u hl hu hr h1 =>
    refine ⟨vs.toList, by simp, by simpa using hl, fun j hj hj' => ?_⟩
    have e := hu j hj
    rw [Array.getElem?_eq_getElem (by rw [hl]; exact hj)] at e
    simp only [Option.some.injEq] at e
    simp only [Array.getElem_toList, e]
    exact ⟨hr j hj, h1 j hj⟩
theorem RepL.of_fun {G : Gh} {cs : List AV} (u : Nat → Value) (hr : ∀ j (h : j < cs.length), Rep G cs[j] (u j)) (h1 : ∀ j, j < cs.length → (u j).oneCell' = true) : RepL G cs ((List.range cs.length).map u) := by
  refine ⟨by simp, fun j hj hj' => ?_⟩
  simp only [List.getElem_map, List.getElem_range]
  exact ⟨hr j hj, h1 j hj⟩
/-- The cells of element i of a row. -/
theorem flatten_at {α : Type} {z : Nat} : ∀ {xs : List (List α)} (_ : ∀ x ∈ xs, x.length = z) {i : Nat} (hi : i < xs.length) {j : Nat} (_ : j < z), xs.flatten[i * z + j]? = xs[i][j]?
  | [], _, _, hi, _, _ => by simp at hi
  | x :: xs, hz, 0, _, j, hj => by
    have := hz x (by simp)
    simp [List.getElem?_append, this, hj]
  | x :: xs, hz, i + 1, hi, j, hj => by
    have hx := hz x (by simp)
    have ih := flatten_at (xs := xs) (fun y hy => hz y (by simp [hy])) (i := i) (by simpa using hi) hj
    simp only [List.flatten_cons, List.getElem_cons_succ]
    rw [List.getElem?_append_right (by rw [hx, Nat.add_mul]; omega), hx, ← ih]
    congr 1
    rw [Nat.add_mul]
    omega
theorem flatten_elem {α : Type} {z : Nat} : ∀ {xs : List (List α)} (_ : ∀ x ∈ xs, x.length = z) {i : Nat} (_ : i < xs.length), (xs.flatten.drop (i * z)).take z = xs.getD i []
  | [], _, _, hi => by simp at hi
  | x :: xs, hz, 0, _ => by
    have := hz x (by simp)
    simp [List.take_append, this]
  | x :: xs, hz, i + 1, hi => by
    have hx := hz x (by simp)
    have ih := flatten_elem (xs := xs) (fun y hy => hz y (by simp [hy])) (i := i) (by simpa using hi)
    rw [List.flatten_cons, Nat.add_mul, Nat.one_mul, Nat.add_comm, ← List.drop_drop]
    rw [List.drop_append, ← hx] 
    simp only [Nat.le_refl, List.drop_eq_nil_of_le, Nat.sub_self, List.drop_zero, List.nil_append]
    rw [hx, ih]; simp
theorem flatten_len {α : Type} {z : Nat} : ∀ {xs : List (List α)} (_ : ∀ x ∈ xs, x.length = z), xs.flatten.length = xs.length * z
  | [], _ => by simp
  | x :: xs, hz => by
    rw [List.flatten_cons, List.length_append, hz x (by simp), flatten_len (fun y hy => hz y (by simp [hy])), List.length_cons, Nat.add_mul]
    omega
end Go.Proofs.YtoleejecmefogaaDoor
/- The abstract state, and when a machine's state is told by it. -/
namespace Go.Proofs.YtoleejecmefogaaDoor
open Go

inductive AO where
  | cells (cs : List AV)
  | map (es : List (Value × AV))
/-- A right: to append behind m elements that stay, or a whole array that may be written. -/
inductive TO where
  | tail (m : Nat)
  | cont (z : Nat) (xs : List (List AV))
structure Hp where
  H : Nat → Option AO
  T : Nat → Option TO
def upd {α : Type} (f : Nat → Option α) (i : Nat) (x : Option α) : Nat → Option α := fun j => if j = i then x else f j
theorem upd_same {α : Type} (f : Nat → Option α) (i : Nat) (x : Option α) : upd f i x i = x := by simp [upd]
theorem upd_other {α : Type} (f : Nat → Option α) {i j : Nat} (x : Option α) (h : j ≠ i) : upd f i x j = f j := by simp [upd, h]

def ORep (G : Gh) : AO → Obj → Prop
  | .cells cs, o => ∃ vs E, o = .cells vs E (0, 0) ∧ RepL G cs (vs.toList.take cs.length)
  | .map es, o => ∃ ents clock, o = .map ents clock ∧ ents.size = es.length ∧ ∀ j (h : j < es.length) (h' : j < ents.size), ents[j].key = es[j].1 ∧ Rep G es[j].2 ents[j].val
theorem ORep.mono {G G' : Gh} (hG : GLe G G') {a : AO} {o : Obj} (h : ORep G a o) : ORep G' a o := by
  cases a with
  | cells cs => obtain ⟨vs, E, e, r⟩ := h; exact ⟨vs, E, e, r.mono hG⟩
  | map es => obtain ⟨en, c, e, r, s⟩ := h; exact ⟨en, c, e, r, fun j a b => ⟨(s j a b).1, (s j a b).2.mono hG⟩⟩

/-- Right k in world w. -/
def TRep (G : Gh) (w : World) (k : Nat) : TO → Prop
  | .tail m => (G.tl k = some none ∧ m = 0) ∨ ∃ t vs E, G.tl k = some (some t) ∧ t.m = m ∧ 0 < m ∧ w.heap[t.g]? = some (.cells vs E (0, 0)) ∧ vs.size = t.c * t.z ∧ m ≤ t.c ∧ t.c ≤ maxLen ∧ ∀ o, m * t.z ≤ o → G.val t.g o = none
  | .cont z xs => (G.tl k = some none ∧ xs = []) ∨ ∃ t vs E, G.tl k = some (some t) ∧ t.m = xs.length ∧ 0 < t.m ∧ w.heap[t.g]? = some (.cells vs E (0, 0)) ∧ vs.size = t.c * t.z ∧ t.m ≤ t.c ∧ t.c ≤ maxLen ∧ (∀ o, G.val t.g o = none) ∧ t.z = z ∧ (∀ x ∈ xs, x.length = z) ∧ RepL G xs.flatten (vs.toList.take xs.flatten.length)
theorem TRep.tl {G : Gh} {w : World} {k : Nat} {o : TO} (h : TRep G w k o) : G.tl k ≠ none := by
  cases o with
  | tail m => rcases h with ⟨e, _⟩ | ⟨t, _, _, e, _⟩ <;> rw [e] <;> simp
  | cont z xs => rcases h with ⟨e, _⟩ | ⟨t, _, _, e, _⟩ <;> rw [e] <;> simp
theorem TRep.blk {G : Gh} {w : World} {k : Nat} {o : TO} (h : TRep G w k o) {t : Tail} (e : G.tl k = some (some t)) : ∃ vs E, w.heap[t.g]? = some (.cells vs E (0, 0)) := by
  cases o with
  | tail m => rcases h with ⟨e', _⟩ | ⟨t', vs, E, e', _, _, hb, _⟩ <;> rw [e] at e' <;> cases e'; exact ⟨vs, E, hb⟩
  | cont z xs => rcases h with ⟨e', _⟩ | ⟨t', vs, E, e', _, _, hb, _⟩ <;> rw [e] at e' <;> cases e'; exact ⟨vs, E, hb⟩
theorem TRep.move {G G' : Gh} {w w' : World} {k : Nat} {o : TO} (h : TRep G w k o) (hle : GLe G G') (htl : G'.tl k = G.tl k) (hb : ∀ t, G.tl k = some (some t) → w'.heap[t.g]? = w.heap[t.g]? ∧ ∀ o, G'.val t.g o = G.val t.g o) : TRep G' w' k o := by
  cases o with
  | tail m =>
    rcases h with ⟨e, h0⟩ | ⟨t, vs, E, e, a, b, c, d, f, g, i⟩
    · exact .inl ⟨by rw [htl]; exact e, h0⟩
    · exact .inr ⟨t, vs, E, by rw [htl]; exact e, a, b, by rw [(hb t e).1]; exact c, d, f, g, fun o ho => by rw [(hb t e).2]; exact i o ho⟩
  | cont z xs =>
    rcases h with ⟨e, h0⟩ | ⟨t, vs, E, e, a, b, c, d, f, g, i, j, l, r⟩
    · exact .inl ⟨by rw [htl]; exact e, h0⟩
    · exact .inr ⟨t, vs, E, by rw [htl]; exact e, a, b, by rw [(hb t e).1]; exact c, d, f, g, fun o => by rw [(hb t e).2]; exact i o, j, l, r.mono hle⟩
def Own (G : Gh) (h : Hp) (b : Nat) : Prop :=
  (∃ i, h.H i ≠ none ∧ G.at_ i = some b) ∨ (∃ k t, h.T k ≠ none ∧ G.tl k = some (some t) ∧ t.g = b)

structure HSim (G : Gh) (h : Hp) (w : World) : Prop where
  val : ∀ g o x, G.val g o = some x → w.cell? ⟨g, o, none⟩ = some x
  obj : ∀ i ob, h.H i = some ob → ∃ b o, G.at_ i = some b ∧ w.heap[b]? = some o ∧ ORep G ob o ∧ ∀ o, G.val b o = none
  inj : ∀ i j b, h.H i ≠ none → h.H j ≠ none → G.at_ i = some b → G.at_ j = some b → i = j
  tok : ∀ k m, h.T k = some m → TRep G w k m
  tinj : ∀ k l s t, h.T k ≠ none → h.T l ≠ none → G.tl k = some (some s) → G.tl l = some (some t) → s.g = t.g → k = l
  tobj : ∀ k i t, h.T k ≠ none → h.H i ≠ none → G.tl k = some (some t) → G.at_ i ≠ some t.g
  fat : ∀ i, G.nx ≤ i → G.at_ i = none
  ftl : ∀ k, G.nx ≤ k → G.tl k = none

structure Fr (G : Gh) (h : Hp) (w : World) (G' : Gh) (h' : Hp) (w' : World) : Prop where
  os : w'.os = w.os
  tape : w'.tape = w.tape
  output : w'.output = w.output
  size : w.heap.size ≤ w'.heap.size
  keep : ∀ b, b < w.heap.size → ¬ Own G h b → w'.heap[b]? = w.heap[b]? ∧ ¬ Own G' h' b ∧ ∀ o, G'.val b o = G.val b o
theorem Fr.refl (G : Gh) (h : Hp) (w : World) : Fr G h w G h w := ⟨rfl, rfl, rfl, Nat.le_refl _, fun _ _ hn => ⟨rfl, hn, fun _ => rfl⟩⟩
theorem Fr.trans {G0 h0 w0 G1 h1 w1 G2 h2 w2} (a : Fr G0 h0 w0 G1 h1 w1) (b : Fr G1 h1 w1 G2 h2 w2) : Fr G0 h0 w0 G2 h2 w2 :=
  ⟨b.os.trans a.os, b.tape.trans a.tape, b.output.trans a.output, Nat.le_trans a.size b.size, fun c hc hn =>
    let ⟨x, y, z⟩ := a.keep c hc hn
    let ⟨x', y', z'⟩ := b.keep c (Nat.lt_of_lt_of_le hc a.size) y
    ⟨x'.trans x, y', fun o => (z' o).trans (z o)⟩⟩

/-- Less is known of the heap: whatever h' tells, h tells. -/
structure Hp.le (h' h : Hp) : Prop where
  H : ∀ i, h'.H i = none ∨ h'.H i = h.H i
  T : ∀ k, h'.T k = none ∨ h'.T k = h.T k
theorem Hp.le.refl (h : Hp) : Hp.le h h := ⟨fun _ => .inr rfl, fun _ => .inr rfl⟩
theorem Hp.le.Hne {h' h : Hp} (l : Hp.le h' h) {i : Nat} (n : h'.H i ≠ none) : h.H i ≠ none := by rcases l.H i with e | e; exact absurd e n; rw [← e]; exact n
theorem Hp.le.Tne {h' h : Hp} (l : Hp.le h' h) {i : Nat} (n : h'.T i ≠ none) : h.T i ≠ none := by rcases l.T i with e | e; exact absurd e n; rw [← e]; exact n
theorem Hp.le.own {h' h : Hp} (l : Hp.le h' h) {G : Gh} {b : Nat} (o : Own G h' b) : Own G h b := by
  rcases o with ⟨i, a, c⟩ | ⟨k, t, a, c⟩
  · exact .inl ⟨i, l.Hne a, c⟩
  · exact .inr ⟨k, t, l.Tne a, c⟩
theorem HSim.less {G : Gh} {h h' : Hp} {w : World} (s : HSim G h w) (l : Hp.le h' h) : HSim G h' w where
  val := s.val
  obj i ob e := s.obj i ob (by rcases l.H i with e' | e'; rw [e'] at e; cases e; rw [← e']; exact e)
  inj i j b hi hj := s.inj i j b (l.Hne hi) (l.Hne hj)
  tok k m e := s.tok k m (by rcases l.T k with e' | e'; rw [e'] at e; cases e; rw [← e']; exact e)
  tinj k j a b hk hl := s.tinj k j a b (l.Tne hk) (l.Tne hl)
  tobj k i t hk hi := s.tobj k i t (l.Tne hk) (l.Hne hi)
  fat := s.fat
  ftl := s.ftl
theorem Fr.less {G h w G' h' h'' w'} (f : Fr G h w G' h' w') (l : Hp.le h'' h') : Fr G h w G' h'' w' :=
  ⟨f.os, f.tape, f.output, f.size, fun b hb hn => let ⟨x, y, z⟩ := f.keep b hb hn; ⟨x, fun o => y (l.own o), z⟩⟩

structure St where
  sl : List AV
  lo : List (List AV)
  h : Hp

def RepT0 (G : Gh) (L : List Nat) (a : AV) (x : Value) : Prop :=
  match a with
  | .loc j o => ∃ b, L[j]? = some b ∧ x = .pointer (some ⟨b, o, none⟩)
  | a => Rep G a x
def RepT (G : Gh) (L : List Nat) (a : AV) (x : Value) : Prop :=
  match a with
  | .opt b a => (b = true → RepT0 G L a x) ∧ (b = false → x = undef)
  | .loc j o => ∃ b, L[j]? = some b ∧ x = .pointer (some ⟨b, o, none⟩)
  | a => Rep G a x
theorem RepT0.mono {G G' : Gh} (hG : GLe G G') {L : List Nat} {a : AV} {x : Value} (h : RepT0 G L a x) : RepT0 G' L a x := by
  cases a <;> first | exact h | exact Rep.mono hG h
theorem RepT.mono {G G' : Gh} (hG : GLe G G') {L : List Nat} {a : AV} {x : Value} (h : RepT G L a x) : RepT G' L a x := by
  cases a <;> first | exact h | exact Rep.mono hG h | exact ⟨fun e => (h.1 e).mono hG, h.2⟩
theorem RepT.of {G : Gh} {L : List Nat} {a : AV} {x : Value} (h : Rep G a x) : RepT G L a x := by
  cases a <;> first | exact h | cases h
theorem RepT.junk {G : Gh} {L : List Nat} (x : Value) : RepT G L .junk x := Rep.junk x
theorem RepT0.more {G : Gh} {L L' : List Nat} {a : AV} {x : Value} (h : RepT0 G L a x) (hl : ∀ (j b : Nat), L[j]? = some b → L'[j]? = some b) : RepT0 G L' a x := by
  cases a <;> first | exact h | (obtain ⟨b, e, r⟩ := h; exact ⟨b, hl _ _ e, r⟩)
theorem RepT.more {G : Gh} {L L' : List Nat} {a : AV} {x : Value} (h : RepT G L a x) (hl : ∀ (j b : Nat), L[j]? = some b → L'[j]? = some b) : RepT G L' a x := by
  cases a <;> first | exact h | (obtain ⟨b, e, r⟩ := h; exact ⟨b, hl _ _ e, r⟩) | exact ⟨fun e => (h.1 e).more hl, h.2⟩
/-- A value that may not be there: what it is if it is. -/
def unw : AV → AV
  | .opt _ a => a
  | a => a
def uside : AV → Prop
  | .opt b _ => b = true
  | _ => True
theorem RepT0.of {G : Gh} {L : List Nat} {a : AV} {x : Value} (h : RepT0 G L a x) : RepT G L a x := by
  cases a <;> first | exact h | cases h
theorem RepT.unw {G : Gh} {L : List Nat} {a : AV} {x : Value} (h : RepT G L a x) (hu : uside a) : RepT G L (unw a) x := by
  cases a <;> first | exact h | exact (h.1 hu).of
theorem RepT.opt {G : Gh} {L : List Nat} {a : AV} {x : Value} {b : Bool} (h : b = true → RepT G L a x) (h2 : b = false → x = undef) (hn : ∀ c d, a ≠ .opt c d) : RepT G L (.opt b a) x := by
  refine ⟨fun e => ?_, h2⟩
  have h := h e
  cases a <;> first | exact h | exact absurd rfl (hn _ _)
structure LSim (G : Gh) (L : List Nat) (lo : List (List AV)) (h : Hp) (w : World) : Prop where
  len : L.length = lo.length
  lo : ∀ (j b : Nat) (cs : List AV), L[j]? = some b → lo[j]? = some cs → ∃ (vs : Array Value) (E : TypeId), w.heap[b]? = some (Obj.cells vs E (0, 0)) ∧ vs.size = cs.length ∧ RepL G cs vs.toList
  free : ∀ b ∈ L, ¬ Own G h b ∧ ∀ o, G.val b o = none
  nd : L.Nodup
structure Sim (G : Gh) (L : List Nat) (s : St) (a : Act) (w : World) : Prop where
  hs : HSim G s.h w
  sz : s.sl.length ≤ a.tmps.size
  sl : ∀ t (h : t < s.sl.length), RepT G L s.sl[t] (a.tmps.getD t undef)
  df : a.defers = []
  ls : LSim G L s.lo s.h w

/-- Where a call began. -/
structure Cx where
  G : Gh
  h : Hp
  w : World
def In (c : Cx) (s : St) (a : Act) (w : World) : Prop :=
  ∃ G L, Sim G L s a w ∧ GLe c.G G ∧ Fr c.G c.h c.w G s.h w ∧ ∀ b ∈ L, c.w.heap.size ≤ b

def Awp (P : Program) (c : Cx) (k : Code) (Q : Exit → St → Prop) (s : St) : Prop :=
  ∀ a w, In c s a w → k.wp P (fun e a' w' => ∃ s', Q e s' ∧ In c s' a' w') a w
/-- The end of a piece: what is told of the exit. -/
def Qc (c : Cx) (Q : Exit → St → Prop) : Exit → Act → World → Prop := fun e a w => ∃ s, Q e s ∧ In c s a w
section
variable {P : Program} {c : Cx} {Q : Exit → St → Prop} {s : St}
theorem awp_mono {k : Code} {Q' : Exit → St → Prop} (h : Awp P c k Q s) (hq : ∀ e s, Q e s → Q' e s) : Awp P c k Q' s :=
  fun a w hi => wp_mono (h a w hi) fun _ _ _ ⟨s', q, i⟩ => ⟨s', hq _ _ q, i⟩
theorem awp_skip (h : Q .normal s) : Awp P c .skip Q s := fun _ _ hi => wp_skip ⟨s, h, hi⟩
theorem awp_exit {id : Nat} (h : Q (.exit id) s) : Awp P c (.exit id) Q s := fun _ _ hi => wp_exit ⟨s, h, hi⟩
theorem awp_ret (h : Q .ret s) : Awp P c .ret Q s := fun _ _ hi => wp_ret ⟨s, h, hi⟩
def thenQ (next : St → Prop) (Q : Exit → St → Prop) : Exit → St → Prop
  | .normal, s => next s
  | e, s => Q e s
theorem awp_seq {x y : Code} (h : Awp P c x (thenQ (Awp P c y Q) Q) s) : Awp P c (.seq x y) Q s := by
  intro a w hi
  refine wp_seq (wp_mono (h a w hi) ?_)
  rintro e a' w' ⟨s', q, i⟩
  cases e with
  | normal => exact q a' w' i
  | _ => exact ⟨s', q, i⟩
def inBlockQ (id : Nat) (Q : Exit → St → Prop) : Exit → St → Prop
  | .exit id', s => if id' = id then Q .normal s else Q (.exit id') s
  | e, s => Q e s
theorem awp_block {id : Nat} {k : Code} (h : Awp P c k (inBlockQ id Q) s) : Awp P c (.block id k) Q s := by
  intro a w hi
  refine wp_block (wp_mono (h a w hi) ?_)
  rintro e a' w' ⟨s', q, i⟩
  cases e with
  | exit id' =>
    simp only [inBlockQ, Exit.inBlock] at q ⊢
    split at q <;> rename_i hid
    · rw [if_pos hid]; exact ⟨s', q, i⟩
    · rw [if_neg hid]; exact ⟨s', q, i⟩
  | _ => exact ⟨s', q, i⟩
theorem awp_loop {k : Code} (I : Nat → St → Prop) (n : Nat) (h0 : I n s)
    (round : ∀ n s, I n s → Awp P c k (thenQ (fun s' => ∃ m, m < n ∧ I m s') Q) s) : Awp P c (.loop k) Q s := by
  -- the number of rounds left is not told by the state: induction on it
  intro a w hi b kk cs
  have key : ∀ n s a w, I n s → In c s a w → ∃ e a' w', (∃ s', Q e s' ∧ In c s' a' w') ∧ Arrives P (lone (b.at a (.code k :: .inLoop k :: kk)) cs w) b kk cs e a' w' := by
    intro n
    induction n using Nat.strongRecOn with
    | _ n ih =>
      intro s a w hI hi
      obtain ⟨e, a₁, w₁, ⟨s₁, hq, hi₁⟩, harr⟩ := round n s hI a w hi b (.inLoop k :: kk) cs
      cases e with
      | normal =>
        obtain ⟨m, hm, hI₁⟩ := hq
        obtain ⟨e₂, a₂, w₂, hq₂, harr₂⟩ := ih m hm s₁ a₁ w₁ hI₁ hi₁
        exact ⟨e₂, a₂, w₂, hq₂, .of_steps (Steps.trans harr (.one step_inLoop)) harr₂⟩
      | exit id => exact ⟨_, a₁, w₁, ⟨s₁, hq, hi₁⟩, .pass (x := .inLoop k) rfl (fun _ _ => .inl (by simp)) harr⟩
      | goto l => exact ⟨_, a₁, w₁, ⟨s₁, hq, hi₁⟩, .pass (x := .inLoop k) rfl (fun _ _ => .inl (by simp)) harr⟩
      | ret => exact ⟨_, a₁, w₁, ⟨s₁, hq, hi₁⟩, .pass (x := .inLoop k) rfl (fun _ _ => .inl (by simp)) harr⟩
      | panic ch => exact ⟨_, a₁, w₁, ⟨s₁, hq, hi₁⟩, .pass (x := .inLoop k) rfl (fun _ _ => .inl (by simp)) harr⟩
      | outgrown => exact ⟨_, a₁, w₁, ⟨s₁, hq, hi₁⟩, .pass (x := .inLoop k) rfl (fun _ _ => .inl (by simp)) harr⟩
  obtain ⟨e, a', w', hq, harr⟩ := key n s a w h0 hi
  exact ⟨e, a', w', hq, .of_steps (.one step_loop) harr⟩
end

/-- A slot's value. -/
def cv : Value → AV
  | .agg cs => if cs.toList.all (·.oneCell') then .agg (cs.toList.map .v) else .junk
  | .tuple _ => .junk
  | x => .v x
def evL (sl : List AV) : Operand → AV
  | .tmp t => sl.getD t .junk
  | .const x => cv x
  | .global g => .v (.pointer (some ⟨g, 0, none⟩))
  | .func f => .fn f []
def St.ev (s : St) : Operand → AV := evL s.sl
def St.put (s : St) (d : Option Tmp) (x : AV) : St :=
  match d with
  | some d => { s with sl := s.sl.set d x }
  | none => s
theorem rep_cv (G : Gh) (x : Value) : Rep G (cv x) x := by
  cases x <;> first
    | exact .v _ rfl
    | (rename_i cs
       simp only [cv]
       split
       · rename_i h
         simp only [List.all_eq_true] at h
         have hr : RepL G (cs.toList.map AV.v) cs.toList := ⟨by simp, fun j hj hj' => by
           simp only [List.getElem_map]
           exact ⟨.v _ (h _ (List.getElem_mem hj')), h _ (List.getElem_mem hj')⟩⟩
         have := hr.agg
         simpa [cv] using this
       · exact .junk _)
    | exact .junk _
theorem Sim.ev {G : Gh} {L : List Nat} {s : St} {a : Act} {w : World} (h : Sim G L s a w) (x : Operand) : RepT G L (s.ev x) (a.eval x) := by
  cases x with
  | tmp t =>
    simp only [St.ev, evL, Act.eval]
    by_cases ht : t < s.sl.length
    · rw [List.getD_eq_getElem?_getD, List.getElem?_eq_getElem ht]
      exact h.sl t ht
    · rw [List.getD_eq_getElem?_getD, List.getElem?_eq_none (Nat.le_of_not_lt ht)]
      exact RepT.junk _
  | const x => exact RepT.of (rep_cv G x)
  | global g => exact RepT.of (.v _ rfl)
  | func f => exact RepT.of (.fn f [] #[] (fun _ => undef) rfl (fun j h => by simp at h) (fun j h => by simp at h))
theorem Sim.put {G : Gh} {L : List Nat} {s : St} {a : Act} {w : World} (h : Sim G L s a w) (d : Option Tmp) {x : AV} {v : Value} (hx : RepT G L x v) : Sim G L (s.put d x) (a.put d v) w := by
  cases d with
  | none => exact h
  | some d =>
    refine ⟨h.hs, by simpa [St.put, Act.put] using h.sz, fun t ht => ?_, h.df, h.ls⟩
    have ht' : t < s.sl.length := by simpa only [St.put, List.length_set] using ht
    simp only [St.put, Act.put, List.getElem_set]
    have hs := h.sz
    by_cases e : d = t
    · subst e
      rw [if_pos rfl]
      have : d < a.tmps.size := Nat.lt_of_lt_of_le ht' hs
      simpa [this] using hx
    · rw [if_neg e]
      have := h.sl t ht'
      have e2 : (a.tmps.setIfInBounds d v).getD t undef = a.tmps.getD t undef := by
        simp [Array.getElem?_setIfInBounds, e]
      rw [e2]
      exact this
theorem In.put {c : Cx} {s : St} {a : Act} {w : World} {G : Gh} {L : List Nat} (h : Sim G L s a w) (hg : GLe c.G G) (hf : Fr c.G c.h c.w G s.h w) (hL : ∀ b ∈ L, c.w.heap.size ≤ b) (d : Option Tmp) {x : AV} {v : Value} (hx : RepT G L x v) :
    In c (s.put d x) (a.put d v) w := ⟨G, L, h.put d hx, hg, (by cases d <;> exact hf), hL⟩
end Go.Proofs.YtoleejecmefogaaDoor
/- What becomes of a told state when memory is made or written. -/
namespace Go.Proofs.YtoleejecmefogaaDoor
open Go
section
variable {G : Gh} {h : Hp} {w w' : World} {L : List Nat} {s : St} {a : Act}

theorem HSim.own_lt (hs : HSim G h w) {b : Nat} (o : Own G h b) : b < w.heap.size := by
  rcases o with ⟨i, hi, e⟩ | ⟨k, t, hk, e, rfl⟩
  · cases hh : h.H i with
    | none => exact absurd hh hi
    | some ob =>
      obtain ⟨b', o, e', hb, _⟩ := hs.obj i ob hh
      rw [e] at e'; cases e'
      exact (Array.getElem?_eq_some_iff.1 hb).1
  · cases hh : h.T k with
    | none => exact absurd hh hk
    | some m =>
      obtain ⟨vs, E, hb⟩ := (hs.tok k m hh).blk e
      exact (Array.getElem?_eq_some_iff.1 hb).1
theorem HSim.val_lt (hs : HSim G h w) {g o : Nat} {x : Value} (e : G.val g o = some x) : g < w.heap.size := World.block_lt_of_cell? w _ (hs.val g o x e)
theorem HSim.val_new (hs : HSim G h w) {g : Nat} (hg : w.heap.size ≤ g) (o : Nat) : G.val g o = none := by
  cases e : G.val g o with
  | none => rfl
  | some x => have := hs.val_lt e; omega
theorem LSim.lt {lo : List (List AV)} (ls : LSim G L lo h w) {b : Nat} (hb : b ∈ L) : b < w.heap.size := by
  obtain ⟨j, hj, e⟩ := List.getElem_of_mem hb
  have hj' : j < lo.length := by rw [← ls.len]; exact hj
  obtain ⟨vs, E, hh, _⟩ := ls.lo j b lo[j] (by rw [List.getElem?_eq_getElem hj, e]) (List.getElem?_eq_getElem hj')
  exact (Array.getElem?_eq_some_iff.1 hh).1

/-- Old blocks stay: the state is told as before. -/
theorem HSim.below (hs : HSim G h w) (hb : ∀ b, b < w.heap.size → w'.heap[b]? = w.heap[b]?) : HSim G h w' where
  val g o x e := by
    have hlt := hs.val_lt e
    have h2 := hs.val g o x e
    simp only [World.cell?] at h2 ⊢
    rw [hb g hlt]; exact h2
  obj i ob e := by
    obtain ⟨b, o, x, y, z⟩ := hs.obj i ob e
    exact ⟨b, o, x, by rw [hb b (Array.getElem?_eq_some_iff.1 y).1]; exact y, z⟩
  inj := hs.inj
  tok k m e := by
    have ht := hs.tok k m e
    refine ht.move (GLe.refl G) rfl fun t et => ⟨?_, fun _ => rfl⟩
    obtain ⟨vs, E, hv⟩ := ht.blk et
    rw [hb _ (Array.getElem?_eq_some_iff.1 hv).1]
  tinj := hs.tinj
  tobj := hs.tobj
  fat := hs.fat
  ftl := hs.ftl
theorem LSim.below {lo : List (List AV)} (ls : LSim G L lo h w) (hb : ∀ b, b < w.heap.size → w'.heap[b]? = w.heap[b]?) : LSim G L lo h w' where
  len := ls.len
  lo j b cs x y := by
    obtain ⟨vs, E, z, r⟩ := ls.lo j b cs x y
    exact ⟨vs, E, by rw [hb b (Array.getElem?_eq_some_iff.1 z).1]; exact z, r⟩
  free := ls.free
  nd := ls.nd
theorem Sim.below (sm : Sim G L s a w) (hb : ∀ b, b < w.heap.size → w'.heap[b]? = w.heap[b]?) : Sim G L s a w' :=
  ⟨sm.hs.below hb, sm.sz, sm.sl, sm.df, sm.ls.below hb⟩

/-- Block B's cells are known to stay. -/
def Gh.ext (G : Gh) (B : Nat) (vs : List Value) : Gh := { G with val := fun g o => if g = B then vs[o]? else G.val g o }
theorem Gh.ext_le (B : Nat) (vs : List Value) (hB : ∀ o, G.val B o = none) : GLe G (G.ext B vs) :=
  ⟨fun g o x e => by
    simp only [Gh.ext]
    split
    · rename_i h; subst h; rw [hB] at e; cases e
    · exact e, fun _ _ e => e, Nat.le_refl _, fun _ _ => .same _⟩
theorem own_ext {B b : Nat} {vs : List Value} : Own (G.ext B vs) h b ↔ Own G h b := Iff.rfl
theorem TRep.ext {B : Nat} {vs : List Value} {k : Nat} {m : TO} (t : TRep G w k m) (hB : ¬ Own G h B) (hB' : ∀ o, G.val B o = none) (hk : h.T k ≠ none) : TRep (G.ext B vs) w k m :=
  t.move (Gh.ext_le B vs hB') rfl fun u eu => ⟨rfl, fun o => by
    have hne : u.g ≠ B := fun e => hB (.inr ⟨k, u, hk, eu, e⟩)
    simp only [Gh.ext, if_neg hne]⟩
theorem HSim.ext (hs : HSim G h w) {B : Nat} {vs : List Value} {E : TypeId} {fz : Nat × Nat} (hB : ∀ o, G.val B o = none) (hO : ¬ Own G h B) (hh : w.heap[B]? = some (.cells vs.toArray E fz)) : HSim (G.ext B vs) h w where
  val g o x e := by
    simp only [Gh.ext] at e
    split at e
    · rename_i hg
      subst hg
      simp [World.cell?, hh, e]
    · exact hs.val g o x e
  obj i ob e := by
    obtain ⟨b, o, x, y, z, q⟩ := hs.obj i ob e
    refine ⟨b, o, x, y, z.mono (Gh.ext_le B vs hB), fun o' => ?_⟩
    have hne : b ≠ B := fun e' => hO (.inl ⟨i, by rw [e]; simp, e' ▸ x⟩)
    simp only [Gh.ext, if_neg hne]
    exact q o'
  inj := hs.inj
  tok k m e := (hs.tok k m e).ext hO hB (by rw [e]; simp)
  tinj := hs.tinj
  tobj := hs.tobj
  fat := hs.fat
  ftl := hs.ftl
theorem LSim.ext {lo : List (List AV)} (ls : LSim G L lo h w) {B : Nat} {vs : List Value} (hB : ∀ o, G.val B o = none) (hL : B ∉ L) : LSim (G.ext B vs) L lo h w where
  len := ls.len
  lo j b cs x y := by
    obtain ⟨us, E, z, q, r⟩ := ls.lo j b cs x y
    exact ⟨us, E, z, q, r.mono (Gh.ext_le B vs hB)⟩
  free b hb := ⟨(ls.free b hb).1, fun o => by
    have hne : b ≠ B := fun e => hL (e ▸ hb)
    simp only [Gh.ext, if_neg hne]
    exact (ls.free b hb).2 o⟩
  nd := ls.nd
theorem Sim.ext (sm : Sim G L s a w) {B : Nat} {vs : List Value} {E : TypeId} {fz : Nat × Nat} (hB : ∀ o, G.val B o = none) (hO : ¬ Own G s.h B) (hL : B ∉ L) (hh : w.heap[B]? = some (.cells vs.toArray E fz)) : Sim (G.ext B vs) L s a w :=
  ⟨sm.hs.ext hB hO hh, sm.sz, fun t ht => (sm.sl t ht).mono (Gh.ext_le B vs hB), sm.df, sm.ls.ext hB hL⟩
theorem Fr.ext {G0 h0 w0} (f : Fr G0 h0 w0 G h w) {B : Nat} {vs : List Value} (hB : w0.heap.size ≤ B) : Fr G0 h0 w0 (G.ext B vs) h w :=
  ⟨f.os, f.tape, f.output, f.size, fun b hb hn => let ⟨x, y, z⟩ := f.keep b hb hn; ⟨x, y, fun o => by simp only [Gh.ext]; rw [if_neg (by omega)]; exact z o⟩⟩
theorem Fr.below (f : Fr G h w G h w) (hb : ∀ b, b < w.heap.size → w'.heap[b]? = w.heap[b]?) (h1 : w'.os = w.os) (h2 : w'.tape = w.tape) (h3 : w'.output = w.output) (h4 : w.heap.size ≤ w'.heap.size) : Fr G h w G h w' :=
  ⟨h1, h2, h3, h4, fun b hlt hn => ⟨hb b hlt, hn, fun _ => rfl⟩⟩

/-- New memory that stays: a new block, its cells told by trees. -/
theorem Sim.fresh (sm : Sim G L s a w) (vs : List Value) (E : TypeId) :
    Sim (G.ext w.heap.size vs) L s a (w.alloc (.cells vs.toArray E)) ∧ GLe G (G.ext w.heap.size vs) ∧ Fr G s.h w (G.ext w.heap.size vs) s.h (w.alloc (.cells vs.toArray E)) := by
  have hB : ∀ o, G.val w.heap.size o = none := fun o => sm.hs.val_new (Nat.le_refl _) o
  have hO : ¬ Own G s.h w.heap.size := fun o => by have := sm.hs.own_lt o; omega
  have hL : w.heap.size ∉ L := fun o => by have := sm.ls.lt o; omega
  have hb : ∀ b, b < w.heap.size → (w.alloc (.cells vs.toArray E)).heap[b]? = w.heap[b]? := fun b hb => heap_alloc_old w _ b hb
  exact ⟨(sm.below hb).ext (E := E) (fz := (0, 0)) hB hO hL (heap_alloc_new w _), Gh.ext_le _ _ hB,
    (Fr.below (Fr.refl _ _ _) hb rfl rfl rfl (by simp)).ext (Nat.le_refl _)⟩
/-- What a new block's cells are, as a pointer to trees. -/
theorem rep_fresh_ref {B : Nat} {cs : List AV} {vs : List Value} (hr : RepL G cs vs) (hB : ∀ o, G.val B o = none) : Rep (G.ext B vs) (.ref cs 0) (.pointer (some ⟨B, 0, none⟩)) := by
  have hle := Gh.ext_le (G := G) B vs hB
  refine Rep.ref cs 0 B 0 (fun j => vs.getD j undef) (fun j hj => ?_) (fun j hj => ?_) (fun j hj => ?_)
  all_goals have hj' : j < vs.length := by rw [hr.1]; exact hj
  all_goals simp only [List.getD_eq_getElem?_getD, List.getElem?_eq_getElem hj', Option.getD_some, Nat.zero_add]
  · simp [Gh.ext, List.getElem?_eq_getElem hj']
  · exact (hr.2 j hj hj').1.mono hle
  · exact (hr.2 j hj hj').2
theorem rep_fresh_row {B z : Nat} {xs : List (List AV)} {vs : List Value} (hz : ∀ x ∈ xs, x.length = z) (hr : RepL G xs.flatten vs) (hB : ∀ o, G.val B o = none) (c : Nat) (hc : xs.length ≤ c) : Rep (G.ext B vs) (.row z xs none) (.slice (some ⟨B, 0, none⟩) xs.length c) := by
  have hle := Gh.ext_le (G := G) B vs hB
  have hl : vs.length = xs.length * z := hr.1.trans (flatten_len hz)
  have hl2 := flatten_len hz
  refine Rep.row z xs none B 0 xs.length c (fun j => vs.getD j undef) rfl hc hz (fun j hj => ?_) (fun j hj => ?_) (fun j hj => ?_) trivial
  · have hj' : j < vs.length := by omega
    simp [Gh.ext, List.getElem?_eq_getElem hj']
  · have hj' : j < vs.length := by omega
    simp only [List.getD_eq_getElem?_getD, List.getElem?_eq_getElem hj', Option.getD_some]
    exact (hr.2 j hj hj').1.mono hle
  · have hj' : j < vs.length := by omega
    simp only [List.getD_eq_getElem?_getD, List.getElem?_eq_getElem hj', Option.getD_some]
    exact (hr.2 j (by omega) hj').2

/-- A new object of the frame's own. -/
theorem Sim.newLoc (sm : Sim G L s a w) {cs : List AV} {vs : List Value} (hr : RepL G cs vs) (E : TypeId) :
    Sim G (L ++ [w.heap.size]) { s with lo := s.lo ++ [cs] } a (w.alloc (.cells vs.toArray E)) ∧ Fr G s.h w G s.h (w.alloc (.cells vs.toArray E)) ∧ (L ++ [w.heap.size])[s.lo.length]? = some w.heap.size := by
  have hb : ∀ b, b < w.heap.size → (w.alloc (.cells vs.toArray E)).heap[b]? = w.heap[b]? := fun b hb => heap_alloc_old w _ b hb
  have s1 := sm.below hb
  have hlen := sm.ls.len
  refine ⟨⟨s1.hs, s1.sz, fun t ht => (s1.sl t ht).more fun j b e => ?_, s1.df, ?_⟩, Fr.below (Fr.refl _ _ _) hb rfl rfl rfl (by simp), ?_⟩
  · rw [List.getElem?_append_left (List.getElem?_eq_some_iff.1 e).1]; exact e
  · refine ⟨by simp [hlen], fun j b cs' e e' => ?_, fun b hb' => ?_, ?_⟩
    · by_cases hj : j < s.lo.length
      · rw [List.getElem?_append_left (by omega)] at e
        rw [List.getElem?_append_left hj] at e'
        exact s1.ls.lo j b cs' e e'
      · have hj2 : j = s.lo.length := by
          have := (List.getElem?_eq_some_iff.1 e').1
          simp at this; omega
        subst hj2
        rw [← hlen] at e
        simp at e e'
        subst e e'
        exact ⟨vs.toArray, E, heap_alloc_new w _, by simp [hr.1], by simpa using hr⟩
    · rcases List.mem_append.1 hb' with hm | hm
      · exact s1.ls.free b hm
      · simp at hm; subst hm
        exact ⟨fun o => by have := sm.hs.own_lt o; omega, fun o => sm.hs.val_new (Nat.le_refl _) o⟩
    · rw [List.nodup_append]
      refine ⟨sm.ls.nd, by simp, fun x hx y hy e => ?_⟩
      simp at hy; subst hy; subst e
      have := sm.ls.lt hx; omega
  · rw [← hlen]; simp
end
end Go.Proofs.YtoleejecmefogaaDoor
/- Stores into the frame's own objects and into shared ones; new shared objects; the right to append. -/
namespace Go.Proofs.YtoleejecmefogaaDoor
open Go
/-- xs laid over cs from o on. -/
def splice {α : Type} (cs : List α) (o : Nat) (xs : List α) : List α := cs.take o ++ xs ++ cs.drop (o + xs.length)
theorem splice_len {α : Type} (cs xs : List α) (o : Nat) (h : o + xs.length ≤ cs.length) : (splice cs o xs).length = cs.length := by
  simp [splice]; omega
theorem splice_one {α : Type} (cs : List α) (o : Nat) (x : α) (h : o < cs.length) : splice cs o [x] = cs.set o x := by
  simp [splice, List.set_eq_take_append_cons_drop, h]
theorem RepL.splice {G : Gh} {cs xs : List AV} {vs us : List Value} (h : RepL G cs vs) (k : RepL G xs us) (o : Nat) : RepL G (splice cs o xs) (splice vs o us) := by
  unfold Go.Proofs.YtoleejecmefogaaDoor.splice
  rw [k.1]
  exact ((h.take o).append k).append (h.drop _)
section
variable {G : Gh} {h : Hp} {w w' : World} {L : List Nat} {s : St} {a : Act}
theorem heap_setRow {g : Nat} (cs : Array Value) {b : Nat} (hne : b ≠ g) : (w.setRow g cs).heap[b]? = w.heap[b]? := setRow_other w g b cs hne
/-- Block g is written, of which nothing is told but by hand. -/
theorem HSim.setRow (hs : HSim G h w) {g : Nat} (cs : Array Value) (hO : ¬ Own G h g) (hv : ∀ o, G.val g o = none) : HSim G h (w.setRow g cs) where
  val b o x e := by
    have hne : b ≠ g := fun e' => by subst e'; rw [hv] at e; cases e
    have h2 := hs.val b o x e
    rw [cell_setRow_other w g cs ⟨b, o, none⟩ hne]
    exact h2
  obj i ob e := by
    obtain ⟨b, o, x, y, z⟩ := hs.obj i ob e
    have hne : b ≠ g := fun e' => hO (.inl ⟨i, by rw [e]; simp, e' ▸ x⟩)
    exact ⟨b, o, x, by rw [heap_setRow cs hne]; exact y, z⟩
  inj := hs.inj
  tok k m e := by
    refine (hs.tok k m e).move (GLe.refl G) rfl fun t a => ⟨?_, fun _ => rfl⟩
    have hne : t.g ≠ g := fun e' => hO (.inr ⟨k, t, by rw [e]; simp, a, e'⟩)
    rw [heap_setRow cs hne]
  tinj := hs.tinj
  tobj := hs.tobj
  fat := hs.fat
  ftl := hs.ftl
/-- A store into an own object. -/
theorem Sim.setLoc (sm : Sim G L s a w) {j g : Nat} {cs ds : List AV} {us : List Value} (hj : L[j]? = some g) (hl : s.lo[j]? = some cs) (hr : RepL G ds us) (hd : ds.length = cs.length) :
    Sim G L { s with lo := s.lo.set j ds } a (w.setRow g us.toArray) ∧ ((∀ b ∈ L, w.heap.size ≤ b ∨ True) ∧ ∀ b, b ≠ g → (w.setRow g us.toArray).heap[b]? = w.heap[b]?) := by
  have hm : g ∈ L := List.mem_of_getElem? hj
  obtain ⟨hO, hv⟩ := sm.ls.free g hm
  refine ⟨⟨sm.hs.setRow _ hO hv, sm.sz, sm.sl, sm.df, ?_⟩, ⟨fun _ _ => .inr trivial, fun b hb => heap_setRow _ hb⟩⟩
  obtain ⟨vs, E, hh, hsz, hrr⟩ := sm.ls.lo j g cs hj hl
  refine ⟨by simpa using sm.ls.len, fun i b cs' e e' => ?_, sm.ls.free, sm.ls.nd⟩
  by_cases hij : j = i
  · subst hij
    rw [hj] at e; cases e
    have hlt : j < s.lo.length := (List.getElem?_eq_some_iff.1 hl).1
    rw [List.getElem?_set_self hlt] at e'
    cases e'
    exact ⟨us.toArray, E, setRow_heap w g vs _ E (0, 0) hh, by simp [hr.1], by simpa using hr⟩
  · rw [List.getElem?_set_ne hij] at e'
    have hne : b ≠ g := fun e' => by
      subst e'
      have h1 := List.getElem?_eq_some_iff.1 e
      have h2 := List.getElem?_eq_some_iff.1 hj
      have h3 := List.pairwise_iff_getElem.1 sm.ls.nd
      rcases Nat.lt_or_gt_of_ne hij with hl' | hl'
      · exact h3 j i h2.1 h1.1 hl' (h2.2.trans h1.2.symm)
      · exact h3 i j h1.1 h2.1 hl' (h1.2.trans h2.2.symm)
    rw [heap_setRow _ hne]
    exact sm.ls.lo i b cs' e e'
theorem own_updH {i : Nat} {x y : AO} (hi : h.H i = some x) {b : Nat} : Own G { h with H := upd h.H i (some y) } b ↔ Own G h b := by
  constructor
  · rintro (⟨j, hj, e⟩ | ⟨k, t, r⟩)
    · refine .inl ⟨j, ?_, e⟩
      by_cases hji : j = i
      · subst hji; rw [hi]; simp
      · simpa [upd_other _ _ hji] using hj
    · exact .inr ⟨k, t, r⟩
  · rintro (⟨j, hj, e⟩ | ⟨k, t, r⟩)
    · refine .inl ⟨j, ?_, e⟩
      by_cases hji : j = i
      · subst hji; simp [upd_same]
      · simpa [upd_other _ _ hji] using hj
    · exact .inr ⟨k, t, r⟩
theorem updH_ne {i : Nat} {x y : AO} (hi : h.H i = some x) {j : Nat} (hj : upd h.H i (some y) j ≠ none) : h.H j ≠ none := by
  by_cases hji : j = i
  · subst hji; rw [hi]; simp
  · simpa [upd_other _ _ hji] using hj
/-- A shared object is written. -/
theorem HSim.setObj (hs : HSim G h w) {i g : Nat} {x y : AO} (hi : h.H i = some x) (hg : G.at_ i = some g) (hb : ∀ b, b ≠ g → w'.heap[b]? = w.heap[b]?) {o : Obj} (ho : w'.heap[g]? = some o) (hr : ORep G y o) :
    HSim G { h with H := upd h.H i (some y) } w' where
  val b o x e := by
    obtain ⟨g', _, hg', _, _, hv⟩ := hs.obj i _ hi
    rw [hg] at hg'; cases hg'
    have hne : b ≠ g := fun e' => by subst e'; rw [hv] at e; cases e
    have h2 := hs.val b o x e
    simp only [World.cell?] at h2 ⊢
    rw [hb b hne]; exact h2
  obj j ob e := by
    by_cases hji : j = i
    · subst hji
      simp only [upd_same] at e
      cases e
      obtain ⟨g', _, hg', _, _, hv⟩ := hs.obj j _ hi
      rw [hg] at hg'; cases hg'
      exact ⟨g, o, hg, ho, hr, hv⟩
    · simp only [upd_other _ _ hji] at e
      obtain ⟨b, o', x, y, z⟩ := hs.obj j ob e
      have hne : b ≠ g := fun e' => by
        subst e'
        exact hji (hs.inj j i b (by rw [e]; simp) (by rw [hi]; simp) x hg)
      exact ⟨b, o', x, by rw [hb b hne]; exact y, z⟩
  inj j k b hj hk := hs.inj j k b (updH_ne hi hj) (updH_ne hi hk)
  tok k m e := by
    refine (hs.tok k m e).move (GLe.refl G) rfl fun t a => ⟨?_, fun _ => rfl⟩
    have hne : t.g ≠ g := fun e' => hs.tobj k i t (by rw [show h.T k = some m from e]; simp) (by rw [hi]; simp) a (e' ▸ hg)
    rw [hb _ hne]
  tinj := hs.tinj
  tobj k j t hk hj := hs.tobj k j t hk (updH_ne hi hj)
  fat := hs.fat
  ftl := hs.ftl
theorem LSim.hb {lo : List (List AV)} (ls : LSim G L lo h w) (hb : ∀ b ∈ L, w'.heap[b]? = w.heap[b]?) : LSim G L lo h w' where
  len := ls.len
  lo j b cs e e' := by rw [hb b (List.mem_of_getElem? e)]; exact ls.lo j b cs e e'
  free := ls.free
  nd := ls.nd
theorem Sim.setObj (sm : Sim G L s a w) {i g : Nat} {x y : AO} (hi : s.h.H i = some x) (hg : G.at_ i = some g) (hb : ∀ b, b ≠ g → w'.heap[b]? = w.heap[b]?) {o : Obj} (ho : w'.heap[g]? = some o) (hr : ORep G y o)
    (h1 : w'.os = w.os) (h2 : w'.tape = w.tape) (h3 : w'.output = w.output) (h4 : w.heap.size ≤ w'.heap.size) :
    Sim G L { s with h := { s.h with H := upd s.h.H i (some y) } } a w' ∧ Fr G s.h w G { s.h with H := upd s.h.H i (some y) } w' := by
  have hO : Own G s.h g := .inl ⟨i, by rw [hi]; simp, hg⟩
  refine ⟨⟨sm.hs.setObj hi hg hb ho hr, sm.sz, sm.sl, sm.df, ?_⟩, ⟨h1, h2, h3, h4, fun b hlt hn => ⟨hb b (fun e => hn (e ▸ hO)), fun o' => hn ((own_updH hi).1 o'), fun _ => rfl⟩⟩⟩
  have l1 := sm.ls.hb (w' := w') (fun b hbL => hb b (fun e => (sm.ls.free b hbL).1 (e ▸ hO)))
  exact ⟨l1.len, l1.lo, fun b hbL => ⟨fun o' => (sm.ls.free b hbL).1 ((own_updH hi).1 o'), (sm.ls.free b hbL).2⟩, l1.nd⟩

/-- A new shared object. -/
def Gh.newAt (G : Gh) (b : Nat) : Gh := { G with at_ := upd G.at_ G.nx (some b), nx := G.nx + 1 }
theorem Gh.newAt_le (hf : ∀ i, G.nx ≤ i → G.at_ i = none) (b : Nat) : GLe G (G.newAt b) :=
  ⟨fun _ _ _ e => e, fun i b' e => by
    have hne : i ≠ G.nx := fun e' => by rw [hf i (by omega)] at e; cases e
    simp only [Gh.newAt, upd_other _ _ hne]; exact e, by simp [Gh.newAt], fun _ _ => .same _⟩
theorem Sim.newObj (sm : Sim G L s a w) {y : AO} {o : Obj} (hr : ORep G y o) :
    s.h.H G.nx = none ∧ Sim (G.newAt w.heap.size) L { s with h := { s.h with H := upd s.h.H G.nx (some y) } } a (w.alloc o) ∧ GLe G (G.newAt w.heap.size) ∧
      Fr G s.h w (G.newAt w.heap.size) { s.h with H := upd s.h.H G.nx (some y) } (w.alloc o) ∧ (G.newAt w.heap.size).at_ G.nx = some w.heap.size := by
  have hs := sm.hs
  have hle := Gh.newAt_le hs.fat w.heap.size
  have hb : ∀ b, b < w.heap.size → (w.alloc o).heap[b]? = w.heap[b]? := fun b hb => heap_alloc_old w _ b hb
  have hno : ∀ i, s.h.H i ≠ none → i ≠ G.nx ∧ ∃ b, G.at_ i = some b ∧ b < w.heap.size := fun i hi => by
    cases hh : s.h.H i with
    | none => exact absurd hh hi
    | some ob =>
      obtain ⟨b, o', e, hb', _⟩ := hs.obj i ob hh
      refine ⟨fun e' => ?_, b, e, (Array.getElem?_eq_some_iff.1 hb').1⟩
      subst e'; rw [hs.fat _ (Nat.le_refl _)] at e; cases e
  have hnx : s.h.H G.nx = none := by
    cases hh : s.h.H G.nx with
    | none => rfl
    | some ob => exact absurd rfl (hno G.nx (by rw [hh]; simp)).1
  have hatn : (G.newAt w.heap.size).at_ G.nx = some w.heap.size := upd_same _ _ _
  have hato : ∀ i, i ≠ G.nx → (G.newAt w.heap.size).at_ i = G.at_ i := fun i hi => upd_other _ _ hi
  have hown : ∀ b, b < w.heap.size → Own (G.newAt w.heap.size) { s.h with H := upd s.h.H G.nx (some y) } b → Own G s.h b := by
    rintro b hlt (⟨j, hj, e⟩ | ⟨k, t, r⟩)
    · by_cases hji : j = G.nx
      · subst hji; rw [hatn] at e; cases e; omega
      · rw [hato j hji] at e
        exact .inl ⟨j, by simpa [upd_other _ _ hji] using hj, e⟩
    · exact .inr ⟨k, t, r⟩
  refine ⟨hnx, ⟨?_, sm.sz, fun t ht => (sm.sl t ht).mono hle, sm.df, ?_⟩, hle, ⟨rfl, rfl, rfl, by simp, fun b hlt hn => ⟨hb b hlt, fun o' => hn (hown b hlt o'), fun _ => rfl⟩⟩, hatn⟩
  · refine ⟨?_, fun i ob e => ?_, fun i j b hi hj e e' => ?_, fun k m e => ?_, hs.tinj, fun k i t hk hi e e' => ?_, fun i hi => ?_, fun k hk => ?_⟩
    · exact (hs.below hb).val
    · by_cases hji : i = G.nx
      · subst hji
        simp only [upd_same] at e; cases e
        exact ⟨w.heap.size, o, hatn, heap_alloc_new w o, hr.mono hle, fun o' => hs.val_new (Nat.le_refl _) o'⟩
      · simp only [upd_other _ _ hji] at e
        obtain ⟨b, o', x, y', z, q⟩ := hs.obj i ob e
        exact ⟨b, o', by rw [hato i hji]; exact x, by rw [hb b (Array.getElem?_eq_some_iff.1 y').1]; exact y', z.mono hle, q⟩
    · by_cases h1 : i = G.nx <;> by_cases h2 : j = G.nx
      · rw [h1, h2]
      · subst h1
        rw [hatn] at e; cases e
        simp only [upd_other _ _ h2] at hj
        obtain ⟨b, e3, hlt⟩ := (hno j hj).2
        rw [hato j h2, e3] at e'; cases e'; omega
      · subst h2
        rw [hatn] at e'; cases e'
        simp only [upd_other _ _ h1] at hi
        obtain ⟨b, e3, hlt⟩ := (hno i hi).2
        rw [hato i h1, e3] at e; cases e; omega
      · rw [hato i h1] at e; rw [hato j h2] at e'
        exact hs.inj i j b (by simpa [upd_other _ _ h1] using hi) (by simpa [upd_other _ _ h2] using hj) e e'
    · exact ((hs.below hb).tok k m e).move hle rfl fun t a => ⟨rfl, fun _ => rfl⟩
    · by_cases h1 : i = G.nx
      · subst h1
        rw [hatn] at e'
        have e3 : w.heap.size = t.g := by injection e'
        have := hs.own_lt (.inr ⟨k, t, hk, e, rfl⟩)
        omega
      · rw [hato i h1] at e'
        exact hs.tobj k i t hk (by simpa [upd_other _ _ h1] using hi) e e'
    · have : G.nx + 1 ≤ i := hi
      rw [hato i (by omega)]
      exact hs.fat i (by omega)
    · have : G.nx + 1 ≤ k := hk
      exact hs.ftl k (by omega)
  · have l1 := sm.ls.below hb
    refine ⟨l1.len, fun j b cs e e' => ?_, fun b hbL => ⟨fun o' => (sm.ls.free b hbL).1 (hown b (sm.ls.lt hbL) o'), (sm.ls.free b hbL).2⟩, l1.nd⟩
    obtain ⟨vs, E, x, y', z⟩ := l1.lo j b cs e e'
    exact ⟨vs, E, x, y', z.mono hle⟩
end
end Go.Proofs.YtoleejecmefogaaDoor
/- What the quiet operations yield, told in trees: no operation here writes what is told. -/
namespace Go.Proofs.YtoleejecmefogaaDoor
open Go
inductive TyK where
  | int (k : IntKind) | bool | str | ptr (e : Nat) | slice (e : Nat) | array (n e : Nat) | map (k e : Nat) | struct (fs : List (Nat × Nat)) | func | iface | tuple | other
structure TyD where
  size : Nat
  bytes : Nat
  kind : TyK
  zero : List AV
def kindOf : TypeDesc → TyK
  | .int k => .int k
  | .bool => .bool
  | .string => .str
  | .pointer e => .ptr e
  | .slice e => .slice e
  | .array n e => .array n e
  | .map k e => .map k e
  | .struct fs => .struct (fs.toList.map fun f => (f.offset, f.type))
  | .func _ _ _ => .func
  | .interface _ => .iface
  | .tuple _ => .tuple
  | _ => .other
def tyd (P : Program) (t : Nat) : Option TyD :=
  match P.info? t, P.underlying t with
  | some i, some d => match i.zero with
    | some z => if z.cells.toList.all (·.oneCell') then some ⟨i.size, i.bytes, kindOf d, z.cells.toList.map AV.v⟩ else none
    | none => none
  | _, _ => none
def TyD.isAgg (d : TyD) : Bool := match d.kind with | .struct _ | .array _ _ => true | _ => false
def TyOk (P : Program) (ty : Nat → Option TyD) : Prop := ∀ t d, ty t = some d → tyd P t = some d
theorem tyd_info {P : Program} {t : Nat} {d : TyD} (h : tyd P t = some d) :
    ∃ i D z, P.info? t = some i ∧ P.underlying t = some D ∧ i.size = d.size ∧ i.bytes = d.bytes ∧ kindOf D = d.kind ∧ i.zero = some z ∧ z.cells.toList.all (·.oneCell') = true ∧ d.zero = z.cells.toList.map AV.v := by
  unfold tyd at h
  split at h
  · rename_i i D hi hD
    split at h
    · rename_i z hz
      split at h
      · rename_i h1
        injection h with h; subst h
        exact ⟨i, D, z, hi, hD, rfl, rfl, rfl, hz, h1, rfl⟩
      · cases h
    · cases h
  · cases h
theorem isAgg_run {P : Program} {t : Nat} {d : TyD} (h : tyd P t = some d) (w : World) : (isAgg t).run P w = .ok d.isAgg w := by
  obtain ⟨i, D, z, _, hD, _, _, hk, _⟩ := tyd_info h
  unfold isAgg TyD.isAgg
  rw [Sem.run_bind, run_underlying hD w, ← hk]
  cases D <;> rfl
theorem sizeOf_run {P : Program} {t : Nat} {d : TyD} (h : tyd P t = some d) (w : World) : (sizeOf t).run P w = .ok d.size w := by
  obtain ⟨i, D, z, hi, _, hs, _⟩ := tyd_info h
  simp [sizeOf, typeInfo, hi, hs]
theorem under_run {P : Program} {t : Nat} {d : TyD} (h : tyd P t = some d) (w : World) : ∃ D, (underlying t).run P w = .ok D w ∧ kindOf D = d.kind := by
  obtain ⟨i, D, z, _, hD, _, _, hk, _⟩ := tyd_info h
  exact ⟨D, run_underlying hD w, hk⟩
def ld (d : TyD) (cs : List AV) (o : Nat) : AV := if d.isAgg then .agg ((cs.drop o).take d.size) else cs.getD o .junk
def ldOk (d : TyD) (cs : List AV) (o : Nat) : Prop := if d.isAgg then o + d.size ≤ cs.length else o < cs.length
/-- A load from cells that are known. -/
theorem load_run {P : Program} {G : Gh} {t : Nat} {d : TyD} (hd : tyd P t = some d) {cs : List AV} {us : List Value} {g b o : Nat} {w : World} (hr : RepL G cs us) (hc : ∀ j x, us[j]? = some x → w.cell? ⟨g, b + j, none⟩ = some x) (ho : ldOk d cs o) :
    ∃ v, (loadVar t ⟨g, b + o, none⟩).run P w = .ok v w ∧ Rep G (ld d cs o) v := by
  unfold ldOk at ho
  unfold loadVar ld
  simp only [Sem.run_bind, isAgg_run hd, Result.andThen_ok]
  cases ha : d.isAgg with
  | false =>
    simp only [ha, Bool.false_eq_true, if_false] at ho ⊢
    obtain ⟨x, hx, hrx, _⟩ := hr.getD ho
    exact ⟨x, by simp [hc o x hx], hrx⟩
  | true =>
    simp only [ha, if_true] at ho ⊢
    have hrr := ((hr.drop o).take d.size)
    have hl : ((us.drop o).take d.size).length = d.size := by simp [hr.1]; omega
    refine ⟨.agg ((us.drop o).take d.size).toArray, ?_, hrr.agg⟩
    have hrun := run_loadCells_list (P := P) w ⟨g, b + o, none⟩ ((us.drop o).take d.size) (fun j v hv => by
      rw [Addr.add_lit, Nat.add_assoc]
      refine hc _ _ ?_
      rw [List.getElem?_take] at hv
      split at hv
      · simpa using hv
      · cases hv)
    rw [hl] at hrun
    simp only [sizeOf_run hd, Result.andThen_ok, Sem.run_map, Sem.run_bind, hrun, Sem.run_pure]
theorem Rep.ref_inv {G : Gh} {cs : List AV} {o : Nat} {x : Value} (h : Rep G (.ref cs o) x) :
    ∃ g b us, x = .pointer (some ⟨g, b + o, none⟩) ∧ RepL G cs us ∧ ∀ j y, us[j]? = some y → G.val g (b + j) = some y := by
  cases h with
  | ref _ _ g b u hu hr h1 =>
    refine ⟨g, b, (List.range cs.length).map u, rfl, RepL.of_fun u hr h1, fun j y hy => ?_⟩
    rw [List.getElem?_map] at hy
    by_cases hj : j < cs.length
    · rw [List.getElem?_range hj] at hy; simp at hy; subst hy; exact hu j hj
    · rw [List.getElem?_eq_none (by simp; omega)] at hy; cases hy
/-- Where a told address points, and what lies there. -/
def cellsAt (lo : List (List AV)) (h : Hp) : AV → Option (List AV × Nat)
  | .ref cs o => some (cs, o)
  | .loc j o => lo[j]?.map (·, o)
  | .ptr i o => match h.H i with | some (.cells cs) => some (cs, o) | _ => none
  | .eptr k n i f => match h.T k with | some (.cont _ xs) => some (if xs.length = n then xs.getD i [] else [], f) | _ => none
  | _ => none
theorem cellsAt_sound {G : Gh} {L : List Nat} {s : St} {a : Act} {w : World} (sm : Sim G L s a w) {x : AV} {v : Value} (hx : RepT G L x v) {cs : List AV} {o : Nat} (hc : cellsAt s.lo s.h x = some (cs, o)) :
    ∃ g b us, v = .pointer (some ⟨g, b + o, none⟩) ∧ RepL G cs us ∧ ∀ j y, us[j]? = some y → w.cell? ⟨g, b + j, none⟩ = some y := by
  cases x with
  | ref cs' o' =>
    simp only [cellsAt, Option.some.injEq, Prod.mk.injEq] at hc
    obtain ⟨rfl, rfl⟩ := hc
    obtain ⟨g, b, us, e, hr, hu⟩ := Rep.ref_inv hx
    exact ⟨g, b, us, e, hr, fun j y hy => sm.hs.val _ _ _ (hu j y hy)⟩
  | loc j o' =>
    obtain ⟨b, hb, rfl⟩ := hx
    simp only [cellsAt, Option.map_eq_some_iff] at hc
    obtain ⟨cs', hc, e⟩ := hc
    simp only [Prod.mk.injEq] at e
    obtain ⟨rfl, rfl⟩ := e
    obtain ⟨vs, E, hh, _, hr⟩ := sm.ls.lo j b cs' hb hc
    exact ⟨b, 0, vs.toList, by simp, hr, fun j y hy => by simpa [World.cell?, hh] using hy⟩
  | ptr i o' =>
    cases hx with
    | ptr _ _ b hat =>
      simp only [cellsAt] at hc
      split at hc
      · rename_i cs' hH
        simp only [Option.some.injEq, Prod.mk.injEq] at hc
        obtain ⟨rfl, rfl⟩ := hc
        obtain ⟨b', ob, e, hb, ⟨vs, E, rfl, hr⟩, _⟩ := sm.hs.obj i _ hH
        rw [hat] at e; cases e
        refine ⟨b, 0, vs.toList.take cs'.length, by simp, hr, fun j y hy => ?_⟩
        rw [List.getElem?_take] at hy
        split at hy
        · simpa [World.cell?, hb] using hy
        · cases hy
      · cases hc
  | eptr k n i f =>
    cases hx with
    | eptr _ _ _ _ p ha =>
      simp only [cellsAt] at hc
      split at hc
      · rename_i z xs hT
        simp only [Option.some.injEq, Prod.mk.injEq] at hc
        obtain ⟨rfl, rfl⟩ := hc
        obtain ⟨hk, b, q, e, hm⟩ := ha
        simp only [Value.pointer.injEq] at e
        by_cases hin : xs.length = n ∧ i < n
        · rw [if_pos hin.1]
          rcases sm.hs.tok k _ hT with ⟨e1, e2⟩ | ⟨t, vs, E, htl, htm, h0, hh, hsz, hc1, hc2, hnv, htz, hzx, hr⟩
          · rw [e1] at hm; exact hm.elim
          · rw [htl] at hm
            obtain ⟨hle, hcur⟩ := hm
            obtain ⟨rfl, rfl⟩ := hcur (by rw [htm, hin.1])
            have hix : i < xs.length := by omega
            refine ⟨t.g, i * t.z, ((vs.toList.take xs.flatten.length).drop (i * t.z)).take z, by rw [e], ?_, fun j y hy => ?_⟩
            · have h1 := (hr.drop (i * t.z)).take z
              have h2 : (xs.flatten.drop (i * t.z)).take z = xs.getD i [] := by
                rw [htz]
                exact flatten_elem hzx hix
              rw [h2] at h1; exact h1
            · rw [List.getElem?_take] at hy
              split at hy
              · rw [List.getElem?_drop, List.getElem?_take] at hy
                split at hy
                · simpa [World.cell?, hh] using hy
                · cases hy
              · cases hy
        · refine ⟨b, q, [], by rw [e], ?_, fun j y hy => by simp at hy⟩
          have : (if xs.length = n then xs.getD i [] else []) = [] := by
            split
            · rw [List.getD_eq_getElem?_getD, List.getElem?_eq_none (by omega)]; rfl
            · rfl
          rw [this]; exact RepL.nil G
      · cases hc
  | _ => simp [cellsAt] at hc

def Quiet (P : Program) (c : Cx) (o : Oper) (s : St) (x : AV) : Prop :=
  ∀ a w, In c s a w → ∀ (Kc : Act → World → Prop) (Qc : Exit → Act → World → Prop), (∀ v w', In c (s.put o.dst x) (a.put o.dst v) w' → Kc (a.put o.dst v) w') → o.wp P a w Kc Qc
theorem quiet_pure {P : Program} {c : Cx} {o : Oper} {s : St} {x : AV} (hrun : ∀ G L a w, Sim G L s a w → ∃ v, (execOp a.eval o).run P w = .ok (.value v) w ∧ RepT G L x v) : Quiet P c o s x := by
  rintro a w ⟨G, L, sm, hg, hf, hL⟩ Kc Qc hk
  obtain ⟨v, hr, hx⟩ := hrun G L a w sm
  unfold Oper.wp
  rw [hr]
  exact hk v w (In.put sm hg hf hL o.dst hx)
theorem quiet_fresh {P : Program} {c : Cx} {o : Oper} {s : St} {x : AV}
    (hrun : ∀ G L a w, Sim G L s a w → ∃ v vs E, (execOp a.eval o).run P w = .ok (.value v) (w.alloc (.cells (vs : List Value).toArray E)) ∧ RepT (G.ext w.heap.size vs) L x v) : Quiet P c o s x := by
  rintro a w ⟨G, L, sm, hg, hf, hL⟩ Kc Qc hk
  obtain ⟨v, vs, E, hr, hx⟩ := hrun G L a w sm
  obtain ⟨s1, g1, f1⟩ := sm.fresh vs E
  unfold Oper.wp
  rw [hr]
  exact hk v _ (In.put s1 (hg.trans g1) (hf.trans f1) hL o.dst hx)
section
variable {P : Program} {c : Cx} {o : Oper} {s : St}
theorem q_load {t : Nat} {x : Operand} (ho : o.op = .load t x) {d : TyD} (hd : tyd P t = some d) {cs : List AV} {off : Nat} (hc : cellsAt s.lo s.h (s.ev x) = some (cs, off)) (hl : ldOk d cs off) : Quiet P c o s (ld d cs off) := by
  refine quiet_pure fun G L a w sm => ?_
  obtain ⟨g, b, us, e, hr, hu⟩ := cellsAt_sound sm (sm.ev x) hc
  obtain ⟨v, hv, hrep⟩ := load_run hd hr hu hl
  exact ⟨v, by simp only [execOp, ho, e, Instr.loadAt, Instr.sureAddr, Sem.run_bind, Sem.run_pure, Result.andThen_ok, hv], RepT.of hrep⟩
end
end Go.Proofs.YtoleejecmefogaaDoor
/- More quiet operations. -/
namespace Go.Proofs.YtoleejecmefogaaDoor
open Go
def AV.shift (n : Nat) : AV → AV
  | .ref cs o => .ref cs (o + n)
  | .loc j o => .loc j (o + n)
  | .ptr i o => .ptr i (o + n)
  | .eptr k m i f => .eptr k m i (f + n)
  | _ => .junk
def AV.isAddr : AV → Bool
  | .ref _ _ | .loc _ _ | .ptr _ _ | .eptr _ _ _ _ => true
  | _ => false
theorem RepT.shift {G : Gh} {L : List Nat} {x : AV} {v : Value} (h : RepT G L x v) (hx : x.isAddr = true) : ∃ b o, v = .pointer (some ⟨b, o, none⟩) ∧ ∀ n, RepT G L (x.shift n) (.pointer (some ⟨b, o + n, none⟩)) := by
  cases x with
  | ref cs o =>
    cases h with
    | ref _ _ g b u hu hr h1 => exact ⟨g, b + o, rfl, fun n => by rw [Nat.add_assoc]; exact Rep.ref cs (o + n) g b u hu hr h1⟩
  | loc j o => obtain ⟨b, hb, rfl⟩ := h; exact ⟨b, o, rfl, fun n => ⟨b, hb, rfl⟩⟩
  | ptr i o => cases h with
    | ptr _ _ b hat => exact ⟨b, o, rfl, fun n => Rep.ptr i (o + n) b hat⟩
  | eptr k m i f => cases h with
    | eptr _ _ _ _ p ha =>
      obtain ⟨hk, b, q, e, r⟩ := ha
      cases e
      exact ⟨b, q + f, rfl, fun n => Rep.eptr k m i (f + n) _ ⟨hk, b, q, by rw [Nat.add_assoc], r⟩⟩
  | _ => simp [AV.isAddr] at hx
theorem RepT.v_inv {G : Gh} {L : List Nat} {x y : Value} (h : RepT G L (.v x) y) : y = x := by
  cases h with
  | v _ _ => rfl
theorem Sim.evv {G : Gh} {L : List Nat} {s : St} {a : Act} {w : World} (h : Sim G L s a w) {x : Operand} {u : Value} (e : s.ev x = .v u) : a.eval x = u := by
  have := h.ev x
  rw [e] at this
  exact this.v_inv
theorem Sim.eve {G : Gh} {L : List Nat} {s : St} {a : Act} {w : World} (h : Sim G L s a w) {x : Operand} {u : AV} (e : s.ev x = u) : RepT G L u (a.eval x) := e ▸ h.ev x
theorem fieldPlace_run {P : Program} {f : Field} {d : TyD} (hd : tyd P f.type = some d) (hs : d.size ≠ 0) (b o : Nat) (w : World) : (fieldPlace ⟨b, o, none⟩ f).run P w = .ok ⟨b, o + f.offset, none⟩ w := by
  simp only [fieldPlace, Sem.run_bind, sizeOf_run hd, Result.andThen_ok, if_neg hs, Sem.run_pure, Addr.add_lit]
/-- Field f of struct type t: where it lies and its type. -/
def fdd (ty : Nat → Option TyD) (t f : Nat) : Option (Nat × TyD) :=
  match ty t with
  | some d => match d.kind with
    | .struct fs => match fs[f]? with
      | some (off, u) => match ty u with
        | some e => some (off, e)
        | none => none
      | none => none
    | _ => none
  | none => none
theorem fdd_info {P : Program} {ty : Nat → Option TyD} (hty : TyOk P ty) {t f off : Nat} {e : TyD} (h : fdd ty t f = some (off, e)) :
    ∃ fs fl, P.underlying t = some (.struct fs) ∧ fs[f]? = some fl ∧ fl.offset = off ∧ tyd P fl.type = some e := by
  unfold fdd at h
  split at h
  · rename_i d hd
    split at h
    · rename_i fs hk
      split at h
      · rename_i off' u hf
        split at h
        · rename_i e' he
          simp only [Option.some.injEq, Prod.mk.injEq] at h
          obtain ⟨rfl, rfl⟩ := h
          obtain ⟨i, D, z, _, hD, _, _, hkk, _⟩ := tyd_info (hty _ _ hd)
          rw [hk] at hkk
          cases D with
          | struct gs =>
            simp only [kindOf, TyK.struct.injEq] at hkk
            subst hkk
            rw [List.getElem?_map] at hf
            simp only [Array.getElem?_toList, Option.map_eq_some_iff, Prod.mk.injEq] at hf
            obtain ⟨fl, h1, h2, h3⟩ := hf
            exact ⟨gs, fl, hD, h1, h2, by rw [h3]; exact hty _ _ he⟩
          | _ => simp [kindOf] at hkk
        · cases h
      · cases h
    · cases h
  · cases h
section
variable {P : Program} {c : Cx} {o : Oper} {s : St} {ty : Nat → Option TyD}
theorem q_move {x : Operand} (ho : o.op = .move x ∨ o.op = .assign x) : Quiet P c o s (s.ev x) :=
  quiet_pure fun G L a w sm => ⟨a.eval x, by rcases ho with ho | ho <;> simp [execOp, ho], sm.ev x⟩
theorem q_pick {p x y : Operand} (ho : o.op = .pick p x y) {b : Bool} (hb : s.ev p = .v (.bool b)) : Quiet P c o s (bif b then s.ev x else s.ev y) := by
  refine quiet_pure fun G L a w sm => ?_
  have e := sm.evv hb
  cases b
  · exact ⟨a.eval y, by simp [execOp, ho, e, asBool], sm.ev y⟩
  · exact ⟨a.eval x, by simp [execOp, ho, e, asBool], sm.ev x⟩
theorem q_nilCheck {x : Operand} (ho : o.op = .nilCheck x) (h : (s.ev x).isAddr = true) : Quiet P c o s (s.ev x) := by
  refine quiet_pure fun G L a w sm => ?_
  have hr := sm.ev x
  obtain ⟨b, off, e, _⟩ := hr.shift h
  exact ⟨a.eval x, by simp [execOp, ho, e], hr⟩
theorem q_fieldAddr (hty : TyOk P ty) {t f : Nat} {x : Operand} (ho : o.op = .fieldAddr t x f) {off : Nat} {e : TyD} (hf : fdd ty t f = some (off, e)) (hs : e.size ≠ 0) (h : (s.ev x).isAddr = true) : Quiet P c o s ((s.ev x).shift off) := by
  refine quiet_pure fun G L a w sm => ?_
  obtain ⟨fs, fl, hu, hfl, rfl, hd⟩ := fdd_info hty hf
  obtain ⟨b, off', e, hr⟩ := (sm.ev x).shift h
  refine ⟨_, ?_, hr _⟩
  simp only [execOp, ho, e, Instr.fieldAt, Sem.run_bind, run_underlying hu, Result.andThen_ok, hfl, Instr.sureAddr, Sem.run_pure, fieldPlace_run hd hs]
theorem q_field (hty : TyOk P ty) {t f : Nat} {x : Operand} (ho : o.op = .field t x f) {off : Nat} {e : TyD} (hf : fdd ty t f = some (off, e)) {cs : List AV} (h : s.ev x = .agg cs) (hl : ldOk e cs off) : Quiet P c o s (ld e cs off) := by
  refine quiet_pure fun G L a w sm => ?_
  obtain ⟨fs, fl, hu, hfl, rfl, hd⟩ := fdd_info hty hf
  obtain ⟨vs, e1, hr⟩ := RepL.of_agg (sm.eve h)
  simp only [execOp, ho, e1, Instr.field, Sem.run_bind, run_underlying hu, Result.andThen_ok, hfl, asAgg, Sem.run_pure, part, isAgg_run hd]
  unfold ldOk at hl
  unfold ld
  cases ha : e.isAgg with
  | false =>
    simp only [ha, Bool.false_eq_true, if_false] at hl ⊢
    obtain ⟨y, hy, hry, _⟩ := hr.getD hl
    exact ⟨y, by simp [hy], RepT.of hry⟩
  | true =>
    simp only [ha, if_true] at hl ⊢
    refine ⟨.agg ((vs.drop fl.offset).take e.size).toArray, ?_, RepT.of ((hr.drop _).take _).agg⟩
    simp only [Sem.run_bind, sizeOf_run hd, Result.andThen_ok, Sem.run_pure]
    congr 3
    simp [List.extract_toArray, List.extract_eq_drop_take]
end
end Go.Proofs.YtoleejecmefogaaDoor
/- Quiet operations on numbers, strings, slices; what makes memory that stays. -/
namespace Go.Proofs.YtoleejecmefogaaDoor
open Go
def arith (k : IntKind) (r : Int) (K : AV → Prop) : Prop :=
  match k with
  | .i64 => (-9223372036854775808 ≤ r ∧ r ≤ 9223372036854775807) ∧ K (.v (.int .i64 r))
  | k => K (.v (.int k (k.wrap r)))
def iBin (op : BinOp) (k : IntKind) (a b : Int) (K : AV → Prop) : Prop :=
  match op with
  | .add => arith k (a + b) K
  | .sub => arith k (a - b) K
  | .mul => arith k (a * b) K
  | .quo => b ≠ 0 ∧ arith k (a.tdiv b) K
  | .rem => b ≠ 0 ∧ K (.v (.int k (a.tmod b)))
  | .and => K (.v (.int k (bits .and k a b)))
  | .or => K (.v (.int k (bits .or k a b)))
  | .xor => K (.v (.int k (bits .xor k a b)))
  | .andNot => K (.v (.int k (bits .andNot k a b)))
  | .eql => K (.v (.bool (a == b)))
  | .neq => K (.v (.bool (a != b)))
  | .lss => K (.v (.bool (decide (a < b))))
  | .leq => K (.v (.bool (decide (a ≤ b))))
  | .gtr => K (.v (.bool (decide (b < a))))
  | .geq => K (.v (.bool (decide (b ≤ a))))
  | _ => False
def sBin (op : BinOp) (a b : ByteArray) (K : AV → Prop) : Prop :=
  match op with
  | .add => a.size + b.size ≤ 9223372036854775807 ∧ K (.v (.string (a ++ b)))
  | .eql => K (.v (.bool (a == b)))
  | .neq => K (.v (.bool (!(a == b))))
  | .lss => K (.v (.bool (Op.bytesLess a.toList b.toList)))
  | .leq => K (.v (.bool (Op.bytesLess a.toList b.toList || (a == b))))
  | .gtr => K (.v (.bool (!(Op.bytesLess a.toList b.toList || (a == b)))))
  | .geq => K (.v (.bool (!Op.bytesLess a.toList b.toList)))
  | _ => False
/-- Something that is not nil. -/
def AV.notNil : AV → Bool
  | .ref _ _ | .loc _ _ | .ptr _ _ | .map _ | .fn _ _ => true
  | .row _ (_ :: _) _ => true
  | _ => false
def AV.isNil : AV → Bool
  | .v (.pointer none) | .v (.map none) | .v .nilFunc | .v (.slice none _ _) => true
  | _ => false
def nBin (op : BinOp) (b : Bool) (K : AV → Prop) : Prop :=
  match op with
  | .eql => K (.v (.bool b))
  | .neq => K (.v (.bool (!b)))
  | _ => False
def vBin (op : BinOp) (x y : AV) (K : AV → Prop) : Prop :=
  match x, y with
  | .v (.int k a), .v (.int k' b) => k = k' ∧ iBin op k a b K
  | .v (.string a), .v (.string b) => sBin op a b K
  | .v (.bool a), .v (.bool b) => match op with
    | .eql => K (.v (.bool (a == b)))
    | .neq => K (.v (.bool (!(a == b))))
    | _ => False
  | _, _ => False
theorem arith_sound {k : IntKind} {r : Int} {K : AV → Prop} (h : arith k r K) : K (.v (.int k (k.wrap r))) := by
  unfold arith at h
  split at h
  · rw [IntWalk.i64_in r h.1]; exact h.2
  · exact h
theorem vBin_sound {P : Program} {op : BinOp} {x y : AV} {K : AV → Prop} (h : vBin op x y K) {t : TypeId} {o1 o2 : Operand} {u v : Value} {G : Gh} {L : List Nat} (hx : RepT G L x u) (hy : RepT G L y v) {d : TyD} (hd : tyd P t = some d) (hk : ∀ b, x = .v (.bool b) → d.kind = .bool) (w : World) :
    ∃ r, K (.v r) ∧ r.oneCell' = true ∧ ((do eqGuard op t o1 o2 u v; binOp op t u v : Sem Value).run P w) = .ok r w := by
  unfold vBin at h
  split at h
  · rename_i k a k' b
    obtain ⟨rfl, h⟩ := h
    cases hx.v_inv; cases hy.v_inv
    unfold iBin at h
    simp only [eqGuard_at_int, pure_bind]
    cases op <;> simp only at h
    case add => exact ⟨_, arith_sound h, rfl, by rw [binOp_add]; rfl⟩
    case sub => exact ⟨_, arith_sound h, rfl, by rw [binOp_sub]; rfl⟩
    case mul => exact ⟨_, arith_sound h, rfl, by rw [binOp_mul]; rfl⟩
    case quo => exact ⟨_, arith_sound h.2, rfl, by rw [binOp_quo, Op.intDiv, if_neg h.1]; rfl⟩
    case rem => exact ⟨_, h.2, rfl, by rw [binOp_rem, Op.intDiv, if_neg h.1]; rfl⟩
    case and => exact ⟨_, h, rfl, by rw [binOp_and, intBits_and]; rfl⟩
    case or => exact ⟨_, h, rfl, by rw [binOp_or, intBits_or]; rfl⟩
    case xor => exact ⟨_, h, rfl, by rw [binOp_xor, intBits_xor]; rfl⟩
    case andNot => exact ⟨_, h, rfl, by rw [binOp_andNot, intBits_andNot]; rfl⟩
    case eql => exact ⟨_, h, rfl, by rw [binOp_eql]; rfl⟩
    case neq => exact ⟨_, h, rfl, by rw [binOp_neq]; rfl⟩
    case lss => exact ⟨_, h, rfl, by rw [binOp_lss]; rfl⟩
    case leq => exact ⟨_, h, rfl, by rw [binOp_leq]; rfl⟩
    case gtr => exact ⟨_, h, rfl, by rw [binOp_gtr]; rfl⟩
    case geq => exact ⟨_, h, rfl, by rw [binOp_geq]; rfl⟩
  · rename_i a b
    cases hx.v_inv; cases hy.v_inv
    unfold sBin at h
    simp only [eqGuard_at_string, pure_bind]
    have hb := beq_toListBytes a b
    cases op <;> simp only at h
    case add => exact ⟨_, h.2, rfl, by simp only [binOp]; rw [run_string_add_if, if_neg (by omega)]⟩
    all_goals first | exact h.elim | (rw [hb] at h; exact ⟨_, h, rfl, rfl⟩) | exact ⟨_, h, rfl, rfl⟩
  · rename_i a b
    cases hx.v_inv; cases hy.v_inv
    have hkb := hk a rfl
    simp only [eqGuard_at_bool, pure_bind]
    obtain ⟨i, D, z, _, hD2, _, _, hk2, _⟩ := tyd_info hd
    have hDb : D = .bool := by rw [hkb] at hk2; cases D <;> simp_all [kindOf]
    subst hDb
    have hr := run_equalIn_bool' (P := P) w 9999 t a b hD2
    cases op <;> simp only at h
    case eql => exact ⟨_, h, rfl, by simp only [binOp, Op.equal, Op.maxDepth, Sem.run_bind, hr, Result.andThen_ok, Sem.run_pure]⟩
    case neq => exact ⟨_, h, rfl, by simp only [binOp, Op.equal, Op.maxDepth, Sem.run_bind, hr, Result.andThen_ok, Sem.run_pure]⟩
    all_goals exact h.elim
  · exact h.elim
end Go.Proofs.YtoleejecmefogaaDoor
/- Quiet operations on slices, strings, tuples; boxes that stay; literals. -/
namespace Go.Proofs.YtoleejecmefogaaDoor
open Go
theorem Rep.row_inv {G : Gh} {z : Nat} {xs : List (List AV)} {k : Option Nat} {x : Value} (h : Rep G (.row z xs k) x) :
    (∃ a, x = .slice a 0 0 ∧ xs = []) ∨ ∃ g o c us, x = .slice (some ⟨g, o, none⟩) xs.length c ∧ xs.length ≤ c ∧ (∀ y ∈ xs, y.length = z) ∧ RepL G xs.flatten us ∧ ∀ j y, us[j]? = some y → G.val g (o + j) = some y := by
  cases h with
  | row _ _ _ g o n c u hn hc hz hu hr h1 ht =>
    subst hn
    have hl := flatten_len hz
    refine .inr ⟨g, o, c, (List.range xs.flatten.length).map u, rfl, hc, hz, RepL.of_fun u hr (fun j hj => h1 j (Nat.lt_of_lt_of_eq hj hl)), fun j y hy => ?_⟩
    rw [List.getElem?_map] at hy
    by_cases hj : j < xs.flatten.length
    · rw [List.getElem?_range hj] at hy; simp at hy; subst hy; exact hu j (Nat.lt_of_lt_of_eq hj hl)
    · rw [List.getElem?_eq_none (by simpa using Nat.le_of_not_lt hj)] at hy; cases hy
  | nil => exact .inl ⟨none, rfl, rfl⟩
  | nilA _ a => exact .inl ⟨a, rfl, rfl⟩
/-- A row out of cells that stay. -/
theorem Rep.row_mk {G : Gh} {z : Nat} {xs : List (List AV)} {g o c : Nat} {us : List Value} (hc : xs.length ≤ c) (hz : ∀ y ∈ xs, y.length = z) (hr : RepL G xs.flatten us) (hu : ∀ j y, us[j]? = some y → G.val g (o + j) = some y) :
    Rep G (.row z xs none) (.slice (some ⟨g, o, none⟩) xs.length c) := by
  have hl := flatten_len hz
  have hl2 := hr.1
  have hget : ∀ j (hj : j < us.length), us.getD j undef = us[j] := fun j hj => by simp [List.getD_eq_getElem?_getD, List.getElem?_eq_getElem hj]
  refine Rep.row z xs none g o xs.length c (fun j => us.getD j undef) rfl hc hz (fun j hj => ?_) (fun j hj => ?_) (fun j hj => ?_) trivial
  · have hj' : j < us.length := by omega
    exact hu j _ (by rw [hget j hj', List.getElem?_eq_getElem hj'])
  · have hj' : j < us.length := by omega
    show Rep G _ (us.getD j undef)
    rw [hget j hj']; exact (hr.2 j hj hj').1
  · have hj' : j < us.length := by omega
    show (us.getD j undef).oneCell' = true
    rw [hget j hj']; exact (hr.2 j (by omega) hj').2
/-- Cells that are part of known ones. -/
theorem RepL.part {G : Gh} {cs : List AV} {us : List Value} {g b : Nat} (hr : RepL G cs us) (hu : ∀ j y, us[j]? = some y → G.val g (b + j) = some y) (o n : Nat) :
    RepL G ((cs.drop o).take n) ((us.drop o).take n) ∧ ∀ j y, ((us.drop o).take n)[j]? = some y → G.val g (b + o + j) = some y := by
  refine ⟨(hr.drop o).take n, fun j y hy => ?_⟩
  rw [List.getElem?_take] at hy
  split at hy
  · rw [Nat.add_assoc]; exact hu _ _ (by simpa using hy)
  · cases hy
theorem Rep.ref_mk {G : Gh} {cs : List AV} {us : List Value} {g b o : Nat} (hr : RepL G cs us) (hu : ∀ j y, us[j]? = some y → G.val g (b + j) = some y) : Rep G (.ref cs o) (.pointer (some ⟨g, b + o, none⟩)) := by
  have hl2 := hr.1
  have hget : ∀ j (hj : j < us.length), us.getD j undef = us[j] := fun j hj => by simp [List.getD_eq_getElem?_getD, List.getElem?_eq_getElem hj]
  refine Rep.ref cs o g b (fun j => us.getD j undef) (fun j hj => ?_) (fun j hj => ?_) (fun j hj => ?_)
  all_goals have hj' : j < us.length := by omega
  · exact hu j _ (by rw [hget j hj', List.getElem?_eq_getElem hj'])
  · show Rep G _ (us.getD j undef)
    rw [hget j hj']; exact (hr.2 j hj hj').1
  · show (us.getD j undef).oneCell' = true
    rw [hget j hj']; exact (hr.2 j (by omega) hj').2
theorem flatten_part {α : Type} {z : Nat} {xs : List (List α)} (hz : ∀ x ∈ xs, x.length = z) {i : Nat} (hi : i < xs.length) : (xs.flatten.drop (i * z)).take z = xs[i] := by
  apply List.ext_getElem?
  intro j
  rw [List.getElem?_take, List.getElem?_drop]
  split
  · rename_i hj; exact flatten_at hz hi hj
  · rename_i hj
    rw [List.getElem?_eq_none]
    rw [hz _ (List.getElem_mem hi)]; omega
theorem flatten_cut {α : Type} {z : Nat} : ∀ {xs : List (List α)} (_ : ∀ x ∈ xs, x.length = z) (l n : Nat), ((xs.drop l).take n).flatten = (xs.flatten.drop (l * z)).take (n * z)
  | [], _, l, n => by simp
  | x :: xs, hz, l + 1, n => by
    have hx := hz x (by simp)
    rw [List.drop_succ_cons, flatten_cut (fun y hy => hz y (by simp [hy])) l n, List.flatten_cons, List.drop_append, hx]
    have : x.drop ((l + 1) * z) = [] := by rw [List.drop_eq_nil_iff, hx, Nat.add_mul]; omega
    rw [this, List.nil_append]
    congr 2
    rw [Nat.add_mul]; omega
  | x :: xs, hz, 0, 0 => by simp
  | x :: xs, hz, 0, n + 1 => by
    have hx := hz x (by simp)
    have ih := flatten_cut (fun y hy => hz y (by simp [hy])) (xs := xs) 0 n
    simp only [List.drop_zero, Nat.zero_mul, List.take_succ_cons, List.flatten_cons] at ih ⊢
    rw [ih, List.take_append, hx]
    rw [List.take_of_length_le (l := x) (by rw [hx, Nat.add_mul]; omega)]
    congr 2
    rw [Nat.add_mul]; omega
/-- The elements' type of a slice's type. -/
def elemD (ty : Nat → Option TyD) (t : Nat) : Option TyD :=
  match ty t with
  | some d => match d.kind with
    | .slice e => ty e
    | _ => none
  | none => none
theorem elemD_info {P : Program} {ty : Nat → Option TyD} (hty : TyOk P ty) {t : Nat} {e : TyD} (h : elemD ty t = some e) : ∃ u, P.underlying t = some (.slice u) ∧ tyd P u = some e := by
  unfold elemD at h
  split at h
  · rename_i d hd
    split at h
    · rename_i u hk
      obtain ⟨i, D, z, _, hD, _, _, hkk, _⟩ := tyd_info (hty _ _ hd)
      rw [hk] at hkk
      cases D <;> simp only [kindOf, TyK.slice.injEq, reduceCtorEq] at hkk
      subst hkk
      exact ⟨_, hD, hty _ _ h⟩
    · cases h
  · cases h
def kindIs (ty : Nat → Option TyD) (t : Nat) (k : TyK) : Prop := ∃ d, ty t = some d ∧ d.kind = k
section
variable {P : Program} {c : Cx} {o : Oper} {s : St} {ty : Nat → Option TyD}
theorem q_indexRow (hty : TyOk P ty) {t : Nat} {x i : Operand} (ho : o.op = .indexAddr t x i) {e : TyD} (he : elemD ty t = some e) {z : Nat} {xs : List (List AV)} {tk : Option Nat} (h : s.ev x = .row z xs tk)
    {k : IntKind} {n : Int} (hn : s.ev i = .v (.int k n)) (h0 : 0 ≤ n) (h1 : n < xs.length) (hz : z = e.size) : Quiet P c o s (.ref (xs.getD n.toNat []) 0) := by
  refine quiet_pure fun G L a w sm => ?_
  obtain ⟨u, hu, hue⟩ := elemD_info hty he
  have hlt : n.toNat < xs.length := by omega
  rcases Rep.row_inv (sm.eve h) with ⟨_, _, e0⟩ | ⟨g, off, cp, us, e1, hc, hzz, hr, hv⟩
  · subst e0; simp at h1; omega
  · have hpart := RepL.part hr hv (n.toNat * z) z
    rw [flatten_part hzz hlt] at hpart
    refine ⟨.pointer (some ⟨g, off + n.toNat * z, none⟩), ?_, RepT.of ?_⟩
    · simp only [execOp, ho, e1, sm.evv hn, Instr.indexAt, asIntOf, Sem.run_bind, Sem.run_pure, Result.andThen_ok, run_underlying hu]
      rw [if_pos ⟨h0, by omega⟩]
      simp only [Sem.run_bind, sizeOf_run hue, Result.andThen_ok, Sem.run_pure, Addr.add_lit, hz]
    · rw [List.getD_eq_getElem?_getD, List.getElem?_eq_getElem hlt]
      exact Rep.ref_mk (o := 0) hpart.1 hpart.2
theorem q_len {t : Nat} {x : Operand} {tt : Nat} (ho : o.op = .call { callee := .builtin .len, args := #[x], argTypes := #[t] }) (he : (elemD ty t).isSome = true) (hty : TyOk P ty) {z : Nat} {xs : List (List AV)} {tk : Option Nat} (h : s.ev x = .row z xs tk) (_ : tt = 0) : Quiet P c o s (.v (.int .i64 xs.length)) := by
  refine quiet_pure fun G L a w sm => ?_
  cases hed : elemD ty t with
  | none => rw [hed] at he; cases he
  | some e =>
    obtain ⟨u, hu, hue⟩ := elemD_info hty hed
    rcases Rep.row_inv (sm.eve h) with ⟨_, e1, e0⟩ | ⟨g, off, cp, us, e1, _⟩
    · subst e0
      exact ⟨_, by simp [execOp, ho, resolve, invoke, builtin, Builtin.len_, run_underlying hu, e1, goInt], RepT.of (.v _ rfl)⟩
    · exact ⟨_, by simp [execOp, ho, resolve, invoke, builtin, Builtin.len_, run_underlying hu, e1, goInt], RepT.of (.v _ rfl)⟩
end
end Go.Proofs.YtoleejecmefogaaDoor
/- Quiet operations: parts of slices and strings, boxes that stay, literals, tuples, functions. -/
namespace Go.Proofs.YtoleejecmefogaaDoor
open Go
def OptIs (v : Option Value) (n d : Int) : Prop := (v = none ∧ n = d) ∨ ∃ k, v = some (.int k n)
theorem bounds_run {P : Program} (b : Bool) (len cap : Nat) (lo hi : Option Value) (l h : Int) (hl : OptIs lo l 0) (hh : OptIs hi h len) (h0 : 0 ≤ l) (h1 : l ≤ h) (h2 : h ≤ cap) (w : World) :
    (Instr.sliceBounds b len cap lo hi none).run P w = .ok (l.toNat, h.toNat, cap) w := by
  have e1 : (h.toNat : Int) = h := Int.toNat_of_nonneg (by omega)
  have hB : ∀ (k : IntKind) (i : Int) (y : Nat) (code : Go.BoundsCode), 0 ≤ i → i ≤ y → (Instr.sliceBound (.int k i) y code).run P w = .ok i.toNat w := fun k i y code a c => by
    simp only [Instr.sliceBound, asIntOf, Sem.run_bind, Sem.run_pure, Result.andThen_ok]
    rw [if_pos ⟨a, c⟩]; rfl
  have hh' : (∃ k, hi = some (.int k h)) ∨ (hi = none ∧ h = len) := by rcases hh with ⟨a, c⟩ | a; exact .inr ⟨a, c⟩; exact .inl a
  have hl' : (∃ k, lo = some (.int k l)) ∨ (lo = none ∧ l = 0) := by rcases hl with ⟨a, c⟩ | a; exact .inr ⟨a, c⟩; exact .inl a
  rcases hh' with ⟨k, rfl⟩ | ⟨rfl, rfl⟩ <;> rcases hl' with ⟨k', rfl⟩ | ⟨rfl, rfl⟩
  · have hb := hB k' l h.toNat .sliceB h0 (by omega)
    have hc := hB k h cap (if b then .sliceAcap else .sliceAlen) (by omega) h2
    simp [Instr.sliceBounds, hc, hb]
  · have hc := hB k h cap (if b then .sliceAcap else .sliceAlen) (by omega) h2
    simp [Instr.sliceBounds, hc]
  · have hb := hB k' l len .sliceB h0 (by omega)
    simp [Instr.sliceBounds, hb]
  · simp [Instr.sliceBounds]
/-- A bound of a slice expression: what it is. -/
def St.bnd (s : St) (x : Option Operand) (d : Int) : Option Int :=
  match x with
  | none => some d
  | some x => match s.ev x with
    | .v (.int _ n) => some n
    | _ => none
theorem Sim.bnd {G : Gh} {L : List Nat} {s : St} {a : Act} {w : World} (h : Sim G L s a w) {x : Option Operand} {d n : Int} (e : s.bnd x d = some n) : OptIs (x.map a.eval) n d := by
  unfold St.bnd at e
  split at e
  · simp only [Option.some.injEq] at e; exact .inl ⟨rfl, e.symm⟩
  · split at e
    · rename_i y k m hm
      simp only [Option.some.injEq] at e; subst e
      exact .inr ⟨k, by simp [h.evv hm]⟩
    · cases e
def isStr (ty : Nat → Option TyD) (t : Nat) : Bool := match ty t with | some d => (match d.kind with | .str => true | _ => false) | none => false
theorem isStr_info {P : Program} {ty : Nat → Option TyD} (hty : TyOk P ty) {t : Nat} (h : isStr ty t = true) : P.underlying t = some .string := by
  unfold isStr at h
  split at h
  · rename_i d hd
    split at h
    · rename_i hk
      obtain ⟨i, D, z, _, hD, _, _, hkk, _⟩ := tyd_info (hty _ _ hd)
      rw [hk] at hkk
      cases D <;> simp only [kindOf, reduceCtorEq] at hkk
      exact hD
    · cases h
  · cases h
section
variable {P : Program} {c : Cx} {o : Oper} {s : St} {ty : Nat → Option TyD}
theorem q_sliceRow (hty : TyOk P ty) {t : Nat} {x : Operand} {lo hi : Option Operand} (ho : o.op = .slice t x lo hi none) {e : TyD} (he : elemD ty t = some e) {z : Nat} {xs : List (List AV)} {tk : Option Nat} (h : s.ev x = .row z xs tk)
    {l n : Int} (hl : s.bnd lo 0 = some l) (hh : s.bnd hi xs.length = some n) (h0 : 0 ≤ l) (h1 : l ≤ n) (h2 : n ≤ xs.length) (hz : z = e.size) : Quiet P c o s (.row z ((xs.drop l.toNat).take (n.toNat - l.toNat)) none) := by
  refine quiet_pure fun G L a w sm => ?_
  obtain ⟨u, hu, hue⟩ := elemD_info hty he
  have hlo := sm.bnd hl
  have hhi := sm.bnd hh
  have hlen : ((xs.drop l.toNat).take (n.toNat - l.toNat)).length = n.toNat - l.toNat := by simp; omega
  rcases Rep.row_inv (sm.eve h) with ⟨ad, e1, e0⟩ | ⟨g, off, cp, us, e1, hc, hzz, hr, hv⟩
  · subst e0
    simp only [List.length_nil, Int.natCast_zero] at h2 hhi
    have hb := bounds_run (P := P) true 0 0 _ _ l n hlo hhi h0 h1 h2 w
    refine ⟨.slice ad 0 0, ?_, RepT.of ?_⟩
    · have : l.toNat = 0 ∧ n.toNat = 0 := by omega
      cases ad <;> simp [execOp, ho, e1, Instr.sliceAt, Sem.run_bind, run_underlying hu, Result.andThen_ok, Instr.slice, hb, sizeOf_run hue, Sem.run_pure, this.1, this.2]
    · simpa using Rep.nilA z ad
  · have hb := bounds_run (P := P) true xs.length cp _ _ l n hlo hhi h0 h1 (by omega) w
    have hpart := RepL.part hr hv (l.toNat * z) ((n.toNat - l.toNat) * z)
    rw [← flatten_cut hzz] at hpart
    have hzz' : ∀ y ∈ ((xs.drop l.toNat).take (n.toNat - l.toNat)), y.length = z := fun y hy => hzz y (List.mem_of_mem_drop (List.mem_of_mem_take hy))
    refine ⟨.slice (if cp = l.toNat then some ⟨g, off, none⟩ else some ⟨g, off + l.toNat * z, none⟩) (n.toNat - l.toNat) (cp - l.toNat), ?_, RepT.of ?_⟩
    · simp only [execOp, ho, e1, Instr.sliceAt, Sem.run_bind, run_underlying hu, Result.andThen_ok, Instr.slice, Option.map_none, hb, sizeOf_run hue, Sem.run_pure, Option.map_some, Addr.add_lit, hz]
    · split
      · rename_i hcp
        have e0 : n.toNat - l.toNat = 0 := by omega
        have := Rep.row_mk (G := G) (z := z) (xs := []) (g := g) (o := off) (c := cp - l.toNat) (us := []) (by simp) (by simp) (RepL.nil G) (by simp)
        rw [e0, List.take_zero]; exact this
      · have := Rep.row_mk (c := cp - l.toNat) (by omega) hzz' hpart.1 hpart.2
        rw [hlen] at this; exact this
theorem q_sliceStr (hty : TyOk P ty) {t : Nat} {x : Operand} {lo hi : Option Operand} (ho : o.op = .slice t x lo hi none) (he : isStr ty t = true) {b : ByteArray} (h : s.ev x = .v (.string b))
    {l n : Int} (hl : s.bnd lo 0 = some l) (hh : s.bnd hi b.size = some n) (h0 : 0 ≤ l) (h1 : l ≤ n) (h2 : n ≤ b.size) : Quiet P c o s (.v (.string (b.extract l.toNat n.toNat))) := by
  refine quiet_pure fun G L a w sm => ?_
  have hu := isStr_info hty he
  have hb := bounds_run (P := P) false b.size b.size _ _ l n (sm.bnd hl) (sm.bnd hh) h0 h1 h2 w
  refine ⟨_, ?_, RepT.of (.v _ rfl)⟩
  simp only [execOp, ho, sm.evv h, Instr.sliceAt, Sem.run_bind, run_underlying hu, Result.andThen_ok, Instr.slice, Option.map_none, Option.isSome_none, Bool.false_eq_true, if_false, Sem.run_pure, hb]
theorem q_indexStr (hty : TyOk P ty) {t : Nat} {x i : Operand} (ho : o.op = .index t x i) (he : isStr ty t = true) {b : ByteArray} (h : s.ev x = .v (.string b)) {k : IntKind} {n : Int} (hn : s.ev i = .v (.int k n)) (h0 : 0 ≤ n) (h1 : n < b.size) :
    Quiet P c o s (.v (.int .u8 ((b.data.toList.getD n.toNat 0).toNat : Int))) := by
  refine quiet_pure fun G L a w sm => ?_
  have hu := isStr_info hty he
  have hlt : n.toNat < b.size := by omega
  have hlt' : n.toNat < b.data.toList.length := by simpa using hlt
  refine ⟨_, ?_, RepT.of (.v _ rfl)⟩
  have hg : b[n.toNat]? = some (b.data.toList.getD n.toNat 0) := by
    rw [List.getD_eq_getElem?_getD, List.getElem?_eq_getElem hlt', getElem?_pos b n.toNat hlt]
    rfl
  simp only [execOp, ho, sm.evv h, sm.evv hn, Instr.index, asIntOf, Sem.run_bind, Sem.run_pure, Result.andThen_ok, run_underlying hu, if_pos h0, hg]
theorem q_lenStr (hty : TyOk P ty) {t : Nat} {x : Operand} (ho : o.op = .call { callee := .builtin .len, args := #[x], argTypes := #[t] }) (he : isStr ty t = true) {b : ByteArray} (h : s.ev x = .v (.string b)) : Quiet P c o s (.v (.int .i64 b.size)) := by
  refine quiet_pure fun G L a w sm => ?_
  have hu := isStr_info hty he
  exact ⟨_, by simp [execOp, ho, resolve, invoke, builtin, Builtin.len_, run_underlying hu, sm.evv h, goInt], RepT.of (.v _ rfl)⟩
theorem q_bin (hty : TyOk P ty) {op : BinOp} {t t' : Nat} {x y : Operand} (ho : o.op = .binOp op t x y t') {K : AV → Prop} (h : vBin op (s.ev x) (s.ev y) K) {d : TyD} (hd : ty t = some d) (hk : ∀ b, s.ev x = .v (.bool b) → d.kind = .bool) :
    ∀ a w, In c s a w → ∀ (Kc : Act → World → Prop) (Qc : Exit → Act → World → Prop), (∀ z v w', K z → In c (s.put o.dst z) (a.put o.dst v) w' → Kc (a.put o.dst v) w') → o.wp P a w Kc Qc := by
  rintro a w ⟨G, L, sm, hg, hf, hL⟩ Kc Qc hkk
  obtain ⟨r, hK, h1, hrun⟩ := vBin_sound h (o1 := x) (o2 := y) (sm.ev x) (sm.ev y) (hty _ _ hd) hk w
  unfold Oper.wp
  have : (execOp a.eval o).run P w = .ok (.value r) w := by
    simp only [execOp, ho]
    simp only [Sem.run_bind] at hrun ⊢
    rw [hrun]; rfl
  rw [this]
  exact hkk _ r w hK (In.put sm hg hf hL o.dst (RepT.of (.v r h1)))
theorem q_not {t : Nat} {x : Operand} (ho : o.op = .unOp .not t x) {b : Bool} (h : s.ev x = .v (.bool b)) : Quiet P c o s (.v (.bool (!b))) := by
  refine quiet_pure fun G L a w sm => ⟨.bool (!b), ?_, RepT.of (.v _ rfl)⟩
  simp only [execOp, ho, sm.evv h, Op.unary, Sem.run_bind, Sem.run_pure, Result.andThen_ok]
theorem q_neg {t : Nat} {x : Operand} (ho : o.op = .unOp .neg t x) {n : Int} (h : s.ev x = .v (.int .i64 n)) (h0 : -9223372036854775808 ≤ -n ∧ -n ≤ 9223372036854775807) : Quiet P c o s (.v (.int .i64 (-n))) := by
  refine quiet_pure fun G L a w sm => ⟨.int .i64 (-n), ?_, RepT.of (.v _ rfl)⟩
  simp only [execOp, ho, sm.evv h, Op.unary, Op.intArith, Sem.run_bind, Sem.run_pure, Result.andThen_ok]
  rw [show (0 : Int) - n = -n by omega, IntWalk.i64_in _ h0]
theorem q_extract {x : Operand} {i : Nat} (ho : o.op = .extract x i) {vs : List AV} (h : s.ev x = .tup vs) (hi : i < vs.length) : Quiet P c o s (vs.getD i .junk) := by
  refine quiet_pure fun G L a w sm => ?_
  have hr := sm.eve h
  generalize hq : a.eval x = q at hr
  cases hr with
  | tup _ us u hl hu hr =>
    refine ⟨u i, by simp [execOp, ho, hq, Instr.extract, hu i hi], RepT.of ?_⟩
    rw [List.getD_eq_getElem?_getD, List.getElem?_eq_getElem hi]
    exact hr i hi
/-- A number's kind turned into another's. -/
theorem q_convInt (hty : TyOk P ty) {a b : Nat} {x : Operand} (ho : o.op = .convert a b x) {d e : TyD} (hd : ty a = some d) (he : ty b = some e) {k : IntKind} (hk : e.kind = .int k) {k' : IntKind} {n : Int} (h : s.ev x = .v (.int k' n)) {m : Int} (hm : m = k.wrap n) : Quiet P c o s (.v (.int k m)) := by
  refine quiet_pure fun G L ac w sm => ⟨.int k m, ?_, RepT.of (.v _ rfl)⟩
  obtain ⟨_, D, _, _, hD, _⟩ := tyd_info (hty _ _ hd)
  obtain ⟨_, E, _, _, hE, _, _, hkE, _⟩ := tyd_info (hty _ _ he)
  have hE' : E = .int k := by rw [hk] at hkE; cases E <;> simp_all [kindOf]
  subst hE'
  have hr := run_convert_int (P := P) w a b k' n (by simp [hD])
  have hik : P.intKind b = k := by simp [Program.intKind, hE]
  simp only [execOp, ho, sm.evv h, Sem.run_bind]
  have := hr (by simp [hik, hE])
  rw [this, hik, hm]; rfl
end
end Go.Proofs.YtoleejecmefogaaDoor
/- Boxes, literals, stores, new objects. -/
namespace Go.Proofs.YtoleejecmefogaaDoor
open Go
/-- The cells that a value fills; none: it is not told well enough. -/
def AV.oneB : AV → Bool
  | .v x => x.oneCell'
  | .row _ _ _ | .ref _ _ | .ptr _ _ | .arr _ _ _ | .eptr _ _ _ _ | .map _ | .fn _ _ => true
  | _ => false
def AV.cellsB : AV → Option (List AV)
  | .agg cs => some cs
  | .v x => if x.oneCell' then some [.v x] else none
  | .row z xs k => some [.row z xs k]
  | .ref cs o => some [.ref cs o]
  | .ptr i o => some [.ptr i o]
  | .arr z i n => some [.arr z i n]
  | .eptr k n i f => some [.eptr k n i f]
  | .map i => some [.map i]
  | .fn f cs => some [.fn f cs]
  | _ => none
theorem cellsB_sound {G : Gh} {L : List Nat} {x : AV} {v : Value} (h : RepT G L x v) {cs : List AV} (hc : x.cellsB = some cs) : RepL G cs v.cells.toList := by
  cases x with
  | agg ds =>
    simp only [AV.cellsB, Option.some.injEq] at hc; subst hc
    obtain ⟨vs, rfl, hr⟩ := RepL.of_agg h
    simpa [Value.cells] using hr
  | v x =>
    simp only [AV.cellsB] at hc
    split at hc
    · rename_i h1
      simp only [Option.some.injEq] at hc; subst hc
      cases h.v_inv
      have : v.cells = #[v] := by cases v <;> first | rfl | simp [Value.oneCell'] at h1
      rw [this]
      exact RepL.cons (.v v h1) h1 (RepL.nil G)
    · cases hc
  | row z xs k =>
    simp only [AV.cellsB, Option.some.injEq] at hc; subst hc
    have h' : Rep G (.row z xs k) v := h
    rcases Rep.row_inv h' with ⟨_, rfl, _⟩ | ⟨g, o, c, us, rfl, _⟩ <;> exact RepL.cons h' rfl (RepL.nil G)
  | ref ds o =>
    simp only [AV.cellsB, Option.some.injEq] at hc; subst hc
    have h' : Rep G (.ref ds o) v := h
    obtain ⟨g, b, us, rfl, _⟩ := Rep.ref_inv h'
    exact RepL.cons h' rfl (RepL.nil G)
  | ptr i o =>
    simp only [AV.cellsB, Option.some.injEq] at hc; subst hc
    have h' : Rep G (.ptr i o) v := h
    cases h' with | ptr _ _ b hb => exact RepL.cons (.ptr i o b hb) rfl (RepL.nil G)
  | arr z i n =>
    simp only [AV.cellsB, Option.some.injEq] at hc; subst hc
    have h' : Rep G (.arr z i n) v := h
    cases h' with | arr _ _ _ a m c' ha => exact RepL.cons (.arr z i n a m c' ha) rfl (RepL.nil G)
  | eptr k n i f =>
    simp only [AV.cellsB, Option.some.injEq] at hc; subst hc
    have h' : Rep G (.eptr k n i f) v := h
    cases h' with | eptr _ _ _ _ p ha => exact RepL.cons (.eptr k n i f p ha) rfl (RepL.nil G)
  | map i =>
    simp only [AV.cellsB, Option.some.injEq] at hc; subst hc
    have h' : Rep G (.map i) v := h
    cases h' with | map _ b hb => exact RepL.cons (.map i b hb) rfl (RepL.nil G)
  | fn f ds =>
    simp only [AV.cellsB, Option.some.injEq] at hc; subst hc
    have h' : Rep G (.fn f ds) v := h
    cases h' with | fn _ _ vs u hl hu hr => exact RepL.cons (.fn f ds vs u hl hu hr) rfl (RepL.nil G)
  | _ => simp [AV.cellsB] at hc
section
variable {P : Program} {c : Cx} {o : Oper} {s : St} {ty : Nat → Option TyD}
theorem q_box {t : Nat} {x : Operand} (ho : o.op = .box t x) {cs : List AV} (hc : (s.ev x).cellsB = some cs) : Quiet P c o s (.ref cs 0) := by
  refine quiet_fresh fun G L a w sm => ?_
  have hr := cellsB_sound (sm.ev x) hc
  refine ⟨.pointer (some ⟨w.heap.size, 0, none⟩), (a.eval x).cells.toList, t, ?_, RepT.of (rep_fresh_ref hr fun o => sm.hs.val_new (Nat.le_refl _) o)⟩
  simp [execOp, ho, Instr.box, newVar, newRow]
/-- What an operation does: the state goes on as K says. -/
def Aop (P : Program) (c : Cx) (o : Oper) (s : St) (K : St → Prop) : Prop :=
  ∀ a w, In c s a w → ∀ (Kc : Act → World → Prop) (Qc : Exit → Act → World → Prop), (∀ s' a' w', K s' → In c s' a' w' → Kc a' w') → o.wp P a w Kc Qc
theorem Quiet.aop {x : AV} (h : Quiet P c o s x) {K : St → Prop} (hK : K (s.put o.dst x)) : Aop P c o s K :=
  fun a w hi Kc Qc hk => h a w hi Kc Qc fun _ w' hi' => hk _ _ w' hK hi'
/-- A box of the frame's own. -/
theorem a_boxLoc {t : Nat} {x : Operand} (ho : o.op = .box t x) {cs : List AV} (hc : (s.ev x).cellsB = some cs) {K : St → Prop}
    (hK : K ({ s with lo := s.lo ++ [cs] }.put o.dst (.loc s.lo.length 0))) : Aop P c o s K := by
  rintro a w ⟨G, L, sm, hg, hf, hL⟩ Kc Qc hk
  have hr := cellsB_sound (sm.ev x) hc
  obtain ⟨s1, f1, l1⟩ := sm.newLoc hr t
  unfold Oper.wp
  have hrun : (execOp a.eval o).run P w = .ok (.value (.pointer (some ⟨w.heap.size, 0, none⟩))) (w.alloc (.cells (a.eval x).cells.toList.toArray t)) := by
    simp [execOp, ho, Instr.box, newVar, newRow]
  rw [hrun]
  refine hk _ _ _ hK (In.put s1 hg (hf.trans f1) (fun b hb => ?_) o.dst (x := .loc s.lo.length 0) ⟨_, l1, rfl⟩)
  rcases List.mem_append.1 hb with h | h
  · exact hL b h
  · simp at h; subst h; exact hf.size
theorem zero_run {t : Nat} {d : TyD} (hd : tyd P t = some d) (w : World) : ∃ z, (zeroValue t).run P w = .ok z w ∧ d.zero = z.cells.toList.map AV.v ∧ z.cells.toList.all (·.oneCell') = true := by
  obtain ⟨i, D, z, hi, _, _, _, _, hz, h1, hzz⟩ := tyd_info hd
  exact ⟨z, by simp [zeroValue, typeInfo, hi, hz], hzz, h1⟩
theorem RepL.map_v (G : Gh) {vs : List Value} (h : vs.all (·.oneCell') = true) : RepL G (vs.map AV.v) vs := by
  refine ⟨by simp, fun j hj hj' => ?_⟩
  have h1 := List.all_eq_true.1 h _ (List.getElem_mem hj')
  simp only [List.getElem_map]
  exact ⟨.v _ h1, h1⟩
theorem a_allocLoc (hty : TyOk P ty) {t : Nat} (ho : o.op = .alloc t) {d : TyD} (hd : ty t = some d) {K : St → Prop}
    (hK : K ({ s with lo := s.lo ++ [d.zero] }.put o.dst (.loc s.lo.length 0))) : Aop P c o s K := by
  rintro a w ⟨G, L, sm, hg, hf, hL⟩ Kc Qc hk
  obtain ⟨z, hz, hzz, h1⟩ := zero_run (hty _ _ hd) w
  have hr : RepL G d.zero z.cells.toList := by rw [hzz]; exact RepL.map_v G h1
  obtain ⟨s1, f1, l1⟩ := sm.newLoc hr t
  unfold Oper.wp
  have hrun : (execOp a.eval o).run P w = .ok (.value (.pointer (some ⟨w.heap.size, 0, none⟩))) (w.alloc (.cells z.cells.toList.toArray t)) := by
    simp [execOp, ho, Instr.alloc, hz, newVar, newRow]
  rw [hrun]
  refine hk _ _ _ hK (In.put s1 hg (hf.trans f1) (fun b hb => ?_) o.dst (x := .loc s.lo.length 0) ⟨_, l1, rfl⟩)
  rcases List.mem_append.1 hb with h | h
  · exact hL b h
  · simp at h; subst h; exact hf.size
/-- A box that others will share. -/
theorem a_boxNew {t : Nat} {x : Operand} (ho : o.op = .box t x) {cs : List AV} (hc : (s.ev x).cellsB = some cs) {K : St → Prop}
    (hK : ∀ i, s.h.H i = none → K ({ s with h := { s.h with H := upd s.h.H i (some (.cells cs)) } }.put o.dst (.ptr i 0))) : Aop P c o s K := by
  rintro a w ⟨G, L, sm, hg, hf, hL⟩ Kc Qc hk
  have hr := cellsB_sound (sm.ev x) hc
  obtain ⟨hn, s1, g1, f1, e1⟩ := sm.newObj (y := .cells cs) (o := .cells (a.eval x).cells.toList.toArray t) ⟨_, t, rfl, by rw [← hr.1, List.take_of_length_le (by simp)]; simpa using hr⟩
  unfold Oper.wp
  have hrun : (execOp a.eval o).run P w = .ok (.value (.pointer (some ⟨w.heap.size, 0, none⟩))) (w.alloc (.cells (a.eval x).cells.toList.toArray t)) := by
    simp [execOp, ho, Instr.box, newVar, newRow]
  rw [hrun]
  exact hk _ _ _ (hK _ hn) (In.put s1 (hg.trans g1) (hf.trans f1) hL o.dst (RepT.of (.ptr _ 0 _ e1)))
theorem a_allocNew (hty : TyOk P ty) {t : Nat} (ho : o.op = .alloc t) {d : TyD} (hd : ty t = some d) {K : St → Prop}
    (hK : ∀ i, s.h.H i = none → K ({ s with h := { s.h with H := upd s.h.H i (some (.cells d.zero)) } }.put o.dst (.ptr i 0))) : Aop P c o s K := by
  rintro a w ⟨G, L, sm, hg, hf, hL⟩ Kc Qc hk
  obtain ⟨z, hz, hzz, h1⟩ := zero_run (hty _ _ hd) w
  have hr : RepL G d.zero z.cells.toList := by rw [hzz]; exact RepL.map_v G h1
  obtain ⟨hn, s1, g1, f1, e1⟩ := sm.newObj (y := .cells d.zero) (o := .cells z.cells.toList.toArray t) ⟨_, t, rfl, by rw [← hr.1, List.take_of_length_le (by simp)]; simpa using hr⟩
  unfold Oper.wp
  have hrun : (execOp a.eval o).run P w = .ok (.value (.pointer (some ⟨w.heap.size, 0, none⟩))) (w.alloc (.cells z.cells.toList.toArray t)) := by
    simp [execOp, ho, Instr.alloc, hz, newVar, newRow]
  rw [hrun]
  exact hk _ _ _ (hK _ hn) (In.put s1 (hg.trans g1) (hf.trans f1) hL o.dst (RepT.of (.ptr _ 0 _ e1)))
theorem store_run {t : Nat} {d : TyD} (hd : tyd P t = some d) {v : Value} {g o : Nat} {cur : Array Value} {E : TypeId} {w : World} (hh : w.heap[g]? = some (.cells cur E (0, 0))) (hs : v.cells.size = d.size) (hl : o + d.size ≤ cur.size) (h1 : ∀ x ∈ v.cells.toList, x.oneCell' = true) :
    (storeVar t ⟨g, o, none⟩ v).run P w = .ok () (w.setRow g (splice cur.toList o v.cells.toList).toArray) := by
  have hr := run_storeCells_at P g o E v.cells.toList 0 cur w hh (by simpa [hs] using hl) h1
  simp only [storeVar, Sem.run_bind, sizeOf_run hd, Result.andThen_ok, hs, ne_eq, not_true_eq_false, if_false, Sem.run_pure]
  simpa [splice] using hr
theorem a_storeLoc (hty : TyOk P ty) {t : Nat} {x y : Operand} (ho : o.op = .store t x y) {d : TyD} (hd : ty t = some d) {j off : Nat} (hx : s.ev x = .loc j off) {cs ds : List AV} (hj : s.lo[j]? = some cs) (hy : (s.ev y).cellsB = some ds) (hs : ds.length = d.size) (hl : off + d.size ≤ cs.length) {K : St → Prop}
    (hK : K ({ s with lo := s.lo.set j (splice cs off ds) }.put o.dst .junk)) : Aop P c o s K := by
  rintro a w ⟨G, L, sm, hg, hf, hL⟩ Kc Qc hk
  have hr := cellsB_sound (sm.ev y) hy
  obtain ⟨b, hb, ex⟩ := sm.eve hx
  obtain ⟨vs, E, hh, hsz, hrr⟩ := sm.ls.lo j b cs hb hj
  have hspl := hrr.splice hr off
  obtain ⟨s1, _, hother⟩ := sm.setLoc hb hj hspl (splice_len _ _ _ (by omega))
  have hrun := store_run (v := a.eval y) (g := b) (o := off) (w := w) (hty _ _ hd) hh (by rw [← hs]; simpa using hr.1) (by omega) (fun x hx => by
    obtain ⟨i, hi, e⟩ := List.getElem_of_mem hx
    subst e
    exact (hr.2 i (by rw [← hr.1]; exact hi) hi).2)
  unfold Oper.wp
  have hrun' : (execOp a.eval o).run P w = .ok .skip (w.setRow b (splice vs.toList off (a.eval y).cells.toList).toArray) := by
    simp only [execOp, ho, ex, Instr.storeAt, Instr.sureAddr, Sem.run_bind, Sem.run_pure, Result.andThen_ok, hrun]
  rw [hrun']
  refine hk _ _ _ hK (In.put s1 hg ⟨by simpa using hf.os, by simpa using hf.tape, by simpa using hf.output, by simpa using hf.size, fun b' hlt hn => ?_⟩ hL o.dst (RepT.junk _))
  obtain ⟨k1, k2, k3⟩ := hf.keep b' hlt hn
  have hne : b' ≠ b := fun e => by have := hL b (List.mem_of_getElem? hb); omega
  exact ⟨(hother b' hne).trans k1, k2, k3⟩
theorem a_storePtr (hty : TyOk P ty) {t : Nat} {x y : Operand} (ho : o.op = .store t x y) {d : TyD} (hd : ty t = some d) {i off : Nat} (hx : s.ev x = .ptr i off) {cs ds : List AV} (hi : s.h.H i = some (.cells cs)) (hy : (s.ev y).cellsB = some ds) (hs : ds.length = d.size) (hl : off + d.size ≤ cs.length) {K : St → Prop}
    (hK : K ({ s with h := { s.h with H := upd s.h.H i (some (.cells (splice cs off ds))) } }.put o.dst .junk)) : Aop P c o s K := by
  rintro a w ⟨G, L, sm, hg, hf, hL⟩ Kc Qc hk
  have hr := cellsB_sound (sm.ev y) hy
  have hxr := sm.eve hx
  generalize hq : a.eval x = q at hxr
  have hxr' : Rep G (.ptr i off) q := hxr
  cases hxr' with
  | ptr _ _ b hat =>
  obtain ⟨b', ob, e', hh, ⟨vs, E, rfl, hrr⟩, _⟩ := sm.hs.obj i _ hi
  rw [hat] at e'; cases e'
  have hl2 : cs.length ≤ vs.size := by have := hrr.1; simp at this; omega
  have hspl := hrr.splice hr off
  have hlen := splice_len cs ds off (by omega)
  have hus : (a.eval y).cells.toList.length = ds.length := hr.1
  have htk : (splice vs.toList off (a.eval y).cells.toList).take (splice cs off ds).length = splice (vs.toList.take cs.length) off (a.eval y).cells.toList := by
    rw [hlen]
    simp only [splice, List.take_append, List.take_take, List.length_append, List.length_take, List.drop_take, hus, Array.length_toList, List.append_assoc]
    have e1 : min off vs.size = off := by omega
    have e2 : (a.eval y).cells.toList.take (cs.length - off) = (a.eval y).cells.toList := List.take_of_length_le (by omega)
    rw [e1, e2, show min cs.length off = min off cs.length from Nat.min_comm _ _, show cs.length - off - ds.length = cs.length - (off + ds.length) by omega]
  have hrun := store_run (v := a.eval y) (g := b) (o := off) (w := w) (hty _ _ hd) hh (by rw [← hs]; simpa using hr.1) (by omega) (fun x hx => by
    obtain ⟨i, hi, e⟩ := List.getElem_of_mem hx
    subst e
    exact (hr.2 i (by rw [← hr.1]; exact hi) hi).2)
  obtain ⟨s1, f1⟩ := sm.setObj (w' := w.setRow b (splice vs.toList off (a.eval y).cells.toList).toArray) (y := .cells (splice cs off ds)) hi hat (fun b' hb' => heap_setRow _ hb') (setRow_heap w b vs _ E (0, 0) hh)
    ⟨_, E, rfl, by simpa only [htk] using hspl⟩ (by simp) (by simp) (by simp) (by simp)
  unfold Oper.wp
  have hrun' : (execOp a.eval o).run P w = .ok .skip (w.setRow b (splice vs.toList off (a.eval y).cells.toList).toArray) := by
    simp only [execOp, ho, hq, Instr.storeAt, Instr.sureAddr, Sem.run_bind, Sem.run_pure, Result.andThen_ok, hrun]
  rw [hrun']
  exact hk _ _ _ hK (In.put s1 hg (hf.trans f1) hL o.dst (RepT.junk _))
end
end Go.Proofs.YtoleejecmefogaaDoor
/- Literals, functions, least and greatest, nil. -/
namespace Go.Proofs.YtoleejecmefogaaDoor
open Go
/-- The parts of a literal laid over its zero cells. -/
def fillA (place : Nat → Option (Nat × Nat)) (cells : List AV) : List (Nat × AV) → Option (List AV)
  | [] => some cells
  | (i, x) :: rest =>
    match place i, x.cellsB with
    | some (off, size), some cs => if cs.length = size ∧ off + size ≤ cells.length then fillA place (splice cells off cs) rest else none
    | _, _ => none
theorem foldl_splice (off : Nat) : ∀ (us : List Value) (k : Nat) (cs : Array Value), off + k + us.length ≤ cs.size →
    ((us.zipIdx k).foldl (fun cs (p : Value × Nat) => cs.setIfInBounds (off + p.2) p.1) cs).toList = splice cs.toList (off + k) us
  | [], k, cs, _ => by simp [splice]
  | u :: us, k, cs, h => by
    simp only [List.length_cons] at h
    simp only [List.zipIdx_cons, List.foldl_cons]
    rw [foldl_splice off us (k + 1) _ (by simp; omega)]
    have h1 : off + k < cs.toList.length := by simp; omega
    simp only [Array.toList_setIfInBounds, splice, List.length_cons]
    rw [show off + (k + 1) = off + k + 1 by omega, List.take_set, List.drop_set_of_lt (by omega), List.take_succ_eq_append_getElem h1]
    rw [List.set_append_right _ _ (by simp only [List.length_take]; omega)]
    simp only [List.length_take, Array.length_toList, List.append_assoc]
    rw [show min (off + k) cs.size = off + k by simp at h1; omega, Nat.sub_self]
    simp only [List.set_cons_zero, List.cons_append, List.nil_append]
    rw [show off + k + 1 + us.length = off + k + (us.length + 1) by omega]
theorem fillA_sound {G : Gh} {L : List Nat} {place : Nat → Option (Nat × Nat)} : ∀ (ps : List (Nat × AV)) (qs : List (Nat × Value)) (cells ds : List AV) (cur : Array Value),
    ps.length = qs.length → (∀ (j : Nat) p q, ps[j]? = some p → qs[j]? = some q → p.1 = q.1 ∧ RepT G L p.2 q.2) → RepL G cells cur.toList → fillA place cells ps = some ds →
    ∃ out, Instr.fill place cur qs = some out ∧ RepL G ds out.toList
  | [], [], cells, ds, cur, _, _, hr, h => by
    simp only [fillA, Option.some.injEq] at h; subst h
    exact ⟨cur, rfl, hr⟩
  | [], _ :: _, _, _, _, hl, _, _, _ => by simp at hl
  | _ :: _, [], _, _, _, hl, _, _, _ => by simp at hl
  | (i, x) :: ps, (i', v) :: qs, cells, ds, cur, hl, hp, hr, h => by
    obtain ⟨rfl, hx⟩ := hp 0 (i, x) (i', v) (by simp) (by simp)
    simp only [fillA] at h
    split at h
    · rename_i off size cs hpl hcs
      split at h
      · rename_i hsz
        have hrx := cellsB_sound hx hcs
        have hlen : v.cells.size = size := by have := hrx.1; simp at this; omega
        have hcl := hr.1
        have hf := foldl_splice off v.cells.toList 0 cur (by simp at hcl ⊢; omega)
        have hr2 : RepL G (splice cells off cs) ((v.cells.zipIdx.foldl (fun cs (p : Value × Nat) => cs.setIfInBounds (off + p.2) p.1) cur)).toList := by
          rw [← Array.foldl_toList, Array.toList_zipIdx, hf]
          exact hr.splice hrx off
        obtain ⟨out, ho, hro⟩ := fillA_sound ps qs _ ds _ (by simpa using hl) (fun j p q a b => hp (j + 1) p q (by simpa using a) (by simpa using b)) hr2 h
        refine ⟨out, ?_, hro⟩
        simp only [Instr.fill]
        rw [hpl]
        simp only
        rw [if_neg (by simp at hcl ⊢; omega)]
        exact ho
      · cases h
    · cases h
/-- Where the parts of a struct literal lie. -/
def places (ty : Nat → Option TyD) (t : Nat) (i : Nat) : Option (Nat × Nat) := match fdd ty t i with | some (off, e) => some (off, e.size) | none => none
def structD (ty : Nat → Option TyD) (t : Nat) : Option TyD := match ty t with | some d => (match d.kind with | .struct _ => some d | _ => none) | none => none
theorem structD_info {ty : Nat → Option TyD} {t : Nat} {d : TyD} (h : structD ty t = some d) : ty t = some d ∧ ∃ fs, d.kind = .struct fs := by
  unfold structD at h
  split at h
  · rename_i d' hd
    split at h
    · rename_i fs hk
      simp only [Option.some.injEq] at h; subst h
      exact ⟨hd, fs, hk⟩
    · cases h
  · cases h
theorem fill_congr {f g : Nat → Option (Nat × Nat)} : ∀ (qs : List (Nat × Value)) (cur : Array Value), (∀ i ∈ qs.map (·.1), f i = g i) → Instr.fill f cur qs = Instr.fill g cur qs
  | [], _, _ => rfl
  | (i, v) :: qs, cur, h => by
    simp only [Instr.fill]
    rw [h i (by simp)]
    split
    · rfl
    · split
      · rfl
      · exact fill_congr qs _ (fun j hj => h j (by simp at hj ⊢; exact .inr hj))
theorem fillA_place {place : Nat → Option (Nat × Nat)} : ∀ (ps : List (Nat × AV)) (cells ds : List AV), fillA place cells ps = some ds → ∀ i ∈ ps.map (·.1), place i ≠ none
  | [], _, _, _ => by simp
  | (i, x) :: ps, cells, ds, h => by
    simp only [fillA] at h
    split at h
    · rename_i off size cs hpl hcs
      split at h
      · intro j hj
        simp only [List.map_cons, List.mem_cons] at hj
        rcases hj with rfl | hj
        · simp [hpl]
        · exact fillA_place ps _ _ h j hj
      · cases h
    · cases h
section
variable {P : Program} {c : Cx} {o : Oper} {s : St} {ty : Nat → Option TyD}
theorem q_build (hty : TyOk P ty) {t : Nat} {parts : Array (Nat × Operand)} (ho : o.op = .build t parts) {d : TyD} (hd : structD ty t = some d) {ds : List AV}
    (hf : fillA (places ty t) d.zero (parts.toList.map fun p => (p.1, s.ev p.2)) = some ds) (hall : (match d.kind with | .struct fs => fs.all (fun f => (ty f.2).isSome) | _ => false) = true) : Quiet P c o s (.agg ds) := by
  refine quiet_pure fun G L a w sm => ?_
  obtain ⟨hd', fs', hk⟩ := structD_info hd
  obtain ⟨i, D, z, hi, hD, _, _, hkk, hz, h1, hzz⟩ := tyd_info (hty _ _ hd')
  rw [hk] at hkk hall
  simp only at hall
  cases D with
  | struct fs =>
    simp only [kindOf, TyK.struct.injEq] at hkk
    have hzr : RepL G d.zero z.cells.toList := by rw [hzz]; exact RepL.map_v G h1
    obtain ⟨out, hout, hro⟩ := fillA_sound (G := G) (L := L) (place := places ty t) (parts.toList.map fun p => (p.1, s.ev p.2)) (parts.toList.map fun p => (p.1, a.eval p.2)) d.zero ds z.cells (by simp) (fun j p q hp hq => by
      rw [List.getElem?_map] at hp hq
      cases hpj : parts.toList[j]? with
      | none => rw [hpj] at hp; cases hp
      | some pj =>
        rw [hpj] at hp hq
        simp only [Option.map_some, Option.some.injEq] at hp hq
        subst hp; subst hq
        exact ⟨rfl, sm.ev pj.2⟩) hzr hf
    -- the places that the machine takes
    have hplaces : ∃ pls : Array (Nat × Nat), (fs.mapM (fun f => do pure (f.offset, ← sizeOf f.type) : Field → Sem (Nat × Nat))).run P w = .ok pls w ∧ ∀ i, places ty t i ≠ none → pls[i]? = places ty t i := by
      have hall' : ∀ f ∈ fs.toList, ∃ e, ty f.type = some e := fun f hf => by
        have := List.all_eq_true.1 hall (f.offset, f.type) (by rw [← hkk]; exact List.mem_map.2 ⟨f, hf, rfl⟩)
        exact Option.isSome_iff_exists.1 this
      have key : ∀ (l : List Field), (∀ f ∈ l, ∃ e, ty f.type = some e) → (l.mapM (fun f => do pure (f.offset, ← sizeOf f.type) : Field → Sem (Nat × Nat))).run P w = .ok (l.map fun f => (f.offset, ((ty f.type).map (·.size)).getD 0)) w := by
        intro l
        induction l with
        | nil => intro _; rfl
        | cons f l ih =>
          intro h
          obtain ⟨e, he⟩ := h f (by simp)
          rw [List.mapM_cons]
          simp only [Sem.run_bind, sizeOf_run (hty _ _ he), Result.andThen_ok, Sem.run_pure, ih (fun g hg => h g (by simp [hg])), List.map_cons, he, Option.map_some, Option.getD_some]
      refine ⟨(fs.toList.map fun f => (f.offset, ((ty f.type).map (·.size)).getD 0)).toArray, ?_, fun i hi' => ?_⟩
      · rw [Array.mapM_eq_mapM_toList]
        simp only [Sem.run_map, key _ hall', Result.andThen_ok]
      · unfold places fdd at hi' ⊢
        rw [hd'] at hi' ⊢
        simp only [hk, ← hkk, List.getElem?_map, Array.getElem?_toList, List.getElem?_toArray] at hi' ⊢
        cases hfi : fs[i]? with
        | none => simp [hfi] at hi'
        | some f =>
          simp only [hfi, Option.map_some] at hi' ⊢
          cases hte : ty f.type with
          | none => simp [hte] at hi'
          | some e => simp
    obtain ⟨pls, hpl, hple⟩ := hplaces
    refine ⟨.agg out, ?_, RepT.of ?_⟩
    · have hcg := fill_congr (f := places ty t) (g := (pls[·]?)) (parts.toList.map fun p => (p.1, a.eval p.2)) z.cells (fun i hi => (hple i (fillA_place _ _ _ hf i (by simpa using hi))).symm)
      rw [hcg] at hout
      have hzv : (zeroValue t).run P w = .ok z w := by simp [zeroValue, typeInfo, hi, hz]
      simp only [execOp, ho, Instr.build, Sem.run_bind, hzv, Result.andThen_ok, run_underlying hD, hpl]
      simp only [Array.toList_map]
      rw [hout]
      rfl
    · have := hro.agg
      simpa using this
  | _ => simp [kindOf] at hkk
end
end Go.Proofs.YtoleejecmefogaaDoor
/- Slice literals, functions, least and greatest, nil. -/
namespace Go.Proofs.YtoleejecmefogaaDoor
open Go
/-- The elements of a slice literal, if they stand in order. -/
def litRow (size : Nat) : List AV → Option (List (List AV))
  | [] => some []
  | x :: xs => match x.cellsB, litRow size xs with
    | some cs, some r => if cs.length = size then some (cs :: r) else none
    | _, _ => none
theorem litRow_sound {G : Gh} {L : List Nat} {size : Nat} : ∀ (ps : List AV) (vs : List Value) (k : Nat) (xs : List (List AV)) (cur : Array Value),
    ps.length = vs.length → (∀ (j : Nat) p q, ps[j]? = some p → vs[j]? = some q → RepT G L p q) → litRow size ps = some xs → k * size + ps.length * size = cur.size →
    ∃ out us, Instr.fill (fun i => some (i * size, size)) cur ((List.range' k vs.length).zip vs) = some out ∧ out.toList = cur.toList.take (k * size) ++ us ∧ RepL G xs.flatten us ∧ xs.length = ps.length ∧ ∀ x ∈ xs, x.length = size
  | [], [], k, xs, cur, _, _, h, hs => by
    simp only [litRow, Option.some.injEq] at h; subst h
    refine ⟨cur, [], rfl, ?_, RepL.nil G, rfl, by simp⟩
    rw [List.append_nil, List.take_of_length_le (by simp at hs ⊢; omega)]
  | [], _ :: _, _, _, _, hl, _, _, _ => by simp at hl
  | _ :: _, [], _, _, _, hl, _, _, _ => by simp at hl
  | x :: ps, v :: vs, k, xs, cur, hl, hp, h, hs => by
    have hx := hp 0 x v (by simp) (by simp)
    simp only [litRow] at h
    split at h
    · rename_i cs r hcs hr
      split at h
      · rename_i hsz
        simp only [Option.some.injEq] at h; subst h
        have hrx := cellsB_sound hx hcs
        have hlen : v.cells.size = size := by have := hrx.1; simp at this; omega
        simp only [List.length_cons, Nat.add_mul] at hs
        have hf := foldl_splice (k * size) v.cells.toList 0 cur (by simp [hlen]; omega)
        have hf' : (v.cells.zipIdx.foldl (fun cs (p : Value × Nat) => cs.setIfInBounds (k * size + p.2) p.1) cur).toList = splice cur.toList (k * size) v.cells.toList := by
          rw [← Array.foldl_toList, Array.toList_zipIdx, hf, Nat.add_zero]
        have hsize : (v.cells.zipIdx.foldl (fun cs (p : Value × Nat) => cs.setIfInBounds (k * size + p.2) p.1) cur).size = cur.size := by
          have := congrArg List.length hf'
          rw [splice_len _ _ _ (by simp [hlen]; omega)] at this
          simpa using this
        obtain ⟨out, us, ho, hou, hro, hxl, hxz⟩ := litRow_sound ps vs (k + 1) r _ (by simpa using hl) (fun j p q a b => hp (j + 1) p q (by simpa using a) (by simpa using b)) hr (by rw [hsize, Nat.add_mul]; omega)
        refine ⟨out, v.cells.toList ++ us, ?_, ?_, ?_, by simp [hxl], by simp [hsz]; exact hxz⟩
        · simp only [List.length_cons, List.range'_succ, List.zip_cons_cons, Instr.fill]
          rw [if_neg (by simp [hlen]; omega)]
          exact ho
        · rw [hou, hf', ← List.append_assoc]
          congr 1
          simp only [splice, Nat.add_mul, Nat.one_mul]
          rw [List.append_assoc, List.take_append]
          have h1 : (cur.toList.take (k * size)).length = k * size := by simp; omega
          rw [h1, List.take_of_length_le (by omega)]
          congr 1
          rw [show k * size + size - k * size = size by omega, List.take_append_of_le_length (by simp [hlen]), List.take_of_length_le (by simp [hlen])]
        · rw [List.flatten_cons]; exact hrx.append hro
      · cases h
    · cases h
section
variable {P : Program} {c : Cx} {o : Oper} {s : St} {ty : Nat → Option TyD}
theorem zip_map_range {α β : Type} (l : List (Nat × α)) (f : α → β) (h : l.map (·.1) = List.range l.length) : l.map (fun p => (p.1, f p.2)) = (List.range' 0 (l.map (fun p => f p.2)).length).zip (l.map fun p => f p.2) := by
  apply List.ext_getElem (by simp)
  intro i h1 h2
  simp only [List.getElem_map, List.getElem_zip, List.getElem_range', Nat.zero_add, Nat.one_mul]
  have hi : i < l.length := by simpa using h1
  have e := congrArg (fun l => l[i]?) h
  simp only [List.getElem?_map, List.getElem?_eq_getElem hi, Option.map_some, List.getElem?_range hi, Option.some.injEq] at e
  rw [e]
theorem q_buildSlice (hty : TyOk P ty) {t n : Nat} {parts : Array (Nat × Operand)} (ho : o.op = .buildSlice t n parts) {e : TyD} (he : elemD ty t = some e) (hidx : parts.toList.map (·.1) = List.range n) (hsz : n * e.size ≤ 16777216) {xs : List (List AV)}
    (hx : litRow e.size (parts.toList.map fun p => s.ev p.2) = some xs) (hz0 : e.size ≠ 0) (hzl : e.zero.length = e.size) : Quiet P c o s (.row e.size xs none) := by
  refine quiet_fresh fun G L a w sm => ?_
  obtain ⟨u, hu, hue⟩ := elemD_info hty he
  have hn : parts.toList.length = n := by have := congrArg List.length hidx; simpa using this
  obtain ⟨z, hzr, hzz, h1⟩ := zero_run hue w
  have hzs : z.cells.size = e.size := by rw [← hzl, hzz]; simp
  let cur : Array Value := (Array.range (n * e.size)).map (z.cells[· % z.cells.size]!)
  have hcur : cur.size = n * e.size := by simp [cur]
  obtain ⟨out, us, ho', hou, hro, hxl, hxz⟩ := litRow_sound (G := G) (L := L) (size := e.size) (parts.toList.map fun p => s.ev p.2) (parts.toList.map fun p => a.eval p.2) 0 xs cur (by simp) (fun j p q hp hq => by
      rw [List.getElem?_map] at hp hq
      cases hpj : parts.toList[j]? with
      | none => rw [hpj] at hp; cases hp
      | some pj =>
        rw [hpj] at hp hq
        simp only [Option.map_some, Option.some.injEq] at hp hq
        subst hp; subst hq
        exact sm.ev pj.2) hx (by rw [hcur, List.length_map, hn]; omega)
  simp only [Nat.zero_mul, List.take_zero, List.nil_append] at hou
  have hxl' : xs.length = n := by rw [hxl, List.length_map, hn]
  refine ⟨.slice (some ⟨w.heap.size, 0, none⟩) n n, us, u, ?_, RepT.of ?_⟩
  · have hz := zip_map_range parts.toList a.eval (by rw [hn]; exact hidx)
    rw [← hz] at ho'
    have hns : ¬ (n * e.size > 2 ^ 24) := by omega
    simp only [execOp, ho, Instr.buildSlice, Sem.run_bind, run_underlying hu, Result.andThen_ok, sizeOf_run hue, hns, if_false, Sem.run_pure]
    by_cases h0 : n * e.size = 0
    · have hn0 : n = 0 := by rcases Nat.mul_eq_zero.1 h0 with h | h; exact h; exact absurd h hz0
      subst hn0
      have hpe : parts.toList = [] := List.eq_nil_of_length_eq_zero hn
      have hus : us = [] := by
        have := hro.1
        have hx0 : xs = [] := List.eq_nil_of_length_eq_zero hxl'
        subst hx0
        simpa using this
      subst hus
      simp only [Array.toList_map, hpe, Instr.fill, newRow, List.map_nil, Sem.run_bind, run_newObj, Sem.run_pure, Result.andThen_ok, World.alloc_eq, Nat.zero_mul, ↓reduceIte]
      rw [show Array.range 0 = #[] from rfl, Array.map_empty]
    · simp only [h0, if_false, Sem.run_bind, hzr, Result.andThen_ok, Sem.run_pure, Array.toList_map]
      rw [show Array.map (fun x => z.cells[x % z.cells.size]!) (Array.range (n * e.size)) = cur from rfl, ho']
      have : out = us.toArray := by rw [← hou]
      simp [newRow, this]
  · have := rep_fresh_row (G := G) (B := w.heap.size) hxz hro (fun o => sm.hs.val_new (Nat.le_refl _) o) n (by omega)
    rw [hxl'] at this
    exact this
theorem q_makeFunc {f : Nat} {first caps : Array Operand} (ho : o.op = .makeFunc (.func f) first caps) (hf : first = #[]) (hl : (caps.toList.map s.ev).all (fun x => match x with | .loc _ _ => false | .opt _ _ => false | _ => true) = true) : Quiet P c o s (.fn f (caps.toList.map s.ev)) := by
  refine quiet_pure fun G L a w sm => ⟨.func (.func f) #[] (caps.map a.eval), by simp [execOp, ho, Instr.makeFunc, hf], RepT.of (.fn f _ _ (fun j => (caps.map a.eval).getD j undef) (by simp) (fun j hj => ?_) (fun j hj => ?_))⟩
  · have hj' : j < (caps.map a.eval).size := by simpa using hj
    rw [Array.getElem?_eq_getElem hj', Array.getD_eq_getD_getElem?, Array.getElem?_eq_getElem hj']; rfl
  · have hj' : j < caps.size := by simpa using hj
    have h1 := List.all_eq_true.1 hl _ (List.getElem_mem hj)
    have h2 := sm.ev caps[j]
    have e : (caps.map a.eval).getD j undef = a.eval caps[j] := by
      rw [Array.getD_eq_getD_getElem?, Array.getElem?_map, Array.getElem?_eq_getElem hj']; rfl
    rw [e]
    have e2 : (caps.toList.map s.ev)[j] = s.ev caps[j] := by simp
    rw [e2] at h1 ⊢
    generalize s.ev caps[j] = y at *
    cases y <;> first | exact h2 | simp at h1
theorem min_run {P : Program} (ts : Array TypeId) (t : TypeId) (k : IntKind) (a b : Int) (w : World) : (Builtin.min_ ts t #[.int k a, .int k b]).run P w = .ok (.int k (min a b)) w := by
  have e : (if b < a then b else a) = min a b := by omega
  simp [Builtin.min_, Builtin.min2, e]
theorem max_run {P : Program} (ts : Array TypeId) (t : TypeId) (k : IntKind) (a b : Int) (w : World) : (Builtin.max_ ts t #[.int k a, .int k b]).run P w = .ok (.int k (max a b)) w := by
  have e : (if b > a then b else a) = max a b := by omega
  simp [Builtin.max_, Builtin.max2, e]
theorem q_min {ts : Array TypeId} {x y : Operand} (ho : o.op = .call { callee := .builtin .min, args := #[x, y], argTypes := ts }) {k : IntKind} {m n : Int} (hx : s.ev x = .v (.int k m)) (hy : s.ev y = .v (.int k n)) : Quiet P c o s (.v (.int k (min m n))) :=
  quiet_pure fun G L a w sm => ⟨_, by simp [execOp, ho, resolve, invoke, builtin, sm.evv hx, sm.evv hy, min_run], RepT.of (.v _ rfl)⟩
theorem q_max {ts : Array TypeId} {x y : Operand} (ho : o.op = .call { callee := .builtin .max, args := #[x, y], argTypes := ts }) {k : IntKind} {m n : Int} (hx : s.ev x = .v (.int k m)) (hy : s.ev y = .v (.int k n)) : Quiet P c o s (.v (.int k (max m n))) :=
  quiet_pure fun G L a w sm => ⟨_, by simp [execOp, ho, resolve, invoke, builtin, sm.evv hx, sm.evv hy, max_run], RepT.of (.v _ rfl)⟩
/-- The sort of a value that can be nil. -/
inductive NilK : TyK → Value → Bool → Prop where
  | ptr (e) (a : Option Addr) : NilK (.ptr e) (.pointer a) a.isNone
  | slice (e) (a : Option Addr) (n c) : NilK (.slice e) (.slice a n c) a.isNone
  | map (k e) (a : Option Nat) : NilK (.map k e) (.map a) a.isNone
  | fnil : NilK .func .nilFunc true
  | func (f a b) : NilK .func (.func f a b) false
def nilOf (k : TyK) (x : AV) : Option Bool :=
  match k, x with
  | .ptr _, .v (.pointer none) => some true
  | .ptr _, .ref _ _ => some false
  | .ptr _, .loc _ _ => some false
  | .ptr _, .ptr _ _ => some false
  | .slice _, .v (.slice none _ _) => some true
  | .slice _, .row _ (_ :: _) _ => some false
  | .map _ _, .v (.map none) => some true
  | .map _ _, .map _ => some false
  | .func, .v .nilFunc => some true
  | .func, .fn _ _ => some false
  | _, _ => none
theorem nilOf_sound {G : Gh} {L : List Nat} {x : AV} {v : Value} (h : RepT G L x v) {k : TyK} {b : Bool} (hk : nilOf k x = some b) : NilK k v b := by
  unfold nilOf at hk
  split at hk <;> simp only [Option.some.injEq, reduceCtorEq] at hk <;> subst hk
  · cases h.v_inv; exact .ptr _ none
  · obtain ⟨g, b, us, rfl, _⟩ := Rep.ref_inv h; exact .ptr _ (some _)
  · obtain ⟨b, _, rfl⟩ := h; exact .ptr _ (some _)
  · rename_i i o
    have h' : Rep G (.ptr i o) v := h
    cases h'; exact .ptr _ (some _)
  · cases h.v_inv; exact .slice _ none _ _
  · rename_i z x xs tk
    have h' : Rep G (.row z (x :: xs) tk) v := h
    rcases Rep.row_inv h' with ⟨_, _, e⟩ | ⟨g, o, c, us, rfl, _⟩
    · cases e
    · exact .slice _ (some _) _ _
  · cases h.v_inv; exact .map _ _ none
  · rename_i i
    have h' : Rep G (.map i) v := h
    cases h'; exact .map _ _ (some _)
  · cases h.v_inv; exact .fnil
  · rename_i f cs
    have h' : Rep G (.fn f cs) v := h
    cases h'; exact .func _ _ _
theorem nil_eqIn (dd : Nat) {t : TypeId} {d : TyD} (hd : tyd P t = some d) {u v : Value} {b1 b2 : Bool} (h1 : NilK d.kind u b1) (h2 : NilK d.kind v b2) (hb : (b1 || b2) = true) (w : World) :
    (Op.equalIn (dd + 1) t u v).run P w = .ok (b1 && b2) w := by
  obtain ⟨_, D, _, _, hD, _, _, hk, _⟩ := tyd_info hd
  have hu := run_underlying hD w
  rw [← hk] at h1 h2
  generalize hkk : kindOf D = k at h1 h2
  cases h1 <;> cases h2 <;> cases D <;> simp only [kindOf, reduceCtorEq] at hkk
  all_goals simp only [Op.equalIn, Sem.run_bind, hu, Result.andThen_ok]
  all_goals first
      | rfl
      | (simp at hb; done)
      | (rename_i a b _ _; cases a <;> cases b <;> first | rfl | (simp at hb; done))
      | (rename_i a b _; cases a <;> cases b <;> first | rfl | (simp at hb; done))
      | (rename_i a _ _ b _ _ _; cases a <;> cases b <;> first | rfl | (simp at hb; done))
      | (rename_i a b; cases a <;> cases b <;> first | rfl | (simp at hb; done))
theorem nil_run {t : TypeId} {d : TyD} (hd : tyd P t = some d) {u v : Value} {b1 b2 : Bool} (h1 : NilK d.kind u b1) (h2 : NilK d.kind v b2) (hb : (b1 || b2) = true) (o1 o2 : Operand) (w : World) :
    ((do eqGuard .eql t o1 o2 u v; binOp .eql t u v : Sem Value).run P w) = .ok (.bool (b1 && b2)) w ∧ ((do eqGuard .neq t o1 o2 u v; binOp .neq t u v : Sem Value).run P w) = .ok (.bool (!(b1 && b2))) w := by
  have hr := nil_eqIn 9999 hd h1 h2 hb w
  generalize d.kind = k at h1 h2
  have e1 : ∀ op, eqGuard op t o1 o2 u v = pure () := fun op => by cases h1 <;> cases op <;> rfl
  have hbin : binOp .eql t u v = (do pure (.bool (← Op.equal t u v))) ∧ binOp .neq t u v = (do pure (.bool (!(← Op.equal t u v)))) := by
    cases h1 <;> cases h2 <;> exact ⟨rfl, rfl⟩
  rw [e1, e1, hbin.1, hbin.2]
  have hq : (Op.equal t u v).run P w = .ok (b1 && b2) w := hr
  constructor <;> simp only [pure_bind, Sem.run_bind, hq, Result.andThen_ok, Sem.run_pure]
end
end Go.Proofs.YtoleejecmefogaaDoor
