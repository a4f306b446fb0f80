/- Values as trees: what a slot holds, told without addresses; the ghost state; what stays. -/
import Derived.Laws.AppendOwn
import Derived.Laws.MakeOwn
import Derived.Calls
import Derived.Below
namespace Go.Proofs.YtpnfkfbapfnboaaGreatDoor
open Go
set_option linter.unusedVariables false
set_option linter.unusedSimpArgs false

inductive AV where
  | v (x : Value)
  | row (z : Nat) (xs : List (List AV)) (k : Option Nat)
  | ref (cs : List AV) (o : Nat)
  | ptr (i o : Nat)
  | loc (j o : Nat)
  | arr (z k n : Nat)
  | eptr (k n i f : Nat)
  | map (i : Nat)
  | agg (cs : List AV)
  | tup (vs : List AV)
  | fn (f : Nat) (cap : List AV)
  | bfn (f : Nat) (first : List AV)
  | opt (b : Bool) (a : AV)
  | junk
instance : Inhabited AV := ⟨.junk⟩

structure Tail where
  g : Nat
  m : Nat
  z : Nat
  c : Nat

structure Gh where
  val : Nat → Nat → Option Value
  at_ : Nat → Option Nat
  tl : Nat → Option (Option Tail)
  nx : Nat

def TokOk (G : Gh) (k : Option Nat) (z n : Nat) (x : Value) : Prop :=
  match k with
  | none => True
  | some k => k < G.nx ∧ match G.tl k with
    | none => True
    | some none => n = 0 ∧ ∃ a, x = .slice a 0 0
    | some (some t) => n ≤ t.m ∧ (n = t.m → x = .slice (some ⟨t.g, 0, none⟩) n t.c ∧ z = t.z)

def ArrOk (G : Gh) (z k n : Nat) (x : Value) : Prop :=
  k < G.nx ∧ (∃ a c, x = .slice a n c ∧ n ≤ c ∧ (a = none ∧ n = 0 ∨ ∃ g, a = some ⟨g, 0, none⟩)) ∧ match G.tl k with
    | none => True
    | some none => n = 0 ∧ ∃ a, x = .slice a 0 0
    | some (some t) => n ≤ t.m ∧ (n = t.m → x = .slice (some ⟨t.g, 0, none⟩) n t.c ∧ z = t.z)
def EptrOk (G : Gh) (k n i f : Nat) (x : Value) : Prop :=
  k < G.nx ∧ ∃ b q, x = .pointer (some ⟨b, q + f, none⟩) ∧ match G.tl k with
    | none => True
    | some none => False
    | some (some t) => n ≤ t.m ∧ (n = t.m → b = t.g ∧ q = i * t.z)

inductive Rep (G : Gh) : AV → Value → Prop where
  | v (x : Value) (h : x.oneCell' = true) : Rep G (.v x) x
  | row (z : Nat) (xs : List (List AV)) (k : Option Nat) (g o n c : Nat) (u : Nat → Value) (hn : xs.length = n) (hc : n ≤ c) (hz : ∀ x ∈ xs, x.length = z)
      (hu : ∀ j, j < n * z → G.val g (o + j) = some (u j)) (hr : ∀ j (h : j < xs.flatten.length), Rep G (xs.flatten[j]) (u j)) (h1 : ∀ j, j < n * z → (u j).oneCell' = true)
      (ht : TokOk G k z n (.slice (some ⟨g, o, none⟩) n c)) : Rep G (.row z xs k) (.slice (some ⟨g, o, none⟩) n c)
  | nil (z : Nat) (k : Option Nat) (ht : TokOk G k z 0 (.slice none 0 0)) : Rep G (.row z [] k) (.slice none 0 0)
  | nilA (z : Nat) (a : Option Addr) : Rep G (.row z [] none) (.slice a 0 0)
  | ref (cs : List AV) (o g b : Nat) (u : Nat → Value) (hu : ∀ j, j < cs.length → G.val g (b + j) = some (u j)) (hr : ∀ j (h : j < cs.length), Rep G cs[j] (u j)) (h1 : ∀ j, j < cs.length → (u j).oneCell' = true) :
      Rep G (.ref cs o) (.pointer (some ⟨g, b + o, none⟩))
  | ptr (i o b : Nat) (h : G.at_ i = some b) : Rep G (.ptr i o) (.pointer (some ⟨b, o, none⟩))
  | arr (z k n : Nat) (a : Option Addr) (m c : Nat) (h : ArrOk G z k n (.slice a m c)) : Rep G (.arr z k n) (.slice a m c)
  | eptr (k n i f : Nat) (p : Option Addr) (h : EptrOk G k n i f (.pointer p)) : Rep G (.eptr k n i f) (.pointer p)
  | map (i b : Nat) (h : G.at_ i = some b) : Rep G (.map i) (.map (some b))
  | agg (cs : List AV) (vs : Array Value) (u : Nat → Value) (hl : vs.size = cs.length) (hu : ∀ j, j < cs.length → vs[j]? = some (u j)) (hr : ∀ j (h : j < cs.length), Rep G cs[j] (u j)) (h1 : ∀ j, j < cs.length → (u j).oneCell' = true) :
      Rep G (.agg cs) (.agg vs)
  | tup (cs : List AV) (vs : Array Value) (u : Nat → Value) (hl : vs.size = cs.length) (hu : ∀ j, j < cs.length → vs[j]? = some (u j)) (hr : ∀ j (h : j < cs.length), Rep G cs[j] (u j)) :
      Rep G (.tup cs) (.tuple vs)
  | fn (f : Nat) (cs : List AV) (vs : Array Value) (u : Nat → Value) (hl : vs.size = cs.length) (hu : ∀ j, j < cs.length → vs[j]? = some (u j)) (hr : ∀ j (h : j < cs.length), Rep G cs[j] (u j)) :
      Rep G (.fn f cs) (.func (.func f) #[] vs)
  | bfn (f : Nat) (cs : List AV) (vs : Array Value) (u : Nat → Value) (hl : vs.size = cs.length) (hu : ∀ j, j < cs.length → vs[j]? = some (u j)) (hr : ∀ j (h : j < cs.length), Rep G cs[j] (u j)) :
      Rep G (.bfn f cs) (.func (.func f) vs #[])
  | junk (x : Value) : Rep G .junk x

inductive TlLe : Option (Option Tail) → Option (Option Tail) → Prop where
  | dead (x) : TlLe x none
  | same (x) : TlLe x x
  | born (t : Tail) (h : 0 < t.m) : TlLe (some none) (some (some t))
  | more (t t' : Tail) (h : t.m < t'.m) : TlLe (some (some t)) (some (some t'))
theorem TlLe.trans {a b c : Option (Option Tail)} (h : TlLe a b) (k : TlLe b c) : TlLe a c := by
  cases h with
  | dead => cases k <;> exact .dead _
  | same => exact k
  | born t h => cases k with
    | dead => exact .dead _
    | same => exact .born _ h
    | more _ t' h' => exact .born _ (by omega)
  | more t t' h => cases k with
    | dead => exact .dead _
    | same => exact .more _ _ h
    | more _ t'' h' => exact .more _ _ (by omega)

structure GLe (G G' : Gh) : Prop where
  val : ∀ g o x, G.val g o = some x → G'.val g o = some x
  at_ : ∀ i b, G.at_ i = some b → G'.at_ i = some b
  nx : G.nx ≤ G'.nx
  tl : ∀ k, k < G.nx → TlLe (G.tl k) (G'.tl k)
theorem GLe.refl (G : Gh) : GLe G G := ⟨fun _ _ _ h => h, fun _ _ h => h, Nat.le_refl _, fun _ _ => .same _⟩
theorem GLe.trans {a b c : Gh} (h : GLe a b) (k : GLe b c) : GLe a c :=
  ⟨fun g o x e => k.val g o x (h.val g o x e), fun i b e => k.at_ i b (h.at_ i b e), Nat.le_trans h.nx k.nx, fun t ht => (h.tl t ht).trans (k.tl t (Nat.lt_of_lt_of_le ht h.nx))⟩
theorem TokOk.mono {G G' : Gh} (hG : GLe G G') {k : Option Nat} {z n : Nat} {x : Value} (h : TokOk G k z n x) : TokOk G' k z n x := by
  cases k with
  | none => trivial
  | some k =>
    obtain ⟨hk, h⟩ := h
    refine ⟨Nat.lt_of_lt_of_le hk hG.nx, ?_⟩
    have ht := hG.tl k hk
    cases e : G.tl k with
    | none =>
      rw [e] at ht
      cases e' : G'.tl k with
      | none => trivial
      | some y => rw [e'] at ht; cases ht
    | some y =>
      rw [e] at h ht
      cases e' : G'.tl k with
      | none => trivial
      | some y' =>
        rw [e'] at ht
        cases ht with
        | same => exact h
        | born t h0 =>
          obtain ⟨rfl, _, rfl⟩ := h
          exact ⟨by omega, fun e => by omega⟩
        | more t t' h0 => exact ⟨Nat.le_trans h.1 (by omega), fun e => by have := h.1; omega⟩
theorem ArrOk.mono {G G' : Gh} (hG : GLe G G') {z k n : Nat} {x : Value} (h : ArrOk G z k n x) : ArrOk G' z k n x := by
  obtain ⟨hk, hx, h⟩ := h
  refine ⟨Nat.lt_of_lt_of_le hk hG.nx, hx, ?_⟩
  have ht := hG.tl k hk
  cases e : G.tl k with
  | none =>
    rw [e] at ht
    cases e' : G'.tl k with
    | none => trivial
    | some y => rw [e'] at ht; cases ht
  | some y =>
    rw [e] at h ht
    cases e' : G'.tl k with
    | none => trivial
    | some y' =>
      rw [e'] at ht
      cases ht with
      | same => exact h
      | born t h0 =>
        obtain ⟨rfl, _, rfl⟩ := h
        exact ⟨by omega, fun e => by omega⟩
      | more t t' h0 => exact ⟨Nat.le_trans h.1 (by omega), fun e => by have := h.1; omega⟩
theorem EptrOk.mono {G G' : Gh} (hG : GLe G G') {k n i f : Nat} {x : Value} (h : EptrOk G k n i f x) : EptrOk G' k n i f x := by
  obtain ⟨hk, b, q, hx, h⟩ := h
  refine ⟨Nat.lt_of_lt_of_le hk hG.nx, b, q, hx, ?_⟩
  have ht := hG.tl k hk
  cases e : G.tl k with
  | none =>
    rw [e] at ht
    cases e' : G'.tl k with
    | none => trivial
    | some y => rw [e'] at ht; cases ht
  | some y =>
    rw [e] at h ht
    cases e' : G'.tl k with
    | none => trivial
    | some y' =>
      rw [e'] at ht
      cases ht with
      | same => exact h
      | born t h0 => exact h.elim
      | more t t' h0 => exact ⟨Nat.le_trans h.1 (by omega), fun e => by have := h.1; omega⟩
theorem Rep.mono {G G' : Gh} (hG : GLe G G') {a : AV} {x : Value} (h : Rep G a x) : Rep G' a x := by
  induction h with
  | v x h => exact .v x h
  | row z xs k g o n c u hn hc hz hu hr h1 ht ih => exact .row z xs k g o n c u hn hc hz (fun j hj => hG.val _ _ _ (hu j hj)) ih h1 (ht.mono hG)
  | nil z k ht => exact .nil z k (ht.mono hG)
  | nilA z a => exact .nilA z a
  | ref cs o g b u hu hr h1 ih => exact .ref cs o g b u (fun j hj => hG.val _ _ _ (hu j hj)) ih h1
  | ptr i o b h => exact .ptr i o b (hG.at_ _ _ h)
  | arr z k n a m c h => exact .arr z k n a m c (h.mono hG)
  | eptr k n i f p h => exact .eptr k n i f p (h.mono hG)
  | map i b h => exact .map i b (hG.at_ _ _ h)
  | agg cs vs u hl hu hr h1 ih => exact .agg cs vs u hl hu ih h1
  | tup cs vs u hl hu hr ih => exact .tup cs vs u hl hu ih
  | fn f cs vs u hl hu hr ih => exact .fn f cs vs u hl hu ih
  | bfn f cs vs u hl hu hr ih => exact .bfn f cs vs u hl hu ih
  | junk x => exact .junk x

def RepL (G : Gh) (cs : List AV) (vs : List Value) : Prop :=
  vs.length = cs.length ∧ ∀ j (h : j < cs.length) (h' : j < vs.length), Rep G cs[j] vs[j] ∧ vs[j].oneCell' = true
theorem RepL.mono {G G' : Gh} (hG : GLe G G') {cs : List AV} {vs : List Value} (h : RepL G cs vs) : RepL G' cs vs :=
  ⟨h.1, fun j a b => ⟨(h.2 j a b).1.mono hG, (h.2 j a b).2⟩⟩
theorem RepL.nil (G : Gh) : RepL G [] [] := ⟨rfl, fun j h => by simp at h⟩
theorem RepL.cons {G : Gh} {a : AV} {x : Value} {cs : List AV} {vs : List Value} (h : Rep G a x) (h1 : x.oneCell' = true) (k : RepL G cs vs) : RepL G (a :: cs) (x :: vs) := by
  refine ⟨by simp [k.1], fun j hj hj' => ?_⟩
  cases j with
  | zero => exact ⟨h, h1⟩
  | succ j => exact k.2 j (by simpa using hj) (by simpa using hj')
theorem RepL.append {G : Gh} {cs ds : List AV} {vs ws : List Value} (h : RepL G cs vs) (k : RepL G ds ws) : RepL G (cs ++ ds) (vs ++ ws) := by
  refine ⟨by simp [h.1, k.1], fun j hj hj' => ?_⟩
  by_cases hlt : j < cs.length
  · rw [List.getElem_append_left hlt, List.getElem_append_left (by rw [h.1]; exact hlt)]
    exact h.2 j hlt _
  · rw [List.getElem_append_right (by omega), List.getElem_append_right (by rw [h.1]; omega)]
    have e : vs.length = cs.length := h.1
    simp only [e]
    exact k.2 _ _ _
theorem RepL.take {G : Gh} {cs : List AV} {vs : List Value} (h : RepL G cs vs) (n : Nat) : RepL G (cs.take n) (vs.take n) := by
  refine ⟨by simp [h.1], fun j hj hj' => ?_⟩
  simp only [List.getElem_take]
  exact h.2 j _ _
theorem RepL.drop {G : Gh} {cs : List AV} {vs : List Value} (h : RepL G cs vs) (n : Nat) : RepL G (cs.drop n) (vs.drop n) := by
  refine ⟨by simp [h.1], fun j hj hj' => ?_⟩
  simp only [List.getElem_drop]
  exact h.2 _ _ _
theorem RepL.getD {G : Gh} {cs : List AV} {vs : List Value} (h : RepL G cs vs) {j : Nat} (hj : j < cs.length) : ∃ x, vs[j]? = some x ∧ Rep G (cs.getD j .junk) x ∧ x.oneCell' = true := by
  have hj' : j < vs.length := by rw [h.1]; exact hj
  refine ⟨vs[j], List.getElem?_eq_getElem hj', ?_⟩
  rw [List.getD_eq_getElem?_getD, List.getElem?_eq_getElem hj]
  exact h.2 j hj hj'
theorem RepL.agg {G : Gh} {cs : List AV} {vs : List Value} (h : RepL G cs vs) : Rep G (.agg cs) (.agg vs.toArray) := by
  refine .agg cs vs.toArray (fun j => vs.getD j undef) (by simpa using h.1) (fun j hj => ?_) (fun j hj => ?_) (fun j hj => ?_)
  all_goals have hj' : j < vs.length := by rw [h.1]; exact hj
  all_goals simp only [List.getElem?_toArray, List.getD_eq_getElem?_getD, List.getElem?_eq_getElem hj', Option.getD_some]
  · exact (h.2 j hj hj').1
  · exact (h.2 j hj hj').2
theorem RepL.of_agg {G : Gh} {cs : List AV} {x : Value} (h : Rep G (.agg cs) x) : ∃ vs : List Value, x = .agg vs.toArray ∧ RepL G cs vs := by
  cases h with
  | agg _ vs u hl hu hr h1 =>
    refine ⟨vs.toList, by simp, by simpa using hl, fun j hj hj' => ?_⟩
    have e := hu j hj
    rw [Array.getElem?_eq_getElem (by rw [hl]; exact hj)] at e
    simp only [Option.some.injEq] at e
    simp only [Array.getElem_toList, e]
    exact ⟨hr j hj, h1 j hj⟩
theorem RepL.of_fun {G : Gh} {cs : List AV} (u : Nat → Value) (hr : ∀ j (h : j < cs.length), Rep G cs[j] (u j)) (h1 : ∀ j, j < cs.length → (u j).oneCell' = true) : RepL G cs ((List.range cs.length).map u) := by
  refine ⟨by simp, fun j hj hj' => ?_⟩
  simp only [List.getElem_map, List.getElem_range]
  exact ⟨hr j hj, h1 j hj⟩
theorem flatten_at {α : Type} {z : Nat} : ∀ {xs : List (List α)} (_ : ∀ x ∈ xs, x.length = z) {i : Nat} (hi : i < xs.length) {j : Nat} (_ : j < z), xs.flatten[i * z + j]? = xs[i][j]?
  | [], _, _, hi, _, _ => by simp at hi
  | x :: xs, hz, 0, _, j, hj => by
    have := hz x (by simp)
    simp [List.getElem?_append, this, hj]
  | x :: xs, hz, i + 1, hi, j, hj => by
    have hx := hz x (by simp)
    have ih := flatten_at (xs := xs) (fun y hy => hz y (by simp [hy])) (i := i) (by simpa using hi) hj
    simp only [List.flatten_cons, List.getElem_cons_succ]
    rw [List.getElem?_append_right (by rw [hx, Nat.add_mul]; omega), hx, ← ih]
    congr 1
    rw [Nat.add_mul]
    omega
theorem flatten_elem {α : Type} {z : Nat} : ∀ {xs : List (List α)} (_ : ∀ x ∈ xs, x.length = z) {i : Nat} (_ : i < xs.length), (xs.flatten.drop (i * z)).take z = xs.getD i []
  | [], _, _, hi => by simp at hi
  | x :: xs, hz, 0, _ => by
    have := hz x (by simp)
    simp [List.take_append, this]
  | x :: xs, hz, i + 1, hi => by
    have hx := hz x (by simp)
    have ih := flatten_elem (xs := xs) (fun y hy => hz y (by simp [hy])) (i := i) (by simpa using hi)
    rw [List.flatten_cons, Nat.add_mul, Nat.one_mul, Nat.add_comm, ← List.drop_drop]
    rw [List.drop_append, ← hx] 
    simp only [Nat.le_refl, List.drop_eq_nil_of_le, Nat.sub_self, List.drop_zero, List.nil_append]
    rw [hx, ih]; simp
theorem flatten_len {α : Type} {z : Nat} : ∀ {xs : List (List α)} (_ : ∀ x ∈ xs, x.length = z), xs.flatten.length = xs.length * z
  | [], _ => by simp
  | x :: xs, hz => by
    rw [List.flatten_cons, List.length_append, hz x (by simp), flatten_len (fun y hy => hz y (by simp [hy])), List.length_cons, Nat.add_mul]
    omega
end Go.Proofs.YtpnfkfbapfnboaaGreatDoor

