/- Sets of strings: maps from strings to bools that a call makes. -/
import Derived.Test.YtegalkmfoffpfaaGreatDoorFiles
import Derived.Test.YtegalkmfoffpfaaGreatDoorKit
import Derived.Maps.Views
namespace Go.Proofs.YtegalkmfoffpfaaGreatDoor
open Go.RowKit Go.Maps Go.WideMaps

def hasS (S : List ByteArray) (s : ByteArray) : Bool := S.any fun t => t.toList == s.toList
theorem hasS_cons (t s : ByteArray) (S : List ByteArray) : hasS (t :: S) s = (t.toList == s.toList || hasS S s) := rfl
theorem hasS_append (S T : List ByteArray) (s : ByteArray) : hasS (S ++ T) s = (hasS S s || hasS T s) := List.any_append
theorem ba_ext {a b : ByteArray} (h : a.toList = b.toList) : a = b := by
  rw [ByteArray.toList_eq, ByteArray.toList_eq] at h
  exact ByteArray.ext (Array.ext' h)
theorem keyed_str : Keyed Tryz.prog 9 := string_keyed Tryz.underlying9
theorem zero_bool (w : World) : (zeroValue 4).run Tryz.prog w = .ok (.bool false) w := by kernel_rfl
/-- Block b is a set of at most n entries that holds just the strings of S. -/
def IsSet (w : World) (b n : Nat) (S : List ByteArray) : Prop :=
  ∃ D : DataW Unit, w.ownsMap Tryz.prog 9 (plainElem Tryz.prog 4) b n D ∧ ∀ s : ByteArray, D.atKey (litS s) (.lit (.bool false)) = .lit (.bool (hasS S s))
theorem IsSet.new (w : World) : IsSet (w.alloc (.map #[] 0)) w.heap.size 0 [] := ⟨.map [], World.ownsMap_made _ _ _ _, fun _ => rfl⟩
theorem IsSet.lt {w : World} {b n : Nat} {S : List ByteArray} (h : IsSet w b n S) : b < w.heap.size := let ⟨_, h1, _⟩ := h; h1.lt
theorem IsSet.kept {w w' : World} {b n : Nat} {row : Option Nat} {S : List ByteArray} (h : IsSet w b n S) (hg : w.grownBy w' row) (hne : some b ≠ row) : IsSet w' b n S := let ⟨D, h1, h2⟩ := h; ⟨D, h1.kept hg hne, h2⟩
theorem IsSet.alloc {w : World} {b n : Nat} {S : List ByteArray} (h : IsSet w b n S) (o : Obj) : IsSet (w.alloc o) b n S := let ⟨D, h1, h2⟩ := h; ⟨D, h1.alloc o, h2⟩
theorem IsSet.below {w w' : World} {b n : Nat} {S : List ByteArray} (h : IsSet w b n S) (hb : Below w.heap.size w w') : IsSet w' b n S := h.kept (gb_below hb none) (by simp)
theorem IsSet.drewN {w : World} {b n : Nat} {S : List ByteArray} (h : IsSet w b n S) (q : Nat) : IsSet (w.drewN q) b n S := h
theorem IsSet.mono {w : World} {b n n' : Nat} {S : List ByteArray} (h : IsSet w b n S) (hn : n ≤ n') : IsSet w b n' S := let ⟨D, h1, h2⟩ := h; ⟨D, h1.mono hn, h2⟩
theorem litS_inj {s t : ByteArray} (h : litS s = litS t) : s = t := by
  unfold litS at h
  injection h with h
  exact ByteArray.ext (Array.ext' h)
theorem keyOf_str {s : ByteArray} (hs : s.size ≤ 1000000000000) : keyOf Tryz.prog 9 (.string s) = some (litS s) := keyOf_string_mk Tryz.underlying9 (by unfold maxLen; omega)
theorem plainElem_bool_inv {H : Type} {P : Program} {e : TypeId} (he : P.underlying e = some .bool) {v : Value} {z : DataW H × List MemPlace} (h : plainElem P e v = some z) : ∃ x, v = .bool x ∧ z = (.lit (.bool x), []) := by
  unfold plainElem at h
  rw [he] at h
  cases v <;> simp at h
  exact ⟨_, rfl, h.symm⟩
theorem IsSet.look {w : World} {b n : Nat} {S : List ByteArray} (h : IsSet w b n S) {s : ByteArray} (hs : s.size ≤ 1000000000000) : (Instr.lookup 169 (.map (some b)) (.string s) false).run Tryz.prog w = .ok (.bool (hasS S s)) w := by
  obtain ⟨D, h1, h2⟩ := h
  obtain ⟨v, ps, hrun, hv⟩ := h1.lookup keyed_str Tryz.underlying169 (zero_bool w) (plainElem_bool Tryz.underlying4 false) (keyOf_str hs)
  obtain ⟨x, rfl, hx⟩ := plainElem_bool_inv Tryz.underlying4 hv
  rw [h2 s] at hx
  simp only [Prod.mk.injEq, DataW.lit.injEq, Lit.bool.injEq] at hx
  rw [hrun, ← hx.1]
theorem wpList_lookup_set {w : World} {ops : Array Oper} {rest : List Oper} {o : Oper} {a : Act} {Q : Exit → Act → World → Prop}
    (hg : o.guard = none) (m x : Operand) (hop : o.op = Op.lookup 169 m x false) (b n : Nat) (S : List ByteArray) (s : ByteArray) (hm : a.eval m = .map (some b)) (hown : IsSet w b n S) (hx : a.eval x = .string s) (hs : s.size ≤ 1000000000000)
    (hK : wpList Tryz.prog ops Q rest (a.put o.dst (.bool (hasS S s))) w) : wpList Tryz.prog ops Q (o :: rest) a w := by
  refine wpList_plain hg fun K' hK' => ?_
  unfold Oper.wp
  simp [execOp, hop, hm, hx, hown.look hs, Result.andThen]
  exact hK' _ _ hK
theorem wpList_update_set {w : World} {ops : Array Oper} {rest : List Oper} {o : Oper} {a : Act} {Q : Exit → Act → World → Prop}
    (hg : o.guard = none) (m x v : Operand) (hop : o.op = Op.mapUpdate 169 m x v) (b n : Nat) (S : List ByteArray) (s : ByteArray) (hm : a.eval m = .map (some b)) (hown : IsSet w b n S) (hx : a.eval x = .string s) (hv : a.eval v = .bool true) (hs : s.size ≤ 1000000000000) (hn : n ≤ 1000000000000)
    (hK : ∀ w', IsSet w' b (n + 1) (s :: S) → w.grownBy w' (some b) → wpList Tryz.prog ops Q rest (a.put o.dst undef) w') : wpList Tryz.prog ops Q (o :: rest) a w := by
  obtain ⟨D, h1, h2⟩ := hown
  refine wpList_mapUpdate_own w hg m x v 169 hop 9 4 keyed_str Tryz.underlying169 _ b n D hm h1 (by unfold maxLen; omega) _ _ (litS s) hx hv (keyOf_str hs) (.lit (.bool true)) [] (plainElem_bool Tryz.underlying4 true) ?_
  intro w' hown' hgrow
  refine hK w' ⟨_, hown', fun t => ?_⟩ hgrow
  by_cases e : litS t = litS s
  · obtain rfl := litS_inj e
    rw [atKey_put_same h1.isMap (by exact trivial)]
    simp [hasS]
  · rw [atKey_put_other e, h2 t]
    have : (s.toList == t.toList) = false := beq_eq_false_iff_ne.2 fun h => e (by rw [ba_ext h])
    rw [hasS_cons, this, Bool.false_or]
end Go.Proofs.YtegalkmfoffpfaaGreatDoor
