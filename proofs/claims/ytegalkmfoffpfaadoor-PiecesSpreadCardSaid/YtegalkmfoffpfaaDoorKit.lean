/- Short words for the walks: one more element behind a row of the call's own; Below, step by step. -/
import Derived.Test.YtegalkmfoffpfaaDoorBase
namespace Go.Proofs.YtegalkmfoffpfaaDoor
open Go.RowKit

theorem bon {a b c : World} (h : Below a.heap.size a b) (k : Below b.heap.size b c) : Below a.heap.size a c := h.trans (k.mono h.size)
theorem bbox {a b : World} (h : Below a.heap.size a b) (o : Obj) : Below a.heap.size a (b.alloc o) := h.alloc h.size o
theorem bfirst (a : World) (o : Obj) : Below a.heap.size a (a.alloc o) := (Below.refl _ _).alloc (Nat.le_refl _) o
theorem blt {a b : World} {o : Obj} (k : Below (a.alloc o).heap.size (a.alloc o) b) : a.heap.size < b.heap.size := by have := k.size; simp at this; omega
/-- A box that was new before a call reads behind it as it was laid. -/
theorem bboxed {a b : World} {cs : Array Value} {t : TypeId} (k : Below (a.alloc (.cells cs t)).heap.size (a.alloc (.cells cs t)) b) (i : Nat) (v : Value) (h : cs[i]? = some v) : b.cell? ⟨a.heap.size, i, none⟩ = some v :=
  (k.cell (p := ⟨a.heap.size, i, none⟩) (by simp)).trans (cell_new_list a cs t i v h)
theorem bold {a b : World} (k : Below a.heap.size a b) {p : Addr} {v : Value} (h : a.cell? p = some v) : b.cell? p = some v :=
  (k.cell (World.block_lt_of_cell? a _ h)).trans h

theorem own_cells {w : World} {base e size n c : Nat} {g : Nat} {xs : List Value} (h : w.ownsRow base e size (.slice (some ⟨g, 0, none⟩) n c) n xs) : ∀ j u, xs[j]? = some u → w.cell? ((⟨g, 0, none⟩ : Addr).add j) = some u := by
  intro j u hu
  rcases h.2 with ⟨h0, _⟩ | ⟨g', cap, cur, hv, _, hh, _, _, _, hx⟩
  · cases h0
  · simp only [Value.slice.injEq, Option.some.injEq, Addr.mk.injEq] at hv
    obtain ⟨⟨rfl, _, _⟩, _, _⟩ := hv
    have e : (⟨g, 0, none⟩ : Addr).add j = ⟨g, j, none⟩ := by unfold Addr.add; split <;> simp_all
    rw [e]
    have hcur : cur[j]? = some u := by
      rw [← hx, List.getElem?_take] at hu
      split at hu
      · simpa using hu
      · cases hu
    simp [World.cell?, hh, hcur]
theorem own_nil_or {w : World} {base e size n : Nat} {v : Value} {xs : List Value} (h : w.ownsRow base e size v n xs) : (v = .slice none 0 0 ∧ n = 0 ∧ xs = []) ∨ ∃ g c, v = .slice (some ⟨g, 0, none⟩) n c := by
  rcases h.2 with ⟨rfl, rfl⟩ | ⟨g, cap, cur, rfl, _⟩
  · exact .inl ⟨rfl, rfl, List.eq_nil_of_length_eq_zero (by simpa using h.1)⟩
  · exact .inr ⟨g, cap, rfl⟩
theorem ownsRow_empty {w : World} {t : TypeId} {base size : Nat} (hb : base ≤ w.heap.size) : (w.alloc (.cells #[] t)).ownsRow base t size (.slice (some ⟨w.heap.size, 0, none⟩) 0 0) 0 [] :=
  ⟨by simp, .inr ⟨w.heap.size, 0, #[], rfl, hb, heap_alloc_new w _, Nat.le_refl _, by unfold maxLen; omega, by simp, by simp⟩⟩

theorem wpList_push {P : Program} {ops : Array Oper} {rest : List Oper} {o : Oper} {a : Act} {Q : Exit → Act → World → Prop} {W w0 w1 : World} {lo : Nat} (hgd : o.guard = none) (s x : Operand) (t : TypeId)
    (ho : o.op = .call { callee := .builtin .append, args := #[s, x], argTypes := #[t, t] })
    (e : TypeId) (i : TypeInfo) (z : Value) (size bytes : Nat) (ht : P.underlying t = some (.slice e)) (hi : P.info? e = some i) (hz : i.zero = some z)
    (hsize : i.size = size) (hby : i.bytes = bytes) (hzs : z.cells.size = size) (hsz : 0 < size) (hb64 : bytes ≤ 100)
    (v : Value) (n : Nat) (xs : List Value) (hs : a.eval s = v) (hB : Below lo W w0) (hlo : lo ≤ w0.heap.size) (hown : w0.ownsRow lo e size v n xs)
    (news : List Value) (hw1 : w1 = w0.alloc (.cells news.toArray e)) (hx : a.eval x = .slice (some ⟨w0.heap.size, 0, none⟩) 1 1) (hl : news.length = size) (h1 : news.all (·.oneCell') = true) (hn : n ≤ 1000000000000)
    (h : ∀ v' w', w'.ownsRow lo e size v' (n + 1) (xs ++ news) → Below lo W w' → w0.heap.size < w'.heap.size → w0.grownBy w' v.ownBlock → wpList P ops Q rest (a.put o.dst v') w') :
    wpList P ops Q (o :: rest) a w1 := by
  subst hw1
  refine wpList_append_own _ hgd s x t ho lo e i z size bytes ht hi hz hsize hby hzs hsz v n xs hs (hown.alloc _) ⟨w0.heap.size, 0, none⟩ 1 1 news hx (by omega) (cells_new w0 news e)
    (fun u hu => List.all_eq_true.1 h1 u hu) (by unfold maxLen; omega) (Nat.le_trans (Nat.mul_le_mul (show n + 1 ≤ 1000000000001 by omega) hb64) (by decide)) (by simp; omega) ?_
  intro v' w' hown' hgrow _
  refine h v' w' hown' ((hB.alloc hlo _).grown hgrow (by simp; omega) (fun x hx => (hown.lt x hx).1)) (by have := hgrow.size; simp at this; omega) ?_
  exact ⟨hgrow.os, hgrow.tape, hgrow.output, by have := hgrow.size; simp at this; omega, fun k hk hne => (hgrow.block k (by simp; omega) hne).trans (Below.heap_alloc w0 _ k hk)⟩
end Go.Proofs.YtegalkmfoffpfaaDoor
