/- A crowd in memory; frames; one more element inside a region that draws; the comparing function of a round. -/
import Derived.Test.YtegalkmfoffpfaaDoorIntSort
import Derived.Deep.AppendLies
namespace Go.Proofs.YtegalkmfoffpfaaDoor
open Go.RowKit Go.Sort
/-- All blocks but those of S stay. -/
structure Fr (S : Nat → Prop) (w w' : World) : Prop where
  os : w'.os = w.os
  tape : w'.tape = w.tape
  output : w'.output = w.output
  size : w.heap.size ≤ w'.heap.size
  block : ∀ x, x < w.heap.size → ¬ S x → w'.heap[x]? = w.heap[x]?
section
variable {S S' : Nat → Prop} {w w' w2 : World}
theorem Fr.refl (S : Nat → Prop) (w : World) : Fr S w w := ⟨rfl, rfl, rfl, Nat.le_refl _, fun _ _ _ => rfl⟩
theorem Fr.trans (h : Fr S w w') (k : Fr S w' w2) : Fr S w w2 := ⟨k.os.trans h.os, k.tape.trans h.tape, k.output.trans h.output, Nat.le_trans h.size k.size, fun x h1 h2 => (k.block x (Nat.lt_of_lt_of_le h1 h.size) h2).trans (h.block x h1 h2)⟩
theorem Fr.mono (h : Fr S w w') (hs : ∀ x, S x → S' x) : Fr S' w w' := ⟨h.os, h.tape, h.output, h.size, fun x h1 h2 => h.block x h1 (fun h3 => h2 (hs x h3))⟩
theorem Fr.of_below (h : Below w.heap.size w w') (S : Nat → Prop) : Fr S w w' := ⟨h.os, h.tape, h.output, h.size, fun x h1 _ => h.block x h1⟩
theorem Fr.of_gb {r : Option Nat} (h : w.grownBy w' r) (hs : ∀ x, r = some x → S x) : Fr S w w' := ⟨h.os, h.tape, h.output, h.size, fun x h1 h2 => h.block x h1 (fun e => h2 (hs x e.symm))⟩
theorem Fr.drewN (h : Fr S w w') (q : Nat) : Fr S w (w'.drewN q) := ⟨h.os, h.tape, h.output, h.size, h.block⟩
theorem Fr.alloc (h : Fr S w w') (o : Obj) : Fr S w (w'.alloc o) := h.trans (Fr.of_below (bfirst w' o) S)
theorem Fr.set (h : Fr S w w') {p : Addr} (hp : S p.block) (v : Value) : Fr S w (w'.setCell p v) :=
  ⟨h.os, h.tape, h.output, by have := h.size; simp [World.setCell]; exact this, fun x h1 h2 => (Below.heap_setCell _ _ _ _ (fun e => h2 (by rw [e]; exact hp))).trans (h.block x h1 h2)⟩
theorem Fr.blk (h : Fr S w w') {x : Nat} {o : Obj} (hx : w.heap[x]? = some o) (hs : ¬ S x) : w'.heap[x]? = some o := (h.block x (block_lt hx) hs).trans hx
theorem Fr.own (h : Fr S w w') {base e size n : Nat} {v : Value} {xs : List Value} (ho : w.ownsRow base e size v n xs) (hs : ∀ x cur z, w.heap[x]? = some (.cells cur e z) → ¬ S x) : w'.ownsRow base e size v n xs := by
  obtain ⟨hl, h2⟩ := ho
  refine ⟨hl, ?_⟩
  rcases h2 with h2 | ⟨g, cap, cur, hv, hg, hh, r⟩
  · exact .inl h2
  · exact .inr ⟨g, cap, cur, hv, hg, h.blk hh (hs _ _ _ hh), r⟩
end
theorem tag_ne {w : World} {x y : Nat} {c c' : Array Value} {t t' : TypeId} {z z' : Nat × Nat} (h1 : w.heap[x]? = some (.cells c t z)) (h2 : w.heap[y]? = some (.cells c' t' z')) (h : t ≠ t') : x ≠ y := by
  intro e
  subst e
  rw [h1] at h2
  injection h2 with h2
  injection h2 with _ ht
  exact h ht
/-- The block of a row of the call's own bears the row's kind. -/
theorem own_tag {w : World} {base e size n g : Nat} {v : Value} {xs : List Value} (h : w.ownsRow base e size v n xs) (hg : v.ownBlock = some g) : ∃ cur, w.heap[g]? = some (.cells cur e (0, 0)) := by
  rcases h.2 with ⟨rfl, _⟩ | ⟨g', cap, cur, rfl, _, hh, _⟩
  · cases hg
  · cases hg; exact ⟨cur, hh⟩
theorem own_other {w w' : World} {base base' e e' size size' n n' : Nat} {v v' : Value} {xs xs' : List Value} (h : w.ownsRow base e size v n xs) (h' : w.ownsRow base' e' size' v' n' xs') (hg : w.grownBy w' v'.ownBlock) (hne : e ≠ e') : w'.ownsRow base e size v n xs := by
  have hf : Fr (fun x => v'.ownBlock = some x) w w' := Fr.of_gb hg (fun x hx => hx)
  refine hf.own h (fun x cur z hx hS => ?_)
  obtain ⟨cur', h2⟩ := own_tag h' hS
  exact tag_ne hx h2 hne rfl
theorem own_set {w : World} {base e size n g j : Nat} {v u : Value} {xs : List Value} {cur : Array Value} {t : TypeId} {z : Nat × Nat} (h : w.ownsRow base e size v n xs) (hg : w.heap[g]? = some (.cells cur t z)) (hne : e ≠ t) : (w.setCell ⟨g, j, none⟩ u).ownsRow base e size v n xs := by
  have hf : Fr (fun x => x = g) w (w.setCell ⟨g, j, none⟩ u) := (Fr.refl (fun x => x = g) w).set (p := ⟨g, j, none⟩) rfl u
  refine hf.own h (fun x c z hx hS => ?_)
  exact tag_ne hx hg hne hS
theorem row_set {w : World} {g m j : Nat} {f : Nat → Bool} {t : TypeId} (h : w.heap[g]? = some (.cells (rowC m f).toArray t (0, 0))) : (w.setCell ⟨g, j, none⟩ (.bool true)).heap[g]? = some (.cells (rowC m (setB f j)).toArray t (0, 0)) := by
  have e : rowC m (setB f j) = (rowC m f).set j (.bool true) := by rw [rowC_set]; rfl
  rw [e]
  simp [World.setCell, Array.getElem?_modify, h]
theorem row_fz {w : World} {g m j : Nat} {f : Nat → Bool} {t : TypeId} (h : w.heap[g]? = some (.cells (rowC m f).toArray t (0, 0))) : w.frozen? ⟨g, j, none⟩ = false := by simp [World.frozen?, h]
theorem own_at1 {w : World} {base e n k c : Nat} {A : Option Addr} {u : Value} {xs : List Value} (h : w.ownsRow base e 1 (.slice A n c) n xs) (hk : xs[k]? = some u) : ∃ g, A = some ⟨g, 0, none⟩ ∧ w.cell? ⟨g, k, none⟩ = some u := by
  rcases own_nil_or h with ⟨h0, _, hx⟩ | ⟨g, c', hv⟩
  · rw [hx] at hk; cases hk
  · simp only [Value.slice.injEq] at hv
    obtain ⟨rfl, _, rfl⟩ := hv
    have e : (⟨g, 0, none⟩ : Addr).add k = ⟨g, k, none⟩ := by unfold Addr.add; split <;> simp_all
    have := own_cells h k u hk
    rw [e] at this
    exact ⟨g, rfl, this⟩
theorem own_atK {w : World} {base e size n k c : Nat} {A : Option Addr} {u : Value} {xs : List Value} (h : w.ownsRow base e size (.slice A n c) n xs) (hk : xs[k]? = some u) : ∃ g, A = some ⟨g, 0, none⟩ ∧ w.cell? ⟨g, k, none⟩ = some u := by
  rcases own_nil_or h with ⟨h0, _, hx⟩ | ⟨g, c', hv⟩
  · rw [hx] at hk; cases hk
  · simp only [Value.slice.injEq] at hv
    obtain ⟨rfl, _, rfl⟩ := hv
    have e : (⟨g, 0, none⟩ : Addr).add k = ⟨g, k, none⟩ := by unfold Addr.add; split <;> simp_all
    have := own_cells h k u hk
    rw [e] at this
    exact ⟨g, rfl, this⟩
/-- One more element behind a row of the call's own, inside a region that draws. -/
theorem step_push {P : Program} {ops : Array Oper} {o : Oper} {a : Act} {K : Act → World → Prop} {Q : Exit → Act → World → Prop} {E : Prop} {w0 : World} (hgd : o.guard = none) (s x : Operand) (t : TypeId)
    (ho : o.op = .call { callee := .builtin .append, args := #[s, x], argTypes := #[t, t] })
    (base : Nat) (e : TypeId) (i : TypeInfo) (z : Value) (size bytes : Nat) (ht : P.underlying t = some (.slice e)) (hi : P.info? e = some i) (hz : i.zero = some z)
    (hsize : i.size = size) (hby : i.bytes = bytes) (hzs : z.cells.size = size) (hsz : 0 < size) (hb64 : bytes ≤ 100)
    (v : Value) (n : Nat) (xs : List Value) (hs : a.eval s = v) (hown : w0.ownsRow base e size v n xs)
    (news : List Value) (hx : a.eval x = .slice (some ⟨w0.heap.size, 0, none⟩) 1 1) (hl : news.length = size) (h1 : news.all (·.oneCell') = true) (hn : n ≤ 1000000000000) (hbase : base ≤ w0.heap.size)
    (h : ∀ v' w', w'.ownsRow base e size v' (n + 1) (xs ++ news) → w0.grownBy w' v.ownBlock → w0.heap.size < w'.heap.size → K (a.put o.dst v') w') :
    if Region.wanted o (yielded ops a.tmps) = true then Oper.wp P o a (w0.alloc (.cells news.toArray e)) K Q else E := by
  refine step_append_lies _ hgd s x t ho base e i z size bytes ht hi hz hsize hby hzs hsz v n xs hs (hown.alloc _) ⟨w0.heap.size, 0, none⟩ 1 1 news hx (by omega) (cells_new w0 news e)
    (fun u hu => List.all_eq_true.1 h1 u hu) (by omega) (by unfold maxLen; omega) (Nat.le_trans (Nat.mul_le_mul (show n + 1 ≤ 1000000000001 by omega) hb64) (by decide)) (by simp; omega) (w0.heap.size + 1) (by simp) ?_
  intro g cap w' hown' hgrow _ _
  refine h _ w' hown' ?_ (by have := hgrow.size; simp at this; omega)
  exact ⟨hgrow.os, hgrow.tape, hgrow.output, by have := hgrow.size; simp at this; omega, fun k hk hne => (hgrow.block k (by simp; omega) hne).trans (Below.heap_alloc w0 _ k hk)⟩
/-! ### the crowd -/
def ksAt (ks : List ByteArray) (i : Nat) : ByteArray := ks.getD i .empty
theorem ksAt_eq (ks : List ByteArray) {i : Nat} (h : i < ks.length) : (ks.map Value.string)[i]? = some (.string (ksAt ks i)) := by
  simp [ksAt, List.getD, List.getElem?_eq_getElem h]
def gfC (g : Gift) : List Value := [.int .i64 (g.1 : Nat), .int .i64 (g.2.2 : Nat)]
def giC (ks : List ByteArray) (x : GiveN) : List Value := [.int .i64 (x.1 : Nat), .string (ksAt ks x.2.2.1), .string (ksAt ks x.2.1), .int .i64 (x.2.2.2 : Nat)]
structure CrowdIs (w : World) (cb bn n m : Nat) (ks : List ByteArray) (N H : Nat → Nat → Bool) (kv nv hv cv rv : Value) (gN gH : Nat → Nat) (w0 : World) : Prop where
  cr : CrB w cb kv nv hv cv rv
  key : w.ownsRow (cb + 1) 9 1 kv n (ks.map .string)
  len : ks.length = n
  nr : Mat w0 bn nv n n N gN
  bl : bn ≤ cb
  n0 : w0.heap.size ≤ cb
  nk : ∀ x, x < w0.heap.size → w.heap[x]? = w0.heap[x]?
  hs : Mat w (cb + 1) hv n m H gH
section
variable {w w' : World} {cb bn n m : Nat} {ks : List ByteArray} {N H : Nat → Nat → Bool} {kv nv hv cv rv : Value} {gN gH : Nat → Nat} {w0 : World}
theorem CrowdIs.turn (h : CrowdIs w cb bn n m ks N H kv nv hv cv rv gN gH w0) (hf : Fr (fun x => x = cb) w w') {cv' rv' : Value} (hc : CrB w' cb kv nv hv cv' rv') : CrowdIs w' cb bn n m ks N H kv nv hv cv' rv' gN gH w0 :=
  ⟨hc, hf.own h.key (fun x cur z hx hS => tag_ne hx h.cr (by decide) hS), h.len, h.nr, h.bl, h.n0, fun x hx => (hf.block x (by have := block_lt h.cr; have := h.n0; omega) (by have := h.n0; omega)).trans (h.nk x hx),
    h.hs.grown_tag h.cr (by decide) (by decide) (fun x h1 h2 => hf.block x h1 h2)⟩
theorem CrowdIs.below (h : CrowdIs w cb bn n m ks N H kv nv hv cv rv gN gH w0) (hb : Below w.heap.size w w') : CrowdIs w' cb bn n m ks N H kv nv hv cv rv gN gH w0 :=
  h.turn (Fr.of_below hb _) ((hb.block cb (block_lt h.cr)).trans h.cr)
theorem CrowdIs.matN (h : CrowdIs w cb bn n m ks N H kv nv hv cv rv gN gH w0) : Mat w bn nv n n N gN := h.nr.keep (fun x _ hx => h.nk x hx)
theorem CrowdIs.matH (h : CrowdIs w cb bn n m ks N H kv nv hv cv rv gN gH w0) : Mat w bn hv n m H gH := h.hs.base_le (by have := h.bl; omega)
/-- What is handed over turns rows of H alone. -/
theorem CrowdIs.hand (h : CrowdIs w cb bn n m ks N H kv nv hv cv rv gN gH w0) (hf : Fr (fun x => ∃ i, i < n ∧ x = gH i) w w') {H' : Nat → Nat → Bool} (hs : Mat w' (cb + 1) hv n m H' gH) : CrowdIs w' cb bn n m ks N H' kv nv hv cv rv gN gH w0 := by
  have hS : ∀ x cur t z, w.heap[x]? = some (.cells cur t z) → t ≠ 4 → ¬ ∃ i, i < n ∧ x = gH i := by
    rintro x cur t z hx ht ⟨i, hi, rfl⟩
    exact tag_ne hx (h.hs.row i hi hi) ht rfl
  refine ⟨hf.blk h.cr (hS _ _ _ _ h.cr (by decide)), hf.own h.key (fun x cur z hx => hS _ _ _ _ hx (by decide)), h.len, h.nr, h.bl, h.n0, fun x hx => ?_, hs⟩
  have := h.n0
  have hl := block_lt h.cr
  refine (hf.block x (by omega) ?_).trans (h.nk x hx)
  rintro ⟨i, hi, rfl⟩
  have := h.hs.ge i hi hi
  omega
end
/-! ### the comparing function -/
set_option maxRecDepth 100000 in
set_option maxHeartbeats 1000000 in
theorem round1_any (bx cb cg n a b : Nat) (cn : Nat → Int) (w : World) (hbx : w.cell? ⟨bx, 0, none⟩ = some (.pointer (some ⟨cb, 0, none⟩))) (h3 : w.cell? ⟨cb, 3, none⟩ = some (.slice (some ⟨cg, 0, none⟩) n n))
    (hc : ∀ j, j < n → w.cell? ⟨cg, j, none⟩ = some (.int .i64 (cn j))) (ha : a < n) (hb : b < n) (hn : n ≤ 50) :
    Calls Tryd.prog 66 #[.int .i64 a, .int .i64 b, .pointer (some ⟨bx, 0, none⟩)] w fun e w' => e = .returned (.int .i64 (Lib.compareInt (cn a) (cn b))) ∧ ∃ q, w' = w.drewN q := by
  have ca := hc a ha
  have cb' := hc b hb
  have haI : (a : Int) < (n : Int) := by omega
  have hbI : (b : Int) < (n : Int) := by omega
  clear hc
  generalize cn a = x at *
  generalize cn b = y at *
  go_enter Tryd.func66, Tryd.ntmps66
  go_wp2_with fail
  go_quiet ((go_at_call 52; exact Calls.quiet_of_same (Tryd.cmp_Compare_int x y _)))
  go_wp2_with fail
  go_ret
  exact ⟨rfl, _, rfl⟩
end Go.Proofs.YtegalkmfoffpfaaDoor
