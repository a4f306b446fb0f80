/- sync.Spread: what is had at the beginning; a crowd that is being filled. -/
import Derived.Test.YtegalkmfoffpfaaDoorCrowdMem
namespace Go.Proofs.YtegalkmfoffpfaaDoor
open Go.RowKit
/-! ### what is had -/
def hasTo (zs : List Int) (k j : Nat) : Bool := (zs.take k).any fun z => decide (z = (j : Int))
def hasM (ps : List PeerD) (i j : Nat) : Bool := (pAt ps i).2.any fun z => decide (z = (j : Int))
theorem hasTo_zero (zs : List Int) : hasTo zs 0 = fun _ => false := by funext j; simp [hasTo]
theorem hasTo_succ (zs : List Int) {k p : Nat} (h : k < zs.length) (hp : zs[k] = (p : Int)) : hasTo zs (k + 1) = setB (hasTo zs k) p := by
  funext j
  unfold hasTo setB
  rw [List.take_succ_eq_append_getElem h, List.any_append, hp]
  by_cases e : j = p
  · subst e; simp
  · rw [if_neg e]
    have : ¬ ((p : Int) = (j : Int)) := by omega
    simp [this]
theorem hasTo_all (ps : List PeerD) (i : Nat) : hasTo (pAt ps i).2 (pAt ps i).2.length = hasM ps i := by
  funext j; simp [hasTo, hasM]
/-- What is had is a piece. -/
theorem has_in {m : Int} {ps : List PeerD} (h : peersF m ps = 0) {i : Nat} (hi : i < ps.length) {k : Nat} (hk : k < (pAt ps i).2.length) : 0 ≤ (pAt ps i).2[k] ∧ (pAt ps i).2[k] < m := by
  have h0 := piF_all h hi
  unfold piF at h0
  generalize (pAt ps i).2 = zs at *
  split at h0
  · split at h0
    · omega
    · have hz : hiF m zs k = 0 := by
        by_cases e : hiF m zs k = 0
        · exact e
        · have hz : firstTo (hiF m zs) k = 0 := by
            by_cases z : firstTo (hiF m zs) k = 0
            · exact z
            · have := firstTo_le (f := hiF m zs) (n := zs.length) (by omega) z; omega
          have := firstTo_at (f := hiF m zs) hk hz e; omega
      unfold hiF at hz
      rw [zAt_eq zs hk] at hz
      split at hz
      · omega
      · rename_i ho
        unfold outsideB at ho
        simp at ho
        omega
  · omega
theorem peersF_m {m : Int} {ps : List PeerD} (h : peersF m ps = 0) : 1 ≤ m ∧ m ≤ 60 ∧ ps.length ≤ 50 := by
  unfold peersF at h
  split at h
  · omega
  · rename_i ho
    unfold outsideB at ho
    simp at ho
    split at h
    · omega
    · omega
/-! ### rows one by one -/
theorem slcs_push {k m b : Nat} (gs : Nat → Nat) : slcs k k m gs ++ [slc b m] = slcs (k + 1) (k + 1) m (fun i => if i = k then b else gs i) := by
  unfold slcs
  rw [List.range_succ, List.map_append]
  congr 1
  · refine List.map_congr_left fun i hi => ?_
    have : i < k := by simpa using hi
    have h2 : i < k + 1 := by omega
    have h3 : i ≠ k := by omega
    simp only [this, h2, h3, if_true, if_false]
  · simp
structure Fill (w1 : World) (cb m : Nat) (nv : Value) (f : Nat → Nat → Bool) (gs : Nat → Nat) (k : Nat) (c0 c2 kv hv : Value) (nk nh : Nat) (ks ss : List Value) (W : World) : Prop where
  cr : CrB W cb c0 nv c2 (.slice none 0 0) (.slice none 0 0)
  ko : W.ownsRow (cb + 1) 9 1 kv nk ks
  ho : W.ownsRow (cb + 1) 97 1 hv nh ss
  row : ∀ i, i < k → W.heap[gs i]? = some (.cells (rowC m (f i)).toArray 4 (0, 0))
  bel : Below cb w1 W
section
variable {w1 W W' : World} {cb m : Nat} {nv : Value} {f : Nat → Nat → Bool} {gs : Nat → Nat} {k : Nat} {c0 c2 kv hv : Value} {nk nh : Nat} {ks ss : List Value}
theorem Fill.lt (h : Fill w1 cb m nv f gs k c0 c2 kv hv nk nh ks ss W) : cb < W.heap.size := block_lt h.cr
theorem Fill.cells (h : Fill w1 cb m nv f gs k c0 c2 kv hv nk nh ks ss W) : W.cell? ⟨cb, 0, none⟩ = some c0 ∧ W.cell? ⟨cb, 2, none⟩ = some c2 ∧ W.frozen? ⟨cb, 0, none⟩ = false ∧ W.frozen? ⟨cb, 2, none⟩ = false ∧ cb < W.heap.size :=
  ⟨(crB_cells h.cr).1, (crB_cells h.cr).2.2.1, by simp [World.frozen?, h.cr], by simp [World.frozen?, h.cr], h.lt⟩
theorem Fill.alloc (h : Fill w1 cb m nv f gs k c0 c2 kv hv nk nh ks ss W) (o : Obj) : Fill w1 cb m nv f gs k c0 c2 kv hv nk nh ks ss (W.alloc o) :=
  ⟨(Below.heap_alloc _ _ _ h.lt).trans h.cr, h.ko.alloc o, h.ho.alloc o, fun i hi => (Below.heap_alloc _ _ _ (block_lt (h.row i hi))).trans (h.row i hi), h.bel.alloc (Nat.le_of_lt h.lt) o⟩
theorem Fill.drew (h : Fill w1 cb m nv f gs k c0 c2 kv hv nk nh ks ss W) : Fill w1 cb m nv f gs k c0 c2 kv hv nk nh ks ss W.drew := ⟨h.cr, h.ko, h.ho, h.row, below_drewN h.bel 1⟩
theorem Fill.more (h : Fill w1 cb m nv f gs k c0 c2 kv hv nk nh ks ss W) (hb : Below W.heap.size W W') {b : Nat} (hR : W'.heap[b]? = some (.cells (rowC m (f k)).toArray 4 (0, 0))) : Fill w1 cb m nv f (fun i => if i = k then b else gs i) (k + 1) c0 c2 kv hv nk nh ks ss W' := by
  refine ⟨(hb.block _ h.lt).trans h.cr, ownsRow_below h.ko hb, ownsRow_below h.ho hb, fun i hi => ?_, h.bel.trans (hb.mono (Nat.le_of_lt h.lt))⟩
  by_cases e : i = k
  · subst e; simpa using hR
  · simp only [if_neg e]
    have hr := h.row i (by omega)
    exact (hb.block _ (block_lt hr)).trans hr
theorem own_ge {w : World} {base e size n g : Nat} {v : Value} {xs : List Value} (h : w.ownsRow base e size v n xs) (hg : v.ownBlock = some g) : base ≤ g ∧ ∃ cur, w.heap[g]? = some (.cells cur e (0, 0)) := by
  rcases h.2 with ⟨rfl, _⟩ | ⟨g', cap, cur, rfl, hb, hh, _⟩
  · cases hg
  · cases hg; exact ⟨hb, cur, hh⟩
theorem Fill.push0 (h : Fill w1 cb m nv f gs k c0 c2 kv hv nk nh ks ss W) {kv' : Value} {nk' : Nat} {ks' : List Value} (hg : W.grownBy W' kv.ownBlock) (ho : W'.ownsRow (cb + 1) 9 1 kv' nk' ks') : Fill w1 cb m nv f gs k c0 c2 kv' hv nk' nh ks' ss W' := by
  have hf : Fr (fun x => kv.ownBlock = some x) W W' := Fr.of_gb hg (fun x hx => hx)
  refine ⟨hf.blk h.cr (fun hS => ?_), ho, own_other h.ho h.ko hg (by decide), fun i hi => hf.blk (h.row i hi) (fun hS => ?_), h.bel.grown hg (Nat.le_of_lt h.lt) (fun x hx => by have := (own_ge h.ko hx).1; omega)⟩
  · obtain ⟨_, c, h2⟩ := own_ge h.ko hS; exact tag_ne h.cr h2 (by decide) rfl
  · obtain ⟨_, c, h2⟩ := own_ge h.ko hS; exact tag_ne (h.row i hi) h2 (by decide) rfl
theorem Fill.push2 (h : Fill w1 cb m nv f gs k c0 c2 kv hv nk nh ks ss W) {hv' : Value} {nh' : Nat} {ss' : List Value} (hg : W.grownBy W' hv.ownBlock) (ho : W'.ownsRow (cb + 1) 97 1 hv' nh' ss') : Fill w1 cb m nv f gs k c0 c2 kv hv' nk nh' ks ss' W' := by
  have hf : Fr (fun x => hv.ownBlock = some x) W W' := Fr.of_gb hg (fun x hx => hx)
  refine ⟨hf.blk h.cr (fun hS => ?_), own_other h.ko h.ho hg (by decide), ho, fun i hi => hf.blk (h.row i hi) (fun hS => ?_), h.bel.grown hg (Nat.le_of_lt h.lt) (fun x hx => by have := (own_ge h.ho hx).1; omega)⟩
  · obtain ⟨_, c, h2⟩ := own_ge h.ho hS; exact tag_ne h.cr h2 (by decide) rfl
  · obtain ⟨_, c, h2⟩ := own_ge h.ho hS; exact tag_ne (h.row i hi) h2 (by decide) rfl
theorem Fill.set0 (h : Fill w1 cb m nv f gs k c0 c2 kv hv nk nh ks ss W) (v : Value) : Fill w1 cb m nv f gs k v c2 kv hv nk nh ks ss (W.setCell ⟨cb, 0, none⟩ v) := by
  refine ⟨?_, own_set h.ko h.cr (by decide), own_set h.ho h.cr (by decide), fun i hi => (Below.heap_setCell _ _ _ _ ?_).trans (h.row i hi), h.bel.setCell (p := ⟨cb, 0, none⟩) (Nat.le_refl _) _⟩
  · have := h.cr
    simp [CrB, World.setCell, Array.getElem?_modify, this]
  · exact fun e => tag_ne (h.row i hi) h.cr (by decide) e
theorem Fill.set2 (h : Fill w1 cb m nv f gs k c0 c2 kv hv nk nh ks ss W) (v : Value) : Fill w1 cb m nv f gs k c0 v kv hv nk nh ks ss (W.setCell ⟨cb, 2, none⟩ v) := by
  refine ⟨?_, own_set h.ko h.cr (by decide), own_set h.ho h.cr (by decide), fun i hi => (Below.heap_setCell _ _ _ _ ?_).trans (h.row i hi), h.bel.setCell (p := ⟨cb, 2, none⟩) (Nat.le_refl _) _⟩
  · have := h.cr
    simp [CrB, World.setCell, Array.getElem?_modify, this]
  · exact fun e => tag_ne (h.row i hi) h.cr (by decide) e
theorem infoStr : (Tryd.prog.info? 9).map (fun i => (i.zero, i.size, i.bytes)) = some (some (.string ⟨#[]⟩), 1, 16) := by kernel_rfl
/-- One more name, inside a region that draws. -/
theorem step_fill0 {ops : Array Oper} {o : Oper} {a : Act} {K : Act → World → Prop} {Q : Exit → Act → World → Prop} {E : Prop} (hgd : o.guard = none) (s x : Operand)
    (hop : o.op = .call { callee := .builtin .append, args := #[s, x], argTypes := #[32, 32] }) (h : Fill w1 cb m nv f gs k c0 c2 kv hv nk nh ks ss W) (hs : a.eval s = kv) (b : Nat) (key : ByteArray) (hx : a.eval x = .slice (some ⟨b, 0, none⟩) 1 1)
    (hb : W.heap[b]? = some (.cells #[.string key] 9 (0, 0))) (hn : nk ≤ 1000)
    (hK : ∀ (g cap : Nat) (W' : World), Fill w1 cb m nv f gs k c0 c2 (.slice (some ⟨g, 0, none⟩) (nk + 1) cap) hv (nk + 1) nh (ks ++ [.string key]) ss W' → (∀ (x : Nat) (cur : Array Value) (t : TypeId) (z : Nat × Nat), W.heap[x]? = some (.cells cur t z) → t ≠ 9 → W'.heap[x]? = some (.cells cur t z)) → W.heap.size ≤ W'.heap.size → K (a.put o.dst (.slice (some ⟨g, 0, none⟩) (nk + 1) cap)) W') :
    if Region.wanted o (yielded ops a.tmps) = true then Oper.wp Tryd.prog o a W K Q else E := by
  obtain ⟨i0, ii, iz0, iz1, iz2⟩ := info_parts infoStr
  refine step_append_lies _ hgd s x 32 hop (cb + 1) 9 i0 _ 1 16 Tryd.underlying32 ii iz0 iz1 iz2 rfl (by decide) kv nk ks hs h.ko ⟨b, 0, none⟩ 1 1 [.string key] hx rfl ?_ ?_ (by omega) (by unfold maxLen; omega) (by omega) h.lt _ rfl ?_
  · intro j u hj
    rcases j with _ | j
    · simp at hj; subst hj; simp [Addr.add, World.cell?, hb]
    · simp at hj
  · intro u hu; simp at hu; subst hu; rfl
  · intro g cap w' hown' hgrow _ _
    refine hK _ _ w' (h.push0 hgrow hown') (fun x cur t z hx ht => ?_) hgrow.size
    have hf : Fr (fun x => kv.ownBlock = some x) W w' := Fr.of_gb hgrow (fun x hx => hx)
    refine hf.blk hx (fun hS => ?_)
    obtain ⟨_, c, h2⟩ := own_ge h.ko hS; exact tag_ne hx h2 ht rfl
/-- One more row, inside a region that draws. -/
theorem step_fill2 {ops : Array Oper} {o : Oper} {a : Act} {K : Act → World → Prop} {Q : Exit → Act → World → Prop} {E : Prop} (hgd : o.guard = none) (s x : Operand)
    (hop : o.op = .call { callee := .builtin .append, args := #[s, x], argTypes := #[91, 91] }) (h : Fill w1 cb m nv f gs k c0 c2 kv hv nk nh ks ss W) (hs : a.eval s = hv) (b : Nat) (u : Value) (hx : a.eval x = .slice (some ⟨b, 0, none⟩) 1 1)
    (hb : W.heap[b]? = some (.cells #[u] 97 (0, 0))) (hu : u.oneCell' = true) (hn : nh ≤ 1000)
    (hK : ∀ (g cap : Nat) (W' : World), Fill w1 cb m nv f gs k c0 c2 kv (.slice (some ⟨g, 0, none⟩) (nh + 1) cap) nk (nh + 1) ks (ss ++ [u]) W' → (∀ (x : Nat) (cur : Array Value) (t : TypeId) (z : Nat × Nat), W.heap[x]? = some (.cells cur t z) → t ≠ 97 → W'.heap[x]? = some (.cells cur t z)) → W.heap.size ≤ W'.heap.size → K (a.put o.dst (.slice (some ⟨g, 0, none⟩) (nh + 1) cap)) W') :
    if Region.wanted o (yielded ops a.tmps) = true then Oper.wp Tryd.prog o a W K Q else E := by
  obtain ⟨i0, ii, iz0, iz1, iz2⟩ := info_parts infoSl
  refine step_append_lies _ hgd s x 91 hop (cb + 1) 97 i0 _ 1 24 Tryd.underlying91 ii iz0 iz1 iz2 rfl (by decide) hv nh ss hs h.ho ⟨b, 0, none⟩ 1 1 [u] hx rfl ?_ ?_ (by omega) (by unfold maxLen; omega) (by omega) h.lt _ rfl ?_
  · intro j u' hj
    rcases j with _ | j
    · simp at hj; subst hj; simp [Addr.add, World.cell?, hb]
    · simp at hj
  · intro u' hu'; simp at hu'; subst hu'; exact hu
  · intro g cap w' hown' hgrow _ _
    refine hK _ _ w' (h.push2 hgrow hown') (fun x cur t z hx ht => ?_) hgrow.size
    have hf : Fr (fun x => hv.ownBlock = some x) W w' := Fr.of_gb hgrow (fun x hx => hx)
    refine hf.blk hx (fun hS => ?_)
    obtain ⟨_, c, h2⟩ := own_ge h.ho hS; exact tag_ne hx h2 ht rfl
end
/-- What is loaded while the crowd is filled. -/
structure SpS (cb pb : Nat) (kv hv : Value) (key : ByteArray) (w : World) : Prop where
  c0 : w.cell? ⟨cb, 0, none⟩ = some kv
  c2 : w.cell? ⟨cb, 2, none⟩ = some hv
  p0 : w.cell? ⟨pb, 0, none⟩ = some (.string key)
  pb : ∃ v, w.heap[pb]? = some (.cells #[.string key, v] 85 (0, 0))
theorem SpS.alloc {cb pb : Nat} {kv hv : Value} {key : ByteArray} {w : World} (h : SpS cb pb kv hv key w) (o : Obj) : SpS cb pb kv hv key (w.alloc o) := by
  obtain ⟨v, hv⟩ := h.pb
  exact ⟨bold (bfirst w o) h.c0, bold (bfirst w o) h.c2, bold (bfirst w o) h.p0, v, (Below.heap_alloc _ _ _ (block_lt hv)).trans hv⟩
theorem SpS.grow {cb pb m k nk nh : Nat} {kv hv kv' hv' nv : Value} {key : ByteArray} {w1 w w' : World} {f : Nat → Nat → Bool} {gs : Nat → Nat} {ks ss : List Value} (h : SpS cb pb kv hv key w) (st : Fill w1 cb m nv f gs k kv hv kv' hv' nk nh ks ss w') {tt : TypeId}
    (keep : ∀ (x : Nat) (cur : Array Value) (t : TypeId) (z : Nat × Nat), w.heap[x]? = some (.cells cur t z) → t ≠ tt → w'.heap[x]? = some (.cells cur t z)) (hne : 85 ≠ tt) : SpS cb pb kv hv key w' := by
  obtain ⟨v, hv⟩ := h.pb
  have hp := keep _ _ _ _ hv hne
  exact ⟨st.cells.1, st.cells.2.1, (by simp [World.cell?, hp]), v, hp⟩
/-- Below as before, where blocks from B on alone have turned. -/
theorem Fr.below {S : Nat → Prop} {w0 w w' : World} {B : Nat} (h : Fr S w w') (hb : Below B w0 w) (hB : B ≤ w.heap.size) (hS : ∀ x, S x → B ≤ x) : Below B w0 w' :=
  ⟨h.os.trans hb.os, h.tape.trans hb.tape, h.output.trans hb.output, Nat.le_trans hb.size h.size, fun x hx => (h.block x (by omega) (fun e => by have := hS x e; omega)).trans (hb.block x hx)⟩
/-- A crowd stays where a row of gifts grows. -/
theorem CrowdIs.grow {w w' : World} {cb bn n m base c : Nat} {ks : List ByteArray} {N H : Nat → Nat → Bool} {kv nv hv cv rv v : Value} {gN gH : Nat → Nat} {w0 : World} {xs : List Value} (h : CrowdIs w cb bn n m ks N H kv nv hv cv rv gN gH w0)
    (ho : w.ownsRow (cb + 1) 61 4 v c xs) (hg : w.grownBy w' v.ownBlock) (_hb : base = cb) : CrowdIs w' cb bn n m ks N H kv nv hv cv rv gN gH w0 := by
  have hf : Fr (fun x => v.ownBlock = some x) w w' := Fr.of_gb hg (fun x hx => hx)
  have hS : ∀ x cur t z, w.heap[x]? = some (.cells cur t z) → t ≠ 61 → ¬ v.ownBlock = some x := fun x cur t z hx ht hS => by
    obtain ⟨_, c, h2⟩ := own_ge ho hS; exact tag_ne hx h2 ht rfl
  refine ⟨hf.blk h.cr (hS _ _ _ _ h.cr (by decide)), hf.own h.key (fun x cur z hx => hS _ _ _ _ hx (by decide)), h.len, h.nr, h.bl, h.n0, fun x hx => ?_, ?_⟩
  · have hl := block_lt h.cr
    have := h.n0
    exact (hf.block x (by omega) (fun e => by have := (own_ge ho e).1; omega)).trans (h.nk x hx)
  · exact ⟨hf.own h.hs.own (fun x cur z hx => hS _ _ _ _ hx (by decide)), fun i h1 h2 => hf.blk (h.hs.row i h1 h2) (hS _ _ _ _ (h.hs.row i h1 h2) (by decide)), h.hs.ge, h.hs.inj⟩
end Go.Proofs.YtegalkmfoffpfaaDoor
