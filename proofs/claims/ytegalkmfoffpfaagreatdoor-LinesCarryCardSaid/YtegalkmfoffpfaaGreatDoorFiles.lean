/- Files as a list: what the two ways of checking files answer. -/
import Derived.Test.YtegalkmfoffpfaaGreatDoorSums
import Derived.Test.YtegalkmfoffpfaaGreatDoorSmall
import Derived.Test.YtegalkmfoffpfaaGreatDoorFlat
import Derived.Test.YtegalkmfoffpfaaGreatDoorGenMan
import Derived.Deep.LoopGhost
import Derived.Deep.DeepCutAuto
import Derived.Maps.Own
import Derived.Maps.OwnOps
import Derived.Maps.OwnSet
namespace Go.Proofs.YtegalkmfoffpfaaGreatDoor
open Go.RowKit Go.Maps Go.WideMaps

abbrev ChunkD := ByteArray × Int
abbrev FileD := ByteArray × List ChunkD

theorem flat2_len {α : Type} (cs : List α) (f : α → List Value) (hf : ∀ c, (f c).length = 2) : (cs.flatMap f).length = cs.length * 2 := by
  induction cs with
  | nil => rfl
  | cons p ps ih => rw [List.flatMap_cons, List.length_append, ih, hf, List.length_cons]; omega
/-- The slice v holds the files fs. -/
def FilesAt (w : World) (lo : Nat) (v : Value) (fs : List FileD) : Prop :=
  ∃ ps : List (ByteArray × Value), Lst w lo 2 v (ps.flatMap fiC) ∧ ps.length = fs.length ∧ ∀ i (h : i < fs.length), ∃ u, ps[i]? = some (fs[i].1, u) ∧ Lst w lo 2 u (fs[i].2.flatMap chC)
theorem FilesAt.keep {w w' : World} {lo : Nat} {v : Value} {fs : List FileD} (h : FilesAt w lo v fs) (hs : w.heap.size ≤ w'.heap.size)
    (hk : ∀ k, lo ≤ k → k < w.heap.size → w'.heap[k]? = w.heap[k]?) : FilesAt w' lo v fs :=
  let ⟨ps, h1, h2, h3⟩ := h; ⟨ps, h1.keep hs hk, h2, fun i hi => let ⟨u, a, b⟩ := h3 i hi; ⟨u, a, b.keep hs hk⟩⟩
theorem FilesAt.below {w w' : World} {lo : Nat} {v : Value} {fs : List FileD} (h : FilesAt w lo v fs) (hb : Below w.heap.size w w') : FilesAt w' lo v fs :=
  h.keep hb.size fun k _ hk => hb.block k hk
theorem FilesAt.grown {w w' : World} {lo b : Nat} {v : Value} {fs : List FileD} (h : FilesAt w lo v fs) (hg : w.grownBy w' (some b)) (hb : b < lo) : FilesAt w' lo v fs :=
  h.keep hg.size fun k hk hlt => hg.block k hlt (fun e => by injection e with e; omega)
theorem FilesAt.mono {w : World} {lo lo' : Nat} {v : Value} {fs : List FileD} (h : FilesAt w lo v fs) (hl : lo' ≤ lo) : FilesAt w lo' v fs :=
  let ⟨ps, h1, h2, h3⟩ := h; ⟨ps, h1.mono hl, h2, fun i hi => let ⟨u, a, b⟩ := h3 i hi; ⟨u, a, b.mono hl⟩⟩
theorem FilesAt.form {w : World} {lo : Nat} {v : Value} {fs : List FileD} (h : FilesAt w lo v fs) : ∃ A c, v = .slice A fs.length c := by
  obtain ⟨ps, h1, h2, _⟩ := h
  obtain ⟨A, n, c, rfl, _, _, hx⟩ := h1.form
  have := flat2_len ps fiC (fun _ => rfl)
  exact ⟨A, c, by rw [show n = fs.length by omega]⟩
/-- What file i's cells hold. -/
theorem FilesAt.at_ {w : World} {lo n c : Nat} {A : Option Addr} {fs : List FileD} (h : FilesAt w lo (.slice A n c) fs) {i : Nat} (hi : i < fs.length) :
    ∃ g o B m d, A = some ⟨g, o, none⟩ ∧ g < w.heap.size ∧ w.cell? ⟨g, o + i * 2, none⟩ = some (.string fs[i].1) ∧ w.cell? ⟨g, o + i * 2 + 1, none⟩ = some (.slice B m d) ∧ m = fs[i].2.length ∧ Lst w lo 2 (.slice B m d) (fs[i].2.flatMap chC) := by
  have hf := h.form
  obtain ⟨A', c', e⟩ := hf
  simp only [Value.slice.injEq] at e
  obtain ⟨rfl, rfl, rfl⟩ := e
  obtain ⟨ps, h1, h2, h3⟩ := h
  obtain ⟨u, hu, hl⟩ := h3 i hi
  obtain ⟨g, o, rfl, _, hg, hc⟩ := h1.open_ (by omega)
  have hip : i < ps.length := by omega
  have hpi : ps[i] = (fs[i].1, u) := by rw [List.getElem?_eq_getElem hip] at hu; simpa using hu
  have a0 := hc (i * 2 + 0) (.string fs[i].1) (by rw [flat2_at _ _ (fun _ => rfl) i 0 hip (by omega), hpi]; rfl)
  have a1 := hc (i * 2 + 1) u (by rw [flat2_at _ _ (fun _ => rfl) i 1 hip (by omega), hpi]; rfl)
  obtain ⟨B, m, d, rfl, _, _, hx⟩ := hl.form
  have := flat2_len fs[i].2 chC (fun _ => rfl)
  exact ⟨g, o, B, m, d, rfl, hg, by simpa using a0, by rw [Nat.add_assoc]; exact a1, by omega, hl⟩
/-- What chunk j's cells hold. -/
theorem Lst.chunk {w : World} {lo n c : Nat} {A : Option Addr} {cs : List ChunkD} (h : Lst w lo 2 (.slice A n c) (cs.flatMap chC)) {j : Nat} (hj : j < cs.length) (hn : n = cs.length) :
    ∃ g o, A = some ⟨g, o, none⟩ ∧ g < w.heap.size ∧ w.cell? ⟨g, o + j * 2, none⟩ = some (.string cs[j].1) ∧ w.cell? ⟨g, o + j * 2 + 1, none⟩ = some (.int .i64 cs[j].2) := by
  obtain ⟨g, o, rfl, _, hg, hc⟩ := h.open_ (by omega)
  have a0 := hc (j * 2 + 0) (.string cs[j].1) (by rw [flat2_at _ _ (fun _ => rfl) j 0 hj (by omega)]; rfl)
  have a1 := hc (j * 2 + 1) (.int .i64 cs[j].2) (by rw [flat2_at _ _ (fun _ => rfl) j 1 hj (by omega)]; rfl)
  exact ⟨g, o, rfl, hg, by simpa using a0, by rw [Nat.add_assoc]; exact a1⟩

/-! ### The specification -/
/-- The first number that is not 0 among f 0 .. f (n - 1); else 0. -/
def firstTo (f : Nat → Int) : Nat → Int
  | 0 => 0
  | k + 1 => if firstTo f k = 0 then f k else firstTo f k
theorem firstTo_le {f : Nat → Int} {k n : Nat} (h : k ≤ n) (h0 : firstTo f k ≠ 0) : firstTo f n = firstTo f k := by
  induction n with
  | zero => rw [show k = 0 by omega]
  | succ n ih =>
    by_cases e : k = n + 1
    · rw [e]
    · have := ih (by omega)
      rw [firstTo, this, if_neg h0]
theorem firstTo_at {f : Nat → Int} {k n : Nat} (h : k < n) (h0 : firstTo f k = 0) (hf : f k ≠ 0) : firstTo f n = f k := by
  have e : firstTo f (k + 1) = f k := by rw [firstTo, if_pos h0]
  rw [firstTo_le (k := k + 1) h (by rw [e]; exact hf), e]
theorem firstTo_succ {f : Nat → Int} {k : Nat} (h0 : firstTo f k = 0) (hf : f k = 0) : firstTo f (k + 1) = 0 := by rw [firstTo, if_pos h0, hf]

def chF (c : ChunkD) : Int := if sumB c.1 then (if outsideB c.2 1 1000000000000 then 1 else 0) else 3
def chsF (cs : List ChunkD) : Nat → Int := fun j => chF (cs.getD j (⟨#[]⟩, 0))
def keyLe (a b : ByteArray) : Bool := Op.bytesLess a.toList b.toList || a.toList == b.toList
def fAt (fs : List FileD) (i : Nat) : FileD := fs.getD i (⟨#[]⟩, [])
def fiF (fs : List FileD) (i : Nat) : Int :=
  if keyB (fAt fs i).1 then (if decide (0 < i) && keyLe (fAt fs i).1 (fAt fs (i - 1)).1 then 7 else if (fAt fs i).2.length = 0 then 8 else firstTo (chsF (fAt fs i).2) (fAt fs i).2.length) else 5
def litS (s : ByteArray) : Lit := .string s.data.toList
def i64D (z : Int) : DataW Unit := .lit (.int .i64 z)
def dInt : DataW Unit → Int
  | .lit (.int _ a) => a
  | _ => 0
def mStep (D : Option (DataW Unit)) (c : ChunkD) : Option (DataW Unit) :=
  match D with
  | none => none
  | some D => if Maps.has D (litS c.1) && (dInt (D.atKey (litS c.1) (i64D 0)) != c.2) then none else some (D.put (litS c.1) (i64D c.2))
def mAll (cs : List ChunkD) : Option (DataW Unit) := cs.foldl mStep (some (.map []))
theorem mStep_none : ∀ cs : List ChunkD, cs.foldl mStep none = none
  | [] => rfl
  | c :: cs => by rw [List.foldl_cons]; exact mStep_none cs
def chunksTo (fs : List FileD) (k : Nat) : List ChunkD := (fs.take k).flatMap (·.2)
theorem chunksTo_succ (fs : List FileD) (k : Nat) (h : k < fs.length) : chunksTo fs (k + 1) = chunksTo fs k ++ fs[k].2 := by
  unfold chunksTo
  rw [List.take_succ_eq_append_getElem h, List.flatMap_append, List.flatMap_cons, List.flatMap_nil, List.append_nil]
theorem mAll_stop {a b c : List ChunkD} (h : mAll a = none) (e : c = a ++ b) : mAll c = none := by
  rw [e, mAll, List.foldl_append]
  unfold mAll at h
  rw [h]; exact mStep_none b
/-- Where a chunk speaks against an elder one, no map comes of it. -/
theorem mAll_no (fs : List FileD) {k j : Nat} (hk : k < fs.length) (hj : j < fs[k].2.length) {D : DataW Unit} (h : mAll (chunksTo fs k ++ fs[k].2.take j) = some D) (h1 : mStep (some D) fs[k].2[j] = none) : mAll (chunksTo fs fs.length) = none := by
  have e1 : mAll (chunksTo fs k ++ fs[k].2.take (j + 1)) = none := by
    rw [List.take_succ_eq_append_getElem hj, ← List.append_assoc, mAll, List.foldl_append]
    unfold mAll at h
    rw [h]; simpa using h1
  refine mAll_stop e1 (b := fs[k].2.drop (j + 1) ++ (fs.drop (k + 1)).flatMap (·.2)) ?_
  unfold chunksTo
  rw [List.take_length]
  have e2 : fs.flatMap (·.2) = (fs.take k ++ (fs[k] :: fs.drop (k + 1))).flatMap (·.2) := by rw [← List.drop_eq_getElem_cons hk, List.take_append_drop]
  have e3 : fs[k].2 = fs[k].2.take (j + 1) ++ fs[k].2.drop (j + 1) := (List.take_append_drop _ _).symm
  rw [e2, List.flatMap_append, List.flatMap_cons]
  generalize fs[k].2.take (j + 1) = a at *
  generalize fs[k].2.drop (j + 1) = b at *
  rw [e3]
  simp only [List.append_assoc]
theorem mAll_snoc (fs : List FileD) {k j : Nat} (hk : k < fs.length) (hj : j < fs[k].2.length) {D D' : DataW Unit} (h : mAll (chunksTo fs k ++ fs[k].2.take j) = some D) (h1 : mStep (some D) fs[k].2[j] = some D') : mAll (chunksTo fs k ++ fs[k].2.take (j + 1)) = some D' := by
  rw [List.take_succ_eq_append_getElem hj, ← List.append_assoc, mAll, List.foldl_append]
  unfold mAll at h
  rw [h]; simpa using h1
def sizeF (n : Int) : Int := if 2000 < n then 2 else 0
def mapF : Option (DataW Unit) → Int
  | none => 13
  | some D => sizeF (Maps.size D)
/-- What is wrong with files. -/
def filesF (fs : List FileD) : Int :=
  if 300 < fs.length then 2 else if firstTo (fiF fs) fs.length = 0 then mapF (mAll (chunksTo fs fs.length)) else firstTo (fiF fs) fs.length
theorem wf64 {z : Int} (h0 : -9223372036854775808 ≤ z) (h1 : z ≤ 9223372036854775807) : (Lit.int .i64 z).wf = true := by
  have a : IntKind.i64.min = -9223372036854775808 := by decide
  have b : IntKind.i64.max = 9223372036854775807 := by decide
  simp [Lit.wf, a, b, h0, h1]
/-- Files of a size that nothing overflows. -/
def FilesOk (fs : List FileD) : Prop := (∀ f ∈ fs, f.1.size ≤ 1000000000000 ∧ f.2.length ≤ 1000000000 ∧ ∀ c ∈ f.2, c.1.size ≤ 1000000000000 ∧ -1000000000000000 ≤ c.2 ∧ c.2 ≤ 1000000000000000)
set_option maxRecDepth 100000 in
theorem chunksTo_len (fs : List FileD) (h : FilesOk fs) : ∀ k, (chunksTo fs k).length ≤ k * 1000000000 := by
  intro k
  induction k with
  | zero => simp [chunksTo]
  | succ k ih =>
    by_cases hk : k < fs.length
    · have := (h _ (List.getElem_mem hk)).2.1
      rw [chunksTo_succ fs k hk, List.length_append]
      omega
    · have e : chunksTo fs (k + 1) = chunksTo fs k := by
        unfold chunksTo
        rw [List.take_of_length_le (l := fs) (i := k + 1) (by omega), List.take_of_length_le (l := fs) (i := k) (by omega)]
      rw [e]
      exact Nat.le_trans ih (Nat.mul_le_mul_right _ (Nat.le_succ k))
/-- From the made files. -/
theorem filesAt_made {w : World} {base lo n : Nat} {v : Value} (h : FiWf w base lo v n) : ∃ fs : List FileD, fs.length = n ∧ FilesOk fs ∧ FilesAt w base v fs := by
  obtain ⟨ps, h1, h2, h3⟩ := h
  have hc : ∀ p : {p // p ∈ ps}, ∃ cs : List ChunkD, cs.length ≤ 3 ∧ (∀ c ∈ cs, okCh c) ∧ Lst w base 2 p.1.2 (cs.flatMap chC) := fun p => let ⟨cs, _, b, c, d⟩ := (h3 p.1 p.2).2; ⟨cs, b, c, .of_own d⟩
  let F : {p // p ∈ ps} → FileD := fun p => (p.1.1, (hc p).choose)
  refine ⟨ps.attach.map F, by simpa using h1, ?_, ps, .of_own h2, by simp, ?_⟩
  · intro f hf
    obtain ⟨p, hp, rfl⟩ := List.mem_map.1 hf
    have hs := (hc p).choose_spec
    refine ⟨by have := (h3 p.1 p.2).1; show p.1.1.size ≤ _; omega, by have := hs.1; show (hc p).choose.length ≤ _; omega, fun c hcc => ?_⟩
    have := hs.2.1 c hcc
    unfold okCh at this
    exact ⟨by omega, by omega, by omega⟩
  · intro i hi
    have hip : i < ps.length := by simpa using hi
    refine ⟨ps[i].2, ?_, ?_⟩
    · simp [F, List.getElem?_eq_getElem hip]
    · simp only [List.getElem_map, List.getElem_attach]
      exact (hc ⟨ps[i], List.getElem_mem hip⟩).choose_spec.2.2
end Go.Proofs.YtegalkmfoffpfaaGreatDoor
