/- The abstract state, and when a machine's state is told by it. -/
import Derived.Test.YtpnfkfbapfnboaaGreatDoorAv
import Derived.MapKept
namespace Go.Proofs.YtpnfkfbapfnboaaGreatDoor
open Go
set_option linter.unusedVariables false
set_option linter.unusedSimpArgs false

inductive AO where
  | cells (cs : List AV)
  | map (es : List (ByteArray × AV))
  | obj (E : TypeId) (cs : List AV)
  | mapS (es : List (ByteArray × AV)) (born : List Nat) (clock : Nat)
  | iter (m since : Nat) (seen : Array Nat) (c0 : Nat)
inductive TO where
  | tail (m : Nat)
  | cont (z : Nat) (xs : List (List AV))
  | buf (E : TypeId) (xs : List (List AV))
  | glb (tb : Nat → Nat → Option Value)
structure Hp where
  H : Nat → Option AO
  T : Nat → Option TO
def upd {α : Type} (f : Nat → Option α) (i : Nat) (x : Option α) : Nat → Option α := fun j => if j = i then x else f j
theorem upd_same {α : Type} (f : Nat → Option α) (i : Nat) (x : Option α) : upd f i x i = x := by simp [upd]
theorem upd_other {α : Type} (f : Nat → Option α) {i j : Nat} (x : Option α) (h : j ≠ i) : upd f i x j = f j := by simp [upd, h]

def ORep (G : Gh) : AO → Obj → Prop
  | .cells cs, o => ∃ vs E, o = .cells vs E (0, 0) ∧ RepL G cs (vs.toList.take cs.length)
  | .map es, o => ∃ ents clock, o = .map ents clock ∧ Go.MapKept.Stamped ents clock ∧ ents.size = es.length ∧ ∀ j (h : j < es.length) (h' : j < ents.size), ents[j].key = .string es[j].1 ∧ Rep G es[j].2 ents[j].val
  | .obj E cs, o => ∃ vs, o = .cells vs E (0, 0) ∧ RepL G cs vs.toList
  | .mapS es born clock, o => ∃ ents, o = .map ents clock ∧ Go.MapKept.Stamped ents clock ∧ ents.toList.map (·.born) = born ∧ ents.size = es.length ∧ ∀ j (h : j < es.length) (h' : j < ents.size), ents[j].key = .string es[j].1 ∧ Rep G es[j].2 ents[j].val
  | .iter m since seen c0, o => ∃ b, o = .mapIter (some b) since seen c0 ∧ G.at_ m = some b
theorem ORep.mono {G G' : Gh} (hG : GLe G G') {a : AO} {o : Obj} (h : ORep G a o) : ORep G' a o := by
  cases a with
  | cells cs => obtain ⟨vs, E, e, r⟩ := h; exact ⟨vs, E, e, r.mono hG⟩
  | map es => obtain ⟨en, c, e, t, r, s⟩ := h; exact ⟨en, c, e, t, r, fun j a b => ⟨(s j a b).1, (s j a b).2.mono hG⟩⟩
  | obj E cs => obtain ⟨vs, e, r⟩ := h; exact ⟨vs, e, r.mono hG⟩
  | mapS es born clock => obtain ⟨en, e, t, q, r, s⟩ := h; exact ⟨en, e, t, q, r, fun j a b => ⟨(s j a b).1, (s j a b).2.mono hG⟩⟩
  | iter m since seen c0 => obtain ⟨b, e, r⟩ := h; exact ⟨b, e, hG.at_ m b r⟩

def TRep (G : Gh) (w : World) (k : Nat) : TO → Prop
  | .tail m => (G.tl k = some none ∧ m = 0) ∨ ∃ t vs E, G.tl k = some (some t) ∧ t.m = m ∧ 0 < m ∧ w.heap[t.g]? = some (.cells vs E (0, 0)) ∧ vs.size = t.c * t.z ∧ m ≤ t.c ∧ t.c ≤ maxLen ∧ ∀ o, m * t.z ≤ o → G.val t.g o = none
  | .cont z xs => (G.tl k = some none ∧ xs = []) ∨ ∃ t vs E, G.tl k = some (some t) ∧ t.m = xs.length ∧ 0 < t.c ∧ w.heap[t.g]? = some (.cells vs E (0, 0)) ∧ vs.size = t.c * t.z ∧ t.m ≤ t.c ∧ t.c ≤ maxLen ∧ (∀ o, G.val t.g o = none) ∧ t.z = z ∧ (∀ x ∈ xs, x.length = z) ∧ RepL G xs.flatten (vs.toList.take xs.flatten.length)
  | .buf E xs => (G.tl k = some none ∧ xs = []) ∨ ∃ t vs, G.tl k = some (some t) ∧ t.m = xs.length ∧ 0 < t.c ∧ w.heap[t.g]? = some (.cells vs E (0, 0)) ∧ vs.size = t.c * t.z ∧ t.m ≤ t.c ∧ t.c ≤ maxLen ∧ (∀ o, G.val t.g o = none) ∧ t.z = 1 ∧ (∀ x ∈ xs, x.length = 1) ∧ RepL G xs.flatten (vs.toList.take xs.flatten.length)
  | .glb tb => G.tl k = some none ∧ ∀ b o v, tb b o = some v → G.val b o = some v
theorem TRep.tl {G : Gh} {w : World} {k : Nat} {o : TO} (h : TRep G w k o) : G.tl k ≠ none := by
  cases o with
  | tail m => rcases h with ⟨e, _⟩ | ⟨t, _, _, e, _⟩ <;> rw [e] <;> simp
  | cont z xs => rcases h with ⟨e, _⟩ | ⟨t, _, _, e, _⟩ <;> rw [e] <;> simp
  | buf E xs => rcases h with ⟨e, _⟩ | ⟨t, _, e, _⟩ <;> rw [e] <;> simp
  | glb tb => rw [h.1]; simp
theorem TRep.blk {G : Gh} {w : World} {k : Nat} {o : TO} (h : TRep G w k o) {t : Tail} (e : G.tl k = some (some t)) : ∃ vs E, w.heap[t.g]? = some (.cells vs E (0, 0)) := by
  cases o with
  | tail m => rcases h with ⟨e', _⟩ | ⟨t', vs, E, e', _, _, hb, _⟩ <;> rw [e] at e' <;> cases e'; exact ⟨vs, E, hb⟩
  | cont z xs => rcases h with ⟨e', _⟩ | ⟨t', vs, E, e', _, _, hb, _⟩ <;> rw [e] at e' <;> cases e'; exact ⟨vs, E, hb⟩
  | buf E xs => rcases h with ⟨e', _⟩ | ⟨t', vs, e', _, _, hb, _⟩ <;> rw [e] at e' <;> cases e'; exact ⟨vs, E, hb⟩
  | glb tb => have := h.1; rw [e] at this; cases this
theorem TRep.move {G G' : Gh} {w w' : World} {k : Nat} {o : TO} (h : TRep G w k o) (hle : GLe G G') (htl : G'.tl k = G.tl k) (hb : ∀ t, G.tl k = some (some t) → w'.heap[t.g]? = w.heap[t.g]? ∧ ∀ o, G'.val t.g o = G.val t.g o) : TRep G' w' k o := by
  cases o with
  | tail m =>
    rcases h with ⟨e, h0⟩ | ⟨t, vs, E, e, a, b, c, d, f, g, i⟩
    · exact .inl ⟨by rw [htl]; exact e, h0⟩
    · exact .inr ⟨t, vs, E, by rw [htl]; exact e, a, b, by rw [(hb t e).1]; exact c, d, f, g, fun o ho => by rw [(hb t e).2]; exact i o ho⟩
  | cont z xs =>
    rcases h with ⟨e, h0⟩ | ⟨t, vs, E, e, a, b, c, d, f, g, i, j, l, r⟩
    · exact .inl ⟨by rw [htl]; exact e, h0⟩
    · exact .inr ⟨t, vs, E, by rw [htl]; exact e, a, b, by rw [(hb t e).1]; exact c, d, f, g, fun o => by rw [(hb t e).2]; exact i o, j, l, r.mono hle⟩
  | buf E0 xs =>
    rcases h with ⟨e, h0⟩ | ⟨t, vs, e, a, b, c, d, f, g, i, j, l, r⟩
    · exact .inl ⟨by rw [htl]; exact e, h0⟩
    · exact .inr ⟨t, vs, by rw [htl]; exact e, a, b, by rw [(hb t e).1]; exact c, d, f, g, fun o => by rw [(hb t e).2]; exact i o, j, l, r.mono hle⟩
  | glb tb => exact ⟨by rw [htl]; exact h.1, fun b o v e => hle.val b o v (h.2 b o v e)⟩
def Own (G : Gh) (h : Hp) (b : Nat) : Prop :=
  (∃ i, h.H i ≠ none ∧ G.at_ i = some b) ∨ (∃ k t, h.T k ≠ none ∧ G.tl k = some (some t) ∧ t.g = b)

def isB8 : Value → Bool
  | .int .u8 _ => true
  | _ => false
def cellT (w : World) (g o : Nat) : Option Value := if w.frozen? ⟨g, o, none⟩ && !(w.cell? ⟨g, o, none⟩).any isB8 then none else w.cell? ⟨g, o, none⟩
theorem cellT_cell {w : World} {g o : Nat} {x : Value} (h : cellT w g o = some x) : w.cell? ⟨g, o, none⟩ = some x := by
  unfold cellT at h
  split at h
  · cases h
  · exact h
theorem cellT_open {w : World} {g o : Nat} {x : Value} (h : cellT w g o = some x) (hb : isB8 x = false) : w.frozen? ⟨g, o, none⟩ = false := by
  have hc := cellT_cell h
  unfold cellT at h
  rw [hc] at h
  simp only [Option.any_some, hb, Bool.not_false, Bool.and_true] at h
  split at h
  · cases h
  · rename_i h1; simpa using h1
theorem cellT_mk {w : World} {g o : Nat} {x : Value} (h : w.cell? ⟨g, o, none⟩ = some x) (hf : isB8 x = true ∨ w.frozen? ⟨g, o, none⟩ = false) : cellT w g o = some x := by
  unfold cellT
  rw [h]
  rcases hf with hf | hf <;> simp [hf]
theorem cellT_at {w w' : World} {g : Nat} (hb : w'.heap[g]? = w.heap[g]?) (o : Nat) : cellT w' g o = cellT w g o := by
  simp only [cellT, World.frozen?, World.cell?, hb]
theorem cellT_of {w : World} {g : Nat} {cs : Array Value} {E : TypeId} (hh : w.heap[g]? = some (.cells cs E (0, 0))) (o : Nat) : cellT w g o = cs[o]? := by
  simp [cellT, World.frozen?, World.cell?, hh]
structure HSim (G : Gh) (h : Hp) (w : World) : Prop where
  val : ∀ g o x, G.val g o = some x → cellT w g o = some x
  obj : ∀ i ob, h.H i = some ob → ∃ b o, G.at_ i = some b ∧ w.heap[b]? = some o ∧ ORep G ob o ∧ ∀ o, G.val b o = none
  inj : ∀ i j b, h.H i ≠ none → h.H j ≠ none → G.at_ i = some b → G.at_ j = some b → i = j
  tok : ∀ k m, h.T k = some m → TRep G w k m
  tinj : ∀ k l s t, h.T k ≠ none → h.T l ≠ none → G.tl k = some (some s) → G.tl l = some (some t) → s.g = t.g → k = l
  tobj : ∀ k i t, h.T k ≠ none → h.H i ≠ none → G.tl k = some (some t) → G.at_ i ≠ some t.g
  fat : ∀ i, G.nx ≤ i → G.at_ i = none
  ftl : ∀ k, G.nx ≤ k → G.tl k = none

theorem HSim.cell {G : Gh} {h : Hp} {w : World} (s : HSim G h w) (g o : Nat) (x : Value) (e : G.val g o = some x) : w.cell? ⟨g, o, none⟩ = some x := cellT_cell (s.val g o x e)
structure Fr (G : Gh) (h : Hp) (w : World) (G' : Gh) (h' : Hp) (w' : World) : Prop where
  os : w'.os = w.os
  tape : w'.tape = w.tape
  output : w'.output = w.output
  size : w.heap.size ≤ w'.heap.size
  keep : ∀ b, b < w.heap.size → ¬ Own G h b → w'.heap[b]? = w.heap[b]? ∧ ¬ Own G' h' b ∧ ∀ o, G'.val b o = G.val b o
theorem Fr.refl (G : Gh) (h : Hp) (w : World) : Fr G h w G h w := ⟨rfl, rfl, rfl, Nat.le_refl _, fun _ _ hn => ⟨rfl, hn, fun _ => rfl⟩⟩
theorem Fr.trans {G0 h0 w0 G1 h1 w1 G2 h2 w2} (a : Fr G0 h0 w0 G1 h1 w1) (b : Fr G1 h1 w1 G2 h2 w2) : Fr G0 h0 w0 G2 h2 w2 :=
  ⟨b.os.trans a.os, b.tape.trans a.tape, b.output.trans a.output, Nat.le_trans a.size b.size, fun c hc hn =>
    let ⟨x, y, z⟩ := a.keep c hc hn
    let ⟨x', y', z'⟩ := b.keep c (Nat.lt_of_lt_of_le hc a.size) y
    ⟨x'.trans x, y', fun o => (z' o).trans (z o)⟩⟩

structure Hp.le (h' h : Hp) : Prop where
  H : ∀ i, h'.H i = none ∨ h'.H i = h.H i
  T : ∀ k, h'.T k = none ∨ h'.T k = h.T k
theorem Hp.le.refl (h : Hp) : Hp.le h h := ⟨fun _ => .inr rfl, fun _ => .inr rfl⟩
theorem Hp.le.Hne {h' h : Hp} (l : Hp.le h' h) {i : Nat} (n : h'.H i ≠ none) : h.H i ≠ none := by rcases l.H i with e | e; exact absurd e n; rw [← e]; exact n
theorem Hp.le.Tne {h' h : Hp} (l : Hp.le h' h) {i : Nat} (n : h'.T i ≠ none) : h.T i ≠ none := by rcases l.T i with e | e; exact absurd e n; rw [← e]; exact n
theorem Hp.le.own {h' h : Hp} (l : Hp.le h' h) {G : Gh} {b : Nat} (o : Own G h' b) : Own G h b := by
  rcases o with ⟨i, a, c⟩ | ⟨k, t, a, c⟩
  · exact .inl ⟨i, l.Hne a, c⟩
  · exact .inr ⟨k, t, l.Tne a, c⟩
theorem HSim.less {G : Gh} {h h' : Hp} {w : World} (s : HSim G h w) (l : Hp.le h' h) : HSim G h' w where
  val := s.val
  obj i ob e := s.obj i ob (by rcases l.H i with e' | e'; rw [e'] at e; cases e; rw [← e']; exact e)
  inj i j b hi hj := s.inj i j b (l.Hne hi) (l.Hne hj)
  tok k m e := s.tok k m (by rcases l.T k with e' | e'; rw [e'] at e; cases e; rw [← e']; exact e)
  tinj k j a b hk hl := s.tinj k j a b (l.Tne hk) (l.Tne hl)
  tobj k i t hk hi := s.tobj k i t (l.Tne hk) (l.Hne hi)
  fat := s.fat
  ftl := s.ftl
theorem Fr.less {G h w G' h' h'' w'} (f : Fr G h w G' h' w') (l : Hp.le h'' h') : Fr G h w G' h'' w' :=
  ⟨f.os, f.tape, f.output, f.size, fun b hb hn => let ⟨x, y, z⟩ := f.keep b hb hn; ⟨x, fun o => y (l.own o), z⟩⟩

structure St where
  sl : List AV
  lo : List (List AV)
  h : Hp

def RepT0 (G : Gh) (L : List Nat) (a : AV) (x : Value) : Prop :=
  match a with
  | .loc j o => ∃ b, L[j]? = some b ∧ x = .pointer (some ⟨b, o, none⟩)
  | a => Rep G a x
def RepT (G : Gh) (L : List Nat) (a : AV) (x : Value) : Prop :=
  match a with
  | .opt b a => (b = true → RepT0 G L a x) ∧ (b = false → x = undef)
  | .loc j o => ∃ b, L[j]? = some b ∧ x = .pointer (some ⟨b, o, none⟩)
  | a => Rep G a x
theorem RepT0.mono {G G' : Gh} (hG : GLe G G') {L : List Nat} {a : AV} {x : Value} (h : RepT0 G L a x) : RepT0 G' L a x := by
  cases a <;> first | exact h | exact Rep.mono hG h
theorem RepT.mono {G G' : Gh} (hG : GLe G G') {L : List Nat} {a : AV} {x : Value} (h : RepT G L a x) : RepT G' L a x := by
  cases a <;> first | exact h | exact Rep.mono hG h | exact ⟨fun e => (h.1 e).mono hG, h.2⟩
theorem RepT.of {G : Gh} {L : List Nat} {a : AV} {x : Value} (h : Rep G a x) : RepT G L a x := by
  cases a <;> first | exact h | cases h
theorem RepT.junk {G : Gh} {L : List Nat} (x : Value) : RepT G L .junk x := Rep.junk x
theorem RepT0.more {G : Gh} {L L' : List Nat} {a : AV} {x : Value} (h : RepT0 G L a x) (hl : ∀ (j b : Nat), L[j]? = some b → L'[j]? = some b) : RepT0 G L' a x := by
  cases a <;> first | exact h | (obtain ⟨b, e, r⟩ := h; exact ⟨b, hl _ _ e, r⟩)
theorem RepT.more {G : Gh} {L L' : List Nat} {a : AV} {x : Value} (h : RepT G L a x) (hl : ∀ (j b : Nat), L[j]? = some b → L'[j]? = some b) : RepT G L' a x := by
  cases a <;> first | exact h | (obtain ⟨b, e, r⟩ := h; exact ⟨b, hl _ _ e, r⟩) | exact ⟨fun e => (h.1 e).more hl, h.2⟩
def unw : AV → AV
  | .opt _ a => a
  | a => a
def uside : AV → Prop
  | .opt b _ => b = true
  | _ => True
theorem RepT0.of {G : Gh} {L : List Nat} {a : AV} {x : Value} (h : RepT0 G L a x) : RepT G L a x := by
  cases a <;> first | exact h | cases h
theorem RepT.unw {G : Gh} {L : List Nat} {a : AV} {x : Value} (h : RepT G L a x) (hu : uside a) : RepT G L (unw a) x := by
  cases a <;> first | exact h | exact (h.1 hu).of
theorem RepT.opt {G : Gh} {L : List Nat} {a : AV} {x : Value} {b : Bool} (h : b = true → RepT G L a x) (h2 : b = false → x = undef) (hn : ∀ c d, a ≠ .opt c d) : RepT G L (.opt b a) x := by
  refine ⟨fun e => ?_, h2⟩
  have h := h e
  cases a <;> first | exact h | exact absurd rfl (hn _ _)
structure LSim (G : Gh) (L : List Nat) (lo : List (List AV)) (h : Hp) (w : World) : Prop where
  len : L.length = lo.length
  lo : ∀ (j b : Nat) (cs : List AV), L[j]? = some b → lo[j]? = some cs → ∃ (vs : Array Value) (E : TypeId), w.heap[b]? = some (Obj.cells vs E (0, 0)) ∧ vs.size = cs.length ∧ RepL G cs vs.toList
  free : ∀ b ∈ L, ¬ Own G h b ∧ ∀ o, G.val b o = none
  nd : L.Nodup
structure Sim (G : Gh) (L : List Nat) (s : St) (a : Act) (w : World) : Prop where
  hs : HSim G s.h w
  sz : s.sl.length ≤ a.tmps.size
  sl : ∀ t (h : t < s.sl.length), RepT G L s.sl[t] (a.tmps.getD t undef)
  df : a.defers = []
  ls : LSim G L s.lo s.h w

structure Cx where
  G : Gh
  h : Hp
  w : World
def In (c : Cx) (s : St) (a : Act) (w : World) : Prop :=
  ∃ G L, Sim G L s a w ∧ GLe c.G G ∧ Fr c.G c.h c.w G s.h w ∧ ∀ b ∈ L, c.w.heap.size ≤ b

def Awp (P : Program) (c : Cx) (k : Code) (Q : Exit → St → Prop) (s : St) : Prop :=
  ∀ a w, In c s a w → k.wp P (fun e a' w' => ∃ s', Q e s' ∧ In c s' a' w') a w
def Qc (c : Cx) (Q : Exit → St → Prop) : Exit → Act → World → Prop := fun e a w => ∃ s, Q e s ∧ In c s a w
section
variable {P : Program} {c : Cx} {Q : Exit → St → Prop} {s : St}
theorem awp_mono {k : Code} {Q' : Exit → St → Prop} (h : Awp P c k Q s) (hq : ∀ e s, Q e s → Q' e s) : Awp P c k Q' s :=
  fun a w hi => wp_mono (h a w hi) fun _ _ _ ⟨s', q, i⟩ => ⟨s', hq _ _ q, i⟩
theorem awp_skip (h : Q .normal s) : Awp P c .skip Q s := fun _ _ hi => wp_skip ⟨s, h, hi⟩
theorem awp_exit {id : Nat} (h : Q (.exit id) s) : Awp P c (.exit id) Q s := fun _ _ hi => wp_exit ⟨s, h, hi⟩
theorem awp_ret (h : Q .ret s) : Awp P c .ret Q s := fun _ _ hi => wp_ret ⟨s, h, hi⟩
def thenQ (next : St → Prop) (Q : Exit → St → Prop) : Exit → St → Prop
  | .normal, s => next s
  | e, s => Q e s
theorem awp_seq {x y : Code} (h : Awp P c x (thenQ (Awp P c y Q) Q) s) : Awp P c (.seq x y) Q s := by
  intro a w hi
  refine wp_seq (wp_mono (h a w hi) ?_)
  rintro e a' w' ⟨s', q, i⟩
  cases e with
  | normal => exact q a' w' i
  | _ => exact ⟨s', q, i⟩
def inBlockQ (id : Nat) (Q : Exit → St → Prop) : Exit → St → Prop
  | .exit id', s => if id' = id then Q .normal s else Q (.exit id') s
  | e, s => Q e s
theorem awp_block {id : Nat} {k : Code} (h : Awp P c k (inBlockQ id Q) s) : Awp P c (.block id k) Q s := by
  intro a w hi
  refine wp_block (wp_mono (h a w hi) ?_)
  rintro e a' w' ⟨s', q, i⟩
  cases e with
  | exit id' =>
    simp only [inBlockQ, Exit.inBlock] at q ⊢
    split at q <;> rename_i hid
    · rw [if_pos hid]; exact ⟨s', q, i⟩
    · rw [if_neg hid]; exact ⟨s', q, i⟩
  | _ => exact ⟨s', q, i⟩
theorem awp_loop {k : Code} (I : Nat → St → Prop) (n : Nat) (h0 : I n s)
    (round : ∀ n s, I n s → Awp P c k (thenQ (fun s' => ∃ m, m < n ∧ I m s') Q) s) : Awp P c (.loop k) Q s := by
  -- the number of rounds left is not told by the state: induction on it
  intro a w hi b kk cs
  have key : ∀ n s a w, I n s → In c s a w → ∃ e a' w', (∃ s', Q e s' ∧ In c s' a' w') ∧ Arrives P (lone (b.at a (.code k :: .inLoop k :: kk)) cs w) b kk cs e a' w' := by
    intro n
    induction n using Nat.strongRecOn with
    | _ n ih =>
      intro s a w hI hi
      obtain ⟨e, a₁, w₁, ⟨s₁, hq, hi₁⟩, harr⟩ := round n s hI a w hi b (.inLoop k :: kk) cs
      cases e with
      | normal =>
        obtain ⟨m, hm, hI₁⟩ := hq
        obtain ⟨e₂, a₂, w₂, hq₂, harr₂⟩ := ih m hm s₁ a₁ w₁ hI₁ hi₁
        exact ⟨e₂, a₂, w₂, hq₂, .of_steps (Steps.trans harr (.one step_inLoop)) harr₂⟩
      | exit id => exact ⟨_, a₁, w₁, ⟨s₁, hq, hi₁⟩, .pass (x := .inLoop k) rfl (fun _ _ => .inl (by simp)) harr⟩
      | goto l => exact ⟨_, a₁, w₁, ⟨s₁, hq, hi₁⟩, .pass (x := .inLoop k) rfl (fun _ _ => .inl (by simp)) harr⟩
      | ret => exact ⟨_, a₁, w₁, ⟨s₁, hq, hi₁⟩, .pass (x := .inLoop k) rfl (fun _ _ => .inl (by simp)) harr⟩
      | panic ch => exact ⟨_, a₁, w₁, ⟨s₁, hq, hi₁⟩, .pass (x := .inLoop k) rfl (fun _ _ => .inl (by simp)) harr⟩
      | outgrown => exact ⟨_, a₁, w₁, ⟨s₁, hq, hi₁⟩, .pass (x := .inLoop k) rfl (fun _ _ => .inl (by simp)) harr⟩
  obtain ⟨e, a', w', hq, harr⟩ := key n s a w h0 hi
  exact ⟨e, a', w', hq, .of_steps (.one step_loop) harr⟩
end

def cv : Value → AV
  | .agg cs => if cs.toList.all (·.oneCell') then .agg (cs.toList.map .v) else .junk
  | .tuple _ => .junk
  | x => .v x
def evL (sl : List AV) : Operand → AV
  | .tmp t => sl.getD t .junk
  | .const x => cv x
  | .global g => .v (.pointer (some ⟨g, 0, none⟩))
  | .func f => .fn f []
def St.ev (s : St) : Operand → AV := evL s.sl
def St.put (s : St) (d : Option Tmp) (x : AV) : St :=
  match d with
  | some d => { s with sl := s.sl.set d x }
  | none => s
theorem rep_cv (G : Gh) (x : Value) : Rep G (cv x) x := by
  cases x <;> first
    | exact .v _ rfl
    | (rename_i cs
       simp only [cv]
       split
       · rename_i h
         simp only [List.all_eq_true] at h
         have hr : RepL G (cs.toList.map AV.v) cs.toList := ⟨by simp, fun j hj hj' => by
           simp only [List.getElem_map]
           exact ⟨.v _ (h _ (List.getElem_mem hj')), h _ (List.getElem_mem hj')⟩⟩
         have := hr.agg
         simpa [cv] using this
       · exact .junk _)
    | exact .junk _
theorem Sim.ev {G : Gh} {L : List Nat} {s : St} {a : Act} {w : World} (h : Sim G L s a w) (x : Operand) : RepT G L (s.ev x) (a.eval x) := by
  cases x with
  | tmp t =>
    simp only [St.ev, evL, Act.eval]
    by_cases ht : t < s.sl.length
    · rw [List.getD_eq_getElem?_getD, List.getElem?_eq_getElem ht]
      exact h.sl t ht
    · rw [List.getD_eq_getElem?_getD, List.getElem?_eq_none (Nat.le_of_not_lt ht)]
      exact RepT.junk _
  | const x => exact RepT.of (rep_cv G x)
  | global g => exact RepT.of (.v _ rfl)
  | func f => exact RepT.of (.fn f [] #[] (fun _ => undef) rfl (fun j h => by simp at h) (fun j h => by simp at h))
theorem Sim.put {G : Gh} {L : List Nat} {s : St} {a : Act} {w : World} (h : Sim G L s a w) (d : Option Tmp) {x : AV} {v : Value} (hx : RepT G L x v) : Sim G L (s.put d x) (a.put d v) w := by
  cases d with
  | none => exact h
  | some d =>
    refine ⟨h.hs, by simpa [St.put, Act.put] using h.sz, fun t ht => ?_, h.df, h.ls⟩
    have ht' : t < s.sl.length := by simpa only [St.put, List.length_set] using ht
    simp only [St.put, Act.put, List.getElem_set]
    have hs := h.sz
    by_cases e : d = t
    · subst e
      rw [if_pos rfl]
      have : d < a.tmps.size := Nat.lt_of_lt_of_le ht' hs
      simpa [this] using hx
    · rw [if_neg e]
      have := h.sl t ht'
      have e2 : (a.tmps.setIfInBounds d v).getD t undef = a.tmps.getD t undef := by
        simp [Array.getElem?_setIfInBounds, e]
      rw [e2]
      exact this
theorem In.put {c : Cx} {s : St} {a : Act} {w : World} {G : Gh} {L : List Nat} (h : Sim G L s a w) (hg : GLe c.G G) (hf : Fr c.G c.h c.w G s.h w) (hL : ∀ b ∈ L, c.w.heap.size ≤ b) (d : Option Tmp) {x : AV} {v : Value} (hx : RepT G L x v) :
    In c (s.put d x) (a.put d v) w := ⟨G, L, h.put d hx, hg, (by cases d <;> exact hf), hL⟩
end Go.Proofs.YtpnfkfbapfnboaaGreatDoor

