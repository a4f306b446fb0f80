/- Slice literals, functions, least and greatest, nil. -/
import Derived.Test.YtpnfkfbapfnboaaGreatDoorAvMake2
namespace Go.Proofs.YtpnfkfbapfnboaaGreatDoor
open Go
set_option linter.unusedVariables false
set_option linter.unusedSimpArgs false
def litRow (size : Nat) : List AV → Option (List (List AV))
  | [] => some []
  | x :: xs => match x.cellsB, litRow size xs with
    | some cs, some r => if cs.length = size then some (cs :: r) else none
    | _, _ => none
theorem litRow_sound {G : Gh} {L : List Nat} {size : Nat} : ∀ (ps : List AV) (vs : List Value) (k : Nat) (xs : List (List AV)) (cur : Array Value),
    ps.length = vs.length → (∀ (j : Nat) p q, ps[j]? = some p → vs[j]? = some q → RepT G L p q) → litRow size ps = some xs → k * size + ps.length * size = cur.size →
    ∃ out us, Instr.fill (fun i => some (i * size, size)) cur ((List.range' k vs.length).zip vs) = some out ∧ out.toList = cur.toList.take (k * size) ++ us ∧ RepL G xs.flatten us ∧ xs.length = ps.length ∧ ∀ x ∈ xs, x.length = size
  | [], [], k, xs, cur, _, _, h, hs => by
    simp only [litRow, Option.some.injEq] at h; subst h
    refine ⟨cur, [], rfl, ?_, RepL.nil G, rfl, by simp⟩
    rw [List.append_nil, List.take_of_length_le (by simp at hs ⊢; omega)]
  | [], _ :: _, _, _, _, hl, _, _, _ => by simp at hl
  | _ :: _, [], _, _, _, hl, _, _, _ => by simp at hl
  | x :: ps, v :: vs, k, xs, cur, hl, hp, h, hs => by
    have hx := hp 0 x v (by simp) (by simp)
    simp only [litRow] at h
    split at h
    · rename_i cs r hcs hr
      split at h
      · rename_i hsz
        simp only [Option.some.injEq] at h; subst h
        have hrx := cellsB_sound hx hcs
        have hlen : v.cells.size = size := by have := hrx.1; simp at this; omega
        simp only [List.length_cons, Nat.add_mul] at hs
        have hf := foldl_splice (k * size) v.cells.toList 0 cur (by simp [hlen]; omega)
        have hf' : (v.cells.zipIdx.foldl (fun cs (p : Value × Nat) => cs.setIfInBounds (k * size + p.2) p.1) cur).toList = splice cur.toList (k * size) v.cells.toList := by
          rw [← Array.foldl_toList, Array.toList_zipIdx, hf, Nat.add_zero]
        have hsize : (v.cells.zipIdx.foldl (fun cs (p : Value × Nat) => cs.setIfInBounds (k * size + p.2) p.1) cur).size = cur.size := by
          have := congrArg List.length hf'
          rw [splice_len _ _ _ (by simp [hlen]; omega)] at this
          simpa using this
        obtain ⟨out, us, ho, hou, hro, hxl, hxz⟩ := litRow_sound ps vs (k + 1) r _ (by simpa using hl) (fun j p q a b => hp (j + 1) p q (by simpa using a) (by simpa using b)) hr (by rw [hsize, Nat.add_mul]; omega)
        refine ⟨out, v.cells.toList ++ us, ?_, ?_, ?_, by simp [hxl], by simp [hsz]; exact hxz⟩
        · simp only [List.length_cons, List.range'_succ, List.zip_cons_cons, Instr.fill]
          rw [if_neg (by simp [hlen]; omega)]
          exact ho
        · rw [hou, hf', ← List.append_assoc]
          congr 1
          simp only [splice, Nat.add_mul, Nat.one_mul]
          rw [List.append_assoc, List.take_append]
          have h1 : (cur.toList.take (k * size)).length = k * size := by simp; omega
          rw [h1, List.take_of_length_le (by omega)]
          congr 1
          rw [show k * size + size - k * size = size by omega, List.take_append_of_le_length (by simp [hlen]), List.take_of_length_le (by simp [hlen])]
        · rw [List.flatten_cons]; exact hrx.append hro
      · cases h
    · cases h
section
variable {P : Program} {c : Cx} {o : Oper} {s : St} {ty : Nat → Option TyD}
theorem zip_map_range {α β : Type} (l : List (Nat × α)) (f : α → β) (h : l.map (·.1) = List.range l.length) : l.map (fun p => (p.1, f p.2)) = (List.range' 0 (l.map (fun p => f p.2)).length).zip (l.map fun p => f p.2) := by
  apply List.ext_getElem (by simp)
  intro i h1 h2
  simp only [List.getElem_map, List.getElem_zip, List.getElem_range', Nat.zero_add, Nat.one_mul]
  have hi : i < l.length := by simpa using h1
  have e := congrArg (fun l => l[i]?) h
  simp only [List.getElem?_map, List.getElem?_eq_getElem hi, Option.map_some, List.getElem?_range hi, Option.some.injEq] at e
  rw [e]
theorem q_buildSlice (hty : TyOk P ty) {t n : Nat} {parts : Array (Nat × Operand)} (ho : o.op = .buildSlice t n parts) {e : TyD} (he : elemD ty t = some e) (hidx : parts.toList.map (·.1) = List.range n) (hsz : n * e.size ≤ 16777216) {xs : List (List AV)}
    (hx : litRow e.size (parts.toList.map fun p => s.ev p.2) = some xs) (hz0 : e.size ≠ 0) (hzl : e.zero.length = e.size) : Quiet P c o s (.row e.size xs none) := by
  refine quiet_fresh fun G L a w sm => ?_
  obtain ⟨u, hu, hue⟩ := elemD_info hty he
  have hn : parts.toList.length = n := by have := congrArg List.length hidx; simpa using this
  obtain ⟨z, hzr, hzz, h1⟩ := zero_run hue w
  have hzs : z.cells.size = e.size := by rw [← hzl, hzz]; simp
  let cur : Array Value := (Array.range (n * e.size)).map (z.cells[· % z.cells.size]!)
  have hcur : cur.size = n * e.size := by simp [cur]
  obtain ⟨out, us, ho', hou, hro, hxl, hxz⟩ := litRow_sound (G := G) (L := L) (size := e.size) (parts.toList.map fun p => s.ev p.2) (parts.toList.map fun p => a.eval p.2) 0 xs cur (by simp) (fun j p q hp hq => by
      rw [List.getElem?_map] at hp hq
      cases hpj : parts.toList[j]? with
      | none => rw [hpj] at hp; cases hp
      | some pj =>
        rw [hpj] at hp hq
        simp only [Option.map_some, Option.some.injEq] at hp hq
        subst hp; subst hq
        exact sm.ev pj.2) hx (by rw [hcur, List.length_map, hn]; omega)
  simp only [Nat.zero_mul, List.take_zero, List.nil_append] at hou
  have hxl' : xs.length = n := by rw [hxl, List.length_map, hn]
  refine ⟨.slice (some ⟨w.heap.size, 0, none⟩) n n, us, u, ?_, RepT.of ?_⟩
  · have hz := zip_map_range parts.toList a.eval (by rw [hn]; exact hidx)
    rw [← hz] at ho'
    have hns : ¬ (n * e.size > 2 ^ 24) := by omega
    simp only [execOp, ho, Instr.buildSlice, Sem.run_bind, run_underlying hu, Result.andThen_ok, sizeOf_run hue, hns, if_false, Sem.run_pure]
    by_cases h0 : n * e.size = 0
    · have hn0 : n = 0 := by rcases Nat.mul_eq_zero.1 h0 with h | h; exact h; exact absurd h hz0
      subst hn0
      have hpe : parts.toList = [] := List.eq_nil_of_length_eq_zero hn
      have hus : us = [] := by
        have := hro.1
        have hx0 : xs = [] := List.eq_nil_of_length_eq_zero hxl'
        subst hx0
        simpa using this
      subst hus
      simp only [Array.toList_map, hpe, Instr.fill, newRow, List.map_nil, Sem.run_bind, run_newObj, Sem.run_pure, Result.andThen_ok, World.alloc_eq, Nat.zero_mul, ↓reduceIte]
      rw [show Array.range 0 = #[] from rfl, Array.map_empty]
    · simp only [h0, if_false, Sem.run_bind, hzr, Result.andThen_ok, Sem.run_pure, Array.toList_map]
      rw [show Array.map (fun x => z.cells[x % z.cells.size]!) (Array.range (n * e.size)) = cur from rfl, ho']
      have : out = us.toArray := by rw [← hou]
      simp [newRow, this]
  · have := rep_fresh_row (G := G) (B := w.heap.size) hxz hro (fun o => sm.hs.val_new (Nat.le_refl _) o) n (by omega)
    rw [hxl'] at this
    exact this
theorem q_makeFunc {f : Nat} {first caps : Array Operand} (ho : o.op = .makeFunc (.func f) first caps) (hf : first = #[]) (hl : (caps.toList.map s.ev).all (fun x => match x with | .loc _ _ => false | .opt _ _ => false | _ => true) = true) : Quiet P c o s (.fn f (caps.toList.map s.ev)) := by
  refine quiet_pure fun G L a w sm => ⟨.func (.func f) #[] (caps.map a.eval), by simp [execOp, ho, Instr.makeFunc, hf], RepT.of (.fn f _ _ (fun j => (caps.map a.eval).getD j undef) (by simp) (fun j hj => ?_) (fun j hj => ?_))⟩
  · have hj' : j < (caps.map a.eval).size := by simpa using hj
    rw [Array.getElem?_eq_getElem hj', Array.getD_eq_getD_getElem?, Array.getElem?_eq_getElem hj']; rfl
  · have hj' : j < caps.size := by simpa using hj
    have h1 := List.all_eq_true.1 hl _ (List.getElem_mem hj)
    have h2 := sm.ev caps[j]
    have e : (caps.map a.eval).getD j undef = a.eval caps[j] := by
      rw [Array.getD_eq_getD_getElem?, Array.getElem?_map, Array.getElem?_eq_getElem hj']; rfl
    rw [e]
    have e2 : (caps.toList.map s.ev)[j] = s.ev caps[j] := by simp
    rw [e2] at h1 ⊢
    generalize s.ev caps[j] = y at *
    cases y <;> first | exact h2 | simp at h1
theorem q_makeFuncB {f : Nat} {first caps : Array Operand} (ho : o.op = .makeFunc (.func f) first caps) (hf : caps = #[]) (hl : (first.toList.map s.ev).all (fun x => match x with | .loc _ _ => false | .opt _ _ => false | _ => true) = true) : Quiet P c o s (.bfn f (first.toList.map s.ev)) := by
  refine quiet_pure fun G L a w sm => ⟨.func (.func f) (first.map a.eval) #[], by simp [execOp, ho, Instr.makeFunc, hf], RepT.of (.bfn f _ _ (fun j => (first.map a.eval).getD j undef) (by simp) (fun j hj => ?_) (fun j hj => ?_))⟩
  · have hj' : j < (first.map a.eval).size := by simpa using hj
    rw [Array.getElem?_eq_getElem hj', Array.getD_eq_getD_getElem?, Array.getElem?_eq_getElem hj']; rfl
  · have hj' : j < first.size := by simpa using hj
    have h1 := List.all_eq_true.1 hl _ (List.getElem_mem hj)
    have h2 := sm.ev first[j]
    have e : (first.map a.eval).getD j undef = a.eval first[j] := by
      rw [Array.getD_eq_getD_getElem?, Array.getElem?_map, Array.getElem?_eq_getElem hj']; rfl
    rw [e]
    have e2 : (first.toList.map s.ev)[j] = s.ev first[j] := by simp
    rw [e2] at h1 ⊢
    generalize s.ev first[j] = y at *
    cases y <;> first | exact h2 | simp at h1
theorem min_run {P : Program} (ts : Array TypeId) (t : TypeId) (k : IntKind) (a b : Int) (w : World) : (Builtin.min_ ts t #[.int k a, .int k b]).run P w = .ok (.int k (min a b)) w := by
  have e : (if b < a then b else a) = min a b := by omega
  simp [Builtin.min_, Builtin.min2, e]
theorem max_run {P : Program} (ts : Array TypeId) (t : TypeId) (k : IntKind) (a b : Int) (w : World) : (Builtin.max_ ts t #[.int k a, .int k b]).run P w = .ok (.int k (max a b)) w := by
  have e : (if b > a then b else a) = max a b := by omega
  simp [Builtin.max_, Builtin.max2, e]
theorem q_min {ts : Array TypeId} {x y : Operand} (ho : o.op = .call { callee := .builtin .min, args := #[x, y], argTypes := ts }) {k : IntKind} {m n : Int} (hx : s.ev x = .v (.int k m)) (hy : s.ev y = .v (.int k n)) : Quiet P c o s (.v (.int k (min m n))) :=
  quiet_pure fun G L a w sm => ⟨_, by simp [execOp, ho, resolve, invoke, builtin, sm.evv hx, sm.evv hy, min_run], RepT.of (.v _ rfl)⟩
theorem q_max {ts : Array TypeId} {x y : Operand} (ho : o.op = .call { callee := .builtin .max, args := #[x, y], argTypes := ts }) {k : IntKind} {m n : Int} (hx : s.ev x = .v (.int k m)) (hy : s.ev y = .v (.int k n)) : Quiet P c o s (.v (.int k (max m n))) :=
  quiet_pure fun G L a w sm => ⟨_, by simp [execOp, ho, resolve, invoke, builtin, sm.evv hx, sm.evv hy, max_run], RepT.of (.v _ rfl)⟩
inductive NilK : TyK → Value → Bool → Prop where
  | ptr (e) (a : Option Addr) : NilK (.ptr e) (.pointer a) a.isNone
  | slice (e) (a : Option Addr) (n c) : NilK (.slice e) (.slice a n c) a.isNone
  | map (k e) (a : Option Nat) : NilK (.map k e) (.map a) a.isNone
  | fnil : NilK .func .nilFunc true
  | func (f a b) : NilK .func (.func f a b) false
def nilOf (k : TyK) (x : AV) : Option Bool :=
  match k, x with
  | .ptr _, .v (.pointer none) => some true
  | .ptr _, .ref _ _ => some false
  | .ptr _, .loc _ _ => some false
  | .ptr _, .ptr _ _ => some false
  | .slice _, .v (.slice none _ _) => some true
  | .slice _, .v (.slice (some _) _ _) => some false
  | .slice _, .row _ (_ :: _) _ => some false
  | .map _ _, .v (.map none) => some true
  | .map _ _, .map _ => some false
  | .func, .v .nilFunc => some true
  | .func, .fn _ _ => some false
  | _, _ => none
theorem nilOf_sound {G : Gh} {L : List Nat} {x : AV} {v : Value} (h : RepT G L x v) {k : TyK} {b : Bool} (hk : nilOf k x = some b) : NilK k v b := by
  unfold nilOf at hk
  split at hk <;> simp only [Option.some.injEq, reduceCtorEq] at hk <;> subst hk
  · cases h.v_inv; exact .ptr _ none
  · obtain ⟨g, b, us, rfl, _⟩ := Rep.ref_inv h; exact .ptr _ (some _)
  · obtain ⟨b, _, rfl⟩ := h; exact .ptr _ (some _)
  · rename_i i o
    have h' : Rep G (.ptr i o) v := h
    cases h'; exact .ptr _ (some _)
  · cases h.v_inv; exact .slice _ none _ _
  · cases h.v_inv; exact .slice _ (some _) _ _
  · rename_i z x xs tk
    have h' : Rep G (.row z (x :: xs) tk) v := h
    rcases Rep.row_inv h' with ⟨_, _, e⟩ | ⟨g, o, c, us, rfl, _⟩
    · cases e
    · exact .slice _ (some _) _ _
  · cases h.v_inv; exact .map _ _ none
  · rename_i i
    have h' : Rep G (.map i) v := h
    cases h'; exact .map _ _ (some _)
  · cases h.v_inv; exact .fnil
  · rename_i f cs
    have h' : Rep G (.fn f cs) v := h
    cases h'; exact .func _ _ _
theorem nil_eqIn (dd : Nat) {t : TypeId} {d : TyD} (hd : tyd P t = some d) {u v : Value} {b1 b2 : Bool} (h1 : NilK d.kind u b1) (h2 : NilK d.kind v b2) (hb : (b1 || b2) = true) (w : World) :
    (Op.equalIn (dd + 1) t u v).run P w = .ok (b1 && b2) w := by
  obtain ⟨_, D, _, _, hD, _, _, hk, _⟩ := tyd_info hd
  have hu := run_underlying hD w
  rw [← hk] at h1 h2
  generalize hkk : kindOf D = k at h1 h2
  cases h1 <;> cases h2 <;> cases D <;> simp only [kindOf, reduceCtorEq] at hkk
  all_goals simp only [Op.equalIn, Sem.run_bind, hu, Result.andThen_ok]
  all_goals first
      | rfl
      | (simp at hb; done)
      | (rename_i a b _ _; cases a <;> cases b <;> first | rfl | (simp at hb; done))
      | (rename_i a b _; cases a <;> cases b <;> first | rfl | (simp at hb; done))
      | (rename_i a _ _ b _ _ _; cases a <;> cases b <;> first | rfl | (simp at hb; done))
      | (rename_i a b; cases a <;> cases b <;> first | rfl | (simp at hb; done))
theorem nil_run {t : TypeId} {d : TyD} (hd : tyd P t = some d) {u v : Value} {b1 b2 : Bool} (h1 : NilK d.kind u b1) (h2 : NilK d.kind v b2) (hb : (b1 || b2) = true) (o1 o2 : Operand) (w : World) :
    ((do eqGuard .eql t o1 o2 u v; binOp .eql t u v : Sem Value).run P w) = .ok (.bool (b1 && b2)) w ∧ ((do eqGuard .neq t o1 o2 u v; binOp .neq t u v : Sem Value).run P w) = .ok (.bool (!(b1 && b2))) w := by
  have hr := nil_eqIn 9999 hd h1 h2 hb w
  generalize d.kind = k at h1 h2
  have e1 : ∀ op, eqGuard op t o1 o2 u v = pure () := fun op => by cases h1 <;> cases op <;> rfl
  have hbin : binOp .eql t u v = (do pure (.bool (← Op.equal t u v))) ∧ binOp .neq t u v = (do pure (.bool (!(← Op.equal t u v)))) := by
    cases h1 <;> cases h2 <;> exact ⟨rfl, rfl⟩
  rw [e1, e1, hbin.1, hbin.2]
  have hq : (Op.equal t u v).run P w = .ok (b1 && b2) w := hr
  constructor <;> simp only [pure_bind, Sem.run_bind, hq, Result.andThen_ok, Sem.run_pure]
end
end Go.Proofs.YtpnfkfbapfnboaaGreatDoor

