/- Literals, functions, least and greatest, nil. -/
import Derived.Test.YtpnfkfbapfnboaaGreatDoorAvMake
namespace Go.Proofs.YtpnfkfbapfnboaaGreatDoor
open Go
set_option linter.unusedVariables false
set_option linter.unusedSimpArgs false
def fillA (place : Nat → Option (Nat × Nat)) (cells : List AV) : List (Nat × AV) → Option (List AV)
  | [] => some cells
  | (i, x) :: rest =>
    match place i, x.cellsB with
    | some (off, size), some cs => if cs.length = size ∧ off + size ≤ cells.length then fillA place (splice cells off cs) rest else none
    | _, _ => none
theorem foldl_splice (off : Nat) : ∀ (us : List Value) (k : Nat) (cs : Array Value), off + k + us.length ≤ cs.size →
    ((us.zipIdx k).foldl (fun cs (p : Value × Nat) => cs.setIfInBounds (off + p.2) p.1) cs).toList = splice cs.toList (off + k) us
  | [], k, cs, _ => by simp [splice]
  | u :: us, k, cs, h => by
    simp only [List.length_cons] at h
    simp only [List.zipIdx_cons, List.foldl_cons]
    rw [foldl_splice off us (k + 1) _ (by simp; omega)]
    have h1 : off + k < cs.toList.length := by simp; omega
    simp only [Array.toList_setIfInBounds, splice, List.length_cons]
    rw [show off + (k + 1) = off + k + 1 by omega, List.take_set, List.drop_set_of_lt (by omega), List.take_succ_eq_append_getElem h1]
    rw [List.set_append_right _ _ (by simp only [List.length_take]; omega)]
    simp only [List.length_take, Array.length_toList, List.append_assoc]
    rw [show min (off + k) cs.size = off + k by simp at h1; omega, Nat.sub_self]
    simp only [List.set_cons_zero, List.cons_append, List.nil_append]
    rw [show off + k + 1 + us.length = off + k + (us.length + 1) by omega]
theorem fillA_sound {G : Gh} {L : List Nat} {place : Nat → Option (Nat × Nat)} : ∀ (ps : List (Nat × AV)) (qs : List (Nat × Value)) (cells ds : List AV) (cur : Array Value),
    ps.length = qs.length → (∀ (j : Nat) p q, ps[j]? = some p → qs[j]? = some q → p.1 = q.1 ∧ RepT G L p.2 q.2) → RepL G cells cur.toList → fillA place cells ps = some ds →
    ∃ out, Instr.fill place cur qs = some out ∧ RepL G ds out.toList
  | [], [], cells, ds, cur, _, _, hr, h => by
    simp only [fillA, Option.some.injEq] at h; subst h
    exact ⟨cur, rfl, hr⟩
  | [], _ :: _, _, _, _, hl, _, _, _ => by simp at hl
  | _ :: _, [], _, _, _, hl, _, _, _ => by simp at hl
  | (i, x) :: ps, (i', v) :: qs, cells, ds, cur, hl, hp, hr, h => by
    obtain ⟨rfl, hx⟩ := hp 0 (i, x) (i', v) (by simp) (by simp)
    simp only [fillA] at h
    split at h
    · rename_i off size cs hpl hcs
      split at h
      · rename_i hsz
        have hrx := cellsB_sound hx hcs
        have hlen : v.cells.size = size := by have := hrx.1; simp at this; omega
        have hcl := hr.1
        have hf := foldl_splice off v.cells.toList 0 cur (by simp at hcl ⊢; omega)
        have hr2 : RepL G (splice cells off cs) ((v.cells.zipIdx.foldl (fun cs (p : Value × Nat) => cs.setIfInBounds (off + p.2) p.1) cur)).toList := by
          rw [← Array.foldl_toList, Array.toList_zipIdx, hf]
          exact hr.splice hrx off
        obtain ⟨out, ho, hro⟩ := fillA_sound ps qs _ ds _ (by simpa using hl) (fun j p q a b => hp (j + 1) p q (by simpa using a) (by simpa using b)) hr2 h
        refine ⟨out, ?_, hro⟩
        simp only [Instr.fill]
        rw [hpl]
        simp only
        rw [if_neg (by simp at hcl ⊢; omega)]
        exact ho
      · cases h
    · cases h
def places (ty : Nat → Option TyD) (t : Nat) (i : Nat) : Option (Nat × Nat) := match fdd ty t i with | some (off, e) => some (off, e.size) | none => none
def structD (ty : Nat → Option TyD) (t : Nat) : Option TyD := match ty t with | some d => (match d.kind with | .struct _ => some d | _ => none) | none => none
theorem structD_info {ty : Nat → Option TyD} {t : Nat} {d : TyD} (h : structD ty t = some d) : ty t = some d ∧ ∃ fs, d.kind = .struct fs := by
  unfold structD at h
  split at h
  · rename_i d' hd
    split at h
    · rename_i fs hk
      simp only [Option.some.injEq] at h; subst h
      exact ⟨hd, fs, hk⟩
    · cases h
  · cases h
theorem fill_congr {f g : Nat → Option (Nat × Nat)} : ∀ (qs : List (Nat × Value)) (cur : Array Value), (∀ i ∈ qs.map (·.1), f i = g i) → Instr.fill f cur qs = Instr.fill g cur qs
  | [], _, _ => rfl
  | (i, v) :: qs, cur, h => by
    simp only [Instr.fill]
    rw [h i (by simp)]
    split
    · rfl
    · split
      · rfl
      · exact fill_congr qs _ (fun j hj => h j (by simp at hj ⊢; exact .inr hj))
theorem fillA_place {place : Nat → Option (Nat × Nat)} : ∀ (ps : List (Nat × AV)) (cells ds : List AV), fillA place cells ps = some ds → ∀ i ∈ ps.map (·.1), place i ≠ none
  | [], _, _, _ => by simp
  | (i, x) :: ps, cells, ds, h => by
    simp only [fillA] at h
    split at h
    · rename_i off size cs hpl hcs
      split at h
      · intro j hj
        simp only [List.map_cons, List.mem_cons] at hj
        rcases hj with rfl | hj
        · simp [hpl]
        · exact fillA_place ps _ _ h j hj
      · cases h
    · cases h
section
variable {P : Program} {c : Cx} {o : Oper} {s : St} {ty : Nat → Option TyD}
theorem q_build (hty : TyOk P ty) {t : Nat} {parts : Array (Nat × Operand)} (ho : o.op = .build t parts) {d : TyD} (hd : structD ty t = some d) {ds : List AV}
    (hf : fillA (places ty t) d.zero (parts.toList.map fun p => (p.1, s.ev p.2)) = some ds) (hall : (match d.kind with | .struct fs => fs.all (fun f => (ty f.2).isSome) | _ => false) = true) : Quiet P c o s (.agg ds) := by
  refine quiet_pure fun G L a w sm => ?_
  obtain ⟨hd', fs', hk⟩ := structD_info hd
  obtain ⟨i, D, z, hi, hD, _, _, hkk, hz, h1, hzz⟩ := tyd_info (hty _ _ hd')
  rw [hk] at hkk hall
  simp only at hall
  cases D with
  | struct fs =>
    simp only [kindOf, TyK.struct.injEq] at hkk
    have hzr : RepL G d.zero z.cells.toList := by rw [hzz]; exact RepL.map_v G h1
    obtain ⟨out, hout, hro⟩ := fillA_sound (G := G) (L := L) (place := places ty t) (parts.toList.map fun p => (p.1, s.ev p.2)) (parts.toList.map fun p => (p.1, a.eval p.2)) d.zero ds z.cells (by simp) (fun j p q hp hq => by
      rw [List.getElem?_map] at hp hq
      cases hpj : parts.toList[j]? with
      | none => rw [hpj] at hp; cases hp
      | some pj =>
        rw [hpj] at hp hq
        simp only [Option.map_some, Option.some.injEq] at hp hq
        subst hp; subst hq
        exact ⟨rfl, sm.ev pj.2⟩) hzr hf
    -- the places that the machine takes
    have hplaces : ∃ pls : Array (Nat × Nat), (fs.mapM (fun f => do pure (f.offset, ← sizeOf f.type) : Field → Sem (Nat × Nat))).run P w = .ok pls w ∧ ∀ i, places ty t i ≠ none → pls[i]? = places ty t i := by
      have hall' : ∀ f ∈ fs.toList, ∃ e, ty f.type = some e := fun f hf => by
        have := List.all_eq_true.1 hall (f.offset, f.type) (by rw [← hkk]; exact List.mem_map.2 ⟨f, hf, rfl⟩)
        exact Option.isSome_iff_exists.1 this
      have key : ∀ (l : List Field), (∀ f ∈ l, ∃ e, ty f.type = some e) → (l.mapM (fun f => do pure (f.offset, ← sizeOf f.type) : Field → Sem (Nat × Nat))).run P w = .ok (l.map fun f => (f.offset, ((ty f.type).map (·.size)).getD 0)) w := by
        intro l
        induction l with
        | nil => intro _; rfl
        | cons f l ih =>
          intro h
          obtain ⟨e, he⟩ := h f (by simp)
          rw [List.mapM_cons]
          simp only [Sem.run_bind, sizeOf_run (hty _ _ he), Result.andThen_ok, Sem.run_pure, ih (fun g hg => h g (by simp [hg])), List.map_cons, he, Option.map_some, Option.getD_some]
      refine ⟨(fs.toList.map fun f => (f.offset, ((ty f.type).map (·.size)).getD 0)).toArray, ?_, fun i hi' => ?_⟩
      · rw [Array.mapM_eq_mapM_toList]
        simp only [Sem.run_map, key _ hall', Result.andThen_ok]
      · unfold places fdd at hi' ⊢
        rw [hd'] at hi' ⊢
        simp only [hk, ← hkk, List.getElem?_map, Array.getElem?_toList, List.getElem?_toArray] at hi' ⊢
        cases hfi : fs[i]? with
        | none => simp [hfi] at hi'
        | some f =>
          simp only [hfi, Option.map_some] at hi' ⊢
          cases hte : ty f.type with
          | none => simp [hte] at hi'
          | some e => simp
    obtain ⟨pls, hpl, hple⟩ := hplaces
    refine ⟨.agg out, ?_, RepT.of ?_⟩
    · have hcg := fill_congr (f := places ty t) (g := (pls[·]?)) (parts.toList.map fun p => (p.1, a.eval p.2)) z.cells (fun i hi => (hple i (fillA_place _ _ _ hf i (by simpa using hi))).symm)
      rw [hcg] at hout
      have hzv : (zeroValue t).run P w = .ok z w := by simp [zeroValue, typeInfo, hi, hz]
      simp only [execOp, ho, Instr.build, Sem.run_bind, hzv, Result.andThen_ok, run_underlying hD, hpl]
      simp only [Array.toList_map]
      rw [hout]
      rfl
    · have := hro.agg
      simpa using this
  | _ => simp [kindOf] at hkk
def arrD (ty : Nat → Option TyD) (t : Nat) : Option (TyD × Nat × TyD) := match ty t with
  | some d => match d.kind with
    | .array n u => match ty u with
      | some e => some (d, n, e)
      | none => none
    | _ => none
  | none => none
theorem arrD_info {P : Program} {ty : Nat → Option TyD} (hty : TyOk P ty) {t n : Nat} {d e : TyD} (h : arrD ty t = some (d, n, e)) : ∃ u, P.underlying t = some (.array n u) ∧ tyd P u = some e ∧ tyd P t = some d := by
  unfold arrD at h
  split at h
  · rename_i d' hd
    split at h
    · rename_i n' u hk
      split at h
      · rename_i e' he
        simp only [Option.some.injEq, Prod.mk.injEq] at h
        obtain ⟨rfl, rfl, rfl⟩ := h
        obtain ⟨i, D, z, _, hD, _, _, hkk, _⟩ := tyd_info (hty _ _ hd)
        rw [hk] at hkk
        cases D <;> simp only [kindOf, reduceCtorEq] at hkk
        simp only [TyK.array.injEq] at hkk
        obtain ⟨rfl, rfl⟩ := hkk
        exact ⟨_, hD, hty _ _ he, hty _ _ hd⟩
      · cases h
    · cases h
  · cases h
theorem q_buildArr (hty : TyOk P ty) {t : Nat} {parts : Array (Nat × Operand)} (ho : o.op = .build t parts) {d e : TyD} {n : Nat} (hd : arrD ty t = some (d, n, e)) {ds : List AV}
    (hf : fillA (fun i => some (i * e.size, e.size)) d.zero (parts.toList.map fun p => (p.1, s.ev p.2)) = some ds) : Quiet P c o s (.agg ds) := by
  refine quiet_pure fun G L a w sm => ?_
  obtain ⟨u, hD, hue, htd⟩ := arrD_info hty hd
  obtain ⟨i, D, z, hi, _, _, _, _, hz, h1, hzz⟩ := tyd_info htd
  have hzr : RepL G d.zero z.cells.toList := by rw [hzz]; exact RepL.map_v G h1
  obtain ⟨out, hout, hro⟩ := fillA_sound (G := G) (L := L) (place := fun i => some (i * e.size, e.size)) (parts.toList.map fun p => (p.1, s.ev p.2)) (parts.toList.map fun p => (p.1, a.eval p.2)) d.zero ds z.cells (by simp) (fun j p q hp hq => by
    rw [List.getElem?_map] at hp hq
    cases hpj : parts.toList[j]? with
    | none => rw [hpj] at hp; cases hp
    | some pj =>
      rw [hpj] at hp hq
      simp only [Option.map_some, Option.some.injEq] at hp hq
      subst hp; subst hq
      exact ⟨rfl, sm.ev pj.2⟩) hzr hf
  refine ⟨.agg out, ?_, RepT.of ?_⟩
  · have hzv : (zeroValue t).run P w = .ok z w := by simp [zeroValue, typeInfo, hi, hz]
    simp only [execOp, ho, Instr.build, Sem.run_bind, hzv, Result.andThen_ok, run_underlying hD, sizeOf_run hue]
    simp only [Array.toList_map]
    rw [hout]
    rfl
  · have := hro.agg
    simpa using this
theorem q_indexArrV (hty : TyOk P ty) {t : Nat} {x i : Operand} (ho : o.op = .index t x i) {d e : TyD} {n : Nat} (hd : arrD ty t = some (d, n, e)) {cs : List AV} (h : s.ev x = .agg cs) {k : IntKind} {j : Int} (hj : s.ev i = .v (.int k j)) (h0 : 0 ≤ j) (h1 : j < n) (hl : ldOk e cs (j.toNat * e.size)) :
    Quiet P c o s (ld e cs (j.toNat * e.size)) := by
  refine quiet_pure fun G L a w sm => ?_
  obtain ⟨u, hD, hue, _⟩ := arrD_info hty hd
  obtain ⟨vs, e1, hr⟩ := RepL.of_agg (sm.eve h)
  simp only [execOp, ho, e1, sm.evv hj, Instr.index, asIntOf, Sem.run_bind, Sem.run_pure, run_underlying hD, Result.andThen_ok, if_pos (And.intro h0 h1), sizeOf_run hue, part, isAgg_run hue]
  unfold ldOk at hl
  unfold ld
  cases ha : e.isAgg with
  | false =>
    simp only [ha, Bool.false_eq_true, if_false] at hl ⊢
    obtain ⟨y, hy, hry, _⟩ := hr.getD hl
    exact ⟨y, by simp [hy], RepT.of hry⟩
  | true =>
    simp only [ha, if_true] at hl ⊢
    refine ⟨.agg ((vs.drop (j.toNat * e.size)).take e.size).toArray, ?_, RepT.of ((hr.drop _).take _).agg⟩
    simp only [Sem.run_bind, sizeOf_run hue, Result.andThen_ok, Sem.run_pure]
    congr 3
    simp [List.extract_toArray, List.extract_eq_take_drop, List.drop_take]
end
end Go.Proofs.YtpnfkfbapfnboaaGreatDoor

