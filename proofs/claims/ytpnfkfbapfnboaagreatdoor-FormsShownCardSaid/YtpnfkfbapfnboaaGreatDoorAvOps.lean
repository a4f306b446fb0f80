/- What the quiet operations yield, told in trees: no operation here writes what is told. -/
import Derived.Test.YtpnfkfbapfnboaaGreatDoorAvStore
import Derived.Laws.Slices
namespace Go.Proofs.YtpnfkfbapfnboaaGreatDoor
open Go
set_option linter.unusedVariables false
set_option linter.unusedSimpArgs false
inductive TyK where
  | int (k : IntKind) | bool | str | ptr (e : Nat) | slice (e : Nat) | array (n e : Nat) | map (k e : Nat) | struct (fs : List (Nat × Nat)) | func | iface | tuple | other
inductive EK where
  | i | s | b
structure TyD where
  size : Nat
  bytes : Nat
  kind : TyK
  zero : List AV
  eqs : List EK
def kindOf : TypeDesc → TyK
  | .int k => .int k
  | .bool => .bool
  | .string => .str
  | .pointer e => .ptr e
  | .slice e => .slice e
  | .array n e => .array n e
  | .map k e => .map k e
  | .struct fs => .struct (fs.toList.map fun f => (f.offset, f.type))
  | .func _ _ _ => .func
  | .interface _ => .iface
  | .tuple _ => .tuple
  | _ => .other
def eqsF (P : Program) : Nat → List Field → Option (List EK)
  | _, [] => some []
  | i, f :: fs => if f.name ≠ "_" ∧ f.offset = i then
      match P.underlying f.type with
      | some (.int _) => (eqsF P (i + 1) fs).map (EK.i :: ·)
      | some .string => (eqsF P (i + 1) fs).map (EK.s :: ·)
      | some .bool => (eqsF P (i + 1) fs).map (EK.b :: ·)
      | _ => none
    else none
def eqsOf (P : Program) (t : Nat) (d : TypeDesc) : List EK :=
  match d with
  | .struct fs => if P.stoodInHeld t || P.eqGuardType P.depth t then [] else (eqsF P 0 fs.toList).getD []
  | _ => []
def aggV : Value → Bool
  | .agg _ => true
  | _ => false
def aggK : TyK → Bool
  | .struct _ => true
  | .array _ _ => true
  | _ => false
def tyd (P : Program) (t : Nat) : Option TyD :=
  match P.info? t, P.underlying t with
  | some i, some d => match i.zero with
    | some z => if z.cells.toList.all (·.oneCell') && (aggV z == aggK (kindOf d)) then some ⟨i.size, i.bytes, kindOf d, z.cells.toList.map AV.v, eqsOf P t d⟩ else none
    | none => none
  | _, _ => none
def TyD.isAgg (d : TyD) : Bool := match d.kind with | .struct _ | .array _ _ => true | _ => false
def TyOk (P : Program) (ty : Nat → Option TyD) : Prop := ∀ t d, ty t = some d → tyd P t = some d
theorem tyd_info {P : Program} {t : Nat} {d : TyD} (h : tyd P t = some d) :
    ∃ i D z, P.info? t = some i ∧ P.underlying t = some D ∧ i.size = d.size ∧ i.bytes = d.bytes ∧ kindOf D = d.kind ∧ i.zero = some z ∧ z.cells.toList.all (·.oneCell') = true ∧ d.zero = z.cells.toList.map AV.v := by
  unfold tyd at h
  split at h
  · rename_i i D hi hD
    split at h
    · rename_i z hz
      split at h
      · rename_i h1
        injection h with h; subst h
        exact ⟨i, D, z, hi, hD, rfl, rfl, rfl, hz, (Bool.and_eq_true _ _ ▸ h1).1, rfl⟩
      · cases h
    · cases h
  · cases h
theorem tyd_eqs {P : Program} {t : Nat} {d : TyD} (h : tyd P t = some d) : ∃ D, P.underlying t = some D ∧ d.eqs = eqsOf P t D := by
  unfold tyd at h
  split at h
  · rename_i i D hi hD
    split at h
    · rename_i z hz
      split at h
      · injection h with h; subst h
        exact ⟨D, hD, rfl⟩
      · cases h
    · cases h
  · cases h
theorem tyd_agg {P : Program} {t : Nat} {d : TyD} (h : tyd P t = some d) : ∃ i z, P.info? t = some i ∧ i.zero = some z ∧ z.cells.toList.all (·.oneCell') = true ∧ d.zero = z.cells.toList.map AV.v ∧ aggV z = aggK d.kind := by
  unfold tyd at h
  split at h
  · rename_i i D hi hD
    split at h
    · rename_i z hz
      split at h
      · rename_i h1
        injection h with h; subst h
        rw [Bool.and_eq_true] at h1
        exact ⟨i, z, hi, hz, h1.1, rfl, by simpa using h1.2⟩
      · cases h
    · cases h
  · cases h
theorem isAgg_run {P : Program} {t : Nat} {d : TyD} (h : tyd P t = some d) (w : World) : (isAgg t).run P w = .ok d.isAgg w := by
  obtain ⟨i, D, z, _, hD, _, _, hk, _⟩ := tyd_info h
  unfold isAgg TyD.isAgg
  rw [Sem.run_bind, run_underlying hD w, ← hk]
  cases D <;> rfl
theorem sizeOf_run {P : Program} {t : Nat} {d : TyD} (h : tyd P t = some d) (w : World) : (sizeOf t).run P w = .ok d.size w := by
  obtain ⟨i, D, z, hi, _, hs, _⟩ := tyd_info h
  simp [sizeOf, typeInfo, hi, hs]
def ld (d : TyD) (cs : List AV) (o : Nat) : AV := if d.isAgg then .agg ((cs.drop o).take d.size) else cs.getD o .junk
def ldOk (d : TyD) (cs : List AV) (o : Nat) : Prop := if d.isAgg then o + d.size ≤ cs.length else o < cs.length
theorem load_run {P : Program} {G : Gh} {t : Nat} {d : TyD} (hd : tyd P t = some d) {cs : List AV} {us : List Value} {g b o : Nat} {w : World} (hr : RepL G cs us) (hc : ∀ j x, us[j]? = some x → w.cell? ⟨g, b + j, none⟩ = some x) (ho : ldOk d cs o) :
    ∃ v, (loadVar t ⟨g, b + o, none⟩).run P w = .ok v w ∧ Rep G (ld d cs o) v := by
  unfold ldOk at ho
  unfold loadVar ld
  simp only [Sem.run_bind, isAgg_run hd, Result.andThen_ok]
  cases ha : d.isAgg with
  | false =>
    simp only [ha, Bool.false_eq_true, if_false] at ho ⊢
    obtain ⟨x, hx, hrx, _⟩ := hr.getD ho
    exact ⟨x, by simp [hc o x hx], hrx⟩
  | true =>
    simp only [ha, if_true] at ho ⊢
    have hrr := ((hr.drop o).take d.size)
    have hl : ((us.drop o).take d.size).length = d.size := by simp [hr.1]; omega
    refine ⟨.agg ((us.drop o).take d.size).toArray, ?_, hrr.agg⟩
    have hrun := run_loadCells_list (P := P) w ⟨g, b + o, none⟩ ((us.drop o).take d.size) (fun j v hv => by
      rw [Addr.add_lit, Nat.add_assoc]
      refine hc _ _ ?_
      rw [List.getElem?_take] at hv
      split at hv
      · simpa using hv
      · cases hv)
    rw [hl] at hrun
    simp only [sizeOf_run hd, Result.andThen_ok, Sem.run_map, Sem.run_bind, hrun, Sem.run_pure]
theorem Rep.ref_inv {G : Gh} {cs : List AV} {o : Nat} {x : Value} (h : Rep G (.ref cs o) x) :
    ∃ g b us, x = .pointer (some ⟨g, b + o, none⟩) ∧ RepL G cs us ∧ ∀ j y, us[j]? = some y → G.val g (b + j) = some y := by
  cases h with
  | ref _ _ g b u hu hr h1 =>
    refine ⟨g, b, (List.range cs.length).map u, rfl, RepL.of_fun u hr h1, fun j y hy => ?_⟩
    rw [List.getElem?_map] at hy
    by_cases hj : j < cs.length
    · rw [List.getElem?_range hj] at hy; simp at hy; subst hy; exact hu j hj
    · rw [List.getElem?_eq_none (by simp; omega)] at hy; cases hy
def cellsAt (lo : List (List AV)) (h : Hp) : AV → Option (List AV × Nat)
  | .ref cs o => some (cs, o)
  | .loc j o => lo[j]?.map (·, o)
  | .ptr i o => match h.H i with | some (.cells cs) => some (cs, o) | some (.obj _ cs) => some (cs, o) | _ => none
  | .eptr k n i f => match h.T k with | some (.cont _ xs) => some (if xs.length = n then xs.getD i [] else [], f) | _ => none
  | _ => none
theorem cellsAt_sound {G : Gh} {L : List Nat} {s : St} {a : Act} {w : World} (sm : Sim G L s a w) {x : AV} {v : Value} (hx : RepT G L x v) {cs : List AV} {o : Nat} (hc : cellsAt s.lo s.h x = some (cs, o)) :
    ∃ g b us, v = .pointer (some ⟨g, b + o, none⟩) ∧ RepL G cs us ∧ ∀ j y, us[j]? = some y → w.cell? ⟨g, b + j, none⟩ = some y := by
  cases x with
  | ref cs' o' =>
    simp only [cellsAt, Option.some.injEq, Prod.mk.injEq] at hc
    obtain ⟨rfl, rfl⟩ := hc
    obtain ⟨g, b, us, e, hr, hu⟩ := Rep.ref_inv hx
    exact ⟨g, b, us, e, hr, fun j y hy => sm.hs.cell _ _ _ (hu j y hy)⟩
  | loc j o' =>
    obtain ⟨b, hb, rfl⟩ := hx
    simp only [cellsAt, Option.map_eq_some_iff] at hc
    obtain ⟨cs', hc, e⟩ := hc
    simp only [Prod.mk.injEq] at e
    obtain ⟨rfl, rfl⟩ := e
    obtain ⟨vs, E, hh, _, hr⟩ := sm.ls.lo j b cs' hb hc
    exact ⟨b, 0, vs.toList, by simp, hr, fun j y hy => by simpa [World.cell?, hh] using hy⟩
  | ptr i o' =>
    cases hx with
    | ptr _ _ b hat =>
      simp only [cellsAt] at hc
      split at hc
      · rename_i cs' hH
        simp only [Option.some.injEq, Prod.mk.injEq] at hc
        obtain ⟨rfl, rfl⟩ := hc
        obtain ⟨b', ob, e, hb, ⟨vs, E, rfl, hr⟩, _⟩ := sm.hs.obj i _ hH
        rw [hat] at e; cases e
        refine ⟨b, 0, vs.toList.take cs'.length, by simp, hr, fun j y hy => ?_⟩
        rw [List.getElem?_take] at hy
        split at hy
        · simpa [World.cell?, hb] using hy
        · cases hy
      · rename_i E cs' hH
        simp only [Option.some.injEq, Prod.mk.injEq] at hc
        obtain ⟨rfl, rfl⟩ := hc
        obtain ⟨b', ob, e, hb, ⟨vs, rfl, hr⟩, _⟩ := sm.hs.obj i _ hH
        rw [hat] at e; cases e
        exact ⟨b, 0, vs.toList, by simp, hr, fun j y hy => by simpa [World.cell?, hb] using hy⟩
      · cases hc
  | eptr k n i f =>
    cases hx with
    | eptr _ _ _ _ p ha =>
      simp only [cellsAt] at hc
      split at hc
      · rename_i z xs hT
        simp only [Option.some.injEq, Prod.mk.injEq] at hc
        obtain ⟨rfl, rfl⟩ := hc
        obtain ⟨hk, b, q, e, hm⟩ := ha
        simp only [Value.pointer.injEq] at e
        by_cases hin : xs.length = n ∧ i < n
        · rw [if_pos hin.1]
          rcases sm.hs.tok k _ hT with ⟨e1, e2⟩ | ⟨t, vs, E, htl, htm, h0, hh, hsz, hc1, hc2, hnv, htz, hzx, hr⟩
          · rw [e1] at hm; exact hm.elim
          · rw [htl] at hm
            obtain ⟨hle, hcur⟩ := hm
            obtain ⟨rfl, rfl⟩ := hcur (by rw [htm, hin.1])
            have hix : i < xs.length := by omega
            refine ⟨t.g, i * t.z, ((vs.toList.take xs.flatten.length).drop (i * t.z)).take z, by rw [e], ?_, fun j y hy => ?_⟩
            · have h1 := (hr.drop (i * t.z)).take z
              have h2 : (xs.flatten.drop (i * t.z)).take z = xs.getD i [] := by
                rw [htz]
                exact flatten_elem hzx hix
              rw [h2] at h1; exact h1
            · rw [List.getElem?_take] at hy
              split at hy
              · rw [List.getElem?_drop, List.getElem?_take] at hy
                split at hy
                · simpa [World.cell?, hh] using hy
                · cases hy
              · cases hy
        · refine ⟨b, q, [], by rw [e], ?_, fun j y hy => by simp at hy⟩
          have : (if xs.length = n then xs.getD i [] else []) = [] := by
            split
            · rw [List.getD_eq_getElem?_getD, List.getElem?_eq_none (by omega)]; rfl
            · rfl
          rw [this]; exact RepL.nil G
      · cases hc
  | _ => simp [cellsAt] at hc

def Quiet (P : Program) (c : Cx) (o : Oper) (s : St) (x : AV) : Prop :=
  ∀ a w, In c s a w → ∀ (Kc : Act → World → Prop) (Qc : Exit → Act → World → Prop), (∀ v w', In c (s.put o.dst x) (a.put o.dst v) w' → Kc (a.put o.dst v) w') → o.wp P a w Kc Qc
theorem quiet_pure {P : Program} {c : Cx} {o : Oper} {s : St} {x : AV} (hrun : ∀ G L a w, Sim G L s a w → ∃ v, (execOp a.eval o).run P w = .ok (.value v) w ∧ RepT G L x v) : Quiet P c o s x := by
  rintro a w ⟨G, L, sm, hg, hf, hL⟩ Kc Qc hk
  obtain ⟨v, hr, hx⟩ := hrun G L a w sm
  unfold Oper.wp
  rw [hr]
  exact hk v w (In.put sm hg hf hL o.dst hx)
theorem quiet_fresh {P : Program} {c : Cx} {o : Oper} {s : St} {x : AV}
    (hrun : ∀ G L a w, Sim G L s a w → ∃ v vs E, (execOp a.eval o).run P w = .ok (.value v) (w.alloc (.cells (vs : List Value).toArray E)) ∧ RepT (G.ext w.heap.size vs) L x v) : Quiet P c o s x := by
  rintro a w ⟨G, L, sm, hg, hf, hL⟩ Kc Qc hk
  obtain ⟨v, vs, E, hr, hx⟩ := hrun G L a w sm
  obtain ⟨s1, g1, f1⟩ := sm.fresh vs E
  unfold Oper.wp
  rw [hr]
  exact hk v _ (In.put s1 (hg.trans g1) (hf.trans f1) hL o.dst hx)
section
variable {P : Program} {c : Cx} {o : Oper} {s : St}
theorem q_load {t : Nat} {x : Operand} (ho : o.op = .load t x) {d : TyD} (hd : tyd P t = some d) {cs : List AV} {off : Nat} (hc : cellsAt s.lo s.h (s.ev x) = some (cs, off)) (hl : ldOk d cs off) : Quiet P c o s (ld d cs off) := by
  refine quiet_pure fun G L a w sm => ?_
  obtain ⟨g, b, us, e, hr, hu⟩ := cellsAt_sound sm (sm.ev x) hc
  obtain ⟨v, hv, hrep⟩ := load_run hd hr hu hl
  exact ⟨v, by simp only [execOp, ho, e, Instr.loadAt, Instr.sureAddr, Sem.run_bind, Sem.run_pure, Result.andThen_ok, hv], RepT.of hrep⟩
end
end Go.Proofs.YtpnfkfbapfnboaaGreatDoor

