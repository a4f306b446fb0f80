/- Boxes, literals, stores, new objects. -/
import Derived.Test.YtpnfkfbapfnboaaGreatDoorAvOps5
namespace Go.Proofs.YtpnfkfbapfnboaaGreatDoor
open Go
set_option linter.unusedVariables false
set_option linter.unusedSimpArgs false
def AV.cellsB : AV → Option (List AV)
  | .agg cs => some cs
  | .v x => if x.oneCell' then some [.v x] else none
  | .row z xs k => some [.row z xs k]
  | .ref cs o => some [.ref cs o]
  | .ptr i o => some [.ptr i o]
  | .arr z i n => some [.arr z i n]
  | .eptr k n i f => some [.eptr k n i f]
  | .map i => some [.map i]
  | .fn f cs => some [.fn f cs]
  | .bfn f cs => some [.bfn f cs]
  | _ => none
theorem cellsB_sound {G : Gh} {L : List Nat} {x : AV} {v : Value} (h : RepT G L x v) {cs : List AV} (hc : x.cellsB = some cs) : RepL G cs v.cells.toList := by
  cases x with
  | agg ds =>
    simp only [AV.cellsB, Option.some.injEq] at hc; subst hc
    obtain ⟨vs, rfl, hr⟩ := RepL.of_agg h
    simpa [Value.cells] using hr
  | v x =>
    simp only [AV.cellsB] at hc
    split at hc
    · rename_i h1
      simp only [Option.some.injEq] at hc; subst hc
      cases h.v_inv
      have : v.cells = #[v] := by cases v <;> first | rfl | simp [Value.oneCell'] at h1
      rw [this]
      exact RepL.cons (.v v h1) h1 (RepL.nil G)
    · cases hc
  | row z xs k =>
    simp only [AV.cellsB, Option.some.injEq] at hc; subst hc
    have h' : Rep G (.row z xs k) v := h
    rcases Rep.row_inv h' with ⟨_, rfl, _⟩ | ⟨g, o, c, us, rfl, _⟩ <;> exact RepL.cons h' rfl (RepL.nil G)
  | ref ds o =>
    simp only [AV.cellsB, Option.some.injEq] at hc; subst hc
    have h' : Rep G (.ref ds o) v := h
    obtain ⟨g, b, us, rfl, _⟩ := Rep.ref_inv h'
    exact RepL.cons h' rfl (RepL.nil G)
  | ptr i o =>
    simp only [AV.cellsB, Option.some.injEq] at hc; subst hc
    have h' : Rep G (.ptr i o) v := h
    cases h' with | ptr _ _ b hb => exact RepL.cons (.ptr i o b hb) rfl (RepL.nil G)
  | arr z i n =>
    simp only [AV.cellsB, Option.some.injEq] at hc; subst hc
    have h' : Rep G (.arr z i n) v := h
    cases h' with | arr _ _ _ a m c' ha => exact RepL.cons (.arr z i n a m c' ha) rfl (RepL.nil G)
  | eptr k n i f =>
    simp only [AV.cellsB, Option.some.injEq] at hc; subst hc
    have h' : Rep G (.eptr k n i f) v := h
    cases h' with | eptr _ _ _ _ p ha => exact RepL.cons (.eptr k n i f p ha) rfl (RepL.nil G)
  | map i =>
    simp only [AV.cellsB, Option.some.injEq] at hc; subst hc
    have h' : Rep G (.map i) v := h
    cases h' with | map _ b hb => exact RepL.cons (.map i b hb) rfl (RepL.nil G)
  | fn f ds =>
    simp only [AV.cellsB, Option.some.injEq] at hc; subst hc
    have h' : Rep G (.fn f ds) v := h
    cases h' with | fn _ _ vs u hl hu hr => exact RepL.cons (.fn f ds vs u hl hu hr) rfl (RepL.nil G)
  | bfn f ds =>
    simp only [AV.cellsB, Option.some.injEq] at hc; subst hc
    have h' : Rep G (.bfn f ds) v := h
    cases h' with | bfn _ _ vs u hl hu hr => exact RepL.cons (.bfn f ds vs u hl hu hr) rfl (RepL.nil G)
  | _ => simp [AV.cellsB] at hc
section
variable {P : Program} {c : Cx} {o : Oper} {s : St} {ty : Nat → Option TyD}
theorem q_box {t : Nat} {x : Operand} (ho : o.op = .box t x) {cs : List AV} (hc : (s.ev x).cellsB = some cs) : Quiet P c o s (.ref cs 0) := by
  refine quiet_fresh fun G L a w sm => ?_
  have hr := cellsB_sound (sm.ev x) hc
  refine ⟨.pointer (some ⟨w.heap.size, 0, none⟩), (a.eval x).cells.toList, t, ?_, RepT.of (rep_fresh_ref hr fun o => sm.hs.val_new (Nat.le_refl _) o)⟩
  simp [execOp, ho, Instr.box, newVar, newRow]
def Aop (P : Program) (c : Cx) (o : Oper) (s : St) (K : St → Prop) : Prop :=
  ∀ a w, In c s a w → ∀ (Kc : Act → World → Prop) (Qc : Exit → Act → World → Prop), (∀ s' a' w', K s' → In c s' a' w' → Kc a' w') → o.wp P a w Kc Qc
theorem Quiet.aop {x : AV} (h : Quiet P c o s x) {K : St → Prop} (hK : K (s.put o.dst x)) : Aop P c o s K :=
  fun a w hi Kc Qc hk => h a w hi Kc Qc fun _ w' hi' => hk _ _ w' hK hi'
theorem a_boxLoc {t : Nat} {x : Operand} (ho : o.op = .box t x) {cs : List AV} (hc : (s.ev x).cellsB = some cs) {K : St → Prop}
    (hK : K ({ s with lo := s.lo ++ [cs] }.put o.dst (.loc s.lo.length 0))) : Aop P c o s K := by
  rintro a w ⟨G, L, sm, hg, hf, hL⟩ Kc Qc hk
  have hr := cellsB_sound (sm.ev x) hc
  obtain ⟨s1, f1, l1⟩ := sm.newLoc hr t
  unfold Oper.wp
  have hrun : (execOp a.eval o).run P w = .ok (.value (.pointer (some ⟨w.heap.size, 0, none⟩))) (w.alloc (.cells (a.eval x).cells.toList.toArray t)) := by
    simp [execOp, ho, Instr.box, newVar, newRow]
  rw [hrun]
  refine hk _ _ _ hK (In.put s1 hg (hf.trans f1) (fun b hb => ?_) o.dst (x := .loc s.lo.length 0) ⟨_, l1, rfl⟩)
  rcases List.mem_append.1 hb with h | h
  · exact hL b h
  · simp at h; subst h; exact hf.size
theorem zero_run {t : Nat} {d : TyD} (hd : tyd P t = some d) (w : World) : ∃ z, (zeroValue t).run P w = .ok z w ∧ d.zero = z.cells.toList.map AV.v ∧ z.cells.toList.all (·.oneCell') = true := by
  obtain ⟨i, D, z, hi, _, _, _, _, hz, h1, hzz⟩ := tyd_info hd
  exact ⟨z, by simp [zeroValue, typeInfo, hi, hz], hzz, h1⟩
theorem RepL.map_v (G : Gh) {vs : List Value} (h : vs.all (·.oneCell') = true) : RepL G (vs.map AV.v) vs := by
  refine ⟨by simp, fun j hj hj' => ?_⟩
  have h1 := List.all_eq_true.1 h _ (List.getElem_mem hj')
  simp only [List.getElem_map]
  exact ⟨.v _ h1, h1⟩
theorem a_allocLoc (hty : TyOk P ty) {t : Nat} (ho : o.op = .alloc t) {d : TyD} (hd : ty t = some d) {K : St → Prop}
    (hK : K ({ s with lo := s.lo ++ [d.zero] }.put o.dst (.loc s.lo.length 0))) : Aop P c o s K := by
  rintro a w ⟨G, L, sm, hg, hf, hL⟩ Kc Qc hk
  obtain ⟨z, hz, hzz, h1⟩ := zero_run (hty _ _ hd) w
  have hr : RepL G d.zero z.cells.toList := by rw [hzz]; exact RepL.map_v G h1
  obtain ⟨s1, f1, l1⟩ := sm.newLoc hr t
  unfold Oper.wp
  have hrun : (execOp a.eval o).run P w = .ok (.value (.pointer (some ⟨w.heap.size, 0, none⟩))) (w.alloc (.cells z.cells.toList.toArray t)) := by
    simp [execOp, ho, Instr.alloc, hz, newVar, newRow]
  rw [hrun]
  refine hk _ _ _ hK (In.put s1 hg (hf.trans f1) (fun b hb => ?_) o.dst (x := .loc s.lo.length 0) ⟨_, l1, rfl⟩)
  rcases List.mem_append.1 hb with h | h
  · exact hL b h
  · simp at h; subst h; exact hf.size
theorem a_boxNew {t : Nat} {x : Operand} (ho : o.op = .box t x) {cs : List AV} (hc : (s.ev x).cellsB = some cs) {K : St → Prop}
    (hK : ∀ i, s.h.H i = none → K ({ s with h := { s.h with H := upd s.h.H i (some (.cells cs)) } }.put o.dst (.ptr i 0))) : Aop P c o s K := by
  rintro a w ⟨G, L, sm, hg, hf, hL⟩ Kc Qc hk
  have hr := cellsB_sound (sm.ev x) hc
  obtain ⟨hn, s1, g1, f1, e1⟩ := sm.newObj (y := .cells cs) (o := .cells (a.eval x).cells.toList.toArray t) ⟨_, t, rfl, by rw [← hr.1, List.take_of_length_le (by simp)]; simpa using hr⟩
  unfold Oper.wp
  have hrun : (execOp a.eval o).run P w = .ok (.value (.pointer (some ⟨w.heap.size, 0, none⟩))) (w.alloc (.cells (a.eval x).cells.toList.toArray t)) := by
    simp [execOp, ho, Instr.box, newVar, newRow]
  rw [hrun]
  exact hk _ _ _ (hK _ hn) (In.put s1 (hg.trans g1) (hf.trans f1) hL o.dst (RepT.of (.ptr _ 0 _ e1)))
theorem a_allocNew (hty : TyOk P ty) {t : Nat} (ho : o.op = .alloc t) {d : TyD} (hd : ty t = some d) {K : St → Prop}
    (hK : ∀ i, s.h.H i = none → K ({ s with h := { s.h with H := upd s.h.H i (some (.cells d.zero)) } }.put o.dst (.ptr i 0))) : Aop P c o s K := by
  rintro a w ⟨G, L, sm, hg, hf, hL⟩ Kc Qc hk
  obtain ⟨z, hz, hzz, h1⟩ := zero_run (hty _ _ hd) w
  have hr : RepL G d.zero z.cells.toList := by rw [hzz]; exact RepL.map_v G h1
  obtain ⟨hn, s1, g1, f1, e1⟩ := sm.newObj (y := .cells d.zero) (o := .cells z.cells.toList.toArray t) ⟨_, t, rfl, by rw [← hr.1, List.take_of_length_le (by simp)]; simpa using hr⟩
  unfold Oper.wp
  have hrun : (execOp a.eval o).run P w = .ok (.value (.pointer (some ⟨w.heap.size, 0, none⟩))) (w.alloc (.cells z.cells.toList.toArray t)) := by
    simp [execOp, ho, Instr.alloc, hz, newVar, newRow]
  rw [hrun]
  exact hk _ _ _ (hK _ hn) (In.put s1 (hg.trans g1) (hf.trans f1) hL o.dst (RepT.of (.ptr _ 0 _ e1)))
theorem store_run {t : Nat} {d : TyD} (hd : tyd P t = some d) {v : Value} {g o : Nat} {cur : Array Value} {E : TypeId} {w : World} (hh : w.heap[g]? = some (.cells cur E (0, 0))) (hs : v.cells.size = d.size) (hl : o + d.size ≤ cur.size) (h1 : ∀ x ∈ v.cells.toList, x.oneCell' = true) :
    (storeVar t ⟨g, o, none⟩ v).run P w = .ok () (w.setRow g (splice cur.toList o v.cells.toList).toArray) := by
  have hr := run_storeCells_at P g o E v.cells.toList 0 cur w hh (by simpa [hs] using hl) h1
  simp only [storeVar, Sem.run_bind, sizeOf_run hd, Result.andThen_ok, hs, ne_eq, not_true_eq_false, if_false, Sem.run_pure]
  simpa [splice] using hr
theorem a_storeLoc (hty : TyOk P ty) {t : Nat} {x y : Operand} (ho : o.op = .store t x y) {d : TyD} (hd : ty t = some d) {j off : Nat} (hx : s.ev x = .loc j off) {cs ds : List AV} (hj : s.lo[j]? = some cs) (hy : (s.ev y).cellsB = some ds) (hs : ds.length = d.size) (hl : off + d.size ≤ cs.length) {K : St → Prop}
    (hK : K ({ s with lo := s.lo.set j (splice cs off ds) }.put o.dst .junk)) : Aop P c o s K := by
  rintro a w ⟨G, L, sm, hg, hf, hL⟩ Kc Qc hk
  have hr := cellsB_sound (sm.ev y) hy
  obtain ⟨b, hb, ex⟩ := sm.eve hx
  obtain ⟨vs, E, hh, hsz, hrr⟩ := sm.ls.lo j b cs hb hj
  have hspl := hrr.splice hr off
  obtain ⟨s1, _, hother⟩ := sm.setLoc hb hj hspl (splice_len _ _ _ (by omega))
  have hrun := store_run (v := a.eval y) (g := b) (o := off) (w := w) (hty _ _ hd) hh (by rw [← hs]; simpa using hr.1) (by omega) (fun x hx => by
    obtain ⟨i, hi, e⟩ := List.getElem_of_mem hx
    subst e
    exact (hr.2 i (by rw [← hr.1]; exact hi) hi).2)
  unfold Oper.wp
  have hrun' : (execOp a.eval o).run P w = .ok .skip (w.setRow b (splice vs.toList off (a.eval y).cells.toList).toArray) := by
    simp only [execOp, ho, ex, Instr.storeAt, Instr.sureAddr, Sem.run_bind, Sem.run_pure, Result.andThen_ok, hrun]
  rw [hrun']
  refine hk _ _ _ hK (In.put s1 hg ⟨by simpa using hf.os, by simpa using hf.tape, by simpa using hf.output, by simpa using hf.size, fun b' hlt hn => ?_⟩ hL o.dst (RepT.junk _))
  obtain ⟨k1, k2, k3⟩ := hf.keep b' hlt hn
  have hne : b' ≠ b := fun e => by have := hL b (List.mem_of_getElem? hb); omega
  exact ⟨(hother b' hne).trans k1, k2, k3⟩
theorem a_storePtr (hty : TyOk P ty) {t : Nat} {x y : Operand} (ho : o.op = .store t x y) {d : TyD} (hd : ty t = some d) {i off : Nat} (hx : s.ev x = .ptr i off) {cs ds : List AV} (hi : s.h.H i = some (.cells cs)) (hy : (s.ev y).cellsB = some ds) (hs : ds.length = d.size) (hl : off + d.size ≤ cs.length) {K : St → Prop}
    (hK : K ({ s with h := { s.h with H := upd s.h.H i (some (.cells (splice cs off ds))) } }.put o.dst .junk)) : Aop P c o s K := by
  rintro a w ⟨G, L, sm, hg, hf, hL⟩ Kc Qc hk
  have hr := cellsB_sound (sm.ev y) hy
  have hxr := sm.eve hx
  generalize hq : a.eval x = q at hxr
  have hxr' : Rep G (.ptr i off) q := hxr
  cases hxr' with
  | ptr _ _ b hat =>
  obtain ⟨b', ob, e', hh, ⟨vs, E, rfl, hrr⟩, _⟩ := sm.hs.obj i _ hi
  rw [hat] at e'; cases e'
  have hl2 : cs.length ≤ vs.size := by have := hrr.1; simp at this; omega
  have hspl := hrr.splice hr off
  have hlen := splice_len cs ds off (by omega)
  have hus : (a.eval y).cells.toList.length = ds.length := hr.1
  have htk : (splice vs.toList off (a.eval y).cells.toList).take (splice cs off ds).length = splice (vs.toList.take cs.length) off (a.eval y).cells.toList := by
    rw [hlen]
    simp only [splice, List.take_append, List.take_take, List.length_append, List.length_take, List.drop_take, hus, Array.length_toList, List.append_assoc]
    have e1 : min off vs.size = off := by omega
    have e2 : (a.eval y).cells.toList.take (cs.length - off) = (a.eval y).cells.toList := List.take_of_length_le (by omega)
    rw [e1, e2, show min cs.length off = min off cs.length from Nat.min_comm _ _, show cs.length - off - ds.length = cs.length - (off + ds.length) by omega]
  have hrun := store_run (v := a.eval y) (g := b) (o := off) (w := w) (hty _ _ hd) hh (by rw [← hs]; simpa using hr.1) (by omega) (fun x hx => by
    obtain ⟨i, hi, e⟩ := List.getElem_of_mem hx
    subst e
    exact (hr.2 i (by rw [← hr.1]; exact hi) hi).2)
  obtain ⟨s1, f1⟩ := sm.setObj (w' := w.setRow b (splice vs.toList off (a.eval y).cells.toList).toArray) (y := .cells (splice cs off ds)) hi hat (fun b' hb' => heap_setRow _ hb') (setRow_heap w b vs _ E (0, 0) hh)
    ⟨_, E, rfl, by simpa only [htk] using hspl⟩ (by simp) (by simp) (by simp) (by simp)
  unfold Oper.wp
  have hrun' : (execOp a.eval o).run P w = .ok .skip (w.setRow b (splice vs.toList off (a.eval y).cells.toList).toArray) := by
    simp only [execOp, ho, hq, Instr.storeAt, Instr.sureAddr, Sem.run_bind, Sem.run_pure, Result.andThen_ok, hrun]
  rw [hrun']
  exact hk _ _ _ hK (In.put s1 hg (hf.trans f1) hL o.dst (RepT.junk _))
theorem a_storeObj (hty : TyOk P ty) {t : Nat} {x y : Operand} (ho : o.op = .store t x y) {d : TyD} (hd : ty t = some d) {i off : Nat} (hx : s.ev x = .ptr i off) {E : TypeId} {cs ds : List AV} (hi : s.h.H i = some (.obj E cs)) (hy : (s.ev y).cellsB = some ds) (hs : ds.length = d.size) (hl : off + d.size ≤ cs.length) {K : St → Prop}
    (hK : K ({ s with h := { s.h with H := upd s.h.H i (some (.obj E (splice cs off ds))) } }.put o.dst .junk)) : Aop P c o s K := by
  rintro a w ⟨G, L, sm, hg, hf, hL⟩ Kc Qc hk
  have hr := cellsB_sound (sm.ev y) hy
  have hxr := sm.eve hx
  generalize hq : a.eval x = q at hxr
  have hxr' : Rep G (.ptr i off) q := hxr
  cases hxr' with
  | ptr _ _ b hat =>
  obtain ⟨b', ob, e', hh, ⟨vs, rfl, hrr⟩, _⟩ := sm.hs.obj i _ hi
  rw [hat] at e'; cases e'
  have hl2 : cs.length = vs.size := by have := hrr.1; simp at this; omega
  have hspl := hrr.splice hr off
  have hrun := store_run (v := a.eval y) (g := b) (o := off) (w := w) (hty _ _ hd) hh (by rw [← hs]; simpa using hr.1) (by omega) (fun x hx => by
    obtain ⟨i, hi, e⟩ := List.getElem_of_mem hx
    subst e
    exact (hr.2 i (by rw [← hr.1]; exact hi) hi).2)
  obtain ⟨s1, f1⟩ := sm.setObj (w' := w.setRow b (splice vs.toList off (a.eval y).cells.toList).toArray) (y := .obj E (splice cs off ds)) hi hat (fun b' hb' => heap_setRow _ hb') (setRow_heap w b vs _ E (0, 0) hh)
    ⟨_, rfl, by simpa using hspl⟩ (by simp) (by simp) (by simp) (by simp)
  unfold Oper.wp
  have hrun' : (execOp a.eval o).run P w = .ok .skip (w.setRow b (splice vs.toList off (a.eval y).cells.toList).toArray) := by
    simp only [execOp, ho, hq, Instr.storeAt, Instr.sureAddr, Sem.run_bind, Sem.run_pure, Result.andThen_ok, hrun]
  rw [hrun']
  exact hk _ _ _ hK (In.put s1 hg (hf.trans f1) hL o.dst (RepT.junk _))
end
end Go.Proofs.YtpnfkfbapfnboaaGreatDoor

