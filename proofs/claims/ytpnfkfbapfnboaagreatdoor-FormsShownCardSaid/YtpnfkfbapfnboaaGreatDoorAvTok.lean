/- Written arrays: reached into, written, appended to. -/
import Derived.Test.YtpnfkfbapfnboaaGreatDoorAvApp2
import Derived.Laws.OwnMore
namespace Go.Proofs.YtpnfkfbapfnboaaGreatDoor
open Go
set_option linter.unusedVariables false
set_option linter.unusedSimpArgs false
theorem splice_take {α : Type} (vs us : List α) (o n : Nat) (h : o + us.length ≤ n) (hn : n ≤ vs.length) : (splice vs o us).take n = splice (vs.take n) o us := by
  simp only [splice, List.take_append, List.take_take, List.length_append, List.length_take, List.drop_take, List.append_assoc]
  have e1 : min o vs.length = o := by omega
  have e2 : us.take (n - o) = us := List.take_of_length_le (by omega)
  rw [e1, e2, show min n o = min o n from Nat.min_comm _ _, show n - o - us.length = n - (o + us.length) by omega]
theorem splice_app {α : Type} (xs ys us : List α) (o : Nat) (h : o + us.length ≤ xs.length) : splice (xs ++ ys) o us = splice xs o us ++ ys := by
  simp only [splice]
  rw [List.take_append_of_le_length (by omega), List.drop_append_of_le_length (by omega)]
  simp
theorem splice_skip {α : Type} (xs ys us : List α) (o : Nat) : splice (xs ++ ys) (xs.length + o) us = xs ++ splice ys o us := by
  simp only [splice]
  rw [List.take_append, List.drop_append, show xs.length + o + us.length - xs.length = o + us.length by omega, show xs.length + o - xs.length = o by omega]
  rw [List.take_of_length_le (by omega), List.drop_eq_nil_of_le (by omega)]
  simp
theorem flatten_set {α : Type} {z f : Nat} {ds : List α} (hf : f + ds.length ≤ z) : ∀ {xs : List (List α)} (_ : ∀ x ∈ xs, x.length = z) {i : Nat} (_ : i < xs.length), (xs.set i (splice (xs.getD i []) f ds)).flatten = splice xs.flatten (i * z + f) ds
  | [], _, _, hi => by simp at hi
  | x :: xs, hz, 0, _ => by
    have := hz x (by simp)
    simp only [List.set_cons_zero, List.flatten_cons, List.getD_cons_zero, Nat.zero_mul, Nat.zero_add]
    rw [splice_app _ _ _ _ (by omega)]
  | x :: xs, hz, i + 1, hi => by
    have hx := hz x (by simp)
    have ih := flatten_set hf (xs := xs) (fun y hy => hz y (by simp [hy])) (i := i) (by simpa using hi)
    simp only [List.set_cons_succ, List.flatten_cons, List.getD_cons_succ]
    rw [ih, show (i + 1) * z + f = x.length + (i * z + f) by rw [hx, Nat.add_mul]; omega, splice_skip]
section
variable {P : Program} {c : Cx} {o : Oper} {s : St} {ty : Nat → Option TyD}
theorem q_lenArr {t : Nat} {x : Operand} (ho : o.op = .call { callee := .builtin .len, args := #[x], argTypes := #[t] }) (he : (elemD ty t).isSome = true) (hty : TyOk P ty) {z k n : Nat} (h : s.ev x = .arr z k n) : Quiet P c o s (.v (.int .i64 n)) := by
  refine quiet_pure fun G L a w sm => ?_
  cases hed : elemD ty t with
  | none => rw [hed] at he; cases he
  | some e =>
    obtain ⟨u, hu, hue⟩ := elemD_info hty hed
    have hx := sm.eve h
    generalize hq : a.eval x = q at hx
    have hx' : Rep G (.arr z k n) q := hx
    cases hx' with
    | arr _ _ _ b m cc ha =>
      obtain ⟨_, ⟨b', c', e, _⟩, _⟩ := ha
      simp only [Value.slice.injEq] at e
      obtain ⟨rfl, rfl, rfl⟩ := e
      exact ⟨_, by simp [execOp, ho, resolve, invoke, builtin, Builtin.len_, run_underlying hu, hq, goInt], RepT.of (.v _ rfl)⟩
theorem q_lenNil {t : Nat} {x : Operand} (ho : o.op = .call { callee := .builtin .len, args := #[x], argTypes := #[t] }) (he : (elemD ty t).isSome = true) (hty : TyOk P ty) (h : s.ev x = .v (.slice none 0 0)) : Quiet P c o s (.v (.int .i64 0)) := by
  refine quiet_pure fun G L a w sm => ?_
  cases hed : elemD ty t with
  | none => rw [hed] at he; cases he
  | some e =>
    obtain ⟨u, hu, hue⟩ := elemD_info hty hed
    exact ⟨_, by simp [execOp, ho, resolve, invoke, builtin, Builtin.len_, run_underlying hu, sm.evv h, goInt], RepT.of (.v _ rfl)⟩
theorem q_indexArr (hty : TyOk P ty) {t : Nat} {x i : Operand} (ho : o.op = .indexAddr t x i) {e : TyD} (he : elemD ty t = some e) {z k m : Nat} (h : s.ev x = .arr z k m)
    {kk : IntKind} {n : Int} (hn : s.ev i = .v (.int kk n)) (h0 : 0 ≤ n) (h1 : n < m) (hz : z = e.size) : Quiet P c o s (.eptr k m n.toNat 0) := by
  refine quiet_pure fun G L a w sm => ?_
  obtain ⟨u, hu, hue⟩ := elemD_info hty he
  have hx := sm.eve h
  generalize hq : a.eval x = q at hx
  have hx' : Rep G (.arr z k m) q := hx
  cases hx' with
  | arr _ _ _ b m' cc ha =>
    obtain ⟨hk, ⟨b', c', e1, hcc, hg⟩, hm⟩ := ha
    simp only [Value.slice.injEq] at e1
    obtain ⟨rfl, rfl, rfl⟩ := e1
    obtain ⟨g, rfl⟩ : ∃ g, b = some ⟨g, 0, none⟩ := by rcases hg with ⟨_, h⟩ | h; omega; exact h
    refine ⟨.pointer (some ⟨g, 0 + n.toNat * z, none⟩), ?_, RepT.of (.eptr _ _ _ _ _ ⟨hk, g, n.toNat * z, by simp, ?_⟩)⟩
    · simp only [execOp, ho, hq, sm.evv hn, Instr.indexAt, asIntOf, Sem.run_bind, Sem.run_pure, Result.andThen_ok, run_underlying hu]
      rw [if_pos ⟨h0, by omega⟩]
      simp only [Sem.run_bind, sizeOf_run hue, Result.andThen_ok, Sem.run_pure, Addr.add_lit, hz]
    · revert hm
      cases G.tl k with
      | none => exact fun _ => trivial
      | some y => cases y with
        | none => intro hm; have := hm.1; omega
        | some t =>
          intro hm
          refine ⟨hm.1, fun e => ?_⟩
          obtain ⟨e2, e3⟩ := hm.2 e
          simp only [Value.slice.injEq, Option.some.injEq, Addr.mk.injEq, and_true] at e2
          exact ⟨e2.1, by rw [e3]⟩
theorem a_storeEptr (hty : TyOk P ty) {t : Nat} {x y : Operand} (ho : o.op = .store t x y) {d : TyD} (hd : ty t = some d) {k n i f : Nat} (hx : s.ev x = .eptr k n i f) {z : Nat} {xs : List (List AV)} {ds : List AV} (hT : s.h.T k = some (.cont z xs)) (hn : xs.length = n) (hi : i < n)
    (hy : (s.ev y).cellsB = some ds) (hs : ds.length = d.size) (hl : f + d.size ≤ z) {K : St → Prop} (hK : K ({ s with h := { s.h with T := upd s.h.T k (some (.cont z (xs.set i (splice (xs.getD i []) f ds)))) } }.put o.dst .junk)) : Aop P c o s K := by
  rintro a w ⟨G, L, sm, hg, hf, hL⟩ Kc Qc hk
  have hr := cellsB_sound (sm.ev y) hy
  have hxr := sm.eve hx
  generalize hq : a.eval x = q at hxr
  have hxr' : Rep G (.eptr k n i f) q := hxr
  cases hxr' with
  | eptr _ _ _ _ p ha =>
  obtain ⟨hkk, b, q, e, hm⟩ := ha
  cases e
  have hix : i < xs.length := by omega
  rcases sm.hs.tok k _ hT with ⟨e1, e2⟩ | ⟨tt, vs, E, htl, htm, h0, hh, hsz, hc1, hc2, hnv, htz, hzx, hrr⟩
  · rw [e1] at hm; exact hm.elim
  · rw [htl] at hm
    obtain ⟨rfl, rfl⟩ := hm.2 (by rw [htm, hn])
    have hfl := flatten_len hzx
    have hiz : (i + 1) * z ≤ xs.length * z := Nat.mul_le_mul_right _ hix
    have hiz2 : (i + 1) * z = i * z + z := by rw [Nat.add_mul, Nat.one_mul]
    have hcl : xs.length * z ≤ tt.c * z := Nat.mul_le_mul_right _ (by omega)
    rw [htz] at hsz
    have hus : (a.eval y).cells.toList.length = ds.length := hr.1
    have hspl := hrr.splice hr (i * z + f)
    rw [← splice_take _ _ _ _ (by rw [hus, hfl]; omega) (by rw [hfl]; have h9 : vs.toList.length = vs.size := Array.length_toList; omega), ← flatten_set (by omega) hzx hix] at hspl
    have hset : (xs.set i (splice (xs.getD i []) f ds)).flatten.length = xs.flatten.length := by
      rw [flatten_set (by omega) hzx hix, splice_len _ _ _ (by omega)]
    have hrun := store_run (v := a.eval y) (g := tt.g) (o := i * z + f) (w := w) (hty _ _ hd) hh (by rw [← hs]; simpa using hr.1) (by omega) (fun x hx => by
      obtain ⟨i, hi, e⟩ := List.getElem_of_mem hx
      subst e
      exact (hr.2 i (by rw [← hr.1]; exact hi) hi).2)
    have hxi : (xs.getD i []).length = z := by
      rw [List.getD_eq_getElem?_getD, List.getElem?_eq_getElem hix]; exact hzx _ (List.getElem_mem hix)
    obtain ⟨G', _, s1, g1, f1⟩ := sm.setCont (xs := xs.set i (splice (xs.getD i []) f ds)) (z := z) (c := tt.c) (B := tt.g) (w' := w.setRow tt.g (splice vs.toList (i * z + f) (a.eval y).cells.toList).toArray) hT (fun b' _ hb' => heap_setRow _ hb') (setRow_heap w tt.g vs _ E (0, 0) hh)
      (by rw [List.size_toArray, splice_len _ _ _ (by simp [hus]; omega)]; simpa using hsz) hnv (fun x hx => by
        rcases List.mem_or_eq_of_mem_set hx with h | h
        · exact hzx x h
        · rw [h, splice_len _ _ _ (by omega)]; exact hxi) (by rw [hset]; exact hspl) (by simp; omega) hc2 (by simp; omega) (.inr ⟨by simp, rfl, tt, htl, rfl, rfl⟩) (.inr ⟨tt, htl, rfl⟩) (by simp) (by simp) (by simp) (by simp)
    unfold Oper.wp
    have hrun' : (execOp a.eval o).run P w = .ok .skip (w.setRow tt.g (splice vs.toList (i * z + f) (a.eval y).cells.toList).toArray) := by
      simp only [execOp, ho, hq, Instr.storeAt, Instr.sureAddr, Sem.run_bind, Sem.run_pure, Result.andThen_ok, hrun, htz]
    rw [hrun']
    exact hk _ _ _ hK (In.put s1 (hg.trans g1) (hf.trans f1) hL o.dst (RepT.junk _))
theorem setCell_id {w : World} {g o : Nat} {x : Value} (h : w.cell? ⟨g, o, none⟩ = some x) : w.setCell ⟨g, o, none⟩ x = w := by
  simp only [World.cell?] at h
  split at h
  · rename_i c e f hh
    simp only [Option.isSome_none, Bool.false_eq_true, if_false] at h
    obtain ⟨hlt, hx⟩ := Array.getElem?_eq_some_iff.1 h
    rw [setCell_eq_setRow w g o c e f x hh, show c.setIfInBounds o x = c by
      apply Array.ext
      · simp
      · intro i h1 h2
        rw [Array.getElem_setIfInBounds h2]
        split
        · rename_i e; subst e; exact hx.symm
        · rfl]
    exact setRow_self w g c e f hh
  · cases h
theorem a_storeRef (hty : TyOk P ty) {t : Nat} {x y : Operand} (ho : o.op = .store t x y) {d : TyD} (hd : ty t = some d) {cs : List AV} {off : Nat} (hx : s.ev x = .ref cs off) {v : Value} (hc : cs[off]? = some (.v v))
    (hy : (s.ev y).cellsB = some [.v v]) (hs : d.size = 1) (hb8 : isB8 v = false) {K : St → Prop} (hK : K (s.put o.dst .junk)) : Aop P c o s K := by
  rintro a w ⟨G, L, sm, hg, hf, hL⟩ Kc Qc hk
  have hr := cellsB_sound (sm.ev y) hy
  have hxr := sm.eve hx
  generalize hq : a.eval x = q at hxr
  obtain ⟨g, b, us, rfl, hru, hu⟩ := Rep.ref_inv hxr
  obtain ⟨hlt, hcx⟩ := List.getElem?_eq_some_iff.1 hc
  obtain ⟨u, hue, hrep, h1⟩ := hru.getD (j := off) hlt
  rw [List.getD_eq_getElem?_getD, hc, Option.getD_some] at hrep
  obtain rfl : u = v := by cases hrep; rfl
  have hv := sm.hs.val _ _ _ (hu off u hue)
  have hcell := cellT_cell hv
  have hfro := cellT_open hv hb8
  have hyc : (a.eval y).cells.toList = [u] := by
    have hl := hr.1
    obtain ⟨z, hz⟩ := List.length_eq_one_iff.1 (show (a.eval y).cells.toList.length = 1 from hl)
    have h2 := (hr.2 0 (by simp) (by rw [hr.1]; simp)).1
    simp only [hz, List.getElem_cons_zero] at h2
    rw [hz]
    cases h2; rfl
  have hys : (a.eval y).cells.size = 1 := by rw [← Array.length_toList, hyc]; rfl
  have hrun : (execOp a.eval o).run P w = .ok .skip w := by
    simp only [execOp, ho, hq, Instr.storeAt, Instr.sureAddr, Sem.run_bind, Sem.run_pure, Result.andThen_ok, storeVar, sizeOf_run (hty _ _ hd), hys, hs, ne_eq, not_true_eq_false, if_false, hyc, storeCells, Addr.add_lit, Nat.add_zero,
      run_store P w _ u _ h1, hcell, hfro, Bool.false_eq_true, setCell_id hcell]
  unfold Oper.wp
  rw [hrun]
  exact hk _ _ _ hK (In.put sm hg hf hL o.dst (RepT.junk _))
theorem rep_arr {G' : Gh} {B z c k n : Nat} (htl : G'.tl k = some (some ⟨B, n, z, c⟩)) (hk : k < G'.nx) (hc : n ≤ c) : Rep G' (.arr z k n) (.slice (some ⟨B, 0, none⟩) n c) :=
  .arr z k n _ n c ⟨hk, ⟨_, _, rfl, hc, .inr ⟨B, rfl⟩⟩, by rw [htl]; exact ⟨Nat.le_refl _, fun _ => ⟨rfl, rfl⟩⟩⟩
def rowX (T : Nat → Option TO) : AV → Option (Nat × List (List AV))
  | .arr z k n => match T k with
    | some (.cont z' xs) => if z' = z ∧ xs.length = n then some (z, xs) else none
    | _ => none
  | y => rowOf y
theorem rowX_sound {G : Gh} {L : List Nat} {h : Hp} {w : World} (hs : HSim G h w) {x : AV} {v : Value} (hx : RepT G L x v) {z : Nat} {ys : List (List AV)} (hr : rowX h.T x = some (z, ys)) :
    (∃ a, v = .slice a 0 0 ∧ ys = []) ∨ ∃ g o c us, v = .slice (some ⟨g, o, none⟩) ys.length c ∧ ys.length ≤ c ∧ (∀ y ∈ ys, y.length = z) ∧ RepL G ys.flatten us ∧ ∀ j y, us[j]? = some y → w.cell? ⟨g, o + j, none⟩ = some y := by
  unfold rowX at hr
  split at hr
  · rename_i z' k n
    split at hr
    · rename_i z2 xs hT
      split at hr
      · rename_i hc
        obtain ⟨rfl, rfl⟩ := hc
        simp only [Option.some.injEq, Prod.mk.injEq] at hr
        obtain ⟨rfl, rfl⟩ := hr
        have hx' : Rep G (.arr z2 k xs.length) v := hx
        cases hx' with
        | arr _ _ _ a m c ho =>
        obtain ⟨_, ⟨q', c', e2, _, _⟩, hm⟩ := ho
        rcases hs.tok k _ hT with ⟨e0, e1⟩ | ⟨tt, cur, E, htl, htm, htp, hth, hts, htc, htcm, htf, htz, hzx, htr⟩
        · rw [e0] at hm
          obtain ⟨_, a2, e3⟩ := hm
          exact .inl ⟨a2, e3, e1⟩
        · rw [htl] at hm
          obtain ⟨hxe, _⟩ := hm.2 htm.symm
          refine .inr ⟨tt.g, 0, tt.c, cur.toList.take xs.flatten.length, hxe, by rw [← htm]; exact htc, hzx, htr, fun j y hj => ?_⟩
          rw [List.getElem?_take] at hj
          split at hj
          · rw [Nat.zero_add]; simpa [World.cell?, hth] using hj
          · cases hj
      · cases hr
    · cases hr
  · rcases rowOf_sound hx hr with h1 | ⟨g, o, c, us, h1, h2, h3, h4, h5⟩
    · exact .inl h1
    · exact .inr ⟨g, o, c, us, h1, h2, h3, h4, fun j y hj => hs.cell _ _ _ (h5 j y hj)⟩
theorem a_appendArr (hty : TyOk P ty) {t : Nat} {x y : Operand} (ho : o.op = .call { callee := .builtin .append, args := #[x, y], argTypes := #[t, t] }) {e : TyD} (he : elemD ty t = some e) {z : Nat} {xs : List (List AV)} {k n : Nat} (hx : s.ev x = .arr z k n)
    (hz : z = e.size) (hT : s.h.T k = some (.cont z xs)) (hn : xs.length = n) {zy : Nat} {ys : List (List AV)} (hy : rowX s.h.T (s.ev y) = some (zy, ys)) (hzy : zy = e.size ∨ ys = []) (hs0 : 0 < e.size) (hzl : e.zero.length = e.size) (hb : (xs.length + ys.length) * e.bytes ≤ 140737488355328) (h63 : xs.length + ys.length ≤ 9223372036854775807) {K : St → Prop}
    (hK : K ({ s with h := { s.h with T := upd s.h.T k (some (.cont z (xs ++ ys))) } }.put o.dst (.arr z k (n + ys.length)))) : Aop P c o s K := by
  rintro a w ⟨G, L, sm, hg, hf, hL⟩ Kc Qc hk
  obtain ⟨u, hu, hue⟩ := elemD_info hty he
  obtain ⟨i, D, zv, hi, hD, hisz, hiby, _, hiz, hz1, hzz⟩ := tyd_info hue
  have hxr0 := sm.eve hx
  have hyi := rowX_sound sm.hs (sm.ev y) hy
  have htk := sm.hs.tok k _ hT
  generalize hxv : a.eval x = xv at hxr0
  generalize hyv : a.eval y = yv at hyi
  have hxr : Rep G (.arr z k n) xv := hxr0
  unfold Oper.wp
  have hexec : ∀ v w', (Builtin.append_ #[t, t] o.type #[xv, yv]).run P w = .ok v w' → (execOp a.eval o).run P w = .ok (.value v) w' := fun v w' h => by
    simp only [execOp, ho, resolve, invoke, builtin, Sem.run_bind, Sem.run_pure, Result.andThen_ok, List.map_toArray, List.map_cons, List.map_nil, hxv, hyv, h]
  cases hxr with
  | arr _ _ _ b m cc ha =>
  obtain ⟨hkk, ⟨b', c', e1, hcc, hgg⟩, hm⟩ := ha
  simp only [Value.slice.injEq] at e1
  obtain ⟨rfl, rfl, rfl⟩ := e1
  by_cases hm0 : ys = []
  · subst hm0
    have hrun : (Builtin.append_ #[t, t] o.type #[.slice b m cc, yv]).run P w = .ok (.slice b m cc) w := by
      rcases hyi with ⟨_, rfl, _⟩ | ⟨g', of', cc', us', rfl, _⟩
      · exact append_none_run hu hi _ _ _ hcc _ 0 w
      · exact append_none_run hu hi _ _ _ hcc _ _ w
    rw [hexec _ _ hrun]
    have e1 : upd s.h.T k (some (.cont z (xs ++ []))) = s.h.T := by
      funext j
      by_cases hj : j = k
      · subst hj; rw [upd_same, hT]; simp
      · rw [upd_other _ _ hj]
    rw [e1] at hK
    exact hk _ _ _ hK (In.put sm hg hf hL o.dst (RepT.of (.arr _ _ _ _ _ _ ⟨hkk, ⟨_, _, rfl, hcc, hgg⟩, hm⟩)))
  · have hm0' : 0 < ys.length := List.length_pos_iff.2 hm0
    have hzy' : zy = e.size := by rcases hzy with h | h; exact h; exact absurd h hm0
    rcases hyi with ⟨_, _, h0⟩ | ⟨gy, oy, cy, us, rfl, hcy, hzys, hry, hvy⟩
    · exact absurd h0 hm0
    have hlu : us.length = ys.length * e.size := by rw [hry.1, flatten_len hzys, hzy']
    have h1us : ∀ u ∈ us, u.oneCell' = true := fun u hu' => by
      obtain ⟨j, hj, e'⟩ := List.getElem_of_mem hu'
      subst e'
      exact (hry.2 j (by rw [← hry.1]; exact hj) hj).2
    have hcell : ∀ j u, us[j]? = some u → w.cell? ((⟨gy, oy, none⟩ : Addr).add j) = some u := fun j u hj => by
      rw [Addr.add_lit]; exact hvy j u hj
    have hgrow : ∀ (olds : List Value) (oldc : Nat), RepL G xs.flatten olds → (∀ y ∈ xs, y.length = z) →
        (Builtin.append_ #[t, t] o.type #[.slice b m cc, .slice (some ⟨gy, oy, none⟩) ys.length cy]).run P w = .ok (.slice (some ⟨w.heap.size, 0, none⟩) (xs.length + ys.length) (grownCap w (xs.length + ys.length) oldc u)) (w.drew.alloc (.cells (olds.toArray ++ us.toArray ++ Builtin.zeroCells zv.cells (grownCap w (xs.length + ys.length) oldc u - (xs.length + ys.length))) u)) →
        Oper.upon P o a Kc Qc ((execOp a.eval o).run P w) := by
      intro olds oldc hro hzx hrun
      rw [hexec _ _ hrun]
      have hlo : olds.length = xs.length * e.size := by rw [hro.1, flatten_len hzx, hz]
      have hzvs : zv.cells.size = e.size := by rw [← hzl, hzz]; simp
      generalize hcap : grownCap w (xs.length + ys.length) oldc u = cap
      have hge : xs.length + ys.length ≤ cap := by rw [← hcap]; exact grownCap_ge _ _ _ _
      have hcm : cap ≤ maxLen := by rw [← hcap]; exact grownCap_le_maxLen _ _ _ _ (by unfold maxLen; omega)
      have hall : RepL G (xs ++ ys).flatten (olds ++ us) := by rw [List.flatten_append]; exact hro.append hry
      have hzall : ∀ y ∈ xs ++ ys, y.length = z := fun y hy => by
        rcases List.mem_append.1 hy with h | h
        · exact hzx y h
        · rw [hzys y h, hzy', hz]
      obtain ⟨G', rfl, s1, g1, f1⟩ := sm.setCont (k := k) (xs := xs ++ ys) (B := w.heap.size) (z := z) (c := cap)
        (w' := w.drew.alloc (.cells (olds.toArray ++ us.toArray ++ Builtin.zeroCells zv.cells (cap - (xs.length + ys.length))) u)) (arr := olds.toArray ++ us.toArray ++ Builtin.zeroCells zv.cells (cap - (xs.length + ys.length))) (E := u) hT
        (fun b hb _ => RowKit.Below.heap_alloc w.drew _ b hb) (heap_alloc_new w.drew _) (by
          simp only [Array.size_append, List.size_toArray, size_zeroCells, hzvs, hlo, hlu, ← Nat.add_mul]
          rw [hz]; congr 1; omega) (fun o => sm.hs.val_new (Nat.le_refl _) o) hzall (by
          have : ((olds.toArray ++ us.toArray ++ Builtin.zeroCells zv.cells (cap - (xs.length + ys.length))).toList.take (xs ++ ys).flatten.length) = olds ++ us := by
            rw [Array.toList_append, Array.toList_append, List.take_append_of_le_length (by rw [← hall.1]; simp), List.take_of_length_le (by rw [← hall.1]; simp)]
          rw [this]; exact hall) (by simp; omega) hcm (by simp; omega) (.inl (by simp; omega)) (.inl (Nat.le_refl _)) rfl rfl rfl (by simp)
      refine hk _ _ _ hK (In.put s1 (hg.trans g1) (hf.trans f1) hL o.dst (RepT.of ?_))
      have hrep := rep_arr (G' := { G with tl := upd G.tl k (some (some ⟨w.heap.size, (xs ++ ys).length, z, cap⟩)) }) (upd_same _ _ _) hkk (by simp; omega)
      rw [List.length_append, hn] at hrep ⊢
      exact hrep
    rcases htk with ⟨htl, h0⟩ | ⟨tt, vs, E, htl, htm, htpos, hth, hts, htc, htcm, htf, htz, hzx, hrr⟩
    · subst h0
      rw [htl] at hm
      obtain ⟨rfl, ad, e2⟩ := hm
      simp only [Value.slice.injEq, true_and] at e2
      obtain ⟨rfl, rfl⟩ := e2
      cases b with
      | none =>
        have hrun := run_append_nil (P := P) w t o.type u i zv hu hi hiz ⟨gy, oy, none⟩ ys.length cy us (by rw [hisz]; exact hlu) hcell hm0' (by simp at h63; omega) (by rw [hiby]; simp at hb; omega)
        refine hgrow [] 0 (RepL.nil G) (by simp) ?_
        simpa using hrun
      | some ad =>
        have hrun := run_append_grow (P := P) w t o.type u i zv hu hi hiz ad 0 0 [] (by simp) (by simp) ⟨gy, oy, none⟩ ys.length cy us (by rw [hisz]; exact hlu) hcell (by omega) (by simp at h63 ⊢; omega) (by rw [hiby]; exact growslice_fits (by omega) (by simpa using hb))
        refine hgrow [] 0 (RepL.nil G) (by simp) ?_
        simpa using hrun
    · rw [htl] at hm
      obtain ⟨hxe, _⟩ := hm.2 (by rw [htm, hn])
      simp only [Value.slice.injEq, true_and] at hxe
      obtain ⟨rfl, rfl⟩ := hxe
      have hfl := flatten_len hzx
      have hcl : xs.length * z ≤ tt.c * z := Nat.mul_le_mul_right _ (by omega)
      rw [htz] at hts
      have holdl : (vs.toList.take xs.flatten.length).length = xs.length * e.size := by rw [hrr.1, hfl, hz]
      subst hn
      by_cases hroom : xs.length + ys.length ≤ tt.c
      · have hroom2 : (xs.length + ys.length) * z ≤ tt.c * z := Nat.mul_le_mul_right _ hroom
        rw [Nat.add_mul] at hroom2
        have hfit : xs.length * i.size + us.length ≤ vs.size := by rw [hisz, hlu, hts, ← hz]; exact hroom2
        have hrun := append_room_run w t o.type u i hu hi tt.g xs.length tt.c vs E hth ⟨gy, oy, none⟩ ys.length cy us (by rw [hisz]; exact hlu) hcell h1us hroom hfit
        rw [hexec _ _ hrun]
        have hsl : (splice vs.toList (xs.length * i.size) us).length = vs.size := by rw [splice_len _ _ _ (by simpa using hfit)]; simp
        have hall : RepL G (xs ++ ys).flatten (vs.toList.take xs.flatten.length ++ us) := by rw [List.flatten_append]; exact hrr.append hry
        have hzall : ∀ y ∈ xs ++ ys, y.length = z := fun y hy => by
          rcases List.mem_append.1 hy with h | h
          · exact hzx y h
          · rw [hzys y h, hzy', hz]
        obtain ⟨G', rfl, s1, g1, f1⟩ := sm.setCont (k := k) (xs := xs ++ ys) (B := tt.g) (z := z) (c := tt.c)
          (w' := w.setRow tt.g (splice vs.toList (xs.length * i.size) us).toArray) (arr := (splice vs.toList (xs.length * i.size) us).toArray) (E := E) hT
          (fun b _ hne => heap_setRow _ hne) (setRow_heap w tt.g vs _ E (0, 0) hth) (by rw [List.size_toArray, hsl, hts]) htf hzall (by
            have : (splice vs.toList (xs.length * i.size) us).toArray.toList.take (xs ++ ys).flatten.length = vs.toList.take xs.flatten.length ++ us := by
              have e3 : xs.flatten.length = xs.length * i.size := by rw [hfl, hisz, hz]
              simp only [splice, e3]
              rw [List.take_append_of_le_length (by rw [← hall.1]; simp [e3]), List.take_of_length_le (by rw [← hall.1]; simp [e3])]
            rw [this]; exact hall) (by simp; omega) htcm (by simp; omega) (.inl (by simp; omega)) (.inr ⟨tt, htl, rfl⟩) (by simp) (by simp) (by simp) (by simp)
        refine hk _ _ _ hK (In.put s1 (hg.trans g1) (hf.trans f1) hL o.dst (RepT.of ?_))
        have hrep := rep_arr (G' := { G with tl := upd G.tl k (some (some ⟨tt.g, (xs ++ ys).length, z, tt.c⟩)) }) (upd_same _ _ _) hkk (by simp; omega)
        rw [List.length_append] at hrep ⊢
        exact hrep
      · have holds : ∀ j v, (vs.toList.take xs.flatten.length)[j]? = some v → w.cell? ((⟨tt.g, 0, none⟩ : Addr).add j) = some v := fun j v hj => by
          rw [List.getElem?_take] at hj
          split at hj
          · rw [Addr.add_lit, Nat.zero_add]; simpa [World.cell?, hth] using hj
          · cases hj
        have hrun := run_append_grow (P := P) w t o.type u i zv hu hi hiz ⟨tt.g, 0, none⟩ xs.length tt.c (vs.toList.take xs.flatten.length) (by rw [hisz]; exact holdl) holds ⟨gy, oy, none⟩ ys.length cy us (by rw [hisz]; exact hlu) hcell (by omega) (by omega) (by rw [hiby]; exact growslice_fits (by omega) hb)
        exact hgrow _ tt.c hrr hzx hrun
theorem Sim.newArr {G : Gh} {L : List Nat} {s : St} {a : Act} {w : World} (sm : Sim G L s a w) {z : Nat} {xs : List (List AV)} {arr : Array Value} (E : TypeId) (hzx : ∀ x ∈ xs, x.length = z) (hr : RepL G xs.flatten arr.toList) (hcm : xs.length ≤ maxLen) :
    ∃ G', s.h.T G.nx = none ∧ Sim G' L { s with h := { s.h with T := upd s.h.T G.nx (some (.cont z xs)) } } a (w.alloc (.cells arr E)) ∧ GLe G G' ∧ Fr G s.h w G' { s.h with T := upd s.h.T G.nx (some (.cont z xs)) } (w.alloc (.cells arr E)) ∧ Rep G' (.arr z G.nx xs.length) (.slice (some ⟨w.heap.size, 0, none⟩) xs.length xs.length) := by
  obtain ⟨hT, s1, g1, f1⟩ := sm.newTok (o := .cont z []) (.inr (.inl ⟨z, rfl⟩))
  have hb : ∀ b, b < w.heap.size → (w.alloc (.cells arr E)).heap[b]? = w.heap[b]? := fun b hb => RowKit.Below.heap_alloc w _ b hb
  by_cases h0 : xs = []
  · subst h0
    refine ⟨G.newTk, hT, s1.below hb, g1, f1.trans (Fr.below (Fr.refl _ _ _) hb rfl rfl rfl (by simp)), .arr _ _ _ _ _ _ ⟨by simp [Gh.newTk], ⟨_, _, rfl, Nat.le_refl _, .inr ⟨_, rfl⟩⟩, ?_⟩⟩
    have : G.newTk.tl G.nx = some none := upd_same _ _ _
    rw [this]
    exact ⟨rfl, _, rfl⟩
  · have hl : 0 < xs.length := List.length_pos_iff.2 h0
    have hlen := flatten_len hzx
    obtain ⟨G', rfl, s2, g2, f2⟩ := s1.setCont (k := G.nx) (z := z) (xs := xs) (B := w.heap.size) (c := xs.length) (w' := w.alloc (.cells arr E)) (arr := arr) (E := E) (upd_same _ _ _) (fun b hb' _ => hb b hb') (heap_alloc_new w _)
      (by have := hr.1; simp only [Array.length_toList] at this; rw [this, hlen]) (fun o => sm.hs.val_new (Nat.le_refl _) o) hzx (by rw [List.take_of_length_le (by rw [hr.1]; exact Nat.le_refl _)]; exact hr.mono g1) (Nat.le_refl _) hcm hl (.inl (by simpa using hl)) (.inl (Nat.le_refl _)) rfl rfl rfl (by simp)
    simp only [upd_upd] at s2 f2
    exact ⟨_, hT, s2, g1.trans g2, f1.trans f2, rep_arr (upd_same _ _ _) (by simp [Gh.newTk]) (Nat.le_refl _)⟩
theorem toList_madeCellsN (z : Array Value) (n : Nat) (h : 0 < z.size) : (madeCells z (n * z.size)).toList = (List.replicate n z.toList).flatten := by
  have hfl : (List.replicate n z.toList).flatten.length = n * z.size := by
    have := flatten_len (z := z.size) (xs := List.replicate n z.toList) (fun x hx => by rw [(List.mem_replicate.1 hx).2]; simp)
    rw [this, List.length_replicate]
  refine List.ext_getElem? fun j => ?_
  by_cases hj : j < n * z.size
  · have hi : j / z.size < n := Nat.div_lt_of_lt_mul (by rwa [Nat.mul_comm])
    have hr := Nat.mod_lt j h
    have h1 := flatten_at (z := z.size) (xs := List.replicate n z.toList) (fun x hx => by rw [(List.mem_replicate.1 hx).2]; simp) (i := j / z.size) (by simpa using hi) (j := j % z.size) hr
    rw [Nat.div_add_mod'] at h1
    rw [h1]
    simp [madeCells, hj, hr]
  · rw [List.getElem?_eq_none (by simp [madeCells]; omega), List.getElem?_eq_none (by omega)]
theorem a_makeSlice (hty : TyOk P ty) {t : Nat} {x y : Operand} (ho : o.op = .makeSlice t x y) {e : TyD} (he : elemD ty t = some e) {k1 k2 : IntKind} {n : Int} (hx : s.ev x = .v (.int k1 n)) (hy : s.ev y = .v (.int k2 n)) (h0 : 0 ≤ n) (h1 : 0 < e.size) (hzl : e.zero.length = e.size)
    (hb : n * e.bytes ≤ 140737488355328) (h63 : n ≤ 9223372036854775807) {K : St → Prop} (hK : ∀ k, s.h.T k = none → K ({ s with h := { s.h with T := upd s.h.T k (some (.cont e.size (List.replicate n.toNat e.zero))) } }.put o.dst (.arr e.size k n.toNat))) : Aop P c o s K := by
  rintro a w ⟨G, L, sm, hg, hf, hL⟩ Kc Qc hk
  obtain ⟨u, hu, hue⟩ := elemD_info hty he
  obtain ⟨i, D, zv, hi, hD, hisz, hiby, _, hiz, hz1, hzz⟩ := tyd_info hue
  have hzc : zv.cells.size = i.size := by rw [hzz] at hzl; simp at hzl; omega
  unfold Oper.wp
  have hrun := run_make (P := P) w t u i zv hu hi hiz k1 k2 n n h0 (Int.le_refl _) (by rw [hiby, Int.mul_comm]; omega) h63
  obtain ⟨G', hT, s1, g1, f1, r1⟩ := sm.newArr (z := e.size) (xs := List.replicate n.toNat e.zero) (arr := madeCells zv.cells (n.toNat * i.size)) u (fun x hx => by rw [(List.mem_replicate.1 hx).2]; exact hzl) (by
    rw [← hzc, toList_madeCellsN _ _ (by omega)]
    have hz0 : RepL G e.zero zv.cells.toList := by rw [hzz]; exact RepL.map_v G hz1
    induction n.toNat with
    | zero => exact RepL.nil G
    | succ m ih => rw [List.replicate_succ, List.replicate_succ, List.flatten_cons, List.flatten_cons]; exact hz0.append ih) (by simp [maxLen]; omega)
  simp only [List.length_replicate] at r1
  have hrun' : (execOp a.eval o).run P w = .ok (.value (.slice (some ⟨w.heap.size, 0, none⟩) n.toNat n.toNat)) (w.alloc (.cells (madeCells zv.cells (n.toNat * i.size)) u)) := by
    simp only [execOp, ho, sm.evv hx, sm.evv hy, Sem.run_bind, hrun, Result.andThen_ok, Sem.run_pure]
  rw [hrun']
  exact hk _ _ _ (hK _ hT) (In.put s1 (hg.trans g1) (hf.trans f1) hL o.dst (RepT.of r1))
theorem a_slice0 (hty : TyOk P ty) {t : Nat} {parts : Array (Nat × Operand)} (ho : o.op = .buildSlice t 0 parts) (hp : parts.toList.map (·.1) = List.range 0) {e : TyD} (he : elemD ty t = some e) {K : St → Prop}
    (hK : ∀ k, s.h.T k = none → K ({ s with h := { s.h with T := upd s.h.T k (some (.cont e.size [])) } }.put o.dst (.arr e.size k 0))) : Aop P c o s K := by
  rintro a w ⟨G, L, sm, hg, hf, hL⟩ Kc Qc hk
  obtain ⟨u, hu, hue⟩ := elemD_info hty he
  have hpe : parts.toList = [] := by cases h : parts.toList with | nil => rfl | cons x l => rw [h] at hp; simp at hp
  obtain ⟨G', hT, s1, g1, f1, r1⟩ := sm.newArr (z := e.size) (xs := []) (arr := #[]) u (by simp) (RepL.nil G) (by simp [maxLen])
  unfold Oper.wp
  have hrun : (execOp a.eval o).run P w = .ok (.value (.slice (some ⟨w.heap.size, 0, none⟩) 0 0)) (w.alloc (.cells #[] u)) := by
    have hns : ¬ (0 * e.size > 2 ^ 24) := by omega
    simp only [execOp, ho, Instr.buildSlice, Sem.run_bind, run_underlying hu, Result.andThen_ok, sizeOf_run hue, hns, if_false, Sem.run_pure]
    simp only [Array.toList_map, hpe, Instr.fill, newRow, List.map_nil, Sem.run_bind, run_newObj, Sem.run_pure, Result.andThen_ok, World.alloc_eq, Nat.zero_mul, ↓reduceIte]
    rw [show Array.range 0 = #[] from rfl, Array.map_empty]
  rw [hrun]
  exact hk _ _ _ (hK _ hT) (In.put s1 (hg.trans g1) (hf.trans f1) hL o.dst (RepT.of r1))
theorem a_slice0t (hty : TyOk P ty) {t : Nat} {parts : Array (Nat × Operand)} (ho : o.op = .buildSlice t 0 parts) (hp : parts.toList.map (·.1) = List.range 0) {e : TyD} (he : elemD ty t = some e) {K : St → Prop}
    (hK : ∀ k, s.h.T k = none → K ({ s with h := { s.h with T := upd s.h.T k (some (.tail 0)) } }.put o.dst (.row e.size [] (some k)))) : Aop P c o s K := by
  rintro a w ⟨G, L, sm, hg, hf, hL⟩ Kc Qc hk
  obtain ⟨u, hu, hue⟩ := elemD_info hty he
  have hpe : parts.toList = [] := by cases h : parts.toList with | nil => rfl | cons x l => rw [h] at hp; simp at hp
  obtain ⟨hT, s1, g1, f1⟩ := sm.newTok (o := .tail 0) (.inl rfl)
  have hb : ∀ b, b < w.heap.size → (w.alloc (.cells #[] u)).heap[b]? = w.heap[b]? := fun b hb => RowKit.Below.heap_alloc w _ b hb
  unfold Oper.wp
  have hrun : (execOp a.eval o).run P w = .ok (.value (.slice (some ⟨w.heap.size, 0, none⟩) 0 0)) (w.alloc (.cells #[] u)) := by
    have hns : ¬ (0 * e.size > 2 ^ 24) := by omega
    simp only [execOp, ho, Instr.buildSlice, Sem.run_bind, run_underlying hu, Result.andThen_ok, sizeOf_run hue, hns, if_false, Sem.run_pure]
    simp only [Array.toList_map, hpe, Instr.fill, newRow, List.map_nil, Sem.run_bind, run_newObj, Sem.run_pure, Result.andThen_ok, World.alloc_eq, Nat.zero_mul, ↓reduceIte]
    rw [show Array.range 0 = #[] from rfl, Array.map_empty]
  rw [hrun]
  refine hk _ _ _ (hK _ hT) (In.put (s1.below hb) (hg.trans g1) (hf.trans (f1.trans (Fr.below (Fr.refl _ _ _) hb rfl rfl rfl (by simp)))) hL o.dst (RepT.of ?_))
  refine .row _ [] _ _ _ _ _ (fun _ => undef) rfl (Nat.le_refl _) (by simp) (fun j hj => by simp at hj) (fun j hj => by simp at hj) (fun j hj => by simp at hj) ⟨by simp [Gh.newTk], ?_⟩
  have : G.newTk.tl G.nx = some none := upd_same _ _ _
  rw [this]
  exact ⟨rfl, _, rfl⟩
theorem a_sliceN (hty : TyOk P ty) {t n : Nat} {parts : Array (Nat × Operand)} (ho : o.op = .buildSlice t n parts) {e : TyD} (he : elemD ty t = some e) (hidx : parts.toList.map (·.1) = List.range n) (hsz : n * e.size ≤ 16777216) {xs : List (List AV)}
    (hx : litRow e.size (parts.toList.map fun p => s.ev p.2) = some xs) (hz0 : e.size ≠ 0) (hzl : e.zero.length = e.size) {K : St → Prop}
    (hK : ∀ k, s.h.T k = none → K ({ s with h := { s.h with T := upd s.h.T k (some (.cont e.size xs)) } }.put o.dst (.arr e.size k xs.length))) : Aop P c o s K := by
  rintro a w ⟨G, L, sm, hg, hf, hL⟩ Kc Qc hk
  obtain ⟨u, hu, hue⟩ := elemD_info hty he
  have hn : parts.toList.length = n := by have := congrArg List.length hidx; simpa using this
  obtain ⟨z, hzr, hzz, h1⟩ := zero_run hue w
  have hzs : z.cells.size = e.size := by rw [← hzl, hzz]; simp
  let cur : Array Value := (Array.range (n * e.size)).map (z.cells[· % z.cells.size]!)
  have hcur : cur.size = n * e.size := by simp [cur]
  obtain ⟨out, us, ho', hou, hro, hxl, hxz⟩ := litRow_sound (G := G) (L := L) (size := e.size) (parts.toList.map fun p => s.ev p.2) (parts.toList.map fun p => a.eval p.2) 0 xs cur (by simp) (fun j p q hp hq => by
      rw [List.getElem?_map] at hp hq
      cases hpj : parts.toList[j]? with
      | none => rw [hpj] at hp; cases hp
      | some pj =>
        rw [hpj] at hp hq
        simp only [Option.map_some, Option.some.injEq] at hp hq
        subst hp; subst hq
        exact sm.ev pj.2) hx (by rw [hcur, List.length_map, hn]; omega)
  simp only [Nat.zero_mul, List.take_zero, List.nil_append] at hou
  have hxl' : xs.length = n := by rw [hxl, List.length_map, hn]
  have hrun : (execOp a.eval o).run P w = .ok (.value (.slice (some ⟨w.heap.size, 0, none⟩) n n)) (w.alloc (.cells us.toArray u)) := by
    have hz := zip_map_range parts.toList a.eval (by rw [hn]; exact hidx)
    rw [← hz] at ho'
    have hns : ¬ (n * e.size > 2 ^ 24) := by omega
    simp only [execOp, ho, Instr.buildSlice, Sem.run_bind, run_underlying hu, Result.andThen_ok, sizeOf_run hue, hns, if_false, Sem.run_pure]
    by_cases h0 : n * e.size = 0
    · have hn0 : n = 0 := by rcases Nat.mul_eq_zero.1 h0 with h | h; exact h; exact absurd h hz0
      subst hn0
      have hpe : parts.toList = [] := List.eq_nil_of_length_eq_zero hn
      have hus : us = [] := by
        have := hro.1
        have hx0 : xs = [] := List.eq_nil_of_length_eq_zero hxl'
        subst hx0
        simpa using this
      subst hus
      simp only [Array.toList_map, hpe, Instr.fill, newRow, List.map_nil, Sem.run_bind, run_newObj, Sem.run_pure, Result.andThen_ok, World.alloc_eq, Nat.zero_mul, ↓reduceIte]
      rw [show Array.range 0 = #[] from rfl, Array.map_empty]
    · simp only [h0, if_false, Sem.run_bind, hzr, Result.andThen_ok, Sem.run_pure, Array.toList_map]
      rw [show Array.map (fun x => z.cells[x % z.cells.size]!) (Array.range (n * e.size)) = cur from rfl, ho']
      have : out = us.toArray := by rw [← hou]
      simp [newRow, this]
  have hns : xs.length ≤ 16777216 := by
    rw [hxl']
    exact Nat.le_trans (Nat.le_mul_of_pos_right n (by omega)) hsz
  obtain ⟨G', hT, s1, g1, f1, r1⟩ := sm.newArr (z := e.size) (xs := xs) (arr := us.toArray) u hxz (by simpa using hro) (by unfold maxLen; omega)
  unfold Oper.wp
  rw [hrun]
  rw [hxl'] at r1
  refine hk _ _ _ (hK _ hT) (In.put s1 (hg.trans g1) (hf.trans f1) hL o.dst (RepT.of ?_))
  rw [hxl']
  exact r1
end
end Go.Proofs.YtpnfkfbapfnboaaGreatDoor

