/- The operation append, where the right to it is there. -/
import Derived.Test.YtpnfkfbapfnboaaGreatDoorAvApp
namespace Go.Proofs.YtpnfkfbapfnboaaGreatDoor
open Go
set_option linter.unusedVariables false
set_option linter.unusedSimpArgs false
def rowOf : AV → Option (Nat × List (List AV))
  | .row z ys _ => some (z, ys)
  | .v (.slice none 0 0) => some (0, [])
  | .v (.slice (some _) 0 0) => some (0, [])
  | .v (.slice (some ⟨_, _, none⟩) 0 _) => some (0, [])
  | _ => none
theorem rowOf_sound {G : Gh} {L : List Nat} {x : AV} {v : Value} (h : RepT G L x v) {z : Nat} {ys : List (List AV)} (hr : rowOf x = some (z, ys)) :
    (∃ a, v = .slice a 0 0 ∧ ys = []) ∨ ∃ g o c us, v = .slice (some ⟨g, o, none⟩) ys.length c ∧ ys.length ≤ c ∧ (∀ y ∈ ys, y.length = z) ∧ RepL G ys.flatten us ∧ ∀ j y, us[j]? = some y → G.val g (o + j) = some y := by
  unfold rowOf at hr
  split at hr <;> simp only [Option.some.injEq, Prod.mk.injEq, reduceCtorEq] at hr
  · obtain ⟨rfl, rfl⟩ := hr
    exact Rep.row_inv h
  · obtain ⟨rfl, rfl⟩ := hr
    exact .inl ⟨none, h.v_inv, rfl⟩
  · obtain ⟨rfl, rfl⟩ := hr
    exact .inl ⟨_, h.v_inv, rfl⟩
  · rename_i g o c _
    obtain ⟨rfl, rfl⟩ := hr
    exact .inr ⟨g, o, c, [], h.v_inv, Nat.zero_le _, by simp, RepL.nil G, by simp⟩
section
variable {P : Program}
theorem append_none_run {t ty e : TypeId} {i : TypeInfo} (ht : P.underlying t = some (.slice e)) (hi : P.info? e = some i) (base : Option Addr) (n c : Nat) (hc : n ≤ c) (b : Option Addr) (c' : Nat) (w : World) :
    (Builtin.append_ #[t, t] ty #[.slice base n c, .slice b 0 c']).run P w = .ok (.slice base n c) w := by
  have hf : (Builtin.firstCells i.size 0 (.slice b 0 c')).run P w = .ok #[] w := by
    cases b with
    | none => simp [Builtin.firstCells]
    | some b => simp [Builtin.firstCells, loadCells, loadCellsFrom]
  cases base with
  | none => simp [Builtin.append_, run_underlying ht, sizeOf, typeInfo, hi, Builtin.lenOf, hc, hf]
  | some a => simp [Builtin.append_, run_underlying ht, sizeOf, typeInfo, hi, Builtin.lenOf, hc, hf, storeCells]
theorem append_room_run (w : World) (t ty e : TypeId) (i : TypeInfo) (ht : P.underlying t = some (.slice e)) (hi : P.info? e = some i)
    (g sLen sCap : Nat) (cur : Array Value) (E : TypeId) (hg : w.heap[g]? = some (.cells cur E (0, 0)))
    (a : Addr) (m c : Nat) (news : List Value) (hl : news.length = m * i.size) (hnews : ∀ j u, news[j]? = some u → w.cell? (a.add j) = some u) (h1 : ∀ u ∈ news, u.oneCell' = true)
    (hroom : sLen + m ≤ sCap) (hfit : sLen * i.size + news.length ≤ cur.size) :
    (Builtin.append_ #[t, t] ty #[.slice (some ⟨g, 0, none⟩) sLen sCap, .slice (some a) m c]).run P w =
      .ok (.slice (some ⟨g, 0, none⟩) (sLen + m) sCap) (w.setRow g (splice cur.toList (sLen * i.size) news).toArray) := by
  have hf := run_firstCells_some (P := P) w i.size m a m c news hl hnews
  have hst := run_storeCells_at P g (sLen * i.size) E news 0 cur w hg (by simpa using hfit) h1
  simp only [Nat.add_zero] at hst
  simp [Builtin.append_, run_underlying ht, sizeOf, typeInfo, hi, Builtin.lenOf, hroom, hf, Addr.add_lit, hst, splice]
end
theorem rep_app {G G' : Gh} (hle : GLe G G') {B z c k : Nat} {xs : List (List AV)} {vs : List Value} (hz : ∀ x ∈ xs, x.length = z) (hr : RepL G xs.flatten vs) (hval : ∀ (j : Nat) x, vs[j]? = some x → G'.val B j = some x)
    (htl : G'.tl k = some (some ⟨B, xs.length, z, c⟩)) (hk : k < G'.nx) (hc : xs.length ≤ c) : Rep G' (.row z xs (some k)) (.slice (some ⟨B, 0, none⟩) xs.length c) := by
  have hl := flatten_len hz
  have hl2 := hr.1
  have hget : ∀ j (hj : j < vs.length), vs.getD j undef = vs[j] := fun j hj => by simp [List.getD_eq_getElem?_getD, List.getElem?_eq_getElem hj]
  refine Rep.row z xs (some k) B 0 xs.length c (fun j => vs.getD j undef) rfl hc hz (fun j hj => ?_) (fun j hj => ?_) (fun j hj => ?_) ⟨hk, ?_⟩
  · have hj' : j < vs.length := by omega
    rw [Nat.zero_add]
    exact hval j _ (by rw [hget j hj', List.getElem?_eq_getElem hj'])
  · have hj' : j < vs.length := by omega
    show Rep G' _ (vs.getD j undef)
    rw [hget j hj']; exact (hr.2 j hj hj').1.mono hle
  · have hj' : j < vs.length := by omega
    show (vs.getD j undef).oneCell' = true
    rw [hget j hj']; exact (hr.2 j (by omega) hj').2
  · rw [htl]; exact ⟨Nat.le_refl _, fun _ => ⟨rfl, rfl⟩⟩
section
variable {P : Program} {c : Cx} {o : Oper} {s : St} {ty : Nat → Option TyD}
theorem a_append_at (hty : TyOk P ty) {t : Nat} {x y : Operand} (ho : o.op = .call { callee := .builtin .append, args := #[x, y], argTypes := #[t, t] }) {e : TyD} (he : elemD ty t = some e) {z : Nat} {xs : List (List AV)} {k : Nat}
    {G : Gh} {L : List Nat} {a : Act} {w : World} (sm : Sim G L s a w) (hg : GLe c.G G) (hf : Fr c.G c.h c.w G s.h w) (hL : ∀ b ∈ L, c.w.heap.size ≤ b) (hxr : Rep G (.row z xs (some k)) (a.eval x))
    (hz : z = e.size) (hT : s.h.T k = some (.tail xs.length)) {zy : Nat} {ys : List (List AV)} (hy : rowOf (s.ev y) = some (zy, ys)) (hzy : zy = e.size ∨ ys = []) (hs0 : 0 < e.size) (hzl : e.zero.length = e.size) (hb : (xs.length + ys.length) * e.bytes ≤ 140737488355328) (h63 : xs.length + ys.length ≤ 9223372036854775807) {K : St → Prop}
    (hK : K ({ s with h := { s.h with T := upd s.h.T k (some (.tail (xs.length + ys.length))) } }.put o.dst (.row z (xs ++ ys) (some k)))) (Kc : Act → World → Prop) (Qc : Exit → Act → World → Prop) (hk : ∀ s' a' w', K s' → In c s' a' w' → Kc a' w') : o.wp P a w Kc Qc := by
  obtain ⟨u, hu, hue⟩ := elemD_info hty he
  obtain ⟨i, D, zv, hi, hD, hisz, hiby, _, hiz, hz1, hzz⟩ := tyd_info hue
  have hxi := Rep.row_inv hxr
  have hyi := rowOf_sound (sm.ev y) hy
  have htk := sm.hs.tok k _ hT
  generalize hxv : a.eval x = xv at hxr hxi
  generalize hyv : a.eval y = yv at hyi
  unfold Oper.wp
  have hexec : ∀ v w', (Builtin.append_ #[t, t] o.type #[xv, yv]).run P w = .ok v w' → (execOp a.eval o).run P w = .ok (.value v) w' := fun v w' h => by
    simp only [execOp, ho, resolve, invoke, builtin, Sem.run_bind, Sem.run_pure, Result.andThen_ok, List.map_toArray, List.map_cons, List.map_nil, hxv, hyv, h]
  by_cases hm : ys = []
  · -- nothing is added
    subst hm
    have hrun : (Builtin.append_ #[t, t] o.type #[xv, yv]).run P w = .ok xv w := by
      rcases hxi with ⟨_, rfl, _⟩ | ⟨g, of, cc, us, rfl, hcc, _⟩ <;> rcases hyi with ⟨_, rfl, _⟩ | ⟨g', of', cc', us', rfl, _⟩
      · exact append_none_run hu hi _ 0 0 (Nat.le_refl _) _ 0 w
      · exact append_none_run hu hi _ 0 0 (Nat.le_refl _) _ _ w
      · exact append_none_run hu hi _ _ _ hcc _ 0 w
      · exact append_none_run hu hi _ _ _ hcc _ _ w
    rw [hexec _ _ hrun]
    have e1 : upd s.h.T k (some (.tail (xs.length + ([] : List (List AV)).length))) = s.h.T := by
      funext j
      by_cases hj : j = k
      · subst hj; rw [upd_same, hT]; simp
      · rw [upd_other _ _ hj]
    rw [e1, List.append_nil] at hK
    exact hk _ _ _ hK (In.put sm hg hf hL o.dst (RepT.of hxr))
  · have hm0 : 0 < ys.length := List.length_pos_iff.2 hm
    have hzy' : zy = e.size := by rcases hzy with h | h; exact h; exact absurd h hm
    rcases hyi with ⟨_, _, h0⟩ | ⟨gy, oy, cy, us, rfl, hcy, hzys, hry, hvy⟩
    · exact absurd h0 hm
    have hlu : us.length = ys.length * e.size := by rw [hry.1, flatten_len hzys, hzy']
    have h1us : ∀ u ∈ us, u.oneCell' = true := fun u hu' => by
      obtain ⟨j, hj, e'⟩ := List.getElem_of_mem hu'
      subst e'
      exact (hry.2 j (by rw [← hry.1]; exact hj) hj).2
    have hcell : ∀ j u, us[j]? = some u → w.cell? ((⟨gy, oy, none⟩ : Addr).add j) = some u := fun j u hj => by
      rw [Addr.add_lit]; exact sm.hs.cell _ _ _ (hvy j u hj)
    -- a new block: its cells
    have hgrow : ∀ (olds : List Value) (oldc : Nat), RepL G xs.flatten olds → (∀ y ∈ xs, y.length = z) →
        (Builtin.append_ #[t, t] o.type #[xv, .slice (some ⟨gy, oy, none⟩) ys.length cy]).run P w = .ok (.slice (some ⟨w.heap.size, 0, none⟩) (xs.length + ys.length) (grownCap w (xs.length + ys.length) oldc u)) (w.drew.alloc (.cells (olds.toArray ++ us.toArray ++ Builtin.zeroCells zv.cells (grownCap w (xs.length + ys.length) oldc u - (xs.length + ys.length))) u)) →
        Oper.upon P o a Kc Qc ((execOp a.eval o).run P w) := by
      intro olds oldc hro hzx hrun
      rw [hexec _ _ hrun]
      have hlo : olds.length = xs.length * e.size := by rw [hro.1, flatten_len hzx, hz]
      have hzvs : zv.cells.size = e.size := by rw [← hzl, hzz]; simp
      generalize hcap : grownCap w (xs.length + ys.length) oldc u = cap
      have hge : xs.length + ys.length ≤ cap := by rw [← hcap]; exact grownCap_ge _ _ _ _
      have hcm : cap ≤ maxLen := by rw [← hcap]; exact grownCap_le_maxLen _ _ _ _ (by unfold maxLen; omega)
      have hall : RepL G (xs ++ ys).flatten (olds ++ us) := by rw [List.flatten_append]; exact hro.append hry
      have hzall : ∀ y ∈ xs ++ ys, y.length = z := fun y hy => by
        rcases List.mem_append.1 hy with h | h
        · exact hzx y h
        · rw [hzys y h, hzy', hz]
      have hlall : (olds ++ us).length = (xs.length + ys.length) * z := by rw [List.length_append, hlo, hlu, hz, Nat.add_mul]
      obtain ⟨s1, g1, f1⟩ := sm.app (k := k) (m := xs.length) (m' := xs.length + ys.length) (B := w.heap.size) (lo := 0) (z := z) (c := cap) (us := olds ++ us)
        (w' := w.drew.alloc (.cells (olds.toArray ++ us.toArray ++ Builtin.zeroCells zv.cells (cap - (xs.length + ys.length))) u)) (arr := olds.toArray ++ us.toArray ++ Builtin.zeroCells zv.cells (cap - (xs.length + ys.length))) (E := u) hT
        (fun b hb _ => RowKit.Below.heap_alloc w.drew _ b hb) (heap_alloc_new w.drew _) (by
          simp only [Array.size_append, List.size_toArray, size_zeroCells, hzvs, hlo, hlu, ← Nat.add_mul]
          rw [hz]; congr 1; omega) (fun o x hx => by
          rw [Nat.zero_add, Array.getElem?_append_left (by
            have := (List.getElem?_eq_some_iff.1 hx).1
            simpa using this)]
          rw [List.append_toArray, List.getElem?_toArray]; exact hx) (fun o x hx => by rw [sm.hs.val_new (Nat.le_refl _)] at hx; cases hx) (fun o _ => sm.hs.val_new (Nat.le_refl _) o) (by rw [Nat.zero_add]; exact hlall) hge hcm (by omega) (.inl (Nat.le_refl _)) rfl rfl rfl (by simp)
      refine hk _ _ _ hK (In.put s1 (hg.trans g1) (hf.trans f1) hL o.dst (RepT.of ?_))
      have hrep := rep_app (k := k) (c := cap) (B := w.heap.size) g1 hzall hall (fun j x hx => by
        simp only [Gh.app, Nat.zero_le, and_self, if_true, Nat.sub_zero]; exact hx) (by rw [List.length_append]; exact upd_same _ _ _) (by
        have : k < G.nx := Nat.lt_of_not_le fun h => by
          have h0 := sm.hs.ftl k h
          rcases htk with ⟨e', _⟩ | ⟨t, _, _, e', _⟩ <;> rw [h0] at e' <;> cases e'
        exact this) (by rw [List.length_append]; exact hge)
      rw [List.length_append] at hrep
      exact hrep
    rcases htk with ⟨htl, h0⟩ | ⟨tt, vs, E, htl, htm, htpos, hth, hts, htc, htcm, htf⟩
    · -- nothing is there yet
      have hx0 : xs = [] := List.eq_nil_of_length_eq_zero h0
      subst hx0
      have hxa : ∃ ad, xv = .slice ad 0 0 := by
        cases hxr with
        | row _ _ _ g of n cc uu hn hcc hzx hu' hr' h1' ht' =>
          simp only [TokOk, htl] at ht'
          obtain ⟨_, _, ad, had⟩ := ht'
          exact ⟨ad, had⟩
        | nil => exact ⟨none, rfl⟩
      obtain ⟨ad, rfl⟩ := hxa
      cases ad with
      | none =>
        have hrun := run_append_nil (P := P) w t o.type u i zv hu hi hiz ⟨gy, oy, none⟩ ys.length cy us (by rw [hisz]; exact hlu) hcell hm0 (by simp at h63; omega) (by rw [hiby]; simp at hb; omega)
        refine hgrow [] 0 (RepL.nil G) (by simp) ?_
        simpa using hrun
      | some ad =>
        have hrun := run_append_grow (P := P) w t o.type u i zv hu hi hiz ad 0 0 [] (by simp) (by simp) ⟨gy, oy, none⟩ ys.length cy us (by rw [hisz]; exact hlu) hcell (by omega) (by simp at h63 ⊢; omega) (by rw [hiby]; exact growslice_fits (by omega) (by simpa using hb))
        refine hgrow [] 0 (RepL.nil G) (by simp) ?_
        simpa using hrun
    · have hxne : 0 < xs.length := by omega
      rcases hxi with ⟨_, _, h0⟩ | ⟨g, of, cx, olds, rfl, hcx, hzx, hro, hvx⟩
      · subst h0; simp at hxne
      have htok : (Value.slice (some ⟨g, of, none⟩) xs.length cx) = .slice (some ⟨tt.g, 0, none⟩) xs.length tt.c ∧ z = tt.z := by
        cases hxr with
        | row _ _ _ _ _ _ _ _ _ _ _ _ _ _ ht' =>
          simp only [TokOk, htl] at ht'
          exact ht'.2.2 htm.symm
      obtain ⟨hxe, hzt⟩ := htok
      simp only [Value.slice.injEq, Option.some.injEq, Addr.mk.injEq, and_true, true_and] at hxe
      obtain ⟨⟨rfl, rfl⟩, rfl⟩ := hxe
      have hlo : olds.length = xs.length * e.size := by rw [hro.1, flatten_len hzx, hz]
      have hsz2 : vs.size = tt.c * e.size := by rw [hts, ← hzt, hz]
      by_cases hroom : xs.length + ys.length ≤ tt.c
      · have hfit : xs.length * i.size + us.length ≤ vs.size := by rw [hisz, hlu, hsz2, ← Nat.add_mul]; exact Nat.mul_le_mul_right _ hroom
        have hrun := append_room_run w t o.type u i hu hi tt.g xs.length tt.c vs E hth ⟨gy, oy, none⟩ ys.length cy us (by rw [hisz]; exact hlu) hcell h1us hroom hfit
        rw [hexec _ _ hrun]
        have hsl : (splice vs.toList (xs.length * i.size) us).length = vs.size := by rw [splice_len _ _ _ (by simpa using hfit)]; simp
        have hlou : xs.length * i.size + us.length = (xs.length + ys.length) * z := by rw [hisz, hlu, hz, Nat.add_mul]
        have hfree : ∀ o', xs.length * i.size ≤ o' → G.val tt.g o' = none := fun o' ho' => htf o' (by rw [← hzt, hz, ← hisz]; exact ho')
        obtain ⟨s1, g1, f1⟩ := sm.app (k := k) (m := xs.length) (m' := xs.length + ys.length) (B := tt.g) (lo := xs.length * i.size) (z := z) (c := tt.c) (us := us)
          (w' := w.setRow tt.g (splice vs.toList (xs.length * i.size) us).toArray) (arr := (splice vs.toList (xs.length * i.size) us).toArray) (E := E) hT
          (fun b _ hne => heap_setRow _ hne) (setRow_heap w tt.g vs _ E (0, 0) hth) (by rw [List.size_toArray, hsl, hsz2, hz]) (fun o' x hx => by
            have hlt := (List.getElem?_eq_some_iff.1 hx).1
            simp only [List.getElem?_toArray, splice]
            rw [List.append_assoc, List.getElem?_append_right (by simp; omega), List.getElem?_append_left (by simp; omega)]
            rw [← hx]; congr 1; simp; omega) (fun o' x hx => by
            have hlt : o' < xs.length * i.size := Nat.lt_of_not_le fun h => by rw [hfree o' h] at hx; cases hx
            have hc2 := sm.hs.cell _ _ _ hx
            simp only [World.cell?, hth, Option.isSome_none, Bool.false_eq_true, if_false] at hc2
            simp only [List.getElem?_toArray, splice]
            rw [List.append_assoc, List.getElem?_append_left (by simp; omega), List.getElem?_take, if_pos hlt]
            simpa using hc2) hfree hlou hroom htcm (by omega) (.inr ⟨tt, htl, rfl⟩) (by simp) (by simp) (by simp) (by simp)
        refine hk _ _ _ hK (In.put s1 (hg.trans g1) (hf.trans f1) hL o.dst (RepT.of ?_))
        have hall : RepL G (xs ++ ys).flatten (olds ++ us) := by rw [List.flatten_append]; exact hro.append hry
        have hzall : ∀ y ∈ xs ++ ys, y.length = z := fun y hy => by
          rcases List.mem_append.1 hy with h | h
          · exact hzx y h
          · rw [hzys y h, hzy', hz]
        have hrep := rep_app (k := k) (c := tt.c) (B := tt.g) g1 hzall hall (fun j x hx => by
          have hol : olds.length = xs.length * i.size := by rw [hlo, hisz]
          by_cases hj : j < xs.length * i.size
          · rw [List.getElem?_append_left (by omega)] at hx
            have hv := hvx j x hx
            rw [Nat.zero_add] at hv
            show (if tt.g = tt.g ∧ xs.length * i.size ≤ j then us[j - xs.length * i.size]? else G.val tt.g j) = some x
            rw [if_neg (fun h => by omega)]
            exact hv
          · rw [List.getElem?_append_right (by omega)] at hx
            show (if tt.g = tt.g ∧ xs.length * i.size ≤ j then us[j - xs.length * i.size]? else G.val tt.g j) = some x
            rw [if_pos ⟨rfl, by omega⟩, ← hx]
            congr 1; omega) (by rw [List.length_append]; exact upd_same _ _ _) (by
          have : k < G.nx := Nat.lt_of_not_le fun h => by rw [sm.hs.ftl k h] at htl; cases htl
          exact this) (by rw [List.length_append]; exact hroom)
        rw [List.length_append] at hrep
        exact hrep
      · have holds : ∀ j v, olds[j]? = some v → w.cell? ((⟨tt.g, 0, none⟩ : Addr).add j) = some v := fun j v hj => by
          rw [Addr.add_lit]; exact sm.hs.cell _ _ _ (hvx j v hj)
        have hrun := run_append_grow (P := P) w t o.type u i zv hu hi hiz ⟨tt.g, 0, none⟩ xs.length tt.c olds (by rw [hisz]; exact hlo) holds ⟨gy, oy, none⟩ ys.length cy us (by rw [hisz]; exact hlu) hcell (by omega) (by omega) (by rw [hiby]; exact growslice_fits (by omega) hb)
        exact hgrow olds tt.c hro hzx hrun
theorem a_append (hty : TyOk P ty) {t : Nat} {x y : Operand} (ho : o.op = .call { callee := .builtin .append, args := #[x, y], argTypes := #[t, t] }) {e : TyD} (he : elemD ty t = some e) {z : Nat} {xs : List (List AV)} {k : Nat} (hx : s.ev x = .row z xs (some k))
    (hz : z = e.size) (hT : s.h.T k = some (.tail xs.length)) {zy : Nat} {ys : List (List AV)} (hy : rowOf (s.ev y) = some (zy, ys)) (hzy : zy = e.size ∨ ys = []) (hs0 : 0 < e.size) (hzl : e.zero.length = e.size) (hb : (xs.length + ys.length) * e.bytes ≤ 140737488355328) (h63 : xs.length + ys.length ≤ 9223372036854775807) {K : St → Prop}
    (hK : K ({ s with h := { s.h with T := upd s.h.T k (some (.tail (xs.length + ys.length))) } }.put o.dst (.row z (xs ++ ys) (some k)))) : Aop P c o s K := by
  rintro a w ⟨G, L, sm, hg, hf, hL⟩ Kc Qc hk
  exact a_append_at hty ho he sm hg hf hL (sm.eve hx) hz hT hy hzy hs0 hzl hb h63 hK Kc Qc hk
theorem upd_upd {α : Type} (f : Nat → Option α) (k : Nat) (x y : Option α) : upd (upd f k x) k y = upd f k y := by
  funext j
  by_cases h : j = k
  · subst h; rw [upd_same, upd_same]
  · rw [upd_other _ _ h, upd_other _ _ h, upd_other _ _ h]
theorem a_appendNil (hty : TyOk P ty) {t : Nat} {x y : Operand} (ho : o.op = .call { callee := .builtin .append, args := #[x, y], argTypes := #[t, t] }) {e : TyD} (he : elemD ty t = some e) (hx : s.ev x = .v (.slice none 0 0))
    {ys : List (List AV)} (hy : rowOf (s.ev y) = some (e.size, ys)) (hs0 : 0 < e.size) (hzl : e.zero.length = e.size) (hb : ys.length * e.bytes ≤ 140737488355328) (h63 : ys.length ≤ 9223372036854775807) {K : St → Prop}
    (hK : ∀ k, s.h.T k = none → K ({ s with h := { s.h with T := upd s.h.T k (some (.tail ys.length)) } }.put o.dst (.row e.size ys (some k)))) : Aop P c o s K := by
  rintro a w ⟨G, L, sm, hg, hf, hL⟩ Kc Qc hk
  obtain ⟨hT, s1, g1, f1⟩ := sm.newTok (o := .tail 0) (.inl rfl)
  have hv := sm.evv hx
  refine a_append_at (s := { s with h := { s.h with T := upd s.h.T G.nx (some (.tail 0)) } }) (z := e.size) (xs := []) (k := G.nx) hty ho he s1 (hg.trans g1) (hf.trans f1) hL ?_ rfl (upd_same _ _ _) hy (.inl rfl) hs0 hzl (by simpa using hb) (by simpa using h63) (K := K) ?_ Kc Qc hk
  · rw [hv]
    refine .nil _ _ ⟨by simp [Gh.newTk], ?_⟩
    have : G.newTk.tl G.nx = some none := upd_same _ _ _
    rw [this]
    exact ⟨rfl, none, rfl⟩
  · have := hK G.nx hT
    simpa only [upd_upd, List.length_nil, Nat.zero_add, List.nil_append] using this
end
end Go.Proofs.YtpnfkfbapfnboaaGreatDoor

