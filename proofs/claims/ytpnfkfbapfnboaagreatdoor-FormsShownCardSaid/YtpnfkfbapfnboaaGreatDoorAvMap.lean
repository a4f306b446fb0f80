/- Maps whose keys are strings: entries told in the order of their coming. -/
import Derived.Test.YtpnfkfbapfnboaaGreatDoorAvCall
import Derived.MapKept
namespace Go.Proofs.YtpnfkfbapfnboaaGreatDoor
open Go Go.MapKept
set_option linter.unusedVariables false
set_option linter.unusedSimpArgs false
def mget (k : ByteArray) : List (ByteArray × AV) → Option AV
  | [] => none
  | (q, x) :: es => if q = k then some x else mget k es
def mset (k : ByteArray) (x : AV) : List (ByteArray × AV) → List (ByteArray × AV)
  | [] => [(k, x)]
  | (q, y) :: es => if q = k then (q, x) :: es else (q, y) :: mset k x es
def mdel (k : ByteArray) : List (ByteArray × AV) → List (ByteArray × AV)
  | [] => []
  | (q, y) :: es => if q = k then es else (q, y) :: mdel k es
def EntL (G : Gh) (es : List (ByteArray × AV)) (l : List MapEntry) : Prop :=
  l.length = es.length ∧ ∀ j (h : j < es.length) (h' : j < l.length), l[j].key = .string es[j].1 ∧ Rep G es[j].2 l[j].val
theorem EntL.nil (G : Gh) : EntL G [] [] := ⟨rfl, fun j h => by simp at h⟩
theorem EntL.cons {G : Gh} {k : ByteArray} {x : AV} {e : MapEntry} {es : List (ByteArray × AV)} {l : List MapEntry} (hk : e.key = .string k) (hx : Rep G x e.val) (h : EntL G es l) : EntL G ((k, x) :: es) (e :: l) := by
  refine ⟨by simp [h.1], fun j hj hj' => ?_⟩
  cases j with
  | zero => exact ⟨hk, hx⟩
  | succ j => exact h.2 j (by simpa using hj) (by simpa using hj')
theorem EntL.inv {G : Gh} {k : ByteArray} {x : AV} {es : List (ByteArray × AV)} {l : List MapEntry} (h : EntL G ((k, x) :: es) l) : ∃ e l', l = e :: l' ∧ e.key = .string k ∧ Rep G x e.val ∧ EntL G es l' := by
  obtain ⟨hl, h⟩ := h
  cases l with
  | nil => simp at hl
  | cons e l' =>
    have h0 := h 0 (by simp) (by simp)
    exact ⟨e, l', rfl, h0.1, h0.2, by simpa using hl, fun j hj hj' => by
      have := h (j + 1) (by simpa using hj) (by simpa using hj')
      simpa using this⟩
theorem EntL.mono {G G' : Gh} (hG : GLe G G') {es : List (ByteArray × AV)} {l : List MapEntry} (h : EntL G es l) : EntL G' es l :=
  ⟨h.1, fun j a b => ⟨(h.2 j a b).1, (h.2 j a b).2.mono hG⟩⟩
theorem ba_beq (a b : ByteArray) : (a == b) = decide (a = b) := by
  by_cases h : a = b
  · subst h; simpa using (bytes_beq a a).2 rfl
  · simp only [h, decide_false]
    cases hb : (a == b) with
    | false => rfl
    | true => exact absurd ((bytes_beq a b).1 hb) h
theorem isKs (b : ByteArray) : IsKey .string (.string b) := by simp [IsKey]
theorem ent_find {G : Gh} (k : ByteArray) : ∀ (es : List (ByteArray × AV)) (l : List MapEntry) (i : Nat), EntL G es l →
    match mget k es with
    | none => Instr.findNow .string (.string k) l i = some none ∧ (∀ x ∈ l, x.key ≠ .string k) ∧ (∀ y, mset k y es = es ++ [(k, y)]) ∧ mdel k es = es
    | some x => ∃ j e, Instr.findNow .string (.string k) l i = some (some (i + j, e.val)) ∧ l[j]? = some e ∧ e.key = .string k ∧ Rep G x e.val ∧ j < es.length ∧ (∀ y, mset k y es = es.set j (k, y)) ∧ mdel k es = es.eraseIdx j
  | [], l, i, h => by
    obtain rfl : l = [] := List.eq_nil_of_length_eq_zero h.1
    simp [mget, mset, mdel, Instr.findNow]
  | (q, x) :: es, l, i, h => by
    obtain ⟨e, l', rfl, hk, hx, hr⟩ := h.inv
    by_cases hq : q = k
    · subst hq
      simp only [mget, if_true]
      refine ⟨0, e, ?_, rfl, hk, hx, by simp, fun y => by simp [mset], by simp [mdel]⟩
      simp [Instr.findNow, hk, Instr.sameNow, ba_beq]
    · have hn : Instr.findNow .string (.string k) (e :: l') i = Instr.findNow .string (.string k) l' (i + 1) := by
        have : ¬ k = q := fun e => hq e.symm
        simp [Instr.findNow, hk, Instr.sameNow, ba_beq, this]
      have ih := ent_find k es l' (i + 1) hr
      simp only [mget, hq, if_false]
      cases hm : mget k es with
      | none =>
        rw [hm] at ih
        obtain ⟨a, b, c, d⟩ := ih
        refine ⟨hn.trans a, fun y hy => ?_, fun y => by simp [mset, hq, c y], by simp [mdel, hq, d]⟩
        rcases List.mem_cons.1 hy with rfl | hy
        · rw [hk]; simpa using hq
        · exact b y hy
      | some x' =>
        rw [hm] at ih
        obtain ⟨j, e', a, b, c, d, f, g, g'⟩ := ih
        exact ⟨j + 1, e', by rw [hn, a]; simp; omega, by simpa using b, c, d, by simpa using f, fun y => by simp [mset, hq, g y], by simp [mdel, hq, g']⟩
theorem EntL.push {G : Gh} {es : List (ByteArray × AV)} {l : List MapEntry} (h : EntL G es l) {k : ByteArray} {x : AV} {e : MapEntry} (hk : e.key = .string k) (hx : Rep G x e.val) : EntL G (es ++ [(k, x)]) (l ++ [e]) := by
  refine ⟨by simp [h.1], fun j hj hj' => ?_⟩
  by_cases hlt : j < es.length
  · rw [List.getElem_append_left hlt, List.getElem_append_left (by rw [h.1]; exact hlt)]
    exact h.2 j hlt _
  · have hj2 : j = es.length := by simp at hj; omega
    subst hj2
    rw [List.getElem_append_right (Nat.le_refl _), List.getElem_append_right (by rw [h.1]; exact Nat.le_refl _)]
    simp only [h.1, Nat.sub_self, List.getElem_cons_zero]
    exact ⟨hk, hx⟩
theorem EntL.set {G : Gh} {es : List (ByteArray × AV)} {l : List MapEntry} (h : EntL G es l) {k : ByteArray} {x : AV} {e : MapEntry} {j : Nat} (hk : e.key = .string k) (hx : Rep G x e.val) : EntL G (es.set j (k, x)) (l.set j e) := by
  refine ⟨by simp [h.1], fun i hi hi' => ?_⟩
  by_cases hij : j = i
  · subst hij
    simp only [List.getElem_set_self]
    exact ⟨hk, hx⟩
  · simp only [List.getElem_set_ne hij]
    exact h.2 i (by simpa using hi) (by simpa using hi')
theorem modify_toList {α : Type} (a : Array α) (i : Nat) (f : α → α) : (a.modify i f).toList = (match a[i]? with | some x => a.toList.set i (f x) | none => a.toList) := by
  apply List.ext_getElem?
  intro j
  rw [Array.getElem?_toList, Array.getElem?_modify]
  cases h : a[i]? with
  | none =>
    by_cases hij : i = j
    · subst hij; simp [h]
    · simp [hij]
  | some x =>
    have hlt := (Array.getElem?_eq_some_iff.1 h).1
    by_cases hij : i = j
    · subst hij
      rw [h, List.getElem?_set_self (by simpa using hlt)]; simp
    · simp [hij, List.getElem?_set_ne hij]
def mapD (ty : Nat → Option TyD) (t : Nat) : Option TyD := match ty t with
  | some d => match d.kind with
    | .map k e => match ty k, ty e with
      | some kd, some ed => match kd.kind with
        | .str => some ed
        | _ => none
      | _, _ => none
    | _ => none
  | none => none
theorem mapD_info {P : Program} {ty : Nat → Option TyD} (hty : TyOk P ty) {t : Nat} {ed : TyD} (h : mapD ty t = some ed) : ∃ k e, P.underlying t = some (.map k e) ∧ P.underlying k = some .string ∧ tyd P e = some ed := by
  unfold mapD at h
  split at h
  · rename_i d hd
    split at h
    · rename_i k e hk
      split at h
      · rename_i kd ed' hkd hed
        split at h
        · rename_i hs
          simp only [Option.some.injEq] at h; subst h
          obtain ⟨_, D, _, _, hD, _, _, hkk, _⟩ := tyd_info (hty _ _ hd)
          rw [hk] at hkk
          obtain ⟨_, D2, _, _, hD2, _, _, hkk2, _⟩ := tyd_info (hty _ _ hkd)
          rw [hs] at hkk2
          cases D <;> simp only [kindOf, reduceCtorEq] at hkk
          simp only [TyK.map.injEq] at hkk
          obtain ⟨rfl, rfl⟩ := hkk
          cases D2 <;> simp only [kindOf, reduceCtorEq] at hkk2
          exact ⟨_, _, hD, hD2, hty _ _ hed⟩
        · cases h
      · cases h
    · cases h
  · cases h
def zeroA (d : TyD) : AV := if aggK d.kind then .agg d.zero else d.zero.getD 0 .junk
theorem zero_rep {P : Program} {t : Nat} {d : TyD} (h : tyd P t = some d) (w : World) (G : Gh) : ∃ z, (zeroValue t).run P w = .ok z w ∧ Rep G (zeroA d) z := by
  obtain ⟨i, z, hi, hz, h1, hzz, ha⟩ := tyd_agg h
  refine ⟨z, by simp [zeroValue, typeInfo, hi, hz], ?_⟩
  have hr : RepL G d.zero z.cells.toList := by rw [hzz]; exact RepL.map_v G h1
  unfold zeroA
  cases hk : aggK d.kind with
  | true =>
    rw [hk] at ha
    cases z <;> simp only [aggV, reduceCtorEq] at ha
    have := hr.agg
    simpa [Value.cells] using this
  | false =>
    rw [hk] at ha
    have hc : z.cells = #[z] := by cases z <;> simp_all [aggV, Value.cells]
    rw [hc] at hr
    have hl : 0 < d.zero.length := by have := hr.1; simp at this; omega
    obtain ⟨x, hx, hrx, _⟩ := hr.getD (j := 0) hl
    simp at hx; subst hx
    simpa using hrx
def lookR (ok : Bool) (x : AV) (b : Bool) : AV := if ok then .tup [x, .v (.bool b)] else x
def lookE (ed : TyD) (h : Hp) (ok : Bool) (K : AV → Prop) : AV → AV → Prop
  | .map i, .v (.string b) => match h.H i with
    | some (.map es) => match mget b es with
      | some x => K (lookR ok x true)
      | none => K (lookR ok (zeroA ed) false)
    | _ => False
  | _, _ => False
def updE (h : Hp) (K : Hp → Prop) (x : AV) : AV → AV → Prop
  | .map i, .v (.string b) => match h.H i with
    | some (.map es) => x.noLoc = true ∧ K { h with H := upd h.H i (some (.map (mset b x es))) }
    | _ => False
  | _, _ => False
section
variable {P : Program} {c : Cx} {o : Oper} {s : St} {ty : Nat → Option TyD}
theorem map_at {G : Gh} {L : List Nat} {a : Act} {w : World} (sm : Sim G L s a w) {m : Operand} {i : Nat} (hm : s.ev m = .map i) {es : List (ByteArray × AV)} (hi : s.h.H i = some (.map es)) :
    ∃ b ents clock, a.eval m = .map (some b) ∧ G.at_ i = some b ∧ w.heap[b]? = some (.map ents clock) ∧ Stamped ents clock ∧ EntL G es ents.toList := by
  have hmr := sm.eve hm
  generalize hq : a.eval m = q at hmr
  have hmr' : Rep G (.map i) q := hmr
  cases hmr' with
  | map _ b hat =>
  obtain ⟨b', ob, e', hh, ⟨ents, clock, rfl, hst, hsz, hr⟩, _⟩ := sm.hs.obj i _ hi
  rw [hat] at e'; cases e'
  exact ⟨b, ents, clock, rfl, hat, hh, hst, by simpa using hsz, fun j h1 h2 => by
    have := hr j h1 (by simpa using h2)
    simpa using this⟩
theorem rep_lookR {G : Gh} {ok b : Bool} {x : AV} {v : Value} (h : Rep G x v) : Rep G (lookR ok x b) (if ok = true then .tuple #[v, .bool b] else v) := by
  cases ok with
  | false => exact h
  | true =>
    refine .tup _ _ (fun j => if j = 0 then v else .bool b) rfl (fun j hj => ?_) (fun j hj => ?_)
    · rcases j with _ | _ | j
      · rfl
      · rfl
      · simp only [List.length_cons, List.length_nil] at hj; omega
    · rcases j with _ | _ | j
      · exact h
      · exact .v _ rfl
      · simp only [List.length_cons, List.length_nil] at hj; omega
theorem q_lookup (hty : TyOk P ty) {t : Nat} {x k : Operand} {ok : Bool} (ho : o.op = .lookup t x k ok) {ed : TyD} (hd : mapD ty t = some ed) {i : Nat} (hx : s.ev x = .map i) {es : List (ByteArray × AV)} (hi : s.h.H i = some (.map es)) {b : ByteArray} (hk : s.ev k = .v (.string b)) :
    Quiet P c o s (match mget b es with | some y => lookR ok y true | none => lookR ok (zeroA ed) false) := by
  refine quiet_pure fun G L a w sm => ?_
  obtain ⟨kt, et, hD, hkt, het⟩ := mapD_info hty hd
  obtain ⟨g, ents, clock, e1, hat, hh, hst, hent⟩ := map_at sm hx hi
  have hf := ent_find b es ents.toList 0 hent
  have hck : ∀ q, (Instr.checkKey q 10000 kt (.string b)).run P w = .ok () w := fun q => run_checkKey hkt (isKs b) q 9999
  cases hm : mget b es with
  | none =>
    rw [hm] at hf
    obtain ⟨z, hz, hzr⟩ := zero_rep het w G
    refine ⟨_, ?_, RepT.of (rep_lookR (ok := ok) (b := false) hzr)⟩
    simp only [execOp, ho, e1, sm.evv hk, Instr.lookup, Sem.run_bind, run_underlying hD, Result.andThen_ok, Go.MapKept.run_getObj_map hh, Sem.run_pure, hck, run_findKey hkt hf.1, hz]
  | some y =>
    rw [hm] at hf
    obtain ⟨j, e, hfn, hj, hek, hrep, _⟩ := hf
    refine ⟨_, ?_, RepT.of (rep_lookR (ok := ok) (b := true) hrep)⟩
    simp only [execOp, ho, e1, sm.evv hk, Instr.lookup, Sem.run_bind, run_underlying hD, Result.andThen_ok, Go.MapKept.run_getObj_map hh, Sem.run_pure, hck, run_findKey hkt hfn]
theorem a_mapUpdate (hty : TyOk P ty) {t : Nat} {m k x : Operand} (ho : o.op = .mapUpdate t m k x ∨ o.op = .insert t m k x) {ed : TyD} (hd : mapD ty t = some ed) {i : Nat} (hm : s.ev m = .map i) {es : List (ByteArray × AV)} (hi : s.h.H i = some (.map es)) {b : ByteArray} (hk : s.ev k = .v (.string b)) (hn : (s.ev x).noLoc = true) {K : St → Prop}
    (hK : K ({ s with h := { s.h with H := upd s.h.H i (some (.map (mset b (s.ev x) es))) } }.put o.dst .junk)) : Aop P c o s K := by
  rintro a w ⟨G, L, sm, hg, hfr, hL⟩ Kc Qc hkc
  obtain ⟨kt, et, hD, hkt, het⟩ := mapD_info hty hd
  obtain ⟨g, ents, clock, e1, hat, hh, hst, hent⟩ := map_at sm hm hi
  have hxr : Rep G (s.ev x) (a.eval x) := (sm.ev x).base hn
  have hf := ent_find b es ents.toList 0 hent
  have hck : (Instr.checkKey false 10000 kt (.string b)).run P w = .ok () w := run_checkKey hkt (isKs b) false 9999
  have key : ∃ ents' clock', (Instr.mapUpdate t (.map (some g)) (.string b) (a.eval x)).run P w = .ok () { w with heap := w.heap.setIfInBounds g (.map ents' clock') } ∧ Stamped ents' clock' ∧ EntL G (mset b (s.ev x) es) ents'.toList := by
    cases hmg : mget b es with
    | none =>
      rw [hmg] at hf
      obtain ⟨h1, h2, h3, _⟩ := hf
      refine ⟨ents.push { key := .string b, val := a.eval x, born := clock }, clock + 1, ?_, stamped_push hst h2, ?_⟩
      · simp only [Instr.mapUpdate, Sem.run_bind, run_underlying hD, Result.andThen_ok, Go.MapKept.run_getObj_map hh, hck, run_findKey hkt h1, Go.MapKept.run_setObj_map _ hh]
      · rw [h3]; simpa using hent.push (k := b) (x := s.ev x) (e := { key := .string b, val := a.eval x, born := clock }) rfl hxr
    | some y =>
      rw [hmg] at hf
      obtain ⟨j, e, h1, h2, h3, _, h4, h5, _⟩ := hf
      have hj : ents[j]? = some e := by simpa using h2
      rw [Nat.zero_add] at h1
      refine ⟨ents.modify j fun e => { e with key := .string b, val := a.eval x }, clock, ?_, stamped_modify hst _ _ (fun _ _ => rfl) (fun e' _ he' => by rw [hj] at he'; cases he'; exact h3.symm), ?_⟩
      · simp only [Instr.mapUpdate, Sem.run_bind, run_underlying hD, Result.andThen_ok, Go.MapKept.run_getObj_map hh, hck, run_findKey hkt h1, hj, Option.map_some, Option.getD_some, h3, run_keyThatStays (isKs b), Go.MapKept.run_setObj_map _ hh]
      · rw [h5, modify_toList, hj]
        exact hent.set rfl hxr
  obtain ⟨ents', clock', hrun, hst', hent'⟩ := key
  have hhs := heap_set (o' := .map ents' clock') hh
  obtain ⟨s1, f1⟩ := sm.setObj (w' := { w with heap := w.heap.setIfInBounds g (.map ents' clock') }) (y := .map (mset b (s.ev x) es)) hi hat (fun b' hb' => hhs.2 b' hb') hhs.1
    ⟨ents', clock', rfl, hst', by simpa using hent'.1, fun j h1 h2 => by
      have := hent'.2 j h1 (by simpa using h2)
      simpa using this⟩ rfl rfl rfl (by simp)
  unfold Oper.wp
  have hrun' : (execOp a.eval o).run P w = .ok .skip { w with heap := w.heap.setIfInBounds g (.map ents' clock') } := by
    rcases ho with ho | ho <;> simp only [execOp, ho, e1, sm.evv hk, Sem.run_bind, hrun, Result.andThen_ok, Sem.run_pure]
  rw [hrun']
  exact hkc _ _ _ hK (In.put s1 hg (hfr.trans f1) hL o.dst (RepT.junk _))
theorem a_makeMap {t : Nat} (ho : o.op = .makeMap t none) {K : St → Prop}
    (hK : ∀ i, s.h.H i = none → K ({ s with h := { s.h with H := upd s.h.H i (some (.map [])) } }.put o.dst (.map i))) : Aop P c o s K := by
  rintro a w ⟨G, L, sm, hg, hf, hL⟩ Kc Qc hk
  obtain ⟨hn, s1, g1, f1, e1⟩ := sm.newObj (y := .map []) (o := .map #[] 0) ⟨#[], 0, rfl, stamped_empty 0, rfl, fun j h => by simp at h⟩
  unfold Oper.wp
  have hrun : (execOp a.eval o).run P w = .ok (.value (.map (some w.heap.size))) (w.alloc (.map #[] 0)) := by
    simp [execOp, ho, Instr.makeMap, Result.andThen]
  rw [hrun]
  exact hk _ _ _ (hK _ hn) (In.put s1 (hg.trans g1) (hf.trans f1) hL o.dst (RepT.of (.map _ _ e1)))
end
end Go.Proofs.YtpnfkfbapfnboaaGreatDoor

