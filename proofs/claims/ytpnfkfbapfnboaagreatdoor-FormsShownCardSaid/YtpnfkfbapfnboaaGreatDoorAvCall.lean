/- Calls: what a function does, told in trees. -/
import Derived.Test.YtpnfkfbapfnboaaGreatDoorAvTok
namespace Go.Proofs.YtpnfkfbapfnboaaGreatDoor
open Go
set_option linter.unusedVariables false
set_option linter.unusedSimpArgs false
def fnOk (P : Program) (f : Nat) : Bool := match P.funcs[f]? with | some fn => fn.body.isSome && !(fn.name == "runtime.NumGoroutine") | none => false
structure ACalls (P : Program) (f : Nat) (args : List AV) (h : Hp) (R : AV → Hp → Prop) : Prop where
  ok : fnOk P f = true
  calls : ∀ G w (vs : Array Value), HSim G h w → vs.size = args.length → (∀ j (hj : j < args.length), Rep G args[j] (vs.getD j undef)) →
    Calls P f vs w fun e w' => ∃ r h' G' v, e = .returned v ∧ R r h' ∧ GLe G G' ∧ Fr G h w G' h' w' ∧ HSim G' h' w' ∧ Rep G' r v
theorem ACalls.mono {P : Program} {f : Nat} {args : List AV} {h : Hp} {R R' : AV → Hp → Prop} (hc : ACalls P f args h R) (hr : ∀ r h', R r h' → R' r h') : ACalls P f args h R' :=
  ⟨hc.1, fun G w vs hs hl ha => (hc.2 G w vs hs hl ha).mono fun _ _ ⟨r, h', G', v, e, q, x⟩ => ⟨r, h', G', v, e, hr _ _ q, x⟩⟩
def AV.noLoc : AV → Bool
  | .loc _ _ => false
  | .opt _ _ => false
  | _ => true
theorem RepT.base {G : Gh} {L : List Nat} {x : AV} {v : Value} (h : RepT G L x v) (hn : x.noLoc = true) : Rep G x v := by
  cases x <;> first | exact h | simp [AV.noLoc] at hn
def Weak (r r' : AV) : Prop := ∀ G v, Rep G r v → Rep G r' v
theorem Weak.refl (r : AV) : Weak r r := fun _ _ h => h
theorem Weak.nil (z n c : Nat) (h : n = 0 ∧ c = 0) : Weak (.v (.slice none n c)) (.row z [] none) := fun G v hr => by
  obtain ⟨rfl, rfl⟩ := h
  cases hr with
  | v _ _ => exact .nil z none trivial
theorem Weak.row (z : Nat) (xs : List (List AV)) (k : Option Nat) : Weak (.row z xs k) (.row z xs none) := fun G v hr => by
  cases hr with
  | row _ _ _ g o n c u hn hc hz hu hr h1 ht => exact .row z xs none g o n c u hn hc hz hu hr h1 trivial
  | nil => exact .nil z none trivial
  | nilA _ a => exact .nilA z a
theorem Weak.tup1 {a a' b b' : AV} (ha : Weak a a') (hb : Weak b b') : Weak (.tup [a, b]) (.tup [a', b']) := fun G v hr => by
  cases hr with
  | tup _ vs u hl hu hr =>
    refine .tup _ vs u (by simpa using hl) (fun j hj => hu j (by simpa using hj)) (fun j hj => ?_)
    rcases j with _ | _ | j
    · exact ha G _ (hr 0 (by simp))
    · exact hb G _ (hr 1 (by simp))
    · simp only [List.length_cons, List.length_nil] at hj; omega
section
variable {P : Program} {c : Cx} {o : Oper} {s : St} {ty : Nat → Option TyD}
theorem LSim.fr {G G' : Gh} {L : List Nat} {lo : List (List AV)} {h h' : Hp} {w w' : World} (ls : LSim G L lo h w) (g : GLe G G') (f : Fr G h w G' h' w') : LSim G' L lo h' w' where
  len := ls.len
  lo j b cs e e' := by
    have hb := List.mem_of_getElem? e
    obtain ⟨vs, E, x, y, r⟩ := ls.lo j b cs e e'
    exact ⟨vs, E, by rw [(f.keep b (ls.lt hb) (ls.free b hb).1).1]; exact x, y, r.mono g⟩
  free b hb := by
    obtain ⟨_, y, z⟩ := f.keep b (ls.lt hb) (ls.free b hb).1
    exact ⟨y, fun o => (z o).trans ((ls.free b hb).2 o)⟩
  nd := ls.nd
theorem callFunc_run {f : Nat} (hf : fnOk P f = true) (vs : Array Value) (w : World) : (callFunc f vs).run P w = .ok (.enter f vs) w := by
  unfold fnOk at hf
  split at hf
  · rename_i fn hfn
    simp only [Bool.and_eq_true, Bool.not_eq_true'] at hf
    have hb : fn.body.isNone = false := by cases hb : fn.body <;> simp_all
    simp only [callFunc, Sem.run_bind, run_program, Result.andThen_ok, hfn, hf.2, hb, Bool.false_eq_true, if_false, Sem.run_pure]
  · cases hf
theorem a_call {f : Operand} {args : Array Operand} {ts : Array TypeId} (ho : o.op = .call { callee := .value f, args := args, argTypes := ts }) {fid : Nat} {caps : List AV} (hf : s.ev f = .fn fid caps) (hn : (args.toList.map s.ev).all AV.noLoc = true) {K : St → Prop}
    (hc : ACalls P fid (args.toList.map s.ev ++ caps) s.h (fun r h' => K ({ s with h := h' }.put o.dst r))) : Aop P c o s K := by
  rintro a w ⟨G, L, sm, hg, hfr, hL⟩ Kc Qc hk
  have hfv := sm.eve hf
  generalize hq : a.eval f = q at hfv
  have hfv' : Rep G (.fn fid caps) q := hfv
  cases hfv' with
  | fn _ _ cvs u hl hu hr =>
  have hrun : (execOp a.eval o).run P w = .ok (.enter fid (args.map a.eval ++ cvs)) w := by
    simp only [execOp, ho, resolve, hq, Deferred.ofValue, Sem.run_bind, Sem.run_pure, Result.andThen_ok, invoke]
    rw [callFunc_run hc.1]
    simp
  unfold Oper.wp
  rw [hrun]
  refine (hc.2 G w (args.map a.eval ++ cvs) sm.hs (by simp [hl]) (fun j hj => ?_)).mono ?_
  · by_cases hja : j < args.size
    · have e1 : (args.map a.eval ++ cvs).getD j undef = a.eval args[j] := by
        rw [Array.getD_eq_getD_getElem?, Array.getElem?_append_left (by simpa using hja), Array.getElem?_map, Array.getElem?_eq_getElem hja]; rfl
      rw [e1, List.getElem_append_left (by simpa using hja)]
      simp only [List.getElem_map, Array.getElem_toList]
      exact (sm.ev args[j]).base (List.all_eq_true.1 hn _ (List.mem_map.2 ⟨args[j], by simp, rfl⟩))
    · have hj2 : j - args.size < caps.length := by simp at hj; omega
      have e1 : (args.map a.eval ++ cvs).getD j undef = u (j - args.size) := by
        rw [Array.getD_eq_getD_getElem?, Array.getElem?_append_right (by simp; omega), Array.size_map, hu _ hj2]; rfl
      rw [e1, List.getElem_append_right (by simp; omega)]
      simp only [List.length_map, Array.length_toList]
      exact hr _ hj2
  · rintro e w' ⟨r, h', G', v, rfl, hK, g1, f1, hs1, hrv⟩
    exact hk _ _ _ hK (In.put (s := { s with h := h' }) ⟨hs1, sm.sz, fun t ht => (sm.sl t ht).mono g1, sm.df, sm.ls.fr g1 f1⟩ (hg.trans g1) (hfr.trans f1) hL o.dst (RepT.of hrv))
theorem a_callB {f : Operand} {args : Array Operand} {ts : Array TypeId} (ho : o.op = .call { callee := .value f, args := args, argTypes := ts }) {fid : Nat} {fst : List AV} (hf : s.ev f = .bfn fid fst) (hn : (args.toList.map s.ev).all AV.noLoc = true) {K : St → Prop}
    (hc : ACalls P fid (fst ++ args.toList.map s.ev) s.h (fun r h' => K ({ s with h := h' }.put o.dst r))) : Aop P c o s K := by
  rintro a w ⟨G, L, sm, hg, hfr, hL⟩ Kc Qc hk
  have hfv := sm.eve hf
  generalize hq : a.eval f = q at hfv
  have hfv' : Rep G (.bfn fid fst) q := hfv
  cases hfv' with
  | bfn _ _ cvs u hl hu hr =>
  have hrun : (execOp a.eval o).run P w = .ok (.enter fid (cvs ++ args.map a.eval)) w := by
    simp only [execOp, ho, resolve, hq, Deferred.ofValue, Sem.run_bind, Sem.run_pure, Result.andThen_ok, invoke]
    rw [callFunc_run hc.1]
    simp
  unfold Oper.wp
  rw [hrun]
  refine (hc.2 G w (cvs ++ args.map a.eval) sm.hs (by simp [hl]) (fun j hj => ?_)).mono ?_
  · by_cases hja : j < fst.length
    · have e1 : (cvs ++ args.map a.eval).getD j undef = u j := by
        rw [Array.getD_eq_getD_getElem?, Array.getElem?_append_left (by omega), hu _ hja]; rfl
      rw [e1, List.getElem_append_left hja]
      exact hr _ hja
    · have hj2 : j - fst.length < args.size := by simp at hj; omega
      have e1 : (cvs ++ args.map a.eval).getD j undef = a.eval args[j - fst.length] := by
        rw [Array.getD_eq_getD_getElem?, Array.getElem?_append_right (by omega), hl, Array.getElem?_map, Array.getElem?_eq_getElem hj2]; rfl
      rw [e1, List.getElem_append_right (by omega)]
      simp only [List.getElem_map, Array.getElem_toList]
      exact (sm.ev args[j - fst.length]).base (List.all_eq_true.1 hn _ (List.mem_map.2 ⟨args[j - fst.length], by simp, rfl⟩))
  · rintro e w' ⟨r, h', G', v, rfl, hK, g1, f1, hs1, hrv⟩
    exact hk _ _ _ hK (In.put (s := { s with h := h' }) ⟨hs1, sm.sz, fun t ht => (sm.sl t ht).mono g1, sm.df, sm.ls.fr g1 f1⟩ (hg.trans g1) (hfr.trans f1) hL o.dst (RepT.of hrv))
def res1 (ty : Nat → Option TyD) (s : St) (K : AV → Prop) : ResultVar → Prop
  | .tmp t => (s.sl.getD t .junk).noLoc = true ∧ K (s.sl.getD t .junk)
  | .cell a t => match ty t, cellsAt s.lo s.h (s.sl.getD a .junk) with
    | some d, some (cs, o) => ldOk d cs o ∧ K (ld d cs o)
    | _, _ => False
def resL (ty : Nat → Option TyD) (s : St) : List ResultVar → (List AV → Prop) → Prop
  | [], K => K []
  | rv :: r, K => res1 ty s (fun x => resL ty s r fun xs => K (x :: xs)) rv
def resV (ty : Nat → Option TyD) (s : St) (rs : List ResultVar) (K : AV → Prop) : Prop :=
  match rs with
  | [rv] => res1 ty s K rv
  | rs => resL ty s rs fun xs => K (.tup xs)
def res1Run (tmps : Array Value) : ResultVar → Sem Value
  | .tmp t => pure (tmps.getD t undef)
  | .cell a t => do loadVar t (← asAddr (tmps.getD a undef))
theorem res1_sound (hty : TyOk P ty) {G : Gh} {L : List Nat} {a : Act} {w : World} (sm : Sim G L s a w) {K : AV → Prop} (rv : ResultVar) (h : res1 ty s K rv) : ∃ x v, K x ∧ (res1Run a.tmps rv).run P w = .ok v w ∧ Rep G x v := by
  cases rv with
  | tmp t =>
    obtain ⟨hn, hK⟩ := h
    exact ⟨_, a.tmps.getD t undef, hK, rfl, (sm.ev (.tmp t)).base hn⟩
  | cell at_ t =>
    simp only [res1] at h
    split at h
    · rename_i d cs o hd hc
      obtain ⟨g, b, us, e, hr, hu⟩ := cellsAt_sound sm (sm.ev (.tmp at_)) hc
      obtain ⟨v, hv, hrep⟩ := load_run (hty _ _ hd) hr hu h.1
      have e' : a.tmps.getD at_ undef = .pointer (some ⟨g, b + o, none⟩) := e
      exact ⟨_, v, h.2, by simp only [res1Run, e', asAddr, Sem.run_bind, Sem.run_pure, Result.andThen_ok, hv], hrep⟩
    · exact h.elim
theorem resL_sound (hty : TyOk P ty) {G : Gh} {L : List Nat} {a : Act} {w : World} (sm : Sim G L s a w) : ∀ (rs : List ResultVar) {K : List AV → Prop} (_ : resL ty s rs K),
    ∃ (xs : List AV) (vs : List Value), K xs ∧ (rs.mapM (res1Run a.tmps)).run P w = .ok vs w ∧ vs.length = xs.length ∧ xs.length = rs.length ∧ ∀ j (hj : j < xs.length) (hj' : j < vs.length), Rep G xs[j] vs[j]
  | [], K, h => ⟨[], [], h, rfl, rfl, rfl, fun j hj => by simp at hj⟩
  | rv :: rs, K, h => by
    obtain ⟨x, v, hK, hv, hr⟩ := res1_sound hty sm rv h
    obtain ⟨xs, vs, hK2, hvs, hl, hl2, hrs⟩ := resL_sound hty sm rs hK
    refine ⟨x :: xs, v :: vs, hK2, ?_, by simp [hl], by simp [hl2], fun j hj hj' => ?_⟩
    · rw [List.mapM_cons]
      simp only [Sem.run_bind, hv, Result.andThen_ok, hvs, Sem.run_pure]
    · cases j with
      | zero => exact hr
      | succ j => exact hrs j (by simpa using hj) (by simpa using hj')
theorem results_sound (hty : TyOk P ty) {G : Gh} {L : List Nat} {a : Act} {w : World} (sm : Sim G L s a w) (fn : Func) {K : AV → Prop} (h : resV ty s fn.results.toList K) : ∃ x v, K x ∧ (results fn a.tmps).run P w = .ok v w ∧ Rep G x v := by
  have hres : results fn a.tmps = (do let vs ← fn.results.mapM (res1Run a.tmps); pure (if h : vs.size = 1 then vs[0] else .tuple vs)) := by
    unfold results
    congr 1
    first | (congr 1; funext rv; cases rv <;> rfl) | skip
  have harr : ∀ vs : List Value, (fn.results.toList.mapM (res1Run a.tmps)).run P w = .ok vs w → (results fn a.tmps).run P w = .ok (if h : vs.toArray.size = 1 then vs.toArray[0] else .tuple vs.toArray) w := fun vs hv => by
    rw [hres, Array.mapM_eq_mapM_toList]
    simp only [Sem.run_bind, Sem.run_map, hv, Result.andThen_ok, Sem.run_pure]
  unfold resV at h
  split at h
  · rename_i rv hrs
    obtain ⟨x, v, hK, hv, hr⟩ := res1_sound hty sm rv h
    refine ⟨x, v, hK, ?_, hr⟩
    have := harr [v] (by rw [hrs, List.mapM_cons]; simp only [Sem.run_bind, hv, Result.andThen_ok, List.mapM_nil, Sem.run_pure])
    rw [this]; rfl
  · rename_i hne
    obtain ⟨xs, vs, hK, hv, hl, hl2, hr⟩ := resL_sound hty sm _ h
    have hlen : vs.length ≠ 1 := fun e => by
      rw [hl, hl2] at e
      match hrs : fn.results.toList, e with
      | [rv], _ => exact hne rv hrs
    refine ⟨.tup xs, .tuple vs.toArray, hK, ?_, ?_⟩
    · rw [harr vs hv, dif_neg (by simpa using hlen)]
    · refine .tup xs vs.toArray (fun j => vs.getD j undef) (by simpa using hl) (fun j hj => ?_) (fun j hj => ?_)
      all_goals have hj' : j < vs.length := by omega
      · simp [List.getD_eq_getElem?_getD, List.getElem?_eq_getElem hj']
      · show Rep G _ (vs.getD j undef)
        rw [List.getD_eq_getElem?_getD, List.getElem?_eq_getElem hj']
        exact hr j hj hj'
def retQ (ty : Nat → Option TyD) (rs : List ResultVar) (R : AV → Hp → Prop) : Exit → St → Prop
  | .ret, s | .normal, s => resV ty s rs fun r => ∃ r' h', Weak r r' ∧ Hp.le h' s.h ∧ R r' h'
  | _, _ => False
theorem acalls_of (hty : TyOk P ty) {f : Nat} {fn : Func} {code : Code} {args : List AV} {h : Hp} {R : AV → Hp → Prop} (hf : P.funcs[f]? = some fn) (hb : fn.body = some code) (hok : fnOk P f = true)
    (hw : ∀ c : Cx, Awp P c code (retQ ty fn.results.toList R) ⟨args ++ List.replicate (fn.ntmps - args.length) .junk, [], h⟩) : ACalls P f args h R := by
  refine ⟨hok, fun G w vs hs hl ha => ?_⟩
  refine calls_of_wp hf hb (Code.wp_mono ?_ (hw ⟨G, h, w⟩ _ w ⟨G, [], ⟨hs, ?_, fun t ht => ?_, rfl, ⟨rfl, fun j b cs e => by simp at e, fun b hb => by simp at hb, List.nodup_nil⟩⟩, GLe.refl _, Fr.refl _ _ _, fun b hb => by simp at hb⟩))
  · rintro e a w' ⟨s, hq, G', L, sm, hg, hfr, _⟩
    have fin : resV ty s fn.results.toList (fun r => ∃ r' h', Weak r r' ∧ Hp.le h' s.h ∧ R r' h') → a.defers = [] ∧ ∃ v, (results fn a.tmps).run P w' = .ok v w' ∧ (∃ r h' G' v', (Ending.returned v) = Ending.returned v' ∧ R r h' ∧ GLe G G' ∧ Fr G h w G' h' w' ∧ HSim G' h' w' ∧ Rep G' r v') := fun hq => by
      obtain ⟨x, v, ⟨r', h', hwk, hle, hR⟩, hv, hr⟩ := results_sound hty sm fn hq
      exact ⟨sm.df, v, hv, r', h', G', v, rfl, hR, hg, hfr.less hle, sm.hs.less hle, hwk _ _ hr⟩
    cases e with
    | ret => exact fin hq
    | normal => exact fin hq
    | _ => exact hq.elim
  · simp [hl]
  · by_cases hj : t < args.length
    · have e1 : (vs ++ Array.replicate (fn.ntmps - vs.size) undef).getD t undef = vs.getD t undef := by
        simp only [Array.getD_eq_getD_getElem?]
        rw [Array.getElem?_append_left (by omega)]
      show RepT G [] _ ((vs ++ Array.replicate (fn.ntmps - vs.size) undef).getD t undef)
      rw [e1]
      simp only [List.getElem_append_left hj]
      exact RepT.of (ha t hj)
    · rw [List.getElem_append_right (by omega)]
      simp only [List.getElem_replicate]
      exact RepT.junk _
end
end Go.Proofs.YtpnfkfbapfnboaaGreatDoor

