/- More quiet operations. -/
import Derived.Test.YtpnfkfbapfnboaaGreatDoorAvOps
import Derived.IntWalk
import Derived.Laws.Concat
import Derived.Laws.StructEq
import Derived.WalkLawsBesides
namespace Go.Proofs.YtpnfkfbapfnboaaGreatDoor
open Go
set_option linter.unusedVariables false
set_option linter.unusedSimpArgs false
def AV.shift (n : Nat) : AV → AV
  | .ref cs o => .ref cs (o + n)
  | .loc j o => .loc j (o + n)
  | .ptr i o => .ptr i (o + n)
  | .eptr k m i f => .eptr k m i (f + n)
  | _ => .junk
def AV.isAddr : AV → Bool
  | .ref _ _ | .loc _ _ | .ptr _ _ | .eptr _ _ _ _ => true
  | _ => false
theorem RepT.shift {G : Gh} {L : List Nat} {x : AV} {v : Value} (h : RepT G L x v) (hx : x.isAddr = true) : ∃ b o, v = .pointer (some ⟨b, o, none⟩) ∧ ∀ n, RepT G L (x.shift n) (.pointer (some ⟨b, o + n, none⟩)) := by
  cases x with
  | ref cs o =>
    cases h with
    | ref _ _ g b u hu hr h1 => exact ⟨g, b + o, rfl, fun n => by rw [Nat.add_assoc]; exact Rep.ref cs (o + n) g b u hu hr h1⟩
  | loc j o => obtain ⟨b, hb, rfl⟩ := h; exact ⟨b, o, rfl, fun n => ⟨b, hb, rfl⟩⟩
  | ptr i o => cases h with
    | ptr _ _ b hat => exact ⟨b, o, rfl, fun n => Rep.ptr i (o + n) b hat⟩
  | eptr k m i f => cases h with
    | eptr _ _ _ _ p ha =>
      obtain ⟨hk, b, q, e, r⟩ := ha
      cases e
      exact ⟨b, q + f, rfl, fun n => Rep.eptr k m i (f + n) _ ⟨hk, b, q, by rw [Nat.add_assoc], r⟩⟩
  | _ => simp [AV.isAddr] at hx
theorem RepT.v_inv {G : Gh} {L : List Nat} {x y : Value} (h : RepT G L (.v x) y) : y = x := by
  cases h with
  | v _ _ => rfl
theorem Sim.evv {G : Gh} {L : List Nat} {s : St} {a : Act} {w : World} (h : Sim G L s a w) {x : Operand} {u : Value} (e : s.ev x = .v u) : a.eval x = u := by
  have := h.ev x
  rw [e] at this
  exact this.v_inv
theorem Sim.eve {G : Gh} {L : List Nat} {s : St} {a : Act} {w : World} (h : Sim G L s a w) {x : Operand} {u : AV} (e : s.ev x = u) : RepT G L u (a.eval x) := e ▸ h.ev x
theorem fieldPlace_run {P : Program} {f : Field} {d : TyD} (hd : tyd P f.type = some d) (hs : d.size ≠ 0) (b o : Nat) (w : World) : (fieldPlace ⟨b, o, none⟩ f).run P w = .ok ⟨b, o + f.offset, none⟩ w := by
  simp only [fieldPlace, Sem.run_bind, sizeOf_run hd, Result.andThen_ok, if_neg hs, Sem.run_pure, Addr.add_lit]
def fdd (ty : Nat → Option TyD) (t f : Nat) : Option (Nat × TyD) :=
  match ty t with
  | some d => match d.kind with
    | .struct fs => match fs[f]? with
      | some (off, u) => match ty u with
        | some e => some (off, e)
        | none => none
      | none => none
    | _ => none
  | none => none
theorem fdd_info {P : Program} {ty : Nat → Option TyD} (hty : TyOk P ty) {t f off : Nat} {e : TyD} (h : fdd ty t f = some (off, e)) :
    ∃ fs fl, P.underlying t = some (.struct fs) ∧ fs[f]? = some fl ∧ fl.offset = off ∧ tyd P fl.type = some e := by
  unfold fdd at h
  split at h
  · rename_i d hd
    split at h
    · rename_i fs hk
      split at h
      · rename_i off' u hf
        split at h
        · rename_i e' he
          simp only [Option.some.injEq, Prod.mk.injEq] at h
          obtain ⟨rfl, rfl⟩ := h
          obtain ⟨i, D, z, _, hD, _, _, hkk, _⟩ := tyd_info (hty _ _ hd)
          rw [hk] at hkk
          cases D with
          | struct gs =>
            simp only [kindOf, TyK.struct.injEq] at hkk
            subst hkk
            rw [List.getElem?_map] at hf
            simp only [Array.getElem?_toList, Option.map_eq_some_iff, Prod.mk.injEq] at hf
            obtain ⟨fl, h1, h2, h3⟩ := hf
            exact ⟨gs, fl, hD, h1, h2, by rw [h3]; exact hty _ _ he⟩
          | _ => simp [kindOf] at hkk
        · cases h
      · cases h
    · cases h
  · cases h
section
variable {P : Program} {c : Cx} {o : Oper} {s : St} {ty : Nat → Option TyD}
theorem q_move {x : Operand} (ho : o.op = .move x ∨ o.op = .assign x) : Quiet P c o s (s.ev x) :=
  quiet_pure fun G L a w sm => ⟨a.eval x, by rcases ho with ho | ho <;> simp [execOp, ho], sm.ev x⟩
theorem q_pick {p x y : Operand} (ho : o.op = .pick p x y) {b : Bool} (hb : s.ev p = .v (.bool b)) : Quiet P c o s (bif b then s.ev x else s.ev y) := by
  refine quiet_pure fun G L a w sm => ?_
  have e := sm.evv hb
  cases b
  · exact ⟨a.eval y, by simp [execOp, ho, e, asBool], sm.ev y⟩
  · exact ⟨a.eval x, by simp [execOp, ho, e, asBool], sm.ev x⟩
theorem q_nilCheck {x : Operand} (ho : o.op = .nilCheck x) (h : (s.ev x).isAddr = true) : Quiet P c o s (s.ev x) := by
  refine quiet_pure fun G L a w sm => ?_
  have hr := sm.ev x
  obtain ⟨b, off, e, _⟩ := hr.shift h
  exact ⟨a.eval x, by simp [execOp, ho, e], hr⟩
theorem q_fieldAddr (hty : TyOk P ty) {t f : Nat} {x : Operand} (ho : o.op = .fieldAddr t x f) {off : Nat} {e : TyD} (hf : fdd ty t f = some (off, e)) (hs : e.size ≠ 0) (h : (s.ev x).isAddr = true) : Quiet P c o s ((s.ev x).shift off) := by
  refine quiet_pure fun G L a w sm => ?_
  obtain ⟨fs, fl, hu, hfl, rfl, hd⟩ := fdd_info hty hf
  obtain ⟨b, off', e, hr⟩ := (sm.ev x).shift h
  refine ⟨_, ?_, hr _⟩
  simp only [execOp, ho, e, Instr.fieldAt, Sem.run_bind, run_underlying hu, Result.andThen_ok, hfl, Instr.sureAddr, Sem.run_pure, fieldPlace_run hd hs]
theorem q_field (hty : TyOk P ty) {t f : Nat} {x : Operand} (ho : o.op = .field t x f) {off : Nat} {e : TyD} (hf : fdd ty t f = some (off, e)) {cs : List AV} (h : s.ev x = .agg cs) (hl : ldOk e cs off) : Quiet P c o s (ld e cs off) := by
  refine quiet_pure fun G L a w sm => ?_
  obtain ⟨fs, fl, hu, hfl, rfl, hd⟩ := fdd_info hty hf
  obtain ⟨vs, e1, hr⟩ := RepL.of_agg (sm.eve h)
  simp only [execOp, ho, e1, Instr.field, Sem.run_bind, run_underlying hu, Result.andThen_ok, hfl, asAgg, Sem.run_pure, part, isAgg_run hd]
  unfold ldOk at hl
  unfold ld
  cases ha : e.isAgg with
  | false =>
    simp only [ha, Bool.false_eq_true, if_false] at hl ⊢
    obtain ⟨y, hy, hry, _⟩ := hr.getD hl
    exact ⟨y, by simp [hy], RepT.of hry⟩
  | true =>
    simp only [ha, if_true] at hl ⊢
    refine ⟨.agg ((vs.drop fl.offset).take e.size).toArray, ?_, RepT.of ((hr.drop _).take _).agg⟩
    simp only [Sem.run_bind, sizeOf_run hd, Result.andThen_ok, Sem.run_pure]
    congr 3
    simp [List.extract_toArray, List.extract_eq_take_drop, List.drop_take]
end
end Go.Proofs.YtpnfkfbapfnboaaGreatDoor

