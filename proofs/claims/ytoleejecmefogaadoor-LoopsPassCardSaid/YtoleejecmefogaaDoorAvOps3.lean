/- Quiet operations on numbers, strings, slices; what makes memory that stays. -/
import Derived.Test.YtoleejecmefogaaDoorAvOps2
namespace Go.Proofs.YtoleejecmefogaaDoor
open Go
set_option linter.unusedVariables false
set_option linter.unusedSimpArgs false
def arith (k : IntKind) (r : Int) (K : AV → Prop) : Prop :=
  match k with
  | .i64 => (-9223372036854775808 ≤ r ∧ r ≤ 9223372036854775807) ∧ K (.v (.int .i64 r))
  | k => K (.v (.int k (k.wrap r)))
def iBin (op : BinOp) (k : IntKind) (a b : Int) (K : AV → Prop) : Prop :=
  match op with
  | .add => arith k (a + b) K
  | .sub => arith k (a - b) K
  | .mul => arith k (a * b) K
  | .quo => b ≠ 0 ∧ arith k (a.tdiv b) K
  | .rem => b ≠ 0 ∧ K (.v (.int k (a.tmod b)))
  | .and => K (.v (.int k (bits .and k a b)))
  | .or => K (.v (.int k (bits .or k a b)))
  | .xor => K (.v (.int k (bits .xor k a b)))
  | .andNot => K (.v (.int k (bits .andNot k a b)))
  | .eql => K (.v (.bool (a == b)))
  | .neq => K (.v (.bool (a != b)))
  | .lss => K (.v (.bool (decide (a < b))))
  | .leq => K (.v (.bool (decide (a ≤ b))))
  | .gtr => K (.v (.bool (decide (b < a))))
  | .geq => K (.v (.bool (decide (b ≤ a))))
  | _ => False
def sBin (op : BinOp) (a b : ByteArray) (K : AV → Prop) : Prop :=
  match op with
  | .add => a.size + b.size ≤ 9223372036854775807 ∧ K (.v (.string (a ++ b)))
  | .eql => K (.v (.bool (a == b)))
  | .neq => K (.v (.bool (!(a == b))))
  | .lss => K (.v (.bool (Op.bytesLess a.toList b.toList)))
  | .leq => K (.v (.bool (Op.bytesLess a.toList b.toList || (a == b))))
  | .gtr => K (.v (.bool (!(Op.bytesLess a.toList b.toList || (a == b)))))
  | .geq => K (.v (.bool (!Op.bytesLess a.toList b.toList)))
  | _ => False
/-- Something that is not nil. -/
def AV.notNil : AV → Bool
  | .ref _ _ | .loc _ _ | .ptr _ _ | .map _ | .fn _ _ => true
  | .row _ (_ :: _) _ => true
  | _ => false
def AV.isNil : AV → Bool
  | .v (.pointer none) | .v (.map none) | .v .nilFunc | .v (.slice none _ _) => true
  | _ => false
def nBin (op : BinOp) (b : Bool) (K : AV → Prop) : Prop :=
  match op with
  | .eql => K (.v (.bool b))
  | .neq => K (.v (.bool (!b)))
  | _ => False
def vBin (op : BinOp) (x y : AV) (K : AV → Prop) : Prop :=
  match x, y with
  | .v (.int k a), .v (.int k' b) => k = k' ∧ iBin op k a b K
  | .v (.string a), .v (.string b) => sBin op a b K
  | .v (.bool a), .v (.bool b) => match op with
    | .eql => K (.v (.bool (a == b)))
    | .neq => K (.v (.bool (!(a == b))))
    | _ => False
  | _, _ => False
theorem arith_sound {k : IntKind} {r : Int} {K : AV → Prop} (h : arith k r K) : K (.v (.int k (k.wrap r))) := by
  unfold arith at h
  split at h
  · rw [IntWalk.i64_in r h.1]; exact h.2
  · exact h
theorem vBin_sound {P : Program} {op : BinOp} {x y : AV} {K : AV → Prop} (h : vBin op x y K) {t : TypeId} {o1 o2 : Operand} {u v : Value} {G : Gh} {L : List Nat} (hx : RepT G L x u) (hy : RepT G L y v) {d : TyD} (hd : tyd P t = some d) (hk : ∀ b, x = .v (.bool b) → d.kind = .bool) (w : World) :
    ∃ r, K (.v r) ∧ r.oneCell' = true ∧ ((do eqGuard op t o1 o2 u v; binOp op t u v : Sem Value).run P w) = .ok r w := by
  unfold vBin at h
  split at h
  · rename_i k a k' b
    obtain ⟨rfl, h⟩ := h
    cases hx.v_inv; cases hy.v_inv
    unfold iBin at h
    simp only [eqGuard_at_int, pure_bind]
    cases op <;> simp only at h
    case add => exact ⟨_, arith_sound h, rfl, by rw [binOp_add]; rfl⟩
    case sub => exact ⟨_, arith_sound h, rfl, by rw [binOp_sub]; rfl⟩
    case mul => exact ⟨_, arith_sound h, rfl, by rw [binOp_mul]; rfl⟩
    case quo => exact ⟨_, arith_sound h.2, rfl, by rw [binOp_quo, Op.intDiv, if_neg h.1]; rfl⟩
    case rem => exact ⟨_, h.2, rfl, by rw [binOp_rem, Op.intDiv, if_neg h.1]; rfl⟩
    case and => exact ⟨_, h, rfl, by rw [binOp_and, intBits_and]; rfl⟩
    case or => exact ⟨_, h, rfl, by rw [binOp_or, intBits_or]; rfl⟩
    case xor => exact ⟨_, h, rfl, by rw [binOp_xor, intBits_xor]; rfl⟩
    case andNot => exact ⟨_, h, rfl, by rw [binOp_andNot, intBits_andNot]; rfl⟩
    case eql => exact ⟨_, h, rfl, by rw [binOp_eql]; rfl⟩
    case neq => exact ⟨_, h, rfl, by rw [binOp_neq]; rfl⟩
    case lss => exact ⟨_, h, rfl, by rw [binOp_lss]; rfl⟩
    case leq => exact ⟨_, h, rfl, by rw [binOp_leq]; rfl⟩
    case gtr => exact ⟨_, h, rfl, by rw [binOp_gtr]; rfl⟩
    case geq => exact ⟨_, h, rfl, by rw [binOp_geq]; rfl⟩
  · rename_i a b
    cases hx.v_inv; cases hy.v_inv
    unfold sBin at h
    simp only [eqGuard_at_string, pure_bind]
    have hb := beq_toListBytes a b
    cases op <;> simp only at h
    case add => exact ⟨_, h.2, rfl, by simp only [binOp]; rw [run_string_add_if, if_neg (by omega)]⟩
    all_goals first | exact h.elim | (rw [hb] at h; exact ⟨_, h, rfl, rfl⟩) | exact ⟨_, h, rfl, rfl⟩
  · rename_i a b
    cases hx.v_inv; cases hy.v_inv
    have hkb := hk a rfl
    simp only [eqGuard_at_bool, pure_bind]
    obtain ⟨i, D, z, _, hD2, _, _, hk2, _⟩ := tyd_info hd
    have hDb : D = .bool := by rw [hkb] at hk2; cases D <;> simp_all [kindOf]
    subst hDb
    have hr := run_equalIn_bool' (P := P) w 9999 t a b hD2
    cases op <;> simp only at h
    case eql => exact ⟨_, h, rfl, by simp only [binOp, Op.equal, Op.maxDepth, Sem.run_bind, hr, Result.andThen_ok, Sem.run_pure]⟩
    case neq => exact ⟨_, h, rfl, by simp only [binOp, Op.equal, Op.maxDepth, Sem.run_bind, hr, Result.andThen_ok, Sem.run_pure]⟩
    all_goals exact h.elim
  · exact h.elim
end Go.Proofs.YtoleejecmefogaaDoor
