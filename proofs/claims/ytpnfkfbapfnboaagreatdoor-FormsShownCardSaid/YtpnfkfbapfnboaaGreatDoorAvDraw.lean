/- Regions that draw their order. -/
import Derived.Test.YtpnfkfbapfnboaaGreatDoorAvReg
namespace Go.Proofs.YtpnfkfbapfnboaaGreatDoor
open Go
set_option linter.unusedVariables false
set_option linter.unusedSimpArgs false
section
variable {P : Program} {ty : Nat → Option TyD} {md : Option Tmp → Nat} {all : Array Oper}
def quietB (md : Option Tmp → Nat) (o : Oper) : Bool :=
  !isCallV o.op && (o.guard.isSome || match o.op with
  | .move _ | .assign _ | .pick .. | .nilCheck _ | .load .. | .build .. | .unOp .. | .convert .. | .fieldAddr .. | .field .. | .indexAddr .. | .index .. | .extract .. | .makeFunc .. | .lookup .. => true
  | .box .. => md o.dst == 0
  | .binOp .. => !(md o.dst == 3)
  | .slice .. => !(md o.dst == 1)
  | .buildSlice _ n _ => !(md o.dst == 1 || (md o.dst == 2 && n == 0))
  | .call { callee := .builtin b, .. } => match b with | .len | .min | .max => true | _ => false
  | _ => false)
def isRead (o : Oper) : Bool :=
  match o.op with
  | .load .. => true
  | .lookup .. => true
  | .call { callee := .value _, .. } => true
  | _ => false
abbrev kEq (lo : List (List AV)) (h : Hp) (x : AV) : List (List AV) → Hp → AV → Prop := fun lo' h' x' => lo' = lo ∧ h' = h ∧ x' = x
theorem iBin_quiet {op : BinOp} {k : IntKind} {a b : Int} {K : AV → Prop} (h : iBin op k a b K) : ∃ x, iBin op k a b (fun z => z = x) ∧ K x := by
  have ha : ∀ r, arith k r K → ∃ x, arith k r (fun z => z = x) ∧ K x := fun r h => by cases k <;> first | exact ⟨_, ⟨h.1, rfl⟩, h.2⟩ | exact ⟨_, rfl, h⟩
  cases op <;> simp only [iBin] at h ⊢
  case add => exact ha _ h
  case sub => exact ha _ h
  case mul => exact ha _ h
  case quo => obtain ⟨x, h1, h2⟩ := ha _ h.2; exact ⟨x, ⟨h.1, h1⟩, h2⟩
  case rem => exact ⟨_, ⟨h.1, rfl⟩, h.2⟩
  case shr => exact ⟨_, ⟨h.1, rfl⟩, h.2⟩
  all_goals first | exact ⟨_, rfl, h⟩ | exact h.elim
theorem vBin_quiet {op : BinOp} {x y : AV} {K : AV → Prop} (h : vBin op x y K) : ∃ z, vBin op x y (fun u => u = z) ∧ K z := by
  unfold vBin at h
  split at h
  · obtain ⟨z, h1, h2⟩ := iBin_quiet h.2
    exact ⟨z, ⟨h.1, h1⟩, h2⟩
  · cases op <;> simp only [sBin] at h <;> first | exact ⟨_, rfl, h⟩ | exact ⟨_, ⟨h.1, rfl⟩, h.2⟩ | exact h.elim
  · cases op <;> simp only at h <;> first | exact ⟨_, rfl, h⟩ | exact h.elim
  · split at h
    · rename_i b hb
      unfold nBin at h
      split at h
      · exact ⟨_, (show (match eqL _ _ with | some b => nBin _ b _ | none => False) by rw [hb]; exact rfl), h⟩
      · exact ⟨_, (show (match eqL _ _ with | some b => nBin _ b _ | none => False) by rw [hb]; exact rfl), h⟩
      · exact h.elim
    · exact h.elim
  · exact h.elim
theorem vEff_quiet {m : Nat} {o : Oper} {ev : Operand → AV} {lo : List (List AV)} {h : Hp} {K : List (List AV) → Hp → AV → Prop} (hg : o.guard = none) (hq : quietB md o = true) (hm : m = md o.dst) (hv : vEff P ty m o.op ev lo h K) :
    ∃ x, vEff P ty m o.op ev lo h (kEq lo h x) ∧ K lo h x := by
  simp only [quietB, hg, Option.isSome_none, Bool.false_or, Bool.and_eq_true] at hq
  replace hq := hq.2
  cases hop : o.op <;> simp only [hop, Bool.false_eq_true] at hq <;> simp only [vEff, hop] at hv ⊢
  case move x => exact ⟨_, ⟨rfl, rfl, rfl⟩, hv⟩
  case assign x => exact ⟨_, ⟨rfl, rfl, rfl⟩, hv⟩
  case pick p x y => split at hv <;> first | exact ⟨_, ⟨rfl, rfl, rfl⟩, hv⟩ | exact hv.elim
  case nilCheck x => split at hv <;> first | exact ⟨_, ⟨rfl, rfl, rfl⟩, hv⟩ | exact ⟨_, ⟨hv.1, rfl, rfl, rfl⟩, hv.2⟩
  case load t x => split at hv <;> first | exact ⟨_, ⟨hv.1, rfl, rfl, rfl⟩, hv.2⟩ | exact hv.elim
  case box t x =>
    have hm0 : m = 0 := by rw [hm]; exact eq_of_beq hq
    subst hm0
    split at hv <;> first | exact ⟨_, ⟨rfl, rfl, rfl⟩, hv⟩ | exact hv.elim
  case build t parts =>
    split at hv
    · split at hv <;> first | exact ⟨_, ⟨hv.1, rfl, rfl, rfl⟩, hv.2⟩ | exact hv.elim
    · split at hv
      · split at hv <;> first | exact ⟨_, ⟨rfl, rfl, rfl⟩, hv⟩ | exact hv.elim
      · exact hv.elim
  case index t x i =>
    split at hv
    · exact ⟨_, ⟨hv.1, rfl, rfl, rfl⟩, hv.2⟩
    · split at hv <;> first | exact ⟨_, ⟨hv.1, rfl, rfl, rfl⟩, hv.2⟩ | exact hv.elim
    · exact hv.elim
  case buildSlice t n parts =>
    have hm1 : ¬ m = 1 := by rintro rfl; rw [← hm] at hq; simp at hq
    have hmn : ¬ (m = 1 ∧ n = 0) := fun h => hm1 h.1
    have hmn2 : ¬ (m = 2 ∧ n = 0) := by rintro ⟨rfl, rfl⟩; rw [← hm] at hq; simp at hq
    simp only [if_neg hmn, if_neg hmn2, if_neg hm1] at hv ⊢
    split at hv
    · split at hv <;> first | exact ⟨_, ⟨hv.1, rfl, rfl, rfl⟩, hv.2⟩ | exact hv.elim
    · exact hv.elim
  case binOp b t x y t' =>
    split at hv
    · rename_i d hd
      have hm3 : m ≠ 3 := by rintro rfl; rw [← hm] at hq; simp at hq
      split at hv
      · exact absurd rfl hm3
      unfold binE at hv ⊢
      split at hv
      · rename_i p q hp hq2
        have h2 := hv.2
        unfold nBin at h2
        split at h2
        · exact ⟨_, ⟨hv.1, rfl, rfl, rfl⟩, h2⟩
        · exact ⟨_, ⟨hv.1, rfl, rfl, rfl⟩, h2⟩
        · exact h2.elim
      · obtain ⟨z, h1, h2⟩ := vBin_quiet hv.2
        exact ⟨z, ⟨hv.1, vBin_mono (fun u hu => ⟨rfl, rfl, hu⟩) h1⟩, h2⟩
    · exact hv.elim
  case unOp u t x => cases u <;> simp only at hv ⊢ <;> (split at hv) <;> first | exact ⟨_, ⟨rfl, rfl, rfl⟩, hv⟩ | exact ⟨_, ⟨hv.1, rfl, rfl, rfl⟩, hv.2⟩ | exact hv.elim
  case lookup t x k ok =>
    split at hv
    · unfold lookE at hv ⊢
      split at hv
      · split at hv
        · split at hv <;> exact ⟨_, ⟨rfl, rfl, rfl⟩, hv⟩
        · exact hv.elim
      · exact hv.elim
    · exact hv.elim
  case convert a b x =>
    split at hv
    · split at hv
      · unfold convI at hv ⊢
        split at hv <;> first | exact ⟨_, ⟨hv.1, rfl, rfl, rfl⟩, hv.2⟩ | exact ⟨_, ⟨rfl, rfl, rfl⟩, hv⟩
      · exact hv.elim
    · exact hv.elim
  case slice t x l n mx =>
    have hm1 : m ≠ 1 := by rw [hm]; simpa using hq
    cases mx <;> simp only at hv ⊢
    unfold sliceE at hv ⊢
    split at hv
    · split at hv <;> first | exact ⟨_, ⟨hv.1, rfl, rfl, rfl⟩, hv.2⟩ | exact hv.elim
    · split at hv <;> first | exact ⟨_, ⟨hv.1, rfl, rfl, rfl⟩, hv.2⟩ | exact hv.elim
    · exact hv.elim
  case makeFunc fn first caps => cases fn <;> simp only at hv ⊢; exact ⟨_, ⟨hv.1, rfl, rfl, rfl⟩, hv.2⟩
  case call cl =>
    obtain ⟨callee, args, ts⟩ := cl
    cases callee <;> simp only [Bool.false_eq_true] at hq
    rename_i b
    simp only at hv ⊢
    unfold biE at hv ⊢
    split at hv
    · cases b <;> simp only [Bool.false_eq_true] at hq hv
      unfold lenE at hv ⊢
      split at hv <;> first | exact ⟨_, ⟨hv.1, rfl, rfl, rfl⟩, hv.2⟩ | exact hv.elim
    · cases b <;> simp only [Bool.false_eq_true] at hq hv
      all_goals
        unfold minE at hv ⊢
        split at hv <;> first | exact ⟨_, ⟨hv.1, rfl, rfl, rfl⟩, hv.2⟩ | exact hv.elim
    · exact hv.elim
  all_goals (split at hv <;> first | exact ⟨_, ⟨hv.1, rfl, rfl, rfl⟩, hv.2⟩ | exact hv.elim)
theorem gStep_quiet {o : Oper} {sl : List AV} {lo : List (List AV)} {h : Hp} {K : List (List AV) → Hp → AV → Prop} (hq : quietB md o = true) (hv : gStep P ty md all o sl lo h K) : ∃ x, gStep P ty md all o sl lo h (kEq lo h x) ∧ K lo h x := by
  unfold gStep at hv ⊢
  split at hv
  · rename_i hgd
    split at hv
    · rename_i p x y hop
      unfold pickE at hv ⊢
      split at hv
      · exact ⟨_, ⟨hv.1, rfl, rfl, rfl⟩, hv.2⟩
      · exact hv.elim
    · obtain ⟨x, h1, h2⟩ := vEff_quiet (o := o) hgd hq rfl hv.2
      exact ⟨x, ⟨hv.1, h1⟩, h2⟩
  · split at hv
    · exact hv.elim
    · split at hv
      · unfold pickE at hv ⊢
        split at hv
        · exact ⟨_, ⟨hv.1, hv.2.1, rfl, rfl, rfl⟩, hv.2.2⟩
        · exact hv.elim
      · have hcv : isCallV o.op = false := by
          simp only [quietB, Bool.and_eq_true, Bool.not_eq_true'] at hq
          exact hq.1
        simp only [hcv, cond_false] at hv ⊢
        split at hv
        · exact ⟨_, ⟨hv.1, hv.2.1, rfl, rfl, rfl⟩, hv.2.2⟩
        · obtain ⟨x, h1, h2, h3⟩ := hv
          exact ⟨_, ⟨x, h1, h2, rfl, rfl, rfl⟩, h3⟩
end
end Go.Proofs.YtpnfkfbapfnboaaGreatDoor

