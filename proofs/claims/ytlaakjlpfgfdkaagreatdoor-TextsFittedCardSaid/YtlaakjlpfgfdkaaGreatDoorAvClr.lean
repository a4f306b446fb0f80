/- clear(s[i:]) of a written array. -/
import Derived.Test.YtlaakjlpfgfdkaaGreatDoorAvOwn
namespace Go.Proofs.YtlaakjlpfgfdkaaGreatDoor
open Go
set_option linter.unusedVariables false
set_option linter.unusedSimpArgs false
def AL (P : Program) (c : Cx) (all : Array Oper) (l : List Oper) (s : St) (K : St → Prop) : Prop :=
  ∀ a w, In c s a w → ∀ Qc : Exit → Act → World → Prop, (∀ s' a' w', K s' → In c s' a' w' → Qc .normal a' w') → wpList P all Qc l a w
section
variable {P : Program} {ty : Nat → Option TyD} {c : Cx} {all : Array Oper} {s : St} {K : St → Prop}
theorem AL.nil (h : K s) : AL P c all [] s K := fun a w hi Qc hk => hk s a w h hi
theorem AL.cons {o : Oper} {r : List Oper} (hg : o.guard = none) (h : Aop P c o s fun s1 => AL P c all r s1 K) : AL P c all (o :: r) s K :=
  fun a w hi Qc hk => wpList_plain hg fun K' hK' => h a w hi K' Qc fun s1 a1 w1 h1 hi1 => hK' _ _ (h1 a1 w1 hi1 Qc hk)
end
end Go.Proofs.YtlaakjlpfgfdkaaGreatDoor

