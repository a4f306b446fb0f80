/- Regions that draw their order: what does not look at memory does not hang on it; what is read decides. -/
import Derived.Test.YtpnfkfbapfnboaaGreatDoorAvDraw
namespace Go.Proofs.YtpnfkfbapfnboaaGreatDoor
open Go
set_option linter.unusedVariables false
set_option linter.unusedSimpArgs false
section
variable {P : Program} {ty : Nat → Option TyD} {md : Option Tmp → Nat} {all : Array Oper}
def plainB (o : Oper) : Bool :=
  match o.op with
  | .store .. | .alloc _ | .makeSlice .. | .makeMap .. | .mapUpdate .. | .insert .. | .range .. | .next .. | .entry _ => false
  | .call { callee := .builtin .append, .. } => false
  | _ => true
theorem vEff_indep {m : Nat} {o : Oper} {ev : Operand → AV} {lo lo2 : List (List AV)} {h h2 : Hp} {x : AV} (hm : ∀ t a, o.op = .box t a → m = 0) (hbi : ∀ b t y z u, o.op = .binOp b t y z u → m ≠ 3) (hms : ∀ t n p, o.op = .buildSlice t n p → ¬ m = 1 ∧ ¬ (m = 2 ∧ n = 0)) (hsl : ∀ t x l n mx, o.op = .slice t x l n mx → m ≠ 1) (hr : isRead o = false) (hp : plainB o = true) (hv : vEff P ty m o.op ev lo h (kEq lo h x)) : vEff P ty m o.op ev lo2 h2 (kEq lo2 h2 x) := by
  cases hop : o.op <;> simp only [vEff, hop] at hv ⊢
  case store t a b => simp [plainB, hop] at hp
  case alloc t => simp [plainB, hop] at hp
  case box t a =>
    cases hm t a hop
    split at hv <;> first | exact ⟨rfl, rfl, hv.2.2⟩ | exact hv.elim
  case move y => exact ⟨rfl, rfl, hv.2.2⟩
  case assign y => exact ⟨rfl, rfl, hv.2.2⟩
  case pick p a b => split at hv <;> first | exact ⟨rfl, rfl, hv.2.2⟩ | exact hv.elim
  case nilCheck y => split at hv <;> first | exact ⟨rfl, rfl, hv.2.2⟩ | exact ⟨hv.1, rfl, rfl, hv.2.2.2⟩
  case load t y => simp [isRead, hop] at hr
  case build t parts =>
    split at hv
    · split at hv <;> first | exact ⟨hv.1, rfl, rfl, hv.2.2.2⟩ | exact hv.elim
    · split at hv
      · split at hv <;> first | exact ⟨rfl, rfl, hv.2.2⟩ | exact hv.elim
      · exact hv.elim
  case index t y i =>
    split at hv
    · exact ⟨hv.1, rfl, rfl, hv.2.2.2⟩
    · split at hv <;> first | exact ⟨hv.1, rfl, rfl, hv.2.2.2⟩ | exact hv.elim
    · exact hv.elim
  case makeSlice t a b => simp [plainB, hop] at hp
  case makeMap t a => simp [plainB, hop] at hp
  case mapUpdate t m k a => simp [plainB, hop] at hp
  case insert t m k a => simp [plainB, hop] at hp
  case range t a => simp [plainB, hop] at hp
  case next a b => simp [plainB, hop] at hp
  case entry a => simp [plainB, hop] at hp
  case lookup t y k ok => simp [isRead, hop] at hr
  case buildSlice t n parts =>
    have hm1 := (hms t n parts hop).1
    have hmn : ¬ (m = 1 ∧ n = 0) := fun h => hm1 h.1
    simp only [if_neg hmn, if_neg (hms t n parts hop).2, if_neg hm1] at hv ⊢
    split at hv
    · split at hv <;> first | exact ⟨hv.1, rfl, rfl, hv.2.2.2⟩ | exact hv.elim
    · exact hv.elim
  case binOp b t y z t' =>
    split at hv
    · split at hv
      · exact absurd rfl (hbi _ _ _ _ _ hop)
      unfold binE at hv ⊢
      split at hv
      · have h3 := hv.2
        unfold nBin at h3 ⊢
        split at h3
        · exact ⟨hv.1, rfl, rfl, h3.2.2⟩
        · exact ⟨hv.1, rfl, rfl, h3.2.2⟩
        · exact h3.elim
      · exact ⟨hv.1, vBin_mono (fun u hu => ⟨rfl, rfl, hu.2.2⟩) hv.2⟩
    · exact hv.elim
  case unOp u t y => cases u <;> simp only at hv ⊢ <;> (split at hv) <;> first | exact ⟨rfl, rfl, hv.2.2⟩ | exact ⟨hv.1, rfl, rfl, hv.2.2.2⟩ | exact hv.elim
  case convert a b y =>
    split at hv
    · split at hv
      · unfold convI at hv ⊢
        split at hv <;> first | exact ⟨hv.1, rfl, rfl, hv.2.2.2⟩ | exact ⟨rfl, rfl, hv.2.2⟩
      · exact hv.elim
    · exact hv.elim
  case slice t y l n mx =>
    have hm1 := hsl _ _ _ _ _ hop
    cases mx <;> simp only at hv ⊢
    unfold sliceE at hv ⊢
    split at hv
    · split at hv <;> first | exact ⟨hv.1, rfl, rfl, hv.2.2.2⟩ | exact hv.elim
    · split at hv <;> first | exact ⟨hv.1, rfl, rfl, hv.2.2.2⟩ | exact hv.elim
    · exact hv.elim
  case makeFunc fn first caps => cases fn <;> simp only at hv ⊢; exact ⟨hv.1, rfl, rfl, hv.2.2.2⟩
  case call cl =>
    obtain ⟨callee, args, ts⟩ := cl
    cases callee <;> simp only at hv ⊢
    case value f => simp [isRead, hop] at hr
    case builtin b =>
      by_cases hap : b = .append
      · subst hap; simp [plainB, hop] at hp
      · unfold biE at hv ⊢
        split at hv
        · cases b <;> simp only at hv ⊢
          unfold lenE at hv ⊢
          split at hv <;> first | exact ⟨hv.1, rfl, rfl, hv.2.2.2⟩ | exact hv.elim
        · cases b <;> simp only at hv ⊢
          case append => exact absurd rfl hap
          all_goals
            unfold minE at hv ⊢
            split at hv <;> first | exact ⟨hv.1, rfl, rfl, hv.2.2.2⟩ | exact hv.elim
        · exact hv.elim
  all_goals
    first
      | (split at hv <;> first | exact ⟨rfl, rfl, hv.2.2⟩ | exact ⟨hv.1, rfl, rfl, hv.2.2.2⟩ | exact hv.elim)
      | exact hv.elim
theorem qV_indep {o : Oper} {ev : Operand → AV} {lo lo2 : List (List AV)} {h h2 : Hp} (hr : isRead o = false) : qV ty o.op ev lo h = qV ty o.op ev lo2 h2 := by
  cases hop : o.op <;> first | rfl | (simp [isRead, hop] at hr; done) | (rename_i u _ _; cases u <;> rfl)
theorem gStep_indep {o : Oper} {sl : List AV} {lo lo2 : List (List AV)} {h h2 : Hp} {x : AV} (hq : quietB md o = true) (hr : isRead o = false) (hp : plainB o = true) (hv : gStep P ty md all o sl lo h (kEq lo h x)) : gStep P ty md all o sl lo2 h2 (kEq lo2 h2 x) := by
  unfold gStep at hv ⊢
  split at hv
  · rename_i hgd
    split at hv
    · unfold pickE at hv ⊢
      split at hv
      · exact ⟨hv.1, rfl, rfl, hv.2.2.2⟩
      · exact hv.elim
    · refine ⟨hv.1, vEff_indep (o := o) (fun t a e => ?_) (fun b t y z u e => ?_) (fun t n p e => ?_) (fun t x l n mx e => ?_) hr hp hv.2⟩
      · simp only [quietB, hgd, Option.isSome_none, Bool.false_or, e, Bool.and_eq_true] at hq
        exact eq_of_beq hq.2
      · simp only [quietB, hgd, Option.isSome_none, Bool.false_or, e, Bool.and_eq_true] at hq
        simpa using hq.2
      · simp only [quietB, hgd, Option.isSome_none, Bool.false_or, e, Bool.and_eq_true] at hq
        refine ⟨fun h1 => ?_, ?_⟩
        · rw [h1] at hq; simp at hq
        · rintro ⟨h1, rfl⟩
          rw [h1] at hq; simp at hq
      · simp only [quietB, hgd, Option.isSome_none, Bool.false_or, e, Bool.and_eq_true] at hq
        simpa using hq.2
  · split at hv
    · exact hv.elim
    · split at hv
      · unfold pickE at hv ⊢
        split at hv
        · exact ⟨hv.1, hv.2.1, rfl, rfl, hv.2.2.2.2⟩
        · exact hv.elim
      · have hcv : isCallV o.op = false := by
          simp only [quietB, Bool.and_eq_true, Bool.not_eq_true'] at hq
          exact hq.1
        simp only [hcv, cond_false] at hv ⊢
        rw [qV_indep (ty := ty) (lo2 := lo2) (h2 := h2) hr] at hv
        split at hv
        · exact ⟨hv.1, hv.2.1, rfl, rfl, hv.2.2.2.2⟩
        · obtain ⟨y, h1, h2', _, _, h5⟩ := hv
          exact ⟨y, fun hc => ⟨(h1 hc).1, vEff_indep (o := o) (fun _ _ _ => rfl) (fun _ _ _ _ _ _ => by decide) (fun _ _ _ _ => ⟨fun h => (by cases h), fun h => (by cases h.1)⟩) (fun _ _ _ _ _ _ => by decide) hr hp (h1 hc).2⟩, h2', rfl, rfl, h5⟩
def readsOf (all : Array Oper) (o : Oper) : List Tmp :=
  (opsOf o.op).filterMap (fun x => match x with | .tmp t => some t | _ => none) ++ match o.guard with | some (j, _) => ((all[j]?).bind (·.dst)).toList | none => []
theorem opS_congr {ev ev' : Operand → AV} : ∀ {xs : List Operand} (_ : ∀ x ∈ xs, ev x = ev' x), opS ev xs = opS ev' xs
  | [], _ => rfl
  | x :: xs, h => by
    have h2 : opS ev xs = opS ev' xs := opS_congr fun y hy => h y (List.mem_cons_of_mem _ hy)
    simp only [opS, h x (by simp), h2]
theorem qV_congr {op : Op} {ev ev' : Operand → AV} {lo : List (List AV)} {h : Hp} (he : ∀ x ∈ opsOf op, ev x = ev' x) : qV ty op ev lo h = qV ty op ev' lo h := by
  cases op <;> simp only [opsOf, List.mem_cons, List.not_mem_nil, or_false, forall_eq_or_imp, forall_eq] at he <;> simp only [qV] <;> try rfl
  case move x => rw [he]
  case assign x => rw [he]
  case box t x => rw [he]
  case load t x => rw [he]
  case nilCheck x => rw [he]
  case binOp b t x y t' => rw [he.1, he.2]
  case unOp u t x => cases u <;> simp only [] <;> rw [he]
  case fieldAddr t x f => rw [he]
  case field t x f => rw [he]
  case indexAddr t x i => rw [he.1, he.2]
  case index t x i => rw [he.1, he.2]
  case extract x i => rw [he]
  case makeFunc fn first caps => rw [List.map_congr_left fun x (hx : x ∈ caps.toList) => he x (List.mem_append_right _ hx), List.map_congr_left fun x (hx : x ∈ first.toList) => he x (List.mem_append_left _ hx)]
  case call cl =>
    obtain ⟨callee, args, ts⟩ := cl
    cases callee <;> simp only []
    rename_i b
    split
    · rename_i y t _ ha ht
      rw [he y (by simp [ha])]
    · rename_i y z _ _ _ ha ht
      rw [he y (by simp [ha]), he z (by simp [ha])]
    · rename_i y z _ _ _ ha ht
      rw [he y (by simp [ha]), he z (by simp [ha])]
    · rfl
theorem gStep_congr {o : Oper} {sl sl' : List AV} {lo : List (List AV)} {h : Hp} {K : List (List AV) → Hp → AV → Prop} (he : ∀ t ∈ readsOf all o, sl.getD t .junk = sl'.getD t .junk) : gStep P ty md all o sl lo h K = gStep P ty md all o sl' lo h K := by
  have hev : ∀ x ∈ opsOf o.op, evL sl x = evL sl' x := fun x hx => by
    cases x with
    | tmp t => exact he t (List.mem_append_left _ (List.mem_filterMap.2 ⟨.tmp t, hx, rfl⟩))
    | _ => rfl
  have hev' : ∀ x ∈ opsOf o.op, (fun x => unw (evL sl x)) x = (fun x => unw (evL sl' x)) x := fun x hx => by simp only [hev x hx]
  have hops : opS (evL sl) (opsOf o.op) = opS (evL sl') (opsOf o.op) := opS_congr hev
  have hveff : ∀ m (K : List (List AV) → Hp → AV → Prop), vEff P ty m o.op (fun x => unw (evL sl x)) lo h K = vEff P ty m o.op (fun x => unw (evL sl' x)) lo h K := fun m K => vEff_congr fun x hx => hev' x (opsOf_mem hx)
  have hpick : ∀ p x y, o.op = .pick p x y → ∀ (cnd : Prop) (K : AV → Prop), pickE cnd (evL sl) p x y K = pickE cnd (evL sl') p x y K := fun p x y hop cnd K => by
    have h1 := hev p (by rw [hop]; simp [opsOf])
    have h2 := hev x (by rw [hop]; simp [opsOf])
    have h3 := hev y (by rw [hop]; simp [opsOf])
    simp only [pickE, h1, h2, h3]
  have hcond : ∀ j w, o.guard = some (j, w) → condG all sl j w = condG all sl' j w := fun j w hg => by
    unfold condG
    split
    · rename_i d hd
      rw [he d (List.mem_append_right _ (by simp [hg, hd]))]
    · rfl
  unfold gStep
  split
  · rename_i hgd
    split
    · rename_i p x y hop; exact hpick p x y hop _ _
    · rw [hops, hveff]
  · rename_i j w hgd
    rw [hcond j w hgd]
    split
    · rfl
    · rename_i cnd hc
      split
      · rename_i p x y hop; exact hpick p x y hop _ _
      · rw [qV_congr (ty := ty) hev', hops]
        simp only [qE, hveff]
end
end Go.Proofs.YtpnfkfbapfnboaaGreatDoor

