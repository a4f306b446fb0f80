/- Regions that draw their order. -/
import Derived.Test.YtoleejecmefogaaDoorM2
namespace Go.Proofs.YtoleejecmefogaaDoor
open Go
section
variable {P : Program} {ty : Nat → Option TyD} {md : Option Tmp → Nat} {all : Array Oper}
def quietB (md : Option Tmp → Nat) (o : Oper) : Bool :=
  !isCallV o.op && (o.guard.isSome || match o.op with
  | .move _ | .assign _ | .pick .. | .nilCheck _ | .load .. | .build .. | .binOp .. | .unOp .. | .convert .. | .slice .. | .fieldAddr .. | .field .. | .indexAddr .. | .index .. | .extract .. | .makeFunc .. => true
  | .box .. => md o.dst == 0
  | .buildSlice _ n _ => !((md o.dst == 1 || md o.dst == 2) && n == 0)
  | .call { callee := .builtin b, .. } => match b with | .len | .min | .max => true | _ => false
  | _ => false)
/-- Does it look into what can change? -/
def isRead (o : Oper) : Bool :=
  match o.op with
  | .load .. => true
  | .call { callee := .value _, .. } => true
  | _ => false
abbrev kEq (lo : List (List AV)) (h : Hp) (x : AV) : List (List AV) → Hp → AV → Prop := fun lo' h' x' => lo' = lo ∧ h' = h ∧ x' = x
theorem iBin_quiet {op : BinOp} {k : IntKind} {a b : Int} {K : AV → Prop} (h : iBin op k a b K) : ∃ x, iBin op k a b (fun z => z = x) ∧ K x := by
  have ha : ∀ r, arith k r K → ∃ x, arith k r (fun z => z = x) ∧ K x := fun r h => by cases k <;> first | exact ⟨_, ⟨h.1, rfl⟩, h.2⟩ | exact ⟨_, rfl, h⟩
  cases op <;> simp only [iBin] at h ⊢
  case add => exact ha _ h
  case sub => exact ha _ h
  case mul => exact ha _ h
  case quo => obtain ⟨x, h1, h2⟩ := ha _ h.2; exact ⟨x, ⟨h.1, h1⟩, h2⟩
  case rem => exact ⟨_, ⟨h.1, rfl⟩, h.2⟩
  all_goals first | exact ⟨_, rfl, h⟩ | exact h.elim
theorem vBin_quiet {op : BinOp} {x y : AV} {K : AV → Prop} (h : vBin op x y K) : ∃ z, vBin op x y (fun u => u = z) ∧ K z := by
  unfold vBin at h
  split at h
  · obtain ⟨z, h1, h2⟩ := iBin_quiet h.2
    exact ⟨z, ⟨h.1, h1⟩, h2⟩
  · cases op <;> simp only [sBin] at h <;> first | exact ⟨_, rfl, h⟩ | exact ⟨_, ⟨h.1, rfl⟩, h.2⟩ | exact h.elim
  · cases op <;> simp only at h <;> first | exact ⟨_, rfl, h⟩ | exact h.elim
  · exact h.elim
theorem vEff_quiet {m : Nat} {o : Oper} {ev : Operand → AV} {lo : List (List AV)} {h : Hp} {K : List (List AV) → Hp → AV → Prop} (hg : o.guard = none) (hq : quietB md o = true) (hm : m = md o.dst) (hv : vEff P ty m o.op ev lo h K) :
    ∃ x, vEff P ty m o.op ev lo h (kEq lo h x) ∧ K lo h x := by
  simp only [quietB, hg, Option.isSome_none, Bool.false_or, Bool.and_eq_true] at hq
  replace hq := hq.2
  cases hop : o.op <;> simp only [hop, Bool.false_eq_true] at hq <;> simp only [vEff, hop] at hv ⊢
  case move x => exact ⟨_, ⟨rfl, rfl, rfl⟩, hv⟩
  case assign x => exact ⟨_, ⟨rfl, rfl, rfl⟩, hv⟩
  case pick p x y => split at hv <;> first | exact ⟨_, ⟨rfl, rfl, rfl⟩, hv⟩ | exact hv.elim
  case nilCheck x => split at hv <;> first | exact ⟨_, ⟨rfl, rfl, rfl⟩, hv⟩ | exact ⟨_, ⟨hv.1, rfl, rfl, rfl⟩, hv.2⟩
  case load t x => split at hv <;> first | exact ⟨_, ⟨hv.1, rfl, rfl, rfl⟩, hv.2⟩ | exact hv.elim
  case box t x =>
    have hm0 : m = 0 := by rw [hm]; exact eq_of_beq hq
    subst hm0
    split at hv <;> first | exact ⟨_, ⟨rfl, rfl, rfl⟩, hv⟩ | exact hv.elim
  case build t parts =>
    split at hv
    · split at hv <;> first | exact ⟨_, ⟨hv.1, rfl, rfl, rfl⟩, hv.2⟩ | exact hv.elim
    · exact hv.elim
  case buildSlice t n parts =>
    have hmn : ¬ (m = 1 ∧ n = 0) := by rintro ⟨rfl, rfl⟩; rw [← hm] at hq; simp at hq
    have hmn2 : ¬ (m = 2 ∧ n = 0) := by rintro ⟨rfl, rfl⟩; rw [← hm] at hq; simp at hq
    simp only [if_neg hmn, if_neg hmn2] at hv ⊢
    split at hv
    · split at hv <;> first | exact ⟨_, ⟨hv.1, rfl, rfl, rfl⟩, hv.2⟩ | exact hv.elim
    · exact hv.elim
  case binOp b t x y t' =>
    split at hv
    · rename_i d hd
      unfold binE at hv ⊢
      split at hv
      · rename_i p q hp hq2
        have h2 := hv.2
        unfold nBin at h2
        split at h2
        · exact ⟨_, ⟨hv.1, rfl, rfl, rfl⟩, h2⟩
        · exact ⟨_, ⟨hv.1, rfl, rfl, rfl⟩, h2⟩
        · exact h2.elim
      · obtain ⟨z, h1, h2⟩ := vBin_quiet hv.2
        exact ⟨z, ⟨hv.1, vBin_mono (fun u hu => ⟨rfl, rfl, hu⟩) h1⟩, h2⟩
    · exact hv.elim
  case unOp u t x => cases u <;> simp only at hv ⊢ <;> (split at hv) <;> first | exact ⟨_, ⟨rfl, rfl, rfl⟩, hv⟩ | exact ⟨_, ⟨hv.1, rfl, rfl, rfl⟩, hv.2⟩ | exact hv.elim
  case convert a b x =>
    split at hv
    · split at hv
      · unfold convI at hv ⊢
        split at hv <;> first | exact ⟨_, ⟨hv.1, rfl, rfl, rfl⟩, hv.2⟩ | exact ⟨_, ⟨rfl, rfl, rfl⟩, hv⟩
      · exact hv.elim
    · exact hv.elim
  case slice t x l n mx =>
    cases mx <;> simp only at hv ⊢
    unfold sliceE at hv ⊢
    split at hv
    · split at hv <;> first | exact ⟨_, ⟨hv.1, rfl, rfl, rfl⟩, hv.2⟩ | exact hv.elim
    · split at hv <;> first | exact ⟨_, ⟨hv.1, rfl, rfl, rfl⟩, hv.2⟩ | exact hv.elim
    · exact hv.elim
  case makeFunc fn first caps => cases fn <;> simp only at hv ⊢; exact ⟨_, ⟨hv.1, rfl, rfl, rfl⟩, hv.2⟩
  case call cl =>
    obtain ⟨callee, args, ts⟩ := cl
    cases callee <;> simp only [Bool.false_eq_true] at hq
    rename_i b
    simp only at hv ⊢
    unfold biE at hv ⊢
    split at hv
    · cases b <;> simp only [Bool.false_eq_true] at hq hv
      unfold lenE at hv ⊢
      split at hv <;> first | exact ⟨_, ⟨hv.1, rfl, rfl, rfl⟩, hv.2⟩ | exact hv.elim
    · cases b <;> simp only [Bool.false_eq_true] at hq hv
      all_goals
        unfold minE at hv ⊢
        split at hv <;> first | exact ⟨_, ⟨hv.1, rfl, rfl, rfl⟩, hv.2⟩ | exact hv.elim
    · exact hv.elim
  all_goals (split at hv <;> first | exact ⟨_, ⟨hv.1, rfl, rfl, rfl⟩, hv.2⟩ | exact hv.elim)
theorem gStep_quiet {o : Oper} {sl : List AV} {lo : List (List AV)} {h : Hp} {K : List (List AV) → Hp → AV → Prop} (hq : quietB md o = true) (hv : gStep P ty md all o sl lo h K) : ∃ x, gStep P ty md all o sl lo h (kEq lo h x) ∧ K lo h x := by
  unfold gStep at hv ⊢
  split at hv
  · rename_i hgd
    split at hv
    · rename_i p x y hop
      unfold pickE at hv ⊢
      split at hv
      · exact ⟨_, ⟨hv.1, rfl, rfl, rfl⟩, hv.2⟩
      · exact hv.elim
    · obtain ⟨x, h1, h2⟩ := vEff_quiet (o := o) hgd hq rfl hv.2
      exact ⟨x, ⟨hv.1, h1⟩, h2⟩
  · split at hv
    · exact hv.elim
    · split at hv
      · unfold pickE at hv ⊢
        split at hv
        · exact ⟨_, ⟨hv.1, hv.2.1, rfl, rfl, rfl⟩, hv.2.2⟩
        · exact hv.elim
      · have hcv : isCallV o.op = false := by
          simp only [quietB, Bool.and_eq_true, Bool.not_eq_true'] at hq
          exact hq.1
        simp only [hcv, cond_false] at hv ⊢
        split at hv
        · exact ⟨_, ⟨hv.1, hv.2.1, rfl, rfl, rfl⟩, hv.2.2⟩
        · obtain ⟨x, h1, h2, h3⟩ := hv
          exact ⟨_, ⟨x, h1, h2, rfl, rfl, rfl⟩, h3⟩
end
end Go.Proofs.YtoleejecmefogaaDoor
/- Regions that draw their order: what does not look at memory does not hang on it; what is read decides. -/
namespace Go.Proofs.YtoleejecmefogaaDoor
open Go
section
variable {P : Program} {ty : Nat → Option TyD} {md : Option Tmp → Nat} {all : Array Oper}
/-- An operation that only yields a value. -/
def plainB (o : Oper) : Bool :=
  match o.op with
  | .store .. | .alloc _ | .makeSlice .. => false
  | .call { callee := .builtin .append, .. } => false
  | _ => true
theorem vEff_indep {m : Nat} {o : Oper} {ev : Operand → AV} {lo lo2 : List (List AV)} {h h2 : Hp} {x : AV} (hm : ∀ t a, o.op = .box t a → m = 0) (hms : ∀ t n p, o.op = .buildSlice t n p → ¬ (m = 1 ∧ n = 0) ∧ ¬ (m = 2 ∧ n = 0)) (hr : isRead o = false) (hp : plainB o = true) (hv : vEff P ty m o.op ev lo h (kEq lo h x)) : vEff P ty m o.op ev lo2 h2 (kEq lo2 h2 x) := by
  cases hop : o.op <;> simp only [vEff, hop] at hv ⊢
  case store t a b => simp [plainB, hop] at hp
  case alloc t => simp [plainB, hop] at hp
  case box t a =>
    cases hm t a hop
    split at hv <;> first | exact ⟨rfl, rfl, hv.2.2⟩ | exact hv.elim
  case move y => exact ⟨rfl, rfl, hv.2.2⟩
  case assign y => exact ⟨rfl, rfl, hv.2.2⟩
  case pick p a b => split at hv <;> first | exact ⟨rfl, rfl, hv.2.2⟩ | exact hv.elim
  case nilCheck y => split at hv <;> first | exact ⟨rfl, rfl, hv.2.2⟩ | exact ⟨hv.1, rfl, rfl, hv.2.2.2⟩
  case load t y => simp [isRead, hop] at hr
  case build t parts =>
    split at hv
    · split at hv <;> first | exact ⟨hv.1, rfl, rfl, hv.2.2.2⟩ | exact hv.elim
    · exact hv.elim
  case makeSlice t a b => simp [plainB, hop] at hp
  case buildSlice t n parts =>
    simp only [if_neg (hms t n parts hop).1, if_neg (hms t n parts hop).2] at hv ⊢
    split at hv
    · split at hv <;> first | exact ⟨hv.1, rfl, rfl, hv.2.2.2⟩ | exact hv.elim
    · exact hv.elim
  case binOp b t y z t' =>
    split at hv
    · unfold binE at hv ⊢
      split at hv
      · have h3 := hv.2
        unfold nBin at h3 ⊢
        split at h3
        · exact ⟨hv.1, rfl, rfl, h3.2.2⟩
        · exact ⟨hv.1, rfl, rfl, h3.2.2⟩
        · exact h3.elim
      · exact ⟨hv.1, vBin_mono (fun u hu => ⟨rfl, rfl, hu.2.2⟩) hv.2⟩
    · exact hv.elim
  case unOp u t y => cases u <;> simp only at hv ⊢ <;> (split at hv) <;> first | exact ⟨rfl, rfl, hv.2.2⟩ | exact ⟨hv.1, rfl, rfl, hv.2.2.2⟩ | exact hv.elim
  case convert a b y =>
    split at hv
    · split at hv
      · unfold convI at hv ⊢
        split at hv <;> first | exact ⟨hv.1, rfl, rfl, hv.2.2.2⟩ | exact ⟨rfl, rfl, hv.2.2⟩
      · exact hv.elim
    · exact hv.elim
  case slice t y l n mx =>
    cases mx <;> simp only at hv ⊢
    unfold sliceE at hv ⊢
    split at hv
    · split at hv <;> first | exact ⟨hv.1, rfl, rfl, hv.2.2.2⟩ | exact hv.elim
    · split at hv <;> first | exact ⟨hv.1, rfl, rfl, hv.2.2.2⟩ | exact hv.elim
    · exact hv.elim
  case makeFunc fn first caps => cases fn <;> simp only at hv ⊢; exact ⟨hv.1, rfl, rfl, hv.2.2.2⟩
  case call cl =>
    obtain ⟨callee, args, ts⟩ := cl
    cases callee <;> simp only at hv ⊢
    case value f => simp [isRead, hop] at hr
    case builtin b =>
      by_cases hap : b = .append
      · subst hap; simp [plainB, hop] at hp
      · unfold biE at hv ⊢
        split at hv
        · cases b <;> simp only at hv ⊢
          unfold lenE at hv ⊢
          split at hv <;> first | exact ⟨hv.1, rfl, rfl, hv.2.2.2⟩ | exact hv.elim
        · cases b <;> simp only at hv ⊢
          case append => exact absurd rfl hap
          all_goals
            unfold minE at hv ⊢
            split at hv <;> first | exact ⟨hv.1, rfl, rfl, hv.2.2.2⟩ | exact hv.elim
        · exact hv.elim
  all_goals
    first
      | (split at hv <;> first | exact ⟨rfl, rfl, hv.2.2⟩ | exact ⟨hv.1, rfl, rfl, hv.2.2.2⟩ | exact hv.elim)
      | exact hv.elim
theorem qV_indep {o : Oper} {ev : Operand → AV} {lo lo2 : List (List AV)} {h h2 : Hp} (hr : isRead o = false) : qV ty o.op ev lo h = qV ty o.op ev lo2 h2 := by
  cases hop : o.op <;> first | rfl | (simp [isRead, hop] at hr; done) | (rename_i u _ _; cases u <;> rfl)
theorem gStep_indep {o : Oper} {sl : List AV} {lo lo2 : List (List AV)} {h h2 : Hp} {x : AV} (hq : quietB md o = true) (hr : isRead o = false) (hp : plainB o = true) (hv : gStep P ty md all o sl lo h (kEq lo h x)) : gStep P ty md all o sl lo2 h2 (kEq lo2 h2 x) := by
  unfold gStep at hv ⊢
  split at hv
  · rename_i hgd
    split at hv
    · unfold pickE at hv ⊢
      split at hv
      · exact ⟨hv.1, rfl, rfl, hv.2.2.2⟩
      · exact hv.elim
    · refine ⟨hv.1, vEff_indep (o := o) (fun t a e => ?_) (fun t n p e => ?_) hr hp hv.2⟩
      · simp only [quietB, hgd, Option.isSome_none, Bool.false_or, e, Bool.and_eq_true] at hq
        exact eq_of_beq hq.2
      · simp only [quietB, hgd, Option.isSome_none, Bool.false_or, e, Bool.and_eq_true] at hq
        refine ⟨?_, ?_⟩ <;> rintro ⟨h1, rfl⟩ <;> rw [h1] at hq <;> simp at hq
  · split at hv
    · exact hv.elim
    · split at hv
      · unfold pickE at hv ⊢
        split at hv
        · exact ⟨hv.1, hv.2.1, rfl, rfl, hv.2.2.2.2⟩
        · exact hv.elim
      · have hcv : isCallV o.op = false := by
          simp only [quietB, Bool.and_eq_true, Bool.not_eq_true'] at hq
          exact hq.1
        simp only [hcv, cond_false] at hv ⊢
        rw [qV_indep (ty := ty) (lo2 := lo2) (h2 := h2) hr] at hv
        split at hv
        · exact ⟨hv.1, hv.2.1, rfl, rfl, hv.2.2.2.2⟩
        · obtain ⟨y, h1, h2', _, _, h5⟩ := hv
          exact ⟨y, fun hc => ⟨(h1 hc).1, vEff_indep (o := o) (fun _ _ _ => rfl) (fun _ _ _ _ => ⟨fun h => (by cases h.1), fun h => (by cases h.1)⟩) hr hp (h1 hc).2⟩, h2', rfl, rfl, h5⟩
/-- What an operation looks at. -/
def readsOf (all : Array Oper) (o : Oper) : List Tmp :=
  (opsOf o.op).filterMap (fun x => match x with | .tmp t => some t | _ => none) ++ match o.guard with | some (j, _) => ((all[j]?).bind (·.dst)).toList | none => []
theorem opS_congr {ev ev' : Operand → AV} : ∀ {xs : List Operand} (_ : ∀ x ∈ xs, ev x = ev' x), opS ev xs = opS ev' xs
  | [], _ => rfl
  | x :: xs, h => by
    have h2 : opS ev xs = opS ev' xs := opS_congr fun y hy => h y (List.mem_cons_of_mem _ hy)
    simp only [opS, h x (by simp), h2]
theorem qV_congr {op : Op} {ev ev' : Operand → AV} {lo : List (List AV)} {h : Hp} (he : ∀ x ∈ opsOf op, ev x = ev' x) : qV ty op ev lo h = qV ty op ev' lo h := by
  cases op <;> simp only [opsOf, List.mem_cons, List.not_mem_nil, or_false, forall_eq_or_imp, forall_eq] at he <;> simp only [qV] <;> try rfl
  case move x => rw [he]
  case assign x => rw [he]
  case box t x => rw [he]
  case load t x => rw [he]
  case nilCheck x => rw [he]
  case binOp b t x y t' => rw [he.1, he.2]
  case unOp u t x => cases u <;> simp only [] <;> rw [he]
  case fieldAddr t x f => rw [he]
  case field t x f => rw [he]
  case indexAddr t x i => rw [he.1, he.2]
  case index t x i => rw [he.1, he.2]
  case extract x i => rw [he]
  case call cl =>
    obtain ⟨callee, args, ts⟩ := cl
    cases callee <;> simp only []
    rename_i b
    split
    · rename_i y t _ ha ht
      rw [he y (by simp [ha])]
    · rfl
theorem gStep_congr {o : Oper} {sl sl' : List AV} {lo : List (List AV)} {h : Hp} {K : List (List AV) → Hp → AV → Prop} (he : ∀ t ∈ readsOf all o, sl.getD t .junk = sl'.getD t .junk) : gStep P ty md all o sl lo h K = gStep P ty md all o sl' lo h K := by
  have hev : ∀ x ∈ opsOf o.op, evL sl x = evL sl' x := fun x hx => by
    cases x with
    | tmp t => exact he t (List.mem_append_left _ (List.mem_filterMap.2 ⟨.tmp t, hx, rfl⟩))
    | _ => rfl
  have hev' : ∀ x ∈ opsOf o.op, (fun x => unw (evL sl x)) x = (fun x => unw (evL sl' x)) x := fun x hx => by simp only [hev x hx]
  have hops : opS (evL sl) (opsOf o.op) = opS (evL sl') (opsOf o.op) := opS_congr hev
  have hveff : ∀ m (K : List (List AV) → Hp → AV → Prop), vEff P ty m o.op (fun x => unw (evL sl x)) lo h K = vEff P ty m o.op (fun x => unw (evL sl' x)) lo h K := fun m K => vEff_congr fun x hx => hev' x (opsOf_mem hx)
  have hpick : ∀ p x y, o.op = .pick p x y → ∀ (cnd : Prop) (K : AV → Prop), pickE cnd (evL sl) p x y K = pickE cnd (evL sl') p x y K := fun p x y hop cnd K => by
    have h1 := hev p (by rw [hop]; simp [opsOf])
    have h2 := hev x (by rw [hop]; simp [opsOf])
    have h3 := hev y (by rw [hop]; simp [opsOf])
    simp only [pickE, h1, h2, h3]
  have hcond : ∀ j w, o.guard = some (j, w) → condG all sl j w = condG all sl' j w := fun j w hg => by
    unfold condG
    split
    · rename_i d hd
      rw [he d (List.mem_append_right _ (by simp [hg, hd]))]
    · rfl
  unfold gStep
  split
  · rename_i hgd
    split
    · rename_i p x y hop; exact hpick p x y hop _ _
    · rw [hops, hveff]
  · rename_i j w hgd
    rw [hcond j w hgd]
    split
    · rfl
    · rename_i cnd hc
      split
      · rename_i p x y hop; exact hpick p x y hop _ _
      · rw [qV_congr (ty := ty) hev', hops]
        simp only [qE, hveff]
end
end Go.Proofs.YtoleejecmefogaaDoor
/- Regions that draw their order: one order told, all orders meant. -/
namespace Go.Proofs.YtoleejecmefogaaDoor
open Go
section
variable {P : Program} {ty : Nat → Option TyD} {md : Option Tmp → Nat} {all : Array Oper}
def stepI (P : Program) (ty : Nat → Option TyD) (md : Option Tmp → Nat) (all : Array Oper) (i : Nat) (s : St) (K : St → Prop) : Prop :=
  match all[i]? with
  | some o => gStep P ty md all o s.sl s.lo s.h fun lo' h' x => K (({ sl := s.sl, lo := lo', h := h' } : St).put o.dst x)
  | none => False
def vIdx (P : Program) (ty : Nat → Option TyD) (md : Option Tmp → Nat) (all : Array Oper) : List Nat → St → (St → Prop) → Prop
  | [], s, K => K s
  | i :: r, s, K => stepI P ty md all i s fun s' => vIdx P ty md all r s' K
/-- What has been read still reads so. -/
def reI (P : Program) (ty : Nat → Option TyD) (md : Option Tmp → Nat) (all : Array Oper) (i : Nat) (s : St) : Prop :=
  match all[i]? with
  | some o => match o.dst with
    | some d => gStep P ty md all o s.sl s.lo s.h (kEq s.lo s.h (s.sl.getD d .junk))
    | none => False
  | none => False
def reL (P : Program) (ty : Nat → Option TyD) (md : Option Tmp → Nat) (all : Array Oper) : List Nat → St → Prop
  | [], _ => True
  | i :: r, s => reI P ty md all i s ∧ reL P ty md all r s
def vRest (P : Program) (ty : Nat → Option TyD) (md : Option Tmp → Nat) (all : Array Oper) : List (Nat × List Nat × List Nat) → St → (St → Prop) → Prop
  | [], s, K => K s
  | (l, R, E) :: r, s, K => stepI P ty md all l s fun s2 => reL P ty md all R s2 ∧ vIdx P ty md all E s2 fun s3 => vRest P ty md all r s3 K
theorem reL_mem : ∀ {R : List Nat} {s : St} (_ : reL P ty md all R s) {i : Nat} (_ : i ∈ R), reI P ty md all i s
  | j :: R, s, h, i, hi => by
    rcases List.mem_cons.1 hi with rfl | hi
    · exact h.1
    · exact reL_mem h.2 hi

/-- Bit i of row j: number i comes before number j. -/
def bit (A : List Nat) (i j : Nat) : Bool := (A.getD j 0).testBit i
def ancs (all : Array Oper) : List Nat :=
  all.toList.foldl (fun acc o => acc ++ [o.after.toList.foldl (fun s e => if Region.binds .any e then s ||| 2 ^ e.on ||| acc.getD e.on 0 else s) 0]) []
/-- The rows tell no more than the edges. -/
def okAnc (all : Array Oper) (A : List Nat) : Bool :=
  (List.range all.size).all fun j => match all[j]? with
    | some o => (o.after.toList.all fun e => !Region.binds .any e || decide (e.on < j)) && (List.range all.size).all fun i => !bit A i j || o.after.toList.any fun e => Region.binds .any e && (e.on == i || bit A i e.on)
    | none => false
theorem okAnc_edge {A : List Nat} (h : okAnc all A = true) {j : Nat} {o : Oper} (ho : all[j]? = some o) : ∀ e ∈ o.after, Region.binds .any e = true → e.on < j := by
  intro e he hb
  simp only [okAnc, List.all_eq_true, List.mem_range] at h
  have h1 := h j (Array.getElem?_eq_some_iff.1 ho).1
  rw [ho] at h1
  simp only [Bool.and_eq_true, List.all_eq_true] at h1
  have h2 := h1.1 e (by simpa using he)
  rw [hb] at h2
  simpa using h2
theorem okAnc_bit {A : List Nat} (h : okAnc all A = true) {i j : Nat} {o : Oper} (ho : all[j]? = some o) (hi : i < all.size) (hb : bit A i j = true) : ∃ e ∈ o.after, Region.binds .any e = true ∧ (e.on = i ∨ bit A i e.on = true) := by
  simp only [okAnc, List.all_eq_true, List.mem_range] at h
  have h1 := h j (Array.getElem?_eq_some_iff.1 ho).1
  rw [ho] at h1
  simp only [Bool.and_eq_true, List.all_eq_true, List.mem_range] at h1
  have h2 := h1.2 i hi
  rw [hb] at h2
  simp only [Bool.not_true, Bool.false_or, List.any_eq_true, Bool.and_eq_true, Bool.or_eq_true, beq_iff_eq] at h2
  obtain ⟨e, he, h3, h4⟩ := h2
  exact ⟨e, by simpa using he, h3, h4⟩
/-- Whoever is listed, what it waits for is listed. -/
def ClosedX (all : Array Oper) (X : Nat → Bool) : Prop := ∀ (j : Nat) (o : Oper), all[j]? = some o → X j = true → ∀ e ∈ o.after, Region.binds .any e = true → X e.on = true
theorem anc_listed {A : List Nat} (h : okAnc all A = true) {X : Nat → Bool} (hX : ClosedX all X) {i : Nat} (hi : i < all.size) : ∀ (j : Nat) {o : Oper} (_ : all[j]? = some o) (_ : ∀ e ∈ o.after, Region.binds .any e = true → X e.on = true) (_ : bit A i j = true), X i = true := by
  intro j
  induction j using Nat.strongRecOn with
  | _ j ih =>
    intro o ho hdeps hb
    obtain ⟨e, he, hbe, h1⟩ := okAnc_bit h ho hi hb
    have hXe := hdeps e he hbe
    rcases h1 with rfl | h1
    · exact hXe
    · have hlt := okAnc_edge h ho e he hbe
      have hjn := (Array.getElem?_eq_some_iff.1 ho).1
      have hej : e.on < all.size := by omega
      exact ih e.on hlt (Array.getElem?_eq_getElem hej) (hX e.on _ (Array.getElem?_eq_getElem hej) hXe) h1
/-- The check of a plan: E0, then each loud one with what is read again and what follows it. -/
def dstOf (all : Array Oper) (i : Nat) : Option Tmp := (all[i]?).bind (·.dst)
def allE (E0 : List Nat) (pl : List (Nat × List Nat × List Nat)) : List Nat := E0 ++ pl.flatMap fun p => p.1 :: p.2.2
def quietI (md : Option Tmp → Nat) (all : Array Oper) (i : Nat) : Bool := match all[i]? with | some o => quietB md o && plainB o && o.dst.isSome | none => false
def nodupB : List Nat → Bool
  | [] => true
  | x :: xs => !xs.contains x && nodupB xs
def sortedB : List Nat → Bool
  | [] => true
  | x :: xs => (xs.all fun y => decide (x < y)) && sortedB xs
def planOk (md : Option Tmp → Nat) (all : Array Oper) (A : List Nat) (prev : List Nat) : List (Nat × List Nat × List Nat) → Bool
  | [] => true
  | (l, R, E) :: r => sortedB E && (prev.all fun i => !bit A l i && E.all fun k => !bit A k i) && (r.all fun q => bit A l q.1) && ((E ++ r.flatMap fun q => q.2.2).all fun i => bit A l i) && E.all (quietI md all) &&
      (prev.all fun i => bit A i l || R.contains i || match all[i]? with | some o => !isRead o | none => false) && planOk md all A (prev ++ E) r
/-- Who writes what another one reads comes before it, or is loud and comes behind it. -/
def readsOk (all : Array Oper) (A : List Nat) (louds : List Nat) : Bool :=
  (List.range all.size).all fun i => match all[i]? with
    | some o => (List.range all.size).all fun k => match dstOf all k with
        | some t => !(readsOf all o).contains t || (k != i && (bit A k i || (bit A i k && louds.contains k)))
        | none => true
    | none => false
def dstsOk (all : Array Oper) (n : Nat) : Bool := nodupB (all.toList.filterMap (·.dst)) && (all.toList.filterMap (·.dst)).all fun d => decide (d < n)
def drawOk (md : Option Tmp → Nat) (all : Array Oper) (n : Nat) (E0 : List Nat) (pl : List (Nat × List Nat × List Nat)) : Bool :=
  let A := ancs all
  okAnc all A && nodupB (allE E0 pl) && ((List.range all.size).all fun i => (allE E0 pl).contains i) && ((allE E0 pl).all fun i => decide (i < all.size)) && E0.all (quietI md all) && sortedB E0 && planOk md all A E0 pl && readsOk all A (pl.map (·.1)) && dstsOk all n
/-- The plan itself. -/
def loudI (md : Option Tmp → Nat) (all : Array Oper) (A : List Nat) (i : Nat) : Bool :=
  !quietI md all i || match dstOf all i with
    | some t => (List.range all.size).any fun j => j != i && bit A j i && match all[j]? with | some o => (readsOf all o).contains t | none => false
    | none => false
def planAt (md : Option Tmp → Nat) (all : Array Oper) (A : List Nat) (louds : List Nat) : List Nat → List (Nat × List Nat × List Nat)
  | [] => []
  | l :: r => (l, (List.range all.size).filter (fun i => !louds.contains i && !bit A i l && (match all[i]? with | some o => isRead o | none => false) && !(l :: r).any (fun q => bit A q i)),
      (List.range all.size).filter fun i => !louds.contains i && bit A l i && !r.any (fun q => bit A q i)) :: planAt md all A louds r
def planOf (md : Option Tmp → Nat) (all : Array Oper) : List Nat × List (Nat × List Nat × List Nat) :=
  let A := ancs all
  let louds := (List.range all.size).filter (loudI md all A)
  ((List.range all.size).filter (fun i => !louds.contains i && !louds.any (fun q => bit A q i)), planAt md all A louds louds)
end
end Go.Proofs.YtoleejecmefogaaDoor
/- Regions that draw their order: the proof. -/
namespace Go.Proofs.YtoleejecmefogaaDoor
open Go
section
variable {P : Program} {ty : Nat → Option TyD} {md : Option Tmp → Nat} {all : Array Oper} {c : Cx}
theorem bit_lt {A : List Nat} (h : okAnc all A = true) {i : Nat} (hi : i < all.size) : ∀ (j : Nat) (_ : j < all.size) (_ : bit A i j = true), i < j := by
  intro j
  induction j using Nat.strongRecOn with
  | _ j ih =>
    intro hj hb
    obtain ⟨e, he, hbe, h1⟩ := okAnc_bit h (Array.getElem?_eq_getElem hj) hi hb
    have hlt := okAnc_edge h (Array.getElem?_eq_getElem hj) e he hbe
    rcases h1 with rfl | h1
    · exact hlt
    · have := ih e.on hlt (by omega) h1; omega
theorem countP_lt {p q : Nat → Bool} {i : Nat} : ∀ {l : List Nat} (_ : ∀ x ∈ l, q x = true → p x = true) (_ : i ∈ l) (_ : p i = true) (_ : q i = false), l.countP q < l.countP p
  | x :: l, h, hi, hp, hq => by
    have hle : l.countP q ≤ l.countP p := List.countP_mono_left fun y hy => h y (List.mem_cons_of_mem _ hy)
    rcases List.mem_cons.1 hi with rfl | hi
    · rw [List.countP_cons_of_pos hp, List.countP_cons_of_neg (by simp [hq])]; omega
    · have ih := countP_lt (fun y hy => h y (List.mem_cons_of_mem _ hy)) hi hp hq
      by_cases hx : q x = true
      · rw [List.countP_cons_of_pos hx, List.countP_cons_of_pos (h x (by simp) hx)]; omega
      · rw [List.countP_cons_of_neg (by simpa using hx)]
        have : l.countP p ≤ (x :: l).countP p := by rw [List.countP_cons]; omega
        omega
theorem nodupB_spec : ∀ {l : List Nat} (_ : nodupB l = true), l.Nodup
  | [], _ => List.nodup_nil
  | x :: xs, h => by
    simp only [nodupB, Bool.and_eq_true, Bool.not_eq_true', List.contains_eq_mem, decide_eq_false_iff_not] at h
    exact List.nodup_cons.2 ⟨h.1, nodupB_spec h.2⟩
theorem sortedB_spec : ∀ {l : List Nat} (_ : sortedB l = true), l.Pairwise (· < ·)
  | [], _ => List.Pairwise.nil
  | x :: xs, h => by
    simp only [sortedB, Bool.and_eq_true, List.all_eq_true, decide_eq_true_eq] at h
    exact List.pairwise_cons.2 ⟨h.1, sortedB_spec h.2⟩
/-- Two operations do not write one slot. -/
theorem dst_inj {n : Nat} (h : dstsOk all n = true) {i j : Nat} {d : Tmp} (hi : dstOf all i = some d) (hj : dstOf all j = some d) : i = j := by
  simp only [dstsOk, Bool.and_eq_true] at h
  have hnd := nodupB_spec h.1
  have key : ∀ (l : List Oper) (_ : (l.filterMap (·.dst)).Nodup) (i j : Nat) (oi oj : Oper), l[i]? = some oi → l[j]? = some oj → oi.dst = some d → oj.dst = some d → i = j := by
    intro l
    induction l with
    | nil => intro _ i j oi oj a; simp at a
    | cons o l ih =>
      intro hn i j oi oj a b ea eb
      have hn' : (l.filterMap (·.dst)).Nodup := by
        cases hd : o.dst with
        | none => simpa [List.filterMap_cons, hd] using hn
        | some e => rw [List.filterMap_cons, hd] at hn; exact (List.nodup_cons.1 hn).2
      have hno : ∀ (k : Nat) ok, l[k]? = some ok → ok.dst = some d → o.dst = some d → False := fun k ok hk ek eo => by
        rw [List.filterMap_cons, eo] at hn
        exact (List.nodup_cons.1 hn).1 (List.mem_filterMap.2 ⟨ok, List.mem_of_getElem? hk, ek⟩)
      cases i with
      | zero =>
        cases j with
        | zero => rfl
        | succ j =>
          simp only [List.getElem?_cons_zero, Option.some.injEq, List.getElem?_cons_succ] at a b
          subst a
          exact (hno j oj b eb ea).elim
      | succ i =>
        cases j with
        | zero =>
          simp only [List.getElem?_cons_zero, Option.some.injEq, List.getElem?_cons_succ] at a b
          subst b
          exact (hno i oi a ea eb).elim
        | succ j =>
          simp only [List.getElem?_cons_succ] at a b
          rw [ih hn' i j oi oj a b ea eb]
  unfold dstOf at hi hj
  cases hoi : all[i]? with
  | none => rw [hoi] at hi; cases hi
  | some oi =>
    cases hoj : all[j]? with
    | none => rw [hoj] at hj; cases hj
    | some oj =>
      rw [hoi] at hi; rw [hoj] at hj
      exact key all.toList hnd i j oi oj (by simpa using hoi) (by simpa using hoj) hi hj
theorem dst_lt {n : Nat} (h : dstsOk all n = true) {i : Nat} {d : Tmp} (hi : dstOf all i = some d) : d < n := by
  simp only [dstsOk, Bool.and_eq_true, List.all_eq_true, decide_eq_true_eq] at h
  unfold dstOf at hi
  cases hoi : all[i]? with
  | none => rw [hoi] at hi; cases hi
  | some oi =>
    rw [hoi] at hi
    exact h.2 d (List.mem_filterMap.2 ⟨oi, by simpa using List.mem_of_getElem? (l := all.toList) (i := i) (by simpa using hoi), hi⟩)
theorem readsOk_spec {A louds : List Nat} (h : readsOk all A louds = true) {i k : Nat} {o : Oper} {t : Tmp} (ho : all[i]? = some o) (hk : dstOf all k = some t) (ht : t ∈ readsOf all o) : k ≠ i ∧ (bit A k i = true ∨ bit A i k = true ∧ k ∈ louds) := by
  simp only [readsOk, List.all_eq_true, List.mem_range] at h
  have hkn : k < all.size := by
    unfold dstOf at hk
    cases hok : all[k]? with
    | none => rw [hok] at hk; cases hk
    | some ok => exact (Array.getElem?_eq_some_iff.1 hok).1
  have h1 := h i (Array.getElem?_eq_some_iff.1 ho).1
  rw [ho] at h1
  simp only [List.all_eq_true, List.mem_range] at h1
  have h2 := h1 k hkn
  rw [hk] at h2
  simp only [List.contains_eq_mem, ht, decide_true, Bool.not_true, Bool.false_or, Bool.and_eq_true, bne_iff_ne, ne_eq, Bool.or_eq_true, decide_eq_true_eq] at h2
  exact h2
theorem getD_set_self {l : List AV} {d : Nat} {x : AV} (h : d < l.length) : (l.set d x).getD d .junk = x := by simp [List.getD_eq_getElem?_getD, h]
theorem getD_set_other {l : List AV} {d t : Nat} {x : AV} (h : d ≠ t) : (l.set d x).getD t .junk = l.getD t .junk := by simp [List.getD_eq_getElem?_getD, List.getElem?_set_ne h]
/-- Number i yields what its slot holds. -/
def Val (P : Program) (ty : Nat → Option TyD) (md : Option Tmp → Nat) (all : Array Oper) (i : Nat) (S : St) : Prop :=
  ∃ o d, all[i]? = some o ∧ o.dst = some d ∧ gStep P ty md all o S.sl S.lo S.h (kEq S.lo S.h (S.sl.getD d .junk))
/-- A run of quiet operations. -/
theorem vIdx_quiet {A louds : List Nat} {n : Nat} (hA : okAnc all A = true) (hd : dstsOk all n = true) (hr : readsOk all A louds = true) {K : St → Prop} :
    ∀ (E : List Nat) (s : St) (_ : E.all (quietI md all) = true) (_ : E.Pairwise (· < ·)) (_ : ∀ i ∈ E, i < all.size ∧ i ∉ louds) (_ : s.sl.length = n) (_ : vIdx P ty md all E s K),
      ∃ s3, K s3 ∧ s3.lo = s.lo ∧ s3.h = s.h ∧ s3.sl.length = n ∧ (∀ i ∈ E, Val P ty md all i s3) ∧ ∀ t, (∀ i ∈ E, dstOf all i ≠ some t) → s3.sl.getD t .junk = s.sl.getD t .junk
  | [], s, _, _, _, hl, h => ⟨s, h, rfl, rfl, hl, by simp, fun _ _ => rfl⟩
  | i :: E, s, hq, hp, hm, hl, h => by
    simp only [List.all_cons, Bool.and_eq_true] at hq
    obtain ⟨hpi, hpE⟩ := List.pairwise_cons.1 hp
    have hqi := hq.1
    unfold quietI at hqi
    simp only [vIdx, stepI] at h
    cases ho : all[i]? with
    | none => rw [ho] at h; exact h.elim
    | some o =>
      rw [ho] at h hqi
      simp only [Bool.and_eq_true] at hqi
      obtain ⟨⟨hqo, _⟩, hdo⟩ := hqi
      obtain ⟨d, hdd⟩ := Option.isSome_iff_exists.1 hdo
      have hdi : dstOf all i = some d := by simp [dstOf, ho, hdd]
      have hdn := dst_lt hd hdi
      obtain ⟨x, hx, hK⟩ := gStep_quiet hqo h
      rw [hdd] at hK
      obtain ⟨s3, hK3, hlo, hh, hl3, hv, hkeep⟩ := vIdx_quiet hA hd hr E (({ sl := s.sl, lo := s.lo, h := s.h } : St).put (some d) x) hq.2 hpE (fun j hj => hm j (List.mem_cons_of_mem _ hj)) (by simpa [St.put] using hl) hK
      simp only [St.put] at hlo hh hkeep
      have hdE : ∀ j ∈ E, dstOf all j ≠ some d := fun j hj e => by
        have := dst_inj hd hdi e
        have := hpi j hj
        omega
      refine ⟨s3, hK3, hlo, hh, hl3, fun j hj => ?_, fun t ht => ?_⟩
      · rcases List.mem_cons.1 hj with rfl | hj
        · refine ⟨o, d, ho, hdd, ?_⟩
          have hval : s3.sl.getD d .junk = x := by rw [hkeep d hdE, getD_set_self (by rw [hl]; exact hdn)]
          rw [hval, hlo, hh]
          rw [← gStep_congr (sl := s.sl) (fun t ht => ?_)]
          · exact hx
          · have hne : d ≠ t := fun e => by
              subst e
              exact (readsOk_spec hr ho hdi ht).1 rfl
            rw [hkeep t (fun k hk e => ?_), getD_set_other hne]
            rcases (readsOk_spec hr ho e ht).2 with hb | ⟨_, hlk⟩
            · have := bit_lt hA (hm k (List.mem_cons_of_mem _ hk)).1 j (hm j (by simp)).1 hb
              have := hpi k hk
              omega
            · exact (hm k (List.mem_cons_of_mem _ hk)).2 hlk
        · exact hv j hj
      · have hne : d ≠ t := fun e => ht i (by simp) (e ▸ hdi)
        rw [hkeep t fun k hk => ht k (List.mem_cons_of_mem _ hk), getD_set_other hne]
end
end Go.Proofs.YtoleejecmefogaaDoor
/- Regions that draw their order: the rule. -/
namespace Go.Proofs.YtoleejecmefogaaDoor
open Go
section
variable {P : Program} {ty : Nat → Option TyD} {md : Option Tmp → Nat} {all : Array Oper} {c : Cx}
def allR (r : List (Nat × List Nat × List Nat)) : List Nat := r.flatMap fun p => p.1 :: p.2.2
theorem Val.move {A louds : List Nat} {n : Nat} (hr : readsOk all A louds = true) {i : Nat} {S S' : St} (hv : Val P ty md all i S) (hq : quietI md all i = true)
    (hmem : (∃ o, all[i]? = some o ∧ isRead o = false) ∨ (S'.lo = S.lo ∧ S'.h = S.h)) (hread : ∀ o t, all[i]? = some o → t ∈ readsOf all o → S'.sl.getD t .junk = S.sl.getD t .junk) (hdst : ∀ d, dstOf all i = some d → S'.sl.getD d .junk = S.sl.getD d .junk) (_ : n = n) (_ := hr) : Val P ty md all i S' := by
  obtain ⟨o, d, ho, hd, hg⟩ := hv
  refine ⟨o, d, ho, hd, ?_⟩
  rw [hdst d (by simp [dstOf, ho, hd])]
  rw [gStep_congr (sl' := S.sl) (fun t ht => hread o t ho ht)]
  unfold quietI at hq
  rw [ho] at hq
  simp only [Bool.and_eq_true] at hq
  rcases hmem with ⟨o', ho', hr'⟩ | ⟨e1, e2⟩
  · rw [ho] at ho'; cases ho'
    exact gStep_indep hq.1.1 hr' hq.1.2 hg
  · rw [e1, e2]; exact hg
theorem draw_go (hty : TyOk P ty) {A louds : List Nat} {n : Nat} (hA : okAnc all A = true) (hd : dstsOk all n = true) (hr : readsOk all A louds = true) {K : St → Prop} {Qq : Exit → Act → World → Prop} (hk : ∀ s' a' w', K s' → In c s' a' w' → Qq .normal a' w') :
    ∀ (fuel : Nat) (listed : Array Bool) (prev : List Nat) (r : List (Nat × List Nat × List Nat)) (S s' : St) (a : Act) (w : World),
      (List.range all.size).countP (fun i => !listed.getD i false) ≤ fuel → listed.size = all.size → ClosedX all (fun i => listed.getD i false) → planOk md all A prev r = true →
      (∀ i ∈ prev, quietI md all i = true ∧ i ∉ louds) → (∀ i ∈ allR r, i < all.size) → (∀ p ∈ r, p.1 ∈ louds ∧ ∀ i ∈ p.2.2, i ∉ louds) → (prev ++ allR r).Nodup →
      (∀ i, i < all.size → listed.getD i false = true ∨ i ∈ prev ∨ i ∈ allR r) → (∀ i ∈ allR r, listed.getD i false = false) →
      (∀ i ∈ prev, listed.getD i false = false → Val P ty md all i S) →
      s'.lo = S.lo → s'.h = S.h → s'.sl.length = n → S.sl.length = n → (∀ t, (∀ i ∈ prev, listed.getD i false = false → dstOf all i ≠ some t) → s'.sl.getD t .junk = S.sl.getD t .junk) →
      vRest P ty md all r S K → In c s' a w → wpAny P .any all Qq fuel listed a w := by
  intro fuel
  have done : ∀ (listed : Array Bool) (prev : List Nat) (r : List (Nat × List Nat × List Nat)) (S s' : St) (a : Act) (w : World), (∀ i, i < all.size → listed.getD i false = true) → listed.size = all.size → (∀ i ∈ allR r, i < all.size) →
      (∀ i ∈ allR r, listed.getD i false = false) → (∀ i ∈ prev, quietI md all i = true ∧ i ∉ louds) → s'.lo = S.lo → s'.h = S.h → s'.sl.length = n → S.sl.length = n → (∀ t, (∀ i ∈ prev, listed.getD i false = false → dstOf all i ≠ some t) → s'.sl.getD t .junk = S.sl.getD t .junk) →
      vRest P ty md all r S K → In c s' a w → Qq .normal a w := by
    intro listed prev r S s' a w hall hsz hrn hno hpq e1 e2 l1 l2 hrel hrest hin
    cases r with
    | cons p r =>
      have hm : p.1 ∈ allR (p :: r) := by simp [allR]
      have := hno p.1 hm
      rw [hall _ (hrn _ hm)] at this; cases this
    | nil =>
      have hs : s' = S := by
        obtain ⟨sl, lo, h⟩ := s'
        obtain ⟨sl2, lo2, h2⟩ := S
        simp only at e1 e2 l1 l2 hrel
        subst e1; subst e2
        congr 1
        apply List.ext_getElem (by omega)
        intro t h1 h2
        have := hrel t fun i hi hX => by
          have hq := (hpq i hi).1
          have hin : i < all.size := by
            unfold quietI at hq
            cases ho : all[i]? with
            | none => rw [ho] at hq; cases hq
            | some o => exact (Array.getElem?_eq_some_iff.1 ho).1
          rw [hall i hin] at hX; cases hX
        simpa [List.getD_eq_getElem?_getD, List.getElem?_eq_getElem h1, List.getElem?_eq_getElem h2] using this
      subst hs
      exact hk _ a w hrest hin
  have nready : ∀ (listed : Array Bool), listed.size = all.size → (∀ i, i < all.size → listed.getD i false = true) → Region.ready .any all listed = [] := by
    intro listed hsz hall
    cases hrd : Region.ready .any all listed with
    | nil => rfl
    | cons j js =>
      have hj : j ∈ Region.ready .any all listed := by rw [hrd]; simp
      obtain ⟨h0, o, ho, _⟩ := mem_ready.1 hj
      have hjn := (Array.getElem?_eq_some_iff.1 ho).1
      have h1 := hall j hjn
      have hjs : j < listed.size := by omega
      simp [hjs] at h0 h1
      rw [h0] at h1; cases h1
  have rdone : ∀ (listed : Array Bool), listed.size = all.size → Region.ready .any all listed = [] → ∀ i, i < all.size → listed.getD i false = true := by
    intro listed hsz hrd i
    induction i using Nat.strongRecOn with
    | _ i ih =>
      intro hi
      cases hX : listed.getD i false with
      | true => rfl
      | false =>
        have : i ∈ Region.ready .any all listed := mem_ready.2 ⟨by
          have his : i < listed.size := by omega
          simp [his] at hX ⊢; exact hX, all[i], Array.getElem?_eq_getElem hi, fun e he hb => by
          have hlt := okAnc_edge hA (Array.getElem?_eq_getElem hi) e he hb
          exact ih e.on hlt (by omega)⟩
        rw [hrd] at this; cases this
  induction fuel with
  | zero =>
    intro listed prev r S s' a w hcnt hsz hcl hplan hpq hrn hpl hnd hcov hno hval e1 e2 l1 l2 hrel hrest hin
    have hall : ∀ i, i < all.size → listed.getD i false = true := fun i hi => by
      have h0 := List.countP_eq_zero.1 (Nat.le_zero.1 hcnt) i (List.mem_range.2 hi)
      simpa using h0
    exact ⟨nready listed hsz hall, done listed prev r S s' a w hall hsz hrn hno hpq e1 e2 l1 l2 hrel hrest hin⟩
  | succ fuel ih =>
    intro listed prev r S s' a w hcnt hsz hcl hplan hpq hrn hpl hnd hcov hno hval e1 e2 l1 l2 hrel hrest hin
    refine ⟨fun hrd => done listed prev r S s' a w (rdone listed hsz hrd) hsz hrn hno hpq e1 e2 l1 l2 hrel hrest hin, fun i hi => ?_⟩
    obtain ⟨h0, o, ho, hdeps⟩ := mem_ready.1 hi
    have hin' := (Array.getElem?_eq_some_iff.1 ho).1
    have hXi : listed.getD i false = false := by
      have his : i < listed.size := by omega
      simp [his] at h0 ⊢; exact h0
    have hanc : ∀ k, k < all.size → bit A k i = true → listed.getD k false = true := fun k hk hb => anc_listed hA hcl hk i ho hdeps hb
    have hX' : ∀ k, (listed.setIfInBounds i true).getD k false = if k = i then true else listed.getD k false := fun k => by
      by_cases e : k = i
      · subst e
        have hks : k < listed.size := by omega
        simp [hks]
      · rw [if_neg e, getD_set_ne false (Ne.symm e)]
    have hsz' : (listed.setIfInBounds i true).size = all.size := by simpa using hsz
    have hcnt' : (List.range all.size).countP (fun k => !(listed.setIfInBounds i true).getD k false) ≤ fuel := by
      have := countP_lt (p := fun k => !listed.getD k false) (q := fun k => !(listed.setIfInBounds i true).getD k false) (i := i) (l := List.range all.size) (fun k _ hk => by
        rw [hX'] at hk
        by_cases e : k = i
        · rw [if_pos e] at hk; cases hk
        · rw [if_neg e] at hk; exact hk) (List.mem_range.2 hin') (by rw [hXi]; rfl) (by rw [hX', if_pos rfl]; rfl)
      omega
    have hcl' : ClosedX all (fun k => (listed.setIfInBounds i true).getD k false) := by
      intro j oj hoj hj e he hb
      have hj' : (listed.setIfInBounds i true).getD j false = true := hj
      show (listed.setIfInBounds i true).getD e.on false = true
      rw [hX'] at hj' ⊢
      by_cases ee : e.on = i
      · rw [if_pos ee]
      · rw [if_neg ee]
        by_cases ej : j = i
        · subst ej; rw [ho] at hoj; cases hoj
          exact hdeps e he hb
        · rw [if_neg ej] at hj'
          exact hcl j oj hoj hj' e he hb
    -- what it looks at is told as in S
    have hlook : ∀ t ∈ readsOf all o, s'.sl.getD t .junk = S.sl.getD t .junk := fun t ht => hrel t fun k hk hXk e => by
      have hkn : k < all.size := by
        have hq := (hpq k hk).1
        unfold quietI at hq
        cases hok : all[k]? with
        | none => rw [hok] at hq; cases hq
        | some ok => exact (Array.getElem?_eq_some_iff.1 hok).1
      rcases (readsOk_spec hr ho e ht).2 with hb | ⟨_, hl⟩
      · rw [hanc k hkn hb] at hXk; cases hXk
      · exact (hpq k hk).2 hl
    have run : ∀ (K' : List (List AV) → Hp → AV → Prop), gStep P ty md all o S.sl S.lo S.h K' → ∀ (Kc : Act → World → Prop), (∀ lo' h' x a' w', K' lo' h' x → In c (({ sl := s'.sl, lo := lo', h := h' } : St).put o.dst x) a' w' → Kc a' w') → wpOp P all Qq i Kc a w := by
      intro K' hg Kc hkc
      rw [gStep_congr (sl' := s'.sl) (fun t ht => (hlook t ht).symm), ← e1, ← e2] at hg
      have := gStep_sound (c := c) hty hg hin (Kc := Kc) (Q := Qq) hkc
      unfold wpOp
      rw [ho]
      simp only
      split
      · rename_i hw; rw [if_pos hw] at this; exact .inl this
      · rename_i hw; rw [if_neg hw] at this; exact this
    by_cases hip : i ∈ prev
    · -- a quiet one, whose value is known
      obtain ⟨o', d, ho', hdd, hg⟩ := hval i hip hXi
      rw [ho] at ho'; cases ho'
      have hdi : dstOf all i = some d := by simp [dstOf, ho, hdd]
      have hdn := dst_lt hd hdi
      refine run _ hg _ fun lo' h' x a' w' hx hi2 => ?_
      obtain ⟨rfl, rfl, rfl⟩ := hx
      rw [hdd] at hi2
      refine ih _ prev r S (({ sl := s'.sl, lo := S.lo, h := S.h } : St).put (some d) (S.sl.getD d .junk)) a' w' hcnt' hsz' hcl' hplan hpq hrn hpl hnd (fun k hk => ?_) (fun k hk => ?_) (fun k hk hXk => ?_) rfl rfl (by simpa [St.put] using l1) l2 (fun t ht => ?_) hrest hi2
      · rcases hcov k hk with h | h
        · left; rw [hX']; split <;> first | rfl | exact h
        · exact .inr h
      · rw [hX', if_neg]
        · exact hno k hk
        · rintro rfl
          exact (List.nodup_append.1 hnd).2.2 k hip k hk rfl
      · rw [hX'] at hXk
        split at hXk
        · cases hXk
        · exact hval k hk hXk
      · simp only [St.put]
        by_cases e : d = t
        · subst e
          rw [getD_set_self (by rw [l1]; exact hdn)]
        · rw [getD_set_other e]
          refine hrel t fun k hk hXk ek => ?_
          by_cases eki : k = i
          · subst eki; rw [hdi] at ek; cases ek; exact e rfl
          · exact ht k hk (by rw [hX', if_neg eki]; exact hXk) ek
    · -- a loud one
      have hir : i ∈ allR r := by
        rcases hcov i hin' with h | h | h
        · rw [hXi] at h; cases h
        · exact absurd h hip
        · exact h
      cases r with
      | nil => simp [allR] at hir
      | cons p r =>
        obtain ⟨l, R, E⟩ := p
        simp only [planOk, Bool.and_eq_true, List.all_eq_true] at hplan
        obtain ⟨⟨⟨⟨⟨⟨hsE, hpA⟩, hrl⟩, hEl⟩, hEq⟩, hre⟩, hplan'⟩ := hplan
        have hlm : l ∈ allR ((l, R, E) :: r) := by simp [allR]
        have hln := hrn l hlm
        have hlX := hno l hlm
        have hil : i = l := by
          rcases (by simpa [allR] using hir : i = l ∨ i ∈ E ∨ ∃ a b c, (a, b, c) ∈ r ∧ (i = a ∨ i ∈ c)) with h | h | ⟨q1, q2, q3, hq, h⟩
          · exact h
          · have := hanc l hln (hEl i (List.mem_append_left _ h))
            rw [hlX] at this; cases this
          · rcases h with rfl | h
            · have := hanc l hln (hrl (i, q2, q3) hq)
              rw [hlX] at this; cases this
            · have := hanc l hln (hEl i (List.mem_append_right _ (List.mem_flatMap.2 ⟨(q1, q2, q3), hq, h⟩)))
              rw [hlX] at this; cases this
        subst hil
        have hEn : ∀ k ∈ E, k < all.size ∧ k ∉ louds := fun k hk => ⟨hrn k (by simp [allR, hk]), (hpl (i, R, E) (by simp)).2 k hk⟩
        have hnd1 := List.nodup_append.1 hnd
        have hndR : (i :: (E ++ allR r)).Nodup := by simpa [allR] using hnd1.2.1
        simp only [vRest, stepI, ho] at hrest
        refine run _ hrest _ fun lo' h' x a' w' hx hi2 => ?_
        obtain ⟨hreL, hidx⟩ := hx
        -- the state told behind it
        have hl2' : ((({ sl := S.sl, lo := lo', h := h' } : St).put o.dst x)).sl.length = n := by cases o.dst <;> simpa [St.put] using l2
        obtain ⟨s3, hK3, hlo3, hh3, hl3, hv3, hkeep3⟩ := vIdx_quiet hA hd hr E _ (List.all_eq_true.2 hEq) (sortedB_spec hsE) hEn hl2' hidx
        have hlo2 : ((({ sl := S.sl, lo := lo', h := h' } : St).put o.dst x)).lo = lo' := by cases o.dst <;> rfl
        have hh2 : ((({ sl := S.sl, lo := lo', h := h' } : St).put o.dst x)).h = h' := by cases o.dst <;> rfl
        have hget2 : ∀ t, dstOf all i ≠ some t → ((({ sl := S.sl, lo := lo', h := h' } : St).put o.dst x)).sl.getD t .junk = S.sl.getD t .junk := fun t ht => by
          cases hdo : o.dst with
          | none => rfl
          | some d =>
            simp only [St.put]
            exact getD_set_other fun e => ht (by simp [dstOf, ho, hdo, e])
        have hE0 : ∀ k ∈ E, listed.getD k false = false := fun k hk => hno k (by simp [allR, hk])
        refine ih _ (prev ++ E) r s3 _ a' w' hcnt' hsz' hcl' hplan' (fun k hk => ?_) (fun k hk => hrn k (by simp [allR] at hk ⊢; exact .inr (.inr hk))) (fun q hq => hpl q (List.mem_cons_of_mem _ hq)) ?_ (fun k hk => ?_) (fun k hk => ?_) (fun k hk hXk => ?_) ?_ ?_ ?_ hl3 (fun t ht => ?_) hK3 hi2
        · rcases List.mem_append.1 hk with h | h
          · exact hpq k h
          · exact ⟨hEq k h, (hEn k h).2⟩
        · have h3 : (prev ++ (E ++ allR r)).Nodup := List.nodup_append.2 ⟨hnd1.1, (List.nodup_cons.1 hndR).2, fun x hx y hy => hnd1.2.2 x hx y (by
            simp only [allR, List.flatMap_cons, List.cons_append, List.mem_cons]; exact .inr hy)⟩
          rwa [← List.append_assoc] at h3
        · rw [hX']
          rcases hcov k hk with h | h | h
          · left; split <;> first | rfl | exact h
          · exact .inr (.inl (List.mem_append_left _ h))
          · rcases (by simpa [allR] using h : k = i ∨ k ∈ E ∨ ∃ a b c, (a, b, c) ∈ r ∧ (k = a ∨ k ∈ c)) with h | h | h
            · left; rw [if_pos h]
            · exact .inr (.inl (List.mem_append_right _ h))
            · exact .inr (.inr (by simpa [allR] using h))
        · rw [hX', if_neg]
          · exact hno k (by simp only [allR, List.flatMap_cons, List.cons_append, List.mem_cons]; exact .inr (List.mem_append_right _ hk))
          · rintro rfl
            exact (List.nodup_cons.1 hndR).1 (List.mem_append_right _ hk)
        · rcases List.mem_append.1 hk with hkp | hkE
          · -- told before the loud one
            have hki : k ≠ i := fun e => hip (e ▸ hkp)
            rw [hX', if_neg hki] at hXk
            have hV := hval k hkp hXk
            have hnb : bit A k i = false := by
              cases hb : bit A k i with
              | false => rfl
              | true => 
                have hkn : k < all.size := by
                  obtain ⟨ok, _, hok, _⟩ := hV
                  exact (Array.getElem?_eq_some_iff.1 hok).1
                rw [hanc k hkn hb] at hXk; cases hXk
            have hpk := hpA k hkp
            simp only [Bool.and_eq_true, Bool.not_eq_true', List.all_eq_true] at hpk
            have hdk : ∀ d, dstOf all k = some d → dstOf all i ≠ some d ∧ ∀ q ∈ E, dstOf all q ≠ some d := fun d hdk => ⟨fun e => hki (dst_inj hd hdk e), fun q hq e => hnd1.2.2 k hkp q (by simp [allR, hq]) (dst_inj hd hdk e)⟩
            have hrd : ∀ ok t, all[k]? = some ok → t ∈ readsOf all ok → dstOf all i ≠ some t ∧ ∀ q ∈ E, dstOf all q ≠ some t := fun ok t hok ht => by
              refine ⟨fun e => ?_, fun q hq e => ?_⟩
              · rcases (readsOk_spec hr hok e ht).2 with hb | ⟨hb, _⟩
                · rw [hpk.1] at hb; cases hb
                · rw [hnb] at hb; cases hb
              · rcases (readsOk_spec hr hok e ht).2 with hb | ⟨_, hl⟩
                · rw [hpk.2 q hq] at hb; cases hb
                · exact (hEn q hq).2 hl
            have hgetd : ∀ t, dstOf all i ≠ some t ∧ (∀ q ∈ E, dstOf all q ≠ some t) → s3.sl.getD t .junk = S.sl.getD t .junk := fun t ht => (hkeep3 t ht.2).trans (hget2 t ht.1)
            obtain ⟨ok, dk, hok, hdok, hgk⟩ := id hV
            by_cases hread : isRead ok = false
            · exact Val.move (n := n) hr hV (hpq k hkp).1 (.inl ⟨ok, hok, hread⟩) (fun o2 t ho2 ht => hgetd t (hrd o2 t ho2 ht)) (fun d hd' => hgetd d (hdk d hd')) rfl
            · have hR : k ∈ R := by
                have h2 := hre k hkp
                rw [hok] at h2
                simp only [Bool.or_eq_true, List.contains_eq_mem, decide_eq_true_eq, Bool.not_eq_true'] at h2
                rw [hnb] at h2
                rcases h2 with (h2 | h2) | h2
                · cases h2
                · exact h2
                · exact absurd h2 hread
              have hre2 := reL_mem hreL hR
              unfold reI at hre2
              rw [hok] at hre2
              simp only [hdok] at hre2
              have hV2 : Val P ty md all k (({ sl := S.sl, lo := lo', h := h' } : St).put o.dst x) := ⟨ok, dk, hok, hdok, hre2⟩
              exact Val.move (n := n) hr hV2 (hpq k hkp).1 (.inr ⟨hlo3, hh3⟩) (fun o2 t ho2 ht => hkeep3 t (hrd o2 t ho2 ht).2) (fun d hd' => hkeep3 d (hdk d hd').2) rfl
          · exact hv3 k hkE
        · rw [hlo3, hlo2]; cases o.dst <;> rfl
        · rw [hh3, hh2]; cases o.dst <;> rfl
        · cases o.dst <;> simpa [St.put] using l1
        · have hE3 : ∀ q ∈ E, dstOf all q ≠ some t := fun q hq => ht q (List.mem_append_right _ hq) (by
            rw [hX', if_neg]
            · exact hE0 q hq
            · rintro rfl; exact (List.nodup_cons.1 hndR).1 (List.mem_append_left _ hq))
          rw [hkeep3 t hE3]
          cases hdo : o.dst with
          | none =>
            simp only [St.put]
            refine hrel t fun k hk hXk => ht k (List.mem_append_left _ hk) ?_
            rw [hX', if_neg (fun e : k = i => hip (e ▸ hk))]; exact hXk
          | some d =>
            simp only [St.put]
            by_cases e : d = t
            · subst e
              have hdn := dst_lt hd (show dstOf all i = some d by simp [dstOf, ho, hdo])
              rw [getD_set_self (by rw [l1]; exact hdn), getD_set_self (by rw [l2]; exact hdn)]
            · rw [getD_set_other e, getD_set_other e]
              refine hrel t fun k hk hXk => ht k (List.mem_append_left _ hk) ?_
              rw [hX', if_neg (fun e : k = i => hip (e ▸ hk))]; exact hXk
/-- The rule: a plan that passes the check; its order told. -/
theorem awp_draw (hty : TyOk P ty) (hm : P.follows .mixedOrders = true) {id : Nat} {Q : Exit → St → Prop} {s : St} (md : Option Tmp → Nat) {E0 : List Nat} {pl : List (Nat × List Nat × List Nat)} (n : Nat) (hn : s.sl.length = n)
    (hok : drawOk md all n E0 pl = true) (h : ∀ K : St → Prop, (∀ s', Q .normal s' → K s') → vIdx P ty md all E0 s fun s1 => vRest P ty md all pl s1 K) : Awp P c (.region id all true) Q s := by
  rintro a w ⟨G, L, sm, hg, hf, hL⟩
  subst hn
  simp only [drawOk, Bool.and_eq_true] at hok
  obtain ⟨⟨⟨⟨⟨⟨⟨⟨hA, hnd⟩, hcov⟩, hlt⟩, hE0⟩, hsE⟩, hplan⟩, hr⟩, hd⟩ := hok
  have hnd' : (E0 ++ allR pl).Nodup := nodupB_spec hnd
  have hlt' : ∀ i ∈ E0 ++ allR pl, i < all.size := fun i hi => by
    have := List.all_eq_true.1 hlt i hi
    simpa using this
  have hnd1 := List.nodup_append.1 hnd'
  have hlr : ∀ i ∈ pl.map (·.1), i ∈ allR pl := fun i hi => by
    obtain ⟨p, hp, rfl⟩ := List.mem_map.1 hi
    exact List.mem_flatMap.2 ⟨p, hp, by simp⟩
  have hpE : ∀ (r : List (Nat × List Nat × List Nat)), (allR r).Nodup → ∀ p ∈ r, ∀ i ∈ p.2.2, i ∉ r.map (·.1) := by
    intro r
    induction r with
    | nil => intro _ p hp; simp at hp
    | cons q r ih =>
      intro hn p hp i hi hm
      have hn' : (q.1 :: (q.2.2 ++ allR r)).Nodup := by simpa [allR] using hn
      obtain ⟨h1, h2⟩ := List.nodup_cons.1 hn'
      have h3 := List.nodup_append.1 h2
      have hmr : i ∈ r.map (·.1) → i ∈ allR r := fun h => by
        obtain ⟨p', hp', rfl⟩ := List.mem_map.1 h
        exact List.mem_flatMap.2 ⟨p', hp', by simp⟩
      rcases List.mem_cons.1 hp with rfl | hp'
      · rcases List.mem_cons.1 (by simpa using hm : i ∈ p.1 :: r.map (·.1)) with rfl | hm'
        · exact h1 (List.mem_append_left _ hi)
        · exact h3.2.2 i hi i (hmr hm') rfl
      · have hia : i ∈ allR r := List.mem_flatMap.2 ⟨p, hp', by simp [hi]⟩
        rcases List.mem_cons.1 (by simpa using hm : i ∈ q.1 :: r.map (·.1)) with rfl | hm'
        · exact h1 (List.mem_append_right _ hia)
        · exact ih h3.2.1 p hp' i hi hm'
  have hlouds : ∀ i ∈ E0, i ∉ pl.map (·.1) := fun i hi hm => hnd1.2.2 i hi i (hlr i hm) rfl
  refine wp_region_any hm ?_
  obtain ⟨s3, hK3, hlo3, hh3, hl3, hv3, hkeep3⟩ := vIdx_quiet hA hd hr E0 s hE0 (sortedB_spec hsE) (fun i hi => ⟨hlt' i (List.mem_append_left _ hi), hlouds i hi⟩) rfl (h _ fun _ h => h)
  have hin : In c s a { w with drawn := w.drawn + 1 } := by
    have hb : ∀ b, b < w.heap.size → ({ w with drawn := w.drawn + 1 } : World).heap[b]? = w.heap[b]? := fun _ _ => rfl
    exact ⟨G, L, sm.below hb, hg, hf.trans (Fr.below (Fr.refl _ _ _) hb rfl rfl rfl (Nat.le_refl _)), hL⟩
  have hfalse : ∀ i, (Array.replicate all.size false).getD i false = false := fun i => by rw [Array.getD_eq_getD_getElem?, Array.getElem?_replicate]; split <;> rfl
  refine draw_go hty hA hd hr (fun s' a' w' hq hi => ⟨s', hq, hi⟩) all.size (Array.replicate all.size false) E0 pl s3 s a _ ?_ (by simp) ?_ hplan (fun i hi => ⟨List.all_eq_true.1 hE0 i hi, hlouds i hi⟩) (fun i hi => hlt' i (List.mem_append_right _ hi))
    (fun p hp => ⟨List.mem_map.2 ⟨p, hp, rfl⟩, hpE pl hnd1.2.1 p hp⟩) hnd' (fun i hi => ?_) (fun i _ => hfalse i) (fun i hi _ => hv3 i hi) hlo3.symm hh3.symm rfl hl3 (fun t ht => (hkeep3 t fun i hi => ht i hi (hfalse i)).symm) hK3 hin
  · exact Nat.le_trans List.countP_le_length (by simp)
  · intro j o _ hj
    rw [show (fun i => (Array.replicate all.size false).getD i false) j = false from hfalse j] at hj
    cases hj
  · have := List.all_eq_true.1 hcov i (List.mem_range.2 hi)
    simp only [List.contains_eq_mem, decide_eq_true_eq] at this
    exact .inr (List.mem_append.1 this)
end
end Go.Proofs.YtoleejecmefogaaDoor
/- What an operation does while one more own object is told than there is. -/
namespace Go.Proofs.YtoleejecmefogaaDoor
open Go
theorem vEff_monoL {P : Program} {ty : Nat → Option TyD} {md : Nat} {op : Op} {ev : Operand → AV} {lo : List (List AV)} {h : Hp} {K K' : List (List AV) → Hp → AV → Prop} (hal : ∀ t, op = .alloc t → md = 2) (hbx : ∀ t x, op = .box t x → md ≠ 1) (hk : ∀ lo' h x, lo'.length = lo.length → K lo' h x → K' lo' h x) (hv : vEff P ty md op ev lo h K) :
    vEff P ty md op ev lo h K' := by
  cases op <;> simp only [vEff] at hv ⊢
  case move x => exact hk _ _ _ rfl hv
  case assign x => exact hk _ _ _ rfl hv
  case binOp b t x y t' =>
    split at hv
    · rename_i d hd
      unfold binE at hv ⊢
      split at hv
      · refine ⟨hv.1, ?_⟩
        have h2 := hv.2
        unfold nBin at h2 ⊢
        split at h2 <;> first | exact hk _ _ _ rfl h2 | exact h2.elim
      · exact ⟨hv.1, vBin_mono (fun x hx => hk _ _ x rfl hx) hv.2⟩
    · exact hv.elim
  case unOp u t x => cases u <;> simp only at hv ⊢ <;> (split at hv) <;> first | exact hk _ _ _ rfl hv | exact ⟨hv.1, hk _ _ _ rfl hv.2⟩ | exact hv.elim
  case alloc t =>
    cases hal t rfl
    split at hv
    · exact fun i hi => hk _ _ _ rfl (hv i hi)
    · exact hv.elim
  case box t x =>
    split at hv
    · split at hv
      · exact hk _ _ _ rfl hv
      · exact absurd rfl (hbx t x rfl)
      · exact fun i hi => hk _ _ _ rfl (hv i hi)
    · exact hv.elim
  case store t x y =>
    split at hv
    · refine ⟨hv.1, ?_⟩
      have h2 := hv.2
      unfold storeE at h2 ⊢
      split at h2
      · split at h2
        · exact ⟨h2.1, hk _ _ _ (by simp) h2.2⟩
        · exact h2.elim
      · split at h2
        · exact ⟨h2.1, hk _ _ _ rfl h2.2⟩
        · exact h2.elim
      · split at h2
        · exact ⟨h2.1, hk _ _ _ rfl h2.2⟩
        · exact h2.elim
      · exact h2.elim
    · exact hv.elim
  case buildSlice t n parts =>
    split at hv
    · by_cases hmn : md = 1 ∧ n = 0
      · simp only [if_pos hmn] at hv ⊢
        exact ⟨hv.1, fun k hk2 => hk _ _ _ rfl (hv.2 k hk2)⟩
      · by_cases hmn2 : md = 2 ∧ n = 0
        · simp only [if_neg hmn, if_pos hmn2] at hv ⊢
          exact ⟨hv.1, fun k hk2 => hk _ _ _ rfl (hv.2 k hk2)⟩
        · simp only [if_neg hmn, if_neg hmn2] at hv ⊢
          split at hv
          · exact ⟨hv.1, hk _ _ _ rfl hv.2⟩
          · exact hv.elim
    · exact hv.elim
  case makeSlice t x y =>
    split at hv
    · exact ⟨hv.1, hv.2.1, fun k hk2 => hk _ _ _ rfl (hv.2.2 k hk2)⟩
    · exact hv.elim
  case convert a b x =>
    split at hv
    · split at hv
      · unfold convI at hv ⊢
        split at hv <;> first | exact ⟨hv.1, hk _ _ _ rfl hv.2⟩ | exact hk _ _ _ rfl hv
      · exact hv.elim
    · exact hv.elim
  case slice t x l n m =>
    cases m <;> simp only at hv ⊢
    unfold sliceE at hv ⊢
    split at hv
    · split at hv
      · exact ⟨hv.1, hk _ _ _ rfl hv.2⟩
      · exact hv.elim
    · split at hv
      · exact ⟨hv.1, hk _ _ _ rfl hv.2⟩
      · exact hv.elim
    · exact hv.elim
  case makeFunc fn first caps => cases fn <;> simp only at hv ⊢; exact ⟨hv.1, hk _ _ _ rfl hv.2⟩
  case call cl =>
    obtain ⟨callee, args, ts⟩ := cl
    cases callee <;> simp only at hv ⊢
    case value f =>
      split at hv
      · exact ⟨hv.1, hv.2.mono fun r h' hr => hk _ _ _ rfl hr⟩
      · exact hv.elim
    case builtin b =>
      unfold biE at hv ⊢
      split at hv
      · cases b <;> simp only at hv ⊢
        unfold lenE at hv ⊢
        split at hv <;> first | exact ⟨hv.1, hk _ _ _ rfl hv.2⟩ | exact hv.elim
      · cases b <;> simp only at hv ⊢
        case append =>
          refine ⟨hv.1, ?_⟩
          have h2 := hv.2
          split at h2
          · unfold appE at h2 ⊢
            split at h2
            · split at h2
              · exact ⟨h2.1, h2.2.1, hk _ _ _ rfl h2.2.2⟩
              · exact h2.elim
            · split at h2
              · exact ⟨h2.1, h2.2.1, hk _ _ _ rfl h2.2.2⟩
              · exact h2.elim
            · split at h2
              · exact ⟨h2.1, h2.2.1, fun k hk2 => hk _ _ _ rfl (h2.2.2 k hk2)⟩
              · exact h2.elim
            · exact h2.elim
          · exact h2.elim
        all_goals
          unfold minE at hv ⊢
          split at hv <;> first | exact ⟨hv.1, hk _ _ _ rfl hv.2⟩ | exact hv.elim
      · exact hv.elim
  all_goals first
    | (split at hv <;> first | exact hk _ _ _ rfl hv | exact ⟨hv.1, hk _ _ _ rfl hv.2⟩ | exact hv.elim | (split at hv <;> first | exact hk _ _ _ rfl hv | exact ⟨hv.1, hk _ _ _ rfl hv.2⟩ | exact hv.elim))
    | exact hv.elim
section
variable {P : Program} {ty : Nat → Option TyD} {md : Option Tmp → Nat} {all : Array Oper} {lo : List (List AV)} {z : List AV} {h : Hp}
def locIn (n : Nat) : AV → Prop
  | .loc j _ => j < n
  | _ => True
theorem cellsAt_frame {x : AV} (hx : locIn lo.length x) : cellsAt (lo ++ [z]) h x = cellsAt lo h x := by
  cases x <;> first | rfl | (simp only [cellsAt]; rw [List.getElem?_append_left hx])
theorem vEff_frame {m : Nat} {op : Op} {ev : Operand → AV} {K : List (List AV) → Hp → AV → Prop} (hloc : ∀ x ∈ op.operands.toList, locIn lo.length (ev x)) (hal : ∀ t, op = .alloc t → m = 2) (hbx : ∀ t x, op = .box t x → m ≠ 1)
    (hv : vEff P ty m op ev (lo ++ [z]) h K) : vEff P ty m op ev lo h fun lo' h' x => K (lo' ++ [z]) h' x := by
  cases op <;> simp only [vEff] at hv ⊢ <;> try exact hv
  case unOp u t x => cases u <;> exact hv
  case makeFunc f a b => cases f <;> exact hv
  case slice t x l n mx => cases mx <;> exact hv
  case load t x =>
    rw [cellsAt_frame (hloc x (by simp [Op.operands]))] at hv
    exact hv
  case store t x y =>
    have hx := hloc x (by simp [Op.operands])
    split at hv
    · refine ⟨hv.1, ?_⟩
      have h2 := hv.2
      unfold storeE at h2 ⊢
      cases hex : ev x <;> rw [hex] at h2 hx <;> simp only at h2 ⊢ <;> try exact h2
      rename_i j off
      rw [List.getElem?_append_left hx] at h2
      split at h2
      · rw [List.set_append_left _ _ hx] at h2; exact h2
      · exact h2.elim
    · exact hv.elim
  case alloc t =>
    cases hal t rfl
    exact hv
  case box t x =>
    split at hv
    · split at hv
      · exact hv
      · exact absurd rfl (hbx t x rfl)
      · rename_i h0 h1
        exact hv
    · exact hv
variable {c : Cx}
theorem In.locs {s : St} {a : Act} {w : World} (hi : In c s a w) {x : Operand} (hu : uside (evL s.sl x)) : locIn s.lo.length (unw (evL s.sl x)) := by
  obtain ⟨G, L, sm, _, _, _⟩ := hi
  have h := (sm.ev x).unw hu
  have e : s.ev x = evL s.sl x := rfl
  rw [e] at h
  generalize Go.Proofs.YtoleejecmefogaaDoor.unw (evL s.sl x) = y at h
  cases y <;> first | trivial | skip
  obtain ⟨b, hb, _⟩ := h
  have := (List.getElem?_eq_some_iff.1 hb).1
  show _ < s.lo.length
  rw [← sm.ls.len]; exact this
def floatOk (md : Option Tmp → Nat) (o : Oper) : Prop := (∀ t, o.op = .alloc t → o.guard = none ∧ md o.dst = 2) ∧ ∀ t x, o.op = .box t x → o.guard = none → md o.dst ≠ 1
theorem vEff_runF (hty : TyOk P ty) {mdn : Nat} {o : Oper} {s : St} {K : List (List AV) → Hp → AV → Prop} (hal : ∀ t, o.op = .alloc t → mdn = 2) (hbx : ∀ t x, o.op = .box t x → mdn ≠ 1) (hops : opS (evL s.sl) (opsOf o.op)) (h : vEff P ty mdn o.op (fun x => unw (evL s.sl x)) (s.lo ++ [z]) s.h K) {a : Act} {w : World} (hi : In c s a w)
    {Kc : Act → World → Prop} {Q : Exit → Act → World → Prop} (hk : ∀ lo' h' x a' w', lo'.length = s.lo.length → K (lo' ++ [z]) h' x → In c (({ sl := s.sl, lo := lo', h := h' } : St).put o.dst x) a' w' → Kc a' w') : o.wp P a w Kc Q :=
  vEff_run hty hops (vEff_monoL hal hbx (K' := fun lo' h' x => lo'.length = s.lo.length ∧ K (lo' ++ [z]) h' x) (fun _ _ _ hl hx => ⟨hl, hx⟩) (vEff_frame (fun x hx => hi.locs (opS_mem hops (opsOf_mem hx))) hal hbx h)) hi fun lo' h' x a' w' hx hi' => hk lo' h' x a' w' hx.1 hx.2 hi'
theorem gStep_soundF (hty : TyOk P ty) {o : Oper} {s : St} {K : List (List AV) → Hp → AV → Prop} (hf : floatOk md o) (h : gStep P ty md all o s.sl (s.lo ++ [z]) s.h K) {a : Act} {w : World} (hi : In c s a w) {Kc : Act → World → Prop} {Q : Exit → Act → World → Prop}
    (hk : ∀ lo' h' x a' w', lo'.length = s.lo.length → K (lo' ++ [z]) h' x → In c (({ sl := s.sl, lo := lo', h := h' } : St).put o.dst x) a' w' → Kc a' w') :
    if Region.wanted o (yielded all a.tmps) then o.wp P a w Kc Q else Kc (a.put o.dst undef) w := by
  obtain ⟨G, L, sm, hg, hfr, hL⟩ := id hi
  unfold gStep at h
  split at h
  · rename_i hgd
    simp only [Region.wanted, hgd, if_true]
    split at h
    · rename_i p x y hop
      exact pick_run hop trivial h hi fun z' a' w' hz hi' => hk _ _ z' a' w' rfl hz hi'
    · exact vEff_runF hty (fun t e => (hf.1 t e).2) (fun t x e => hf.2 t x e hgd) h.1 h.2 hi hk
  · rename_i j wt hgd
    simp only [Region.wanted, hgd]
    have hal : ∀ t, o.op = .alloc t → (0 : Nat) = 2 := fun t e => by have := (hf.1 t e).1; rw [hgd] at this; cases this
    have hbx : ∀ t x, o.op = .box t x → (0 : Nat) ≠ 1 := fun _ _ _ => by decide
    split at h
    · exact h.elim
    · rename_i cnd hcnd
      rw [condG_sound sm hcnd]
      split at h
      · rename_i p x y hop
        cases cnd with
        | true =>
          simp only [if_true]
          exact pick_run hop rfl h hi fun z' a' w' hz hi' => hk _ _ _ a' w' rfl hz.2 (In.wrap hz.1 hi')
        | false =>
          simp only [Bool.false_eq_true, if_false]
          unfold pickE at h
          split at h
          · exact hk _ _ _ _ _ rfl h.2.2 (skip_opt hi o.dst _)
          · exact h.elim
      · cases hcv : isCallV o.op with
        | true =>
          simp only [hcv, cond_true] at h
          cases cnd with
          | true =>
            simp only [if_true]
            obtain ⟨h4, h5⟩ := h.1 rfl
            exact vEff_runF hty hal hbx h4 h5 hi fun lo' h' z' a' w' hlen hz hi' => hk _ _ _ a' w' hlen hz.2 (In.wrap (s := { sl := s.sl, lo := lo', h := h' }) hz.1 hi')
          | false =>
            simp only [Bool.false_eq_true, if_false]
            exact hk _ _ _ _ _ rfl (h.2 rfl) (skip_opt hi o.dst _)
        | false =>
        simp only [hcv, cond_false] at h
        split at h
        · rename_i p x hq
          obtain ⟨h1, h2, h3⟩ := h
          cases cnd with
          | true =>
            simp only [if_true]
            obtain ⟨h4, h5⟩ := h1 rfl
            refine vEff_runF hty hal hbx h4 (qV_sound (P := P) hq h5) hi fun lo' h' z' a' w' hlen hz hi' => ?_
            obtain ⟨e1, rfl, rfl⟩ := hz
            cases List.append_cancel_right e1
            exact hk _ _ _ a' w' rfl h3 (In.wrap h2 hi')
          | false =>
            simp only [Bool.false_eq_true, if_false]
            exact hk _ _ _ _ _ rfl h3 (skip_opt hi o.dst _)
        · obtain ⟨x, h1, h2, h3⟩ := h
          cases cnd with
          | true =>
            simp only [if_true]
            obtain ⟨h4, h5⟩ := h1 rfl
            refine vEff_runF hty hal hbx h4 h5 hi fun lo' h' z' a' w' hlen hz hi' => ?_
            obtain ⟨e1, rfl, rfl⟩ := hz
            cases List.append_cancel_right e1
            exact hk _ _ _ a' w' rfl h3 (In.wrap h2 hi')
          | false =>
            simp only [Bool.false_eq_true, if_false]
            exact hk _ _ _ _ _ rfl h3 (skip_opt hi o.dst _)
end
end Go.Proofs.YtoleejecmefogaaDoor
/- Regions that draw their order, with one own object made at any time. -/
namespace Go.Proofs.YtoleejecmefogaaDoor
open Go
section
variable {P : Program} {ty : Nat → Option TyD} {md : Option Tmp → Nat} {all : Array Oper} {c : Cx}
theorem draw_goF (hty : TyOk P ty) {f d0 : Nat} {z : List AV} (hfd : dstOf all f = some d0) (hfn : f < all.size) (hF : ∀ (i : Nat) o, all[i]? = some o → i ≠ f → floatOk md o) {A louds : List Nat} {n : Nat} (hA : okAnc all A = true) (hd : dstsOk all n = true) (hr : readsOk all A louds = true) {K : St → Prop} {Qq : Exit → Act → World → Prop} (hk : ∀ s' a' w', K s' → In c s' a' w' → Qq .normal a' w') (hfl : f ∉ louds)
    (hfrun : ∀ (s : St) (a : Act) (w : World) (Kc : Act → World → Prop), In c s a w → (∀ a' w', In c (({ sl := s.sl, lo := s.lo ++ [z], h := s.h } : St).put (some d0) (.loc s.lo.length 0)) a' w' → Kc a' w') → wpOp P all Qq f Kc a w) :
    ∀ (fuel : Nat) (listed : Array Bool) (prev : List Nat) (r : List (Nat × List Nat × List Nat)) (S s' : St) (a : Act) (w : World),
      (List.range all.size).countP (fun i => !listed.getD i false) ≤ fuel → listed.size = all.size → ClosedX all (fun i => listed.getD i false) → planOk md all A prev r = true →
      (∀ i ∈ prev, quietI md all i = true ∧ i ∉ louds) → (∀ i ∈ allR r, i < all.size) → (∀ p ∈ r, p.1 ∈ louds ∧ ∀ i ∈ p.2.2, i ∉ louds) → (prev ++ allR r).Nodup →
      (∀ i, i < all.size → listed.getD i false = true ∨ i ∈ prev ∨ i ∈ allR r ∨ i = f) → f ∉ prev ++ allR r → listed.getD f false = false → (∀ i ∈ allR r, listed.getD i false = false) →
      (∀ i ∈ prev, listed.getD i false = false → Val P ty md all i S) →
      s'.lo ++ [z] = S.lo → S.sl.getD d0 .junk = .loc s'.lo.length 0 → s'.h = S.h → s'.sl.length = n → S.sl.length = n → (∀ t, t ≠ d0 → (∀ i ∈ prev, listed.getD i false = false → dstOf all i ≠ some t) → s'.sl.getD t .junk = S.sl.getD t .junk) →
      vRest P ty md all r S K → In c s' a w → wpAny P .any all Qq fuel listed a w := by
  intro fuel
  have rdone : ∀ (listed : Array Bool), listed.size = all.size → Region.ready .any all listed = [] → ∀ i, i < all.size → listed.getD i false = true := by
    intro listed hsz hrd i
    induction i using Nat.strongRecOn with
    | _ i ih =>
      intro hi
      cases hX : listed.getD i false with
      | true => rfl
      | false =>
        have : i ∈ Region.ready .any all listed := mem_ready.2 ⟨by
          have his : i < listed.size := by omega
          simp [his] at hX ⊢; exact hX, all[i], Array.getElem?_eq_getElem hi, fun e he hb => by
          have hlt := okAnc_edge hA (Array.getElem?_eq_getElem hi) e he hb
          exact ih e.on hlt (by omega)⟩
        rw [hrd] at this; cases this
  induction fuel with
  | zero =>
    intro listed prev r S s' a w hcnt hsz hcl hplan hpq hrn hpl hnd hcov hfm hfX
    have h0 := List.countP_eq_zero.1 (Nat.le_zero.1 hcnt) f (List.mem_range.2 hfn)
    rw [hfX] at h0; simp at h0
  | succ fuel ih =>
    intro listed prev r S s' a w hcnt hsz hcl hplan hpq hrn hpl hnd hcov hfm hfX hno hval e1 ed e2 l1 l2 hrel hrest hin
    refine ⟨fun hrd => (by rw [rdone listed hsz hrd f hfn] at hfX; cases hfX), fun i hi => ?_⟩
    obtain ⟨h0, o, ho, hdeps⟩ := mem_ready.1 hi
    have hin' := (Array.getElem?_eq_some_iff.1 ho).1
    have hXi : listed.getD i false = false := by
      have his : i < listed.size := by omega
      simp [his] at h0 ⊢; exact h0
    have hanc : ∀ k, k < all.size → bit A k i = true → listed.getD k false = true := fun k hk hb => anc_listed hA hcl hk i ho hdeps hb
    have hX' : ∀ k, (listed.setIfInBounds i true).getD k false = if k = i then true else listed.getD k false := fun k => by
      by_cases e : k = i
      · subst e
        have hks : k < listed.size := by omega
        simp [hks]
      · rw [if_neg e, getD_set_ne false (Ne.symm e)]
    have hsz' : (listed.setIfInBounds i true).size = all.size := by simpa using hsz
    have hcnt' : (List.range all.size).countP (fun k => !(listed.setIfInBounds i true).getD k false) ≤ fuel := by
      have := countP_lt (p := fun k => !listed.getD k false) (q := fun k => !(listed.setIfInBounds i true).getD k false) (i := i) (l := List.range all.size) (fun k _ hk => by
        rw [hX'] at hk
        by_cases e : k = i
        · rw [if_pos e] at hk; cases hk
        · rw [if_neg e] at hk; exact hk) (List.mem_range.2 hin') (by rw [hXi]; rfl) (by rw [hX', if_pos rfl]; rfl)
      omega
    have hcl' : ClosedX all (fun k => (listed.setIfInBounds i true).getD k false) := by
      intro j oj hoj hj e he hb
      have hj' : (listed.setIfInBounds i true).getD j false = true := hj
      show (listed.setIfInBounds i true).getD e.on false = true
      rw [hX'] at hj' ⊢
      by_cases ee : e.on = i
      · rw [if_pos ee]
      · rw [if_neg ee]
        by_cases ej : j = i
        · subst ej; rw [ho] at hoj; cases hoj
          exact hdeps e he hb
        · rw [if_neg ej] at hj'
          exact hcl j oj hoj hj' e he hb
    -- what it looks at is told as in S
    have hlook : ∀ t ∈ readsOf all o, s'.sl.getD t .junk = S.sl.getD t .junk := fun t ht => hrel t (fun et => by
      subst et
      rcases (readsOk_spec hr ho hfd ht).2 with hb | ⟨_, hl⟩
      · rw [hanc f hfn hb] at hfX; cases hfX
      · exact hfl hl) fun k hk hXk e => by
      have hkn : k < all.size := by
        have hq := (hpq k hk).1
        unfold quietI at hq
        cases hok : all[k]? with
        | none => rw [hok] at hq; cases hq
        | some ok => exact (Array.getElem?_eq_some_iff.1 hok).1
      rcases (readsOk_spec hr ho e ht).2 with hb | ⟨_, hl⟩
      · rw [hanc k hkn hb] at hXk; cases hXk
      · exact (hpq k hk).2 hl
    by_cases hif : i = f
    · subst hif
      refine hfrun s' a w _ hin fun a' w' hi2 => ?_
      have hdn := dst_lt hd hfd
      have hfm2 : i ∉ prev ∧ i ∉ allR r := ⟨fun h => hfm (List.mem_append_left _ h), fun h => hfm (List.mem_append_right _ h)⟩
      refine draw_go hty hA hd hr hk fuel _ prev r S (({ sl := s'.sl, lo := s'.lo ++ [z], h := s'.h } : St).put (some d0) (.loc s'.lo.length 0)) a' w' hcnt' hsz' hcl' hplan hpq hrn hpl hnd (fun k hk => ?_) (fun k hk => ?_) (fun k hk hXk => ?_) e1 e2 (by simpa [St.put] using l1) l2 (fun t ht => ?_) hrest hi2
      · rcases hcov k hk with h | h | h | h
        · left; rw [hX']; split <;> first | rfl | exact h
        · exact .inr (.inl h)
        · exact .inr (.inr h)
        · left; rw [hX', if_pos h]
      · rw [hX', if_neg (fun e : k = i => hfm2.2 (e ▸ hk))]
        exact hno k hk
      · rw [hX', if_neg (fun e : k = i => hfm2.1 (e ▸ hk))] at hXk
        exact hval k hk hXk
      · simp only [St.put]
        by_cases e : d0 = t
        · subst e
          rw [getD_set_self (by rw [l1]; exact hdn), ed]
        · rw [getD_set_other e]
          refine hrel t (fun e' => e e'.symm) fun k hk hXk => ht k hk ?_
          rw [hX', if_neg (fun e : k = i => hfm2.1 (e ▸ hk))]; exact hXk
    have hXf : (listed.setIfInBounds i true).getD f false = false := by rw [hX', if_neg (fun e => hif e.symm)]; exact hfX
    have run : ∀ (K' : List (List AV) → Hp → AV → Prop), gStep P ty md all o S.sl S.lo S.h K' → ∀ (Kc : Act → World → Prop), (∀ lo' h' x a' w', lo'.length = s'.lo.length → K' (lo' ++ [z]) h' x → In c (({ sl := s'.sl, lo := lo', h := h' } : St).put o.dst x) a' w' → Kc a' w') → wpOp P all Qq i Kc a w := by
      intro K' hg Kc hkc
      rw [gStep_congr (sl' := s'.sl) (fun t ht => (hlook t ht).symm), ← e1, ← e2] at hg
      have := gStep_soundF (c := c) hty (hF i o ho hif) hg hin (Kc := Kc) (Q := Qq) hkc
      unfold wpOp
      rw [ho]
      simp only
      split
      · rename_i hw; rw [if_pos hw] at this; exact .inl this
      · rename_i hw; rw [if_neg hw] at this; exact this
    by_cases hip : i ∈ prev
    · -- a quiet one, whose value is known
      obtain ⟨o', d, ho', hdd, hg⟩ := hval i hip hXi
      rw [ho] at ho'; cases ho'
      have hdi : dstOf all i = some d := by simp [dstOf, ho, hdd]
      have hdn := dst_lt hd hdi
      have hdd0 : d ≠ d0 := fun e => hif (dst_inj hd hdi (e ▸ hfd))
      refine run _ hg _ fun lo' h' x a' w' _ hx hi2 => ?_
      obtain ⟨e5, rfl, rfl⟩ := hx
      rw [← e1] at e5
      cases List.append_cancel_right e5
      rw [hdd] at hi2
      refine ih _ prev r S (({ sl := s'.sl, lo := s'.lo, h := S.h } : St).put (some d) (S.sl.getD d .junk)) a' w' hcnt' hsz' hcl' hplan hpq hrn hpl hnd (fun k hk => ?_) hfm hXf (fun k hk => ?_) (fun k hk hXk => ?_) e1 ed rfl (by simpa [St.put] using l1) l2 (fun t ht0 ht => ?_) hrest hi2
      · rcases hcov k hk with h | h
        · left; rw [hX']; split <;> first | rfl | exact h
        · exact .inr h
      · rw [hX', if_neg]
        · exact hno k hk
        · rintro rfl
          exact (List.nodup_append.1 hnd).2.2 k hip k hk rfl
      · rw [hX'] at hXk
        split at hXk
        · cases hXk
        · exact hval k hk hXk
      · simp only [St.put]
        by_cases e : d = t
        · subst e
          rw [getD_set_self (by rw [l1]; exact hdn)]
        · rw [getD_set_other e]
          refine hrel t ht0 fun k hk hXk ek => ?_
          by_cases eki : k = i
          · subst eki; rw [hdi] at ek; cases ek; exact e rfl
          · exact ht k hk (by rw [hX', if_neg eki]; exact hXk) ek
    · -- a loud one
      have hir : i ∈ allR r := by
        rcases hcov i hin' with h | h | h | h
        · rw [hXi] at h; cases h
        · exact absurd h hip
        · exact h
        · exact absurd h hif
      cases r with
      | nil => simp [allR] at hir
      | cons p r =>
        obtain ⟨l, R, E⟩ := p
        simp only [planOk, Bool.and_eq_true, List.all_eq_true] at hplan
        obtain ⟨⟨⟨⟨⟨⟨hsE, hpA⟩, hrl⟩, hEl⟩, hEq⟩, hre⟩, hplan'⟩ := hplan
        have hlm : l ∈ allR ((l, R, E) :: r) := by simp [allR]
        have hln := hrn l hlm
        have hlX := hno l hlm
        have hil : i = l := by
          rcases (by simpa [allR] using hir : i = l ∨ i ∈ E ∨ ∃ a b c, (a, b, c) ∈ r ∧ (i = a ∨ i ∈ c)) with h | h | ⟨q1, q2, q3, hq, h⟩
          · exact h
          · have := hanc l hln (hEl i (List.mem_append_left _ h))
            rw [hlX] at this; cases this
          · rcases h with rfl | h
            · have := hanc l hln (hrl (i, q2, q3) hq)
              rw [hlX] at this; cases this
            · have := hanc l hln (hEl i (List.mem_append_right _ (List.mem_flatMap.2 ⟨(q1, q2, q3), hq, h⟩)))
              rw [hlX] at this; cases this
        subst hil
        have hEn : ∀ k ∈ E, k < all.size ∧ k ∉ louds := fun k hk => ⟨hrn k (by simp [allR, hk]), (hpl (i, R, E) (by simp)).2 k hk⟩
        have hnd1 := List.nodup_append.1 hnd
        have hndR : (i :: (E ++ allR r)).Nodup := by simpa [allR] using hnd1.2.1
        simp only [vRest, stepI, ho] at hrest
        refine run _ hrest _ fun lo9 h' x a' w' hlen9 hx hi2 => ?_
        obtain ⟨lo', hlo'⟩ : ∃ lo', lo' = lo9 ++ [z] := ⟨_, rfl⟩
        rw [← hlo'] at hx
        obtain ⟨hreL, hidx⟩ := hx
        -- the state told behind it
        have hl2' : ((({ sl := S.sl, lo := lo', h := h' } : St).put o.dst x)).sl.length = n := by cases o.dst <;> simpa [St.put] using l2
        obtain ⟨s3, hK3, hlo3, hh3, hl3, hv3, hkeep3⟩ := vIdx_quiet hA hd hr E _ (List.all_eq_true.2 hEq) (sortedB_spec hsE) hEn hl2' hidx
        have hlo2 : ((({ sl := S.sl, lo := lo', h := h' } : St).put o.dst x)).lo = lo' := by cases o.dst <;> rfl
        have hh2 : ((({ sl := S.sl, lo := lo', h := h' } : St).put o.dst x)).h = h' := by cases o.dst <;> rfl
        have hget2 : ∀ t, dstOf all i ≠ some t → ((({ sl := S.sl, lo := lo', h := h' } : St).put o.dst x)).sl.getD t .junk = S.sl.getD t .junk := fun t ht => by
          cases hdo : o.dst with
          | none => rfl
          | some d =>
            simp only [St.put]
            exact getD_set_other fun e => ht (by simp [dstOf, ho, hdo, e])
        have hE0 : ∀ k ∈ E, listed.getD k false = false := fun k hk => hno k (by simp [allR, hk])
        refine ih _ (prev ++ E) r s3 _ a' w' hcnt' hsz' hcl' hplan' (fun k hk => ?_) (fun k hk => hrn k (by simp [allR] at hk ⊢; exact .inr (.inr hk))) (fun q hq => hpl q (List.mem_cons_of_mem _ hq)) ?_ (fun k hk => ?_) (fun hm => hfm ?_) hXf (fun k hk => ?_) (fun k hk hXk => ?_) ?_ ?_ ?_ ?_ hl3 (fun t ht0 ht => ?_) hK3 hi2
        · rcases List.mem_append.1 hk with h | h
          · exact hpq k h
          · exact ⟨hEq k h, (hEn k h).2⟩
        · have h3 : (prev ++ (E ++ allR r)).Nodup := List.nodup_append.2 ⟨hnd1.1, (List.nodup_cons.1 hndR).2, fun x hx y hy => hnd1.2.2 x hx y (by
            simp only [allR, List.flatMap_cons, List.cons_append, List.mem_cons]; exact .inr hy)⟩
          rwa [← List.append_assoc] at h3
        · rw [hX']
          rcases hcov k hk with h | h | h | h
          · left; split <;> first | rfl | exact h
          · exact .inr (.inl (List.mem_append_left _ h))
          · rcases (by simpa [allR] using h : k = i ∨ k ∈ E ∨ ∃ a b c, (a, b, c) ∈ r ∧ (k = a ∨ k ∈ c)) with h | h | h
            · left; rw [if_pos h]
            · exact .inr (.inl (List.mem_append_right _ h))
            · exact .inr (.inr (.inl (by simpa [allR] using h)))
          · exact .inr (.inr (.inr h))
        · simp only [allR, List.flatMap_cons, List.cons_append, List.mem_append, List.mem_cons] at hm ⊢
          rcases hm with (h | h) | h
          · exact .inl h
          · exact .inr (.inr (.inl h))
          · exact .inr (.inr (.inr h))
        · rw [hX', if_neg]
          · exact hno k (by simp only [allR, List.flatMap_cons, List.cons_append, List.mem_cons]; exact .inr (List.mem_append_right _ hk))
          · rintro rfl
            exact (List.nodup_cons.1 hndR).1 (List.mem_append_right _ hk)
        · rcases List.mem_append.1 hk with hkp | hkE
          · -- told before the loud one
            have hki : k ≠ i := fun e => hip (e ▸ hkp)
            rw [hX', if_neg hki] at hXk
            have hV := hval k hkp hXk
            have hnb : bit A k i = false := by
              cases hb : bit A k i with
              | false => rfl
              | true => 
                have hkn : k < all.size := by
                  obtain ⟨ok, _, hok, _⟩ := hV
                  exact (Array.getElem?_eq_some_iff.1 hok).1
                rw [hanc k hkn hb] at hXk; cases hXk
            have hpk := hpA k hkp
            simp only [Bool.and_eq_true, Bool.not_eq_true', List.all_eq_true] at hpk
            have hdk : ∀ d, dstOf all k = some d → dstOf all i ≠ some d ∧ ∀ q ∈ E, dstOf all q ≠ some d := fun d hdk => ⟨fun e => hki (dst_inj hd hdk e), fun q hq e => hnd1.2.2 k hkp q (by simp [allR, hq]) (dst_inj hd hdk e)⟩
            have hrd : ∀ ok t, all[k]? = some ok → t ∈ readsOf all ok → dstOf all i ≠ some t ∧ ∀ q ∈ E, dstOf all q ≠ some t := fun ok t hok ht => by
              refine ⟨fun e => ?_, fun q hq e => ?_⟩
              · rcases (readsOk_spec hr hok e ht).2 with hb | ⟨hb, _⟩
                · rw [hpk.1] at hb; cases hb
                · rw [hnb] at hb; cases hb
              · rcases (readsOk_spec hr hok e ht).2 with hb | ⟨_, hl⟩
                · rw [hpk.2 q hq] at hb; cases hb
                · exact (hEn q hq).2 hl
            have hgetd : ∀ t, dstOf all i ≠ some t ∧ (∀ q ∈ E, dstOf all q ≠ some t) → s3.sl.getD t .junk = S.sl.getD t .junk := fun t ht => (hkeep3 t ht.2).trans (hget2 t ht.1)
            obtain ⟨ok, dk, hok, hdok, hgk⟩ := id hV
            by_cases hread : isRead ok = false
            · exact Val.move (n := n) hr hV (hpq k hkp).1 (.inl ⟨ok, hok, hread⟩) (fun o2 t ho2 ht => hgetd t (hrd o2 t ho2 ht)) (fun d hd' => hgetd d (hdk d hd')) rfl
            · have hR : k ∈ R := by
                have h2 := hre k hkp
                rw [hok] at h2
                simp only [Bool.or_eq_true, List.contains_eq_mem, decide_eq_true_eq, Bool.not_eq_true'] at h2
                rw [hnb] at h2
                rcases h2 with (h2 | h2) | h2
                · cases h2
                · exact h2
                · exact absurd h2 hread
              have hre2 := reL_mem hreL hR
              unfold reI at hre2
              rw [hok] at hre2
              simp only [hdok] at hre2
              have hV2 : Val P ty md all k (({ sl := S.sl, lo := lo', h := h' } : St).put o.dst x) := ⟨ok, dk, hok, hdok, hre2⟩
              exact Val.move (n := n) hr hV2 (hpq k hkp).1 (.inr ⟨hlo3, hh3⟩) (fun o2 t ho2 ht => hkeep3 t (hrd o2 t ho2 ht).2) (fun d hd' => hkeep3 d (hdk d hd').2) rfl
          · exact hv3 k hkE
        · rw [hlo3, hlo2, hlo']; cases o.dst <;> rfl
        · have hle : ((({ sl := s'.sl, lo := lo9, h := h' } : St).put o.dst x)).lo.length = s'.lo.length := by rw [← hlen9]; cases o.dst <;> rfl
          rw [hle, hkeep3 d0 (fun q hq e => hfm (List.mem_append_right _ (by rw [← dst_inj hd e hfd]; simp [allR, hq]))), hget2 d0 (fun e => hif (dst_inj hd e hfd)), ed]
        · rw [hh3, hh2]; cases o.dst <;> rfl
        · cases o.dst <;> simpa [St.put] using l1
        · have hE3 : ∀ q ∈ E, dstOf all q ≠ some t := fun q hq => ht q (List.mem_append_right _ hq) (by
            rw [hX', if_neg]
            · exact hE0 q hq
            · rintro rfl; exact (List.nodup_cons.1 hndR).1 (List.mem_append_left _ hq))
          rw [hkeep3 t hE3]
          cases hdo : o.dst with
          | none =>
            simp only [St.put]
            refine hrel t ht0 fun k hk hXk => ht k (List.mem_append_left _ hk) ?_
            rw [hX', if_neg (fun e : k = i => hip (e ▸ hk))]; exact hXk
          | some d =>
            simp only [St.put]
            by_cases e : d = t
            · subst e
              have hdn := dst_lt hd (show dstOf all i = some d by simp [dstOf, ho, hdo])
              rw [getD_set_self (by rw [l1]; exact hdn), getD_set_self (by rw [l2]; exact hdn)]
            · rw [getD_set_other e, getD_set_other e]
              refine hrel t ht0 fun k hk hXk => ht k (List.mem_append_left _ hk) ?_
              rw [hX', if_neg (fun e : k = i => hip (e ▸ hk))]; exact hXk
def isFloat (md : Option Tmp → Nat) (o : Oper) : Bool := o.guard.isNone && o.dst.isSome && match o.op with | .alloc _ => md o.dst != 2 | _ => false
def floatB (md : Option Tmp → Nat) (o : Oper) : Bool := match o.op with | .alloc _ => o.guard.isNone && md o.dst == 2 | .box .. => o.guard.isSome || md o.dst != 1 | _ => true
theorem floatB_ok {o : Oper} (h : floatB md o = true) : floatOk md o := by
  refine ⟨fun t e => ?_, fun t x e hg => ?_⟩
  · simp only [floatB, e, Bool.and_eq_true, Option.isNone_iff_eq_none, beq_iff_eq] at h
    exact h
  · simp only [floatB, e, hg, Option.isSome_none, Bool.false_or, bne_iff_ne] at h
    exact h
def drawOkF (md : Option Tmp → Nat) (all : Array Oper) (n : Nat) (f : Nat) (E0 : List Nat) (pl : List (Nat × List Nat × List Nat)) : Bool :=
  let A := ancs all
  okAnc all A && nodupB (f :: allE E0 pl) && ((List.range all.size).all fun i => (f :: allE E0 pl).contains i) && ((f :: allE E0 pl).all fun i => decide (i < all.size)) && E0.all (quietI md all) && sortedB E0 && planOk md all A E0 pl && readsOk all A (pl.map (·.1)) && dstsOk all n &&
    (match all[f]? with | some o => isFloat md o | none => false) && ((List.range all.size).all fun i => i == f || match all[i]? with | some o => floatB md o | none => false)
/-- The rule, with one own object that may be made at any time. -/
theorem awp_drawF (hty : TyOk P ty) (hm : P.follows .mixedOrders = true) {id : Nat} {Q : Exit → St → Prop} {s : St} (md : Option Tmp → Nat) {f : Nat} {E0 : List Nat} {pl : List (Nat × List Nat × List Nat)} (n : Nat) (hn : s.sl.length = n)
    (hok : drawOkF md all n f E0 pl = true) (h : ∀ K : St → Prop, (∀ s', Q .normal s' → K s') → vIdx P ty md all (f :: E0) s fun s1 => vRest P ty md all pl s1 K) : Awp P c (.region id all true) Q s := by
  rintro a w ⟨G, L, sm, hg, hf, hL⟩
  subst hn
  simp only [drawOkF, Bool.and_eq_true] at hok
  obtain ⟨⟨⟨⟨⟨⟨⟨⟨⟨⟨hA, hnd⟩, hcov⟩, hlt⟩, hE0⟩, hsE⟩, hplan⟩, hr⟩, hd⟩, hfo⟩, hfa⟩ := hok
  have hndf : (f :: (E0 ++ allR pl)).Nodup := nodupB_spec hnd
  obtain ⟨hfm, hnd'⟩ := List.nodup_cons.1 hndf
  have hlt' : ∀ i ∈ f :: (E0 ++ allR pl), i < all.size := fun i hi => by
    have := List.all_eq_true.1 hlt i hi
    simpa using this
  have hnd1 := List.nodup_append.1 hnd'
  have hlr : ∀ i ∈ pl.map (·.1), i ∈ allR pl := fun i hi => by
    obtain ⟨p, hp, rfl⟩ := List.mem_map.1 hi
    exact List.mem_flatMap.2 ⟨p, hp, by simp⟩
  have hpE : ∀ (r : List (Nat × List Nat × List Nat)), (allR r).Nodup → ∀ p ∈ r, ∀ i ∈ p.2.2, i ∉ r.map (·.1) := by
    intro r
    induction r with
    | nil => intro _ p hp; simp at hp
    | cons q r ih =>
      intro hn p hp i hi hm
      have hn' : (q.1 :: (q.2.2 ++ allR r)).Nodup := by simpa [allR] using hn
      obtain ⟨h1, h2⟩ := List.nodup_cons.1 hn'
      have h3 := List.nodup_append.1 h2
      have hmr : i ∈ r.map (·.1) → i ∈ allR r := fun h => by
        obtain ⟨p', hp', rfl⟩ := List.mem_map.1 h
        exact List.mem_flatMap.2 ⟨p', hp', by simp⟩
      rcases List.mem_cons.1 hp with rfl | hp'
      · rcases List.mem_cons.1 (by simpa using hm : i ∈ p.1 :: r.map (·.1)) with rfl | hm'
        · exact h1 (List.mem_append_left _ hi)
        · exact h3.2.2 i hi i (hmr hm') rfl
      · have hia : i ∈ allR r := List.mem_flatMap.2 ⟨p, hp', by simp [hi]⟩
        rcases List.mem_cons.1 (by simpa using hm : i ∈ q.1 :: r.map (·.1)) with rfl | hm'
        · exact h1 (List.mem_append_right _ hia)
        · exact ih h3.2.1 p hp' i hi hm'
  have hlouds : ∀ i ∈ E0, i ∉ pl.map (·.1) := fun i hi hm => hnd1.2.2 i hi i (hlr i hm) rfl
  have hfn := hlt' f (by simp)
  -- the float
  cases hao : all[f]? with
  | none => rw [hao] at hfo; cases hfo
  | some o =>
  rw [hao] at hfo
  simp only [isFloat, Bool.and_eq_true, Option.isNone_iff_eq_none] at hfo
  obtain ⟨⟨hgd, hds⟩, hop⟩ := hfo
  obtain ⟨d0, hd0⟩ := Option.isSome_iff_exists.1 hds
  have hfd : dstOf all f = some d0 := by simp [dstOf, hao, hd0]
  have hdn := dst_lt hd hfd
  cases hop2 : o.op <;> rw [hop2] at hop <;> simp only [Bool.false_eq_true] at hop
  rename_i t
  have hmd : md (some d0) ≠ 2 := by rw [hd0] at hop; simpa using hop
  have hstep : ∀ (s : St) (K : List (List AV) → Hp → AV → Prop), gStep P ty md all o s.sl s.lo s.h K ↔ ∃ D, ty t = some D ∧ K (s.lo ++ [D.zero]) s.h (.loc s.lo.length 0) := fun s K => by
    unfold gStep
    rw [hgd]
    simp only [hop2, opsOf, opS, true_and, vEff, hd0]
    cases ht : ty t with
    | none => simp
    | some D =>
      simp only [Option.some.injEq, exists_eq_left']
  have h0 := h _ fun _ h => h
  simp only [vIdx, stepI, hao] at h0
  obtain ⟨D, hD, hK0⟩ := (hstep s _).1 h0
  rw [hd0] at hK0
  refine wp_region_any hm ?_
  obtain ⟨s3, hK3, hlo3, hh3, hl3, hv3, hkeep3⟩ := vIdx_quiet hA hd hr E0 _ hE0 (sortedB_spec hsE) (fun i hi => ⟨hlt' i (List.mem_cons_of_mem _ (List.mem_append_left _ hi)), hlouds i hi⟩) (by simp [St.put]) hK0
  have hin : In c s a { w with drawn := w.drawn + 1 } := by
    have hb : ∀ b, b < w.heap.size → ({ w with drawn := w.drawn + 1 } : World).heap[b]? = w.heap[b]? := fun _ _ => rfl
    exact ⟨G, L, sm.below hb, hg, hf.trans (Fr.below (Fr.refl _ _ _) hb rfl rfl rfl (Nat.le_refl _)), hL⟩
  have hfalse : ∀ i, (Array.replicate all.size false).getD i false = false := fun i => by rw [Array.getD_eq_getD_getElem?, Array.getElem?_replicate]; split <;> rfl
  refine draw_goF hty hfd hfn (z := D.zero) (fun i oi hoi hne => ?_) hA hd hr (fun s' a' w' hq hi => ⟨s', hq, hi⟩) (fun hm => hfm (List.mem_append_right _ (hlr f hm))) (fun s a w Kc hi hkc => ?_) all.size (Array.replicate all.size false) E0 pl s3 s a _ ?_ (by simp) ?_ hplan (fun i hi => ⟨List.all_eq_true.1 hE0 i hi, hlouds i hi⟩) (fun i hi => hlt' i (List.mem_cons_of_mem _ (List.mem_append_right _ hi)))
    (fun p hp => ⟨List.mem_map.2 ⟨p, hp, rfl⟩, hpE pl hnd1.2.1 p hp⟩) hnd' (fun i hi => ?_) hfm (hfalse f) (fun i _ => hfalse i) (fun i hi _ => hv3 i hi) hlo3.symm ?_ hh3.symm rfl hl3 (fun t ht0 ht => ?_) hK3 hin
  · have := List.all_eq_true.1 hfa i (List.mem_range.2 (Array.getElem?_eq_some_iff.1 hoi).1)
    rw [hoi] at this
    simp only [Bool.or_eq_true, beq_iff_eq] at this
    rcases this with e | e
    · exact absurd e hne
    · exact floatB_ok e
  · have hs := gStep_sound (c := c) (md := md) (all := all) hty (o := o) ((hstep s (fun lo' h' x => lo' = s.lo ++ [D.zero] ∧ h' = s.h ∧ x = .loc s.lo.length 0)).2 ⟨D, hD, rfl, rfl, rfl⟩) hi (Kc := Kc) (Q := Qc c Q) (fun lo' h' x a' w' hx hi' => by
      obtain ⟨rfl, rfl, rfl⟩ := hx
      rw [hd0] at hi'
      exact hkc a' w' hi')
    unfold wpOp
    rw [hao]
    simp only
    split
    · rename_i hw; rw [if_pos hw] at hs; exact .inl hs
    · rename_i hw; rw [if_neg hw] at hs; exact hs
  · exact Nat.le_trans List.countP_le_length (by simp)
  · intro j o _ hj
    rw [show (fun i => (Array.replicate all.size false).getD i false) j = false from hfalse j] at hj
    cases hj
  · have := List.all_eq_true.1 hcov i (List.mem_range.2 hi)
    simp only [List.contains_eq_mem, decide_eq_true_eq] at this
    rcases List.mem_cons.1 this with h | h
    · exact .inr (.inr (.inr h))
    · rcases List.mem_append.1 h with h | h
      · exact .inr (.inl h)
      · exact .inr (.inr (.inl h))
  · rw [hkeep3 d0 (fun i hi e => hfm (List.mem_append_left _ (by rw [← dst_inj hd e hfd]; exact hi)))]
    exact getD_set_self hdn
  · rw [hkeep3 t fun i hi => ht i hi (hfalse i)]
    exact (getD_set_other (fun e => ht0 e.symm)).symm
end
end Go.Proofs.YtoleejecmefogaaDoor
/- Rules for whole bodies: tests, loops with what is kept, rights to append, modes. -/
namespace Go.Proofs.YtoleejecmefogaaDoor
open Go
def mdL : List (Nat × Nat) → Option Tmp → Nat
  | [], _ => 0
  | (a, m) :: r, d => if d = some a then m else mdL r d
def cutLoc (k : Nat) : AV → AV
  | .loc j o => if j < k then .loc j o else .junk
  | .opt _ _ => .junk
  | a => a
def maskL (k : Nat) : List Bool → List AV → List AV
  | _, [] => []
  | [], a :: l => cutLoc k a :: maskL k [] l
  | true :: m, a :: l => cutLoc k a :: maskL k m l
  | false :: m, _ :: l => .junk :: maskL k m l
/-- What is kept of a state: the slots of m, the first k own objects. -/
def St.cut (m : List Bool) (k : Nat) (s : St) : St := { sl := maskL k m s.sl, lo := s.lo.take k, h := s.h }
theorem maskL_len (k : Nat) : ∀ (m : List Bool) (l : List AV), (maskL k m l).length = l.length
  | _, [] => rfl
  | [], a :: l => by simp [maskL, maskL_len k [] l]
  | true :: m, a :: l => by simp [maskL, maskL_len k m l]
  | false :: m, a :: l => by simp [maskL, maskL_len k m l]
theorem maskL_get (k : Nat) : ∀ (m : List Bool) (l : List AV) (t : Nat) (h : t < l.length) (h' : t < (maskL k m l).length), (maskL k m l)[t] = .junk ∨ (maskL k m l)[t] = cutLoc k l[t]
  | _, [], t, h, _ => by simp at h
  | [], a :: l, 0, _, _ => .inr rfl
  | [], a :: l, t + 1, h, _ => by simpa [maskL] using maskL_get k [] l t (by simpa using h) (by simpa [maskL_len] using h)
  | true :: m, a :: l, 0, _, _ => .inr rfl
  | true :: m, a :: l, t + 1, h, _ => by simpa [maskL] using maskL_get k m l t (by simpa using h) (by simpa [maskL_len] using h)
  | false :: m, a :: l, 0, _, _ => .inl rfl
  | false :: m, a :: l, t + 1, h, _ => by simpa [maskL] using maskL_get k m l t (by simpa using h) (by simpa [maskL_len] using h)
section
variable {P : Program} {c : Cx} {Q : Exit → St → Prop} {s : St}
theorem In.cut {a : Act} {w : World} (hi : In c s a w) (m : List Bool) (k : Nat) : In c (s.cut m k) a w := by
  obtain ⟨G, L, sm, hg, hf, hL⟩ := hi
  have hlen := sm.ls.len
  refine ⟨G, L.take k, ⟨sm.hs, by simpa [St.cut, maskL_len] using sm.sz, fun t ht => ?_, sm.df, ?_⟩, hg, hf, fun b hb => hL b (List.mem_of_mem_take hb)⟩
  · have ht' : t < s.sl.length := by simpa [St.cut, maskL_len] using ht
    have h := sm.sl t ht'
    rcases maskL_get k m s.sl t ht' ht with e | e
    · show RepT G (L.take k) (maskL k m s.sl)[t] _
      rw [e]; exact RepT.junk _
    · show RepT G (L.take k) (maskL k m s.sl)[t] _
      rw [e]
      generalize s.sl[t] = x at h
      cases x with
      | loc j o =>
        simp only [cutLoc]
        split
        · rename_i hj
          obtain ⟨b, hb, hv⟩ := h
          exact ⟨b, by rw [List.getElem?_take, if_pos hj]; exact hb, hv⟩
        · exact RepT.junk _
      | opt b y => exact RepT.junk _
      | _ => exact h
  · refine ⟨by simp [St.cut, hlen], fun j b cs e e' => ?_, fun b hb => sm.ls.free b (List.mem_of_mem_take hb), sm.ls.nd.sublist (List.take_sublist k L)⟩
    simp only [St.cut] at e'
    rw [List.getElem?_take] at e e'
    split at e
    · rename_i hj
      rw [if_pos hj] at e'
      exact sm.ls.lo j b cs e e'
    · cases e
theorem awp_cut (m : List Bool) (k : Nat) {x : Code} (h : Awp P c x Q (s.cut m k)) : Awp P c x Q s := fun a w hi => h a w (hi.cut m k)
theorem awp_less {h' : Hp} (hl : Hp.le h' s.h) {x : Code} (h : Awp P c x Q { s with h := h' }) : Awp P c x Q s := fun a w ⟨G, L, sm, hg, hf, hL⟩ =>
  h a w ⟨G, L, ⟨sm.hs.less hl, sm.sz, sm.sl, sm.df, ⟨sm.ls.len, sm.ls.lo, fun b hb => ⟨fun o => (sm.ls.free b hb).1 (hl.own o), (sm.ls.free b hb).2⟩, sm.ls.nd⟩⟩, hg, hf.less hl, hL⟩
theorem awp_cond {x : Operand} {a b : Code} {t : Bool} (hc : s.ev x = .v (.bool t)) (h1 : t = true → Awp P c a Q s) (h2 : t = false → Awp P c b Q s) : Awp P c (.cond x a b) Q s := by
  intro ac w hi
  obtain ⟨G, L, sm, _⟩ := id hi
  have e := sm.evv hc
  cases t with
  | true => exact wp_cond_true e (h1 rfl ac w hi)
  | false => exact wp_cond_false e (h2 rfl ac w hi)
theorem awp_seqJ (m : List Bool) (k : Nat) {x y : Code} (J : St → Prop) (h : Awp P c x (thenQ (fun s' => J (s'.cut m k)) Q) s) (h2 : ∀ s, J s → Awp P c y Q s) : Awp P c (.seq x y) Q s := by
  refine awp_seq (awp_mono h fun e s' hq => ?_)
  cases e with
  | normal => exact awp_cut m k (h2 _ hq)
  | _ => exact hq
theorem awp_join (m : List Bool) (k : Nat) {x y : Code} (J : St → Prop) (h : Awp P c x (thenQ (fun s' => J (s'.cut m k)) Q) s) (h2 : ∀ s, J s → Awp P c y Q s) : Awp P c x (thenQ (Awp P c y Q) Q) s := by
  refine awp_mono h fun e s' hq => ?_
  cases e with
  | normal => exact awp_cut m k (h2 _ hq)
  | _ => exact hq
theorem awp_via (J : St → Prop) {x : Code} (h1 : ∀ s, J s → Awp P c x Q s) (h2 : (∀ s, J s → Awp P c x Q s) → Awp P c x Q s) : Awp P c x Q s := h2 h1
theorem awp_loopC (m : List Bool) (k : Nat) {x : Code} (I : Nat → St → Prop) (n : Nat) (h0 : I n (s.cut m k)) (round : ∀ n s, I n s → Awp P c x (thenQ (fun s' => ∃ j, j < n ∧ I j (s'.cut m k)) Q) s) : Awp P c (.loop x) Q s := by
  have key : Awp P c (.loop x) Q (s.cut m k) := by
    refine awp_loop (fun n s' => ∃ s'', I n s'' ∧ ∀ a w, In c s' a w → In c s'' a w) n ⟨_, h0, fun _ _ h => h⟩ ?_
    rintro n s' ⟨s'', hI, hle⟩ a w hi
    refine wp_mono (round n s'' hI a w (hle a w hi)) ?_
    rintro e a' w' ⟨s3, hq, hi3⟩
    refine ⟨s3, ?_, hi3⟩
    cases e with
    | normal => obtain ⟨j, hj, hI3⟩ := hq; exact ⟨j, hj, _, hI3, fun a w h => h.cut m k⟩
    | _ => exact hq
  exact awp_cut m k key
/-- A slice that is nil may get the right to append. -/
theorem awp_own (t z : Nat) {x : Code} {n' c' : Nat} (ht : s.sl.getD t .junk = .v (.slice none n' c')) (h0 : n' = 0 ∧ c' = 0) (h : ∀ k, s.h.T k = none → Awp P c x Q { s with sl := s.sl.set t (.row z [] (some k)), h := { s.h with T := upd s.h.T k (some (.tail 0)) } }) : Awp P c x Q s := by
  rintro a w ⟨G, L, sm, hg, hf, hL⟩
  obtain ⟨rfl, rfl⟩ := h0
  obtain ⟨hT, s1, g1, f1⟩ := sm.newTok (o := .tail 0) (.inl rfl)
  refine h G.nx hT a w ⟨G.newTk, L, ⟨s1.hs, by simpa using s1.sz, fun u hu => ?_, s1.df, s1.ls⟩, hg.trans g1, hf.trans f1, hL⟩
  have hu' : u < s.sl.length := by simpa using hu
  have h1 := s1.sl u hu'
  simp only [List.getElem_set]
  split
  · rename_i e
    subst e
    have hv : a.tmps.getD t undef = .slice none 0 0 := by
      have h2 := sm.sl t hu'
      rw [List.getD_eq_getElem?_getD, List.getElem?_eq_getElem hu'] at ht
      simp only [Option.getD_some] at ht
      rw [ht] at h2
      exact h2.v_inv
    rw [hv]
    refine RepT.of (.nil z _ ⟨by simp [Gh.newTk], ?_⟩)
    have : G.newTk.tl G.nx = some none := upd_same _ _ _
    rw [this]
    exact ⟨rfl, none, rfl⟩
  · exact h1
/-- A cell of an own object that is nil may get the right to append. -/
theorem awp_ownLoc (j i z : Nat) {x : Code} {cs : List AV} (hj : s.lo[j]? = some cs) (hi : cs[i]? = some (.v (.slice none 0 0))) (h : ∀ k, s.h.T k = none → Awp P c x Q { s with lo := s.lo.set j (cs.set i (.row z [] (some k))), h := { s.h with T := upd s.h.T k (some (.tail 0)) } }) : Awp P c x Q s := by
  rintro a w ⟨G, L, sm, hg, hf, hL⟩
  obtain ⟨hT, s1, g1, f1⟩ := sm.newTok (o := .tail 0) (.inl rfl)
  refine h G.nx hT a w ⟨G.newTk, L, ⟨s1.hs, s1.sz, s1.sl, s1.df, ⟨by simpa using s1.ls.len, fun u b ds e e' => ?_, s1.ls.free, s1.ls.nd⟩⟩, hg.trans g1, hf.trans f1, hL⟩
  by_cases hju : j = u
  · subst hju
    have hlt : j < s.lo.length := (List.getElem?_eq_some_iff.1 hj).1
    simp only [List.getElem?_set_self hlt, Option.some.injEq] at e'
    subst e'
    obtain ⟨vs, E, hh, hsz, hr⟩ := s1.ls.lo j b cs e hj
    have hil : i < cs.length := (List.getElem?_eq_some_iff.1 hi).1
    refine ⟨vs, E, hh, by simpa using hsz, by simpa using hr.1, fun q hq hq' => ?_⟩
    have hq2 : q < cs.length := by simpa using hq
    have h3 := hr.2 q hq2 hq'
    refine ⟨?_, h3.2⟩
    simp only [List.getElem_set]
    split
    · rename_i eiq
      subst eiq
      have h4 := h3.1
      rw [show cs[i] = AV.v (.slice none 0 0) by rw [List.getElem?_eq_getElem hq2] at hi; simpa using hi] at h4
      have hv := (RepT.of (L := []) h4).v_inv
      rw [hv]
      refine .nil z _ ⟨by simp [Gh.newTk], ?_⟩
      have : G.newTk.tl G.nx = some none := upd_same _ _ _
      rw [this]
      exact ⟨rfl, none, rfl⟩
    · exact h3.1
  · simp only [List.getElem?_set_ne hju] at e'
    exact s1.ls.lo u b ds e e'
theorem awp_seqR {ty : Nat → Option TyD} {all : Array Oper} (hty : TyOk P ty) {id : Nat} {y : Code} (md : Option Tmp → Nat) (h : ∀ K : St → Prop, (∀ s', Awp P c y Q s' → K s') → vOps P ty md all all.toList s K) : Awp P c (.seq (.region id all false) y) Q s :=
  awp_seq (awp_region hty md fun K hK => h K fun s' h' => hK s' h')
theorem awp_seqD {ty : Nat → Option TyD} {all : Array Oper} (hty : TyOk P ty) (hm : P.follows .mixedOrders = true) {id : Nat} {y : Code} (md : Option Tmp → Nat) {E0 : List Nat} {pl : List (Nat × List Nat × List Nat)} (n : Nat) (hn : s.sl.length = n)
    (hok : drawOk md all n E0 pl = true) (h : ∀ K : St → Prop, (∀ s', Awp P c y Q s' → K s') → vIdx P ty md all E0 s fun s1 => vRest P ty md all pl s1 K) : Awp P c (.seq (.region id all true) y) Q s :=
  awp_seq (awp_draw hty hm md n hn hok fun K hK => h K fun s' h' => hK s' h')
theorem inBlock_exit {id : Nat} (h : Q .normal s) : inBlockQ id Q (.exit id) s := by simp only [inBlockQ, if_true]; exact h
theorem inBlock_other {id id' : Nat} (h : id' ≠ id) (hq : Q (.exit id') s) : inBlockQ id Q (.exit id') s := by simp only [inBlockQ, if_neg h]; exact hq
theorem thenQ_normal {n : St → Prop} (h : n s) : thenQ n Q .normal s := h
theorem thenQ_ret {n : St → Prop} (h : Q .ret s) : thenQ n Q .ret s := h
theorem thenQ_exit {n : St → Prop} {id : Nat} (h : Q (.exit id) s) : thenQ n Q (.exit id) s := h
theorem inBlock_normal {id : Nat} (h : Q .normal s) : inBlockQ id Q .normal s := h
theorem inBlock_ret {id : Nat} (h : Q .ret s) : inBlockQ id Q .ret s := h
theorem getD_enc {α : Type} (f : α → List AV) (l : List α) (k : Nat) (d : α) (h : k < l.length) : (l.map f).getD k [] = f (l.getD k d) := by
  simp [List.getD_eq_getElem?_getD, List.getElem?_eq_getElem h]
/-- Up to the next call, and what is behind it. -/
def isCallB (o : Oper) : Bool := match o.op with | .call { callee := .value _, .. } => true | _ => false
def bef : List Oper → List Oper
  | [] => []
  | o :: r => o :: bif isCallB o then [] else bef r
def aft : List Oper → List Oper
  | [] => []
  | o :: r => bif isCallB o then r else aft r
theorem bef_aft : ∀ l : List Oper, bef l ++ aft l = l
  | [] => rfl
  | o :: r => by
    simp only [bef, aft]
    cases isCallB o
    · simp [bef_aft r]
    · rfl
variable {ty : Nat → Option TyD} {md : Option Tmp → Nat} {all : Array Oper}
theorem gStep_mono {o : Oper} {sl : List AV} {lo : List (List AV)} {h : Hp} {K K' : List (List AV) → Hp → AV → Prop} (hk : ∀ lo h x, K lo h x → K' lo h x) (hv : gStep P ty md all o sl lo h K) : gStep P ty md all o sl lo h K' := by
  unfold gStep at hv ⊢
  split at hv
  · split at hv
    · unfold pickE at hv ⊢
      split at hv
      · exact ⟨hv.1, hk _ _ _ hv.2⟩
      · exact hv.elim
    · exact ⟨hv.1, vEff_mono hk hv.2⟩
  · split at hv
    · exact hv.elim
    · split at hv
      · unfold pickE at hv ⊢
        split at hv
        · exact ⟨hv.1, hv.2.1, hk _ _ _ hv.2.2⟩
        · exact hv.elim
      · cases hcv : isCallV o.op with
        | true =>
          simp only [hcv, cond_true] at hv ⊢
          exact ⟨fun hc => ⟨(hv.1 hc).1, vEff_mono (fun lo h x hx => ⟨hx.1, hk _ _ _ hx.2⟩) (hv.1 hc).2⟩, fun hc => hk _ _ _ (hv.2 hc)⟩
        | false =>
        simp only [hcv, cond_false] at hv ⊢
        split at hv
        · exact ⟨hv.1, hv.2.1, hk _ _ _ hv.2.2⟩
        · obtain ⟨x, h1, h2, h3⟩ := hv
          exact ⟨x, h1, h2, hk _ _ _ h3⟩
theorem vOps_mono : ∀ (l : List Oper) {s : St} {K K' : St → Prop} (_ : ∀ s, K s → K' s) (_ : vOps P ty md all l s K), vOps P ty md all l s K'
  | [], s, K, K', hk, h => hk s h
  | o :: r, s, K, K', hk, h => gStep_mono (fun _ _ _ hx => vOps_mono r hk hx) h
theorem vOps_app : ∀ (l l2 : List Oper) {s : St} {K : St → Prop} (_ : vOps P ty md all l s fun s' => vOps P ty md all l2 s' K), vOps P ty md all (l ++ l2) s K
  | [], l2, s, K, h => h
  | o :: r, l2, s, K, h => gStep_mono (fun _ _ _ hx => vOps_app r l2 hx) h
/-- What is left of a region, then N. -/
def vRem (P : Program) (ty : Nat → Option TyD) (md : Option Tmp → Nat) (all : Array Oper) (l : List Oper) (s : St) (N : St → Prop) : Prop := vOps P ty md all l s N
theorem vRem_nil {N : St → Prop} (h : N s) : vRem P ty md all [] s N := h
theorem vRem_go {l : List Oper} {N : St → Prop} (h : ∀ K1 : St → Prop, (∀ s', vRem P ty md all (aft l) s' N → K1 s') → vOps P ty md all (bef l) s K1) : vRem P ty md all l s N := by
  have := vOps_app (bef l) (aft l) (h _ fun _ h => h)
  rwa [bef_aft] at this
theorem awp_seqR2 (hty : TyOk P ty) {id : Nat} {y : Code} (md : Option Tmp → Nat) (h : ∀ K1 : St → Prop, (∀ s', vRem P ty md all (aft all.toList) s' (Awp P c y Q) → K1 s') → vOps P ty md all (bef all.toList) s K1) : Awp P c (.seq (.region id all false) y) Q s :=
  awp_seqR hty md fun K hK => vOps_mono _ hK (vRem_go h)
theorem awp_region2 (hty : TyOk P ty) {id : Nat} (md : Option Tmp → Nat) (h : ∀ K1 : St → Prop, (∀ s', vRem P ty md all (aft all.toList) s' (Q .normal) → K1 s') → vOps P ty md all (bef all.toList) s K1) : Awp P c (.region id all false) Q s :=
  awp_region hty md fun K hK => vOps_mono _ hK (vRem_go h)
theorem vIdx_mono : ∀ (l : List Nat) {s : St} {K K' : St → Prop} (_ : ∀ s, K s → K' s) (_ : vIdx P ty md all l s K), vIdx P ty md all l s K'
  | [], s, K, K', hk, h => hk s h
  | i :: r, s, K, K', hk, h => by
    simp only [vIdx, stepI] at h ⊢
    split at h
    · exact gStep_mono (fun _ _ _ hx => vIdx_mono r hk hx) h
    · exact h.elim
theorem stepI_mono {i : Nat} {K K' : St → Prop} (hk : ∀ s, K s → K' s) (h : stepI P ty md all i s K) : stepI P ty md all i s K' := by
  unfold stepI at h ⊢
  split at h
  · exact gStep_mono (fun _ _ _ hx => hk _ hx) h
  · exact h.elim
theorem vRest_mono : ∀ (r : List (Nat × List Nat × List Nat)) {s : St} {K K' : St → Prop} (_ : ∀ s, K s → K' s) (_ : vRest P ty md all r s K), vRest P ty md all r s K'
  | [], s, K, K', hk, h => hk s h
  | (l, R, E) :: r, s, K, K', hk, h => stepI_mono (fun s2 h2 => ⟨h2.1, vIdx_mono E (fun s3 h3 => vRest_mono r hk h3) h2.2⟩) h
def vRst (P : Program) (ty : Nat → Option TyD) (md : Option Tmp → Nat) (all : Array Oper) (r : List (Nat × List Nat × List Nat)) (s : St) (N : St → Prop) : Prop := vRest P ty md all r s N
def vMid (P : Program) (ty : Nat → Option TyD) (md : Option Tmp → Nat) (all : Array Oper) (R E : List Nat) (r : List (Nat × List Nat × List Nat)) (s : St) (N : St → Prop) : Prop := reL P ty md all R s ∧ vIdx P ty md all E s fun s3 => vRest P ty md all r s3 N
theorem vRst_nil {N : St → Prop} (h : N s) : vRst P ty md all [] s N := h
theorem vRst_go {l : Nat} {R E : List Nat} {r : List (Nat × List Nat × List Nat)} {N : St → Prop} (h : ∀ K1 : St → Prop, (∀ s', vMid P ty md all R E r s' N → K1 s') → stepI P ty md all l s K1) : vRst P ty md all ((l, R, E) :: r) s N := h _ fun _ h => h
theorem vMid_go {R E : List Nat} {r : List (Nat × List Nat × List Nat)} {N : St → Prop} (h1 : reL P ty md all R s) (h : ∀ K1 : St → Prop, (∀ s', vRst P ty md all r s' N → K1 s') → vIdx P ty md all E s K1) : vMid P ty md all R E r s N := ⟨h1, h _ fun _ h => h⟩
theorem awp_seqD2 (hty : TyOk P ty) (hm : P.follows .mixedOrders = true) {id : Nat} {y : Code} (md : Option Tmp → Nat) {E0 : List Nat} {pl : List (Nat × List Nat × List Nat)} (n : Nat) (hn : s.sl.length = n)
    (hok : drawOk md all n E0 pl = true) (h : ∀ K1 : St → Prop, (∀ s', vRst P ty md all pl s' (Awp P c y Q) → K1 s') → vIdx P ty md all E0 s K1) : Awp P c (.seq (.region id all true) y) Q s :=
  awp_seqD hty hm md n hn hok fun K hK => h _ fun s' h' => vRest_mono pl hK h'
theorem awp_seqF2 (hty : TyOk P ty) (hm : P.follows .mixedOrders = true) {id : Nat} {y : Code} (md : Option Tmp → Nat) {f : Nat} {E0 : List Nat} {pl : List (Nat × List Nat × List Nat)} (n : Nat) (hn : s.sl.length = n)
    (hok : drawOkF md all n f E0 pl = true) (h : ∀ K1 : St → Prop, (∀ s', vRst P ty md all pl s' (Awp P c y Q) → K1 s') → vIdx P ty md all (f :: E0) s K1) : Awp P c (.seq (.region id all true) y) Q s :=
  awp_seq (awp_drawF hty hm md n hn hok fun K hK => h _ fun s' h' => vRest_mono pl hK h')
theorem awp_drawF2 (hty : TyOk P ty) (hm : P.follows .mixedOrders = true) {id : Nat} (md : Option Tmp → Nat) {f : Nat} {E0 : List Nat} {pl : List (Nat × List Nat × List Nat)} (n : Nat) (hn : s.sl.length = n)
    (hok : drawOkF md all n f E0 pl = true) (h : ∀ K1 : St → Prop, (∀ s', vRst P ty md all pl s' (Q .normal) → K1 s') → vIdx P ty md all (f :: E0) s K1) : Awp P c (.region id all true) Q s :=
  awp_drawF hty hm md n hn hok fun K hK => h _ fun s' h' => vRest_mono pl hK h'
theorem awp_draw2 (hty : TyOk P ty) (hm : P.follows .mixedOrders = true) {id : Nat} (md : Option Tmp → Nat) {E0 : List Nat} {pl : List (Nat × List Nat × List Nat)} (n : Nat) (hn : s.sl.length = n)
    (hok : drawOk md all n E0 pl = true) (h : ∀ K1 : St → Prop, (∀ s', vRst P ty md all pl s' (Q .normal) → K1 s') → vIdx P ty md all E0 s K1) : Awp P c (.region id all true) Q s :=
  awp_draw hty hm md n hn hok fun K hK => h _ fun s' h' => vRest_mono pl hK h'
/-- Heads alone: tried ahead of what costs. -/
theorem awp_idS {id : Nat} {y : Code} {b : Bool} (h : Awp P c (.seq (.region id all b) y) Q s) : Awp P c (.seq (.region id all b) y) Q s := h
theorem awp_idR {id : Nat} {b : Bool} (h : Awp P c (.region id all b) Q s) : Awp P c (.region id all b) Q s := h
theorem vRem_id {l : List Oper} {N : St → Prop} (h : vRem P ty md all l s N) : vRem P ty md all l s N := h
theorem vRst_id {r : List (Nat × List Nat × List Nat)} {N : St → Prop} (h : vRst P ty md all r s N) : vRst P ty md all r s N := h
theorem vMid_id {R E : List Nat} {r : List (Nat × List Nat × List Nat)} {N : St → Prop} (h : vMid P ty md all R E r s N) : vMid P ty md all R E r s N := h
end
/-- Slots of no word; masks by their runs. -/
def jnk : Nat → List AV → List AV
  | 0, l => l
  | n + 1, l => .junk :: jnk n l
def rl (b : Bool) : List Nat → List Bool
  | [] => []
  | n :: r => List.replicate n b ++ rl (!b) r
theorem jnk_zero (l : List AV) : jnk 0 l = l := rfl
theorem jnk_jnk : ∀ (n m : Nat) (l : List AV), jnk n (jnk m l) = jnk (n + m) l
  | 0, m, l => by rw [Nat.zero_add]; rfl
  | n + 1, m, l => by rw [show n + 1 + m = (n + m) + 1 by omega, jnk, jnk, jnk_jnk n m l]
theorem jnk_rep : ∀ n, List.replicate n AV.junk = jnk n []
  | 0 => rfl
  | n + 1 => by rw [List.replicate_succ, jnk_rep n]; rfl
theorem getD_jnk_lt : ∀ {n i : Nat} (l : List AV) (_ : i < n), (jnk n l).getD i .junk = .junk
  | 0, _, _, h => by omega
  | n + 1, 0, l, _ => rfl
  | n + 1, i + 1, l, h => by rw [jnk, List.getD_cons_succ]; exact getD_jnk_lt l (by omega)
theorem getD_jnk_ge : ∀ {n i : Nat} (l : List AV) (_ : n ≤ i), (jnk n l).getD i .junk = l.getD (i - n) .junk
  | 0, _, _, h => rfl
  | n + 1, 0, l, h => by omega
  | n + 1, i + 1, l, h => by rw [jnk, List.getD_cons_succ, getD_jnk_ge l (by omega), Nat.add_sub_add_right]
theorem set_jnk_lt : ∀ {n i : Nat} (l : List AV) (x : AV) (_ : i < n), (jnk n l).set i x = jnk i (x :: jnk (n - (i + 1)) l)
  | 0, _, _, _, h => by omega
  | n + 1, 0, l, x, _ => rfl
  | n + 1, i + 1, l, x, h => by rw [jnk, List.set_cons_succ, set_jnk_lt l x (by omega), jnk, Nat.add_sub_add_right]
theorem set_jnk_ge : ∀ {n i : Nat} (l : List AV) (x : AV) (_ : n ≤ i), (jnk n l).set i x = jnk n (l.set (i - n) x)
  | 0, _, _, _, h => rfl
  | n + 1, 0, l, x, h => by omega
  | n + 1, i + 1, l, x, h => by rw [jnk, List.set_cons_succ, set_jnk_ge l x (by omega), jnk, Nat.add_sub_add_right]
theorem len_jnk : ∀ (n : Nat) (l : List AV), (jnk n l).length = n + l.length
  | 0, l => by rw [Nat.zero_add]; rfl
  | n + 1, l => by rw [jnk, List.length_cons, len_jnk n l]; omega
/-- What is kept of the slots: the bits of m. -/
def keepL (k : Nat) : Nat → List AV → List AV
  | _, [] => []
  | m, a :: l => (if m % 2 = 1 then cutLoc k a else .junk) :: keepL k (m / 2) l
theorem keepL_nil (k m : Nat) : keepL k m [] = [] := rfl
theorem keepL_c1 {k m : Nat} (a : AV) (l : List AV) (h : m % 2 = 1) : keepL k m (a :: l) = cutLoc k a :: keepL k (m / 2) l := by rw [keepL, if_pos h]
theorem keepL_c0 {k m : Nat} (a : AV) (l : List AV) (h : m % 2 = 0) : keepL k m (a :: l) = jnk 1 (keepL k (m / 2) l) := by rw [keepL, if_neg (by omega)]; rfl
theorem keepL_jnk (k : Nat) : ∀ (m n : Nat) (l : List AV), keepL k m (jnk n l) = jnk n (keepL k (m / 2 ^ n) l)
  | m, 0, l => by rw [Nat.pow_zero, Nat.div_one]; rfl
  | m, n + 1, l => by rw [jnk, keepL, keepL_jnk k (m / 2) n l, jnk, Nat.div_div_eq_div_mul, Nat.pow_succ, Nat.mul_comm 2]; split <;> rfl
def bitsL : Nat → Nat → List Bool
  | 0, _ => []
  | n + 1, m => (m % 2 == 1) :: bitsL n (m / 2)
theorem keepL_mask (k : Nat) : ∀ (l : List AV) (m : Nat), keepL k m l = maskL k (bitsL l.length m) l
  | [], m => by simp [keepL, bitsL, maskL]
  | a :: l, m => by
    rw [keepL, List.length_cons, bitsL, keepL_mask k l (m / 2)]
    by_cases h : m % 2 = 1
    · have e : (m % 2 == 1) = true := by simpa using h
      rw [if_pos h, e]; rfl
    · have e : (m % 2 == 1) = false := by simpa using h
      rw [if_neg h, e]; rfl
def St.keep (m k : Nat) (s : St) : St := { sl := keepL k m s.sl, lo := s.lo.take k, h := s.h }
theorem awp_keep (m k : Nat) {P : Program} {c : Cx} {Q : Exit → St → Prop} {s : St} {x : Code} (h : Awp P c x Q (s.keep m k)) : Awp P c x Q s :=
  awp_cut (bitsL s.sl.length m) k (by rw [show s.cut (bitsL s.sl.length m) k = s.keep m k by rw [St.cut, St.keep, keepL_mask]]; exact h)
/-- What a run hands on. -/
structure Hold (Q : Prop) : Prop where
  out : Q
/-- Goals that a run leaves, one beside the other. -/
structure AndQ (A B : Prop) : Prop where
  l : A
  r : B
theorem Hold.fst {A B : Prop} (h : Hold (AndQ A B)) : A := h.out.l
theorem Hold.snd {A B : Prop} (h : Hold (AndQ A B)) : B := h.out.r
theorem Hold.a {A B C : Prop} (h : Hold (AndQ A (AndQ B C))) : A := h.out.l
theorem Hold.b {A B C : Prop} (h : Hold (AndQ A (AndQ B C))) : B := h.out.r.l
theorem Hold.c {A B C : Prop} (h : Hold (AndQ A (AndQ B C))) : C := h.out.r.r
theorem Hold.a4 {A B C D : Prop} (h : Hold (AndQ A (AndQ B (AndQ C D)))) : A := h.out.l
theorem Hold.b4 {A B C D : Prop} (h : Hold (AndQ A (AndQ B (AndQ C D)))) : B := h.out.r.l
theorem Hold.c4 {A B C D : Prop} (h : Hold (AndQ A (AndQ B (AndQ C D)))) : C := h.out.r.r.l
theorem Hold.d4 {A B C D : Prop} (h : Hold (AndQ A (AndQ B (AndQ C D)))) : D := h.out.r.r.r
/-- The modes that a run is told with. -/
structure MdIs (md : Option Tmp → Nat) : Prop where
  ok : True
section
variable {P : Program} {c : Cx} {Q : Exit → St → Prop} {s : St} {ty : Nat → Option TyD} {all : Array Oper}
theorem awp_seqR3 (hty : TyOk P ty) {id : Nat} {y : Code} {md : Option Tmp → Nat} (_ : MdIs md) (h : ∀ K1 : St → Prop, (∀ s', vRem P ty md all (aft all.toList) s' (Awp P c y Q) → K1 s') → vOps P ty md all (bef all.toList) s K1) : Awp P c (.seq (.region id all false) y) Q s := awp_seqR2 hty md h
theorem awp_region3 (hty : TyOk P ty) {id : Nat} {md : Option Tmp → Nat} (_ : MdIs md) (h : ∀ K1 : St → Prop, (∀ s', vRem P ty md all (aft all.toList) s' (Q .normal) → K1 s') → vOps P ty md all (bef all.toList) s K1) : Awp P c (.region id all false) Q s := awp_region2 hty md h
end
theorem kin {H p : (St → Prop) → Prop} (h : ∀ K1 : St → Prop, H K1 → p K1) : ∀ K1 : St → Prop, H K1 → p K1 := h
end Go.Proofs.YtoleejecmefogaaDoor
