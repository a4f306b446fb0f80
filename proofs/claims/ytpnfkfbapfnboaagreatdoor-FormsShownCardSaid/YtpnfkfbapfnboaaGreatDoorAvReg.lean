/- Regions in the text's order: guards, and values that may not be there. -/
import Derived.Test.YtpnfkfbapfnboaaGreatDoorAvEff
import Derived.Orders
namespace Go.Proofs.YtpnfkfbapfnboaaGreatDoor
open Go
set_option linter.unusedVariables false
set_option linter.unusedSimpArgs false
def opsOf : Op → List Operand
  | .alloc _ | .ready _ | .waits _ | .makeMap _ none => []
  | .lookup _ x k _ => [x, k]
  | .mapUpdate _ m k x | .insert _ m k x => [m, k, x]
  | .move x | .assign x | .box _ x | .load _ x | .nilCheck x | .unOp _ _ x | .convert _ _ x | .fieldAddr _ x _ | .field _ x _ | .extract x _ | .range _ x | .next x _ | .entry x => [x]
  | .pick c a b => [c, a, b]
  | .build _ ps | .buildSlice _ _ ps => ps.toList.map (·.2)
  | .store _ a v | .binOp _ _ a v _ | .indexAddr _ a v | .index _ a v | .makeSlice _ a v => [a, v]
  | .makeFunc _ first captured => first.toList ++ captured.toList
  | .slice _ x l h m => x :: (l.toList ++ h.toList ++ m.toList)
  | .call c => (match c.callee with | .value f => [f] | .invoke r _ => [r] | .builtin _ => []) ++ c.args.toList
  | op => op.operands.toList
theorem opsOf_mem {op : Op} {x : Operand} (h : x ∈ op.operands.toList) : x ∈ opsOf op := by
  cases op <;> simp only [opsOf, Op.operands] at h ⊢ <;> try exact h
  case makeFunc f a b => simpa using h
  case slice t x l u m => cases l <;> cases u <;> cases m <;> simpa using h
  case makeMap t r => cases r with
    | none => simp at h
    | some y => simpa using h
  case call c =>
    simp only [Call.operands] at h
    cases hc : c.callee <;> simp only [hc] at h ⊢ <;> simpa using h
theorem vEff_congr {P : Program} {ty : Nat → Option TyD} {md : Nat} {op : Op} {ev ev' : Operand → AV} {lo : List (List AV)} {h : Hp} {K : List (List AV) → Hp → AV → Prop} (he : ∀ x ∈ op.operands.toList, ev x = ev' x) :
    vEff P ty md op ev lo h K = vEff P ty md op ev' lo h K := by
  have hb : ∀ (x : Option Operand) (d : Int), (∀ y, x = some y → ev y = ev' y) → bndE ev x d = bndE ev' x d := fun x d hx => by
    cases x with
    | none => rfl
    | some y => simp only [bndE, hx y rfl]
  cases op <;> simp only [Op.operands, List.mem_cons, List.not_mem_nil, or_false, forall_eq_or_imp, forall_eq] at he <;> simp only [vEff]
  case move x => rw [he]
  case assign x => rw [he]
  case pick p x y => obtain ⟨h1, h2, h3⟩ := he; rw [h1, h2, h3]
  case nilCheck x => rw [he]
  case load t x => rw [he]
  case store t x y => obtain ⟨h1, h2⟩ := he; rw [h1, h2]
  case box t x => rw [he]
  case build t parts =>
    have : (parts.toList.map fun p => (p.1, ev p.2)) = (parts.toList.map fun p => (p.1, ev' p.2)) := List.map_congr_left fun p hp => by rw [he p.2 (List.mem_map.2 ⟨p, hp, rfl⟩)]
    rw [this]
  case buildSlice t n parts =>
    have : (parts.toList.map fun p => ev p.2) = (parts.toList.map fun p => ev' p.2) := List.map_congr_left fun p hp => by rw [he p.2 (List.mem_map.2 ⟨p, hp, rfl⟩)]
    rw [this]
  case binOp b t x y t' => obtain ⟨h1, h2⟩ := he; rw [h1, h2]
  case unOp u t x => cases u <;> simp only [] <;> rw [he]
  case convert a b x => rw [he]
  case slice t x l n m =>
    have hx : ev x = ev' x := he x (by simp)
    have hl : ∀ y, l = some y → ev y = ev' y := fun y e => he y (by simp [e])
    have hn : ∀ y, n = some y → ev y = ev' y := fun y e => he y (by simp [e])
    cases m <;> simp only []
    rw [hx]
    split
    · cases ev' x <;> simp only [cutE, hb _ _ hl, hb _ _ hn]
    · cases ev' x <;> simp only [sliceE, hb _ _ hl, hb _ _ hn]
  case fieldAddr t x f => rw [he]
  case field t x f => rw [he]
  case indexAddr t x i => obtain ⟨h1, h2⟩ := he; rw [h1, h2]
  case makeSlice t x y => obtain ⟨h1, h2⟩ := he; rw [h1, h2]
  case makeMap t hint => cases hint <;> rfl
  case lookup t x k ok => obtain ⟨h1, h2⟩ := he; rw [h1, h2]
  case range t x => rw [he]
  case next it b => cases b <;> simp only [he]
  case entry it => rw [he]
  case mapUpdate t m k x => obtain ⟨h1, h2, h3⟩ := he; rw [h1, h2, h3]
  case insert t m k x => obtain ⟨h1, h2, h3⟩ := he; rw [h1, h2, h3]
  case index t x i => obtain ⟨h1, h2⟩ := he; rw [h1, h2]
  case extract x i => rw [he]
  case makeFunc fn first caps =>
    have hc : caps.toList.map ev = caps.toList.map ev' := List.map_congr_left fun x hx => he x (by simp; exact .inr (by simpa using hx))
    have hc1 : first.toList.map ev = first.toList.map ev' := List.map_congr_left fun x hx => he x (by simp; exact .inl (by simpa using hx))
    cases fn <;> simp only [hc, hc1]
  case call cl =>
    obtain ⟨callee, args, ts⟩ := cl
    have ha : ∀ x ∈ args.toList, ev x = ev' x := fun x hx => he x (by simp [Call.operands]; exact .inr (by simpa using hx))
    cases callee <;> simp only []
    case value f =>
      have hf : ev f = ev' f := he f (by simp [Call.operands])
      rw [hf, List.map_congr_left ha]
    case builtin b =>
      unfold biE
      split
      · rename_i x t hx ht
        have e := ha x (by rw [hx]; simp)
        cases b <;> simp only [e]
      · rename_i x y t u hx ht
        have e := ha x (by rw [hx]; simp)
        have e2 := ha y (by rw [hx]; simp)
        cases b <;> simp only [e, e2]
      · rfl
theorem iBin_mono {op : BinOp} {k : IntKind} {a b : Int} {K K' : AV → Prop} (hk : ∀ x, K x → K' x) (h : iBin op k a b K) : iBin op k a b K' := by
  have ha : ∀ r, arith k r K → arith k r K' := fun r h => by cases k <;> first | exact ⟨h.1, hk _ h.2⟩ | exact hk _ h
  cases op <;> simp only [iBin] at h ⊢ <;> first | exact hk _ h | exact ha _ h | exact ⟨h.1, hk _ h.2⟩ | exact ⟨h.1, ha _ h.2⟩
theorem vBin_mono {op : BinOp} {x y : AV} {K K' : AV → Prop} (hk : ∀ x, K x → K' x) (h : vBin op x y K) : vBin op x y K' := by
  unfold vBin at h ⊢
  split at h
  · exact ⟨h.1, iBin_mono hk h.2⟩
  · cases op <;> simp only [sBin] at h ⊢ <;> first | exact hk _ h | exact ⟨h.1, hk _ h.2⟩
  · cases op <;> simp only at h ⊢ <;> exact hk _ h
  · split at h
    · unfold nBin at h ⊢; split at h <;> first | exact hk _ h | exact h.elim
    · exact h.elim
  · exact h.elim
theorem vEff_mono {P : Program} {ty : Nat → Option TyD} {md : Nat} {op : Op} {ev : Operand → AV} {lo : List (List AV)} {h : Hp} {K K' : List (List AV) → Hp → AV → Prop} (hk : ∀ lo h x, K lo h x → K' lo h x) (hv : vEff P ty md op ev lo h K) :
    vEff P ty md op ev lo h K' := by
  cases op <;> simp only [vEff] at hv ⊢
  case move x => exact hk _ _ _ hv
  case assign x => exact hk _ _ _ hv
  case binOp b t x y t' =>
    split at hv
    · rename_i d hd
      split at hv
      · unfold ptrE at hv ⊢
        split at hv
        · exact ⟨fun e => hk _ _ _ (hv.1 e), hk _ _ _ hv.2⟩
        refine ⟨hv.1, ?_⟩
        have h2 := hv.2
        unfold nBin at h2 ⊢
        split at h2 <;> first | exact hk _ _ _ h2 | exact h2.elim
      unfold binE at hv ⊢
      split at hv
      · refine ⟨hv.1, ?_⟩
        have h2 := hv.2
        unfold nBin at h2 ⊢
        split at h2 <;> first | exact hk _ _ _ h2 | exact h2.elim
      · exact ⟨hv.1, vBin_mono (hk _ _) hv.2⟩
    · exact hv.elim
  case unOp u t x => cases u <;> simp only at hv ⊢ <;> (split at hv) <;> first | exact hk _ _ _ hv | exact ⟨hv.1, hk _ _ _ hv.2⟩ | exact hv.elim
  case alloc t =>
    split at hv
    · split at hv <;> first | exact hk _ _ _ hv | exact fun i hi => hk _ _ _ (hv i hi)
    · exact hv.elim
  case box t x =>
    split at hv
    · split at hv <;> first | exact hk _ _ _ hv | exact fun i hi => hk _ _ _ (hv i hi)
    · exact hv.elim
  case store t x y =>
    split at hv
    · refine ⟨hv.1, ?_⟩
      have h2 := hv.2
      unfold storeE at h2 ⊢
      split at h2
      · split at h2
        · exact ⟨h2.1, hk _ _ _ h2.2⟩
        · exact h2.elim
      · split at h2
        · exact ⟨h2.1, hk _ _ _ h2.2⟩
        · exact ⟨h2.1, hk _ _ _ h2.2⟩
        · exact h2.elim
      · split at h2
        · exact ⟨h2.1, hk _ _ _ h2.2⟩
        · exact h2.elim
      · split at h2
        · exact ⟨h2.1, hk _ _ _ h2.2⟩
        · exact h2.elim
      · exact h2.elim
    · exact hv.elim
  case buildSlice t n parts =>
    split at hv
    · by_cases hmn : md = 1 ∧ n = 0
      · simp only [if_pos hmn] at hv ⊢
        exact ⟨hv.1, fun k hk2 => hk _ _ _ (hv.2 k hk2)⟩
      · by_cases hmn2 : md = 2 ∧ n = 0
        · simp only [if_neg hmn, if_pos hmn2] at hv ⊢
          exact ⟨hv.1, fun k hk2 => hk _ _ _ (hv.2 k hk2)⟩
        · simp only [if_neg hmn, if_neg hmn2] at hv ⊢
          split at hv
          · by_cases hm1 : md = 1
            · rw [if_pos hm1] at hv ⊢
              exact ⟨hv.1, fun k hk2 => hk _ _ _ (hv.2 k hk2)⟩
            · rw [if_neg hm1] at hv ⊢
              exact ⟨hv.1, hk _ _ _ hv.2⟩
          · exact hv.elim
    · exact hv.elim
  case makeSlice t x y =>
    split at hv
    · exact ⟨hv.1, hv.2.1, fun k hk2 => hk _ _ _ (hv.2.2 k hk2)⟩
    · exact hv.elim
  case makeMap t hint =>
    cases hint <;> simp only at hv ⊢
    exact fun i hi => hk _ _ _ (hv i hi)
  case range t x =>
    split at hv
    · unfold rangeE at hv ⊢
      split at hv
      · split at hv
        · exact fun i born clock a b => hk _ _ _ (hv i born clock a b)
        · exact hv.elim
      · exact hv.elim
    · exact hv.elim
  case next it b =>
    cases b <;> simp only at hv ⊢
    unfold nextE at hv ⊢
    split at hv
    · split at hv
      · split at hv
        · exact ⟨hv.1, fun a => hk _ _ _ (hv.2.1 a), fun j a => hk _ _ _ (hv.2.2 j a)⟩
        · exact hv.elim
      · exact hv.elim
    · exact hv.elim
  case entry it =>
    unfold entryE at hv ⊢
    split at hv
    · split at hv
      · split at hv
        · obtain ⟨j, a, b⟩ := hv
          exact ⟨j, a, hk _ _ _ b⟩
        · exact hv.elim
      · exact hv.elim
    · exact hv.elim
  case lookup t x k ok =>
    split at hv
    · unfold lookE at hv ⊢
      split at hv
      · split at hv
        · split at hv <;> exact hk _ _ _ hv
        · exact hv.elim
      · exact hv.elim
    · exact hv.elim
  case mapUpdate t m k x =>
    split at hv
    · unfold updE at hv ⊢
      split at hv
      · split at hv <;> first | exact ⟨hv.1, hk _ _ _ hv.2⟩ | exact hv.elim
      · exact hv.elim
    · exact hv.elim
  case insert t m k x =>
    split at hv
    · unfold updE at hv ⊢
      split at hv
      · split at hv <;> first | exact ⟨hv.1, hk _ _ _ hv.2⟩ | exact hv.elim
      · exact hv.elim
    · exact hv.elim
  case convert a b x =>
    split at hv
    · split at hv
      · unfold convI at hv ⊢
        split at hv <;> first | exact ⟨hv.1, hk _ _ _ hv.2⟩ | exact hk _ _ _ hv
      · exact hv.elim
    · exact hv.elim
  case slice t x l n m =>
    cases m <;> simp only at hv ⊢
    split at hv
    · unfold cutE at hv ⊢
      split at hv
      · split at hv
        · exact ⟨hv.1, fun q hq => hk _ _ _ (hv.2 q hq)⟩
        · exact hv.elim
      · exact hv.elim
    unfold sliceE at hv ⊢
    split at hv
    · split at hv
      · exact ⟨hv.1, hk _ _ _ hv.2⟩
      · exact hv.elim
    · split at hv
      · exact ⟨hv.1, hk _ _ _ hv.2⟩
      · exact hv.elim
    · exact hv.elim
  case makeFunc fn first caps => cases fn <;> simp only at hv ⊢; exact ⟨hv.1, hk _ _ _ hv.2⟩
  case call cl =>
    obtain ⟨callee, args, ts⟩ := cl
    cases callee <;> simp only at hv ⊢
    case value f =>
      split at hv
      · exact ⟨hv.1, hv.2.mono fun r h' hr => hk _ _ _ hr⟩
      · exact ⟨hv.1, hv.2.mono fun r h' hr => hk _ _ _ hr⟩
      · exact hv.elim
    case builtin b =>
      unfold biE at hv ⊢
      split at hv
      · cases b <;> simp only at hv ⊢
        unfold lenE at hv ⊢
        split at hv <;> first | exact ⟨hv.1, hk _ _ _ hv.2⟩ | exact hv.elim
      · cases b <;> simp only at hv ⊢
        case append =>
          rename_i x y t u hx ht
          by_cases htu : t = u
          · simp only [if_pos htu] at hv ⊢
            split at hv
            · unfold appE at hv ⊢
              split at hv
              · split at hv
                · exact ⟨hv.1, hv.2.1, hk _ _ _ hv.2.2⟩
                · exact hv.elim
              · split at hv
                · exact ⟨hv.1, hv.2.1, hk _ _ _ hv.2.2⟩
                · exact hv.elim
              · split at hv
                · exact ⟨hv.1, hv.2.1, fun k hk2 => hk _ _ _ (hv.2.2 k hk2)⟩
                · exact hv.elim
              · exact hv.elim
            · exact hv.elim
          · simp only [if_neg htu] at hv ⊢
            refine ⟨hv.1, ?_⟩
            have h2 := hv.2
            split at h2
            · unfold appS at h2 ⊢
              split at h2
              · split at h2
                · exact ⟨h2.1, h2.2.1, hk _ _ _ h2.2.2⟩
                · exact ⟨h2.1, h2.2.1, hk _ _ _ h2.2.2⟩
                · exact h2.elim
              · exact h2.elim
            · exact h2.elim
        all_goals
          unfold minE at hv ⊢
          split at hv <;> first | exact ⟨hv.1, hk _ _ _ hv.2⟩ | exact hv.elim
      · exact hv.elim
  all_goals first
    | (split at hv <;> first | exact hk _ _ _ hv | exact ⟨hv.1, hk _ _ _ hv.2⟩ | exact hv.elim | (split at hv <;> first | exact hk _ _ _ hv | exact ⟨hv.1, hk _ _ _ hv.2⟩ | exact hv.elim | (split at hv <;> first | exact hk _ _ _ hv | exact hv.elim)))
    | exact hv.elim
def opS (ev : Operand → AV) : List Operand → Prop
  | [] => True
  | x :: xs => uside (ev x) ∧ opS ev xs
theorem opS_mem {ev : Operand → AV} : ∀ {xs : List Operand} (_ : opS ev xs) {x : Operand} (_ : x ∈ xs), uside (ev x)
  | _ :: _, h, x, hx => by
    rcases List.mem_cons.1 hx with rfl | hx
    · exact h.1
    · exact opS_mem h.2 hx
def joinA (b : Bool) (x y : AV) : AV :=
  match x, y with
  | .v (.bool p), .v (.bool q) => .v (.bool (bif b then p else q))
  | .v (.int k m), .v (.int _ n) => .v (.int k (bif b then m else n))
  | .v (.string m), .v (.string n) => .v (.string (bif b then m else n))
  | x, y => bif b then x else y
def joinOk : AV → AV → Prop
  | .v (.int k _), .v (.int k' _) => k = k'
  | _, _ => True
theorem joinA_eq {b : Bool} {x y : AV} (h : joinOk x y) : joinA b x y = bif b then x else y := by
  unfold joinA
  split
  · cases b <;> rfl
  · simp only [joinOk] at h; subst h; cases b <;> rfl
  · cases b <;> rfl
  · rfl
def isOpt : AV → Bool
  | .opt _ _ => true
  | _ => false
def pickE (cnd : Prop) (ev : Operand → AV) (p x y : Operand) (K : AV → Prop) : Prop :=
  match unw (ev p) with
  | .v (.bool b) => (cnd → uside (ev p) ∧ (b = true → uside (ev x)) ∧ (b = false → uside (ev y)) ∧ joinOk (unw (ev x)) (unw (ev y))) ∧ K (joinA b (unw (ev x)) (unw (ev y)))
  | _ => False
def qE (P : Program) (ty : Nat → Option TyD) (op : Op) (ev : Operand → AV) (lo : List (List AV)) (h : Hp) (x : AV) : Prop := vEff P ty 0 op ev lo h fun lo' h' x' => lo' = lo ∧ h' = h ∧ x' = x
def condG (all : Array Oper) (sl : List AV) (j : Nat) (w : Bool) : Option Bool :=
  match (all[j]?).bind (·.dst) with
  | some d => match sl.getD d .junk with
    | .v (.bool b) => some (b == w)
    | .opt c (.v (.bool b)) => some (c && (b == w))
    | .opt false _ => some false
    | .tup [] => some false
    | _ => none
  | none => none
def arV (k : IntKind) (r : Int) : Prop × AV :=
  match k with
  | .i64 => (-9223372036854775808 ≤ r ∧ r ≤ 9223372036854775807, .v (.int .i64 r))
  | k => (True, .v (.int k (k.wrap r)))
def iV (op : BinOp) (k : IntKind) (a b : Int) : Option (Prop × AV) :=
  match op with
  | .add => some (arV k (a + b))
  | .sub => some (arV k (a - b))
  | .mul => some (arV k (a * b))
  | .rem => some (b ≠ 0, .v (.int k (a.tmod b)))
  | .eql => some (True, .v (.bool (a == b)))
  | .neq => some (True, .v (.bool (a != b)))
  | .lss => some (True, .v (.bool (decide (a < b))))
  | .leq => some (True, .v (.bool (decide (a ≤ b))))
  | .gtr => some (True, .v (.bool (decide (b < a))))
  | .geq => some (True, .v (.bool (decide (b ≤ a))))
  | _ => none
def sV (op : BinOp) (a b : ByteArray) : Option (Prop × AV) :=
  match op with
  | .eql => some (True, .v (.bool (a == b)))
  | .neq => some (True, .v (.bool (!(a == b))))
  | .lss => some (True, .v (.bool (Op.bytesLess a.toList b.toList)))
  | .leq => some (True, .v (.bool (Op.bytesLess a.toList b.toList || (a == b))))
  | .gtr => some (True, .v (.bool (!(Op.bytesLess a.toList b.toList || (a == b)))))
  | .geq => some (True, .v (.bool (!Op.bytesLess a.toList b.toList)))
  | _ => none
def bV (op : BinOp) (a b : Bool) : Option (Prop × AV) :=
  match op with
  | .eql => some (True, .v (.bool (a == b)))
  | .neq => some (True, .v (.bool (!(a == b))))
  | _ => none
def nV (op : BinOp) (b : Bool) : Option (Prop × AV) :=
  match op with
  | .eql => some (True, .v (.bool b))
  | .neq => some (True, .v (.bool (!b)))
  | _ => none
def vV (op : BinOp) (x y : AV) : Option (Prop × AV) :=
  match x, y with
  | .v (.int k a), .v (.int k' b) => match iV op k a b with
    | some (p, r) => some (k = k' ∧ p, r)
    | none => none
  | .v (.string a), .v (.string b) => sV op a b
  | .v (.bool a), .v (.bool b) => bV op a b
  | .agg cs, .agg ds => match eqL cs ds with
    | some b => nV op b
    | none => none
  | _, _ => none
def binV (d : TyD) (op : BinOp) (x y : AV) : Option (Prop × AV) :=
  match nilOf d.kind x, nilOf d.kind y with
  | some a, some b => match nV op (a && b) with
    | some (p, r) => some ((a || b) = true ∧ p, r)
    | none => none
  | _, _ => match vV op x y with
    | some (p, r) => some (boolOk d x = true ∧ p, r)
    | none => none
def qV (ty : Nat → Option TyD) (op : Op) (ev : Operand → AV) (lo : List (List AV)) (h : Hp) : Option (Prop × AV) :=
  match op with
  | .move x | .assign x => some (True, ev x)
  | .nilCheck x => some ((ev x).isAddr = true, ev x)
  | .load t x => match ty t, cellsAt lo h (ev x) with
    | some d, some (cs, off) => some (ldOk d cs off, ld d cs off)
    | _, _ => none
  | .box _ x => match (ev x).cellsB with
    | some cs => some (True, .ref cs 0)
    | none => none
  | .binOp b t x y _ => match ty t with
    | some d => binV d b (ev x) (ev y)
    | none => none
  | .unOp .not _ x => match ev x with
    | .v (.bool b) => some (True, .v (.bool (!b)))
    | _ => none
  | .fieldAddr t x f => match fdd ty t f with
    | some (off, e) => some (e.size ≠ 0 ∧ (ev x).isAddr = true, (ev x).shift off)
    | none => none
  | .field t x f => match fdd ty t f, ev x with
    | some (off, e), .agg cs => some (ldOk e cs off, ld e cs off)
    | _, _ => none
  | .indexAddr t x i => match elemD ty t, ev x, ev i with
    | some e, .row z xs _, .v (.int _ n) => some (0 ≤ n ∧ n < xs.length ∧ z = e.size, .ref (xs.getD n.toNat []) 0)
    | some e, .arr z k m, .v (.int _ n) => some (0 ≤ n ∧ n < m ∧ z = e.size, .eptr k m n.toNat 0)
    | _, _, _ => none
  | .index t x i => match ev x, ev i with
    | .v (.string b), .v (.int _ n) => some (isStr ty t = true ∧ 0 ≤ n ∧ n < b.size, .v (.int .u8 ((b.data.toList.getD n.toNat 0).toNat : Int)))
    | _, _ => none
  | .extract x i => match ev x with
    | .tup vs => some (i < vs.length, vs.getD i .junk)
    | _ => none
  | .call c => match c.callee, c.args.toList, c.argTypes.toList with
    | .builtin .len, [x], [t] => match ev x with
      | .row _ xs _ => some ((elemD ty t).isSome = true, .v (.int .i64 xs.length))
      | .v (.string b) => some (isStr ty t = true, .v (.int .i64 b.size))
      | .arr _ _ n => some ((elemD ty t).isSome = true, .v (.int .i64 n))
      | .v (.slice none 0 0) => some ((elemD ty t).isSome = true, .v (.int .i64 0))
      | _ => none
    | .builtin .min, [x, y], [_, _] => match ev x, ev y with
      | .v (.int k m), .v (.int k' n) => some (k = k', .v (.int k (min m n)))
      | _, _ => none
    | .builtin .max, [x, y], [_, _] => match ev x, ev y with
      | .v (.int k m), .v (.int k' n) => some (k = k', .v (.int k (max m n)))
      | _, _ => none
    | _, _, _ => none
  | .makeFunc fn first caps => match fn with
    | .func f => some ((first.size = 0 ∨ caps.size = 0) ∧ (caps.toList.map ev).all AV.noLoc = true ∧ (first.toList.map ev).all AV.noLoc = true, fnE f (first.toList.map ev) (caps.toList.map ev))
    | _ => none
  | _ => none
def isCallV : Op → Bool
  | .call { callee := .value _, .. } => true
  | _ => false
def gStep (P : Program) (ty : Nat → Option TyD) (md : Option Tmp → Nat) (all : Array Oper) (o : Oper) (sl : List AV) (lo : List (List AV)) (h : Hp) (K : List (List AV) → Hp → AV → Prop) : Prop :=
  match o.guard with
  | none => match o.op with
    | .pick p x y => pickE True (evL sl) p x y (K lo h)
    | op => opS (evL sl) (opsOf op) ∧ vEff P ty (md o.dst) op (fun x => unw (evL sl x)) lo h K
  | some (j, w) => match condG all sl j w with
    | none => False
    | some cnd => match o.op with
      | .pick p x y => pickE (cnd = true) (evL sl) p x y (fun x => isOpt x = false ∧ K lo h (.opt cnd x))
      | op => match isCallV op with
        | true => (cnd = true → opS (evL sl) (opsOf op) ∧ vEff P ty 0 op (fun x => unw (evL sl x)) lo h fun lo' h' x => isOpt x = false ∧ K lo' h' (.opt true x)) ∧ (cnd = false → K lo h (.opt false (.v (.bool false))))
        | false => match qV ty op (fun x => unw (evL sl x)) lo h with
        | some (p, x) => (cnd = true → opS (evL sl) (opsOf op) ∧ p) ∧ isOpt x = false ∧ K lo h (.opt cnd x)
        | none => ∃ x, (cnd = true → opS (evL sl) (opsOf op) ∧ qE P ty op (fun x => unw (evL sl x)) lo h x) ∧ isOpt x = false ∧ K lo h (.opt cnd x)
theorem arV_sound {k : IntKind} {r : Int} (h : (arV k r).1) : arith k r (fun x => x = (arV k r).2) := by
  cases k <;> first | exact ⟨h, rfl⟩ | exact rfl
theorem vV_sound {op : BinOp} {x y : AV} {p : Prop} {r : AV} (h : vV op x y = some (p, r)) (hp : p) : vBin op x y (fun z => z = r) := by
  unfold vV at h
  split at h
  · rename_i k a k' b
    cases hi : iV op k a b with
    | none => rw [hi] at h; cases h
    | some q =>
      obtain ⟨q, r'⟩ := q
      rw [hi] at h
      simp only [Option.some.injEq, Prod.mk.injEq] at h
      obtain ⟨rfl, rfl⟩ := h
      refine ⟨hp.1, ?_⟩
      have hq := hp.2
      cases op <;> simp only [iV, Option.some.injEq, Prod.mk.injEq, reduceCtorEq] at hi
      case add => have h2 := arV_sound (k := k) (r := a + b) (by rw [hi]; exact hq); rw [hi] at h2; exact h2
      case sub => have h2 := arV_sound (k := k) (r := a - b) (by rw [hi]; exact hq); rw [hi] at h2; exact h2
      case mul => have h2 := arV_sound (k := k) (r := a * b) (by rw [hi]; exact hq); rw [hi] at h2; exact h2
      case rem => obtain ⟨rfl, rfl⟩ := hi; exact ⟨hq, rfl⟩
      all_goals (obtain ⟨_, rfl⟩ := hi; exact rfl)
  · cases op <;> simp only [sV, Option.some.injEq, Prod.mk.injEq, reduceCtorEq] at h <;> (obtain ⟨_, rfl⟩ := h; exact rfl)
  · cases op <;> simp only [bV, Option.some.injEq, Prod.mk.injEq, reduceCtorEq] at h <;> (obtain ⟨_, rfl⟩ := h; exact rfl)
  · split at h
    · rename_i b hb
      show (match eqL _ _ with | some b => nBin op b (fun z => z = r) | none => False)
      rw [hb]
      cases op <;> simp only [nV, Option.some.injEq, Prod.mk.injEq, reduceCtorEq] at h <;> (obtain ⟨_, rfl⟩ := h; exact rfl)
    · cases h
  · cases h
theorem qV_sound {P : Program} {ty : Nat → Option TyD} {op : Op} {ev : Operand → AV} {lo : List (List AV)} {h : Hp} {p : Prop} {x : AV} (hq : qV ty op ev lo h = some (p, x)) (hp : p) : qE P ty op ev lo h x := by
  unfold qE
  cases op <;> simp only [qV, reduceCtorEq, Option.some.injEq, Prod.mk.injEq] at hq <;> simp only [vEff, true_and]
  case move y => exact hq.2
  case assign y => exact hq.2
  case nilCheck y =>
    obtain ⟨rfl, rfl⟩ := hq
    split
    · rename_i f cs hf; exact hf.symm
    · exact ⟨hp, rfl⟩
  case load t y =>
    split at hq
    · rename_i d cs off hd hc
      simp only [Option.some.injEq, Prod.mk.injEq] at hq
      obtain ⟨rfl, rfl⟩ := hq
      rw [hd, hc]; exact ⟨hp, rfl⟩
    · cases hq
  case box t y =>
    split at hq
    · rename_i cs hc
      simp only [Option.some.injEq, Prod.mk.injEq] at hq
      obtain ⟨_, rfl⟩ := hq
      rw [hc]
    · cases hq
  case binOp b t y z t' =>
    split at hq
    · rename_i d hd
      rw [hd]
      simp only
      unfold binV at hq
      unfold binE
      split at hq
      · rename_i u v hu hv
        rw [hu, hv]
        simp only
        split at hq
        · rename_i q r hn
          simp only [Option.some.injEq, Prod.mk.injEq] at hq
          obtain ⟨rfl, rfl⟩ := hq
          refine ⟨hp.1, ?_⟩
          cases b <;> simp only [nV, Option.some.injEq, Prod.mk.injEq, reduceCtorEq] at hn <;> (obtain ⟨_, rfl⟩ := hn; exact rfl)
        · cases hq
      · rename_i hno
        split at hq
        · rename_i q r hv
          simp only [Option.some.injEq, Prod.mk.injEq] at hq
          obtain ⟨rfl, rfl⟩ := hq
          have h2 := vV_sound hv hp.2
          split
          · rename_i u v hu hvv; exact absurd hvv (hno u v hu)
          · refine ⟨hp.1, ?_⟩
            exact h2
        · cases hq
    · cases hq
  case unOp u t y =>
    cases u <;> simp only [reduceCtorEq] at hq ⊢
    split at hq
    · rename_i b hb
      simp only [Option.some.injEq, Prod.mk.injEq] at hq
      obtain ⟨_, rfl⟩ := hq
      rw [hb]
    · cases hq
  case fieldAddr t y f =>
    split at hq
    · rename_i off e hf
      simp only [Option.some.injEq, Prod.mk.injEq] at hq
      obtain ⟨rfl, rfl⟩ := hq
      rw [hf]; exact ⟨hp, rfl⟩
    · cases hq
  case field t y f =>
    split at hq
    · rename_i off e cs hf hy
      simp only [Option.some.injEq, Prod.mk.injEq] at hq
      obtain ⟨rfl, rfl⟩ := hq
      rw [hf, hy]; exact ⟨hp, rfl⟩
    · cases hq
  case indexAddr t y i =>
    split at hq
    · rename_i e z xs tk k n he hy hn
      simp only [Option.some.injEq, Prod.mk.injEq] at hq
      obtain ⟨rfl, rfl⟩ := hq
      rw [he, hy, hn]; exact ⟨hp, rfl⟩
    · rename_i e z k m kk n he hy hn
      simp only [Option.some.injEq, Prod.mk.injEq] at hq
      obtain ⟨rfl, rfl⟩ := hq
      rw [he, hy, hn]; exact ⟨hp, rfl⟩
    · cases hq
  case index t y i =>
    split at hq
    · rename_i b k n hy hn
      simp only [Option.some.injEq, Prod.mk.injEq] at hq
      obtain ⟨rfl, rfl⟩ := hq
      rw [hy, hn]; exact ⟨hp, rfl⟩
    · cases hq
  case extract y i =>
    split at hq
    · rename_i vs hy
      simp only [Option.some.injEq, Prod.mk.injEq] at hq
      obtain ⟨rfl, rfl⟩ := hq
      rw [hy]; exact ⟨hp, rfl⟩
    · cases hq
  case makeFunc fn first caps =>
    cases fn <;> simp only [Option.some.injEq, Prod.mk.injEq, reduceCtorEq] at hq ⊢
    obtain ⟨rfl, rfl⟩ := hq
    exact ⟨hp, by simp⟩
  case call cl =>
    obtain ⟨callee, args, ts⟩ := cl
    simp only at hq ⊢
    split at hq
    · rename_i y t ha ht
      rw [ha, ht]
      simp only [biE]
      split at hq
      · rename_i z xs tk hy
        simp only [Option.some.injEq, Prod.mk.injEq] at hq
        obtain ⟨rfl, rfl⟩ := hq
        rw [hy]; exact ⟨hp, trivial, rfl⟩
      · rename_i b hy
        simp only [Option.some.injEq, Prod.mk.injEq] at hq
        obtain ⟨rfl, rfl⟩ := hq
        rw [hy]; exact ⟨hp, trivial, rfl⟩
      · rename_i z k n hy
        simp only [Option.some.injEq, Prod.mk.injEq] at hq
        obtain ⟨rfl, rfl⟩ := hq
        rw [hy]; exact ⟨hp, trivial, rfl⟩
      · rename_i hy
        simp only [Option.some.injEq, Prod.mk.injEq] at hq
        obtain ⟨rfl, rfl⟩ := hq
        rw [hy]; exact ⟨hp, trivial, rfl⟩
      · cases hq
    · rename_i y z t u ha ht
      rw [ha, ht]
      simp only [biE]
      split at hq
      · rename_i k m k' n hy hz
        simp only [Option.some.injEq, Prod.mk.injEq] at hq
        obtain ⟨rfl, rfl⟩ := hq
        rw [hy, hz]; exact ⟨hp, by first | exact ⟨rfl, rfl, rfl⟩ | exact ⟨trivial, rfl⟩⟩
      · cases hq
    · rename_i y z t u ha ht
      rw [ha, ht]
      simp only [biE]
      split at hq
      · rename_i k m k' n hy hz
        simp only [Option.some.injEq, Prod.mk.injEq] at hq
        obtain ⟨rfl, rfl⟩ := hq
        rw [hy, hz]; exact ⟨hp, by first | exact ⟨rfl, rfl, rfl⟩ | exact ⟨trivial, rfl⟩⟩
      · cases hq
    · cases hq
section
variable {P : Program} {c : Cx} {ty : Nat → Option TyD} {md : Option Tmp → Nat} {all : Array Oper}
theorem condG_sound {G : Gh} {L : List Nat} {s : St} {a : Act} {w : World} (sm : Sim G L s a w) {j : Nat} {wt b : Bool} (h : condG all s.sl j wt = some b) : (yielded all a.tmps j == some wt) = b := by
  unfold condG at h
  unfold yielded
  split at h
  · rename_i d hd
    rw [hd]
    simp only [Option.bind_some]
    by_cases hlt : d < s.sl.length
    · have hr := sm.sl d hlt
      rw [List.getD_eq_getElem?_getD, List.getElem?_eq_getElem hlt] at h
      simp only [Option.getD_some] at h
      have hts : d < a.tmps.size := Nat.lt_of_lt_of_le hlt sm.sz
      have e : a.tmps[d]? = some (a.tmps.getD d undef) := by simp [Array.getElem?_eq_getElem hts]
      rw [e]
      generalize a.tmps.getD d undef = v at hr
      split at h <;> simp only [Option.some.injEq, reduceCtorEq] at h
      · rename_i q hb
        rw [hb] at hr
        cases hr.v_inv
        subst h
        rfl
      · rename_i cc q hb
        rw [hb] at hr
        subst h
        cases cc with
        | true =>
          have h0 : RepT0 G L (.v (.bool q)) v := hr.1 rfl
          cases (show Rep G (.v (.bool q)) v from h0) with
          | v _ _ => simp
        | false =>
          rw [hr.2 rfl]; rfl
      · rename_i hb
        rw [hb] at hr
        subst h
        rw [hr.2 rfl]; rfl
      · rename_i hb
        rw [hb] at hr
        have hr' : Rep G (.tup []) v := hr
        subst h
        cases hr' with
        | tup _ vs u hl hu hrr => rfl
    · rw [List.getD_eq_getElem?_getD, List.getElem?_eq_none (Nat.le_of_not_lt hlt)] at h
      simp at h
  · cases h
def unB : AV → AV
  | .opt true x => x
  | a => a
theorem Sim.unB {G : Gh} {L : List Nat} {s : St} {a : Act} {w : World} (sm : Sim G L s a w) : Sim G L { s with sl := s.sl.map unB } a w := by
  refine ⟨sm.hs, by simpa using sm.sz, fun t ht => ?_, sm.df, sm.ls⟩
  have ht' : t < s.sl.length := by simpa using ht
  have h := sm.sl t ht'
  simp only [List.getElem_map]
  generalize s.sl[t] = x at h
  unfold Go.Proofs.YtpnfkfbapfnboaaGreatDoor.unB
  split
  · exact (h.1 rfl).of
  · exact h
theorem evL_unB {sl : List AV} {x : Operand} (h : uside (evL sl x)) : unw (evL sl x) = evL (sl.map unB) x := by
  cases x with
  | tmp t =>
    simp only [evL, List.getD_eq_getElem?_getD, List.getElem?_map] at h ⊢
    cases hs : sl[t]? with
    | none => rfl
    | some y =>
      rw [hs] at h
      simp only [Option.getD_some, Option.map_some] at h ⊢
      cases y <;> first | rfl | (simp only [uside] at h; subst h; rfl)
  | const x =>
    simp only [evL] at h ⊢
    cases x <;> first | rfl | (simp only [cv]; split <;> rfl)
  | _ => rfl
theorem Sim.okOpt {G : Gh} {L : List Nat} {s : St} {a : Act} {w : World} (sm : Sim G L s a w) {t : Nat} {y : AV} (h : s.sl[t]? = some (.opt true y)) : isOpt y = false := by
  obtain ⟨ht, e⟩ := List.getElem?_eq_some_iff.1 h
  have h0 := sm.sl t ht
  rw [e] at h0
  have h1 := h0.1 rfl
  cases y <;> first | rfl | cases (show Rep G (.opt _ _) _ from h1)
theorem unB_back {G' : Gh} {L' : List Nat} {x : AV} {v' : Value} (h0 : ∀ y, x = .opt true y → isOpt y = false) (h : RepT G' L' (Go.Proofs.YtpnfkfbapfnboaaGreatDoor.unB x) v') : RepT G' L' x v' := by
  unfold Go.Proofs.YtpnfkfbapfnboaaGreatDoor.unB at h
  split at h
  · rename_i y
    refine RepT.opt (fun _ => h) (fun e => by cases e) (fun c d e => ?_)
    have := h0 y rfl
    subst e
    cases this
  · exact h
theorem In.rewrap {sl : List AV} (hok : ∀ (t : Nat) y, sl[t]? = some (.opt true y) → isOpt y = false) {d : Option Tmp} {x : AV} {lo : List (List AV)} {h : Hp} {a : Act} {w : World}
    (hi : In c (({ sl := sl.map unB, lo := lo, h := h } : St).put d x) a w) : In c (({ sl := sl, lo := lo, h := h } : St).put d x) a w := by
  obtain ⟨G, L, sm, hg, hf, hL⟩ := hi
  cases d with
  | none =>
    refine ⟨G, L, ⟨sm.hs, by simpa [St.put] using sm.sz, fun t ht => ?_, sm.df, sm.ls⟩, hg, hf, hL⟩
    have ht' : t < sl.length := ht
    have h0 := sm.sl t (by simpa [St.put] using ht')
    simp only [St.put, List.getElem_map] at h0 ⊢
    exact unB_back (fun y e => hok t y (by rw [List.getElem?_eq_getElem ht', e])) h0
  | some d =>
    refine ⟨G, L, ⟨sm.hs, by simpa [St.put] using sm.sz, fun t ht => ?_, sm.df, sm.ls⟩, hg, hf, hL⟩
    have ht' : t < sl.length := by simpa only [St.put, List.length_set] using ht
    have h0 := sm.sl t (by simpa [St.put] using ht')
    simp only [St.put, List.getElem_set, List.getElem_map] at h0 ⊢
    by_cases e : d = t
    · rw [if_pos e] at h0 ⊢; exact h0
    · rw [if_neg e] at h0 ⊢
      exact unB_back (fun y e => hok t y (by rw [List.getElem?_eq_getElem ht', e])) h0
theorem In.wrap {s : St} {d : Option Tmp} {x : AV} (hx : isOpt x = false) {a : Act} {w : World} (hi : In c (s.put d x) a w) : In c (s.put d (.opt true x)) a w := by
  obtain ⟨G, L, sm, hg, hf, hL⟩ := hi
  cases d with
  | none => exact ⟨G, L, sm, hg, hf, hL⟩
  | some d =>
    refine ⟨G, L, ⟨sm.hs, by simpa [St.put] using sm.sz, fun t ht => ?_, sm.df, sm.ls⟩, hg, hf, hL⟩
    have ht' : t < s.sl.length := by simpa only [St.put, List.length_set] using ht
    have h0 := sm.sl t (by simpa [St.put] using ht')
    simp only [St.put, List.getElem_set] at h0 ⊢
    by_cases e : d = t
    · rw [if_pos e] at h0 ⊢
      exact RepT.opt (fun _ => h0) (fun e => by cases e) (fun c d e => by subst e; cases hx)
    · rw [if_neg e] at h0 ⊢; exact h0
theorem vEff_run (hty : TyOk P ty) {mdn : Nat} {o : Oper} {s : St} {K : List (List AV) → Hp → AV → Prop} (hops : opS (evL s.sl) (opsOf o.op)) (h : vEff P ty mdn o.op (fun x => unw (evL s.sl x)) s.lo s.h K) {a : Act} {w : World} (hi : In c s a w)
    {Kc : Act → World → Prop} {Q : Exit → Act → World → Prop} (hk : ∀ lo' h' x a' w', K lo' h' x → In c (({ sl := s.sl, lo := lo', h := h' } : St).put o.dst x) a' w' → Kc a' w') : o.wp P a w Kc Q := by
  obtain ⟨G, L, sm, hg, hf, hL⟩ := id hi
  have hok : ∀ (t : Nat) y, s.sl[t]? = some (.opt true y) → isOpt y = false := fun t y => sm.okOpt
  have hi' : In c { s with sl := s.sl.map Go.Proofs.YtpnfkfbapfnboaaGreatDoor.unB } a w := ⟨G, L, sm.unB, hg, hf, hL⟩
  rw [vEff_congr (ev' := evL (s.sl.map Go.Proofs.YtpnfkfbapfnboaaGreatDoor.unB)) (fun x hx => evL_unB (opS_mem hops (opsOf_mem hx)))] at h
  have hv : vEff P ty mdn o.op (St.ev { s with sl := s.sl.map Go.Proofs.YtpnfkfbapfnboaaGreatDoor.unB }) s.lo s.h (eK { s with sl := s.sl.map Go.Proofs.YtpnfkfbapfnboaaGreatDoor.unB } o (fun st => ∃ x, K st.lo st.h x ∧ st = ({ sl := s.sl.map Go.Proofs.YtpnfkfbapfnboaaGreatDoor.unB, lo := st.lo, h := st.h } : St).put o.dst x)) := by
    have e : (eK { s with sl := s.sl.map Go.Proofs.YtpnfkfbapfnboaaGreatDoor.unB } o (fun st => ∃ x, K st.lo st.h x ∧ st = ({ sl := s.sl.map Go.Proofs.YtpnfkfbapfnboaaGreatDoor.unB, lo := st.lo, h := st.h } : St).put o.dst x)) = fun lo' h' x => ∃ x', K lo' h' x' ∧ ({ sl := s.sl.map Go.Proofs.YtpnfkfbapfnboaaGreatDoor.unB, lo := lo', h := h' } : St).put o.dst x = ({ sl := s.sl.map Go.Proofs.YtpnfkfbapfnboaaGreatDoor.unB, lo := lo', h := h' } : St).put o.dst x' := by
      funext lo' h' x
      unfold eK
      cases o.dst <;> rfl
    rw [e]
    exact vEff_mono (fun lo' h' x hx => ⟨x, hx, rfl⟩) h
  refine vEff_sound (c := c) hty hv a w hi' Kc Q fun s' a' w' ⟨x, hK, e⟩ hi2 => ?_
  rw [e] at hi2
  exact hk _ _ x a' w' hK (In.rewrap hok hi2)
theorem pick_run {o : Oper} {s : St} {p x y : Operand} (hop : o.op = .pick p x y) {cnd : Prop} (hc : cnd) {K : AV → Prop} (h : pickE cnd (evL s.sl) p x y K) {a : Act} {w : World} (hi : In c s a w)
    {Kc : Act → World → Prop} {Q : Exit → Act → World → Prop} (hk : ∀ z a' w', K z → In c (s.put o.dst z) a' w' → Kc a' w') : o.wp P a w Kc Q := by
  obtain ⟨G, L, sm, hg, hf, hL⟩ := id hi
  unfold pickE at h
  split at h
  · rename_i b hb
    obtain ⟨hs, hK⟩ := h
    obtain ⟨h1, h2, h3, h4⟩ := hs hc
    have hp := (sm.ev p).unw h1
    have hb' : Go.Proofs.YtpnfkfbapfnboaaGreatDoor.unw (s.ev p) = .v (.bool b) := hb
    rw [hb'] at hp
    have e := hp.v_inv
    rw [joinA_eq h4] at hK
    cases b with
    | true =>
      have hx := (sm.ev x).unw (h2 rfl)
      have hrun : (execOp a.eval o).run P w = .ok (.value (a.eval x)) w := by simp [execOp, hop, e, asBool]
      unfold Oper.wp
      rw [hrun]
      exact hk _ _ _ hK (In.put sm hg hf hL o.dst hx)
    | false =>
      have hy := (sm.ev y).unw (h3 rfl)
      have hrun : (execOp a.eval o).run P w = .ok (.value (a.eval y)) w := by simp [execOp, hop, e, asBool]
      unfold Oper.wp
      rw [hrun]
      exact hk _ _ _ hK (In.put sm hg hf hL o.dst hy)
  · exact h.elim
theorem skip_opt {s : St} {a : Act} {w : World} (hi : In c s a w) (d : Option Tmp) (x : AV) : In c (s.put d (.opt false x)) (a.put d undef) w := by
  obtain ⟨G, L, sm, hg, hf, hL⟩ := hi
  exact In.put sm hg hf hL d (⟨fun e => (by cases e), fun _ => rfl⟩ : RepT G L (.opt false x) undef)
theorem gStep_sound (hty : TyOk P ty) {o : Oper} {s : St} {K : List (List AV) → Hp → AV → Prop} (h : gStep P ty md all o s.sl s.lo s.h K) {a : Act} {w : World} (hi : In c s a w) {Kc : Act → World → Prop} {Q : Exit → Act → World → Prop}
    (hk : ∀ lo' h' x a' w', K lo' h' x → In c (({ sl := s.sl, lo := lo', h := h' } : St).put o.dst x) a' w' → Kc a' w') :
    if Region.wanted o (yielded all a.tmps) then o.wp P a w Kc Q else Kc (a.put o.dst undef) w := by
  obtain ⟨G, L, sm, hg, hf, hL⟩ := id hi
  unfold gStep at h
  split at h
  · rename_i hgd
    simp only [Region.wanted, hgd, if_true]
    split at h
    · rename_i p x y hop
      exact pick_run hop trivial h hi fun z a' w' hz hi' => hk _ _ z a' w' hz hi'
    · exact vEff_run hty h.1 h.2 hi hk
  · rename_i j wt hgd
    simp only [Region.wanted, hgd]
    split at h
    · exact h.elim
    · rename_i cnd hcnd
      rw [condG_sound sm hcnd]
      split at h
      · rename_i p x y hop
        cases cnd with
        | true =>
          simp only [if_true]
          exact pick_run hop rfl h hi fun z a' w' hz hi' => hk _ _ _ a' w' hz.2 (In.wrap hz.1 hi')
        | false =>
          simp only [Bool.false_eq_true, if_false]
          unfold pickE at h
          split at h
          · exact hk _ _ _ _ _ h.2.2 (skip_opt hi o.dst _)
          · exact h.elim
      · cases hcv : isCallV o.op with
        | true =>
          simp only [hcv, cond_true] at h
          cases cnd with
          | true =>
            simp only [if_true]
            obtain ⟨h4, h5⟩ := h.1 rfl
            exact vEff_run hty h4 h5 hi fun lo' h' z a' w' hz hi' => hk _ _ _ a' w' hz.2 (In.wrap (s := { sl := s.sl, lo := lo', h := h' }) hz.1 hi')
          | false =>
            simp only [Bool.false_eq_true, if_false]
            exact hk _ _ _ _ _ (h.2 rfl) (skip_opt hi o.dst _)
        | false =>
        simp only [hcv, cond_false] at h
        split at h
        · rename_i p x hq
          obtain ⟨h1, h2, h3⟩ := h
          cases cnd with
          | true =>
            simp only [if_true]
            obtain ⟨h4, h5⟩ := h1 rfl
            refine vEff_run hty h4 (qV_sound (P := P) hq h5) hi fun lo' h' z a' w' hz hi' => ?_
            obtain ⟨rfl, rfl, rfl⟩ := hz
            exact hk _ _ _ a' w' h3 (In.wrap h2 hi')
          | false =>
            simp only [Bool.false_eq_true, if_false]
            exact hk _ _ _ _ _ h3 (skip_opt hi o.dst _)
        · obtain ⟨x, h1, h2, h3⟩ := h
          cases cnd with
          | true =>
            simp only [if_true]
            obtain ⟨h4, h5⟩ := h1 rfl
            refine vEff_run hty h4 h5 hi fun lo' h' z a' w' hz hi' => ?_
            obtain ⟨rfl, rfl, rfl⟩ := hz
            exact hk _ _ _ a' w' h3 (In.wrap h2 hi')
          | false =>
            simp only [Bool.false_eq_true, if_false]
            exact hk _ _ _ _ _ h3 (skip_opt hi o.dst _)
def vOps (P : Program) (ty : Nat → Option TyD) (md : Option Tmp → Nat) (all : Array Oper) : List Oper → St → (St → Prop) → Prop
  | [], s, K => K s
  | o :: r, s, K => gStep P ty md all o s.sl s.lo s.h fun lo' h' x => vOps P ty md all r (({ sl := s.sl, lo := lo', h := h' } : St).put o.dst x) K
theorem vOps_sound (hty : TyOk P ty) {Qc : Exit → Act → World → Prop} : ∀ (l : List Oper) {s : St} {K : St → Prop} (_ : vOps P ty md all l s K) {a : Act} {w : World} (_ : In c s a w) (_ : ∀ s' a' w', K s' → In c s' a' w' → Qc .normal a' w'), wpList P all Qc l a w
  | [], s, K, h, a, w, hi, hk => hk s a w h hi
  | o :: r, s, K, h, a, w, hi, hk => by
    have := gStep_sound (c := c) hty h hi (Kc := wpList P all Qc r) (Q := Qc) (fun lo' h' x a' w' h' hi' => vOps_sound hty r h' hi' hk)
    unfold wpList
    split
    · rename_i hw; rw [if_pos hw] at this; exact .inl this
    · rename_i hw; rw [if_neg hw] at this; exact this
theorem awp_region (hty : TyOk P ty) {id : Nat} {Q : Exit → St → Prop} {s : St} (md : Option Tmp → Nat) (h : ∀ K : St → Prop, (∀ s', Q .normal s' → K s') → vOps P ty md all all.toList s K) : Awp P c (.region id all false) Q s := by
  intro a w hi
  exact wp_region_list (vOps_sound hty _ (h _ (fun _ h => h)) hi fun s' a' w' h' hi' => ⟨s', h', hi'⟩)
end
end Go.Proofs.YtpnfkfbapfnboaaGreatDoor

