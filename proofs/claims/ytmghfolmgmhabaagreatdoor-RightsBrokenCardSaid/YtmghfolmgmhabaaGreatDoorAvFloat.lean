/- What an operation does while one more own object is told than there is. -/
import Derived.Test.YtmghfolmgmhabaaGreatDoorAvDraw2
namespace Go.Proofs.YtmghfolmgmhabaaGreatDoor
open Go
set_option linter.unusedVariables false
set_option linter.unusedSimpArgs false
theorem vEff_monoL {P : Program} {ty : Nat → Option TyD} {md : Nat} {op : Op} {ev : Operand → AV} {lo : List (List AV)} {h : Hp} {K K' : List (List AV) → Hp → AV → Prop} (hal : ∀ t, op = .alloc t → md = 2) (hbx : ∀ t x, op = .box t x → md ≠ 1) (hk : ∀ lo' h x, lo'.length = lo.length → K lo' h x → K' lo' h x) (hv : vEff P ty md op ev lo h K) :
    vEff P ty md op ev lo h K' := by
  cases op <;> simp only [vEff] at hv ⊢
  case move x => exact hk _ _ _ rfl hv
  case assign x => exact hk _ _ _ rfl hv
  case binOp b t x y t' =>
    split at hv
    · rename_i d hd
      split at hv
      · unfold ptrE at hv ⊢
        split at hv
        · exact ⟨fun e => hk _ _ _ rfl (hv.1 e), hk _ _ _ rfl hv.2⟩
        refine ⟨hv.1, ?_⟩
        have h2 := hv.2
        unfold nBin at h2 ⊢
        split at h2 <;> first | exact hk _ _ _ rfl h2 | exact h2.elim
      unfold binE at hv ⊢
      split at hv
      · refine ⟨hv.1, ?_⟩
        have h2 := hv.2
        unfold nBin at h2 ⊢
        split at h2 <;> first | exact hk _ _ _ rfl h2 | exact h2.elim
      · exact ⟨hv.1, vBin_mono (fun x hx => hk _ _ x rfl hx) hv.2⟩
    · exact hv.elim
  case unOp u t x => cases u <;> simp only at hv ⊢ <;> (split at hv) <;> first | exact hk _ _ _ rfl hv | exact ⟨hv.1, hk _ _ _ rfl hv.2⟩ | exact hv.elim
  case alloc t =>
    cases hal t rfl
    split at hv
    · exact fun i hi => hk _ _ _ rfl (hv i hi)
    · exact hv.elim
  case box t x =>
    split at hv
    · split at hv
      · exact hk _ _ _ rfl hv
      · exact absurd rfl (hbx t x rfl)
      · exact fun i hi => hk _ _ _ rfl (hv i hi)
    · exact hv.elim
  case store t x y =>
    split at hv
    · refine ⟨hv.1, ?_⟩
      have h2 := hv.2
      unfold storeE at h2 ⊢
      split at h2
      · split at h2
        · exact ⟨h2.1, hk _ _ _ (by simp) h2.2⟩
        · exact h2.elim
      · split at h2
        · exact ⟨h2.1, hk _ _ _ rfl h2.2⟩
        · exact ⟨h2.1, hk _ _ _ rfl h2.2⟩
        · exact h2.elim
      · split at h2
        · exact ⟨h2.1, hk _ _ _ rfl h2.2⟩
        · exact h2.elim
      · split at h2
        · exact ⟨h2.1, hk _ _ _ rfl h2.2⟩
        · exact h2.elim
      · exact h2.elim
    · exact hv.elim
  case buildSlice t n parts =>
    split at hv
    · by_cases hmn : md = 1 ∧ n = 0
      · simp only [if_pos hmn] at hv ⊢
        exact ⟨hv.1, fun k hk2 => hk _ _ _ rfl (hv.2 k hk2)⟩
      · by_cases hmn2 : md = 2 ∧ n = 0
        · simp only [if_neg hmn, if_pos hmn2] at hv ⊢
          exact ⟨hv.1, fun k hk2 => hk _ _ _ rfl (hv.2 k hk2)⟩
        · simp only [if_neg hmn, if_neg hmn2] at hv ⊢
          split at hv
          · by_cases hm1 : md = 1
            · rw [if_pos hm1] at hv ⊢
              exact ⟨hv.1, fun k hk2 => hk _ _ _ rfl (hv.2 k hk2)⟩
            · rw [if_neg hm1] at hv ⊢
              exact ⟨hv.1, hk _ _ _ rfl hv.2⟩
          · exact hv.elim
    · exact hv.elim
  case makeSlice t x y =>
    split at hv
    · exact ⟨hv.1, hv.2.1, fun k hk2 => hk _ _ _ rfl (hv.2.2 k hk2)⟩
    · exact hv.elim
  case makeMap t hint =>
    cases hint <;> simp only at hv ⊢
    exact fun i hi => hk _ _ _ rfl (hv i hi)
  case range t x =>
    split at hv
    · unfold rangeE at hv ⊢
      split at hv
      · split at hv
        · exact fun i born clock a b => hk _ _ _ rfl (hv i born clock a b)
        · exact hv.elim
      · exact hv.elim
    · exact hv.elim
  case next it b =>
    cases b <;> simp only at hv ⊢
    unfold nextE at hv ⊢
    split at hv
    · split at hv
      · split at hv
        · exact ⟨hv.1, fun a => hk _ _ _ rfl (hv.2.1 a), fun j a => hk _ _ _ rfl (hv.2.2 j a)⟩
        · exact hv.elim
      · exact hv.elim
    · exact hv.elim
  case entry it =>
    unfold entryE at hv ⊢
    split at hv
    · split at hv
      · split at hv
        · obtain ⟨j, a, b⟩ := hv
          exact ⟨j, a, hk _ _ _ rfl b⟩
        · exact hv.elim
      · exact hv.elim
    · exact hv.elim
  case lookup t x k ok =>
    split at hv
    · unfold lookE at hv ⊢
      split at hv
      · split at hv
        · split at hv <;> exact hk _ _ _ rfl hv
        · exact hv.elim
      · exact hv.elim
    · exact hv.elim
  case mapUpdate t m k x =>
    split at hv
    · unfold updE at hv ⊢
      split at hv
      · split at hv <;> first | exact ⟨hv.1, hk _ _ _ rfl hv.2⟩ | exact hv.elim
      · exact hv.elim
    · exact hv.elim
  case insert t m k x =>
    split at hv
    · unfold updE at hv ⊢
      split at hv
      · split at hv <;> first | exact ⟨hv.1, hk _ _ _ rfl hv.2⟩ | exact hv.elim
      · exact hv.elim
    · exact hv.elim
  case convert a b x =>
    split at hv
    · split at hv
      · unfold convI at hv ⊢
        split at hv <;> first | exact ⟨hv.1, hk _ _ _ rfl hv.2⟩ | exact hk _ _ _ rfl hv
      · exact hv.elim
    · exact hv.elim
  case slice t x l n m =>
    cases m <;> simp only at hv ⊢
    split at hv
    · unfold cutE at hv ⊢
      split at hv
      · split at hv
        · exact ⟨hv.1, fun q hq => hk _ _ _ rfl (hv.2 q hq)⟩
        · exact hv.elim
      · exact hv.elim
    unfold sliceE at hv ⊢
    split at hv
    · split at hv
      · exact ⟨hv.1, hk _ _ _ rfl hv.2⟩
      · exact hv.elim
    · split at hv
      · exact ⟨hv.1, hk _ _ _ rfl hv.2⟩
      · exact hv.elim
    · exact hv.elim
  case makeFunc fn first caps => cases fn <;> simp only at hv ⊢; exact ⟨hv.1, hk _ _ _ rfl hv.2⟩
  case call cl =>
    obtain ⟨callee, args, ts⟩ := cl
    cases callee <;> simp only at hv ⊢
    case value f =>
      split at hv
      · exact ⟨hv.1, hv.2.mono fun r h' hr => hk _ _ _ rfl hr⟩
      · exact ⟨hv.1, hv.2.mono fun r h' hr => hk _ _ _ rfl hr⟩
      · exact hv.elim
    case builtin b =>
      unfold biE at hv ⊢
      split at hv
      · cases b <;> simp only at hv ⊢
        unfold lenE at hv ⊢
        split at hv <;> first | exact ⟨hv.1, hk _ _ _ rfl hv.2⟩ | exact hv.elim
      · cases b <;> simp only at hv ⊢
        case append =>
          rename_i x y t u hx ht
          by_cases htu : t = u
          · simp only [if_pos htu] at hv ⊢
            split at hv
            · unfold appE at hv ⊢
              split at hv
              · split at hv
                · exact ⟨hv.1, hv.2.1, hk _ _ _ rfl hv.2.2⟩
                · exact hv.elim
              · split at hv
                · exact ⟨hv.1, hv.2.1, hk _ _ _ rfl hv.2.2⟩
                · exact hv.elim
              · split at hv
                · exact ⟨hv.1, hv.2.1, fun k hk2 => hk _ _ _ rfl (hv.2.2 k hk2)⟩
                · exact hv.elim
              · exact hv.elim
            · exact hv.elim
          · simp only [if_neg htu] at hv ⊢
            refine ⟨hv.1, ?_⟩
            have h2 := hv.2
            split at h2
            · unfold appS at h2 ⊢
              split at h2
              · split at h2
                · exact ⟨h2.1, h2.2.1, hk _ _ _ rfl h2.2.2⟩
                · exact ⟨h2.1, h2.2.1, hk _ _ _ rfl h2.2.2⟩
                · exact h2.elim
              · exact h2.elim
            · exact h2.elim
        all_goals
          unfold minE at hv ⊢
          split at hv <;> first | exact ⟨hv.1, hk _ _ _ rfl hv.2⟩ | exact hv.elim
      · exact hv.elim
  all_goals first
    | (split at hv <;> first | exact hk _ _ _ rfl hv | exact ⟨hv.1, hk _ _ _ rfl hv.2⟩ | exact hv.elim | (split at hv <;> first | exact hk _ _ _ rfl hv | exact ⟨hv.1, hk _ _ _ rfl hv.2⟩ | exact hv.elim | (split at hv <;> first | exact hk _ _ _ rfl hv | exact hv.elim)))
    | exact hv.elim
section
variable {P : Program} {ty : Nat → Option TyD} {md : Option Tmp → Nat} {all : Array Oper} {lo : List (List AV)} {z : List AV} {h : Hp}
def locIn (n : Nat) : AV → Prop
  | .loc j _ => j < n
  | _ => True
theorem cellsAt_frame {x : AV} (hx : locIn lo.length x) : cellsAt (lo ++ [z]) h x = cellsAt lo h x := by
  cases x <;> first | rfl | (simp only [cellsAt]; rw [List.getElem?_append_left hx])
theorem vEff_frame {m : Nat} {op : Op} {ev : Operand → AV} {K : List (List AV) → Hp → AV → Prop} (hloc : ∀ x ∈ op.operands.toList, locIn lo.length (ev x)) (hal : ∀ t, op = .alloc t → m = 2) (hbx : ∀ t x, op = .box t x → m ≠ 1)
    (hv : vEff P ty m op ev (lo ++ [z]) h K) : vEff P ty m op ev lo h fun lo' h' x => K (lo' ++ [z]) h' x := by
  cases op <;> simp only [vEff] at hv ⊢ <;> try exact hv
  case unOp u t x => cases u <;> exact hv
  case makeFunc f a b => cases f <;> exact hv
  case slice t x l n mx => cases mx <;> exact hv
  case makeMap t hint => cases hint <;> exact hv
  case load t x =>
    rw [cellsAt_frame (hloc x (by simp [Op.operands]))] at hv
    exact hv
  case store t x y =>
    have hx := hloc x (by simp [Op.operands])
    split at hv
    · refine ⟨hv.1, ?_⟩
      have h2 := hv.2
      unfold storeE at h2 ⊢
      cases hex : ev x <;> rw [hex] at h2 hx <;> simp only at h2 ⊢ <;> try exact h2
      rename_i j off
      rw [List.getElem?_append_left hx] at h2
      split at h2
      · rw [List.set_append_left _ _ hx] at h2; exact h2
      · exact h2.elim
    · exact hv.elim
  case alloc t =>
    cases hal t rfl
    exact hv
  case box t x =>
    split at hv
    · split at hv
      · exact hv
      · exact absurd rfl (hbx t x rfl)
      · rename_i h0 h1
        exact hv
    · exact hv
variable {c : Cx}
theorem In.locs {s : St} {a : Act} {w : World} (hi : In c s a w) {x : Operand} (hu : uside (evL s.sl x)) : locIn s.lo.length (unw (evL s.sl x)) := by
  obtain ⟨G, L, sm, _, _, _⟩ := hi
  have h := (sm.ev x).unw hu
  have e : s.ev x = evL s.sl x := rfl
  rw [e] at h
  generalize Go.Proofs.YtmghfolmgmhabaaGreatDoor.unw (evL s.sl x) = y at h
  cases y <;> first | trivial | skip
  obtain ⟨b, hb, _⟩ := h
  have := (List.getElem?_eq_some_iff.1 hb).1
  show _ < s.lo.length
  rw [← sm.ls.len]; exact this
def floatOk (md : Option Tmp → Nat) (o : Oper) : Prop := (∀ t, o.op = .alloc t → o.guard = none ∧ md o.dst = 2) ∧ ∀ t x, o.op = .box t x → o.guard = none → md o.dst ≠ 1
theorem vEff_runF (hty : TyOk P ty) {mdn : Nat} {o : Oper} {s : St} {K : List (List AV) → Hp → AV → Prop} (hal : ∀ t, o.op = .alloc t → mdn = 2) (hbx : ∀ t x, o.op = .box t x → mdn ≠ 1) (hops : opS (evL s.sl) (opsOf o.op)) (h : vEff P ty mdn o.op (fun x => unw (evL s.sl x)) (s.lo ++ [z]) s.h K) {a : Act} {w : World} (hi : In c s a w)
    {Kc : Act → World → Prop} {Q : Exit → Act → World → Prop} (hk : ∀ lo' h' x a' w', lo'.length = s.lo.length → K (lo' ++ [z]) h' x → In c (({ sl := s.sl, lo := lo', h := h' } : St).put o.dst x) a' w' → Kc a' w') : o.wp P a w Kc Q :=
  vEff_run hty hops (vEff_monoL hal hbx (K' := fun lo' h' x => lo'.length = s.lo.length ∧ K (lo' ++ [z]) h' x) (fun _ _ _ hl hx => ⟨hl, hx⟩) (vEff_frame (fun x hx => hi.locs (opS_mem hops (opsOf_mem hx))) hal hbx h)) hi fun lo' h' x a' w' hx hi' => hk lo' h' x a' w' hx.1 hx.2 hi'
theorem gStep_soundF (hty : TyOk P ty) {o : Oper} {s : St} {K : List (List AV) → Hp → AV → Prop} (hf : floatOk md o) (h : gStep P ty md all o s.sl (s.lo ++ [z]) s.h K) {a : Act} {w : World} (hi : In c s a w) {Kc : Act → World → Prop} {Q : Exit → Act → World → Prop}
    (hk : ∀ lo' h' x a' w', lo'.length = s.lo.length → K (lo' ++ [z]) h' x → In c (({ sl := s.sl, lo := lo', h := h' } : St).put o.dst x) a' w' → Kc a' w') :
    if Region.wanted o (yielded all a.tmps) then o.wp P a w Kc Q else Kc (a.put o.dst undef) w := by
  obtain ⟨G, L, sm, hg, hfr, hL⟩ := id hi
  unfold gStep at h
  split at h
  · rename_i hgd
    simp only [Region.wanted, hgd, if_true]
    split at h
    · rename_i p x y hop
      exact pick_run hop trivial h hi fun z' a' w' hz hi' => hk _ _ z' a' w' rfl hz hi'
    · exact vEff_runF hty (fun t e => (hf.1 t e).2) (fun t x e => hf.2 t x e hgd) h.1 h.2 hi hk
  · rename_i j wt hgd
    simp only [Region.wanted, hgd]
    have hal : ∀ t, o.op = .alloc t → (0 : Nat) = 2 := fun t e => by have := (hf.1 t e).1; rw [hgd] at this; cases this
    have hbx : ∀ t x, o.op = .box t x → (0 : Nat) ≠ 1 := fun _ _ _ => by decide
    split at h
    · exact h.elim
    · rename_i cnd hcnd
      rw [condG_sound sm hcnd]
      split at h
      · rename_i p x y hop
        cases cnd with
        | true =>
          simp only [if_true]
          exact pick_run hop rfl h hi fun z' a' w' hz hi' => hk _ _ _ a' w' rfl hz.2 (In.wrap hz.1 hi')
        | false =>
          simp only [Bool.false_eq_true, if_false]
          unfold pickE at h
          split at h
          · exact hk _ _ _ _ _ rfl h.2.2 (skip_opt hi o.dst _)
          · exact h.elim
      · cases hcv : isCallV o.op with
        | true =>
          simp only [hcv, cond_true] at h
          cases cnd with
          | true =>
            simp only [if_true]
            obtain ⟨h4, h5⟩ := h.1 rfl
            exact vEff_runF hty hal hbx h4 h5 hi fun lo' h' z' a' w' hlen hz hi' => hk _ _ _ a' w' hlen hz.2 (In.wrap (s := { sl := s.sl, lo := lo', h := h' }) hz.1 hi')
          | false =>
            simp only [Bool.false_eq_true, if_false]
            exact hk _ _ _ _ _ rfl (h.2 rfl) (skip_opt hi o.dst _)
        | false =>
        simp only [hcv, cond_false] at h
        split at h
        · rename_i p x hq
          obtain ⟨h1, h2, h3⟩ := h
          cases cnd with
          | true =>
            simp only [if_true]
            obtain ⟨h4, h5⟩ := h1 rfl
            refine vEff_runF hty hal hbx h4 (qV_sound (P := P) hq h5) hi fun lo' h' z' a' w' hlen hz hi' => ?_
            obtain ⟨e1, rfl, rfl⟩ := hz
            cases List.append_cancel_right e1
            exact hk _ _ _ a' w' rfl h3 (In.wrap h2 hi')
          | false =>
            simp only [Bool.false_eq_true, if_false]
            exact hk _ _ _ _ _ rfl h3 (skip_opt hi o.dst _)
        · obtain ⟨x, h1, h2, h3⟩ := h
          cases cnd with
          | true =>
            simp only [if_true]
            obtain ⟨h4, h5⟩ := h1 rfl
            refine vEff_runF hty hal hbx h4 h5 hi fun lo' h' z' a' w' hlen hz hi' => ?_
            obtain ⟨e1, rfl, rfl⟩ := hz
            cases List.append_cancel_right e1
            exact hk _ _ _ a' w' rfl h3 (In.wrap h2 hi')
          | false =>
            simp only [Bool.false_eq_true, if_false]
            exact hk _ _ _ _ _ rfl h3 (skip_opt hi o.dst _)
end
end Go.Proofs.YtmghfolmgmhabaaGreatDoor

