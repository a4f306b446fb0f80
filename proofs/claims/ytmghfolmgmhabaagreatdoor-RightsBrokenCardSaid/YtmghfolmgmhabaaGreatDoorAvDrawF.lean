/- Regions that draw their order, with one own object made at any time. -/
import Derived.Test.YtmghfolmgmhabaaGreatDoorAvDraw5
import Derived.Test.YtmghfolmgmhabaaGreatDoorAvFloat
namespace Go.Proofs.YtmghfolmgmhabaaGreatDoor
open Go
set_option linter.unusedVariables false
set_option linter.unusedSimpArgs false
section
variable {P : Program} {ty : Nat → Option TyD} {md : Option Tmp → Nat} {all : Array Oper} {c : Cx}
theorem draw_goF (hty : TyOk P ty) {f d0 : Nat} {z : List AV} (hfd : dstOf all f = some d0) (hfn : f < all.size) (hF : ∀ (i : Nat) o, all[i]? = some o → i ≠ f → floatOk md o) {A louds : List Nat} {n : Nat} (hA : okAnc all A = true) (hd : dstsOk all n = true) (hr : readsOk all A louds = true) {K : St → Prop} {Qq : Exit → Act → World → Prop} (hk : ∀ s' a' w', K s' → In c s' a' w' → Qq .normal a' w') (hfl : f ∉ louds)
    (hfrun : ∀ (s : St) (a : Act) (w : World) (Kc : Act → World → Prop), In c s a w → (∀ a' w', In c (({ sl := s.sl, lo := s.lo ++ [z], h := s.h } : St).put (some d0) (.loc s.lo.length 0)) a' w' → Kc a' w') → wpOp P all Qq f Kc a w) :
    ∀ (fuel : Nat) (listed : Array Bool) (prev : List Nat) (r : List (Nat × List Nat × List Nat)) (S s' : St) (a : Act) (w : World),
      (List.range all.size).countP (fun i => !listed.getD i false) ≤ fuel → listed.size = all.size → ClosedX all (fun i => listed.getD i false) → planOk md all A prev r = true →
      (∀ i ∈ prev, quietI md all i = true ∧ i ∉ louds) → (∀ i ∈ allR r, i < all.size) → (∀ p ∈ r, p.1 ∈ louds ∧ ∀ i ∈ p.2.2, i ∉ louds) → (prev ++ allR r).Nodup →
      (∀ i, i < all.size → listed.getD i false = true ∨ i ∈ prev ∨ i ∈ allR r ∨ i = f) → f ∉ prev ++ allR r → listed.getD f false = false → (∀ i ∈ allR r, listed.getD i false = false) →
      (∀ i ∈ prev, listed.getD i false = false → Val P ty md all i S) →
      s'.lo ++ [z] = S.lo → S.sl.getD d0 .junk = .loc s'.lo.length 0 → s'.h = S.h → s'.sl.length = n → S.sl.length = n → (∀ t, t ≠ d0 → (∀ i ∈ prev, listed.getD i false = false → dstOf all i ≠ some t) → s'.sl.getD t .junk = S.sl.getD t .junk) →
      vRest P ty md all r S K → In c s' a w → wpAny P .any all Qq fuel listed a w := by
  intro fuel
  have rdone : ∀ (listed : Array Bool), listed.size = all.size → Region.ready .any all listed = [] → ∀ i, i < all.size → listed.getD i false = true := by
    intro listed hsz hrd i
    induction i using Nat.strongRecOn with
    | _ i ih =>
      intro hi
      cases hX : listed.getD i false with
      | true => rfl
      | false =>
        have : i ∈ Region.ready .any all listed := mem_ready.2 ⟨by
          have his : i < listed.size := by omega
          simp [his] at hX ⊢; exact hX, all[i], Array.getElem?_eq_getElem hi, fun e he hb => by
          have hlt := okAnc_edge hA (Array.getElem?_eq_getElem hi) e he hb
          exact ih e.on hlt (by omega)⟩
        rw [hrd] at this; cases this
  induction fuel with
  | zero =>
    intro listed prev r S s' a w hcnt hsz hcl hplan hpq hrn hpl hnd hcov hfm hfX
    have h0 := List.countP_eq_zero.1 (Nat.le_zero.1 hcnt) f (List.mem_range.2 hfn)
    rw [hfX] at h0; simp at h0
  | succ fuel ih =>
    intro listed prev r S s' a w hcnt hsz hcl hplan hpq hrn hpl hnd hcov hfm hfX hno hval e1 ed e2 l1 l2 hrel hrest hin
    refine ⟨fun hrd => (by rw [rdone listed hsz hrd f hfn] at hfX; cases hfX), fun i hi => ?_⟩
    obtain ⟨h0, o, ho, hdeps⟩ := mem_ready.1 hi
    have hin' := (Array.getElem?_eq_some_iff.1 ho).1
    have hXi : listed.getD i false = false := by
      have his : i < listed.size := by omega
      simp [his] at h0 ⊢; exact h0
    have hanc : ∀ k, k < all.size → bit A k i = true → listed.getD k false = true := fun k hk hb => anc_listed hA hcl hk i ho hdeps hb
    have hX' : ∀ k, (listed.setIfInBounds i true).getD k false = if k = i then true else listed.getD k false := fun k => by
      by_cases e : k = i
      · subst e
        have hks : k < listed.size := by omega
        simp [hks]
      · rw [if_neg e, getD_set_ne false (Ne.symm e)]
    have hsz' : (listed.setIfInBounds i true).size = all.size := by simpa using hsz
    have hcnt' : (List.range all.size).countP (fun k => !(listed.setIfInBounds i true).getD k false) ≤ fuel := by
      have := countP_lt (p := fun k => !listed.getD k false) (q := fun k => !(listed.setIfInBounds i true).getD k false) (i := i) (l := List.range all.size) (fun k _ hk => by
        rw [hX'] at hk
        by_cases e : k = i
        · rw [if_pos e] at hk; cases hk
        · rw [if_neg e] at hk; exact hk) (List.mem_range.2 hin') (by rw [hXi]; rfl) (by rw [hX', if_pos rfl]; rfl)
      omega
    have hcl' : ClosedX all (fun k => (listed.setIfInBounds i true).getD k false) := by
      intro j oj hoj hj e he hb
      have hj' : (listed.setIfInBounds i true).getD j false = true := hj
      show (listed.setIfInBounds i true).getD e.on false = true
      rw [hX'] at hj' ⊢
      by_cases ee : e.on = i
      · rw [if_pos ee]
      · rw [if_neg ee]
        by_cases ej : j = i
        · subst ej; rw [ho] at hoj; cases hoj
          exact hdeps e he hb
        · rw [if_neg ej] at hj'
          exact hcl j oj hoj hj' e he hb
    -- what it looks at is told as in S
    have hlook : ∀ t ∈ readsOf all o, s'.sl.getD t .junk = S.sl.getD t .junk := fun t ht => hrel t (fun et => by
      subst et
      rcases (readsOk_spec hr ho hfd ht).2 with hb | ⟨_, hl⟩
      · rw [hanc f hfn hb] at hfX; cases hfX
      · exact hfl hl) fun k hk hXk e => by
      have hkn : k < all.size := by
        have hq := (hpq k hk).1
        unfold quietI at hq
        cases hok : all[k]? with
        | none => rw [hok] at hq; cases hq
        | some ok => exact (Array.getElem?_eq_some_iff.1 hok).1
      rcases (readsOk_spec hr ho e ht).2 with hb | ⟨_, hl⟩
      · rw [hanc k hkn hb] at hXk; cases hXk
      · exact (hpq k hk).2 hl
    by_cases hif : i = f
    · subst hif
      refine hfrun s' a w _ hin fun a' w' hi2 => ?_
      have hdn := dst_lt hd hfd
      have hfm2 : i ∉ prev ∧ i ∉ allR r := ⟨fun h => hfm (List.mem_append_left _ h), fun h => hfm (List.mem_append_right _ h)⟩
      refine draw_go hty hA hd hr hk fuel _ prev r S (({ sl := s'.sl, lo := s'.lo ++ [z], h := s'.h } : St).put (some d0) (.loc s'.lo.length 0)) a' w' hcnt' hsz' hcl' hplan hpq hrn hpl hnd (fun k hk => ?_) (fun k hk => ?_) (fun k hk hXk => ?_) e1 e2 (by simpa [St.put] using l1) l2 (fun t ht => ?_) hrest hi2
      · rcases hcov k hk with h | h | h | h
        · left; rw [hX']; split <;> first | rfl | exact h
        · exact .inr (.inl h)
        · exact .inr (.inr h)
        · left; rw [hX', if_pos h]
      · rw [hX', if_neg (fun e : k = i => hfm2.2 (e ▸ hk))]
        exact hno k hk
      · rw [hX', if_neg (fun e : k = i => hfm2.1 (e ▸ hk))] at hXk
        exact hval k hk hXk
      · simp only [St.put]
        by_cases e : d0 = t
        · subst e
          rw [getD_set_self (by rw [l1]; exact hdn), ed]
        · rw [getD_set_other e]
          refine hrel t (fun e' => e e'.symm) fun k hk hXk => ht k hk ?_
          rw [hX', if_neg (fun e : k = i => hfm2.1 (e ▸ hk))]; exact hXk
    have hXf : (listed.setIfInBounds i true).getD f false = false := by rw [hX', if_neg (fun e => hif e.symm)]; exact hfX
    have run : ∀ (K' : List (List AV) → Hp → AV → Prop), gStep P ty md all o S.sl S.lo S.h K' → ∀ (Kc : Act → World → Prop), (∀ lo' h' x a' w', lo'.length = s'.lo.length → K' (lo' ++ [z]) h' x → In c (({ sl := s'.sl, lo := lo', h := h' } : St).put o.dst x) a' w' → Kc a' w') → wpOp P all Qq i Kc a w := by
      intro K' hg Kc hkc
      rw [gStep_congr (sl' := s'.sl) (fun t ht => (hlook t ht).symm), ← e1, ← e2] at hg
      have := gStep_soundF (c := c) hty (hF i o ho hif) hg hin (Kc := Kc) (Q := Qq) hkc
      unfold wpOp
      rw [ho]
      simp only
      split
      · rename_i hw; rw [if_pos hw] at this; exact .inl this
      · rename_i hw; rw [if_neg hw] at this; exact this
    by_cases hip : i ∈ prev
    · -- a quiet one, whose value is known
      obtain ⟨o', d, ho', hdd, hg⟩ := hval i hip hXi
      rw [ho] at ho'; cases ho'
      have hdi : dstOf all i = some d := by simp [dstOf, ho, hdd]
      have hdn := dst_lt hd hdi
      have hdd0 : d ≠ d0 := fun e => hif (dst_inj hd hdi (e ▸ hfd))
      refine run _ hg _ fun lo' h' x a' w' _ hx hi2 => ?_
      obtain ⟨e5, rfl, rfl⟩ := hx
      rw [← e1] at e5
      cases List.append_cancel_right e5
      rw [hdd] at hi2
      refine ih _ prev r S (({ sl := s'.sl, lo := s'.lo, h := S.h } : St).put (some d) (S.sl.getD d .junk)) a' w' hcnt' hsz' hcl' hplan hpq hrn hpl hnd (fun k hk => ?_) hfm hXf (fun k hk => ?_) (fun k hk hXk => ?_) e1 ed rfl (by simpa [St.put] using l1) l2 (fun t ht0 ht => ?_) hrest hi2
      · rcases hcov k hk with h | h
        · left; rw [hX']; split <;> first | rfl | exact h
        · exact .inr h
      · rw [hX', if_neg]
        · exact hno k hk
        · rintro rfl
          exact (List.nodup_append.1 hnd).2.2 k hip k hk rfl
      · rw [hX'] at hXk
        split at hXk
        · cases hXk
        · exact hval k hk hXk
      · simp only [St.put]
        by_cases e : d = t
        · subst e
          rw [getD_set_self (by rw [l1]; exact hdn)]
        · rw [getD_set_other e]
          refine hrel t ht0 fun k hk hXk ek => ?_
          by_cases eki : k = i
          · subst eki; rw [hdi] at ek; cases ek; exact e rfl
          · exact ht k hk (by rw [hX', if_neg eki]; exact hXk) ek
    · -- a loud one
      have hir : i ∈ allR r := by
        rcases hcov i hin' with h | h | h | h
        · rw [hXi] at h; cases h
        · exact absurd h hip
        · exact h
        · exact absurd h hif
      cases r with
      | nil => simp [allR] at hir
      | cons p r =>
        obtain ⟨l, R, E⟩ := p
        simp only [planOk, Bool.and_eq_true, List.all_eq_true] at hplan
        obtain ⟨⟨⟨⟨⟨⟨hsE, hpA⟩, hrl⟩, hEl⟩, hEq⟩, hre⟩, hplan'⟩ := hplan
        have hlm : l ∈ allR ((l, R, E) :: r) := by simp [allR]
        have hln := hrn l hlm
        have hlX := hno l hlm
        have hil : i = l := by
          rcases (by simpa [allR] using hir : i = l ∨ i ∈ E ∨ ∃ a b c, (a, b, c) ∈ r ∧ (i = a ∨ i ∈ c)) with h | h | ⟨q1, q2, q3, hq, h⟩
          · exact h
          · have := hanc l hln (hEl i (List.mem_append_left _ h))
            rw [hlX] at this; cases this
          · rcases h with rfl | h
            · have := hanc l hln (hrl (i, q2, q3) hq)
              rw [hlX] at this; cases this
            · have := hanc l hln (hEl i (List.mem_append_right _ (List.mem_flatMap.2 ⟨(q1, q2, q3), hq, h⟩)))
              rw [hlX] at this; cases this
        subst hil
        have hEn : ∀ k ∈ E, k < all.size ∧ k ∉ louds := fun k hk => ⟨hrn k (by simp [allR, hk]), (hpl (i, R, E) (by simp)).2 k hk⟩
        have hnd1 := List.nodup_append.1 hnd
        have hndR : (i :: (E ++ allR r)).Nodup := by simpa [allR] using hnd1.2.1
        simp only [vRest, stepI, ho] at hrest
        refine run _ hrest _ fun lo9 h' x a' w' hlen9 hx hi2 => ?_
        obtain ⟨lo', hlo'⟩ : ∃ lo', lo' = lo9 ++ [z] := ⟨_, rfl⟩
        rw [← hlo'] at hx
        obtain ⟨hreL, hidx⟩ := hx
        -- the state told behind it
        have hl2' : ((({ sl := S.sl, lo := lo', h := h' } : St).put o.dst x)).sl.length = n := by cases o.dst <;> simpa [St.put] using l2
        obtain ⟨s3, hK3, hlo3, hh3, hl3, hv3, hkeep3⟩ := vIdx_quiet hA hd hr E _ (List.all_eq_true.2 hEq) (sortedB_spec hsE) hEn hl2' hidx
        have hlo2 : ((({ sl := S.sl, lo := lo', h := h' } : St).put o.dst x)).lo = lo' := by cases o.dst <;> rfl
        have hh2 : ((({ sl := S.sl, lo := lo', h := h' } : St).put o.dst x)).h = h' := by cases o.dst <;> rfl
        have hget2 : ∀ t, dstOf all i ≠ some t → ((({ sl := S.sl, lo := lo', h := h' } : St).put o.dst x)).sl.getD t .junk = S.sl.getD t .junk := fun t ht => by
          cases hdo : o.dst with
          | none => rfl
          | some d =>
            simp only [St.put]
            exact getD_set_other fun e => ht (by simp [dstOf, ho, hdo, e])
        have hE0 : ∀ k ∈ E, listed.getD k false = false := fun k hk => hno k (by simp [allR, hk])
        refine ih _ (prev ++ E) r s3 _ a' w' hcnt' hsz' hcl' hplan' (fun k hk => ?_) (fun k hk => hrn k (by simp [allR] at hk ⊢; exact .inr (.inr hk))) (fun q hq => hpl q (List.mem_cons_of_mem _ hq)) ?_ (fun k hk => ?_) (fun hm => hfm ?_) hXf (fun k hk => ?_) (fun k hk hXk => ?_) ?_ ?_ ?_ ?_ hl3 (fun t ht0 ht => ?_) hK3 hi2
        · rcases List.mem_append.1 hk with h | h
          · exact hpq k h
          · exact ⟨hEq k h, (hEn k h).2⟩
        · have h3 : (prev ++ (E ++ allR r)).Nodup := List.nodup_append.2 ⟨hnd1.1, (List.nodup_cons.1 hndR).2, fun x hx y hy => hnd1.2.2 x hx y (by
            simp only [allR, List.flatMap_cons, List.cons_append, List.mem_cons]; exact .inr hy)⟩
          rwa [← List.append_assoc] at h3
        · rw [hX']
          rcases hcov k hk with h | h | h | h
          · left; split <;> first | rfl | exact h
          · exact .inr (.inl (List.mem_append_left _ h))
          · rcases (by simpa [allR] using h : k = i ∨ k ∈ E ∨ ∃ a b c, (a, b, c) ∈ r ∧ (k = a ∨ k ∈ c)) with h | h | h
            · left; rw [if_pos h]
            · exact .inr (.inl (List.mem_append_right _ h))
            · exact .inr (.inr (.inl (by simpa [allR] using h)))
          · exact .inr (.inr (.inr h))
        · simp only [allR, List.flatMap_cons, List.cons_append, List.mem_append, List.mem_cons] at hm ⊢
          rcases hm with (h | h) | h
          · exact .inl h
          · exact .inr (.inr (.inl h))
          · exact .inr (.inr (.inr h))
        · rw [hX', if_neg]
          · exact hno k (by simp only [allR, List.flatMap_cons, List.cons_append, List.mem_cons]; exact .inr (List.mem_append_right _ hk))
          · rintro rfl
            exact (List.nodup_cons.1 hndR).1 (List.mem_append_right _ hk)
        · rcases List.mem_append.1 hk with hkp | hkE
          · -- told before the loud one
            have hki : k ≠ i := fun e => hip (e ▸ hkp)
            rw [hX', if_neg hki] at hXk
            have hV := hval k hkp hXk
            have hnb : bit A k i = false := by
              cases hb : bit A k i with
              | false => rfl
              | true => 
                have hkn : k < all.size := by
                  obtain ⟨ok, _, hok, _⟩ := hV
                  exact (Array.getElem?_eq_some_iff.1 hok).1
                rw [hanc k hkn hb] at hXk; cases hXk
            have hpk := hpA k hkp
            simp only [Bool.and_eq_true, Bool.not_eq_true', List.all_eq_true] at hpk
            have hdk : ∀ d, dstOf all k = some d → dstOf all i ≠ some d ∧ ∀ q ∈ E, dstOf all q ≠ some d := fun d hdk => ⟨fun e => hki (dst_inj hd hdk e), fun q hq e => hnd1.2.2 k hkp q (by simp [allR, hq]) (dst_inj hd hdk e)⟩
            have hrd : ∀ ok t, all[k]? = some ok → t ∈ readsOf all ok → dstOf all i ≠ some t ∧ ∀ q ∈ E, dstOf all q ≠ some t := fun ok t hok ht => by
              refine ⟨fun e => ?_, fun q hq e => ?_⟩
              · rcases (readsOk_spec hr hok e ht).2 with hb | ⟨hb, _⟩
                · rw [hpk.1] at hb; cases hb
                · rw [hnb] at hb; cases hb
              · rcases (readsOk_spec hr hok e ht).2 with hb | ⟨_, hl⟩
                · rw [hpk.2 q hq] at hb; cases hb
                · exact (hEn q hq).2 hl
            have hgetd : ∀ t, dstOf all i ≠ some t ∧ (∀ q ∈ E, dstOf all q ≠ some t) → s3.sl.getD t .junk = S.sl.getD t .junk := fun t ht => (hkeep3 t ht.2).trans (hget2 t ht.1)
            obtain ⟨ok, dk, hok, hdok, hgk⟩ := id hV
            by_cases hread : isRead ok = false
            · exact Val.move (n := n) hr hV (hpq k hkp).1 (.inl ⟨ok, hok, hread⟩) (fun o2 t ho2 ht => hgetd t (hrd o2 t ho2 ht)) (fun d hd' => hgetd d (hdk d hd')) rfl
            · have hR : k ∈ R := by
                have h2 := hre k hkp
                rw [hok] at h2
                simp only [Bool.or_eq_true, List.contains_eq_mem, decide_eq_true_eq, Bool.not_eq_true'] at h2
                rw [hnb] at h2
                rcases h2 with (h2 | h2) | h2
                · cases h2
                · exact h2
                · exact absurd h2 hread
              have hre2 := reL_mem hreL hR
              unfold reI at hre2
              rw [hok] at hre2
              simp only [hdok] at hre2
              have hV2 : Val P ty md all k (({ sl := S.sl, lo := lo', h := h' } : St).put o.dst x) := ⟨ok, dk, hok, hdok, hre2⟩
              exact Val.move (n := n) hr hV2 (hpq k hkp).1 (.inr ⟨hlo3, hh3⟩) (fun o2 t ho2 ht => hkeep3 t (hrd o2 t ho2 ht).2) (fun d hd' => hkeep3 d (hdk d hd').2) rfl
          · exact hv3 k hkE
        · rw [hlo3, hlo2, hlo']; cases o.dst <;> rfl
        · have hle : ((({ sl := s'.sl, lo := lo9, h := h' } : St).put o.dst x)).lo.length = s'.lo.length := by rw [← hlen9]; cases o.dst <;> rfl
          rw [hle, hkeep3 d0 (fun q hq e => hfm (List.mem_append_right _ (by rw [← dst_inj hd e hfd]; simp [allR, hq]))), hget2 d0 (fun e => hif (dst_inj hd e hfd)), ed]
        · rw [hh3, hh2]; cases o.dst <;> rfl
        · cases o.dst <;> simpa [St.put] using l1
        · have hE3 : ∀ q ∈ E, dstOf all q ≠ some t := fun q hq => ht q (List.mem_append_right _ hq) (by
            rw [hX', if_neg]
            · exact hE0 q hq
            · rintro rfl; exact (List.nodup_cons.1 hndR).1 (List.mem_append_left _ hq))
          rw [hkeep3 t hE3]
          cases hdo : o.dst with
          | none =>
            simp only [St.put]
            refine hrel t ht0 fun k hk hXk => ht k (List.mem_append_left _ hk) ?_
            rw [hX', if_neg (fun e : k = i => hip (e ▸ hk))]; exact hXk
          | some d =>
            simp only [St.put]
            by_cases e : d = t
            · subst e
              have hdn := dst_lt hd (show dstOf all i = some d by simp [dstOf, ho, hdo])
              rw [getD_set_self (by rw [l1]; exact hdn), getD_set_self (by rw [l2]; exact hdn)]
            · rw [getD_set_other e, getD_set_other e]
              refine hrel t ht0 fun k hk hXk => ht k (List.mem_append_left _ hk) ?_
              rw [hX', if_neg (fun e : k = i => hip (e ▸ hk))]; exact hXk
def isFloat (md : Option Tmp → Nat) (o : Oper) : Bool := o.guard.isNone && o.dst.isSome && match o.op with | .alloc _ => md o.dst != 2 | _ => false
def floatB (md : Option Tmp → Nat) (o : Oper) : Bool := match o.op with | .alloc _ => o.guard.isNone && md o.dst == 2 | .box .. => o.guard.isSome || md o.dst != 1 | _ => true
theorem floatB_ok {o : Oper} (h : floatB md o = true) : floatOk md o := by
  refine ⟨fun t e => ?_, fun t x e hg => ?_⟩
  · simp only [floatB, e, Bool.and_eq_true, Option.isNone_iff_eq_none, beq_iff_eq] at h
    exact h
  · simp only [floatB, e, hg, Option.isSome_none, Bool.false_or, bne_iff_ne] at h
    exact h
def drawOkF (md : Option Tmp → Nat) (all : Array Oper) (n : Nat) (f : Nat) (E0 : List Nat) (pl : List (Nat × List Nat × List Nat)) : Bool :=
  let A := ancs all
  okAnc all A && nodupB (f :: allE E0 pl) && ((List.range all.size).all fun i => (f :: allE E0 pl).contains i) && ((f :: allE E0 pl).all fun i => decide (i < all.size)) && E0.all (quietI md all) && sortedB E0 && planOk md all A E0 pl && readsOk all A (pl.map (·.1)) && dstsOk all n &&
    (match all[f]? with | some o => isFloat md o | none => false) && ((List.range all.size).all fun i => i == f || match all[i]? with | some o => floatB md o | none => false)
theorem awp_drawF (hty : TyOk P ty) (hm : P.follows .mixedOrders = true) {id : Nat} {Q : Exit → St → Prop} {s : St} (md : Option Tmp → Nat) {f : Nat} {E0 : List Nat} {pl : List (Nat × List Nat × List Nat)} (n : Nat) (hn : s.sl.length = n)
    (hok : drawOkF md all n f E0 pl = true) (h : ∀ K : St → Prop, (∀ s', Q .normal s' → K s') → vIdx P ty md all (f :: E0) s fun s1 => vRest P ty md all pl s1 K) : Awp P c (.region id all true) Q s := by
  rintro a w ⟨G, L, sm, hg, hf, hL⟩
  subst hn
  simp only [drawOkF, Bool.and_eq_true] at hok
  obtain ⟨⟨⟨⟨⟨⟨⟨⟨⟨⟨hA, hnd⟩, hcov⟩, hlt⟩, hE0⟩, hsE⟩, hplan⟩, hr⟩, hd⟩, hfo⟩, hfa⟩ := hok
  have hndf : (f :: (E0 ++ allR pl)).Nodup := nodupB_spec hnd
  obtain ⟨hfm, hnd'⟩ := List.nodup_cons.1 hndf
  have hlt' : ∀ i ∈ f :: (E0 ++ allR pl), i < all.size := fun i hi => by
    have := List.all_eq_true.1 hlt i hi
    simpa using this
  have hnd1 := List.nodup_append.1 hnd'
  have hlr : ∀ i ∈ pl.map (·.1), i ∈ allR pl := fun i hi => by
    obtain ⟨p, hp, rfl⟩ := List.mem_map.1 hi
    exact List.mem_flatMap.2 ⟨p, hp, by simp⟩
  have hpE : ∀ (r : List (Nat × List Nat × List Nat)), (allR r).Nodup → ∀ p ∈ r, ∀ i ∈ p.2.2, i ∉ r.map (·.1) := by
    intro r
    induction r with
    | nil => intro _ p hp; simp at hp
    | cons q r ih =>
      intro hn p hp i hi hm
      have hn' : (q.1 :: (q.2.2 ++ allR r)).Nodup := by simpa [allR] using hn
      obtain ⟨h1, h2⟩ := List.nodup_cons.1 hn'
      have h3 := List.nodup_append.1 h2
      have hmr : i ∈ r.map (·.1) → i ∈ allR r := fun h => by
        obtain ⟨p', hp', rfl⟩ := List.mem_map.1 h
        exact List.mem_flatMap.2 ⟨p', hp', by simp⟩
      rcases List.mem_cons.1 hp with rfl | hp'
      · rcases List.mem_cons.1 (by simpa using hm : i ∈ p.1 :: r.map (·.1)) with rfl | hm'
        · exact h1 (List.mem_append_left _ hi)
        · exact h3.2.2 i hi i (hmr hm') rfl
      · have hia : i ∈ allR r := List.mem_flatMap.2 ⟨p, hp', by simp [hi]⟩
        rcases List.mem_cons.1 (by simpa using hm : i ∈ q.1 :: r.map (·.1)) with rfl | hm'
        · exact h1 (List.mem_append_right _ hia)
        · exact ih h3.2.1 p hp' i hi hm'
  have hlouds : ∀ i ∈ E0, i ∉ pl.map (·.1) := fun i hi hm => hnd1.2.2 i hi i (hlr i hm) rfl
  have hfn := hlt' f (by simp)
  -- the float
  cases hao : all[f]? with
  | none => rw [hao] at hfo; cases hfo
  | some o =>
  rw [hao] at hfo
  simp only [isFloat, Bool.and_eq_true, Option.isNone_iff_eq_none] at hfo
  obtain ⟨⟨hgd, hds⟩, hop⟩ := hfo
  obtain ⟨d0, hd0⟩ := Option.isSome_iff_exists.1 hds
  have hfd : dstOf all f = some d0 := by simp [dstOf, hao, hd0]
  have hdn := dst_lt hd hfd
  cases hop2 : o.op <;> rw [hop2] at hop <;> simp only [Bool.false_eq_true] at hop
  rename_i t
  have hmd : md (some d0) ≠ 2 := by rw [hd0] at hop; simpa using hop
  have hstep : ∀ (s : St) (K : List (List AV) → Hp → AV → Prop), gStep P ty md all o s.sl s.lo s.h K ↔ ∃ D, ty t = some D ∧ K (s.lo ++ [D.zero]) s.h (.loc s.lo.length 0) := fun s K => by
    unfold gStep
    rw [hgd]
    simp only [hop2, opsOf, opS, true_and, vEff, hd0]
    cases ht : ty t with
    | none => simp
    | some D =>
      simp only [Option.some.injEq, exists_eq_left']
  have h0 := h _ fun _ h => h
  simp only [vIdx, stepI, hao] at h0
  obtain ⟨D, hD, hK0⟩ := (hstep s _).1 h0
  rw [hd0] at hK0
  refine wp_region_any hm ?_
  obtain ⟨s3, hK3, hlo3, hh3, hl3, hv3, hkeep3⟩ := vIdx_quiet hA hd hr E0 _ hE0 (sortedB_spec hsE) (fun i hi => ⟨hlt' i (List.mem_cons_of_mem _ (List.mem_append_left _ hi)), hlouds i hi⟩) (by simp [St.put]) hK0
  have hin : In c s a { w with drawn := w.drawn + 1 } := by
    have hb : ∀ b, b < w.heap.size → ({ w with drawn := w.drawn + 1 } : World).heap[b]? = w.heap[b]? := fun _ _ => rfl
    exact ⟨G, L, sm.below hb, hg, hf.trans (Fr.below (Fr.refl _ _ _) hb rfl rfl rfl (Nat.le_refl _)), hL⟩
  have hfalse : ∀ i, (Array.replicate all.size false).getD i false = false := fun i => by rw [Array.getD_eq_getD_getElem?, Array.getElem?_replicate]; split <;> rfl
  refine draw_goF hty hfd hfn (z := D.zero) (fun i oi hoi hne => ?_) hA hd hr (fun s' a' w' hq hi => ⟨s', hq, hi⟩) (fun hm => hfm (List.mem_append_right _ (hlr f hm))) (fun s a w Kc hi hkc => ?_) all.size (Array.replicate all.size false) E0 pl s3 s a _ ?_ (by simp) ?_ hplan (fun i hi => ⟨List.all_eq_true.1 hE0 i hi, hlouds i hi⟩) (fun i hi => hlt' i (List.mem_cons_of_mem _ (List.mem_append_right _ hi)))
    (fun p hp => ⟨List.mem_map.2 ⟨p, hp, rfl⟩, hpE pl hnd1.2.1 p hp⟩) hnd' (fun i hi => ?_) hfm (hfalse f) (fun i _ => hfalse i) (fun i hi _ => hv3 i hi) hlo3.symm ?_ hh3.symm rfl hl3 (fun t ht0 ht => ?_) hK3 hin
  · have := List.all_eq_true.1 hfa i (List.mem_range.2 (Array.getElem?_eq_some_iff.1 hoi).1)
    rw [hoi] at this
    simp only [Bool.or_eq_true, beq_iff_eq] at this
    rcases this with e | e
    · exact absurd e hne
    · exact floatB_ok e
  · have hs := gStep_sound (c := c) (md := md) (all := all) hty (o := o) ((hstep s (fun lo' h' x => lo' = s.lo ++ [D.zero] ∧ h' = s.h ∧ x = .loc s.lo.length 0)).2 ⟨D, hD, rfl, rfl, rfl⟩) hi (Kc := Kc) (Q := Qc c Q) (fun lo' h' x a' w' hx hi' => by
      obtain ⟨rfl, rfl, rfl⟩ := hx
      rw [hd0] at hi'
      exact hkc a' w' hi')
    unfold wpOp
    rw [hao]
    simp only
    split
    · rename_i hw; rw [if_pos hw] at hs; exact .inl hs
    · rename_i hw; rw [if_neg hw] at hs; exact hs
  · exact Nat.le_trans List.countP_le_length (by simp)
  · intro j o _ hj
    rw [show (fun i => (Array.replicate all.size false).getD i false) j = false from hfalse j] at hj
    cases hj
  · have := List.all_eq_true.1 hcov i (List.mem_range.2 hi)
    simp only [List.contains_eq_mem, decide_eq_true_eq] at this
    rcases List.mem_cons.1 this with h | h
    · exact .inr (.inr (.inr h))
    · rcases List.mem_append.1 h with h | h
      · exact .inr (.inl h)
      · exact .inr (.inr (.inl h))
  · rw [hkeep3 d0 (fun i hi e => hfm (List.mem_append_left _ (by rw [← dst_inj hd e hfd]; exact hi)))]
    exact getD_set_self hdn
  · rw [hkeep3 t fun i hi => ht i hi (hfalse i)]
    exact (getD_set_other (fun e => ht0 e.symm)).symm
end
end Go.Proofs.YtmghfolmgmhabaaGreatDoor

