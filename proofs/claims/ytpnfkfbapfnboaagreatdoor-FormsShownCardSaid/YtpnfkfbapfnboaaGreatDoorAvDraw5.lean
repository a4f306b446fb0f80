/- Regions that draw their order: the rule. -/
import Derived.Test.YtpnfkfbapfnboaaGreatDoorAvDraw4
namespace Go.Proofs.YtpnfkfbapfnboaaGreatDoor
open Go
set_option linter.unusedVariables false
set_option linter.unusedSimpArgs false
section
variable {P : Program} {ty : Nat → Option TyD} {md : Option Tmp → Nat} {all : Array Oper} {c : Cx}
def allR (r : List (Nat × List Nat × List Nat)) : List Nat := r.flatMap fun p => p.1 :: p.2.2
theorem Val.move {A louds : List Nat} {n : Nat} (hr : readsOk all A louds = true) {i : Nat} {S S' : St} (hv : Val P ty md all i S) (hq : quietI md all i = true)
    (hmem : (∃ o, all[i]? = some o ∧ isRead o = false) ∨ (S'.lo = S.lo ∧ S'.h = S.h)) (hread : ∀ o t, all[i]? = some o → t ∈ readsOf all o → S'.sl.getD t .junk = S.sl.getD t .junk) (hdst : ∀ d, dstOf all i = some d → S'.sl.getD d .junk = S.sl.getD d .junk) (_ : n = n) (_ := hr) : Val P ty md all i S' := by
  obtain ⟨o, d, ho, hd, hg⟩ := hv
  refine ⟨o, d, ho, hd, ?_⟩
  rw [hdst d (by simp [dstOf, ho, hd])]
  rw [gStep_congr (sl' := S.sl) (fun t ht => hread o t ho ht)]
  unfold quietI at hq
  rw [ho] at hq
  simp only [Bool.and_eq_true] at hq
  rcases hmem with ⟨o', ho', hr'⟩ | ⟨e1, e2⟩
  · rw [ho] at ho'; cases ho'
    exact gStep_indep hq.1.1 hr' hq.1.2 hg
  · rw [e1, e2]; exact hg
theorem draw_go (hty : TyOk P ty) {A louds : List Nat} {n : Nat} (hA : okAnc all A = true) (hd : dstsOk all n = true) (hr : readsOk all A louds = true) {K : St → Prop} {Qq : Exit → Act → World → Prop} (hk : ∀ s' a' w', K s' → In c s' a' w' → Qq .normal a' w') :
    ∀ (fuel : Nat) (listed : Array Bool) (prev : List Nat) (r : List (Nat × List Nat × List Nat)) (S s' : St) (a : Act) (w : World),
      (List.range all.size).countP (fun i => !listed.getD i false) ≤ fuel → listed.size = all.size → ClosedX all (fun i => listed.getD i false) → planOk md all A prev r = true →
      (∀ i ∈ prev, quietI md all i = true ∧ i ∉ louds) → (∀ i ∈ allR r, i < all.size) → (∀ p ∈ r, p.1 ∈ louds ∧ ∀ i ∈ p.2.2, i ∉ louds) → (prev ++ allR r).Nodup →
      (∀ i, i < all.size → listed.getD i false = true ∨ i ∈ prev ∨ i ∈ allR r) → (∀ i ∈ allR r, listed.getD i false = false) →
      (∀ i ∈ prev, listed.getD i false = false → Val P ty md all i S) →
      s'.lo = S.lo → s'.h = S.h → s'.sl.length = n → S.sl.length = n → (∀ t, (∀ i ∈ prev, listed.getD i false = false → dstOf all i ≠ some t) → s'.sl.getD t .junk = S.sl.getD t .junk) →
      vRest P ty md all r S K → In c s' a w → wpAny P .any all Qq fuel listed a w := by
  intro fuel
  have done : ∀ (listed : Array Bool) (prev : List Nat) (r : List (Nat × List Nat × List Nat)) (S s' : St) (a : Act) (w : World), (∀ i, i < all.size → listed.getD i false = true) → listed.size = all.size → (∀ i ∈ allR r, i < all.size) →
      (∀ i ∈ allR r, listed.getD i false = false) → (∀ i ∈ prev, quietI md all i = true ∧ i ∉ louds) → s'.lo = S.lo → s'.h = S.h → s'.sl.length = n → S.sl.length = n → (∀ t, (∀ i ∈ prev, listed.getD i false = false → dstOf all i ≠ some t) → s'.sl.getD t .junk = S.sl.getD t .junk) →
      vRest P ty md all r S K → In c s' a w → Qq .normal a w := by
    intro listed prev r S s' a w hall hsz hrn hno hpq e1 e2 l1 l2 hrel hrest hin
    cases r with
    | cons p r =>
      have hm : p.1 ∈ allR (p :: r) := by simp [allR]
      have := hno p.1 hm
      rw [hall _ (hrn _ hm)] at this; cases this
    | nil =>
      have hs : s' = S := by
        obtain ⟨sl, lo, h⟩ := s'
        obtain ⟨sl2, lo2, h2⟩ := S
        simp only at e1 e2 l1 l2 hrel
        subst e1; subst e2
        congr 1
        apply List.ext_getElem (by omega)
        intro t h1 h2
        have := hrel t fun i hi hX => by
          have hq := (hpq i hi).1
          have hin : i < all.size := by
            unfold quietI at hq
            cases ho : all[i]? with
            | none => rw [ho] at hq; cases hq
            | some o => exact (Array.getElem?_eq_some_iff.1 ho).1
          rw [hall i hin] at hX; cases hX
        simpa [List.getD_eq_getElem?_getD, List.getElem?_eq_getElem h1, List.getElem?_eq_getElem h2] using this
      subst hs
      exact hk _ a w hrest hin
  have nready : ∀ (listed : Array Bool), listed.size = all.size → (∀ i, i < all.size → listed.getD i false = true) → Region.ready .any all listed = [] := by
    intro listed hsz hall
    cases hrd : Region.ready .any all listed with
    | nil => rfl
    | cons j js =>
      have hj : j ∈ Region.ready .any all listed := by rw [hrd]; simp
      obtain ⟨h0, o, ho, _⟩ := mem_ready.1 hj
      have hjn := (Array.getElem?_eq_some_iff.1 ho).1
      have h1 := hall j hjn
      have hjs : j < listed.size := by omega
      simp [hjs] at h0 h1
      rw [h0] at h1; cases h1
  have rdone : ∀ (listed : Array Bool), listed.size = all.size → Region.ready .any all listed = [] → ∀ i, i < all.size → listed.getD i false = true := by
    intro listed hsz hrd i
    induction i using Nat.strongRecOn with
    | _ i ih =>
      intro hi
      cases hX : listed.getD i false with
      | true => rfl
      | false =>
        have : i ∈ Region.ready .any all listed := mem_ready.2 ⟨by
          have his : i < listed.size := by omega
          simp [his] at hX ⊢; exact hX, all[i], Array.getElem?_eq_getElem hi, fun e he hb => by
          have hlt := okAnc_edge hA (Array.getElem?_eq_getElem hi) e he hb
          exact ih e.on hlt (by omega)⟩
        rw [hrd] at this; cases this
  induction fuel with
  | zero =>
    intro listed prev r S s' a w hcnt hsz hcl hplan hpq hrn hpl hnd hcov hno hval e1 e2 l1 l2 hrel hrest hin
    have hall : ∀ i, i < all.size → listed.getD i false = true := fun i hi => by
      have h0 := List.countP_eq_zero.1 (Nat.le_zero.1 hcnt) i (List.mem_range.2 hi)
      simpa using h0
    exact ⟨nready listed hsz hall, done listed prev r S s' a w hall hsz hrn hno hpq e1 e2 l1 l2 hrel hrest hin⟩
  | succ fuel ih =>
    intro listed prev r S s' a w hcnt hsz hcl hplan hpq hrn hpl hnd hcov hno hval e1 e2 l1 l2 hrel hrest hin
    refine ⟨fun hrd => done listed prev r S s' a w (rdone listed hsz hrd) hsz hrn hno hpq e1 e2 l1 l2 hrel hrest hin, fun i hi => ?_⟩
    obtain ⟨h0, o, ho, hdeps⟩ := mem_ready.1 hi
    have hin' := (Array.getElem?_eq_some_iff.1 ho).1
    have hXi : listed.getD i false = false := by
      have his : i < listed.size := by omega
      simp [his] at h0 ⊢; exact h0
    have hanc : ∀ k, k < all.size → bit A k i = true → listed.getD k false = true := fun k hk hb => anc_listed hA hcl hk i ho hdeps hb
    have hX' : ∀ k, (listed.setIfInBounds i true).getD k false = if k = i then true else listed.getD k false := fun k => by
      by_cases e : k = i
      · subst e
        have hks : k < listed.size := by omega
        simp [hks]
      · rw [if_neg e, getD_set_ne false (Ne.symm e)]
    have hsz' : (listed.setIfInBounds i true).size = all.size := by simpa using hsz
    have hcnt' : (List.range all.size).countP (fun k => !(listed.setIfInBounds i true).getD k false) ≤ fuel := by
      have := countP_lt (p := fun k => !listed.getD k false) (q := fun k => !(listed.setIfInBounds i true).getD k false) (i := i) (l := List.range all.size) (fun k _ hk => by
        rw [hX'] at hk
        by_cases e : k = i
        · rw [if_pos e] at hk; cases hk
        · rw [if_neg e] at hk; exact hk) (List.mem_range.2 hin') (by rw [hXi]; rfl) (by rw [hX', if_pos rfl]; rfl)
      omega
    have hcl' : ClosedX all (fun k => (listed.setIfInBounds i true).getD k false) := by
      intro j oj hoj hj e he hb
      have hj' : (listed.setIfInBounds i true).getD j false = true := hj
      show (listed.setIfInBounds i true).getD e.on false = true
      rw [hX'] at hj' ⊢
      by_cases ee : e.on = i
      · rw [if_pos ee]
      · rw [if_neg ee]
        by_cases ej : j = i
        · subst ej; rw [ho] at hoj; cases hoj
          exact hdeps e he hb
        · rw [if_neg ej] at hj'
          exact hcl j oj hoj hj' e he hb
    -- what it looks at is told as in S
    have hlook : ∀ t ∈ readsOf all o, s'.sl.getD t .junk = S.sl.getD t .junk := fun t ht => hrel t fun k hk hXk e => by
      have hkn : k < all.size := by
        have hq := (hpq k hk).1
        unfold quietI at hq
        cases hok : all[k]? with
        | none => rw [hok] at hq; cases hq
        | some ok => exact (Array.getElem?_eq_some_iff.1 hok).1
      rcases (readsOk_spec hr ho e ht).2 with hb | ⟨_, hl⟩
      · rw [hanc k hkn hb] at hXk; cases hXk
      · exact (hpq k hk).2 hl
    have run : ∀ (K' : List (List AV) → Hp → AV → Prop), gStep P ty md all o S.sl S.lo S.h K' → ∀ (Kc : Act → World → Prop), (∀ lo' h' x a' w', K' lo' h' x → In c (({ sl := s'.sl, lo := lo', h := h' } : St).put o.dst x) a' w' → Kc a' w') → wpOp P all Qq i Kc a w := by
      intro K' hg Kc hkc
      rw [gStep_congr (sl' := s'.sl) (fun t ht => (hlook t ht).symm), ← e1, ← e2] at hg
      have := gStep_sound (c := c) hty hg hin (Kc := Kc) (Q := Qq) hkc
      unfold wpOp
      rw [ho]
      simp only
      split
      · rename_i hw; rw [if_pos hw] at this; exact .inl this
      · rename_i hw; rw [if_neg hw] at this; exact this
    by_cases hip : i ∈ prev
    · -- a quiet one, whose value is known
      obtain ⟨o', d, ho', hdd, hg⟩ := hval i hip hXi
      rw [ho] at ho'; cases ho'
      have hdi : dstOf all i = some d := by simp [dstOf, ho, hdd]
      have hdn := dst_lt hd hdi
      refine run _ hg _ fun lo' h' x a' w' hx hi2 => ?_
      obtain ⟨rfl, rfl, rfl⟩ := hx
      rw [hdd] at hi2
      refine ih _ prev r S (({ sl := s'.sl, lo := S.lo, h := S.h } : St).put (some d) (S.sl.getD d .junk)) a' w' hcnt' hsz' hcl' hplan hpq hrn hpl hnd (fun k hk => ?_) (fun k hk => ?_) (fun k hk hXk => ?_) rfl rfl (by simpa [St.put] using l1) l2 (fun t ht => ?_) hrest hi2
      · rcases hcov k hk with h | h
        · left; rw [hX']; split <;> first | rfl | exact h
        · exact .inr h
      · rw [hX', if_neg]
        · exact hno k hk
        · rintro rfl
          exact (List.nodup_append.1 hnd).2.2 k hip k hk rfl
      · rw [hX'] at hXk
        split at hXk
        · cases hXk
        · exact hval k hk hXk
      · simp only [St.put]
        by_cases e : d = t
        · subst e
          rw [getD_set_self (by rw [l1]; exact hdn)]
        · rw [getD_set_other e]
          refine hrel t fun k hk hXk ek => ?_
          by_cases eki : k = i
          · subst eki; rw [hdi] at ek; cases ek; exact e rfl
          · exact ht k hk (by rw [hX', if_neg eki]; exact hXk) ek
    · -- a loud one
      have hir : i ∈ allR r := by
        rcases hcov i hin' with h | h | h
        · rw [hXi] at h; cases h
        · exact absurd h hip
        · exact h
      cases r with
      | nil => simp [allR] at hir
      | cons p r =>
        obtain ⟨l, R, E⟩ := p
        simp only [planOk, Bool.and_eq_true, List.all_eq_true] at hplan
        obtain ⟨⟨⟨⟨⟨⟨hsE, hpA⟩, hrl⟩, hEl⟩, hEq⟩, hre⟩, hplan'⟩ := hplan
        have hlm : l ∈ allR ((l, R, E) :: r) := by simp [allR]
        have hln := hrn l hlm
        have hlX := hno l hlm
        have hil : i = l := by
          rcases (by simpa [allR] using hir : i = l ∨ i ∈ E ∨ ∃ a b c, (a, b, c) ∈ r ∧ (i = a ∨ i ∈ c)) with h | h | ⟨q1, q2, q3, hq, h⟩
          · exact h
          · have := hanc l hln (hEl i (List.mem_append_left _ h))
            rw [hlX] at this; cases this
          · rcases h with rfl | h
            · have := hanc l hln (hrl (i, q2, q3) hq)
              rw [hlX] at this; cases this
            · have := hanc l hln (hEl i (List.mem_append_right _ (List.mem_flatMap.2 ⟨(q1, q2, q3), hq, h⟩)))
              rw [hlX] at this; cases this
        subst hil
        have hEn : ∀ k ∈ E, k < all.size ∧ k ∉ louds := fun k hk => ⟨hrn k (by simp [allR, hk]), (hpl (i, R, E) (by simp)).2 k hk⟩
        have hnd1 := List.nodup_append.1 hnd
        have hndR : (i :: (E ++ allR r)).Nodup := by simpa [allR] using hnd1.2.1
        simp only [vRest, stepI, ho] at hrest
        refine run _ hrest _ fun lo' h' x a' w' hx hi2 => ?_
        obtain ⟨hreL, hidx⟩ := hx
        -- the state told behind it
        have hl2' : ((({ sl := S.sl, lo := lo', h := h' } : St).put o.dst x)).sl.length = n := by cases o.dst <;> simpa [St.put] using l2
        obtain ⟨s3, hK3, hlo3, hh3, hl3, hv3, hkeep3⟩ := vIdx_quiet hA hd hr E _ (List.all_eq_true.2 hEq) (sortedB_spec hsE) hEn hl2' hidx
        have hlo2 : ((({ sl := S.sl, lo := lo', h := h' } : St).put o.dst x)).lo = lo' := by cases o.dst <;> rfl
        have hh2 : ((({ sl := S.sl, lo := lo', h := h' } : St).put o.dst x)).h = h' := by cases o.dst <;> rfl
        have hget2 : ∀ t, dstOf all i ≠ some t → ((({ sl := S.sl, lo := lo', h := h' } : St).put o.dst x)).sl.getD t .junk = S.sl.getD t .junk := fun t ht => by
          cases hdo : o.dst with
          | none => rfl
          | some d =>
            simp only [St.put]
            exact getD_set_other fun e => ht (by simp [dstOf, ho, hdo, e])
        have hE0 : ∀ k ∈ E, listed.getD k false = false := fun k hk => hno k (by simp [allR, hk])
        refine ih _ (prev ++ E) r s3 _ a' w' hcnt' hsz' hcl' hplan' (fun k hk => ?_) (fun k hk => hrn k (by simp [allR] at hk ⊢; exact .inr (.inr hk))) (fun q hq => hpl q (List.mem_cons_of_mem _ hq)) ?_ (fun k hk => ?_) (fun k hk => ?_) (fun k hk hXk => ?_) ?_ ?_ ?_ hl3 (fun t ht => ?_) hK3 hi2
        · rcases List.mem_append.1 hk with h | h
          · exact hpq k h
          · exact ⟨hEq k h, (hEn k h).2⟩
        · have h3 : (prev ++ (E ++ allR r)).Nodup := List.nodup_append.2 ⟨hnd1.1, (List.nodup_cons.1 hndR).2, fun x hx y hy => hnd1.2.2 x hx y (by
            simp only [allR, List.flatMap_cons, List.cons_append, List.mem_cons]; exact .inr hy)⟩
          rwa [← List.append_assoc] at h3
        · rw [hX']
          rcases hcov k hk with h | h | h
          · left; split <;> first | rfl | exact h
          · exact .inr (.inl (List.mem_append_left _ h))
          · rcases (by simpa [allR] using h : k = i ∨ k ∈ E ∨ ∃ a b c, (a, b, c) ∈ r ∧ (k = a ∨ k ∈ c)) with h | h | h
            · left; rw [if_pos h]
            · exact .inr (.inl (List.mem_append_right _ h))
            · exact .inr (.inr (by simpa [allR] using h))
        · rw [hX', if_neg]
          · exact hno k (by simp only [allR, List.flatMap_cons, List.cons_append, List.mem_cons]; exact .inr (List.mem_append_right _ hk))
          · rintro rfl
            exact (List.nodup_cons.1 hndR).1 (List.mem_append_right _ hk)
        · rcases List.mem_append.1 hk with hkp | hkE
          · -- told before the loud one
            have hki : k ≠ i := fun e => hip (e ▸ hkp)
            rw [hX', if_neg hki] at hXk
            have hV := hval k hkp hXk
            have hnb : bit A k i = false := by
              cases hb : bit A k i with
              | false => rfl
              | true => 
                have hkn : k < all.size := by
                  obtain ⟨ok, _, hok, _⟩ := hV
                  exact (Array.getElem?_eq_some_iff.1 hok).1
                rw [hanc k hkn hb] at hXk; cases hXk
            have hpk := hpA k hkp
            simp only [Bool.and_eq_true, Bool.not_eq_true', List.all_eq_true] at hpk
            have hdk : ∀ d, dstOf all k = some d → dstOf all i ≠ some d ∧ ∀ q ∈ E, dstOf all q ≠ some d := fun d hdk => ⟨fun e => hki (dst_inj hd hdk e), fun q hq e => hnd1.2.2 k hkp q (by simp [allR, hq]) (dst_inj hd hdk e)⟩
            have hrd : ∀ ok t, all[k]? = some ok → t ∈ readsOf all ok → dstOf all i ≠ some t ∧ ∀ q ∈ E, dstOf all q ≠ some t := fun ok t hok ht => by
              refine ⟨fun e => ?_, fun q hq e => ?_⟩
              · rcases (readsOk_spec hr hok e ht).2 with hb | ⟨hb, _⟩
                · rw [hpk.1] at hb; cases hb
                · rw [hnb] at hb; cases hb
              · rcases (readsOk_spec hr hok e ht).2 with hb | ⟨_, hl⟩
                · rw [hpk.2 q hq] at hb; cases hb
                · exact (hEn q hq).2 hl
            have hgetd : ∀ t, dstOf all i ≠ some t ∧ (∀ q ∈ E, dstOf all q ≠ some t) → s3.sl.getD t .junk = S.sl.getD t .junk := fun t ht => (hkeep3 t ht.2).trans (hget2 t ht.1)
            obtain ⟨ok, dk, hok, hdok, hgk⟩ := id hV
            by_cases hread : isRead ok = false
            · exact Val.move (n := n) hr hV (hpq k hkp).1 (.inl ⟨ok, hok, hread⟩) (fun o2 t ho2 ht => hgetd t (hrd o2 t ho2 ht)) (fun d hd' => hgetd d (hdk d hd')) rfl
            · have hR : k ∈ R := by
                have h2 := hre k hkp
                rw [hok] at h2
                simp only [Bool.or_eq_true, List.contains_eq_mem, decide_eq_true_eq, Bool.not_eq_true'] at h2
                rw [hnb] at h2
                rcases h2 with (h2 | h2) | h2
                · cases h2
                · exact h2
                · exact absurd h2 hread
              have hre2 := reL_mem hreL hR
              unfold reI at hre2
              rw [hok] at hre2
              simp only [hdok] at hre2
              have hV2 : Val P ty md all k (({ sl := S.sl, lo := lo', h := h' } : St).put o.dst x) := ⟨ok, dk, hok, hdok, hre2⟩
              exact Val.move (n := n) hr hV2 (hpq k hkp).1 (.inr ⟨hlo3, hh3⟩) (fun o2 t ho2 ht => hkeep3 t (hrd o2 t ho2 ht).2) (fun d hd' => hkeep3 d (hdk d hd').2) rfl
          · exact hv3 k hkE
        · rw [hlo3, hlo2]; cases o.dst <;> rfl
        · rw [hh3, hh2]; cases o.dst <;> rfl
        · cases o.dst <;> simpa [St.put] using l1
        · have hE3 : ∀ q ∈ E, dstOf all q ≠ some t := fun q hq => ht q (List.mem_append_right _ hq) (by
            rw [hX', if_neg]
            · exact hE0 q hq
            · rintro rfl; exact (List.nodup_cons.1 hndR).1 (List.mem_append_left _ hq))
          rw [hkeep3 t hE3]
          cases hdo : o.dst with
          | none =>
            simp only [St.put]
            refine hrel t fun k hk hXk => ht k (List.mem_append_left _ hk) ?_
            rw [hX', if_neg (fun e : k = i => hip (e ▸ hk))]; exact hXk
          | some d =>
            simp only [St.put]
            by_cases e : d = t
            · subst e
              have hdn := dst_lt hd (show dstOf all i = some d by simp [dstOf, ho, hdo])
              rw [getD_set_self (by rw [l1]; exact hdn), getD_set_self (by rw [l2]; exact hdn)]
            · rw [getD_set_other e, getD_set_other e]
              refine hrel t fun k hk hXk => ht k (List.mem_append_left _ hk) ?_
              rw [hX', if_neg (fun e : k = i => hip (e ▸ hk))]; exact hXk
theorem awp_draw (hty : TyOk P ty) (hm : P.follows .mixedOrders = true) {id : Nat} {Q : Exit → St → Prop} {s : St} (md : Option Tmp → Nat) {E0 : List Nat} {pl : List (Nat × List Nat × List Nat)} (n : Nat) (hn : s.sl.length = n)
    (hok : drawOk md all n E0 pl = true) (h : ∀ K : St → Prop, (∀ s', Q .normal s' → K s') → vIdx P ty md all E0 s fun s1 => vRest P ty md all pl s1 K) : Awp P c (.region id all true) Q s := by
  rintro a w ⟨G, L, sm, hg, hf, hL⟩
  subst hn
  simp only [drawOk, Bool.and_eq_true] at hok
  obtain ⟨⟨⟨⟨⟨⟨⟨⟨hA, hnd⟩, hcov⟩, hlt⟩, hE0⟩, hsE⟩, hplan⟩, hr⟩, hd⟩ := hok
  have hnd' : (E0 ++ allR pl).Nodup := nodupB_spec hnd
  have hlt' : ∀ i ∈ E0 ++ allR pl, i < all.size := fun i hi => by
    have := List.all_eq_true.1 hlt i hi
    simpa using this
  have hnd1 := List.nodup_append.1 hnd'
  have hlr : ∀ i ∈ pl.map (·.1), i ∈ allR pl := fun i hi => by
    obtain ⟨p, hp, rfl⟩ := List.mem_map.1 hi
    exact List.mem_flatMap.2 ⟨p, hp, by simp⟩
  have hpE : ∀ (r : List (Nat × List Nat × List Nat)), (allR r).Nodup → ∀ p ∈ r, ∀ i ∈ p.2.2, i ∉ r.map (·.1) := by
    intro r
    induction r with
    | nil => intro _ p hp; simp at hp
    | cons q r ih =>
      intro hn p hp i hi hm
      have hn' : (q.1 :: (q.2.2 ++ allR r)).Nodup := by simpa [allR] using hn
      obtain ⟨h1, h2⟩ := List.nodup_cons.1 hn'
      have h3 := List.nodup_append.1 h2
      have hmr : i ∈ r.map (·.1) → i ∈ allR r := fun h => by
        obtain ⟨p', hp', rfl⟩ := List.mem_map.1 h
        exact List.mem_flatMap.2 ⟨p', hp', by simp⟩
      rcases List.mem_cons.1 hp with rfl | hp'
      · rcases List.mem_cons.1 (by simpa using hm : i ∈ p.1 :: r.map (·.1)) with rfl | hm'
        · exact h1 (List.mem_append_left _ hi)
        · exact h3.2.2 i hi i (hmr hm') rfl
      · have hia : i ∈ allR r := List.mem_flatMap.2 ⟨p, hp', by simp [hi]⟩
        rcases List.mem_cons.1 (by simpa using hm : i ∈ q.1 :: r.map (·.1)) with rfl | hm'
        · exact h1 (List.mem_append_right _ hia)
        · exact ih h3.2.1 p hp' i hi hm'
  have hlouds : ∀ i ∈ E0, i ∉ pl.map (·.1) := fun i hi hm => hnd1.2.2 i hi i (hlr i hm) rfl
  refine wp_region_any hm ?_
  obtain ⟨s3, hK3, hlo3, hh3, hl3, hv3, hkeep3⟩ := vIdx_quiet hA hd hr E0 s hE0 (sortedB_spec hsE) (fun i hi => ⟨hlt' i (List.mem_append_left _ hi), hlouds i hi⟩) rfl (h _ fun _ h => h)
  have hin : In c s a { w with drawn := w.drawn + 1 } := by
    have hb : ∀ b, b < w.heap.size → ({ w with drawn := w.drawn + 1 } : World).heap[b]? = w.heap[b]? := fun _ _ => rfl
    exact ⟨G, L, sm.below hb, hg, hf.trans (Fr.below (Fr.refl _ _ _) hb rfl rfl rfl (Nat.le_refl _)), hL⟩
  have hfalse : ∀ i, (Array.replicate all.size false).getD i false = false := fun i => by rw [Array.getD_eq_getD_getElem?, Array.getElem?_replicate]; split <;> rfl
  refine draw_go hty hA hd hr (fun s' a' w' hq hi => ⟨s', hq, hi⟩) all.size (Array.replicate all.size false) E0 pl s3 s a _ ?_ (by simp) ?_ hplan (fun i hi => ⟨List.all_eq_true.1 hE0 i hi, hlouds i hi⟩) (fun i hi => hlt' i (List.mem_append_right _ hi))
    (fun p hp => ⟨List.mem_map.2 ⟨p, hp, rfl⟩, hpE pl hnd1.2.1 p hp⟩) hnd' (fun i hi => ?_) (fun i _ => hfalse i) (fun i hi _ => hv3 i hi) hlo3.symm hh3.symm rfl hl3 (fun t ht => (hkeep3 t fun i hi => ht i hi (hfalse i)).symm) hK3 hin
  · exact Nat.le_trans List.countP_le_length (by simp)
  · intro j o _ hj
    rw [show (fun i => (Array.replicate all.size false).getD i false) j = false from hfalse j] at hj
    cases hj
  · have := List.all_eq_true.1 hcov i (List.mem_range.2 hi)
    simp only [List.contains_eq_mem, decide_eq_true_eq] at this
    exact .inr (List.mem_append.1 this)
end
end Go.Proofs.YtpnfkfbapfnboaaGreatDoor

