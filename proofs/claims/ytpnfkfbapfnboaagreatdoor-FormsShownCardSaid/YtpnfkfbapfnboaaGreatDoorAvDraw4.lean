/- Regions that draw their order: the proof. -/
import Derived.Test.YtpnfkfbapfnboaaGreatDoorAvDraw3
namespace Go.Proofs.YtpnfkfbapfnboaaGreatDoor
open Go
set_option linter.unusedVariables false
set_option linter.unusedSimpArgs false
section
variable {P : Program} {ty : Nat → Option TyD} {md : Option Tmp → Nat} {all : Array Oper} {c : Cx}
theorem bit_lt {A : List Nat} (h : okAnc all A = true) {i : Nat} (hi : i < all.size) : ∀ (j : Nat) (_ : j < all.size) (_ : bit A i j = true), i < j := by
  intro j
  induction j using Nat.strongRecOn with
  | _ j ih =>
    intro hj hb
    obtain ⟨e, he, hbe, h1⟩ := okAnc_bit h (Array.getElem?_eq_getElem hj) hi hb
    have hlt := okAnc_edge h (Array.getElem?_eq_getElem hj) e he hbe
    rcases h1 with rfl | h1
    · exact hlt
    · have := ih e.on hlt (by omega) h1; omega
theorem countP_lt {p q : Nat → Bool} {i : Nat} : ∀ {l : List Nat} (_ : ∀ x ∈ l, q x = true → p x = true) (_ : i ∈ l) (_ : p i = true) (_ : q i = false), l.countP q < l.countP p
  | x :: l, h, hi, hp, hq => by
    have hle : l.countP q ≤ l.countP p := List.countP_mono_left fun y hy => h y (List.mem_cons_of_mem _ hy)
    rcases List.mem_cons.1 hi with rfl | hi
    · rw [List.countP_cons_of_pos hp, List.countP_cons_of_neg (by simp [hq])]; omega
    · have ih := countP_lt (fun y hy => h y (List.mem_cons_of_mem _ hy)) hi hp hq
      by_cases hx : q x = true
      · rw [List.countP_cons_of_pos hx, List.countP_cons_of_pos (h x (by simp) hx)]; omega
      · rw [List.countP_cons_of_neg (by simpa using hx)]
        have : l.countP p ≤ (x :: l).countP p := by rw [List.countP_cons]; omega
        omega
theorem nodupB_spec : ∀ {l : List Nat} (_ : nodupB l = true), l.Nodup
  | [], _ => List.nodup_nil
  | x :: xs, h => by
    simp only [nodupB, Bool.and_eq_true, Bool.not_eq_true', List.contains_eq_mem, decide_eq_false_iff_not] at h
    exact List.nodup_cons.2 ⟨h.1, nodupB_spec h.2⟩
theorem sortedB_spec : ∀ {l : List Nat} (_ : sortedB l = true), l.Pairwise (· < ·)
  | [], _ => List.Pairwise.nil
  | x :: xs, h => by
    simp only [sortedB, Bool.and_eq_true, List.all_eq_true, decide_eq_true_eq] at h
    exact List.pairwise_cons.2 ⟨h.1, sortedB_spec h.2⟩
theorem dst_inj {n : Nat} (h : dstsOk all n = true) {i j : Nat} {d : Tmp} (hi : dstOf all i = some d) (hj : dstOf all j = some d) : i = j := by
  simp only [dstsOk, Bool.and_eq_true] at h
  have hnd := nodupB_spec h.1
  have key : ∀ (l : List Oper) (_ : (l.filterMap (·.dst)).Nodup) (i j : Nat) (oi oj : Oper), l[i]? = some oi → l[j]? = some oj → oi.dst = some d → oj.dst = some d → i = j := by
    intro l
    induction l with
    | nil => intro _ i j oi oj a; simp at a
    | cons o l ih =>
      intro hn i j oi oj a b ea eb
      have hn' : (l.filterMap (·.dst)).Nodup := by
        cases hd : o.dst with
        | none => simpa [List.filterMap_cons, hd] using hn
        | some e => rw [List.filterMap_cons, hd] at hn; exact (List.nodup_cons.1 hn).2
      have hno : ∀ (k : Nat) ok, l[k]? = some ok → ok.dst = some d → o.dst = some d → False := fun k ok hk ek eo => by
        rw [List.filterMap_cons, eo] at hn
        exact (List.nodup_cons.1 hn).1 (List.mem_filterMap.2 ⟨ok, List.mem_of_getElem? hk, ek⟩)
      cases i with
      | zero =>
        cases j with
        | zero => rfl
        | succ j =>
          simp only [List.getElem?_cons_zero, Option.some.injEq, List.getElem?_cons_succ] at a b
          subst a
          exact (hno j oj b eb ea).elim
      | succ i =>
        cases j with
        | zero =>
          simp only [List.getElem?_cons_zero, Option.some.injEq, List.getElem?_cons_succ] at a b
          subst b
          exact (hno i oi a ea eb).elim
        | succ j =>
          simp only [List.getElem?_cons_succ] at a b
          rw [ih hn' i j oi oj a b ea eb]
  unfold dstOf at hi hj
  cases hoi : all[i]? with
  | none => rw [hoi] at hi; cases hi
  | some oi =>
    cases hoj : all[j]? with
    | none => rw [hoj] at hj; cases hj
    | some oj =>
      rw [hoi] at hi; rw [hoj] at hj
      exact key all.toList hnd i j oi oj (by simpa using hoi) (by simpa using hoj) hi hj
theorem dst_lt {n : Nat} (h : dstsOk all n = true) {i : Nat} {d : Tmp} (hi : dstOf all i = some d) : d < n := by
  simp only [dstsOk, Bool.and_eq_true, List.all_eq_true, decide_eq_true_eq] at h
  unfold dstOf at hi
  cases hoi : all[i]? with
  | none => rw [hoi] at hi; cases hi
  | some oi =>
    rw [hoi] at hi
    exact h.2 d (List.mem_filterMap.2 ⟨oi, by simpa using List.mem_of_getElem? (l := all.toList) (i := i) (by simpa using hoi), hi⟩)
theorem readsOk_spec {A louds : List Nat} (h : readsOk all A louds = true) {i k : Nat} {o : Oper} {t : Tmp} (ho : all[i]? = some o) (hk : dstOf all k = some t) (ht : t ∈ readsOf all o) : k ≠ i ∧ (bit A k i = true ∨ bit A i k = true ∧ k ∈ louds) := by
  simp only [readsOk, List.all_eq_true, List.mem_range] at h
  have hkn : k < all.size := by
    unfold dstOf at hk
    cases hok : all[k]? with
    | none => rw [hok] at hk; cases hk
    | some ok => exact (Array.getElem?_eq_some_iff.1 hok).1
  have h1 := h i (Array.getElem?_eq_some_iff.1 ho).1
  rw [ho] at h1
  simp only [List.all_eq_true, List.mem_range] at h1
  have h2 := h1 k hkn
  rw [hk] at h2
  simp only [List.contains_eq_mem, ht, decide_true, Bool.not_true, Bool.false_or, Bool.and_eq_true, bne_iff_ne, ne_eq, Bool.or_eq_true, decide_eq_true_eq] at h2
  exact h2
theorem getD_set_self {l : List AV} {d : Nat} {x : AV} (h : d < l.length) : (l.set d x).getD d .junk = x := by simp [List.getD_eq_getElem?_getD, h]
theorem getD_set_other {l : List AV} {d t : Nat} {x : AV} (h : d ≠ t) : (l.set d x).getD t .junk = l.getD t .junk := by simp [List.getD_eq_getElem?_getD, List.getElem?_set_ne h]
def Val (P : Program) (ty : Nat → Option TyD) (md : Option Tmp → Nat) (all : Array Oper) (i : Nat) (S : St) : Prop :=
  ∃ o d, all[i]? = some o ∧ o.dst = some d ∧ gStep P ty md all o S.sl S.lo S.h (kEq S.lo S.h (S.sl.getD d .junk))
theorem vIdx_quiet {A louds : List Nat} {n : Nat} (hA : okAnc all A = true) (hd : dstsOk all n = true) (hr : readsOk all A louds = true) {K : St → Prop} :
    ∀ (E : List Nat) (s : St) (_ : E.all (quietI md all) = true) (_ : E.Pairwise (· < ·)) (_ : ∀ i ∈ E, i < all.size ∧ i ∉ louds) (_ : s.sl.length = n) (_ : vIdx P ty md all E s K),
      ∃ s3, K s3 ∧ s3.lo = s.lo ∧ s3.h = s.h ∧ s3.sl.length = n ∧ (∀ i ∈ E, Val P ty md all i s3) ∧ ∀ t, (∀ i ∈ E, dstOf all i ≠ some t) → s3.sl.getD t .junk = s.sl.getD t .junk
  | [], s, _, _, _, hl, h => ⟨s, h, rfl, rfl, hl, by simp, fun _ _ => rfl⟩
  | i :: E, s, hq, hp, hm, hl, h => by
    simp only [List.all_cons, Bool.and_eq_true] at hq
    obtain ⟨hpi, hpE⟩ := List.pairwise_cons.1 hp
    have hqi := hq.1
    unfold quietI at hqi
    simp only [vIdx, stepI] at h
    cases ho : all[i]? with
    | none => rw [ho] at h; exact h.elim
    | some o =>
      rw [ho] at h hqi
      simp only [Bool.and_eq_true] at hqi
      obtain ⟨⟨hqo, _⟩, hdo⟩ := hqi
      obtain ⟨d, hdd⟩ := Option.isSome_iff_exists.1 hdo
      have hdi : dstOf all i = some d := by simp [dstOf, ho, hdd]
      have hdn := dst_lt hd hdi
      obtain ⟨x, hx, hK⟩ := gStep_quiet hqo h
      rw [hdd] at hK
      obtain ⟨s3, hK3, hlo, hh, hl3, hv, hkeep⟩ := vIdx_quiet hA hd hr E (({ sl := s.sl, lo := s.lo, h := s.h } : St).put (some d) x) hq.2 hpE (fun j hj => hm j (List.mem_cons_of_mem _ hj)) (by simpa [St.put] using hl) hK
      simp only [St.put] at hlo hh hkeep
      have hdE : ∀ j ∈ E, dstOf all j ≠ some d := fun j hj e => by
        have := dst_inj hd hdi e
        have := hpi j hj
        omega
      refine ⟨s3, hK3, hlo, hh, hl3, fun j hj => ?_, fun t ht => ?_⟩
      · rcases List.mem_cons.1 hj with rfl | hj
        · refine ⟨o, d, ho, hdd, ?_⟩
          have hval : s3.sl.getD d .junk = x := by rw [hkeep d hdE, getD_set_self (by rw [hl]; exact hdn)]
          rw [hval, hlo, hh]
          rw [← gStep_congr (sl := s.sl) (fun t ht => ?_)]
          · exact hx
          · have hne : d ≠ t := fun e => by
              subst e
              exact (readsOk_spec hr ho hdi ht).1 rfl
            rw [hkeep t (fun k hk e => ?_), getD_set_other hne]
            rcases (readsOk_spec hr ho e ht).2 with hb | ⟨_, hlk⟩
            · have := bit_lt hA (hm k (List.mem_cons_of_mem _ hk)).1 j (hm j (by simp)).1 hb
              have := hpi k hk
              omega
            · exact (hm k (List.mem_cons_of_mem _ hk)).2 hlk
        · exact hv j hj
      · have hne : d ≠ t := fun e => ht i (by simp) (e ▸ hdi)
        rw [hkeep t fun k hk => ht k (List.mem_cons_of_mem _ hk), getD_set_other hne]
end
end Go.Proofs.YtpnfkfbapfnboaaGreatDoor

