/- Rules for whole bodies: tests, loops with what is kept, rights to append, modes. -/
import Derived.Test.YtpnfkfbapfnboaaGreatDoorAvDrawF
namespace Go.Proofs.YtpnfkfbapfnboaaGreatDoor
open Go
set_option linter.unusedVariables false
set_option linter.unusedSimpArgs false
def mdL : List (Nat × Nat) → Option Tmp → Nat
  | [], _ => 0
  | (a, m) :: r, d => if d = some a then m else mdL r d
def cutLoc (k : Nat) : AV → AV
  | .loc j o => if j < k then .loc j o else .junk
  | .opt _ _ => .junk
  | a => a
def maskL (k : Nat) : List Bool → List AV → List AV
  | _, [] => []
  | [], a :: l => cutLoc k a :: maskL k [] l
  | true :: m, a :: l => cutLoc k a :: maskL k m l
  | false :: m, _ :: l => .junk :: maskL k m l
def St.cut (m : List Bool) (k : Nat) (s : St) : St := { sl := maskL k m s.sl, lo := s.lo.take k, h := s.h }
theorem maskL_len (k : Nat) : ∀ (m : List Bool) (l : List AV), (maskL k m l).length = l.length
  | _, [] => rfl
  | [], a :: l => by simp [maskL, maskL_len k [] l]
  | true :: m, a :: l => by simp [maskL, maskL_len k m l]
  | false :: m, a :: l => by simp [maskL, maskL_len k m l]
theorem maskL_get (k : Nat) : ∀ (m : List Bool) (l : List AV) (t : Nat) (h : t < l.length) (h' : t < (maskL k m l).length), (maskL k m l)[t] = .junk ∨ (maskL k m l)[t] = cutLoc k l[t]
  | _, [], t, h, _ => by simp at h
  | [], a :: l, 0, _, _ => .inr rfl
  | [], a :: l, t + 1, h, _ => by simpa [maskL] using maskL_get k [] l t (by simpa using h) (by simpa [maskL_len] using h)
  | true :: m, a :: l, 0, _, _ => .inr rfl
  | true :: m, a :: l, t + 1, h, _ => by simpa [maskL] using maskL_get k m l t (by simpa using h) (by simpa [maskL_len] using h)
  | false :: m, a :: l, 0, _, _ => .inl rfl
  | false :: m, a :: l, t + 1, h, _ => by simpa [maskL] using maskL_get k m l t (by simpa using h) (by simpa [maskL_len] using h)
section
variable {P : Program} {c : Cx} {Q : Exit → St → Prop} {s : St}
theorem In.cut {a : Act} {w : World} (hi : In c s a w) (m : List Bool) (k : Nat) : In c (s.cut m k) a w := by
  obtain ⟨G, L, sm, hg, hf, hL⟩ := hi
  have hlen := sm.ls.len
  refine ⟨G, L.take k, ⟨sm.hs, by simpa [St.cut, maskL_len] using sm.sz, fun t ht => ?_, sm.df, ?_⟩, hg, hf, fun b hb => hL b (List.mem_of_mem_take hb)⟩
  · have ht' : t < s.sl.length := by simpa [St.cut, maskL_len] using ht
    have h := sm.sl t ht'
    rcases maskL_get k m s.sl t ht' ht with e | e
    · show RepT G (L.take k) (maskL k m s.sl)[t] _
      rw [e]; exact RepT.junk _
    · show RepT G (L.take k) (maskL k m s.sl)[t] _
      rw [e]
      generalize s.sl[t] = x at h
      cases x with
      | loc j o =>
        simp only [cutLoc]
        split
        · rename_i hj
          obtain ⟨b, hb, hv⟩ := h
          exact ⟨b, by rw [List.getElem?_take, if_pos hj]; exact hb, hv⟩
        · exact RepT.junk _
      | opt b y => exact RepT.junk _
      | _ => exact h
  · refine ⟨by simp [St.cut, hlen], fun j b cs e e' => ?_, fun b hb => sm.ls.free b (List.mem_of_mem_take hb), sm.ls.nd.sublist (List.take_sublist k L)⟩
    simp only [St.cut] at e'
    rw [List.getElem?_take] at e e'
    split at e
    · rename_i hj
      rw [if_pos hj] at e'
      exact sm.ls.lo j b cs e e'
    · cases e
theorem awp_cut (m : List Bool) (k : Nat) {x : Code} (h : Awp P c x Q (s.cut m k)) : Awp P c x Q s := fun a w hi => h a w (hi.cut m k)
theorem awp_cond {x : Operand} {a b : Code} {t : Bool} (hc : s.ev x = .v (.bool t)) (h1 : t = true → Awp P c a Q s) (h2 : t = false → Awp P c b Q s) : Awp P c (.cond x a b) Q s := by
  intro ac w hi
  obtain ⟨G, L, sm, _⟩ := id hi
  have e := sm.evv hc
  cases t with
  | true => exact wp_cond_true e (h1 rfl ac w hi)
  | false => exact wp_cond_false e (h2 rfl ac w hi)
theorem awp_seqJ (m : List Bool) (k : Nat) {x y : Code} (J : St → Prop) (h : Awp P c x (thenQ (fun s' => J (s'.cut m k)) Q) s) (h2 : ∀ s, J s → Awp P c y Q s) : Awp P c (.seq x y) Q s := by
  refine awp_seq (awp_mono h fun e s' hq => ?_)
  cases e with
  | normal => exact awp_cut m k (h2 _ hq)
  | _ => exact hq
theorem awp_join (m : List Bool) (k : Nat) {x y : Code} (J : St → Prop) (h : Awp P c x (thenQ (fun s' => J (s'.cut m k)) Q) s) (h2 : ∀ s, J s → Awp P c y Q s) : Awp P c x (thenQ (Awp P c y Q) Q) s := by
  refine awp_mono h fun e s' hq => ?_
  cases e with
  | normal => exact awp_cut m k (h2 _ hq)
  | _ => exact hq
theorem awp_loopC (m : List Bool) (k : Nat) {x : Code} (I : Nat → St → Prop) (n : Nat) (h0 : I n (s.cut m k)) (round : ∀ n s, I n s → Awp P c x (thenQ (fun s' => ∃ j, j < n ∧ I j (s'.cut m k)) Q) s) : Awp P c (.loop x) Q s := by
  have key : Awp P c (.loop x) Q (s.cut m k) := by
    refine awp_loop (fun n s' => ∃ s'', I n s'' ∧ ∀ a w, In c s' a w → In c s'' a w) n ⟨_, h0, fun _ _ h => h⟩ ?_
    rintro n s' ⟨s'', hI, hle⟩ a w hi
    refine wp_mono (round n s'' hI a w (hle a w hi)) ?_
    rintro e a' w' ⟨s3, hq, hi3⟩
    refine ⟨s3, ?_, hi3⟩
    cases e with
    | normal => obtain ⟨j, hj, hI3⟩ := hq; exact ⟨j, hj, _, hI3, fun a w h => h.cut m k⟩
    | _ => exact hq
  exact awp_cut m k key
theorem awp_own (t z : Nat) {x : Code} {n' c' : Nat} (ht : s.sl.getD t .junk = .v (.slice none n' c')) (h0 : n' = 0 ∧ c' = 0) (h : ∀ k, s.h.T k = none → Awp P c x Q { s with sl := s.sl.set t (.row z [] (some k)), h := { s.h with T := upd s.h.T k (some (.tail 0)) } }) : Awp P c x Q s := by
  rintro a w ⟨G, L, sm, hg, hf, hL⟩
  obtain ⟨rfl, rfl⟩ := h0
  obtain ⟨hT, s1, g1, f1⟩ := sm.newTok (o := .tail 0) (.inl rfl)
  refine h G.nx hT a w ⟨G.newTk, L, ⟨s1.hs, by simpa using s1.sz, fun u hu => ?_, s1.df, s1.ls⟩, hg.trans g1, hf.trans f1, hL⟩
  have hu' : u < s.sl.length := by simpa using hu
  have h1 := s1.sl u hu'
  simp only [List.getElem_set]
  split
  · rename_i e
    subst e
    have hv : a.tmps.getD t undef = .slice none 0 0 := by
      have h2 := sm.sl t hu'
      rw [List.getD_eq_getElem?_getD, List.getElem?_eq_getElem hu'] at ht
      simp only [Option.getD_some] at ht
      rw [ht] at h2
      exact h2.v_inv
    rw [hv]
    refine RepT.of (.nil z _ ⟨by simp [Gh.newTk], ?_⟩)
    have : G.newTk.tl G.nx = some none := upd_same _ _ _
    rw [this]
    exact ⟨rfl, none, rfl⟩
  · exact h1
theorem awp_ownLoc (j i z : Nat) {x : Code} {cs : List AV} (hj : s.lo[j]? = some cs) (hi : cs[i]? = some (.v (.slice none 0 0))) (h : ∀ k, s.h.T k = none → Awp P c x Q { s with lo := s.lo.set j (cs.set i (.row z [] (some k))), h := { s.h with T := upd s.h.T k (some (.tail 0)) } }) : Awp P c x Q s := by
  rintro a w ⟨G, L, sm, hg, hf, hL⟩
  obtain ⟨hT, s1, g1, f1⟩ := sm.newTok (o := .tail 0) (.inl rfl)
  refine h G.nx hT a w ⟨G.newTk, L, ⟨s1.hs, s1.sz, s1.sl, s1.df, ⟨by simpa using s1.ls.len, fun u b ds e e' => ?_, s1.ls.free, s1.ls.nd⟩⟩, hg.trans g1, hf.trans f1, hL⟩
  by_cases hju : j = u
  · subst hju
    have hlt : j < s.lo.length := (List.getElem?_eq_some_iff.1 hj).1
    simp only [List.getElem?_set_self hlt, Option.some.injEq] at e'
    subst e'
    obtain ⟨vs, E, hh, hsz, hr⟩ := s1.ls.lo j b cs e hj
    have hil : i < cs.length := (List.getElem?_eq_some_iff.1 hi).1
    refine ⟨vs, E, hh, by simpa using hsz, by simpa using hr.1, fun q hq hq' => ?_⟩
    have hq2 : q < cs.length := by simpa using hq
    have h3 := hr.2 q hq2 hq'
    refine ⟨?_, h3.2⟩
    simp only [List.getElem_set]
    split
    · rename_i eiq
      subst eiq
      have h4 := h3.1
      rw [show cs[i] = AV.v (.slice none 0 0) by rw [List.getElem?_eq_getElem hq2] at hi; simpa using hi] at h4
      have hv := (RepT.of (L := []) h4).v_inv
      rw [hv]
      refine .nil z _ ⟨by simp [Gh.newTk], ?_⟩
      have : G.newTk.tl G.nx = some none := upd_same _ _ _
      rw [this]
      exact ⟨rfl, none, rfl⟩
    · exact h3.1
  · simp only [List.getElem?_set_ne hju] at e'
    exact s1.ls.lo u b ds e e'
theorem awp_seqR {ty : Nat → Option TyD} {all : Array Oper} (hty : TyOk P ty) {id : Nat} {y : Code} (md : Option Tmp → Nat) (h : ∀ K : St → Prop, (∀ s', Awp P c y Q s' → K s') → vOps P ty md all all.toList s K) : Awp P c (.seq (.region id all false) y) Q s :=
  awp_seq (awp_region hty md fun K hK => h K fun s' h' => hK s' h')
theorem awp_seqD {ty : Nat → Option TyD} {all : Array Oper} (hty : TyOk P ty) (hm : P.follows .mixedOrders = true) {id : Nat} {y : Code} (md : Option Tmp → Nat) {E0 : List Nat} {pl : List (Nat × List Nat × List Nat)} (n : Nat) (hn : s.sl.length = n)
    (hok : drawOk md all n E0 pl = true) (h : ∀ K : St → Prop, (∀ s', Awp P c y Q s' → K s') → vIdx P ty md all E0 s fun s1 => vRest P ty md all pl s1 K) : Awp P c (.seq (.region id all true) y) Q s :=
  awp_seq (awp_draw hty hm md n hn hok fun K hK => h K fun s' h' => hK s' h')
theorem inBlock_exit {id : Nat} (h : Q .normal s) : inBlockQ id Q (.exit id) s := by simp only [inBlockQ, if_true]; exact h
theorem inBlock_other {id id' : Nat} (h : id' ≠ id) (hq : Q (.exit id') s) : inBlockQ id Q (.exit id') s := by simp only [inBlockQ, if_neg h]; exact hq
theorem getD_enc {α : Type} (f : α → List AV) (l : List α) (k : Nat) (d : α) (h : k < l.length) : (l.map f).getD k [] = f (l.getD k d) := by
  simp [List.getD_eq_getElem?_getD, List.getElem?_eq_getElem h]
def isCallB (o : Oper) : Bool := match o.op with | .call { callee := .value _, .. } => true | _ => false
def bef : List Oper → List Oper
  | [] => []
  | o :: r => o :: bif isCallB o then [] else bef r
def aft : List Oper → List Oper
  | [] => []
  | o :: r => bif isCallB o then r else aft r
theorem bef_aft : ∀ l : List Oper, bef l ++ aft l = l
  | [] => rfl
  | o :: r => by
    simp only [bef, aft]
    cases isCallB o
    · simp [bef_aft r]
    · rfl
variable {ty : Nat → Option TyD} {md : Option Tmp → Nat} {all : Array Oper}
theorem gStep_mono {o : Oper} {sl : List AV} {lo : List (List AV)} {h : Hp} {K K' : List (List AV) → Hp → AV → Prop} (hk : ∀ lo h x, K lo h x → K' lo h x) (hv : gStep P ty md all o sl lo h K) : gStep P ty md all o sl lo h K' := by
  unfold gStep at hv ⊢
  split at hv
  · split at hv
    · unfold pickE at hv ⊢
      split at hv
      · exact ⟨hv.1, hk _ _ _ hv.2⟩
      · exact hv.elim
    · exact ⟨hv.1, vEff_mono hk hv.2⟩
  · split at hv
    · exact hv.elim
    · split at hv
      · unfold pickE at hv ⊢
        split at hv
        · exact ⟨hv.1, hv.2.1, hk _ _ _ hv.2.2⟩
        · exact hv.elim
      · cases hcv : isCallV o.op with
        | true =>
          simp only [hcv, cond_true] at hv ⊢
          exact ⟨fun hc => ⟨(hv.1 hc).1, vEff_mono (fun lo h x hx => ⟨hx.1, hk _ _ _ hx.2⟩) (hv.1 hc).2⟩, fun hc => hk _ _ _ (hv.2 hc)⟩
        | false =>
        simp only [hcv, cond_false] at hv ⊢
        split at hv
        · exact ⟨hv.1, hv.2.1, hk _ _ _ hv.2.2⟩
        · obtain ⟨x, h1, h2, h3⟩ := hv
          exact ⟨x, h1, h2, hk _ _ _ h3⟩
theorem vOps_mono : ∀ (l : List Oper) {s : St} {K K' : St → Prop} (_ : ∀ s, K s → K' s) (_ : vOps P ty md all l s K), vOps P ty md all l s K'
  | [], s, K, K', hk, h => hk s h
  | o :: r, s, K, K', hk, h => gStep_mono (fun _ _ _ hx => vOps_mono r hk hx) h
theorem vOps_app : ∀ (l l2 : List Oper) {s : St} {K : St → Prop} (_ : vOps P ty md all l s fun s' => vOps P ty md all l2 s' K), vOps P ty md all (l ++ l2) s K
  | [], l2, s, K, h => h
  | o :: r, l2, s, K, h => gStep_mono (fun _ _ _ hx => vOps_app r l2 hx) h
def vRem (P : Program) (ty : Nat → Option TyD) (md : Option Tmp → Nat) (all : Array Oper) (l : List Oper) (s : St) (N : St → Prop) : Prop := vOps P ty md all l s N
theorem vRem_go {l : List Oper} {N : St → Prop} (h : ∀ K1 : St → Prop, (∀ s', vRem P ty md all (aft l) s' N → K1 s') → vOps P ty md all (bef l) s K1) : vRem P ty md all l s N := by
  have := vOps_app (bef l) (aft l) (h _ fun _ h => h)
  rwa [bef_aft] at this
theorem awp_seqR2 (hty : TyOk P ty) {id : Nat} {y : Code} (md : Option Tmp → Nat) (h : ∀ K1 : St → Prop, (∀ s', vRem P ty md all (aft all.toList) s' (Awp P c y Q) → K1 s') → vOps P ty md all (bef all.toList) s K1) : Awp P c (.seq (.region id all false) y) Q s :=
  awp_seqR hty md fun K hK => vOps_mono _ hK (vRem_go h)
theorem awp_region2 (hty : TyOk P ty) {id : Nat} (md : Option Tmp → Nat) (h : ∀ K1 : St → Prop, (∀ s', vRem P ty md all (aft all.toList) s' (Q .normal) → K1 s') → vOps P ty md all (bef all.toList) s K1) : Awp P c (.region id all false) Q s :=
  awp_region hty md fun K hK => vOps_mono _ hK (vRem_go h)
theorem vIdx_mono : ∀ (l : List Nat) {s : St} {K K' : St → Prop} (_ : ∀ s, K s → K' s) (_ : vIdx P ty md all l s K), vIdx P ty md all l s K'
  | [], s, K, K', hk, h => hk s h
  | i :: r, s, K, K', hk, h => by
    simp only [vIdx, stepI] at h ⊢
    split at h
    · exact gStep_mono (fun _ _ _ hx => vIdx_mono r hk hx) h
    · exact h.elim
theorem stepI_mono {i : Nat} {K K' : St → Prop} (hk : ∀ s, K s → K' s) (h : stepI P ty md all i s K) : stepI P ty md all i s K' := by
  unfold stepI at h ⊢
  split at h
  · exact gStep_mono (fun _ _ _ hx => hk _ hx) h
  · exact h.elim
theorem vRest_mono : ∀ (r : List (Nat × List Nat × List Nat)) {s : St} {K K' : St → Prop} (_ : ∀ s, K s → K' s) (_ : vRest P ty md all r s K), vRest P ty md all r s K'
  | [], s, K, K', hk, h => hk s h
  | (l, R, E) :: r, s, K, K', hk, h => stepI_mono (fun s2 h2 => ⟨h2.1, vIdx_mono E (fun s3 h3 => vRest_mono r hk h3) h2.2⟩) h
def vRst (P : Program) (ty : Nat → Option TyD) (md : Option Tmp → Nat) (all : Array Oper) (r : List (Nat × List Nat × List Nat)) (s : St) (N : St → Prop) : Prop := vRest P ty md all r s N
def vMid (P : Program) (ty : Nat → Option TyD) (md : Option Tmp → Nat) (all : Array Oper) (R E : List Nat) (r : List (Nat × List Nat × List Nat)) (s : St) (N : St → Prop) : Prop := reL P ty md all R s ∧ vIdx P ty md all E s fun s3 => vRest P ty md all r s3 N
theorem vRst_go {l : Nat} {R E : List Nat} {r : List (Nat × List Nat × List Nat)} {N : St → Prop} (h : ∀ K1 : St → Prop, (∀ s', vMid P ty md all R E r s' N → K1 s') → stepI P ty md all l s K1) : vRst P ty md all ((l, R, E) :: r) s N := h _ fun _ h => h
theorem vMid_go {R E : List Nat} {r : List (Nat × List Nat × List Nat)} {N : St → Prop} (h1 : reL P ty md all R s) (h : ∀ K1 : St → Prop, (∀ s', vRst P ty md all r s' N → K1 s') → vIdx P ty md all E s K1) : vMid P ty md all R E r s N := ⟨h1, h _ fun _ h => h⟩
theorem awp_seqD2 (hty : TyOk P ty) (hm : P.follows .mixedOrders = true) {id : Nat} {y : Code} (md : Option Tmp → Nat) {E0 : List Nat} {pl : List (Nat × List Nat × List Nat)} (n : Nat) (hn : s.sl.length = n)
    (hok : drawOk md all n E0 pl = true) (h : ∀ K1 : St → Prop, (∀ s', vRst P ty md all pl s' (Awp P c y Q) → K1 s') → vIdx P ty md all E0 s K1) : Awp P c (.seq (.region id all true) y) Q s :=
  awp_seqD hty hm md n hn hok fun K hK => h _ fun s' h' => vRest_mono pl hK h'
theorem awp_draw2 (hty : TyOk P ty) (hm : P.follows .mixedOrders = true) {id : Nat} (md : Option Tmp → Nat) {E0 : List Nat} {pl : List (Nat × List Nat × List Nat)} (n : Nat) (hn : s.sl.length = n)
    (hok : drawOk md all n E0 pl = true) (h : ∀ K1 : St → Prop, (∀ s', vRst P ty md all pl s' (Q .normal) → K1 s') → vIdx P ty md all E0 s K1) : Awp P c (.region id all true) Q s :=
  awp_draw hty hm md n hn hok fun K hK => h _ fun s' h' => vRest_mono pl hK h'
end
def jnk : Nat → List AV → List AV
  | 0, l => l
  | n + 1, l => .junk :: jnk n l
def rl (b : Bool) : List Nat → List Bool
  | [] => []
  | n :: r => List.replicate n b ++ rl (!b) r
theorem jnk_zero (l : List AV) : jnk 0 l = l := rfl
theorem jnk_jnk : ∀ (n m : Nat) (l : List AV), jnk n (jnk m l) = jnk (n + m) l
  | 0, m, l => by rw [Nat.zero_add]; rfl
  | n + 1, m, l => by rw [show n + 1 + m = (n + m) + 1 by omega, jnk, jnk, jnk_jnk n m l]
theorem jnk_rep : ∀ n, List.replicate n AV.junk = jnk n []
  | 0 => rfl
  | n + 1 => by rw [List.replicate_succ, jnk_rep n]; rfl
theorem getD_jnk_lt : ∀ {n i : Nat} (l : List AV) (_ : i < n), (jnk n l).getD i .junk = .junk
  | 0, _, _, h => by omega
  | n + 1, 0, l, _ => rfl
  | n + 1, i + 1, l, h => by rw [jnk, List.getD_cons_succ]; exact getD_jnk_lt l (by omega)
theorem getD_jnk_ge : ∀ {n i : Nat} (l : List AV) (_ : n ≤ i), (jnk n l).getD i .junk = l.getD (i - n) .junk
  | 0, _, _, h => rfl
  | n + 1, 0, l, h => by omega
  | n + 1, i + 1, l, h => by rw [jnk, List.getD_cons_succ, getD_jnk_ge l (by omega), Nat.add_sub_add_right]
theorem set_jnk_lt : ∀ {n i : Nat} (l : List AV) (x : AV) (_ : i < n), (jnk n l).set i x = jnk i (x :: jnk (n - (i + 1)) l)
  | 0, _, _, _, h => by omega
  | n + 1, 0, l, x, _ => rfl
  | n + 1, i + 1, l, x, h => by rw [jnk, List.set_cons_succ, set_jnk_lt l x (by omega), jnk, Nat.add_sub_add_right]
theorem set_jnk_ge : ∀ {n i : Nat} (l : List AV) (x : AV) (_ : n ≤ i), (jnk n l).set i x = jnk n (l.set (i - n) x)
  | 0, _, _, _, h => rfl
  | n + 1, 0, l, x, h => by omega
  | n + 1, i + 1, l, x, h => by rw [jnk, List.set_cons_succ, set_jnk_ge l x (by omega), jnk, Nat.add_sub_add_right]
def keepL (k : Nat) : Nat → List AV → List AV
  | _, [] => []
  | m, a :: l => (if m % 2 = 1 then cutLoc k a else .junk) :: keepL k (m / 2) l
theorem keepL_nil (k m : Nat) : keepL k m [] = [] := rfl
theorem keepL_c1 {k m : Nat} (a : AV) (l : List AV) (h : m % 2 = 1) : keepL k m (a :: l) = cutLoc k a :: keepL k (m / 2) l := by rw [keepL, if_pos h]
theorem keepL_c0 {k m : Nat} (a : AV) (l : List AV) (h : m % 2 = 0) : keepL k m (a :: l) = jnk 1 (keepL k (m / 2) l) := by rw [keepL, if_neg (by omega)]; rfl
theorem keepL_jnk (k : Nat) : ∀ (m n : Nat) (l : List AV), keepL k m (jnk n l) = jnk n (keepL k (m / 2 ^ n) l)
  | m, 0, l => by rw [Nat.pow_zero, Nat.div_one]; rfl
  | m, n + 1, l => by rw [jnk, keepL, keepL_jnk k (m / 2) n l, jnk, Nat.div_div_eq_div_mul, Nat.pow_succ, Nat.mul_comm 2]; split <;> rfl
def St.keep (m k : Nat) (s : St) : St := { sl := keepL k m s.sl, lo := s.lo.take k, h := s.h }
/- Short words for what a run is made of. -/
section
variable {P : Program} {c : Cx} {Q : Exit → St → Prop} {s : St} {ty : Nat → Option TyD} {md : Option Tmp → Nat} {all : Array Oper} {id : Nat} {N n : St → Prop}
theorem wS (hty : TyOk P ty) {y : Code} (md : Option Tmp → Nat) (h : ∀ K1 : St → Prop, (∀ s', vRem P ty md all (aft all.toList) s' (Awp P c y Q) → K1 s') → vOps P ty md all (bef all.toList) s K1) : Awp P c (.seq (.region id all false) y) Q s := awp_seqR2 hty md h
theorem wR (hty : TyOk P ty) (md : Option Tmp → Nat) (h : ∀ K1 : St → Prop, (∀ s', vRem P ty md all (aft all.toList) s' (Q .normal) → K1 s') → vOps P ty md all (bef all.toList) s K1) : Awp P c (.region id all false) Q s := awp_region2 hty md h
theorem wG {l : List Oper} (h : ∀ K1 : St → Prop, (∀ s', vRem P ty md all (aft l) s' N → K1 s') → vOps P ty md all (bef l) s K1) : vRem P ty md all l s N := vRem_go h
theorem wH {l : Nat} {R E : List Nat} {r : List (Nat × List Nat × List Nat)} (h : ∀ K1 : St → Prop, (∀ s', vMid P ty md all R E r s' N → K1 s') → stepI P ty md all l s K1) : vRst P ty md all ((l, R, E) :: r) s N := vRst_go h
theorem wM {R E : List Nat} {r : List (Nat × List Nat × List Nat)} (h1 : reL P ty md all R s) (h : ∀ K1 : St → Prop, (∀ s', vRst P ty md all r s' N → K1 s') → vIdx P ty md all E s K1) : vMid P ty md all R E r s N := vMid_go h1 h
theorem xS {y : Code} (h : Awp P c (.seq (.region id all true) y) Q s) : Awp P c (.seq (.region id all true) y) Q s := h
theorem xR (h : Awp P c (.region id all true) Q s) : Awp P c (.region id all true) Q s := h
end
theorem acalls_in {P : Program} {ty : Nat → Option TyD} (hty : TyOk P ty) {f : Nat} {fn : Func} {code : Code} {args : List AV} {h : Hp} {R : AV → Hp → Prop} (hf : P.funcs[f]? = some fn) (hb : fn.body = some code) (hok : fnOk P f = true) (m : Nat) (hm : fn.ntmps - args.length = m)
    (hw : ∀ c : Cx, Awp P c code (retQ ty fn.results.toList R) ⟨args ++ jnk m [], [], h⟩) : ACalls P f args h R :=
  acalls_of hty hf hb hok fun c => by rw [hm, jnk_rep]; exact hw c
class Stq (P : Program) (ty : Nat → Option TyD) (A : Prop) (B : outParam Prop) (t : outParam Bool) : Prop where
  sound : t = true → B → A
class Stp (P : Program) (ty : Nat → Option TyD) (A : Prop) (B : outParam Prop) (t : outParam Bool) : Prop where
  sound : t = true → B → A
class Str (P : Program) (ty : Nat → Option TyD) (md : Option Tmp → Nat) (A : Prop) (N : outParam (St → Prop)) (V : outParam ((St → Prop) → Prop)) : Prop where
  sound : TyOk P ty → (∀ K1 : St → Prop, (∀ s', N s' → K1 s') → V K1) → A
section
variable {P : Program} {ty : Nat → Option TyD} {c : Cx} {Q : Exit → St → Prop} {s : St} {md : Option Tmp → Nat} {all : Array Oper} {N n : St → Prop}
instance sq_b {id : Nat} {x : Code} : Stq P ty (Awp P c (.block id x) Q s) (Awp P c x (inBlockQ id Q) s) true := ⟨fun _ => awp_block⟩
instance sq_n {l : List Oper} : Stq P ty (vRem P ty md all l s N) (N s) l.isEmpty := ⟨fun h hb => by obtain rfl := List.isEmpty_iff.1 h; exact hb⟩
instance sq_u : Stq P ty (vRst P ty md all [] s N) (N s) true := ⟨fun _ hb => hb⟩
instance sq_k : Stq P ty (Awp P c .skip Q s) (Q .normal s) true := ⟨fun _ => awp_skip⟩
instance sq_x {id : Nat} : Stq P ty (Awp P c (.exit id) Q s) (Q (.exit id) s) true := ⟨fun _ => awp_exit⟩
instance sq_q : Stq P ty (Awp P c .ret Q s) (Q .ret s) true := ⟨fun _ => awp_ret⟩
instance sq_t : Stq P ty (thenQ n Q .normal s) (n s) true := ⟨fun _ hb => hb⟩
instance sq_e {id : Nat} : Stq P ty (thenQ n Q (.exit id) s) (Q (.exit id) s) true := ⟨fun _ hb => hb⟩
instance sq_tq : Stq P ty (thenQ n Q .ret s) (Q .ret s) true := ⟨fun _ hb => hb⟩
instance sq_mq {id : Nat} : Stq P ty (inBlockQ id Q .ret s) (Q .ret s) true := ⟨fun _ hb => hb⟩
instance sq_m {id : Nat} : Stq P ty (inBlockQ id Q .normal s) (Q .normal s) true := ⟨fun _ hb => hb⟩
instance sq_o {id id' : Nat} : Stq P ty (inBlockQ id Q (.exit id') s) (Q (.exit id') s) (!(id' == id)) := ⟨fun h => inBlock_other (by simpa using h)⟩
instance sq_f {id : Nat} : Stq P ty (inBlockQ id Q (.exit id) s) (Q .normal s) true := ⟨fun _ => inBlock_exit⟩
instance sp_of {A B : Prop} {t : Bool} [h : Stq P ty A B t] : Stp P ty A B t := ⟨h.sound⟩
instance sp_1 {x y z : Code} : Stp P ty (Awp P c (.seq (.seq x y) z) Q s) (Awp P c (.seq x y) (thenQ (Awp P c z Q) Q) s) true := ⟨fun _ => awp_seq⟩
instance sp_2 {id : Nat} {x z : Code} : Stp P ty (Awp P c (.seq (.block id x) z) Q s) (Awp P c (.block id x) (thenQ (Awp P c z Q) Q) s) true := ⟨fun _ => awp_seq⟩
instance sp_3 {v : Operand} {x y z : Code} : Stp P ty (Awp P c (.seq (.cond v x y) z) Q s) (Awp P c (.cond v x y) (thenQ (Awp P c z Q) Q) s) true := ⟨fun _ => awp_seq⟩
instance sp_4 {x z : Code} : Stp P ty (Awp P c (.seq (.loop x) z) Q s) (Awp P c (.loop x) (thenQ (Awp P c z Q) Q) s) true := ⟨fun _ => awp_seq⟩
instance sp_5 {z : Code} : Stp P ty (Awp P c (.seq .skip z) Q s) (Awp P c .skip (thenQ (Awp P c z Q) Q) s) true := ⟨fun _ => awp_seq⟩
instance sp_6 {id : Nat} {z : Code} : Stp P ty (Awp P c (.seq (.exit id) z) Q s) (Awp P c (.exit id) (thenQ (Awp P c z Q) Q) s) true := ⟨fun _ => awp_seq⟩
instance sp_7 {z : Code} : Stp P ty (Awp P c (.seq .ret z) Q s) (Awp P c .ret (thenQ (Awp P c z Q) Q) s) true := ⟨fun _ => awp_seq⟩
instance sr_s {id : Nat} {y : Code} : Str P ty md (Awp P c (.seq (.region id all false) y) Q s) (fun s' => vRem P ty md all (aft all.toList) s' (Awp P c y Q)) (fun K => vOps P ty md all (bef all.toList) s K) := ⟨fun hty => wS hty md⟩
instance sr_r {id : Nat} : Str P ty md (Awp P c (.region id all false) Q s) (fun s' => vRem P ty md all (aft all.toList) s' (Q .normal)) (fun K => vOps P ty md all (bef all.toList) s K) := ⟨fun hty => wR hty md⟩
instance sr_g {l : List Oper} : Str P ty md (vRem P ty md all l s N) (fun s' => vRem P ty md all (aft l) s' N) (fun K => vOps P ty md all (bef l) s K) := ⟨fun _ => wG⟩
instance sr_h {l : Nat} {R E : List Nat} {r : List (Nat × List Nat × List Nat)} : Str P ty md (vRst P ty md all ((l, R, E) :: r) s N) (fun s' => vMid P ty md all R E r s' N) (fun K => stepI P ty md all l s K) := ⟨fun _ => wH⟩
end
end Go.Proofs.YtpnfkfbapfnboaaGreatDoor

