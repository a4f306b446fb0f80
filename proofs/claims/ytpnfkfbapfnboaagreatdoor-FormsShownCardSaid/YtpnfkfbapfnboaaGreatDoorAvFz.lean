/- Written arrays that are done stay from then on: a change of what is told, not of memory. -/
import Derived.Test.YtpnfkfbapfnboaaGreatDoorAvRun
namespace Go.Proofs.YtpnfkfbapfnboaaGreatDoor
open Go
set_option linter.unusedVariables false
set_option linter.unusedSimpArgs false
theorem ACalls.gup {P : Program} {f : Nat} {args : List AV} {h : Hp} {R R2 : AV → Hp → Prop} (hc : ACalls P f args h R)
    (hr : ∀ r h' G w v, R r h' → HSim G h' w → Rep G r v → ∃ r2 h2 G', R2 r2 h2 ∧ GLe G G' ∧ Fr G h' w G' h2 w ∧ HSim G' h2 w ∧ Rep G' r2 v) : ACalls P f args h R2 := by
  refine ⟨hc.ok, fun G w vs hs hl ha => (hc.calls G w vs hs hl ha).mono ?_⟩
  rintro e w' ⟨r, h', G', v, rfl, hR, g1, f1, s1, r1⟩
  obtain ⟨r2, h2, G2, hR2, g2, f2, s2, rr⟩ := hr r h' G' w' v hR s1 r1
  exact ⟨r2, h2, G2, v, rfl, hR2, g1.trans g2, f1.trans f2, s2, rr⟩
theorem ACalls.weakArgs {P : Program} {f : Nat} {args args' : List AV} {h : Hp} {R : AV → Hp → Prop} (hc : ACalls P f args h R) (hl : args'.length = args.length)
    (hw : ∀ j (a : j < args'.length) (b : j < args.length), Weak args'[j] args[j]) : ACalls P f args' h R :=
  ⟨hc.ok, fun G w vs hs hv ha => hc.calls G w vs hs (by omega) fun j hj => hw j (by omega) hj _ _ (ha j (by omega))⟩
def Fzs (T : Nat → Option TO) (S : Nat → Prop) (G G' : Gh) : Prop :=
  ∀ k z xs x, S k → T k = some (.cont z xs) → Rep G (.arr z k xs.length) x → ∀ xs' : List (List AV), xs'.length = xs.length → (∀ y ∈ xs', y.length = z) → (∀ us, RepL G xs.flatten us → RepL G' xs'.flatten us) → Rep G' (.row z xs' none) x
theorem HSim.freeze {G : Gh} {h h2 : Hp} {w : World} (hs : HSim G h w) (S : Nat → Prop) (hH : h2.H = h.H) (h1 : ∀ k, S k → h2.T k = none) (h0 : ∀ k, ¬ S k → h2.T k = h.T k) :
    ∃ G', GLe G G' ∧ Fr G h w G' h2 w ∧ HSim G' h2 w ∧ Fzs h.T S G G' := by
  classical
  let B : Nat → Nat → Prop := fun g o => ∃ k t z xs, S k ∧ h.T k = some (.cont z xs) ∧ G.tl k = some (some t) ∧ t.g = g ∧ o < xs.length * z
  let G' : Gh := { val := fun g o => match G.val g o with | some x => some x | none => if B g o then cellT w g o else none, at_ := G.at_, tl := fun k => if S k then none else G.tl k, nx := G.nx }
  have hval : ∀ g o, ¬ B g o → G'.val g o = G.val g o := fun g o hb => by
    show (match G.val g o with | some x => some x | none => if B g o then cellT w g o else none) = _
    cases G.val g o with
    | some x => rfl
    | none => simp only [if_neg hb]
  have hvalB : ∀ g o, B g o → G.val g o = none → G'.val g o = cellT w g o := fun g o hb e => by
    show (match G.val g o with | some x => some x | none => if B g o then cellT w g o else none) = _
    rw [e]; simp only [if_pos hb]
  have htl : ∀ k, ¬ S k → G'.tl k = G.tl k := fun k hk => by show (if S k then none else G.tl k) = _; rw [if_neg hk]
  have htl1 : ∀ k, S k → G'.tl k = none := fun k hk => by show (if S k then none else G.tl k) = _; rw [if_pos hk]
  have hle : GLe G G' := ⟨fun g o x e => by
      show (match G.val g o with | some x => some x | none => if B g o then cellT w g o else none) = _
      rw [e], fun _ _ e => e, Nat.le_refl _, fun k _ => by
      by_cases hk : S k
      · rw [htl1 k hk]; exact .dead _
      · rw [htl k hk]; exact .same _⟩
  have hTn : ∀ k, h2.T k ≠ none → ¬ S k ∧ h.T k ≠ none := fun k hk => by
    have hS : ¬ S k := fun hS => hk (h1 k hS)
    exact ⟨hS, by rw [← h0 k hS]; exact hk⟩
  have hBown : ∀ g o, B g o → Own G h g := by
    rintro g o ⟨k, t, z, xs, _, hT, ht, rfl, _⟩
    exact .inr ⟨k, t, by rw [hT]; simp, ht, rfl⟩
  have hown : ∀ b, Own G' h2 b → Own G h b := by
    rintro b (⟨i, hi, e⟩ | ⟨k, t, hk, e, hg⟩)
    · exact .inl ⟨i, by rw [← hH]; exact hi, e⟩
    · obtain ⟨hS, hk'⟩ := hTn k hk
      rw [htl k hS] at e
      exact .inr ⟨k, t, hk', e, hg⟩
  refine ⟨G', hle, ⟨rfl, rfl, rfl, Nat.le_refl _, fun b _ hn => ⟨rfl, fun o => hn (hown b o), fun o => hval b o fun hb => hn (hBown b o hb)⟩⟩, ?_, ?_⟩
  · refine ⟨fun g o x e => ?_, fun i ob e => ?_, fun i j b hi hj => ?_, fun k m e => ?_, fun k l s t hk hl e e' => ?_, fun k i t hk hi e => ?_, hs.fat, fun k hk => ?_⟩
    · by_cases hb : B g o
      · cases hv : G.val g o with
        | some y =>
          rw [hle.val g o y hv] at e
          cases e
          exact hs.val _ _ _ hv
        | none => rw [hvalB g o hb hv] at e; exact e
      · rw [hval g o hb] at e; exact hs.val _ _ _ e
    · rw [hH] at e
      obtain ⟨b, o, x, y, r, q⟩ := hs.obj i ob e
      refine ⟨b, o, x, y, r.mono hle, fun o' => ?_⟩
      rw [hval b o' ?_]
      · exact q o'
      · rintro ⟨k, t, z, xs, _, hT, ht, rfl, _⟩
        exact hs.tobj k i t (by rw [hT]; simp) (by rw [e]; simp) ht x
    · rw [hH] at hi hj
      exact hs.inj i j b hi hj
    · obtain ⟨hS, hk'⟩ := hTn k (by rw [e]; simp)
      rw [h0 k hS] at e
      refine (hs.tok k m e).move hle (htl k hS) fun t ht => ⟨rfl, fun o => hval t.g o ?_⟩
      rintro ⟨k', t', z, xs, hS', hT', ht', hg, _⟩
      have := hs.tinj k k' t t' hk' (by rw [hT']; simp) ht ht' hg.symm
      subst this
      exact hS hS'
    · obtain ⟨hS, hk'⟩ := hTn k hk
      obtain ⟨hS', hl'⟩ := hTn l hl
      rw [htl k hS] at e; rw [htl l hS'] at e'
      exact hs.tinj k l s t hk' hl' e e'
    · obtain ⟨hS, hk'⟩ := hTn k hk
      rw [htl k hS] at e
      rw [hH] at hi
      exact hs.tobj k i t hk' hi e
    · by_cases hS : S k
      · exact htl1 k hS
      · rw [htl k hS]; exact hs.ftl k hk
  · intro k z xs x hS hT hr xs' hl hz hus
    cases hr with
    | arr _ _ _ a m c ha =>
    obtain ⟨hkk, ⟨a', c', e1, hcc, hgg⟩, hm⟩ := ha
    simp only [Value.slice.injEq] at e1
    obtain ⟨rfl, rfl, rfl⟩ := e1
    have hemp : ∀ o c, 0 ≤ c → xs = [] → Rep G' (.row z xs' none) (.slice (some ⟨o, 0, none⟩) xs.length c) := fun o c hc he => by
      subst he
      cases xs' with
      | nil => exact .row _ [] _ _ _ _ _ (fun _ => undef) rfl (by simp) (by simp) (fun j hj => by simp at hj) (fun j hj => by simp at hj) (fun j hj => by simp at hj) trivial
      | cons => simp at hl
    rcases hs.tok k _ hT with ⟨e2, he⟩ | ⟨t, vs, E, e2, htm, htp, hth, hts, htc, htcm, hvn, htz, hxz, hrr⟩
    · rcases hgg with ⟨rfl, hn0⟩ | ⟨g, rfl⟩
      · subst he
        rw [e2] at hm
        obtain ⟨_, ad, e3⟩ := hm
        simp only [Value.slice.injEq] at e3
        obtain ⟨_, _, rfl⟩ := e3
        cases xs' with
        | nil => exact .nil z none trivial
        | cons => simp at hl
      · exact hemp _ _ (Nat.zero_le _) he
    · rw [e2] at hm
      obtain ⟨e3, rfl⟩ := hm.2 htm.symm
      simp only [Value.slice.injEq, true_and] at e3
      obtain ⟨rfl, rfl⟩ := e3
      have hrx := hus _ hrr
      have hfl := flatten_len hxz
      have hfl' := flatten_len hz
      have hlz : xs'.length * t.z = xs.length * t.z := by rw [hl]
      have hsz : xs.flatten.length ≤ vs.toList.length := by
        have := hrr.1
        rw [List.length_take] at this
        omega
      refine .row _ _ _ _ _ _ _ (fun j => vs.toList.getD j undef) hl (by omega) hz (fun j hj => ?_) (fun j hj => ?_) (fun j hj => ?_) trivial
      · have hjv : j < vs.toList.length := by omega
        have hB : B t.g j := ⟨k, t, t.z, xs, hS, by rw [htz]; exact hT, e2, rfl, by rw [htz]; exact hj⟩
        rw [Nat.zero_add, hvalB _ _ hB (hvn j)]
        rw [cellT_of hth]
        simp only [List.getD_eq_getElem?_getD]
        rw [List.getElem?_eq_getElem hjv]
        simp
      · have hjv : j < vs.toList.length := by omega
        have h2 := (hrx.2 j hj (by rw [hrx.1]; exact hj)).1
        rw [List.getElem_take] at h2
        simpa only [List.getD_eq_getElem?_getD, List.getElem?_eq_getElem hjv, Option.getD_some] using h2
      · have hjv : j < vs.toList.length := by omega
        have h2 := (hrx.2 j (by omega) (by rw [hrx.1]; omega)).2
        rw [List.getElem_take] at h2
        simpa only [List.getD_eq_getElem?_getD, List.getElem?_eq_getElem hjv, Option.getD_some] using h2
theorem RepL.flat {G G' : Gh} {z : Nat} : ∀ {xs xs' : List (List AV)} (_ : xs'.length = xs.length) (_ : ∀ x ∈ xs, x.length = z) (_ : ∀ i (a : i < xs.length) (b : i < xs'.length), ∀ us, RepL G xs[i] us → RepL G' xs'[i] us) (us : List Value), RepL G xs.flatten us → RepL G' xs'.flatten us
  | [], [], _, _, _, us, h => by cases us with | nil => exact RepL.nil _ | cons => have := h.1; simp at this
  | [], _ :: _, h, _, _, _, _ => by simp at h
  | _ :: _, [], h, _, _, _, _ => by simp at h
  | x :: xs, x' :: xs', hl, hz, hh, us, h => by
    have h1 := (h.take x.length)
    have h2 := (h.drop x.length)
    simp only [List.flatten_cons, List.take_left, List.drop_left] at h1 h2
    have := (hh 0 (by simp) (by simp) _ h1).append (RepL.flat (xs := xs) (xs' := xs') (by simpa using hl) (fun y hy => hz y (by simp [hy])) (fun i a b => hh (i + 1) (by simp; omega) (by simp; omega)) _ h2)
    rw [List.take_append_drop] at this
    exact this
theorem Rep.rowFlat {G G' : Gh} (hle : GLe G G') {z : Nat} {xs xs' : List (List AV)} {k : Option Nat} {x : Value} (h : Rep G (.row z xs k) x) (hl : xs'.length = xs.length) (hz : ∀ y ∈ xs', y.length = z) (hus : ∀ us, RepL G xs.flatten us → RepL G' xs'.flatten us) : Rep G' (.row z xs' none) x := by
  cases h with
  | nil => cases xs' with | nil => exact .nil z none trivial | cons => simp at hl
  | nilA _ a => cases xs' with | nil => exact .nilA z a | cons => simp at hl
  | row _ _ _ g o n c u hn hc hxz hu hr h1 ht =>
    have hfl := flatten_len hxz
    have hfl' := flatten_len hz
    have hh := hus _ (RepL.of_fun u hr fun j hj => h1 j (by rw [hfl, hn] at hj; exact hj))
    refine .row z xs' none g o n c u (hl.trans hn) hc hz (fun j hj => hle.val _ _ _ (hu j hj)) (fun j hj => ?_) h1 trivial
    have h2 := (hh.2 j hj (by rw [hh.1]; exact hj)).1
    simpa only [List.getElem_map, List.getElem_range] using h2
end Go.Proofs.YtpnfkfbapfnboaaGreatDoor

