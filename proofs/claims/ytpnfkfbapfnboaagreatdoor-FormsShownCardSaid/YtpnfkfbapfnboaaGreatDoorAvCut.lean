/- A written array of which the head stays: the array goes on under a new name. -/
import Derived.Test.YtpnfkfbapfnboaaGreatDoorAvMap
namespace Go.Proofs.YtpnfkfbapfnboaaGreatDoor
open Go
set_option linter.unusedVariables false
set_option linter.unusedSimpArgs false
def Gh.reTk (G : Gh) (k : Nat) (t : Option Tail) : Gh := { G with tl := upd (upd G.tl k none) G.nx (some t), nx := G.nx + 1 }
theorem HSim.free_nx {G : Gh} {h : Hp} {w : World} (hs : HSim G h w) : h.T G.nx = none := by
  cases e : h.T G.nx with
  | none => rfl
  | some m => exact absurd (hs.ftl G.nx (Nat.le_refl _)) (hs.tok _ m e).tl
theorem Gh.reTk_le {G : Gh} (k : Nat) (t : Option Tail) : GLe G (G.reTk k t) := ⟨fun _ _ _ e => e, fun _ _ e => e, by simp [Gh.reTk], fun j hj => by
  simp only [Gh.reTk]
  rw [upd_other _ _ (show j ≠ G.nx by omega)]
  by_cases e : j = k
  · subst e; rw [upd_same]; exact .dead _
  · rw [upd_other _ _ e]; exact .same _⟩
theorem HSim.retok {G : Gh} {h : Hp} {w w' : World} (hs : HSim G h w) {k z0 : Nat} {xs0 : List (List AV)} (hT : h.T k = some (.cont z0 xs0)) {t : Tail} (htl : G.tl k = some (some t)) {ys : List (List AV)} {arr : Array Value} {E : TypeId}
    (hb : ∀ b, b < w.heap.size → b ≠ t.g → w'.heap[b]? = w.heap[b]?) (hB : w'.heap[t.g]? = some (.cells arr E (0, 0))) (hsz : arr.size = t.c * t.z) (hzy : ∀ y ∈ ys, y.length = t.z) (hr : RepL G ys.flatten (arr.toList.take ys.flatten.length)) (hc : ys.length ≤ t.c) (hc0 : 0 < t.c) (hcm : t.c ≤ maxLen)
    (h1 : w'.os = w.os) (h2 : w'.tape = w.tape) (h3 : w'.output = w.output) (h4 : w.heap.size ≤ w'.heap.size) :
    HSim (G.reTk k (some ⟨t.g, ys.length, t.z, t.c⟩)) { h with T := upd (upd h.T k none) G.nx (some (.cont t.z ys)) } w' ∧ Fr G h w (G.reTk k (some ⟨t.g, ys.length, t.z, t.c⟩)) { h with T := upd (upd h.T k none) G.nx (some (.cont t.z ys)) } w' ∧
      Rep (G.reTk k (some ⟨t.g, ys.length, t.z, t.c⟩)) (.arr t.z G.nx ys.length) (.slice (some ⟨t.g, 0, none⟩) ys.length t.c) := by
  have hle := Gh.reTk_le (G := G) k (some ⟨t.g, ys.length, t.z, t.c⟩)
  have hkT : h.T k ≠ none := by rw [hT]; simp
  have hnx := hs.free_nx
  have hkn : k ≠ G.nx := fun e => by rw [e, hnx] at hT; cases hT
  have hown0 : Own G h t.g := .inr ⟨k, t, hkT, htl, rfl⟩
  have hval : ∀ o, G.val t.g o = none := by
    rcases hs.tok k _ hT with ⟨e, _⟩ | ⟨t', _, _, e, _, _, _, _, _, _, hv, _⟩
    · rw [e] at htl; cases htl
    · rw [e] at htl; cases htl; exact hv
  have hnew : (G.reTk k (some ⟨t.g, ys.length, t.z, t.c⟩)).tl G.nx = some (some ⟨t.g, ys.length, t.z, t.c⟩) := upd_same _ _ _
  have hold : ∀ l, l ≠ G.nx → l ≠ k → (G.reTk k (some ⟨t.g, ys.length, t.z, t.c⟩)).tl l = G.tl l := fun l a b => by
    show upd (upd G.tl k none) G.nx _ l = _
    rw [upd_other _ _ a, upd_other _ _ b]
  have hTo : ∀ l, upd (upd h.T k none) G.nx (some (.cont t.z ys)) l ≠ none → l ≠ G.nx → l ≠ k ∧ h.T l ≠ none := fun l hl a => by
    rw [upd_other _ _ a] at hl
    by_cases e : l = k
    · subst e; rw [upd_same] at hl; exact absurd rfl hl
    · rw [upd_other _ _ e] at hl; exact ⟨e, hl⟩
  have hown : ∀ b, Own (G.reTk k (some ⟨t.g, ys.length, t.z, t.c⟩)) { h with T := upd (upd h.T k none) G.nx (some (.cont t.z ys)) } b → Own G h b := by
    rintro b (⟨i, hi, e⟩ | ⟨l, t', hl, e, hg⟩)
    · exact .inl ⟨i, hi, e⟩
    · by_cases a : l = G.nx
      · subst a; rw [hnew] at e; cases e; rw [← hg]; exact hown0
      · obtain ⟨q1, q2⟩ := hTo l hl a
        rw [hold l a q1] at e
        exact .inr ⟨l, t', q2, e, hg⟩
  have hgt : t.g < w.heap.size := hs.own_lt hown0
  refine ⟨⟨fun g o x e => ?_, fun i ob e => ?_, hs.inj, fun l n e => ?_, fun l j t1 t2 hl hj e e' hg => ?_, fun l i t1 hl hi e e' => ?_, fun i hi => hs.fat i (by have : G.nx + 1 ≤ i := hi; omega), fun l hl => ?_⟩,
    ⟨h1, h2, h3, h4, fun b hlt hn => ⟨hb b hlt (fun e => hn (e ▸ hown0)), fun o' => hn (hown b o'), fun _ => rfl⟩⟩, ?_⟩
  · have e' : G.val g o = some x := e
    have hne : g ≠ t.g := fun e2 => by rw [e2, hval] at e'; cases e'
    rw [cellT_at (hb g (hs.val_lt e') hne)]; exact hs.val g o x e'
  · obtain ⟨b, o, x, y, r, q⟩ := hs.obj i ob e
    have hne : b ≠ t.g := fun e2 => hs.tobj k i t hkT (by rw [e]; simp) htl (e2 ▸ x)
    exact ⟨b, o, x, by rw [hb b (Array.getElem?_eq_some_iff.1 y).1 hne]; exact y, r.mono hle, q⟩
  · by_cases a : l = G.nx
    · subst a
      simp only [upd_same, Option.some.injEq] at e
      subst e
      exact .inr ⟨_, arr, E, hnew, rfl, hc0, hB, hsz, hc, hcm, hval, rfl, hzy, hr.mono hle⟩
    · obtain ⟨q1, q2⟩ := hTo l (fun e9 => by
        have e2 : upd (upd h.T k none) G.nx _ l = some n := e
        rw [e9] at e2; cases e2) a
      simp only [upd_other _ _ a, upd_other _ _ q1] at e
      refine (hs.tok l n e).move hle (hold l a q1) fun t1 e1 => ⟨?_, fun _ => rfl⟩
      have hne : t1.g ≠ t.g := fun e2 => q1 (hs.tinj l k t1 t q2 hkT e1 htl e2)
      obtain ⟨vs, E', hv⟩ := (hs.tok l n e).blk e1
      rw [hb _ (Array.getElem?_eq_some_iff.1 hv).1 hne]
  · by_cases a : l = G.nx <;> by_cases b : j = G.nx
    · rw [a, b]
    · subst a
      obtain ⟨q1, q2⟩ := hTo j hj b
      rw [hnew] at e; cases e
      rw [hold j b q1] at e'
      exact absurd (hs.tinj j k t2 t q2 hkT e' htl hg.symm) q1
    · subst b
      obtain ⟨q1, q2⟩ := hTo l hl a
      rw [hnew] at e'; cases e'
      rw [hold l a q1] at e
      exact absurd (hs.tinj l k t1 t q2 hkT e htl hg) q1
    · obtain ⟨q1, q2⟩ := hTo l hl a
      obtain ⟨r1, r2⟩ := hTo j hj b
      rw [hold l a q1] at e
      rw [hold j b r1] at e'
      exact hs.tinj l j t1 t2 q2 r2 e e' hg
  · by_cases a : l = G.nx
    · subst a
      rw [hnew] at e; cases e
      exact hs.tobj k i t hkT hi htl e'
    · obtain ⟨q1, q2⟩ := hTo l hl a
      rw [hold l a q1] at e
      exact hs.tobj l i t1 q2 hi e e'
  · have hl' : G.nx + 1 ≤ l := hl
    by_cases e : l = k
    · subst e
      show upd (upd G.tl l none) G.nx _ l = none
      rw [upd_other _ _ (by omega), upd_same]
    · rw [hold l (by omega) e]; exact hs.ftl l (by omega)
  · exact rep_arr hnew (by simp [Gh.reTk]) hc
theorem HSim.retok0 {G : Gh} {h : Hp} {w : World} (hs : HSim G h w) {k z0 z : Nat} {xs0 : List (List AV)} (hT : h.T k = some (.cont z0 xs0)) (htl : G.tl k = some none) :
    HSim (G.reTk k none) { h with T := upd (upd h.T k none) G.nx (some (.cont z [])) } w ∧ Fr G h w (G.reTk k none) { h with T := upd (upd h.T k none) G.nx (some (.cont z [])) } w := by
  have hle := Gh.reTk_le (G := G) k none
  have hnew : (G.reTk k none).tl G.nx = some none := upd_same _ _ _
  have hold : ∀ l, l ≠ G.nx → l ≠ k → (G.reTk k none).tl l = G.tl l := fun l a b => by
    show upd (upd G.tl k none) G.nx _ l = _
    rw [upd_other _ _ a, upd_other _ _ b]
  have hTo : ∀ l, upd (upd h.T k none) G.nx (some (.cont z [])) l ≠ none → l ≠ G.nx → l ≠ k ∧ h.T l ≠ none := fun l hl a => by
    rw [upd_other _ _ a] at hl
    by_cases e : l = k
    · subst e; rw [upd_same] at hl; exact absurd rfl hl
    · rw [upd_other _ _ e] at hl; exact ⟨e, hl⟩
  have hown : ∀ b, Own (G.reTk k none) { h with T := upd (upd h.T k none) G.nx (some (.cont z [])) } b → Own G h b := by
    rintro b (⟨i, hi, e⟩ | ⟨l, t', hl, e, hg⟩)
    · exact .inl ⟨i, hi, e⟩
    · by_cases a : l = G.nx
      · subst a; rw [hnew] at e; cases e
      · obtain ⟨q1, q2⟩ := hTo l hl a
        rw [hold l a q1] at e
        exact .inr ⟨l, t', q2, e, hg⟩
  refine ⟨⟨hs.val, fun i ob e => ?_, hs.inj, fun l n e => ?_, fun l j t1 t2 hl hj e e' hg => ?_, fun l i t1 hl hi e e' => ?_, fun i hi => hs.fat i (by have : G.nx + 1 ≤ i := hi; omega), fun l hl => ?_⟩, ⟨rfl, rfl, rfl, Nat.le_refl _, fun b _ hn => ⟨rfl, fun o' => hn (hown b o'), fun _ => rfl⟩⟩⟩
  · obtain ⟨b, o, x, y, r, q⟩ := hs.obj i ob e
    exact ⟨b, o, x, y, r.mono hle, q⟩
  · by_cases a : l = G.nx
    · subst a
      simp only [upd_same, Option.some.injEq] at e
      subst e
      exact .inl ⟨hnew, rfl⟩
    · obtain ⟨q1, q2⟩ := hTo l (fun e9 => by
        have e2 : upd (upd h.T k none) G.nx _ l = some n := e
        rw [e9] at e2; cases e2) a
      simp only [upd_other _ _ a, upd_other _ _ q1] at e
      exact (hs.tok l n e).move hle (hold l a q1) fun t1 e1 => ⟨rfl, fun _ => rfl⟩
  · by_cases a : l = G.nx
    · subst a; rw [hnew] at e; cases e
    · by_cases b : j = G.nx
      · subst b; rw [hnew] at e'; cases e'
      · obtain ⟨q1, q2⟩ := hTo l hl a
        obtain ⟨r1, r2⟩ := hTo j hj b
        rw [hold l a q1] at e
        rw [hold j b r1] at e'
        exact hs.tinj l j t1 t2 q2 r2 e e' hg
  · by_cases a : l = G.nx
    · subst a; rw [hnew] at e; cases e
    · obtain ⟨q1, q2⟩ := hTo l hl a
      rw [hold l a q1] at e
      exact hs.tobj l i t1 q2 hi e e'
  · have hl' : G.nx + 1 ≤ l := hl
    by_cases e : l = k
    · subst e
      show upd (upd G.tl l none) G.nx _ l = none
      rw [upd_other _ _ (by omega), upd_same]
    · rw [hold l (by omega) e]; exact hs.ftl l (by omega)
section
variable {P : Program} {c : Cx} {o : Oper} {s : St} {ty : Nat → Option TyD}
theorem a_cut (hty : TyOk P ty) {t : Nat} {x : Operand} {lo hi : Option Operand} (ho : o.op = .slice t x lo hi none) {e : TyD} (he : elemD ty t = some e) {z k m : Nat} (hx : s.ev x = .arr z k m) {j : Int} (hl : s.bnd lo 0 = some 0) (hh : s.bnd hi m = some j)
    {xs : List (List AV)} (hT : s.h.T k = some (.cont z xs)) (hm : xs.length = m) (h0 : 0 ≤ j) (h1 : j ≤ m) {K : St → Prop}
    (hK : ∀ q, s.h.T q = none → K ({ s with h := { s.h with T := upd (upd s.h.T k none) q (some (.cont z (xs.take j.toNat))) } }.put o.dst (.arr z q j.toNat))) : Aop P c o s K := by
  rintro a w ⟨G, L, sm, hg, hf, hL⟩ Kc Qc hk
  obtain ⟨u, hu, hue⟩ := elemD_info hty he
  have hlo := sm.bnd hl
  have hhi := sm.bnd hh
  have hxr0 := sm.eve hx
  generalize hq : a.eval x = q at hxr0
  have hxr : Rep G (.arr z k m) q := hxr0
  cases hxr with
  | arr _ _ _ ad m' cc ha =>
  obtain ⟨hkk, ⟨b', c', e1, hcc, hgg⟩, hmt⟩ := ha
  simp only [Value.slice.injEq] at e1
  obtain ⟨rfl, rfl, rfl⟩ := e1
  have hb := bounds_run (P := P) true m' cc _ _ 0 j hlo hhi (Int.le_refl _) h0 (by omega) w
  have hrun : (execOp a.eval o).run P w = .ok (.value (.slice ad j.toNat cc)) w := by
    cases ad with
    | none => simp only [execOp, ho, hq, Instr.sliceAt, Sem.run_bind, run_underlying hu, Result.andThen_ok, Instr.slice, Option.map_none, hb, sizeOf_run hue, Sem.run_pure]; simp
    | some ad' =>
      obtain ⟨g, rfl⟩ : ∃ g, ad' = ⟨g, 0, none⟩ := by
        rcases hgg with ⟨h, _⟩ | ⟨g, h⟩
        · cases h
        · exact ⟨g, by simpa using h⟩
      simp only [execOp, ho, hq, Instr.sliceAt, Sem.run_bind, run_underlying hu, Result.andThen_ok, Instr.slice, Option.map_none, hb, sizeOf_run hue, Sem.run_pure]
      simp [Addr.add_lit]
  unfold Oper.wp
  rw [hrun]
  rcases sm.hs.tok k _ hT with ⟨htl, hxe⟩ | ⟨tt, vs, E, htl, htm, hc0, hth, hts, htc, htcm, htf, htz, hzx, hrr⟩
  · subst hxe
    rw [htl] at hmt
    obtain ⟨rfl, ad2, e2⟩ := hmt
    simp only [Value.slice.injEq, true_and] at e2
    obtain ⟨rfl, rfl⟩ := e2
    obtain rfl : j = 0 := by omega
    obtain ⟨s1, f1⟩ := sm.hs.retok0 (z := z) hT htl
    have hle := Gh.reTk_le (G := G) k none
    have h2 := hK G.nx sm.hs.free_nx
    simp only [List.take_nil, Int.toNat_zero] at h2
    refine hk _ _ _ h2 (In.put (s := { s with h := { s.h with T := upd (upd s.h.T k none) G.nx (some (.cont z [])) } }) ⟨s1, sm.sz, fun t ht => (sm.sl t ht).mono hle, sm.df, sm.ls.fr hle f1⟩ (hg.trans hle) (hf.trans f1) hL o.dst (RepT.of (.arr _ _ _ _ _ _ ⟨by simp [Gh.reTk], ⟨_, _, rfl, by simp, ?_⟩, ?_⟩)))
    · rcases hgg with ⟨h, _⟩ | h
      · exact .inl ⟨h, rfl⟩
      · exact .inr h
    · have : (G.reTk k none).tl G.nx = some none := upd_same _ _ _
      rw [this]; exact ⟨rfl, _, rfl⟩
  · rw [htl] at hmt
    obtain ⟨hxe, _⟩ := hmt.2 (by rw [htm, hm])
    simp only [Value.slice.injEq, true_and] at hxe
    obtain ⟨rfl, rfl⟩ := hxe
    subst htz
    have hlen : (xs.take j.toNat).length = j.toNat := by rw [List.length_take]; omega
    have hzt : ∀ y ∈ xs.take j.toNat, y.length = tt.z := fun y hy => hzx y (List.mem_of_mem_take hy)
    have hrt : RepL G (xs.take j.toNat).flatten (vs.toList.take (xs.take j.toNat).flatten.length) := by
      have h3 := hrr.take (xs.take j.toNat).flatten.length
      have h4 : (xs.take j.toNat).flatten.length ≤ xs.flatten.length := by
        rw [flatten_len hzt, flatten_len hzx, hlen]; exact Nat.mul_le_mul_right _ (by omega)
      have h5 : xs.flatten.take (xs.take j.toNat).flatten.length = (xs.take j.toNat).flatten := by
        have h6 : xs.flatten = (xs.take j.toNat).flatten ++ (xs.drop j.toNat).flatten := by rw [← List.flatten_append, List.take_append_drop]
        rw [h6, List.take_append_of_le_length (Nat.le_refl _), List.take_length]
      rw [h5, List.take_take, Nat.min_eq_left h4] at h3
      exact h3
    obtain ⟨s1, f1, r1⟩ := sm.hs.retok hT htl (ys := xs.take j.toNat) (w' := w) (fun _ _ _ => rfl) hth (by rw [hts]) hzt hrt (by omega) hc0 htcm rfl rfl rfl (Nat.le_refl _)
    rw [hlen] at s1 f1 r1
    have hle := Gh.reTk_le (G := G) k (some ⟨tt.g, j.toNat, tt.z, tt.c⟩)
    exact hk _ _ _ (hK G.nx sm.hs.free_nx) (In.put (s := { s with h := { s.h with T := upd (upd s.h.T k none) G.nx (some (.cont tt.z (xs.take j.toNat))) } }) ⟨s1, sm.sz, fun t ht => (sm.sl t ht).mono hle, sm.df, sm.ls.fr hle f1⟩ (hg.trans hle) (hf.trans f1) hL o.dst (RepT.of r1))
end
end Go.Proofs.YtpnfkfbapfnboaaGreatDoor

