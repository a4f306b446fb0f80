/- Ranging over a map: the iterator and the map with its stamps are objects told by relations. -/
import Derived.Test.YtpnfkfbapfnboaaGreatDoorAvMap
import Derived.Maps.RangeRun
namespace Go.Proofs.YtpnfkfbapfnboaaGreatDoor
open Go Go.MapKept
set_option linter.unusedVariables false
set_option linter.unusedSimpArgs false
theorem back_push {a : Array Nat} {x : Nat} (h : a.back? = some x) : ∃ s : Array Nat, a = s.push x := by
  obtain ⟨l⟩ := a
  have h1 : l.getLast? = some x := by simpa [Array.back?, List.getLast?_eq_getElem?] using h
  obtain ⟨s, rfl⟩ := List.getLast?_eq_some_iff.1 h1
  exact ⟨⟨s⟩, by simp⟩
section
variable {P : Program} {ty : Nat → Option TyD} {c : Cx} {o : Oper} {s : St} {Q : Exit → St → Prop}
theorem a_rangeMap (hty : TyOk P ty) {t : Nat} {x : Operand} (ho : o.op = .range t x) {ed : TyD} (hd : mapD ty t = some ed) {m : Nat} (hx : s.ev x = .map m) {es : List (ByteArray × AV)} (hi : s.h.H m = some (.map es)) {K : St → Prop}
    (hK : ∀ i born clock, s.h.H i = none → born.length = es.length → born.Nodup → (es.map (·.1)).Nodup → (∀ b ∈ born, b < clock) →
      K ({ s with h := { s.h with H := upd (upd s.h.H m (some (AO.mapS es born clock))) i (some (AO.iter m clock #[] clock)) } }.put o.dst (.ptr i 0))) : Aop P c o s K := by
  rintro a w ⟨G, L, sm, hg, hf, hL⟩ Kc Qc hkc
  obtain ⟨kt, et, hD, hkt, het⟩ := mapD_info hty hd
  obtain ⟨b, ents, clock, e1, hat, hh, hst, hent⟩ := map_at sm hx hi
  obtain ⟨s1, f1⟩ := sm.setObj (w' := w) (y := AO.mapS es (ents.toList.map (·.born)) clock) hi hat (fun _ _ => rfl) hh ⟨ents, rfl, hst, rfl, by simpa using hent.1, fun j h1 h2 => by
      have := hent.2 j h1 (by simpa using h2)
      simpa using this⟩ rfl rfl rfl (Nat.le_refl _)
  obtain ⟨hn, s2, g2, f2, e2⟩ := s1.newObj (y := AO.iter m clock #[] clock) (o := .mapIter (some b) clock #[] clock) ⟨b, rfl, hat⟩
  have hnm : G.nx ≠ m := fun e => by
    have := sm.hs.fat m (by omega)
    rw [hat] at this
    cases this
  have hn' : s.h.H G.nx = none := by
    have h9 : upd s.h.H m (some (AO.mapS es (ents.toList.map (·.born)) clock)) G.nx = none := hn
    rwa [upd_other _ _ hnm] at h9
  unfold Oper.wp
  have hrun : (execOp a.eval o).run P w = .ok (.value (.pointer (some ⟨w.heap.size, 0, none⟩))) (w.alloc (.mapIter (some b) clock #[] clock)) := by
    simp only [execOp, ho, e1, Sem.run_bind, run_range_map w t kt et b ents clock hD hh, Result.andThen_ok, Sem.run_pure]
  rw [hrun]
  refine hkc _ _ _ (hK G.nx (ents.toList.map (·.born)) clock hn' (by rw [List.length_map]; exact hent.1) hst.2.1 ?_ (fun x hx => ?_)) (In.put s2 (hg.trans g2) ((hf.trans f1).trans f2) hL o.dst (RepT.of (.ptr _ _ _ e2)))
  · have h3 := hst.2.2
    rw [show ents.toList.map (·.key) = es.map fun x => Value.string x.1 from ?_] at h3
    · rw [show (es.map fun x => Value.string x.1) = (es.map (·.1)).map Value.string by rw [List.map_map]; rfl] at h3
      exact h3.of_map _ (fun _ _ hne e => hne (by rw [e]))
    · apply List.ext_getElem (by simpa using hent.1)
      intro j h1 h2
      simp only [List.getElem_map]
      exact (hent.2 j (by simpa using h2) (by simpa using h1)).1
  · obtain ⟨e, he, rfl⟩ := List.mem_map.1 hx
    exact hst.1 e he
theorem a_nextMap {it : Operand} (ho : o.op = .next it false) {i m : Nat} (hx : s.ev it = .ptr i 0) {since c0 : Nat} {seen : Array Nat} (hi : s.h.H i = some (AO.iter m since seen c0)) {es : List (ByteArray × AV)} {born : List Nat} {clock : Nat} (hm : s.h.H m = some (AO.mapS es born clock))
    (hold : ∀ b ∈ born, b < since) (hsc : since ≤ c0) {K : St → Prop} (h0 : (∀ b ∈ born, seen.contains b = true) → K (s.put o.dst (.tup [.v (.bool false)])))
    (h1 : ∀ j, j < es.length → seen.contains (born.getD j 0) = false → K ({ s with h := { s.h with H := upd s.h.H i (some (AO.iter m since (seen.push (born.getD j 0)) clock)) } }.put o.dst (.tup [.v (.bool true), .v (.string (es.getD j default).1), (es.getD j default).2]))) : Aop P c o s K := by
  rintro a w ⟨G, L, sm, hg, hf, hL⟩ Kc Qc hkc
  have hxr := sm.eve hx
  generalize hq : a.eval it = q at hxr
  have hxr' : Rep G (.ptr i 0) q := hxr
  cases hxr' with
  | ptr _ _ r hat =>
  obtain ⟨r', oi, x1, x2, ⟨b, rfl, hb⟩, _⟩ := sm.hs.obj i _ hi
  rw [hat] at x1; cases x1
  obtain ⟨bm, om, y1, y2, ⟨ents, rfl, hst, hbn, hl, hr⟩, _⟩ := sm.hs.obj m _ hm
  rw [hb] at y1; cases y1
  have hent : EntL G es ents.toList := ⟨by simpa using hl, fun j h1 h2 => by
    have := hr j h1 (by simpa using h2)
    simpa using this⟩
  have hold' : ∀ x ∈ ents.toList, x.born < since := fun x hx => hold _ (by rw [← hbn]; exact List.mem_map.2 ⟨x, hx, rfl⟩)
  unfold Oper.wp
  rcases run_next_at (P := P) w o.type r b since c0 seen ents clock x2 y2 hold' hsc with ⟨z1, z2⟩ | ⟨e, he, w1, hw1, hrun⟩
  · have hrun' : (execOp a.eval o).run P w = .ok (.value (.tuple #[.bool false])) w := by
      simp only [execOp, ho, hq, Sem.run_bind, z2, Result.andThen_ok, Sem.run_pure]
    rw [hrun']
    refine hkc _ _ _ (h0 fun x hx => ?_) (In.put sm hg hf hL o.dst (RepT.of (.tup _ _ (fun _ => .bool false) rfl (fun j hj => ?_) (fun j hj => ?_))))
    · rw [← hbn] at hx
      obtain ⟨e, he, rfl⟩ := List.mem_map.1 hx
      exact all_seen ents seen z1 e he
    · simp only [List.length_cons, List.length_nil] at hj
      obtain rfl : j = 0 := by omega
      rfl
    · simp only [List.length_cons, List.length_nil] at hj
      obtain rfl : j = 0 := by omega
      exact .v _ rfl
  · obtain ⟨m1, m2⟩ := mem_left he
    obtain ⟨j, hj, hej⟩ := List.getElem_of_mem m1
    have hje : j < es.length := by have := hent.1; omega
    obtain ⟨k1, k2⟩ := hent.2 j hje hj
    have hbj : born.getD j 0 = e.born := by
      rw [← hbn, List.getD_eq_getElem?_getD, List.getElem?_map, List.getElem?_eq_getElem hj]
      simp [hej]
    have hd : es.getD j default = es[j] := by rw [List.getD_eq_getElem?_getD, List.getElem?_eq_getElem hje]; rfl
    rw [hej] at k1 k2
    have hrun' : (execOp a.eval o).run P w = .ok (.value (.tuple #[.bool true, e.key, e.val])) (Go.ChangeMaps.setBlock w1 r (.mapIter (some b) since (seen.push e.born) clock)) := by
      simp only [execOp, ho, hq, Sem.run_bind, hrun, Result.andThen_ok, Sem.run_pure]
    rw [hrun']
    have hw1' : w1.heap = w.heap ∧ w1.os = w.os ∧ w1.tape = w.tape ∧ w1.output = w.output := by rcases hw1 with rfl | rfl <;> exact ⟨rfl, rfl, rfl, rfl⟩
    obtain ⟨u1, u2, u3, u4⟩ := hw1'
    have hlt : r < w.heap.size := (Array.getElem?_eq_some_iff.1 x2).1
    obtain ⟨s1, f1⟩ := sm.setObj (w' := Go.ChangeMaps.setBlock w1 r (.mapIter (some b) since (seen.push e.born) clock)) (y := AO.iter m since (seen.push e.born) clock) (g := r) (o := .mapIter (some b) since (seen.push e.born) clock) hi hat
      (fun b' hb' => by simp only [Go.ChangeMaps.setBlock, u1]; rw [Array.getElem?_setIfInBounds_ne (fun e => hb' e.symm)])
      (by simp only [Go.ChangeMaps.setBlock, u1]; rw [Array.getElem?_setIfInBounds_self_of_lt hlt]) ⟨b, rfl, hb⟩ u2 u3 u4 (by simp [Go.ChangeMaps.setBlock, u1])
    have h9 := h1 j hje (by rw [hbj]; exact m2)
    rw [hbj, hd] at h9
    refine hkc _ _ _ h9 (In.put s1 hg (hf.trans f1) hL o.dst (RepT.of (.tup _ _ (fun j => if j = 0 then .bool true else if j = 1 then e.key else e.val) rfl (fun j hj => ?_) (fun j hj => ?_))))
    · rcases j with _ | _ | _ | j
      · rfl
      · rfl
      · rfl
      · simp only [List.length_cons, List.length_nil] at hj; omega
    · rcases j with _ | _ | _ | j
      · exact .v _ rfl
      · have hr : Rep G (.v e.key) e.key := .v _ (by rw [k1]; rfl)
        rw [k1] at hr
        rw [k1]
        exact hr
      · exact k2
      · simp only [List.length_cons, List.length_nil] at hj; omega
theorem a_entryMap {it : Operand} (ho : o.op = .entry it) {i m : Nat} (hx : s.ev it = .ptr i 0) {since clock : Nat} {seen : Array Nat} (hi : s.h.H i = some (AO.iter m since seen clock)) {es : List (ByteArray × AV)} {born : List Nat} (hm : s.h.H m = some (AO.mapS es born clock))
    {j : Nat} (hj : j < es.length) (hs : seen.back? = some (born.getD j 0)) {K : St → Prop} (hK : K (s.put o.dst (.tup [.v (.string (es.getD j default).1), (es.getD j default).2]))) : Aop P c o s K := by
  rintro a w ⟨G, L, sm, hg, hf, hL⟩ Kc Qc hkc
  have hxr := sm.eve hx
  generalize hq : a.eval it = q at hxr
  have hxr' : Rep G (.ptr i 0) q := hxr
  cases hxr' with
  | ptr _ _ r hat =>
  obtain ⟨r', oi, x1, x2, ⟨b, rfl, hb⟩, _⟩ := sm.hs.obj i _ hi
  rw [hat] at x1; cases x1
  obtain ⟨bm, om, y1, y2, ⟨ents, rfl, hst, hbn, hl, hr⟩, _⟩ := sm.hs.obj m _ hm
  rw [hb] at y1; cases y1
  have hje : j < ents.size := by omega
  obtain ⟨k1, k2⟩ := hr j hj hje
  have hbj : born.getD j 0 = ents[j].born := by
    rw [← hbn, List.getD_eq_getElem?_getD, List.getElem?_map, List.getElem?_eq_getElem (by simpa using hje)]
    simp
  have hsp : ∃ s0 : Array Nat, seen = s0.push ents[j].born := by
    rw [hbj] at hs
    exact back_push hs
  obtain ⟨s0, rfl⟩ := hsp
  have hd : es.getD j default = es[j] := by rw [List.getD_eq_getElem?_getD, List.getElem?_eq_getElem hj]; rfl
  have hrun := run_entry_at (P := P) w r b since s0 ents clock ents[j] x2 y2 (by simp) hst.2.1
  unfold Oper.wp
  have hrun' : (execOp a.eval o).run P w = .ok (.value (.tuple #[ents[j].key, ents[j].val])) w := by
    simp only [execOp, ho, hq, Sem.run_bind, hrun, Result.andThen_ok, Sem.run_pure]
  rw [hrun']
  rw [hd] at hK
  refine hkc _ _ _ hK (In.put sm hg hf hL o.dst (RepT.of (.tup _ _ (fun n => if n = 0 then ents[j].key else ents[j].val) rfl (fun n hn => ?_) (fun n hn => ?_))))
  · rcases n with _ | _ | n
    · rfl
    · rfl
    · simp only [List.length_cons, List.length_nil] at hn; omega
  · rcases n with _ | _ | n
    · have hr : Rep G (.v ents[j].key) ents[j].key := .v _ (by rw [k1]; rfl)
      show Rep G (.v (.string es[j].1)) ents[j].key
      rw [k1] at hr
      rw [k1]
      exact hr
    · exact k2
    · simp only [List.length_cons, List.length_nil] at hn; omega
end
end Go.Proofs.YtpnfkfbapfnboaaGreatDoor

