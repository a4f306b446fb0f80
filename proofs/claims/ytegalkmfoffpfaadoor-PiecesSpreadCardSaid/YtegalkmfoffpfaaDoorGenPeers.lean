/- Stream.Peers: some players, nearly always right ones. -/
import Derived.Test.YtegalkmfoffpfaaDoorGen
import Derived.Test.YtegalkmfoffpfaaDoorBuild
import Derived.Test.YtegalkmfoffpfaaDoorFillMem
import Derived.Test.YtegalkmfoffpfaaDoorRegionLate
import Derived.Outline
namespace Go.Proofs.YtegalkmfoffpfaaDoor
open Go.RowKit
attribute [local go_sem ↓] Go.wp_at_zero Go.wp_at_succ
theorem infoPe : (Tryd.prog.info? 85).map (fun i => (i.zero, i.size, i.bytes)) = some (some (.agg #[.string ⟨#[]⟩, .slice none 0 0]), 2, 40) := by kernel_rfl
theorem heap_newP (w : World) (o : Obj) (n : Nat) (hn : n = w.heap.size) : (w.alloc o).heap[n]? = some o := by subst hn; exact heap_alloc_new w o
theorem ownsRow_gbS {w w' : World} {base size n b : Nat} {e : TypeId} {v : Value} {xs : List Value} (h : w.ownsRow base e size v n xs) (hg : w.grownBy w' (some b)) (hb : b < base) : w'.ownsRow base e size v n xs := by
  obtain ⟨hl, h2⟩ := h
  refine ⟨hl, ?_⟩
  rcases h2 with h2 | ⟨g, cap, cur, hv, hg', hh, r⟩
  · exact .inl h2
  · exact .inr ⟨g, cap, cur, hv, hg', (hg.block g (block_lt hh) (fun e => by injection e with e; omega)).trans hh, r⟩
theorem flatK_setP {α : Type} {enc : α → List Value} {k : Nat} (hk : ∀ x, (enc x).length = k) : ∀ (l : List α) (j i : Nat) (y : α) (v : Value) (hj : j < l.length), i < k → enc y = (enc l[j]).set i v → (l.flatMap enc).set (j * k + i) v = (l.set j y).flatMap enc
  | [], _, _, _, _, hj, _, _ => absurd hj (by simp)
  | x :: r, 0, i, y, v, _, hi, he => by
    rw [List.flatMap_cons, Nat.zero_mul, Nat.zero_add, List.set_append_left _ _ (by rw [hk]; exact hi)]
    simp only [List.set_cons_zero, List.flatMap_cons]
    rw [he]; rfl
  | x :: r, j + 1, i, y, v, hj, hi, he => by
    rw [List.flatMap_cons, List.set_append_right _ _ (by rw [hk, Nat.add_mul]; omega), hk, show (j + 1) * k + i - k = j * k + i by rw [Nat.add_mul]; omega, flatK_setP hk r j i y v (by simpa using hj) hi (by simpa using he)]
    simp
theorem Goes.setP {ts : TypeId} {b M k : Nat} {w w1 : World} (h : Goes ts b M k w w1) (hlt : b < w.heap.size) {p : Addr} (hp : w.heap.size ≤ p.block) (u : Value) : Goes ts b M k w (w1.setCell p u) := by
  have hne : p.block ≠ b := by omega
  refine ⟨?_, ⟨h.gb.os, h.gb.tape, h.gb.output, by have := h.gb.size; simp [World.setCell]; exact this, fun i hi hn => (Below.heap_setCell _ _ _ _ (by omega)).trans (h.gb.block i hi hn)⟩⟩
  obtain ⟨a, len, cap, at_, hh, h1, h2, h3⟩ := h.is
  refine ⟨a, len, cap, at_, (Below.heap_setCell _ _ _ _ (by omega)).trans hh, h1, h2, fun h0 => ?_⟩
  obtain ⟨x, hx, hxb, hs, hc⟩ := h3 h0
  refine ⟨x, hx, hxb, hs, fun i hi => ?_⟩
  obtain ⟨z, hz⟩ := hc i hi
  exact ⟨z, (World.cell?_of_block (w := w1) (Below.heap_setCell _ _ _ _ (by show x.block ≠ p.block; omega))).trans hz⟩
/-- Players that the call has made. -/
structure PMade (w : World) (lo : Nat) (v : Value) (ps : List PeerD) (qs : List (ByteArray × Value)) : Prop where
  own : w.ownsRow lo 85 2 v ps.length (qs.flatMap peC)
  len : qs.length = ps.length
  row : ∀ i (h : i < ps.length), ∃ u, qs[i]? = some (ps[i].1, u) ∧ w.ownsRow lo 3 1 u ps[i].2.length (inC ps[i].2)
  inj : ∀ (i j : Nat) (q q' : ByteArray × Value) (x : Nat), qs[i]? = some q → qs[j]? = some q' → q.2.ownBlock = some x → q'.2.ownBlock = some x → i = j
theorem PMade.peers {w : World} {lo : Nat} {v : Value} {ps : List PeerD} {qs : List (ByteArray × Value)} (h : PMade w lo v ps qs) : PeersAt w lo v ps :=
  ⟨qs, Lst.of_own h.own, h.len, fun i hi => by obtain ⟨u, h1, h2⟩ := h.row i hi; exact ⟨u, h1, Lst.of_own h2⟩⟩
theorem PMade.gb {w w' : World} {lo b : Nat} {v : Value} {ps : List PeerD} {qs : List (ByteArray × Value)} (h : PMade w lo v ps qs) (hg : w.grownBy w' (some b)) (hb : b < lo) : PMade w' lo v ps qs :=
  ⟨ownsRow_gbS h.own hg hb, h.len, fun i hi => by obtain ⟨u, h1, h2⟩ := h.row i hi; exact ⟨u, h1, ownsRow_gbS h2 hg hb⟩, h.inj⟩
theorem PMade.base {w : World} {lo lo' : Nat} {v : Value} {ps : List PeerD} {qs : List (ByteArray × Value)} (h : PMade w lo v ps qs) (hl : lo' ≤ lo) : PMade w lo' v ps qs :=
  ⟨ownsRow_base h.own hl, h.len, fun i hi => by obtain ⟨u, h1, h2⟩ := h.row i hi; exact ⟨u, h1, ownsRow_base h2 hl⟩, h.inj⟩
theorem PMade.below {w w' : World} {lo : Nat} {v : Value} {ps : List PeerD} {qs : List (ByteArray × Value)} (h : PMade w lo v ps qs) (hb : Below w.heap.size w w') : PMade w' lo v ps qs :=
  ⟨ownsRow_below h.own hb, h.len, fun i hi => by obtain ⟨u, h1, h2⟩ := h.row i hi; exact ⟨u, h1, ownsRow_below h2 hb⟩, h.inj⟩
theorem PMade.push {w w' : World} {lo : Nat} {v v' u : Value} {ps : List PeerD} {qs : List (ByteArray × Value)} {key : ByteArray} {zs : List Int} (h : PMade w lo v ps qs) (hu : w.ownsRow lo 3 1 u zs.length (inC zs)) (hfr : ∀ (i : Nat) (q : ByteArray × Value) (x : Nat), qs[i]? = some q → q.2.ownBlock = some x → u.ownBlock = some x → False)
    (hg : w.grownBy w' v.ownBlock) (ho : w'.ownsRow lo 85 2 v' (ps.length + 1) (qs.flatMap peC ++ [.string key, u])) : PMade w' lo v' (ps ++ [(key, zs)]) (qs ++ [(key, u)]) := by
  refine ⟨by rw [List.length_append, List.flatMap_append]; exact ho, by simp [h.len], fun i hi => ?_, fun i j q q' x hi hj h1 h2 => ?_⟩
  rotate_left
  · rcases Nat.lt_or_ge i qs.length with a | a
    · rw [List.getElem?_append_left a] at hi
      rcases Nat.lt_or_ge j qs.length with a' | a'
      · rw [List.getElem?_append_left a'] at hj; exact h.inj i j q q' x hi hj h1 h2
      · rw [List.getElem?_append_right a'] at hj
        obtain ⟨_, e⟩ := List.getElem?_eq_some_iff.1 hj
        simp at e; subst e
        exact absurd (hfr i q x hi h1 h2) id
    · rw [List.getElem?_append_right a] at hi
      obtain ⟨b1, e⟩ := List.getElem?_eq_some_iff.1 hi
      simp at e; subst e
      rcases Nat.lt_or_ge j qs.length with a' | a'
      · rw [List.getElem?_append_left a'] at hj
        exact absurd (hfr j q' x hj h2 h1) id
      · rw [List.getElem?_append_right a'] at hj
        obtain ⟨b2, _⟩ := List.getElem?_eq_some_iff.1 hj
        simp at b1 b2; omega
  by_cases e : i < ps.length
  · obtain ⟨u2, h1, h2⟩ := h.row i e
    refine ⟨u2, ?_, ?_⟩
    · rw [List.getElem?_append_left (by rw [h.len]; exact e), h1]; simp [List.getElem_append_left e]
    · have := own_other h2 h.own hg (by decide)
      simpa [List.getElem_append_left e] using this
  · obtain rfl : i = ps.length := by simp at hi; omega
    refine ⟨u, ?_, ?_⟩
    · rw [List.getElem?_append_right (by rw [h.len]; exact Nat.le_refl _)]; simp [h.len]
    · have := own_other hu h.own hg (by decide)
      simpa using this
/-- The players and the stream, n numbers later. -/
structure PSt (b M : Nat) (w : World) (og i : Nat) (x0 : ByteArray) (u : Value) (k oc : Nat) (ps : List PeerD) (qs : List (ByteArray × Value)) (n : Nat) (W : World) : Prop where
  made : PMade W w.heap.size (.slice (some ⟨og, 0, none⟩) k oc) ps qs
  at_ : qs[i]? = some (x0, u)
  kl : k = ps.length
  go : Goes 25 b M n w W
section
variable {b M : Nat} {w : World} {og i : Nat} {x0 : ByteArray} {u : Value} {k oc : Nat} {ps : List PeerD} {qs : List (ByteArray × Value)} {n j : Nat} {W W' : World}
theorem PSt.alloc (h : PSt b M w og i x0 u k oc ps qs n W) (o : Obj) : PSt b M w og i x0 u k oc ps qs n (W.alloc o) := ⟨h.made.below (bfirst W o), h.at_, h.kl, h.go.alloc o⟩
theorem PSt.drew (h : PSt b M w og i x0 u k oc ps qs n W) : PSt b M w og i x0 u k oc ps qs n W.drew := ⟨⟨h.made.own, h.made.len, h.made.row, h.made.inj⟩, h.at_, h.kl, h.go.is, gb_drewN h.go.gb 1⟩
theorem PSt.goes (h : PSt b M w og i x0 u k oc ps qs n W) (hlt : b < w.heap.size) (hg : Goes 25 b (M + n) j W W') : PSt b M w og i x0 u k oc ps qs (n + j) W' := ⟨h.made.gb hg.gb hlt, h.at_, h.kl, h.go.trans hg (Nat.le_refl _)⟩
theorem own_cellP {W : World} {lo og k c n j : Nat} {v : Value} {xs : List Value} {e size : Nat} (h : W.ownsRow lo e size (.slice (some ⟨og, 0, none⟩) k c) n xs) (hkn : k = n) (hj : xs[j]? = some v) : W.cell? ⟨og, j, none⟩ = some v ∧ W.frozen? ⟨og, j, none⟩ = false ∧ og < W.heap.size ∧ lo ≤ og := by
  subst hkn
  have hc := own_cells h j v hj
  have e : (⟨og, 0, none⟩ : Addr).add j = ⟨og, j, none⟩ := by unfold Addr.add; split <;> simp_all
  rw [e] at hc
  obtain ⟨hl, cur, ht⟩ := own_ge h (g := og) rfl
  exact ⟨hc, by simp [World.frozen?, ht], block_lt ht, hl⟩
theorem PSt.cellsF (h : PSt b M w og i x0 u k oc ps qs n W) : W.cell? ⟨og, i * 2, none⟩ = some (.string x0) ∧ W.cell? ⟨og, i * 2 + 1, none⟩ = some u ∧ W.frozen? ⟨og, i * 2, none⟩ = false ∧ W.frozen? ⟨og, i * 2 + 1, none⟩ = false ∧ og < W.heap.size := by
  obtain ⟨hi, hx⟩ := List.getElem?_eq_some_iff.1 h.at_
  have a0 := flatK_at (enc := peC) (k := 2) (fun _ => rfl) qs i 0 hi (by omega)
  have a1 := flatK_at (enc := peC) (k := 2) (fun _ => rfl) qs i 1 hi (by omega)
  rw [hx] at a0 a1
  obtain ⟨c0, f0, hl, _⟩ := own_cellP h.made.own h.kl a0
  obtain ⟨c1, f1, _⟩ := own_cellP h.made.own h.kl a1
  rw [Nat.add_zero] at c0 f0
  exact ⟨c0, c1, f0, f1, hl⟩
theorem PSt.cells (h : PSt b M w og i x0 u k oc ps qs n W) : W.cell? ⟨og, i * 2, none⟩ = some (.string x0) ∧ W.cell? ⟨og, i * 2 + 1, none⟩ = some u := ⟨h.cellsF.1, h.cellsF.2.1⟩
/-- One more piece, and a name. -/
theorem PSt.change (h : PSt b M w og i x0 u k oc ps qs n W) (hi : i < ps.length) (hlt : b < w.heap.size) {u' : Value} {zs' : List Int} (hg : W.grownBy W' u.ownBlock) (ho : W'.ownsRow w.heap.size 3 1 u' zs'.length (inC zs')) (key : ByteArray) :
    PeersAt ((W'.setCell ⟨og, i * 2, none⟩ (.string key)).setCell ⟨og, i * 2 + 1, none⟩ u') w.heap.size (.slice (some ⟨og, 0, none⟩) k oc) (ps.set i (key, zs')) ∧ Goes 25 b M n w ((W'.setCell ⟨og, i * 2, none⟩ (.string key)).setCell ⟨og, i * 2 + 1, none⟩ u') := by
  obtain rfl := h.kl
  obtain ⟨u0, hu0, hu⟩ := h.made.row i hi
  rw [h.at_] at hu0
  simp only [Option.some.injEq, Prod.mk.injEq] at hu0
  obtain ⟨_, rfl⟩ := hu0
  have hP := own_other h.made.own hu hg (by decide)
  have hiq : i < qs.length := by rw [h.made.len]; exact hi
  have o1 := (hP.stored (i * 2) (.string key)).1
  have o2 := (o1.stored (i * 2 + 1) u').1
  have e1 := flatK_setP (enc := peC) (k := 2) (fun _ => rfl) qs i 0 (key, qs[i].2) (.string key) hiq (by omega) rfl
  have e2 := flatK_setP (enc := peC) (k := 2) (fun _ => rfl) (qs.set i (key, qs[i].2)) i 1 (key, u') u' (by simpa using hiq) (by omega) (by simp [peC])
  rw [Nat.add_zero] at e1
  rw [e1, e2, List.set_set] at o2
  obtain ⟨hog, cur, htg⟩ := own_ge hP (g := og) rfl
  have keepI : ∀ {u2 : Value} {zs2 : List Int}, W'.ownsRow w.heap.size 3 1 u2 zs2.length (inC zs2) → ((W'.setCell ⟨og, i * 2, none⟩ (.string key)).setCell ⟨og, i * 2 + 1, none⟩ u').ownsRow w.heap.size 3 1 u2 zs2.length (inC zs2) := fun h2 => by
    have hf : Fr (fun x => x = og) W' ((W'.setCell ⟨og, i * 2, none⟩ (.string key)).setCell ⟨og, i * 2 + 1, none⟩ u') := ((Fr.refl (fun x => x = og) W').set (p := ⟨og, i * 2, none⟩) rfl _).set (p := ⟨og, i * 2 + 1, none⟩) rfl _
    exact hf.own h2 (fun x c z hx => tag_ne hx htg (by decide))
  refine ⟨⟨qs.set i (key, u'), Lst.of_own o2, by simp [h.made.len], fun j hj => ?_⟩, ?_⟩
  · have hj' : j < ps.length := by simpa using hj
    by_cases e : i = j
    · subst e
      exact ⟨u', by simp [hiq], by simpa using Lst.of_own (keepI ho)⟩
    · obtain ⟨u2, hq, hr⟩ := h.made.row j hj'
      refine ⟨u2, by rw [List.getElem?_set_ne e, hq, List.getElem_set_ne e], ?_⟩
      rw [List.getElem_set_ne e]
      have hf : Fr (fun x => u.ownBlock = some x) W W' := Fr.of_gb hg (fun x hx => hx)
      refine Lst.of_own (keepI ?_)
      obtain ⟨hl, h2⟩ := hr
      refine ⟨hl, ?_⟩
      rcases h2 with h2 | ⟨g, cap, cur2, hv, hg', hh, r⟩
      · exact .inl h2
      · refine .inr ⟨g, cap, cur2, hv, hg', hf.blk hh (fun hS => ?_), r⟩
        exact e (h.made.inj i j _ _ g h.at_ hq hS (by rw [hv]; rfl))
  · have hgo : Goes 25 b M n w W' := h.go.belowAt (B := w.heap.size) (Nat.le_refl _) hlt ((Below.refl _ _).grown hg (by have := h.go.gb.size; omega) (fun x hx => (own_ge hu hx).1))
    exact (hgo.setP hlt (p := ⟨og, i * 2, none⟩) hog _).setP hlt (p := ⟨og, i * 2 + 1, none⟩) hog _
/-- The append, inside a region that draws. -/
theorem PSt.append {ops : Array Oper} {o : Oper} {a : Act} {K : Act → World → Prop} {Q : Exit → Act → World → Prop} {E : Prop} {HA : Option Addr} {hc c : Nat} {zs : List Int} {y : Int} (h : PSt b M w og i x0 (.slice HA zs.length hc) k oc ps qs n W) (hgd : o.guard = none) (s x : Operand)
    (hop : o.op = .call { callee := .builtin .append, args := #[s, x], argTypes := #[22, 22] }) (hs : a.eval s = .slice HA zs.length hc) (hx : a.eval x = .slice (some ⟨c, 0, none⟩) 1 1)
    (hb : W.heap[c]? = some (.cells #[.int .i64 y] 3 (0, 0))) (hn : zs.length ≤ 1000) (hlt : b < w.heap.size) (hrow : ∃ hi : i < ps.length, ps[i].2 = zs)
    (hK : ∀ (g cap : Nat) (W' : World), (∀ key : ByteArray, PeersAt ((W'.setCell ⟨og, i * 2, none⟩ (.string key)).setCell ⟨og, i * 2 + 1, none⟩ (.slice (some ⟨g, 0, none⟩) (zs.length + 1) cap)) w.heap.size (.slice (some ⟨og, 0, none⟩) k oc) (ps.set i (key, zs ++ [y])) ∧ Goes 25 b M n w ((W'.setCell ⟨og, i * 2, none⟩ (.string key)).setCell ⟨og, i * 2 + 1, none⟩ (.slice (some ⟨g, 0, none⟩) (zs.length + 1) cap))) →
      (W'.cell? ⟨og, i * 2, none⟩ = some (.string x0) ∧ W'.cell? ⟨og, i * 2 + 1, none⟩ = some (.slice HA zs.length hc) ∧ W'.frozen? ⟨og, i * 2, none⟩ = false ∧ W'.frozen? ⟨og, i * 2 + 1, none⟩ = false ∧ og < W'.heap.size) → K (a.put o.dst (.slice (some ⟨g, 0, none⟩) (zs.length + 1) cap)) W') :
    if Region.wanted o (yielded ops a.tmps) = true then Oper.wp Tryd.prog o a W K Q else E := by
  obtain ⟨i0, ii, iz0, iz1, iz2⟩ := info_parts infoI
  obtain ⟨hi, hzs⟩ := hrow
  obtain ⟨u0, hu0, hu⟩ := h.made.row i hi
  rw [h.at_] at hu0
  simp only [Option.some.injEq, Prod.mk.injEq] at hu0
  obtain ⟨_, rfl⟩ := hu0
  rw [hzs] at hu
  refine step_append_lies _ hgd s x 22 hop w.heap.size 3 i0 _ 1 8 Tryd.underlying22 ii iz0 iz1 iz2 rfl (by decide) _ zs.length _ hs hu ⟨c, 0, none⟩ 1 1 [.int .i64 y] hx rfl ?_ ?_ (by omega) (by unfold maxLen; omega) (by omega) (by have := h.go.gb.size; omega) _ rfl ?_
  · intro j u' hj
    rcases j with _ | j
    · simp at hj; subst hj; simp [Addr.add, World.cell?, hb]
    · simp at hj
  · intro u' hu'; simp at hu'; subst hu'; rfl
  · intro g cap w' hown' hgrow _ _
    have ho2 : w'.ownsRow w.heap.size 3 1 (.slice (some ⟨g, 0, none⟩) (zs.length + 1) cap) (zs ++ [y]).length (inC (zs ++ [y])) := by rw [List.length_append]; simpa [inC] using hown'
    refine hK g cap w' (fun key => h.change hi hlt hgrow ho2 key) ?_
    have hP := own_other h.made.own hu hgrow (by decide)
    obtain ⟨hiq, hxq⟩ := List.getElem?_eq_some_iff.1 h.at_
    have a0 := flatK_at (enc := peC) (k := 2) (fun _ => rfl) qs i 0 hiq (by omega)
    have a1 := flatK_at (enc := peC) (k := 2) (fun _ => rfl) qs i 1 hiq (by omega)
    rw [hxq] at a0 a1
    obtain ⟨c0, f0, hl, _⟩ := own_cellP hP h.kl a0
    obtain ⟨c1, f1, _⟩ := own_cellP hP h.kl a1
    rw [Nat.add_zero] at c0 f0
    exact ⟨c0, c1, f0, f1, hl⟩
end
def keysQ : List ByteArray := [⟨#[113, 97]⟩, ⟨#[113, 98]⟩, ⟨#[113, 99]⟩, ⟨#[113, 100]⟩, ⟨#[113, 101]⟩]
theorem keysQ_at {w : World} {p : Nat} (h : w.heap[p]? = some (.cells (keysQ.map Value.string).toArray 9 (0, 0))) {k : Nat} (hk : k < 5) : ∃ s : ByteArray, s.size ≤ 2 ∧ w.cell? ⟨p, k, none⟩ = some (.string s) := by
  have h4 : k < keysQ.length := hk
  refine ⟨keysQ[k], ?_, by simp [World.cell?, h, h4]⟩
  have := List.all_eq_true.1 (show keysQ.all (fun r => decide (r.size ≤ 2)) = true by decide) _ (List.getElem_mem h4)
  simpa using this
def Pe8 (p : PeerD) : Prop := p.1.size ≤ 2 ∧ p.2.length ≤ 9 ∧ ∀ z ∈ p.2, -1 ≤ z ∧ z ≤ 1000
theorem pe8_ok {ps : List PeerD} (h : ∀ p ∈ ps, Pe8 p) : PeOk ps := fun p hp => ⟨by have := (h p hp).1; omega, by have := (h p hp).2.1; omega, fun z hz => by have := (h p hp).2.2 z hz; omega⟩
def GpRel (b M : Nat) (w : World) (n : Nat) (g : Nat) (out i : Value) (wr : World) : Prop :=
  ∃ (k : Nat) (ps : List PeerD) (qs : List (ByteArray × Value)), k + g = n ∧ i = .int .i64 k ∧ ps.length = k ∧ (∀ p ∈ ps, Pe8 p ∧ p.2.length ≤ 8) ∧ wr.heap[w.heap.size]? = some (.cells (keysQ.map Value.string).toArray 9 (0, 0)) ∧
    PMade wr (w.heap.size + 1) out ps qs ∧ Goes 25 b M (1 + 8 * k) w wr
/-- While a player's pieces are drawn. -/
def GqRel (b M : Nat) (w2 : World) (n : Nat) (key : ByteArray) (g : Nat) (i : Value) (wr : World) : Prop :=
  ∃ (k : Nat) (zs : List Int) (hv : Value), k + g = n ∧ i = .int .i64 k ∧ zs.length ≤ k ∧ (∀ z ∈ zs, 0 ≤ z ∧ z < 8) ∧ wr.heap[w2.heap.size]? = some (.cells #[.string key, hv] 85 (0, 0)) ∧ wr.ownsRow (w2.heap.size + 1) 3 1 hv zs.length (inC zs) ∧
    Goes 25 b M k w2 wr
def GoesPeers (b M : Nat) (w : World) (e : Ending) (w' : World) : Prop :=
  ∃ (v : Value) (ps : List PeerD), ps.length ≤ 5 ∧ PeOk ps ∧ e = .returned v ∧ PeersAt w' w.heap.size v ps ∧ Goes 25 b M 50 w w'
set_option maxRecDepth 100000 in
set_option maxHeartbeats 4000000 in
theorem gpeers_any (b M : Nat) (m : Int) (w : World) (hs : IsStream 25 w b M) (hM : M ≤ 100000000000000) (hm0 : 0 ≤ m) (hm1 : m ≤ 61) :
    Calls Tryd.prog 18 #[.pointer (some ⟨b, 0, none⟩), .int .i64 m] w (GoesPeers b M w) := by
  have hlt := hs.lt
  obtain ⟨i0, hi, hz0, hz1, hz2⟩ := info_parts infoPe
  obtain ⟨j0, ji, jz0, jz1, jz2⟩ := info_parts infoI
  go_enter Tryd.func18, Tryd.ntmps18
  go_wp2_with fail
  refine (range_any b M 0 5 _ (hs.alloc _) (by omega) (by omega) (by omega) (by omega)).mono ?_
  rintro e w1 ⟨r, ⟨hr0, hr1⟩, rfl, g1⟩
  obtain ⟨n, rfl⟩ := Int.eq_ofNat_of_zero_le hr0
  have hR : w1.heap[w.heap.size]? = some (.cells (keysQ.map Value.string).toArray 9 (0, 0)) := (g1.gb.block w.heap.size (by simp) (fun e => by injection e with e; omega)).trans (heap_alloc_new w _)
  have HR := Lib.hid hR
  have G1 := g1.of_alloc
  have hn4 : n ≤ 5 := by omega
  have hn4' : (n : Int) ≤ 5 := by omega
  clear g1 hR
  go_wp2_with fail
  go_loopg [5, 7, 8, 9, 16, 25] n (fun g out _ _ _ i _ wr => GpRel b M w n g out i wr)
  case atStart => exact ⟨0, [], [], by omega, rfl, rfl, (fun x hx => by cases hx), HR.out, ⟨World.ownsRow_nil _ _ _ _, rfl, fun i hi => absurd hi (Nat.not_lt_zero _), fun i j q q' x hi => by simp at hi⟩, G1⟩
  case round =>
    obtain ⟨k, ps, qs, hk, rfl, hl, hok, hR, hP, hgo⟩ := hrel
    have HL := Lib.hid hl
    have HOK := Lib.hid hok
    have HR := Lib.hid hR
    have HP := Lib.hid hP
    have hz := hgo.gb.size
    have hRl := block_lt hR
    clear hl hok hR hP
    by_cases hg : gk = 0
    rotate_left
    · have HK := Lib.hid hk
      have hkn : k < n := by omega
      have hknI : (k : Int) < (n : Int) := by omega
      have hgk : gk ≠ 0 := hg
      obtain ⟨key, hks, ck⟩ := keysQ_at HR.out (show k < 5 by omega)
      clear hk hg
      go_wp2_with fail
      obtain ⟨n8, hn8, hn9⟩ : ∃ n8 : Nat, max 0 (min m 8) = (n8 : Int) ∧ n8 ≤ 8 := ⟨(max 0 (min m 8)).toNat, by omega, by omega⟩
      rw [hn8]
      have HPB := Lib.hid (heap_alloc_new wr (.cells #[.string key, .slice none 0 0] 85))
      have G2 : Goes 25 b (M + (1 + 8 * k)) 0 wr (wr.alloc (.cells #[.string key, .slice none 0 0] 85)) := (Goes.refl (k := 0) hgo.is).alloc _
      have hz2 : wr.heap.size + 1 ≤ (wr.alloc (.cells #[.string key, .slice none 0 0] 85)).heap.size := by simp
      have HGO := Lib.hid hgo
      generalize wr.alloc (.cells #[.string key, .slice none 0 0] 85) = w2 at *
      clear hn8 ck hgo
      obtain ⟨wo, rfl⟩ : ∃ wo : World, wo = wr := ⟨_, rfl⟩
      obtain ⟨gq, rfl⟩ : ∃ gq, gq = gk := ⟨_, rfl⟩
      obtain ⟨pb, hpb⟩ : ∃ pb, pb = wo.heap.size := ⟨_, rfl⟩
      rw [← hpb] at HPB ⊢
      have HPZ := Lib.hid hpb
      have hpb1 : wo.heap.size ≤ pb := by omega
      have hbpb : b < pb := by omega
      clear hpb
      go_loopg [25, 9] n8 (fun g i _ wx => GqRel b (M + (1 + 8 * k)) wo n8 key g i wx)
      case atStart => exact ⟨0, [], _, by omega, rfl, Nat.le_refl _, (fun z hz => by cases hz), by rw [← HPZ.out]; exact HPB.out, World.ownsRow_nil _ _ _ _, G2⟩
      case round =>
        clear HPB G2 hz2
        obtain ⟨j, zs, hv, hk, rfl, hl, hok, hB, ho, hgo⟩ := hrel
        rw [← HPZ.out] at hB ho
        have HJ := Lib.hid hk
        have HZ := Lib.hid hok
        have hzr := hgo.gb.size
        have hpl := block_lt hB
        obtain ⟨HVA, hvc, rfl⟩ : ∃ A c, hv = .slice A zs.length c := by
          rcases ho.2 with ⟨rfl, h0⟩ | ⟨g, cap, cur, rfl, _⟩
          · exact ⟨none, 0, by rw [h0]⟩
          · exact ⟨_, cap, rfl⟩
        by_cases hg : gk = 0
        rotate_left
        · have hjn : j < n8 := by omega
          have hjI : (j : Int) < (n8 : Int) := by omega
          have hgk2 : gk ≠ 0 := hg
          clear hk hg hok
          go_wp2_with fail
          refine (flip_any b (M + (1 + 8 * k) + j) 3 _ hgo.is (by omega) (by omega) (by omega)).mono ?_
          rintro e w3 ⟨fl, rfl, g3⟩
          have G3 := hgo.trans g3 (Nat.le_refl _)
          have o3 := ownsRow_gbS ho g3.gb (by omega)
          have hB3 := (g3.gb.block pb hpl (fun e => by injection e with e; omega)).trans hB
          have z3 := g3.gb.size
          clear g3 hgo ho hB
          cases fl
          · have HB3 := Lib.hid hB3
            have HO3 := Lib.hid o3
            clear hB3 o3
            go_wp2_with fail
            go_roundg (gk - 1)
            case measure => omega
            case rel => exact ⟨j + 1, zs, _, by have := HJ.out; omega, by go_num, by omega, HZ.out, by rw [← HPZ.out]; exact HB3.out, by rw [← HPZ.out]; exact HO3.out, G3⟩
          · obtain ⟨p0, p1, f0, f1⟩ := stream_cells hB3
            have hz5 : pb + 1 ≤ w3.heap.size := by omega
            have hpl3 : pb < w3.heap.size := by omega
            have HB3 := Lib.hid hB3
            clear hB3
            go_wp2_with (at_builtin; refine wpList_push (W := w3) (lo := pb + 1) rfl _ _ 22 rfl 3 j0 _ 1 8 Tryd.underlying22 ji jz0 jz1 jz2 rfl (by decide) (by decide) _ _ _ rfl (Below.refl _ _) hz5 o3 [.int .i64 j] rfl rfl rfl rfl (by omega) ?_)
            intro v5 w5 O5 b5 z5 _
            have hB5 := (b5.block pb (by omega)).trans HB3.out
            obtain ⟨A5, c5, rfl⟩ : ∃ A c, v5 = .slice A (zs.length + 1) c := by
              rcases O5.2 with ⟨rfl, h0⟩ | ⟨g, cap, cur, rfl, _⟩
              · exact absurd h0 (by omega)
              · exact ⟨_, cap, rfl⟩
            obtain ⟨p0', p1', f0', f1'⟩ := stream_cells hB5
            have hpl5 := block_lt hB5
            have HB6 := Lib.hid (stream_set (v' := .slice A5 (zs.length + 1) c5) hB5)
            have HO6 := Lib.hid (own_set (j := 1) (u := .slice A5 (zs.length + 1) c5) O5 hB5 (by decide))
            have HG6 := Lib.hid (((G3.belowAt (B := pb + 1) (by omega) (by omega) b5).setP (by omega) (p := ⟨pb, 1, none⟩) hpb1 (.slice A5 (zs.length + 1) c5)))
            clear b5 O5 hB5 o3 p0 p1 f0 f1 G3
            go_wp2_with fail
            go_roundg (gk - 1)
            case measure => omega
            case rel => exact ⟨j + 1, zs ++ [(j : Int)], _, by have := HJ.out; omega, by go_num, by simp; omega, fun z hz => by
              rcases List.mem_append.1 hz with h1 | h1
              · exact HZ.out z h1
              · simp at h1; subst h1; omega, by rw [← HPZ.out]; exact HB6.out, by rw [← HPZ.out]; simpa [inC] using HO6.out, HG6.out⟩
        · obtain rfl : j = n8 := by omega
          have HPM := HP.out.gb hgo.gb (show b < w.heap.size + 1 by omega)
          have ho' := ownsRow_base ho (show w.heap.size + 1 ≤ pb + 1 by omega)
          have hR' := (hgo.gb.block w.heap.size (by omega) (fun e => by injection e with e; omega)).trans HR.out
          have hGG := HGO.out.trans hgo (Nat.le_refl _)
          obtain ⟨p0, p1, _, _⟩ := stream_cells hB
          have hz6 : w.heap.size + 1 ≤ wr.heap.size := by omega
          have hpown := HPM.own
          have hpsl : ps.length ≤ 5 := by have := HL.out; omega
          have HFR := Lib.hid (fun (i : Nat) (q : ByteArray × Value) (x : Nat) (hq : qs[i]? = some q) (h1 : q.2.ownBlock = some x) (h2 : (Value.slice HVA zs.length hvc).ownBlock = some x) => (by
            have hil : i < ps.length := by rw [← HP.out.len]; exact (List.getElem?_eq_some_iff.1 hq).1
            obtain ⟨u, hu, hw⟩ := HP.out.row i hil
            rw [hq] at hu
            simp only [Option.some.injEq] at hu
            subst hu
            obtain ⟨_, cur, hc⟩ := own_ge hw h1
            have := block_lt hc
            have := (own_ge ho h2).1
            omega : False))
          have HO := Lib.hid ho'
          have HM := Lib.hid HPM
          clear hk hg hok hB ho ho' hgo HPM HP HGO
          go_wp2_with (at_builtin; refine wpList_push (W := wr) (lo := w.heap.size + 1) rfl _ _ 47 rfl 85 i0 _ 2 40 Tryd.underlying47 hi hz0 hz1 hz2 rfl (by decide) (by decide) _ _ _ rfl (Below.refl _ _) hz6 hpown [.string key, .slice HVA zs.length hvc] rfl rfl rfl rfl (by omega) ?_)
          intro v7 w7 O7 b7 z7 hg7
          have HP7 := Lib.hid (HM.out.push HO.out HFR.out hg7 O7)
          have HR7 := Lib.hid ((b7.block w.heap.size (by omega)).trans hR')
          have G7 := hGG.belowAt (B := w.heap.size + 1) (by omega) (by omega) b7
          clear O7 b7 hg7 hpown hR' hGG HM HO p0 p1
          go_wp2_with fail
          go_roundg (gq - 1)
          case measure => omega
          case rel => exact ⟨k + 1, ps ++ [(key, zs)], _, by have := HK.out; omega, by go_num, by have := HL.out; simp [this], fun p hp => by
            rcases List.mem_append.1 hp with h1 | h1
            · exact HOK.out p h1
            · simp at h1; subst h1; exact ⟨⟨hks, by show zs.length ≤ 9; omega, fun z hz => by have := HZ.out z hz; omega⟩, by show zs.length ≤ 8; omega⟩, HR7.out, HP7.out, G7.more (by omega)⟩
    · obtain rfl : k = n := by omega
      have hP := HP.out.base (Nat.le_succ w.heap.size)
      have HEND : Hid (∀ (v : Value) (ps' : List PeerD) (w' : World), ps'.length = k → (∀ p ∈ ps', Pe8 p) → PeersAt w' w.heap.size v ps' → Goes 25 b M 50 w w' → GoesPeers b M w (.returned v) w') := fun v ps' w' h1 h2 h3 h4 => ⟨v, ps', by omega, pe8_ok h2, rfl, h3, h4⟩
      obtain ⟨OA, oc, rfl⟩ : ∃ A c, u5 = .slice A k c := by
        have hl := HL.out
        rcases hP.own.2 with ⟨rfl, h0⟩ | ⟨g, cap, cur, rfl, _⟩
        · exact ⟨none, 0, by rw [← hl, h0]⟩
        · exact ⟨_, cap, by rw [hl]⟩
      have HP2 := Lib.hid hP
      clear hk hg HR HP hP
      by_cases hk0 : k = 0
      · subst hk0
        go_wp2_with fail
        go_ret
        exact HEND.out _ ps _ HL.out (fun p hp => (HOK.out p hp).1) HP2.out.peers (hgo.more (by omega))
      · have hkp : 0 < k := by omega
        have hkpI : (0 : Int) < (k : Int) := by omega
        clear hk0
        go_wp2_with fail
        refine (flip_any b (M + (1 + 8 * k)) 15 _ hgo.is (by omega) (by omega) (by omega)).mono ?_
        rintro e w3 ⟨fl, rfl, g3⟩
        have hP3 := HP2.out.gb g3.gb hlt
        have G3 := hgo.trans g3 (Nat.le_refl _)
        clear g3 HP2 hgo
        cases fl
        · go_wp2_with fail
          go_ret
          exact HEND.out _ ps _ HL.out (fun p hp => (HOK.out p hp).1) hP3.peers (G3.more (by omega))
        · go_wp2_with fail
          refine (next_any b (M + (1 + 8 * k + 1)) k _ G3.is (by omega) (by omega) (by omega)).mono ?_
          rintro e w4 ⟨r, ⟨hi0, hi1⟩, rfl, g4⟩
          obtain ⟨i, rfl⟩ := Int.eq_ofNat_of_zero_le hi0
          have hP4 := hP3.gb g4.gb hlt
          have G4 := G3.trans g4 (Nat.le_refl _)
          have hik : i < k := by omega
          clear g4 hP3 G3
          obtain ⟨og, oc2, e2, hog, hogl⟩ := hP4.own.form (by have := HL.out; omega)
          simp only [Value.slice.injEq] at e2
          obtain ⟨rfl, hlk, rfl⟩ := e2
          have hips : i < ps.length := by omega
          clear hlk
          obtain ⟨u, hu, hru⟩ := hP4.row i hips
          have hp8 := HOK.out _ (List.getElem_mem hips)
          obtain ⟨HA, hc, rfl⟩ : ∃ A c, u = .slice A ps[i].2.length c := by
            rcases hru.2 with ⟨rfl, h0⟩ | ⟨g, cap, cur, rfl, _⟩
            · exact ⟨none, 0, by rw [h0]⟩
            · exact ⟨_, cap, rfl⟩
          have hx2 : ps[i].1.size ≤ 2 := hp8.1.1
          have hzl : ps[i].2.length ≤ 8 := hp8.2
          have HNEW := Lib.hid (fun (y0 : ByteArray) (y1 : Int) (h1 : y0.size ≤ 2) (h2 : -1 ≤ y1 ∧ y1 ≤ 61) => (show ∀ p ∈ ps.set i (y0, ps[i].2 ++ [y1]), Pe8 p from fun p hp => by
            rcases List.mem_or_eq_of_mem_set hp with h | rfl
            · exact (HOK.out p h).1
            · refine ⟨h1, by simp; omega, fun z hz => ?_⟩
              rcases List.mem_append.1 hz with h | h
              · have := hp8.1.2.2 z h; omega
              · simp at h; subst h; omega))
          have st4 : PSt b M w og i ps[i].1 (.slice HA ps[i].2.length hc) k oc ps qs (1 + 8 * k + 1 + 1) w4 := ⟨hP4, hu, HL.out.symm, G4⟩
          have st := st4.drew
          have z4 : w.heap.size ≤ w4.heap.size := G4.gb.size
          clear hP4 hu hru G4 st4 hp8
          generalize hzz : ps[i].2 = zs at *
          generalize ps[i].1 = x0 at *
          have HGB := Lib.hid (show ∃ hi : i < ps.length, ps[i].2 = zs from ⟨hips, hzz⟩)
          clear hzz
          go_upto_region 16 with fail
          refine wp_region_late (fun j => j == 21 || j == 24) (fun w' => w'.cell? ⟨og, i * 2, none⟩ = some (.string x0) ∧ w'.cell? ⟨og, i * 2 + 1, none⟩ = some (.slice HA zs.length hc)) (by kernel_rfl) ?_
          refine wpLate_takeP (i := 0) (v := .pointer (some ⟨og, i * 2, none⟩)) rfl (by kernel_rfl) (by kernel_rfl) (by kernel_rfl) (fun _ _ _ h => h) (Or.inl ⟨by rfl, fun _ _ => by go_simp⟩) ?_
          refine wpLate_takeP (i := 1) (v := .pointer (some ⟨og, i * 2, none⟩)) rfl (by kernel_rfl) (by kernel_rfl) (by kernel_rfl) (fun _ _ _ h => h) (Or.inl ⟨by rfl, fun _ _ => by go_simp⟩) ?_
          refine wpLate_takeP (i := 2) (v := .pointer (some ⟨b, 0, none⟩)) rfl (by kernel_rfl) (by kernel_rfl) (by kernel_rfl) (fun _ _ _ h => h) (Or.inl ⟨by rfl, fun _ _ => by go_simp⟩) ?_
          refine wpLate_takeP (i := 3) (v := .pointer (some ⟨og, i * 2, none⟩)) rfl (by kernel_rfl) (by kernel_rfl) (by kernel_rfl) (fun _ _ _ h => h) (Or.inl ⟨by rfl, fun _ _ => by go_simp⟩) ?_
          refine wpLate_takeP (i := 4) (v := .pointer (some ⟨og, i * 2, none⟩)) rfl (by kernel_rfl) (by kernel_rfl) (by kernel_rfl) (fun _ _ _ h => h) (Or.inl ⟨by rfl, fun _ _ => by go_simp⟩) ?_
          refine wpLate_takeP (i := 5) (v := .pointer (some ⟨og, i * 2, none⟩)) rfl (by kernel_rfl) (by kernel_rfl) (by kernel_rfl) (fun _ _ _ h => h) (Or.inl ⟨by rfl, fun _ _ => by go_simp⟩) ?_
          refine wpLate_takeP (i := 9) (v := .pointer (some ⟨og, i * 2, none⟩)) rfl (by kernel_rfl) (by kernel_rfl) (by kernel_rfl) (fun _ _ _ h => h) (Or.inl ⟨by rfl, fun _ _ => by go_simp⟩) ?_
          refine wpLate_takeP (i := 10) (v := .pointer (some ⟨og, i * 2, none⟩)) rfl (by kernel_rfl) (by kernel_rfl) (by kernel_rfl) (fun _ _ _ h => h) (Or.inl ⟨by rfl, fun _ _ => by go_simp⟩) ?_
          refine wpLate_takeP (i := 11) (v := .pointer (some ⟨og, i * 2 + 1, none⟩)) rfl (by kernel_rfl) (by kernel_rfl) (by kernel_rfl) (fun _ _ _ h => h) (Or.inl ⟨by rfl, fun _ _ => by go_simp⟩) ?_
          refine wpLate_takeP (i := 13) (v := .pointer (some ⟨b, 0, none⟩)) rfl (by kernel_rfl) (by kernel_rfl) (by kernel_rfl) (fun _ _ _ h => h) (Or.inl ⟨by rfl, fun _ _ => by go_simp⟩) ?_
          refine wpLate_takeP (i := 14) (v := .int .i64 m) rfl (by kernel_rfl) (by kernel_rfl) (by kernel_rfl) (fun _ _ _ h => h) (Or.inl ⟨by rfl, fun _ _ => by go_simp⟩) ?_
          refine wpLate_take (i := 6) (v := .string x0) rfl (by kernel_rfl) (by kernel_rfl) (by kernel_rfl) (by kernel_rfl) (fun _ _ _ h => h) (Or.inl ⟨by rfl, fun w' hw' => by obtain ⟨h1, h2⟩ := hw'; go_simp⟩) st.cells ?_
          refine wpLate_take (i := 12) (v := .slice HA zs.length hc) rfl (by kernel_rfl) (by kernel_rfl) (by kernel_rfl) (by kernel_rfl) (fun _ _ _ h => h) (Or.inl ⟨by rfl, fun w' hw' => by obtain ⟨h1, h2⟩ := hw'; go_simp⟩) st.cells ?_
          refine wpLate_ready (rs := [7, 15]) (by kernel_rfl) (by simp) ?_
          refine AllLate.cons (i := 7) rfl (fun K hK => ?_) (AllLate.cons (i := 15) rfl (fun K hK => ?_) AllLate.nil)
          · go_simp
            have st := st.alloc (.cells (List.map Value.string [x0, ⟨#[]⟩, ⟨#[113, 97]⟩]).toArray 9)
            refine hK _ _ (fun _ _ => st.cells) ?_
            clear hK K
            refine wpLate_ready (rs := [8, 15]) (by kernel_rfl) (by simp) ?_
            refine AllLate.cons (i := 8) rfl (fun K hK => ?_) (AllLate.cons (i := 15) rfl (fun K hK => ?_) AllLate.nil)
            · go_simp
              refine (some_any b (M + (1 + 8 * k + 1 + 1)) _ [x0, ⟨#[]⟩, ⟨#[113, 97]⟩] 3 3 _ 9 st.go.is (by omega) rfl (by omega) (by omega) (by first | exact heap_newP _ _ _ (by simp) | exact (Below.heap_alloc _ _ _ (by simp)).trans (heap_newP _ _ _ (by simp))) (by first | omega | (simp; omega))).mono ?_
              rintro e w5 ⟨y0, hy0, rfl, g5⟩
              have hk5 := Lib.hid g5.gb.block
              have z5 : w4.heap.size ≤ w5.heap.size := by have := g5.gb.size; simp at this; omega
              have st := st.goes hlt g5
              clear g5
              go_simp
              refine hK _ _ (fun _ _ => st.cells) ?_
              clear hK K
              refine wpLate_ready (rs := [15]) (by kernel_rfl) (by simp) ?_
              refine AllLate.cons (i := 15) rfl (fun K hK => ?_) AllLate.nil
              go_simp
              have st := st.alloc (.cells (List.map (Value.int .i64) [0, -1, m, 3]).toArray 3)
              refine hK _ _ (fun _ _ => st.cells) ?_
              clear hK K
              refine wpLate_ready (rs := [16]) (by kernel_rfl) (by simp) ?_
              refine AllLate.cons (i := 16) rfl (fun K hK => ?_) AllLate.nil
              go_simp
              refine (pick_any b (M + (1 + 8 * k + 1 + 1 + 1)) _ [0, -1, m, 3] 4 4 _ 3 st.go.is (by omega) rfl (by omega) (by omega) (by first | exact heap_newP _ _ _ (by simp) | exact (hk5.out _ (by simp <;> omega) (fun e => by injection e with e; omega)).trans (heap_newP _ _ _ (by simp)) | exact (hk5.out _ (by simp <;> omega) (fun e => by injection e with e; omega)).trans ((Below.heap_alloc _ _ _ (by simp)).trans (heap_newP _ _ _ (by simp)))) (by first | omega | (simp; omega))).mono ?_
              rintro e w6 ⟨y1, hy1, rfl, g6⟩
              have st := st.goes hlt g6
              clear g6 hk5
              go_simp
              refine hK _ _ (fun _ _ => st.cells) ?_
              clear hK K
              refine wpLate_ready (rs := [17]) (by kernel_rfl) (by simp) ?_
              refine AllLate.cons (i := 17) rfl (fun K hK => ?_) AllLate.nil
              go_simp
              have st := st.alloc (.cells #[.int .i64 y1] 3)
              refine hK _ _ (fun _ _ => st.cells) ?_
              clear hK K
              refine wpLate_ready (rs := [18]) (by kernel_rfl) (by simp) ?_
              refine AllLate.cons (i := 18) rfl (fun K hK => ?_) AllLate.nil
              refine st.append (by rfl) (.tmp 67) (.tmp 72) (by rfl) (by rfl) (by rfl) (heap_newP _ _ _ (by simp)) (by omega) hlt HGB.out ?_
              intro g7 c7 w7 hE cc
              obtain ⟨c0, c1, f0, f1, hl7⟩ := cc
              refine hK _ _ (fun _ _ => ⟨c0, c1⟩) ?_
              clear hK K
              refine wpLate_takeP (i := 19) (v := .pointer (some ⟨og, i * 2, none⟩)) rfl (by kernel_rfl) (by kernel_rfl) (by kernel_rfl) (fun _ _ _ h => h) (Or.inl ⟨by rfl, fun _ _ => by go_simp⟩) ?_
              refine wpLate_takeP (i := 20) (v := .pointer (some ⟨og, i * 2, none⟩)) rfl (by kernel_rfl) (by kernel_rfl) (by kernel_rfl) (fun _ _ _ h => h) (Or.inl ⟨by rfl, fun _ _ => by go_simp⟩) ?_
              refine wpLate_ready (rs := [21]) (by kernel_rfl) (by simp) ?_
              refine AllLate.cons (i := 21) rfl (fun K hK => ?_) AllLate.nil
              go_simp
              refine hK _ _ (fun h => by cases h) ?_
              clear hK K
              refine wpLate_takeP (i := 22) (v := .pointer (some ⟨og, i * 2, none⟩)) rfl (by kernel_rfl) (by kernel_rfl) (by kernel_rfl) (fun _ _ _ h => h) (Or.inl ⟨by rfl, fun _ _ => by go_simp⟩) ?_
              refine wpLate_takeP (i := 23) (v := .pointer (some ⟨og, i * 2 + 1, none⟩)) rfl (by kernel_rfl) (by kernel_rfl) (by kernel_rfl) (fun _ _ _ h => h) (Or.inl ⟨by rfl, fun _ _ => by go_simp⟩) ?_
              refine wpLate_ready (rs := [24]) (by kernel_rfl) (by simp) ?_
              refine AllLate.cons (i := 24) rfl (fun K hK => ?_) AllLate.nil
              go_simp
              refine hK _ _ (fun h => by cases h) ?_
              clear hK K
              refine wpLate_done (by kernel_rfl) ?_ _
              have HE := Lib.hid (hE y0)
              have hy0' : y0.size ≤ 2 := by simp at hy0; rcases hy0 with rfl | rfl | rfl <;> first | exact hx2 | decide
              have hy1' : -1 ≤ y1 ∧ y1 ≤ 61 := by simp at hy1; omega
              clear hE st c0 c1 f0 f1 hy0 hy1
              go_wp2_with fail
              go_ret
              exact HEND.out _ _ _ (by have := HL.out; simpa using this) (HNEW.out y0 y1 hy0' hy1') HE.out.1 (HE.out.2.more (by omega))
            · go_simp
              have st := st.alloc (.cells (List.map (Value.int .i64) [0, -1, m, 3]).toArray 3)
              refine hK _ _ (fun _ _ => st.cells) ?_
              clear hK K
              refine wpLate_ready (rs := [8]) (by kernel_rfl) (by simp) ?_
              refine AllLate.cons (i := 8) rfl (fun K hK => ?_) AllLate.nil
              go_simp
              refine (some_any b (M + (1 + 8 * k + 1 + 1)) _ [x0, ⟨#[]⟩, ⟨#[113, 97]⟩] 3 3 _ 9 st.go.is (by omega) rfl (by omega) (by omega) (by first | exact heap_newP _ _ _ (by simp) | exact (Below.heap_alloc _ _ _ (by simp)).trans (heap_newP _ _ _ (by simp))) (by first | omega | (simp; omega))).mono ?_
              rintro e w5 ⟨y0, hy0, rfl, g5⟩
              have hk5 := Lib.hid g5.gb.block
              have z5 : w4.heap.size ≤ w5.heap.size := by have := g5.gb.size; simp at this; omega
              have st := st.goes hlt g5
              clear g5
              go_simp
              refine hK _ _ (fun _ _ => st.cells) ?_
              clear hK K
              refine wpLate_ready (rs := [16]) (by kernel_rfl) (by simp) ?_
              refine AllLate.cons (i := 16) rfl (fun K hK => ?_) AllLate.nil
              go_simp
              refine (pick_any b (M + (1 + 8 * k + 1 + 1 + 1)) _ [0, -1, m, 3] 4 4 _ 3 st.go.is (by omega) rfl (by omega) (by omega) (by first | exact heap_newP _ _ _ (by simp) | exact (hk5.out _ (by simp <;> omega) (fun e => by injection e with e; omega)).trans (heap_newP _ _ _ (by simp)) | exact (hk5.out _ (by simp <;> omega) (fun e => by injection e with e; omega)).trans ((Below.heap_alloc _ _ _ (by simp)).trans (heap_newP _ _ _ (by simp)))) (by first | omega | (simp; omega))).mono ?_
              rintro e w6 ⟨y1, hy1, rfl, g6⟩
              have st := st.goes hlt g6
              clear g6 hk5
              go_simp
              refine hK _ _ (fun _ _ => st.cells) ?_
              clear hK K
              refine wpLate_ready (rs := [17]) (by kernel_rfl) (by simp) ?_
              refine AllLate.cons (i := 17) rfl (fun K hK => ?_) AllLate.nil
              go_simp
              have st := st.alloc (.cells #[.int .i64 y1] 3)
              refine hK _ _ (fun _ _ => st.cells) ?_
              clear hK K
              refine wpLate_ready (rs := [18]) (by kernel_rfl) (by simp) ?_
              refine AllLate.cons (i := 18) rfl (fun K hK => ?_) AllLate.nil
              refine st.append (by rfl) (.tmp 67) (.tmp 72) (by rfl) (by rfl) (by rfl) (heap_newP _ _ _ (by simp)) (by omega) hlt HGB.out ?_
              intro g7 c7 w7 hE cc
              obtain ⟨c0, c1, f0, f1, hl7⟩ := cc
              refine hK _ _ (fun _ _ => ⟨c0, c1⟩) ?_
              clear hK K
              refine wpLate_takeP (i := 19) (v := .pointer (some ⟨og, i * 2, none⟩)) rfl (by kernel_rfl) (by kernel_rfl) (by kernel_rfl) (fun _ _ _ h => h) (Or.inl ⟨by rfl, fun _ _ => by go_simp⟩) ?_
              refine wpLate_takeP (i := 20) (v := .pointer (some ⟨og, i * 2, none⟩)) rfl (by kernel_rfl) (by kernel_rfl) (by kernel_rfl) (fun _ _ _ h => h) (Or.inl ⟨by rfl, fun _ _ => by go_simp⟩) ?_
              refine wpLate_ready (rs := [21]) (by kernel_rfl) (by simp) ?_
              refine AllLate.cons (i := 21) rfl (fun K hK => ?_) AllLate.nil
              go_simp
              refine hK _ _ (fun h => by cases h) ?_
              clear hK K
              refine wpLate_takeP (i := 22) (v := .pointer (some ⟨og, i * 2, none⟩)) rfl (by kernel_rfl) (by kernel_rfl) (by kernel_rfl) (fun _ _ _ h => h) (Or.inl ⟨by rfl, fun _ _ => by go_simp⟩) ?_
              refine wpLate_takeP (i := 23) (v := .pointer (some ⟨og, i * 2 + 1, none⟩)) rfl (by kernel_rfl) (by kernel_rfl) (by kernel_rfl) (fun _ _ _ h => h) (Or.inl ⟨by rfl, fun _ _ => by go_simp⟩) ?_
              refine wpLate_ready (rs := [24]) (by kernel_rfl) (by simp) ?_
              refine AllLate.cons (i := 24) rfl (fun K hK => ?_) AllLate.nil
              go_simp
              refine hK _ _ (fun h => by cases h) ?_
              clear hK K
              refine wpLate_done (by kernel_rfl) ?_ _
              have HE := Lib.hid (hE y0)
              have hy0' : y0.size ≤ 2 := by simp at hy0; rcases hy0 with rfl | rfl | rfl <;> first | exact hx2 | decide
              have hy1' : -1 ≤ y1 ∧ y1 ≤ 61 := by simp at hy1; omega
              clear hE st c0 c1 f0 f1 hy0 hy1
              go_wp2_with fail
              go_ret
              exact HEND.out _ _ _ (by have := HL.out; simpa using this) (HNEW.out y0 y1 hy0' hy1') HE.out.1 (HE.out.2.more (by omega))
          · go_simp
            have st := st.alloc (.cells (List.map (Value.int .i64) [0, -1, m, 3]).toArray 3)
            refine hK _ _ (fun _ _ => st.cells) ?_
            clear hK K
            refine wpLate_ready (rs := [7]) (by kernel_rfl) (by simp) ?_
            refine AllLate.cons (i := 7) rfl (fun K hK => ?_) AllLate.nil
            go_simp
            have st := st.alloc (.cells (List.map Value.string [x0, ⟨#[]⟩, ⟨#[113, 97]⟩]).toArray 9)
            refine hK _ _ (fun _ _ => st.cells) ?_
            clear hK K
            refine wpLate_ready (rs := [8]) (by kernel_rfl) (by simp) ?_
            refine AllLate.cons (i := 8) rfl (fun K hK => ?_) AllLate.nil
            go_simp
            refine (some_any b (M + (1 + 8 * k + 1 + 1)) _ [x0, ⟨#[]⟩, ⟨#[113, 97]⟩] 3 3 _ 9 st.go.is (by omega) rfl (by omega) (by omega) (by first | exact heap_newP _ _ _ (by simp) | exact (Below.heap_alloc _ _ _ (by simp)).trans (heap_newP _ _ _ (by simp))) (by first | omega | (simp; omega))).mono ?_
            rintro e w5 ⟨y0, hy0, rfl, g5⟩
            have hk5 := Lib.hid g5.gb.block
            have z5 : w4.heap.size ≤ w5.heap.size := by have := g5.gb.size; simp at this; omega
            have st := st.goes hlt g5
            clear g5
            go_simp
            refine hK _ _ (fun _ _ => st.cells) ?_
            clear hK K
            refine wpLate_ready (rs := [16]) (by kernel_rfl) (by simp) ?_
            refine AllLate.cons (i := 16) rfl (fun K hK => ?_) AllLate.nil
            go_simp
            refine (pick_any b (M + (1 + 8 * k + 1 + 1 + 1)) _ [0, -1, m, 3] 4 4 _ 3 st.go.is (by omega) rfl (by omega) (by omega) (by first | exact heap_newP _ _ _ (by simp) | exact (hk5.out _ (by simp <;> omega) (fun e => by injection e with e; omega)).trans (heap_newP _ _ _ (by simp)) | exact (hk5.out _ (by simp <;> omega) (fun e => by injection e with e; omega)).trans ((Below.heap_alloc _ _ _ (by simp)).trans (heap_newP _ _ _ (by simp)))) (by first | omega | (simp; omega))).mono ?_
            rintro e w6 ⟨y1, hy1, rfl, g6⟩
            have st := st.goes hlt g6
            clear g6 hk5
            go_simp
            refine hK _ _ (fun _ _ => st.cells) ?_
            clear hK K
            refine wpLate_ready (rs := [17]) (by kernel_rfl) (by simp) ?_
            refine AllLate.cons (i := 17) rfl (fun K hK => ?_) AllLate.nil
            go_simp
            have st := st.alloc (.cells #[.int .i64 y1] 3)
            refine hK _ _ (fun _ _ => st.cells) ?_
            clear hK K
            refine wpLate_ready (rs := [18]) (by kernel_rfl) (by simp) ?_
            refine AllLate.cons (i := 18) rfl (fun K hK => ?_) AllLate.nil
            refine st.append (by rfl) (.tmp 67) (.tmp 72) (by rfl) (by rfl) (by rfl) (heap_newP _ _ _ (by simp)) (by omega) hlt HGB.out ?_
            intro g7 c7 w7 hE cc
            obtain ⟨c0, c1, f0, f1, hl7⟩ := cc
            refine hK _ _ (fun _ _ => ⟨c0, c1⟩) ?_
            clear hK K
            refine wpLate_takeP (i := 19) (v := .pointer (some ⟨og, i * 2, none⟩)) rfl (by kernel_rfl) (by kernel_rfl) (by kernel_rfl) (fun _ _ _ h => h) (Or.inl ⟨by rfl, fun _ _ => by go_simp⟩) ?_
            refine wpLate_takeP (i := 20) (v := .pointer (some ⟨og, i * 2, none⟩)) rfl (by kernel_rfl) (by kernel_rfl) (by kernel_rfl) (fun _ _ _ h => h) (Or.inl ⟨by rfl, fun _ _ => by go_simp⟩) ?_
            refine wpLate_ready (rs := [21]) (by kernel_rfl) (by simp) ?_
            refine AllLate.cons (i := 21) rfl (fun K hK => ?_) AllLate.nil
            go_simp
            refine hK _ _ (fun h => by cases h) ?_
            clear hK K
            refine wpLate_takeP (i := 22) (v := .pointer (some ⟨og, i * 2, none⟩)) rfl (by kernel_rfl) (by kernel_rfl) (by kernel_rfl) (fun _ _ _ h => h) (Or.inl ⟨by rfl, fun _ _ => by go_simp⟩) ?_
            refine wpLate_takeP (i := 23) (v := .pointer (some ⟨og, i * 2 + 1, none⟩)) rfl (by kernel_rfl) (by kernel_rfl) (by kernel_rfl) (fun _ _ _ h => h) (Or.inl ⟨by rfl, fun _ _ => by go_simp⟩) ?_
            refine wpLate_ready (rs := [24]) (by kernel_rfl) (by simp) ?_
            refine AllLate.cons (i := 24) rfl (fun K hK => ?_) AllLate.nil
            go_simp
            refine hK _ _ (fun h => by cases h) ?_
            clear hK K
            refine wpLate_done (by kernel_rfl) ?_ _
            have HE := Lib.hid (hE y0)
            have hy0' : y0.size ≤ 2 := by simp at hy0; rcases hy0 with rfl | rfl | rfl <;> first | exact hx2 | decide
            have hy1' : -1 ≤ y1 ∧ y1 ≤ 61 := by simp at hy1; omega
            clear hE st c0 c1 f0 f1 hy0 hy1
            go_wp2_with fail
            go_ret
            exact HEND.out _ _ _ (by have := HL.out; simpa using this) (HNEW.out y0 y1 hy0' hy1') HE.out.1 (HE.out.2.more (by omega))
end Go.Proofs.YtegalkmfoffpfaaDoor
