/- Stream.Peers: some players, nearly always right ones. -/
import Derived.Test.YtgnknjlgcinboaaGreatDoorM1
import Derived.Outline
import Derived.Deep.RegionHeld3
import Derived.Sort.LotA
import Derived.Test.YtgnknjlgcinboaaGreatDoorAvRun
import Derived.Test.YtgnknjlgcinboaaGreatDoorAvTy
import Derived.Test.YtgnknjlgcinboaaGreatDoorAvFz
import Derived.Test.YtgnknjlgcinboaaGreatDoorAvUn
import Derived.Shelf.GgClosure.Gives
import Derived.Test.YtgnknjlgcinboaaGreatDoorAvOld
namespace Go.Proofs.YtgnknjlgcinboaaGreatDoor
open Go.RowKit
set_option linter.unusedVariables false
set_option linter.unusedSimpArgs false
abbrev zM20 : Option Tmp → Nat := mdL [(65, 1)]
abbrev zM21 : Option Tmp → Nat := mdL []
abbrev zM22 : Option Tmp → Nat := mdL [(4, 2)]
abbrev zM23 : Option Tmp → Nat := mdL [(6, 1), (8, 1), (11, 1)]
abbrev zM24 : Option Tmp → Nat := mdL [(7, 2)]
abbrev zM25 : Option Tmp → Nat := mdL [(11, 2)]
attribute [go_sem] zM20 zM21 zM22 zM23 zM24 zM25
attribute [local go_sem ↓] Go.wp_at_zero Go.wp_at_succ
theorem infoPe : (Tryz.prog.info? 71).map (fun i => (i.zero, i.size, i.bytes)) = some (some (.agg #[.string ⟨#[]⟩, .slice none 0 0]), 2, 40) := by kernel_rfl
theorem heap_newP (w : World) (o : Obj) (n : Nat) (hn : n = w.heap.size) : (w.alloc o).heap[n]? = some o := by subst hn; exact heap_alloc_new w o
theorem ownsRow_gbS {w w' : World} {base size n b : Nat} {e : TypeId} {v : Value} {xs : List Value} (h : w.ownsRow base e size v n xs) (hg : w.grownBy w' (some b)) (hb : b < base) : w'.ownsRow base e size v n xs := by
  obtain ⟨hl, h2⟩ := h
  refine ⟨hl, ?_⟩
  rcases h2 with h2 | ⟨g, cap, cur, hv, hg', hh, r⟩
  · exact .inl h2
  · exact .inr ⟨g, cap, cur, hv, hg', (hg.block g (block_lt hh) (fun e => by injection e with e; omega)).trans hh, r⟩
theorem flatK_setP {α : Type} {enc : α → List Value} {k : Nat} (hk : ∀ x, (enc x).length = k) : ∀ (l : List α) (j i : Nat) (y : α) (v : Value) (hj : j < l.length), i < k → enc y = (enc l[j]).set i v → (l.flatMap enc).set (j * k + i) v = (l.set j y).flatMap enc
  | [], _, _, _, _, hj, _, _ => absurd hj (by simp)
  | x :: r, 0, i, y, v, _, hi, he => by
    rw [List.flatMap_cons, Nat.zero_mul, Nat.zero_add, List.set_append_left _ _ (by rw [hk]; exact hi)]
    simp only [List.set_cons_zero, List.flatMap_cons]
    rw [he]; rfl
  | x :: r, j + 1, i, y, v, hj, hi, he => by
    rw [List.flatMap_cons, List.set_append_right _ _ (by rw [hk, Nat.add_mul]; omega), hk, show (j + 1) * k + i - k = j * k + i by rw [Nat.add_mul]; omega, flatK_setP hk r j i y v (by simpa using hj) hi (by simpa using he)]
    simp
theorem Goes.setP {ts : TypeId} {b M k : Nat} {w w1 : World} (h : Goes ts b M k w w1) (hlt : b < w.heap.size) {p : Addr} (hp : w.heap.size ≤ p.block) (u : Value) : Goes ts b M k w (w1.setCell p u) := by
  have hne : p.block ≠ b := by omega
  refine ⟨?_, ⟨h.gb.os, h.gb.tape, h.gb.output, by have := h.gb.size; simp [World.setCell]; exact this, fun i hi hn => (Below.heap_setCell _ _ _ _ (by omega)).trans (h.gb.block i hi hn)⟩⟩
  obtain ⟨a, len, cap, at_, hh, h1, h2, h3⟩ := h.is
  refine ⟨a, len, cap, at_, (Below.heap_setCell _ _ _ _ (by omega)).trans hh, h1, h2, fun h0 => ?_⟩
  obtain ⟨x, hx, hxb, hs, hc⟩ := h3 h0
  refine ⟨x, hx, hxb, hs, fun i hi => ?_⟩
  obtain ⟨z, hz⟩ := hc i hi
  exact ⟨z, (World.cell?_of_block (w := w1) (Below.heap_setCell _ _ _ _ (by show x.block ≠ p.block; omega))).trans hz⟩
structure PMade (w : World) (lo : Nat) (v : Value) (ps : List PeerD) (qs : List (ByteArray × Value)) : Prop where
  own : w.ownsRow lo 71 2 v ps.length (qs.flatMap peC)
  len : qs.length = ps.length
  row : ∀ i (h : i < ps.length), ∃ u, qs[i]? = some (ps[i].1, u) ∧ w.ownsRow lo 3 1 u ps[i].2.length (inC ps[i].2)
  inj : ∀ (i j : Nat) (q q' : ByteArray × Value) (x : Nat), qs[i]? = some q → qs[j]? = some q' → q.2.ownBlock = some x → q'.2.ownBlock = some x → i = j
theorem PMade.peers {w : World} {lo : Nat} {v : Value} {ps : List PeerD} {qs : List (ByteArray × Value)} (h : PMade w lo v ps qs) : PeersAt w lo v ps :=
  ⟨qs, LstU.of_own h.own, h.len, fun i hi => by obtain ⟨u, h1, h2⟩ := h.row i hi; exact ⟨u, h1, LstU.of_own h2⟩⟩
theorem PMade.gb {w w' : World} {lo b : Nat} {v : Value} {ps : List PeerD} {qs : List (ByteArray × Value)} (h : PMade w lo v ps qs) (hg : w.grownBy w' (some b)) (hb : b < lo) : PMade w' lo v ps qs :=
  ⟨ownsRow_gbS h.own hg hb, h.len, fun i hi => by obtain ⟨u, h1, h2⟩ := h.row i hi; exact ⟨u, h1, ownsRow_gbS h2 hg hb⟩, h.inj⟩
theorem PMade.base {w : World} {lo lo' : Nat} {v : Value} {ps : List PeerD} {qs : List (ByteArray × Value)} (h : PMade w lo v ps qs) (hl : lo' ≤ lo) : PMade w lo' v ps qs :=
  ⟨ownsRow_base h.own hl, h.len, fun i hi => by obtain ⟨u, h1, h2⟩ := h.row i hi; exact ⟨u, h1, ownsRow_base h2 hl⟩, h.inj⟩
theorem PMade.below {w w' : World} {lo : Nat} {v : Value} {ps : List PeerD} {qs : List (ByteArray × Value)} (h : PMade w lo v ps qs) (hb : Below w.heap.size w w') : PMade w' lo v ps qs :=
  ⟨ownsRow_below h.own hb, h.len, fun i hi => by obtain ⟨u, h1, h2⟩ := h.row i hi; exact ⟨u, h1, ownsRow_below h2 hb⟩, h.inj⟩
theorem PMade.push {w w' : World} {lo : Nat} {v v' u : Value} {ps : List PeerD} {qs : List (ByteArray × Value)} {key : ByteArray} {zs : List Int} (h : PMade w lo v ps qs) (hu : w.ownsRow lo 3 1 u zs.length (inC zs)) (hfr : ∀ (i : Nat) (q : ByteArray × Value) (x : Nat), qs[i]? = some q → q.2.ownBlock = some x → u.ownBlock = some x → False)
    (hg : w.grownBy w' v.ownBlock) (ho : w'.ownsRow lo 71 2 v' (ps.length + 1) (qs.flatMap peC ++ [.string key, u])) : PMade w' lo v' (ps ++ [(key, zs)]) (qs ++ [(key, u)]) := by
  refine ⟨by rw [List.length_append, List.flatMap_append]; exact ho, by simp [h.len], fun i hi => ?_, fun i j q q' x hi hj h1 h2 => ?_⟩
  rotate_left
  · rcases Nat.lt_or_ge i qs.length with a | a
    · rw [List.getElem?_append_left a] at hi
      rcases Nat.lt_or_ge j qs.length with a' | a'
      · rw [List.getElem?_append_left a'] at hj; exact h.inj i j q q' x hi hj h1 h2
      · rw [List.getElem?_append_right a'] at hj
        obtain ⟨_, e⟩ := List.getElem?_eq_some_iff.1 hj
        simp at e; subst e
        exact absurd (hfr i q x hi h1 h2) id
    · rw [List.getElem?_append_right a] at hi
      obtain ⟨b1, e⟩ := List.getElem?_eq_some_iff.1 hi
      simp at e; subst e
      rcases Nat.lt_or_ge j qs.length with a' | a'
      · rw [List.getElem?_append_left a'] at hj
        exact absurd (hfr j q' x hj h2 h1) id
      · rw [List.getElem?_append_right a'] at hj
        obtain ⟨b2, _⟩ := List.getElem?_eq_some_iff.1 hj
        simp at b1 b2; omega
  by_cases e : i < ps.length
  · obtain ⟨u2, h1, h2⟩ := h.row i e
    refine ⟨u2, ?_, ?_⟩
    · rw [List.getElem?_append_left (by rw [h.len]; exact e), h1]; simp [List.getElem_append_left e]
    · have := own_other h2 h.own hg (by decide)
      simpa [List.getElem_append_left e] using this
  · obtain rfl : i = ps.length := by simp at hi; omega
    refine ⟨u, ?_, ?_⟩
    · rw [List.getElem?_append_right (by rw [h.len]; exact Nat.le_refl _)]; simp [h.len]
    · have := own_other hu h.own hg (by decide)
      simpa using this
structure PSt (b M : Nat) (w : World) (og i : Nat) (x0 : ByteArray) (u : Value) (k oc : Nat) (ps : List PeerD) (qs : List (ByteArray × Value)) (n : Nat) (W : World) : Prop where
  made : PMade W w.heap.size (.slice (some ⟨og, 0, none⟩) k oc) ps qs
  at_ : qs[i]? = some (x0, u)
  kl : k = ps.length
  go : Goes 25 b M n w W
section
variable {b M : Nat} {w : World} {og i : Nat} {x0 : ByteArray} {u : Value} {k oc : Nat} {ps : List PeerD} {qs : List (ByteArray × Value)} {n j : Nat} {W W' : World}
theorem PSt.alloc (h : PSt b M w og i x0 u k oc ps qs n W) (o : Obj) : PSt b M w og i x0 u k oc ps qs n (W.alloc o) := ⟨h.made.below (bfirst W o), h.at_, h.kl, h.go.alloc o⟩
theorem PSt.drew (h : PSt b M w og i x0 u k oc ps qs n W) : PSt b M w og i x0 u k oc ps qs n W.drew := ⟨⟨h.made.own, h.made.len, h.made.row, h.made.inj⟩, h.at_, h.kl, h.go.is, gb_drewN h.go.gb 1⟩
theorem PSt.goes (h : PSt b M w og i x0 u k oc ps qs n W) (hlt : b < w.heap.size) (hg : Goes 25 b (M + n) j W W') : PSt b M w og i x0 u k oc ps qs (n + j) W' := ⟨h.made.gb hg.gb hlt, h.at_, h.kl, h.go.trans hg (Nat.le_refl _)⟩
theorem own_cellP {W : World} {lo og k c n j : Nat} {v : Value} {xs : List Value} {e size : Nat} (h : W.ownsRow lo e size (.slice (some ⟨og, 0, none⟩) k c) n xs) (hkn : k = n) (hj : xs[j]? = some v) : W.cell? ⟨og, j, none⟩ = some v ∧ W.frozen? ⟨og, j, none⟩ = false ∧ og < W.heap.size ∧ lo ≤ og := by
  subst hkn
  have hc := own_cells h j v hj
  have e : (⟨og, 0, none⟩ : Addr).add j = ⟨og, j, none⟩ := by unfold Addr.add; split <;> simp_all
  rw [e] at hc
  obtain ⟨hl, cur, ht⟩ := own_ge h (g := og) rfl
  exact ⟨hc, by simp [World.frozen?, ht], block_lt ht, hl⟩
theorem PSt.cellsF (h : PSt b M w og i x0 u k oc ps qs n W) : W.cell? ⟨og, i * 2, none⟩ = some (.string x0) ∧ W.cell? ⟨og, i * 2 + 1, none⟩ = some u ∧ W.frozen? ⟨og, i * 2, none⟩ = false ∧ W.frozen? ⟨og, i * 2 + 1, none⟩ = false ∧ og < W.heap.size := by
  obtain ⟨hi, hx⟩ := List.getElem?_eq_some_iff.1 h.at_
  have a0 := flatK_at (enc := peC) (k := 2) (fun _ => rfl) qs i 0 hi (by omega)
  have a1 := flatK_at (enc := peC) (k := 2) (fun _ => rfl) qs i 1 hi (by omega)
  rw [hx] at a0 a1
  obtain ⟨c0, f0, hl, _⟩ := own_cellP h.made.own h.kl a0
  obtain ⟨c1, f1, _⟩ := own_cellP h.made.own h.kl a1
  rw [Nat.add_zero] at c0 f0
  exact ⟨c0, c1, f0, f1, hl⟩
theorem PSt.cells (h : PSt b M w og i x0 u k oc ps qs n W) : W.cell? ⟨og, i * 2, none⟩ = some (.string x0) ∧ W.cell? ⟨og, i * 2 + 1, none⟩ = some u := ⟨h.cellsF.1, h.cellsF.2.1⟩
theorem PSt.change (h : PSt b M w og i x0 u k oc ps qs n W) (hi : i < ps.length) (hlt : b < w.heap.size) {u' : Value} {zs' : List Int} (hg : W.grownBy W' u.ownBlock) (ho : W'.ownsRow w.heap.size 3 1 u' zs'.length (inC zs')) (key : ByteArray) :
    PeersAt ((W'.setCell ⟨og, i * 2, none⟩ (.string key)).setCell ⟨og, i * 2 + 1, none⟩ u') w.heap.size (.slice (some ⟨og, 0, none⟩) k oc) (ps.set i (key, zs')) ∧ Goes 25 b M n w ((W'.setCell ⟨og, i * 2, none⟩ (.string key)).setCell ⟨og, i * 2 + 1, none⟩ u') := by
  obtain rfl := h.kl
  obtain ⟨u0, hu0, hu⟩ := h.made.row i hi
  rw [h.at_] at hu0
  simp only [Option.some.injEq, Prod.mk.injEq] at hu0
  obtain ⟨_, rfl⟩ := hu0
  have hP := own_other h.made.own hu hg (by decide)
  have hiq : i < qs.length := by rw [h.made.len]; exact hi
  have o1 := (hP.stored (i * 2) (.string key)).1
  have o2 := (o1.stored (i * 2 + 1) u').1
  have e1 := flatK_setP (enc := peC) (k := 2) (fun _ => rfl) qs i 0 (key, qs[i].2) (.string key) hiq (by omega) rfl
  have e2 := flatK_setP (enc := peC) (k := 2) (fun _ => rfl) (qs.set i (key, qs[i].2)) i 1 (key, u') u' (by simpa using hiq) (by omega) (by simp [peC])
  rw [Nat.add_zero] at e1
  rw [e1, e2, List.set_set] at o2
  obtain ⟨hog, cur, htg⟩ := own_ge hP (g := og) rfl
  have keepI : ∀ {u2 : Value} {zs2 : List Int}, W'.ownsRow w.heap.size 3 1 u2 zs2.length (inC zs2) → ((W'.setCell ⟨og, i * 2, none⟩ (.string key)).setCell ⟨og, i * 2 + 1, none⟩ u').ownsRow w.heap.size 3 1 u2 zs2.length (inC zs2) := fun h2 => by
    have hf : FrP (fun x => x = og) W' ((W'.setCell ⟨og, i * 2, none⟩ (.string key)).setCell ⟨og, i * 2 + 1, none⟩ u') := ((FrP.refl (fun x => x = og) W').set (p := ⟨og, i * 2, none⟩) rfl _).set (p := ⟨og, i * 2 + 1, none⟩) rfl _
    exact hf.own h2 (fun x c z hx => tag_ne hx htg (by decide))
  refine ⟨⟨qs.set i (key, u'), LstU.of_own o2, by simp [h.made.len], fun j hj => ?_⟩, ?_⟩
  · have hj' : j < ps.length := by simpa using hj
    by_cases e : i = j
    · subst e
      exact ⟨u', by simp [hiq], by simpa using LstU.of_own (keepI ho)⟩
    · obtain ⟨u2, hq, hr⟩ := h.made.row j hj'
      refine ⟨u2, by rw [List.getElem?_set_ne e, hq, List.getElem_set_ne e], ?_⟩
      rw [List.getElem_set_ne e]
      have hf : FrP (fun x => u.ownBlock = some x) W W' := FrP.of_gb hg (fun x hx => hx)
      refine LstU.of_own (keepI ?_)
      obtain ⟨hl, h2⟩ := hr
      refine ⟨hl, ?_⟩
      rcases h2 with h2 | ⟨g, cap, cur2, hv, hg', hh, r⟩
      · exact .inl h2
      · refine .inr ⟨g, cap, cur2, hv, hg', hf.blk hh (fun hS => ?_), r⟩
        exact e (h.made.inj i j _ _ g h.at_ hq hS (by rw [hv]; rfl))
  · have hgo : Goes 25 b M n w W' := h.go.belowAt (B := w.heap.size) (Nat.le_refl _) hlt ((Below.refl _ _).grown hg (by have := h.go.gb.size; omega) (fun x hx => (own_ge hu hx).1))
    exact (hgo.setP hlt (p := ⟨og, i * 2, none⟩) hog _).setP hlt (p := ⟨og, i * 2 + 1, none⟩) hog _
theorem PSt.append {ops : Array Oper} {o : Oper} {a : Act} {K : Act → World → Prop} {Q : Exit → Act → World → Prop} {E : Prop} {HA : Option Addr} {hc c : Nat} {zs : List Int} {y : Int} (h : PSt b M w og i x0 (.slice HA zs.length hc) k oc ps qs n W) (hgd : o.guard = none) (s x : Operand)
    (hop : o.op = .call { callee := .builtin .append, args := #[s, x], argTypes := #[22, 22] }) (hs : a.eval s = .slice HA zs.length hc) (hx : a.eval x = .slice (some ⟨c, 0, none⟩) 1 1)
    (hb : W.heap[c]? = some (.cells #[.int .i64 y] 3 (0, 0))) (hn : zs.length ≤ 1000) (hlt : b < w.heap.size) (hrow : ∃ hi : i < ps.length, ps[i].2 = zs)
    (hK : ∀ (g cap : Nat) (W' : World), (∀ key : ByteArray, PeersAt ((W'.setCell ⟨og, i * 2, none⟩ (.string key)).setCell ⟨og, i * 2 + 1, none⟩ (.slice (some ⟨g, 0, none⟩) (zs.length + 1) cap)) w.heap.size (.slice (some ⟨og, 0, none⟩) k oc) (ps.set i (key, zs ++ [y])) ∧ Goes 25 b M n w ((W'.setCell ⟨og, i * 2, none⟩ (.string key)).setCell ⟨og, i * 2 + 1, none⟩ (.slice (some ⟨g, 0, none⟩) (zs.length + 1) cap))) →
      (W'.cell? ⟨og, i * 2, none⟩ = some (.string x0) ∧ W'.cell? ⟨og, i * 2 + 1, none⟩ = some (.slice HA zs.length hc) ∧ W'.frozen? ⟨og, i * 2, none⟩ = false ∧ W'.frozen? ⟨og, i * 2 + 1, none⟩ = false ∧ og < W'.heap.size) → K (a.put o.dst (.slice (some ⟨g, 0, none⟩) (zs.length + 1) cap)) W') :
    if Region.wanted o (yielded ops a.tmps) = true then Oper.wp Tryz.prog o a W K Q else E := by
  obtain ⟨i0, ii, iz0, iz1, iz2⟩ := info_parts infoI
  obtain ⟨hi, hzs⟩ := hrow
  obtain ⟨u0, hu0, hu⟩ := h.made.row i hi
  rw [h.at_] at hu0
  simp only [Option.some.injEq, Prod.mk.injEq] at hu0
  obtain ⟨_, rfl⟩ := hu0
  rw [hzs] at hu
  refine step_append_lies _ hgd s x 22 hop w.heap.size 3 i0 _ 1 8 Tryz.underlying22 ii iz0 iz1 iz2 rfl (by decide) _ zs.length _ hs hu ⟨c, 0, none⟩ 1 1 [.int .i64 y] hx rfl ?_ ?_ (by omega) (by unfold maxLen; omega) (by omega) (by have := h.go.gb.size; omega) _ rfl ?_
  · intro j u' hj
    rcases j with _ | j
    · simp at hj; subst hj; simp [Addr.add, World.cell?, hb]
    · simp at hj
  · intro u' hu'; simp at hu'; subst hu'; rfl
  · intro g cap w' hown' hgrow _ _
    have ho2 : w'.ownsRow w.heap.size 3 1 (.slice (some ⟨g, 0, none⟩) (zs.length + 1) cap) (zs ++ [y]).length (inC (zs ++ [y])) := by rw [List.length_append]; simpa [inC] using hown'
    refine hK g cap w' (fun key => h.change hi hlt hgrow ho2 key) ?_
    have hP := own_other h.made.own hu hgrow (by decide)
    obtain ⟨hiq, hxq⟩ := List.getElem?_eq_some_iff.1 h.at_
    have a0 := flatK_at (enc := peC) (k := 2) (fun _ => rfl) qs i 0 hiq (by omega)
    have a1 := flatK_at (enc := peC) (k := 2) (fun _ => rfl) qs i 1 hiq (by omega)
    rw [hxq] at a0 a1
    obtain ⟨c0, f0, hl, _⟩ := own_cellP hP h.kl a0
    obtain ⟨c1, f1, _⟩ := own_cellP hP h.kl a1
    rw [Nat.add_zero] at c0 f0
    exact ⟨c0, c1, f0, f1, hl⟩
end
def keysQ : List ByteArray := [⟨#[113, 97]⟩, ⟨#[113, 98]⟩, ⟨#[113, 99]⟩, ⟨#[113, 100]⟩, ⟨#[113, 101]⟩]
theorem keysQ_at {w : World} {p : Nat} (h : w.heap[p]? = some (.cells (keysQ.map Value.string).toArray 9 (0, 0))) {k : Nat} (hk : k < 5) : ∃ s : ByteArray, s.size ≤ 2 ∧ w.cell? ⟨p, k, none⟩ = some (.string s) := by
  have h4 : k < keysQ.length := hk
  refine ⟨keysQ[k], ?_, by simp [World.cell?, h, h4]⟩
  have := List.all_eq_true.1 (show keysQ.all (fun r => decide (r.size ≤ 2)) = true by decide) _ (List.getElem_mem h4)
  simpa using this
def Pe8 (p : PeerD) : Prop := p.1.size ≤ 2 ∧ p.2.length ≤ 9 ∧ ∀ z ∈ p.2, -1 ≤ z ∧ z ≤ 1000
theorem pe8_ok {ps : List PeerD} (h : ∀ p ∈ ps, Pe8 p) : PeOk ps := fun p hp => ⟨by have := (h p hp).1; omega, by have := (h p hp).2.1; omega, fun z hz => by have := (h p hp).2.2 z hz; omega⟩
def GpRel (b M : Nat) (w : World) (n : Nat) (g : Nat) (out i : Value) (wr : World) : Prop :=
  ∃ (k : Nat) (ps : List PeerD) (qs : List (ByteArray × Value)), k + g = n ∧ i = .int .i64 k ∧ ps.length = k ∧ (∀ p ∈ ps, Pe8 p ∧ p.2.length ≤ 8) ∧ wr.heap[w.heap.size]? = some (.cells (keysQ.map Value.string).toArray 9 (0, 0)) ∧
    PMade wr (w.heap.size + 1) out ps qs ∧ Goes 25 b M (1 + 8 * k) w wr
def GqRel (b M : Nat) (w2 : World) (n : Nat) (key : ByteArray) (g : Nat) (i : Value) (wr : World) : Prop :=
  ∃ (k : Nat) (zs : List Int) (hv : Value), k + g = n ∧ i = .int .i64 k ∧ zs.length ≤ k ∧ (∀ z ∈ zs, 0 ≤ z ∧ z < 8) ∧ wr.heap[w2.heap.size]? = some (.cells #[.string key, hv] 71 (0, 0)) ∧ wr.ownsRow (w2.heap.size + 1) 3 1 hv zs.length (inC zs) ∧
    Goes 25 b M k w2 wr
def GoesPeers (b M : Nat) (w : World) (e : Ending) (w' : World) : Prop :=
  ∃ (v : Value) (ps : List PeerD), ps.length ≤ 5 ∧ PeOk ps ∧ e = .returned v ∧ PeersAt w' w.heap.size v ps ∧ Goes 25 b M 50 w w'
set_option maxRecDepth 100000 in
set_option maxHeartbeats 4000000 in
theorem gpeers_any (b M : Nat) (m : Int) (w : World) (hs : IsStream 25 w b M) (hM : M ≤ 100000000000000) (hm0 : 0 ≤ m) (hm1 : m ≤ 61) :
    Calls Tryz.prog 41 #[.pointer (some ⟨b, 0, none⟩), .int .i64 m] w (GoesPeers b M w) := by
  have hlt := hs.lt
  obtain ⟨i0, hi, hz0, hz1, hz2⟩ := info_parts infoPe
  obtain ⟨j0, ji, jz0, jz1, jz2⟩ := info_parts infoI
  go_enter Tryz.func41, Tryz.ntmps41
  go_wp2_with fail
  refine (range_any b M 0 5 _ (hs.alloc _) (by omega) (by omega) (by omega) (by omega)).mono ?_
  rintro e w1 ⟨r, ⟨hr0, hr1⟩, rfl, g1⟩
  obtain ⟨n, rfl⟩ := Int.eq_ofNat_of_zero_le hr0
  have hR : w1.heap[w.heap.size]? = some (.cells (keysQ.map Value.string).toArray 9 (0, 0)) := (g1.gb.block w.heap.size (by simp) (fun e => by injection e with e; omega)).trans (heap_alloc_new w _)
  have HR := Lib.hid hR
  have G1 := g1.of_alloc
  have hn4 : n ≤ 5 := by omega
  have hn4' : (n : Int) ≤ 5 := by omega
  clear g1 hR
  go_wp2_with fail
  go_loopg [5, 7, 8, 9, 16, 25] n (fun g out _ _ _ i _ wr => GpRel b M w n g out i wr)
  case atStart => exact ⟨0, [], [], by omega, rfl, rfl, (fun x hx => by cases hx), HR.out, ⟨World.ownsRow_nil _ _ _ _, rfl, fun i hi => absurd hi (Nat.not_lt_zero _), fun i j q q' x hi => by simp at hi⟩, G1⟩
  case round =>
    obtain ⟨k, ps, qs, hk, rfl, hl, hok, hR, hP, hgo⟩ := hrel
    have HL := Lib.hid hl
    have HOK := Lib.hid hok
    have HR := Lib.hid hR
    have HP := Lib.hid hP
    have hz := hgo.gb.size
    have hRl := block_lt hR
    clear hl hok hR hP
    by_cases hg : gk = 0
    rotate_left
    · have HK := Lib.hid hk
      have hkn : k < n := by omega
      have hknI : (k : Int) < (n : Int) := by omega
      have hgk : gk ≠ 0 := hg
      obtain ⟨key, hks, ck⟩ := keysQ_at HR.out (show k < 5 by omega)
      clear hk hg
      go_wp2_with fail
      obtain ⟨n8, hn8, hn9⟩ : ∃ n8 : Nat, max 0 (min m 8) = (n8 : Int) ∧ n8 ≤ 8 := ⟨(max 0 (min m 8)).toNat, by omega, by omega⟩
      rw [hn8]
      have HPB := Lib.hid (heap_alloc_new wr (.cells #[.string key, .slice none 0 0] 71))
      have G2 : Goes 25 b (M + (1 + 8 * k)) 0 wr (wr.alloc (.cells #[.string key, .slice none 0 0] 71)) := (Goes.refl (k := 0) hgo.is).alloc _
      have hz2 : wr.heap.size + 1 ≤ (wr.alloc (.cells #[.string key, .slice none 0 0] 71)).heap.size := by simp
      have HGO := Lib.hid hgo
      generalize wr.alloc (.cells #[.string key, .slice none 0 0] 71) = w2 at *
      clear hn8 ck hgo
      obtain ⟨wo, rfl⟩ : ∃ wo : World, wo = wr := ⟨_, rfl⟩
      obtain ⟨gq, rfl⟩ : ∃ gq, gq = gk := ⟨_, rfl⟩
      obtain ⟨pb, hpb⟩ : ∃ pb, pb = wo.heap.size := ⟨_, rfl⟩
      rw [← hpb] at HPB ⊢
      have HPZ := Lib.hid hpb
      have hpb1 : wo.heap.size ≤ pb := by omega
      have hbpb : b < pb := by omega
      clear hpb
      go_loopg [25, 9] n8 (fun g i _ wx => GqRel b (M + (1 + 8 * k)) wo n8 key g i wx)
      case atStart => exact ⟨0, [], _, by omega, rfl, Nat.le_refl _, (fun z hz => by cases hz), by rw [← HPZ.out]; exact HPB.out, World.ownsRow_nil _ _ _ _, G2⟩
      case round =>
        clear HPB G2 hz2
        obtain ⟨j, zs, hv, hk, rfl, hl, hok, hB, ho, hgo⟩ := hrel
        rw [← HPZ.out] at hB ho
        have HJ := Lib.hid hk
        have HZ := Lib.hid hok
        have hzr := hgo.gb.size
        have hpl := block_lt hB
        obtain ⟨HVA, hvc, rfl⟩ : ∃ A c, hv = .slice A zs.length c := by
          rcases ho.2 with ⟨rfl, h0⟩ | ⟨g, cap, cur, rfl, _⟩
          · exact ⟨none, 0, by rw [h0]⟩
          · exact ⟨_, cap, rfl⟩
        by_cases hg : gk = 0
        rotate_left
        · have hjn : j < n8 := by omega
          have hjI : (j : Int) < (n8 : Int) := by omega
          have hgk2 : gk ≠ 0 := hg
          clear hk hg hok
          go_wp2_with fail
          refine (flip_any b (M + (1 + 8 * k) + j) 3 _ hgo.is (by omega) (by omega) (by omega)).mono ?_
          rintro e w3 ⟨fl, rfl, g3⟩
          have G3 := hgo.trans g3 (Nat.le_refl _)
          have o3 := ownsRow_gbS ho g3.gb (by omega)
          have hB3 := (g3.gb.block pb hpl (fun e => by injection e with e; omega)).trans hB
          have z3 := g3.gb.size
          clear g3 hgo ho hB
          cases fl
          · have HB3 := Lib.hid hB3
            have HO3 := Lib.hid o3
            clear hB3 o3
            go_wp2_with fail
            go_roundg (gk - 1)
            case measure => omega
            case rel => exact ⟨j + 1, zs, _, by have := HJ.out; omega, by go_num, by omega, HZ.out, by rw [← HPZ.out]; exact HB3.out, by rw [← HPZ.out]; exact HO3.out, G3⟩
          · obtain ⟨p0, p1, f0, f1⟩ := stream_cells hB3
            have hz5 : pb + 1 ≤ w3.heap.size := by omega
            have hpl3 : pb < w3.heap.size := by omega
            have HB3 := Lib.hid hB3
            clear hB3
            go_wp2_with (at_builtin; refine wpList_push (W := w3) (lo := pb + 1) rfl _ _ 22 rfl 3 j0 _ 1 8 Tryz.underlying22 ji jz0 jz1 jz2 rfl (by decide) (by decide) _ _ _ rfl (Below.refl _ _) hz5 o3 [.int .i64 j] rfl rfl rfl rfl (by omega) ?_)
            intro v5 w5 O5 b5 z5 _
            have hB5 := (b5.block pb (by omega)).trans HB3.out
            obtain ⟨A5, c5, rfl⟩ : ∃ A c, v5 = .slice A (zs.length + 1) c := by
              rcases O5.2 with ⟨rfl, h0⟩ | ⟨g, cap, cur, rfl, _⟩
              · exact absurd h0 (by omega)
              · exact ⟨_, cap, rfl⟩
            obtain ⟨p0', p1', f0', f1'⟩ := stream_cells hB5
            have hpl5 := block_lt hB5
            have HB6 := Lib.hid (stream_set (v' := .slice A5 (zs.length + 1) c5) hB5)
            have HO6 := Lib.hid (own_set (j := 1) (u := .slice A5 (zs.length + 1) c5) O5 hB5 (by decide))
            have HG6 := Lib.hid (((G3.belowAt (B := pb + 1) (by omega) (by omega) b5).setP (by omega) (p := ⟨pb, 1, none⟩) hpb1 (.slice A5 (zs.length + 1) c5)))
            clear b5 O5 hB5 o3 p0 p1 f0 f1 G3
            go_wp2_with fail
            go_roundg (gk - 1)
            case measure => omega
            case rel => exact ⟨j + 1, zs ++ [(j : Int)], _, by have := HJ.out; omega, by go_num, by simp; omega, fun z hz => by
              rcases List.mem_append.1 hz with h1 | h1
              · exact HZ.out z h1
              · simp at h1; subst h1; omega, by rw [← HPZ.out]; exact HB6.out, by rw [← HPZ.out]; simpa [inC] using HO6.out, HG6.out⟩
        · obtain rfl : j = n8 := by omega
          have HPM := HP.out.gb hgo.gb (show b < w.heap.size + 1 by omega)
          have ho' := ownsRow_base ho (show w.heap.size + 1 ≤ pb + 1 by omega)
          have hR' := (hgo.gb.block w.heap.size (by omega) (fun e => by injection e with e; omega)).trans HR.out
          have hGG := HGO.out.trans hgo (Nat.le_refl _)
          obtain ⟨p0, p1, _, _⟩ := stream_cells hB
          have hz6 : w.heap.size + 1 ≤ wr.heap.size := by omega
          have hpown := HPM.own
          have hpsl : ps.length ≤ 5 := by have := HL.out; omega
          have HFR := Lib.hid (fun (i : Nat) (q : ByteArray × Value) (x : Nat) (hq : qs[i]? = some q) (h1 : q.2.ownBlock = some x) (h2 : (Value.slice HVA zs.length hvc).ownBlock = some x) => (by
            have hil : i < ps.length := by rw [← HP.out.len]; exact (List.getElem?_eq_some_iff.1 hq).1
            obtain ⟨u, hu, hw⟩ := HP.out.row i hil
            rw [hq] at hu
            simp only [Option.some.injEq] at hu
            subst hu
            obtain ⟨_, cur, hc⟩ := own_ge hw h1
            have := block_lt hc
            have := (own_ge ho h2).1
            omega : False))
          have HO := Lib.hid ho'
          have HM := Lib.hid HPM
          clear hk hg hok hB ho ho' hgo HPM HP HGO
          go_wp2_with (at_builtin; refine wpList_push (W := wr) (lo := w.heap.size + 1) rfl _ _ 60 rfl 71 i0 _ 2 40 Tryz.underlying60 hi hz0 hz1 hz2 rfl (by decide) (by decide) _ _ _ rfl (Below.refl _ _) hz6 hpown [.string key, .slice HVA zs.length hvc] rfl rfl rfl rfl (by omega) ?_)
          intro v7 w7 O7 b7 z7 hg7
          have HP7 := Lib.hid (HM.out.push HO.out HFR.out hg7 O7)
          have HR7 := Lib.hid ((b7.block w.heap.size (by omega)).trans hR')
          have G7 := hGG.belowAt (B := w.heap.size + 1) (by omega) (by omega) b7
          clear O7 b7 hg7 hpown hR' hGG HM HO p0 p1
          go_wp2_with fail
          go_roundg (gq - 1)
          case measure => omega
          case rel => exact ⟨k + 1, ps ++ [(key, zs)], _, by have := HK.out; omega, by go_num, by have := HL.out; simp [this], fun p hp => by
            rcases List.mem_append.1 hp with h1 | h1
            · exact HOK.out p h1
            · simp at h1; subst h1; exact ⟨⟨hks, by show zs.length ≤ 9; omega, fun z hz => by have := HZ.out z hz; omega⟩, by show zs.length ≤ 8; omega⟩, HR7.out, HP7.out, G7.more (by omega)⟩
    · obtain rfl : k = n := by omega
      have hP := HP.out.base (Nat.le_succ w.heap.size)
      have HEND : Hid (∀ (v : Value) (ps' : List PeerD) (w' : World), ps'.length = k → (∀ p ∈ ps', Pe8 p) → PeersAt w' w.heap.size v ps' → Goes 25 b M 50 w w' → GoesPeers b M w (.returned v) w') := fun v ps' w' h1 h2 h3 h4 => ⟨v, ps', by omega, pe8_ok h2, rfl, h3, h4⟩
      obtain ⟨OA, oc, rfl⟩ : ∃ A c, u5 = .slice A k c := by
        have hl := HL.out
        rcases hP.own.2 with ⟨rfl, h0⟩ | ⟨g, cap, cur, rfl, _⟩
        · exact ⟨none, 0, by rw [← hl, h0]⟩
        · exact ⟨_, cap, by rw [hl]⟩
      have HP2 := Lib.hid hP
      clear hk hg HR HP hP
      by_cases hk0 : k = 0
      · subst hk0
        go_wp2_with fail
        go_ret
        exact HEND.out _ ps _ HL.out (fun p hp => (HOK.out p hp).1) HP2.out.peers (hgo.more (by omega))
      · have hkp : 0 < k := by omega
        have hkpI : (0 : Int) < (k : Int) := by omega
        clear hk0
        go_wp2_with fail
        refine (flip_any b (M + (1 + 8 * k)) 15 _ hgo.is (by omega) (by omega) (by omega)).mono ?_
        rintro e w3 ⟨fl, rfl, g3⟩
        have hP3 := HP2.out.gb g3.gb hlt
        have G3 := hgo.trans g3 (Nat.le_refl _)
        clear g3 HP2 hgo
        cases fl
        · go_wp2_with fail
          go_ret
          exact HEND.out _ ps _ HL.out (fun p hp => (HOK.out p hp).1) hP3.peers (G3.more (by omega))
        · go_wp2_with fail
          refine (next_any b (M + (1 + 8 * k + 1)) k _ G3.is (by omega) (by omega) (by omega)).mono ?_
          rintro e w4 ⟨r, ⟨hi0, hi1⟩, rfl, g4⟩
          obtain ⟨i, rfl⟩ := Int.eq_ofNat_of_zero_le hi0
          have hP4 := hP3.gb g4.gb hlt
          have G4 := G3.trans g4 (Nat.le_refl _)
          have hik : i < k := by omega
          clear g4 hP3 G3
          obtain ⟨og, oc2, e2, hog, hogl⟩ := hP4.own.form (by have := HL.out; omega)
          simp only [Value.slice.injEq] at e2
          obtain ⟨rfl, hlk, rfl⟩ := e2
          have hips : i < ps.length := by omega
          clear hlk
          obtain ⟨u, hu, hru⟩ := hP4.row i hips
          have hp8 := HOK.out _ (List.getElem_mem hips)
          obtain ⟨HA, hc, rfl⟩ : ∃ A c, u = .slice A ps[i].2.length c := by
            rcases hru.2 with ⟨rfl, h0⟩ | ⟨g, cap, cur, rfl, _⟩
            · exact ⟨none, 0, by rw [h0]⟩
            · exact ⟨_, cap, rfl⟩
          have hx2 : ps[i].1.size ≤ 2 := hp8.1.1
          have hzl : ps[i].2.length ≤ 8 := hp8.2
          have HNEW := Lib.hid (fun (y0 : ByteArray) (y1 : Int) (h1 : y0.size ≤ 2) (h2 : -1 ≤ y1 ∧ y1 ≤ 61) => (show ∀ p ∈ ps.set i (y0, ps[i].2 ++ [y1]), Pe8 p from fun p hp => by
            rcases List.mem_or_eq_of_mem_set hp with h | rfl
            · exact (HOK.out p h).1
            · refine ⟨h1, by simp; omega, fun z hz => ?_⟩
              rcases List.mem_append.1 hz with h | h
              · have := hp8.1.2.2 z h; omega
              · simp at h; subst h; omega))
          have st4 : PSt b M w og i ps[i].1 (.slice HA ps[i].2.length hc) k oc ps qs (1 + 8 * k + 1 + 1) w4 := ⟨hP4, hu, HL.out.symm, G4⟩
          have st := st4.drew
          have z4 : w.heap.size ≤ w4.heap.size := G4.gb.size
          clear hP4 hu hru G4 st4 hp8
          generalize hzz : ps[i].2 = zs at *
          generalize ps[i].1 = x0 at *
          have HGB := Lib.hid (show ∃ hi : i < ps.length, ps[i].2 = zs from ⟨hips, hzz⟩)
          clear hzz
          go_upto_region 16 with fail
          refine wp_region_late (fun j => j == 21 || j == 24) (fun w' => w'.cell? ⟨og, i * 2, none⟩ = some (.string x0) ∧ w'.cell? ⟨og, i * 2 + 1, none⟩ = some (.slice HA zs.length hc)) (by kernel_rfl) ?_
          refine wpLate_takeP (i := 0) (v := .pointer (some ⟨og, i * 2, none⟩)) rfl (by kernel_rfl) (by kernel_rfl) (by kernel_rfl) (fun _ _ _ h => h) (Or.inl ⟨by rfl, fun _ _ => by go_simp⟩) ?_
          refine wpLate_takeP (i := 1) (v := .pointer (some ⟨og, i * 2, none⟩)) rfl (by kernel_rfl) (by kernel_rfl) (by kernel_rfl) (fun _ _ _ h => h) (Or.inl ⟨by rfl, fun _ _ => by go_simp⟩) ?_
          refine wpLate_takeP (i := 2) (v := .pointer (some ⟨b, 0, none⟩)) rfl (by kernel_rfl) (by kernel_rfl) (by kernel_rfl) (fun _ _ _ h => h) (Or.inl ⟨by rfl, fun _ _ => by go_simp⟩) ?_
          refine wpLate_takeP (i := 3) (v := .pointer (some ⟨og, i * 2, none⟩)) rfl (by kernel_rfl) (by kernel_rfl) (by kernel_rfl) (fun _ _ _ h => h) (Or.inl ⟨by rfl, fun _ _ => by go_simp⟩) ?_
          refine wpLate_takeP (i := 4) (v := .pointer (some ⟨og, i * 2, none⟩)) rfl (by kernel_rfl) (by kernel_rfl) (by kernel_rfl) (fun _ _ _ h => h) (Or.inl ⟨by rfl, fun _ _ => by go_simp⟩) ?_
          refine wpLate_takeP (i := 5) (v := .pointer (some ⟨og, i * 2, none⟩)) rfl (by kernel_rfl) (by kernel_rfl) (by kernel_rfl) (fun _ _ _ h => h) (Or.inl ⟨by rfl, fun _ _ => by go_simp⟩) ?_
          refine wpLate_takeP (i := 9) (v := .pointer (some ⟨og, i * 2, none⟩)) rfl (by kernel_rfl) (by kernel_rfl) (by kernel_rfl) (fun _ _ _ h => h) (Or.inl ⟨by rfl, fun _ _ => by go_simp⟩) ?_
          refine wpLate_takeP (i := 10) (v := .pointer (some ⟨og, i * 2, none⟩)) rfl (by kernel_rfl) (by kernel_rfl) (by kernel_rfl) (fun _ _ _ h => h) (Or.inl ⟨by rfl, fun _ _ => by go_simp⟩) ?_
          refine wpLate_takeP (i := 11) (v := .pointer (some ⟨og, i * 2 + 1, none⟩)) rfl (by kernel_rfl) (by kernel_rfl) (by kernel_rfl) (fun _ _ _ h => h) (Or.inl ⟨by rfl, fun _ _ => by go_simp⟩) ?_
          refine wpLate_takeP (i := 13) (v := .pointer (some ⟨b, 0, none⟩)) rfl (by kernel_rfl) (by kernel_rfl) (by kernel_rfl) (fun _ _ _ h => h) (Or.inl ⟨by rfl, fun _ _ => by go_simp⟩) ?_
          refine wpLate_takeP (i := 14) (v := .int .i64 m) rfl (by kernel_rfl) (by kernel_rfl) (by kernel_rfl) (fun _ _ _ h => h) (Or.inl ⟨by rfl, fun _ _ => by go_simp⟩) ?_
          refine wpLate_take (i := 6) (v := .string x0) rfl (by kernel_rfl) (by kernel_rfl) (by kernel_rfl) (by kernel_rfl) (fun _ _ _ h => h) (Or.inl ⟨by rfl, fun w' hw' => by obtain ⟨h1, h2⟩ := hw'; go_simp⟩) st.cells ?_
          refine wpLate_take (i := 12) (v := .slice HA zs.length hc) rfl (by kernel_rfl) (by kernel_rfl) (by kernel_rfl) (by kernel_rfl) (fun _ _ _ h => h) (Or.inl ⟨by rfl, fun w' hw' => by obtain ⟨h1, h2⟩ := hw'; go_simp⟩) st.cells ?_
          refine wpLate_ready (rs := [7, 15]) (by kernel_rfl) (by simp) ?_
          refine AllLate.cons (i := 7) rfl (fun K hK => ?_) (AllLate.cons (i := 15) rfl (fun K hK => ?_) AllLate.nil)
          · go_simp
            have st := st.alloc (.cells (List.map Value.string [x0, ⟨#[]⟩, ⟨#[113, 97]⟩]).toArray 9)
            refine hK _ _ (fun _ _ => st.cells) ?_
            clear hK K
            refine wpLate_ready (rs := [8, 15]) (by kernel_rfl) (by simp) ?_
            refine AllLate.cons (i := 8) rfl (fun K hK => ?_) (AllLate.cons (i := 15) rfl (fun K hK => ?_) AllLate.nil)
            · go_simp
              refine (some_any b (M + (1 + 8 * k + 1 + 1)) _ [x0, ⟨#[]⟩, ⟨#[113, 97]⟩] 3 3 _ 9 st.go.is (by omega) rfl (by omega) (by omega) (by first | exact heap_newP _ _ _ (by simp) | exact (Below.heap_alloc _ _ _ (by simp)).trans (heap_newP _ _ _ (by simp))) (by first | omega | (simp; omega))).mono ?_
              rintro e w5 ⟨y0, hy0, rfl, g5⟩
              have hk5 := Lib.hid g5.gb.block
              have z5 : w4.heap.size ≤ w5.heap.size := by have := g5.gb.size; simp at this; omega
              have st := st.goes hlt g5
              clear g5
              go_simp
              refine hK _ _ (fun _ _ => st.cells) ?_
              clear hK K
              refine wpLate_ready (rs := [15]) (by kernel_rfl) (by simp) ?_
              refine AllLate.cons (i := 15) rfl (fun K hK => ?_) AllLate.nil
              go_simp
              have st := st.alloc (.cells (List.map (Value.int .i64) [0, -1, m, 3]).toArray 3)
              refine hK _ _ (fun _ _ => st.cells) ?_
              clear hK K
              refine wpLate_ready (rs := [16]) (by kernel_rfl) (by simp) ?_
              refine AllLate.cons (i := 16) rfl (fun K hK => ?_) AllLate.nil
              go_simp
              refine (pick_any b (M + (1 + 8 * k + 1 + 1 + 1)) _ [0, -1, m, 3] 4 4 _ 3 st.go.is (by omega) rfl (by omega) (by omega) (by first | exact heap_newP _ _ _ (by simp) | exact (hk5.out _ (by simp <;> omega) (fun e => by injection e with e; omega)).trans (heap_newP _ _ _ (by simp)) | exact (hk5.out _ (by simp <;> omega) (fun e => by injection e with e; omega)).trans ((Below.heap_alloc _ _ _ (by simp)).trans (heap_newP _ _ _ (by simp)))) (by first | omega | (simp; omega))).mono ?_
              rintro e w6 ⟨y1, hy1, rfl, g6⟩
              have st := st.goes hlt g6
              clear g6 hk5
              go_simp
              refine hK _ _ (fun _ _ => st.cells) ?_
              clear hK K
              refine wpLate_ready (rs := [17]) (by kernel_rfl) (by simp) ?_
              refine AllLate.cons (i := 17) rfl (fun K hK => ?_) AllLate.nil
              go_simp
              have st := st.alloc (.cells #[.int .i64 y1] 3)
              refine hK _ _ (fun _ _ => st.cells) ?_
              clear hK K
              refine wpLate_ready (rs := [18]) (by kernel_rfl) (by simp) ?_
              refine AllLate.cons (i := 18) rfl (fun K hK => ?_) AllLate.nil
              refine st.append (by rfl) (.tmp 67) (.tmp 72) (by rfl) (by rfl) (by rfl) (heap_newP _ _ _ (by simp)) (by omega) hlt HGB.out ?_
              intro g7 c7 w7 hE cc
              obtain ⟨c0, c1, f0, f1, hl7⟩ := cc
              refine hK _ _ (fun _ _ => ⟨c0, c1⟩) ?_
              clear hK K
              refine wpLate_takeP (i := 19) (v := .pointer (some ⟨og, i * 2, none⟩)) rfl (by kernel_rfl) (by kernel_rfl) (by kernel_rfl) (fun _ _ _ h => h) (Or.inl ⟨by rfl, fun _ _ => by go_simp⟩) ?_
              refine wpLate_takeP (i := 20) (v := .pointer (some ⟨og, i * 2, none⟩)) rfl (by kernel_rfl) (by kernel_rfl) (by kernel_rfl) (fun _ _ _ h => h) (Or.inl ⟨by rfl, fun _ _ => by go_simp⟩) ?_
              refine wpLate_ready (rs := [21]) (by kernel_rfl) (by simp) ?_
              refine AllLate.cons (i := 21) rfl (fun K hK => ?_) AllLate.nil
              go_simp
              refine hK _ _ (fun h => by cases h) ?_
              clear hK K
              refine wpLate_takeP (i := 22) (v := .pointer (some ⟨og, i * 2, none⟩)) rfl (by kernel_rfl) (by kernel_rfl) (by kernel_rfl) (fun _ _ _ h => h) (Or.inl ⟨by rfl, fun _ _ => by go_simp⟩) ?_
              refine wpLate_takeP (i := 23) (v := .pointer (some ⟨og, i * 2 + 1, none⟩)) rfl (by kernel_rfl) (by kernel_rfl) (by kernel_rfl) (fun _ _ _ h => h) (Or.inl ⟨by rfl, fun _ _ => by go_simp⟩) ?_
              refine wpLate_ready (rs := [24]) (by kernel_rfl) (by simp) ?_
              refine AllLate.cons (i := 24) rfl (fun K hK => ?_) AllLate.nil
              go_simp
              refine hK _ _ (fun h => by cases h) ?_
              clear hK K
              refine wpLate_done (by kernel_rfl) ?_ _
              have HE := Lib.hid (hE y0)
              have hy0' : y0.size ≤ 2 := by simp at hy0; rcases hy0 with rfl | rfl | rfl <;> first | exact hx2 | decide
              have hy1' : -1 ≤ y1 ∧ y1 ≤ 61 := by simp at hy1; omega
              clear hE st c0 c1 f0 f1 hy0 hy1
              go_wp2_with fail
              go_ret
              exact HEND.out _ _ _ (by have := HL.out; simpa using this) (HNEW.out y0 y1 hy0' hy1') HE.out.1 (HE.out.2.more (by omega))
            · go_simp
              have st := st.alloc (.cells (List.map (Value.int .i64) [0, -1, m, 3]).toArray 3)
              refine hK _ _ (fun _ _ => st.cells) ?_
              clear hK K
              refine wpLate_ready (rs := [8]) (by kernel_rfl) (by simp) ?_
              refine AllLate.cons (i := 8) rfl (fun K hK => ?_) AllLate.nil
              go_simp
              refine (some_any b (M + (1 + 8 * k + 1 + 1)) _ [x0, ⟨#[]⟩, ⟨#[113, 97]⟩] 3 3 _ 9 st.go.is (by omega) rfl (by omega) (by omega) (by first | exact heap_newP _ _ _ (by simp) | exact (Below.heap_alloc _ _ _ (by simp)).trans (heap_newP _ _ _ (by simp))) (by first | omega | (simp; omega))).mono ?_
              rintro e w5 ⟨y0, hy0, rfl, g5⟩
              have hk5 := Lib.hid g5.gb.block
              have z5 : w4.heap.size ≤ w5.heap.size := by have := g5.gb.size; simp at this; omega
              have st := st.goes hlt g5
              clear g5
              go_simp
              refine hK _ _ (fun _ _ => st.cells) ?_
              clear hK K
              refine wpLate_ready (rs := [16]) (by kernel_rfl) (by simp) ?_
              refine AllLate.cons (i := 16) rfl (fun K hK => ?_) AllLate.nil
              go_simp
              refine (pick_any b (M + (1 + 8 * k + 1 + 1 + 1)) _ [0, -1, m, 3] 4 4 _ 3 st.go.is (by omega) rfl (by omega) (by omega) (by first | exact heap_newP _ _ _ (by simp) | exact (hk5.out _ (by simp <;> omega) (fun e => by injection e with e; omega)).trans (heap_newP _ _ _ (by simp)) | exact (hk5.out _ (by simp <;> omega) (fun e => by injection e with e; omega)).trans ((Below.heap_alloc _ _ _ (by simp)).trans (heap_newP _ _ _ (by simp)))) (by first | omega | (simp; omega))).mono ?_
              rintro e w6 ⟨y1, hy1, rfl, g6⟩
              have st := st.goes hlt g6
              clear g6 hk5
              go_simp
              refine hK _ _ (fun _ _ => st.cells) ?_
              clear hK K
              refine wpLate_ready (rs := [17]) (by kernel_rfl) (by simp) ?_
              refine AllLate.cons (i := 17) rfl (fun K hK => ?_) AllLate.nil
              go_simp
              have st := st.alloc (.cells #[.int .i64 y1] 3)
              refine hK _ _ (fun _ _ => st.cells) ?_
              clear hK K
              refine wpLate_ready (rs := [18]) (by kernel_rfl) (by simp) ?_
              refine AllLate.cons (i := 18) rfl (fun K hK => ?_) AllLate.nil
              refine st.append (by rfl) (.tmp 67) (.tmp 72) (by rfl) (by rfl) (by rfl) (heap_newP _ _ _ (by simp)) (by omega) hlt HGB.out ?_
              intro g7 c7 w7 hE cc
              obtain ⟨c0, c1, f0, f1, hl7⟩ := cc
              refine hK _ _ (fun _ _ => ⟨c0, c1⟩) ?_
              clear hK K
              refine wpLate_takeP (i := 19) (v := .pointer (some ⟨og, i * 2, none⟩)) rfl (by kernel_rfl) (by kernel_rfl) (by kernel_rfl) (fun _ _ _ h => h) (Or.inl ⟨by rfl, fun _ _ => by go_simp⟩) ?_
              refine wpLate_takeP (i := 20) (v := .pointer (some ⟨og, i * 2, none⟩)) rfl (by kernel_rfl) (by kernel_rfl) (by kernel_rfl) (fun _ _ _ h => h) (Or.inl ⟨by rfl, fun _ _ => by go_simp⟩) ?_
              refine wpLate_ready (rs := [21]) (by kernel_rfl) (by simp) ?_
              refine AllLate.cons (i := 21) rfl (fun K hK => ?_) AllLate.nil
              go_simp
              refine hK _ _ (fun h => by cases h) ?_
              clear hK K
              refine wpLate_takeP (i := 22) (v := .pointer (some ⟨og, i * 2, none⟩)) rfl (by kernel_rfl) (by kernel_rfl) (by kernel_rfl) (fun _ _ _ h => h) (Or.inl ⟨by rfl, fun _ _ => by go_simp⟩) ?_
              refine wpLate_takeP (i := 23) (v := .pointer (some ⟨og, i * 2 + 1, none⟩)) rfl (by kernel_rfl) (by kernel_rfl) (by kernel_rfl) (fun _ _ _ h => h) (Or.inl ⟨by rfl, fun _ _ => by go_simp⟩) ?_
              refine wpLate_ready (rs := [24]) (by kernel_rfl) (by simp) ?_
              refine AllLate.cons (i := 24) rfl (fun K hK => ?_) AllLate.nil
              go_simp
              refine hK _ _ (fun h => by cases h) ?_
              clear hK K
              refine wpLate_done (by kernel_rfl) ?_ _
              have HE := Lib.hid (hE y0)
              have hy0' : y0.size ≤ 2 := by simp at hy0; rcases hy0 with rfl | rfl | rfl <;> first | exact hx2 | decide
              have hy1' : -1 ≤ y1 ∧ y1 ≤ 61 := by simp at hy1; omega
              clear hE st c0 c1 f0 f1 hy0 hy1
              go_wp2_with fail
              go_ret
              exact HEND.out _ _ _ (by have := HL.out; simpa using this) (HNEW.out y0 y1 hy0' hy1') HE.out.1 (HE.out.2.more (by omega))
          · go_simp
            have st := st.alloc (.cells (List.map (Value.int .i64) [0, -1, m, 3]).toArray 3)
            refine hK _ _ (fun _ _ => st.cells) ?_
            clear hK K
            refine wpLate_ready (rs := [7]) (by kernel_rfl) (by simp) ?_
            refine AllLate.cons (i := 7) rfl (fun K hK => ?_) AllLate.nil
            go_simp
            have st := st.alloc (.cells (List.map Value.string [x0, ⟨#[]⟩, ⟨#[113, 97]⟩]).toArray 9)
            refine hK _ _ (fun _ _ => st.cells) ?_
            clear hK K
            refine wpLate_ready (rs := [8]) (by kernel_rfl) (by simp) ?_
            refine AllLate.cons (i := 8) rfl (fun K hK => ?_) AllLate.nil
            go_simp
            refine (some_any b (M + (1 + 8 * k + 1 + 1)) _ [x0, ⟨#[]⟩, ⟨#[113, 97]⟩] 3 3 _ 9 st.go.is (by omega) rfl (by omega) (by omega) (by first | exact heap_newP _ _ _ (by simp) | exact (Below.heap_alloc _ _ _ (by simp)).trans (heap_newP _ _ _ (by simp))) (by first | omega | (simp; omega))).mono ?_
            rintro e w5 ⟨y0, hy0, rfl, g5⟩
            have hk5 := Lib.hid g5.gb.block
            have z5 : w4.heap.size ≤ w5.heap.size := by have := g5.gb.size; simp at this; omega
            have st := st.goes hlt g5
            clear g5
            go_simp
            refine hK _ _ (fun _ _ => st.cells) ?_
            clear hK K
            refine wpLate_ready (rs := [16]) (by kernel_rfl) (by simp) ?_
            refine AllLate.cons (i := 16) rfl (fun K hK => ?_) AllLate.nil
            go_simp
            refine (pick_any b (M + (1 + 8 * k + 1 + 1 + 1)) _ [0, -1, m, 3] 4 4 _ 3 st.go.is (by omega) rfl (by omega) (by omega) (by first | exact heap_newP _ _ _ (by simp) | exact (hk5.out _ (by simp <;> omega) (fun e => by injection e with e; omega)).trans (heap_newP _ _ _ (by simp)) | exact (hk5.out _ (by simp <;> omega) (fun e => by injection e with e; omega)).trans ((Below.heap_alloc _ _ _ (by simp)).trans (heap_newP _ _ _ (by simp)))) (by first | omega | (simp; omega))).mono ?_
            rintro e w6 ⟨y1, hy1, rfl, g6⟩
            have st := st.goes hlt g6
            clear g6 hk5
            go_simp
            refine hK _ _ (fun _ _ => st.cells) ?_
            clear hK K
            refine wpLate_ready (rs := [17]) (by kernel_rfl) (by simp) ?_
            refine AllLate.cons (i := 17) rfl (fun K hK => ?_) AllLate.nil
            go_simp
            have st := st.alloc (.cells #[.int .i64 y1] 3)
            refine hK _ _ (fun _ _ => st.cells) ?_
            clear hK K
            refine wpLate_ready (rs := [18]) (by kernel_rfl) (by simp) ?_
            refine AllLate.cons (i := 18) rfl (fun K hK => ?_) AllLate.nil
            refine st.append (by rfl) (.tmp 67) (.tmp 72) (by rfl) (by rfl) (by rfl) (heap_newP _ _ _ (by simp)) (by omega) hlt HGB.out ?_
            intro g7 c7 w7 hE cc
            obtain ⟨c0, c1, f0, f1, hl7⟩ := cc
            refine hK _ _ (fun _ _ => ⟨c0, c1⟩) ?_
            clear hK K
            refine wpLate_takeP (i := 19) (v := .pointer (some ⟨og, i * 2, none⟩)) rfl (by kernel_rfl) (by kernel_rfl) (by kernel_rfl) (fun _ _ _ h => h) (Or.inl ⟨by rfl, fun _ _ => by go_simp⟩) ?_
            refine wpLate_takeP (i := 20) (v := .pointer (some ⟨og, i * 2, none⟩)) rfl (by kernel_rfl) (by kernel_rfl) (by kernel_rfl) (fun _ _ _ h => h) (Or.inl ⟨by rfl, fun _ _ => by go_simp⟩) ?_
            refine wpLate_ready (rs := [21]) (by kernel_rfl) (by simp) ?_
            refine AllLate.cons (i := 21) rfl (fun K hK => ?_) AllLate.nil
            go_simp
            refine hK _ _ (fun h => by cases h) ?_
            clear hK K
            refine wpLate_takeP (i := 22) (v := .pointer (some ⟨og, i * 2, none⟩)) rfl (by kernel_rfl) (by kernel_rfl) (by kernel_rfl) (fun _ _ _ h => h) (Or.inl ⟨by rfl, fun _ _ => by go_simp⟩) ?_
            refine wpLate_takeP (i := 23) (v := .pointer (some ⟨og, i * 2 + 1, none⟩)) rfl (by kernel_rfl) (by kernel_rfl) (by kernel_rfl) (fun _ _ _ h => h) (Or.inl ⟨by rfl, fun _ _ => by go_simp⟩) ?_
            refine wpLate_ready (rs := [24]) (by kernel_rfl) (by simp) ?_
            refine AllLate.cons (i := 24) rfl (fun K hK => ?_) AllLate.nil
            go_simp
            refine hK _ _ (fun h => by cases h) ?_
            clear hK K
            refine wpLate_done (by kernel_rfl) ?_ _
            have HE := Lib.hid (hE y0)
            have hy0' : y0.size ≤ 2 := by simp at hy0; rcases hy0 with rfl | rfl | rfl <;> first | exact hx2 | decide
            have hy1' : -1 ≤ y1 ∧ y1 ≤ 61 := by simp at hy1; omega
            clear hE st c0 c1 f0 f1 hy0 hy1
            go_wp2_with fail
            go_ret
            exact HEND.out _ _ _ (by have := HL.out; simpa using this) (HNEW.out y0 y1 hy0' hy1') HE.out.1 (HE.out.2.more (by omega))
open Go
set_option linter.unusedVariables false
set_option linter.unusedSimpArgs false
section
variable {P : Program} {ops : Array Oper} {Q : Exit → Act → World → Prop} {md : Region.Mode} {S : World → Prop} {late : Nat → Bool}
def Closed (md : Region.Mode) (ops : Array Oper) (listed : Array Bool) : Prop := ∀ (k : Nat) (ok : Oper), ops[k]? = some ok → listed.getD k false = true → ∀ e ∈ ok.after, Region.binds md e = true → listed.getD e.on false = true
def closedB (md : Region.Mode) (ops : Array Oper) (listed : Array Bool) : Bool := (List.range ops.size).all fun k => !listed.getD k false || match ops[k]? with
  | some ok => ok.after.all fun e => !Region.binds md e || listed.getD e.on false
  | none => true
theorem closedB_spec {listed : Array Bool} (h : closedB md ops listed = true) : Closed md ops listed := by
  intro k ok hk hl e he hb
  simp only [closedB, List.all_eq_true, List.mem_range] at h
  have h1 := h k (Array.getElem?_eq_some_iff.1 hk).1
  simp only [hl, hk, Bool.not_true, Bool.false_or, Array.all_eq_true_iff_forall_mem] at h1
  have h2 := h1 e he
  rw [hb] at h2
  simpa using h2
theorem Closed.set {listed : Array Bool} (h : Closed md ops listed) {j : Nat} (hj : j ∈ Region.ready md ops listed) : Closed md ops (listed.setIfInBounds j true) := by
  intro k ok hk hl e he hb
  obtain ⟨_, oj, hoj, hall⟩ := mem_ready.1 hj
  by_cases ekj : j = k
  · subst ekj
    rw [hoj] at hk
    cases hk
    exact getD_set_true (hall e he hb)
  · rw [getD_set_ne false ekj] at hl
    exact getD_set_true (h k ok hk hl e he hb)
def reachB (md : Region.Mode) (ops : Array Oper) (i : Nat) : Nat → Nat → Bool
  | 0, _ => false
  | f + 1, j => match ops[j]? with
    | some oj => oj.after.any fun e => Region.binds md e && (e.on == i || reachB md ops i f e.on)
    | none => false
theorem reachB_spec {listed : Array Bool} (hcl : Closed md ops listed) {i : Nat} : ∀ (f j : Nat) (oj : Oper), ops[j]? = some oj → (∀ e ∈ oj.after, Region.binds md e = true → listed.getD e.on false = true) → reachB md ops i f j = true → listed.getD i false = true
  | 0, _, _, _, _, h => by cases h
  | f + 1, j, oj, hj, hall, h => by
    simp only [reachB, hj, Array.any_eq_true] at h
    obtain ⟨n, hn, h2⟩ := h
    simp only [Bool.and_eq_true, Bool.or_eq_true, beq_iff_eq] at h2
    have hl := hall _ (Array.getElem_mem hn) h2.1
    rcases h2.2 with h3 | h3
    · rw [h3] at hl; exact hl
    · cases hk : ops[(oj.after[n]).on]? with
      | none =>
        cases f with
        | zero => cases h3
        | succ f => simp [reachB, hk] at h3
      | some ok => exact reachB_spec hcl f _ ok hk (hcl _ ok hk hl) h3
def lateT (md : Region.Mode) (ops : Array Oper) (late : Nat → Bool) (i : Nat) : Bool := (List.range ops.size).all fun j => !late j || reachB md ops i ops.size j
theorem wpLate_firstT {i : Nat} {oi : Oper} {v : Value} (hi : ops[i]? = some oi) (hsel : ∀ (j : Nat) (o : Oper) cs b, ops[j]? = some o → o.op ≠ .select cs b)
    (hQ : ∀ c a w, Q (.panic c) (a.put oi.dst v) w → Q (.panic c) a w) (hlate : lateT md ops late i = true) :
    ∀ (fuel : Nat) (listed : Array Bool) (a : Act) (w : World), Closed md ops listed →
      (∀ j oj, ops[j]? = some oj → j ≠ i → listed.getD j true = false → (∀ e ∈ oj.after, Region.binds md e = true → e.on ≠ i) → oi.apart ops oj = true) →
      i ∈ Region.ready md ops listed → YieldsIf P ops S oi v a → S w →
      wpLate P md ops Q S late fuel (listed.setIfInBounds i true) (a.put oi.dst v) w → wpLate P md ops Q S late (fuel + 1) listed a w := by
  intro fuel
  induction fuel with
  | zero =>
    intro listed a w _ _ hr hy hS H
    refine ⟨fun h => (by rw [h] at hr; cases hr), fun j hj => ?_⟩
    by_cases hji : j = i
    · subst hji; exact hy.wpOp hi hS ⟨fun _ h => h, H⟩
    · have := ready_mono hj hji
      rw [H.1] at this
      cases this
  | succ fuel ih =>
    intro listed a w hcl hfree hr hy hS H
    refine ⟨fun h => (by rw [h] at hr; cases hr), fun j hj => ?_⟩
    by_cases hji : j = i
    · subst hji; exact hy.wpOp hi hS ⟨fun _ h => h, H⟩
    · have h1 := H.2 j (ready_mono hj hji)
      obtain ⟨hjun, oj, hoj, hall⟩ := mem_ready.1 hj
      have hiun : listed.getD i false = false := by
        have h0 := (mem_ready.1 hr).1
        rcases Nat.lt_or_ge i listed.size with h' | h'
        · simp [h'] at h0 ⊢; exact h0
        · simp [Array.getElem?_eq_none h']
      have hnot : ∀ e ∈ oj.after, Region.binds md e = true → e.on ≠ i := fun e he hb heq => by
        have h1 := hall e he hb
        rw [heq, hiun] at h1
        cases h1
      have hjl : late j = false := by
        cases hl : late j with
        | false => rfl
        | true =>
          simp only [lateT, List.all_eq_true, List.mem_range] at hlate
          have h5 := hlate j (Array.getElem?_eq_some_iff.1 hoj).1
          rw [hl] at h5
          have h6 := reachB_spec hcl ops.size j oj hoj hall (by simpa using h5)
          rw [hiun] at h6
          cases h6
      have h2 := wpOp_putIf hoj (hfree j oj hoj hji hjun hnot) (fun cs b => hsel i oi cs b hi) (fun cs b => hsel j oj cs b hoj) hQ hy h1
      have hfree' : ∀ k ok, ops[k]? = some ok → k ≠ i → (listed.setIfInBounds j true).getD k true = false →
          (∀ e ∈ ok.after, Region.binds md e = true → e.on ≠ i) → oi.apart ops ok = true := fun k ok hk hki hun hno => by
        refine hfree k ok hk hki ?_ hno
        by_cases hjk : j = k
        · subst hjk; exact hjun
        · rw [getD_set_ne true hjk] at hun; exact hun
      refine wpOp_mono (fun a' w' h3 => ⟨h3.2.1, ih (listed.setIfInBounds j true) a' w' (hcl.set hj) hfree' (ready_mono hr (Ne.symm hji)) h3.1 (h3.2.1 hjl hS) ?_⟩) h2
      rw [Array.setIfInBounds_comm _ _ hji]
      exact h3.2.2
theorem wpLate_takeT {i : Nat} {oi : Oper} {v : Value} {fuel : Nat} {listed : Array Bool} {a : Act} {w : World} (hi : ops[i]? = some oi)
    (hs : Region.noSelect ops = true) (hf : Region.free md ops listed i = true) (hr : (Region.ready md ops listed).contains i = true) (hl : lateT md ops late i = true) (hcl : closedB md ops listed = true)
    (hQ : ∀ c a w, Q (.panic c) (a.put oi.dst v) w → Q (.panic c) a w) (hy : YieldsIf P ops S oi v a) (hS : S w)
    (h : wpLate P md ops Q S late fuel (listed.setIfInBounds i true) (a.put oi.dst v) w) : wpLate P md ops Q S late (fuel + 1) listed a w :=
  wpLate_firstT hi (Region.noSelect_spec hs) hQ hl fuel listed a w (closedB_spec hcl) (Region.free_spec hi hf) (by simpa using hr) hy hS h
end
open Go.RowKit
set_option linter.unusedVariables false
set_option linter.unusedSimpArgs false
attribute [local go_sem ↓] Go.wp_at_zero Go.wp_at_succ
theorem infoPa : (Tryz.prog.info? 142).map (fun i => (i.zero, i.size, i.bytes)) = some (some (.agg #[.string ⟨#[]⟩, .string ⟨#[]⟩]), 2, 32) := by kernel_rfl
def GoesNear (b M : Nat) (w : World) (e : Ending) (w' : World) : Prop :=
  ∃ (v : Value) (ne : List PairD), ne.length ≤ 100 ∧ e = .returned v ∧ w'.ownsRow w.heap.size 142 2 v ne.length (ne.flatMap paC) ∧ Goes 25 b M 100 w w'
def GnOut (b M : Nat) (w : World) (n : Nat) (g : Nat) (out i : Value) (wr : World) : Prop :=
  ∃ (k : Nat) (ne : List PairD), k + g = n ∧ i = .int .i64 k ∧ ne.length ≤ 5 * k ∧ wr.ownsRow w.heap.size 142 2 out ne.length (ne.flatMap paC) ∧ Goes 25 b M (10 * k) w wr
def GnIn (b M : Nat) (w : World) (k pb : Nat) (key : ByteArray) (u : Value) (n : Nat) (g : Nat) (out i : Value) (wr : World) : Prop :=
  ∃ (j : Nat) (ne : List PairD), j + g = n ∧ i = .int .i64 j ∧ ne.length ≤ 5 * k + j ∧ wr.heap[pb]? = some (.cells #[.string key, u] 71 (0, 0)) ∧ wr.ownsRow w.heap.size 142 2 out ne.length (ne.flatMap paC) ∧ Goes 25 b M (10 * k + 2 * j) w wr
theorem PeersAt.cap {w : World} {lo n c : Nat} {A : Option Addr} {ps : List PeerD} (h : PeersAt w lo (.slice A n c) ps) : n ≤ c := by
  obtain ⟨qs, ⟨A', n', c', hv, hn, _⟩, _⟩ := h
  simp only [Value.slice.injEq] at hv
  obtain ⟨_, rfl, rfl⟩ := hv
  exact hn
structure NSt (b M : Nat) (w : World) (og oc : Nat) (ne : List PairD) (n : Nat) (W : World) : Prop where
  own : W.ownsRow w.heap.size 142 2 (.slice (some ⟨og, 0, none⟩) ne.length oc) ne.length (ne.flatMap paC)
  go : Goes 25 b M n w W
section
variable {b M : Nat} {w : World} {og oc : Nat} {ne : List PairD} {n j : Nat} {W W' : World}
theorem NSt.alloc (h : NSt b M w og oc ne n W) (o : Obj) : NSt b M w og oc ne n (W.alloc o) := ⟨h.own.alloc o, h.go.alloc o⟩
theorem NSt.drew (h : NSt b M w og oc ne n W) : NSt b M w og oc ne n W.drew := ⟨h.own, h.go.is, gb_drewN h.go.gb 1⟩
theorem NSt.goes (h : NSt b M w og oc ne n W) (hlt : b < w.heap.size) (hg : Goes 25 b (M + n) j W W') : NSt b M w og oc ne (n + j) W' := ⟨ownsRow_gbS h.own hg.gb hlt, h.go.trans hg (Nat.le_refl _)⟩
theorem pair_cells {lo k c n : Nat} {x0 x1 : ByteArray} (h : W.ownsRow lo 142 2 (.slice (some ⟨og, 0, none⟩) k c) n (ne.flatMap paC)) (hk : k = n) (hx : ne[0]? = some (x0, x1)) : W.cell? ⟨og, 0, none⟩ = some (.string x0) ∧ W.cell? ⟨og, 1, none⟩ = some (.string x1) := by
  obtain ⟨hi, hx⟩ := List.getElem?_eq_some_iff.1 hx
  have a0 := flatK_at (enc := paC) (k := 2) (fun _ => rfl) ne 0 0 hi (by omega)
  have a1 := flatK_at (enc := paC) (k := 2) (fun _ => rfl) ne 0 1 hi (by omega)
  rw [hx] at a0 a1
  exact ⟨by simpa using (own_cellP h hk a0).1, by simpa using (own_cellP h hk a1).1⟩
theorem NSt.cells {x0 x1 : ByteArray} (h : NSt b M w og oc ne n W) (hx : ne[0]? = some (x0, x1)) : W.cell? ⟨og, 0, none⟩ = some (.string x0) ∧ W.cell? ⟨og, 1, none⟩ = some (.string x1) := pair_cells h.own rfl hx
theorem NSt.append {ops : Array Oper} {o : Oper} {a : Act} {K : Act → World → Prop} {Q : Exit → Act → World → Prop} {E : Prop} {c : Nat} {y0 y1 : ByteArray} (h : NSt b M w og oc ne n W) (hgd : o.guard = none) (s x : Operand)
    (hop : o.op = .call { callee := .builtin .append, args := #[s, x], argTypes := #[62, 62] }) (hs : a.eval s = .slice (some ⟨og, 0, none⟩) ne.length oc) (hx : a.eval x = .slice (some ⟨c, 0, none⟩) 1 1)
    (hb : W.heap[c]? = some (.cells #[.string y0, .string y1] 142 (0, 0))) (hn : ne.length ≤ 1000) (hlt : b < w.heap.size)
    (hK : ∀ (g cap : Nat) (W' : World), W'.ownsRow w.heap.size 142 2 (.slice (some ⟨g, 0, none⟩) (ne.length + 1) cap) (ne ++ [(y0, y1)]).length ((ne ++ [(y0, y1)]).flatMap paC) → Goes 25 b M n w W' → K (a.put o.dst (.slice (some ⟨g, 0, none⟩) (ne.length + 1) cap)) W') :
    if Region.wanted o (yielded ops a.tmps) = true then Oper.wp Tryz.prog o a W K Q else E := by
  obtain ⟨i0, ii, iz0, iz1, iz2⟩ := info_parts infoPa
  refine step_append_lies _ hgd s x 62 hop w.heap.size 142 i0 _ 2 32 Tryz.underlying62 ii iz0 iz1 iz2 rfl (by decide) _ ne.length _ hs h.own ⟨c, 0, none⟩ 1 1 [.string y0, .string y1] hx rfl ?_ ?_ (by omega) (by unfold maxLen; omega) (by omega) (by have := h.go.gb.size; omega) _ rfl ?_
  · intro j u' hj
    rcases j with _ | _ | j
    · simp at hj; subst hj; simp [Addr.add, World.cell?, hb]
    · simp at hj; subst hj; simp [Addr.add, World.cell?, hb]
    · simp at hj
  · intro u' hu'; simp at hu'; rcases hu' with rfl | rfl <;> rfl
  · intro g cap w' hown' hgrow _ _
    have ho2 : w'.ownsRow w.heap.size 142 2 (.slice (some ⟨g, 0, none⟩) (ne.length + 1) cap) (ne ++ [(y0, y1)]).length ((ne ++ [(y0, y1)]).flatMap paC) := by rw [List.length_append, List.flatMap_append]; exact hown'
    have hgo : Goes 25 b M n w w' := h.go.belowAt (B := w.heap.size) (Nat.le_refl _) hlt ((Below.refl _ _).grown hgrow (by have := h.go.gb.size; omega) (fun x hx => (own_ge h.own hx).1))
    exact hK g cap w' ho2 hgo
end
theorem own_setne {w : World} {base e size n : Nat} {v : Value} {xs : List Value} {p : Addr} (h : w.ownsRow base e size v n xs) (hne : ∀ g, v.ownBlock = some g → g ≠ p.block) (u : Value) : (w.setCell p u).ownsRow base e size v n xs := by
  obtain ⟨hl, h2⟩ := h
  refine ⟨hl, ?_⟩
  rcases h2 with h2 | ⟨g, cap, cur, hv, hg', hh, r⟩
  · exact .inl h2
  · exact .inr ⟨g, cap, cur, hv, hg', (Below.heap_setCell _ _ _ _ (hne g (by rw [hv]; rfl))).trans hh, r⟩
set_option maxRecDepth 100000 in
set_option maxHeartbeats 4000000 in
theorem gnear_any (b M lo c : Nat) (A : Option Addr) (ps : List PeerD) (w : World) (hs : IsStream 25 w b M) (hM : M ≤ 100000000000000) (hf : PeersAt w lo (.slice A ps.length c) ps) (hlo : b < lo) (hn : ps.length ≤ 5) :
    Calls Tryz.prog 42 #[.pointer (some ⟨b, 0, none⟩), .slice A ps.length c] w (GoesNear b M w) := by
  have hlt := hs.lt
  have HF := Lib.hid hf
  have HS := Lib.hid hs
  obtain ⟨i0, hi, hz0, hz1, hz2⟩ := info_parts infoPa
  clear hf hs
  go_enter Tryz.func42, Tryz.ntmps42
  go_wp2_with fail
  go_loopg [5, 6, 7, 9, 10, 13, 23] ps.length (fun g out _ _ _ _ i _ wr => GnOut b M w ps.length g out i wr)
  case atStart => exact ⟨0, [], by omega, rfl, Nat.le_refl _, World.ownsRow_nil _ _ _ _, Goes.refl HS.out⟩
  case round =>
    obtain ⟨k, ne, hk, rfl, hnl, ho, hgo⟩ := hrel
    have hz := hgo.gb.size
    by_cases hg : gk = 0
    rotate_left
    · have hkn : k < ps.length := by omega
      have hknI : (k : Int) < (ps.length : Int) := by omega
      have hgk : gk ≠ 0 := hg
      have HK := Lib.hid hk
      have hfw := HF.out.grown hgo.gb hlo
      obtain ⟨g, o, B2, m2, d2, rfl, hgl, x0, x1, hm2, hL2⟩ := hfw.at_ hkn
      clear hk hg hfw hL2 hm2
      generalize ps[k].1 = key at *
      have hcap := HF.out.cap
      by_cases hc : c = k + 1
      · go_upto_region 6 with fail
        generalize hnn : ps.length - (k + 1) = nn at *
        have hnn5 : nn ≤ 5 := by omega
        have hPB := heap_alloc_new wr (.cells #[.string key, .slice B2 m2 d2] 71)
        have hOB := ho.alloc (.cells #[.string key, .slice B2 m2 d2] 71)
        have hGB := hgo.alloc (.cells #[.string key, .slice B2 m2 d2] 71)
        generalize wr.alloc (.cells #[.string key, .slice B2 m2 d2] 71) = w2 at *
        have HNN := Lib.hid hnn
        have hbp : b < wr.heap.size := by omega
        have hwp : w.heap.size ≤ wr.heap.size := hz
        clear hnn ho hgo x0 x1 hgl hz
        generalize wr.heap.size = pb at *
        clear wr
        obtain ⟨gq, rfl⟩ : ∃ gq, gq = gk := ⟨_, rfl⟩
        go_loopg [5, 9, 10, 23] nn (fun g out _ _ i wx => GnIn b M w k pb key (.slice B2 m2 d2) nn g out i wx)
        case atStart => exact ⟨0, ne, by omega, rfl, by omega, hPB, hOB, hGB⟩
        case round =>
          clear hPB hOB hGB
          obtain ⟨j, ne2, hk, rfl, hnl2, hPB, ho2, hgo2⟩ := hrel
          by_cases hg : gk = 0
          · have HO2 := Lib.hid ho2
            obtain rfl : j = nn := by omega
            clear hk hg hPB ho2
            go_wp2_with fail
            go_roundg (gq - 1)
            case measure => omega
            case rel => exact ⟨k + 1, ne2, by have := HK.out; omega, by go_num, by omega, HO2.out, hgo2.more (by omega)⟩
          · have := HNN.out; omega
      · go_upto_region 6 with fail
        generalize hnn : ps.length - (k + 1) = nn at *
        have hnn5 : nn ≤ 5 := by omega
        have hPB := heap_alloc_new wr (.cells #[.string key, .slice B2 m2 d2] 71)
        have hOB := ho.alloc (.cells #[.string key, .slice B2 m2 d2] 71)
        have hGB := hgo.alloc (.cells #[.string key, .slice B2 m2 d2] 71)
        generalize wr.alloc (.cells #[.string key, .slice B2 m2 d2] 71) = w2 at *
        have HNN := Lib.hid hnn
        have hbp : b < wr.heap.size := by omega
        have hwp : w.heap.size ≤ wr.heap.size := hz
        clear hnn ho hgo x0 x1 hgl hz
        generalize wr.heap.size = pb at *
        clear wr
        obtain ⟨gq, rfl⟩ : ∃ gq, gq = gk := ⟨_, rfl⟩
        go_loopg [5, 9, 10, 23] nn (fun g out _ _ i wx => GnIn b M w k pb key (.slice B2 m2 d2) nn g out i wx)
        case atStart => exact ⟨0, ne, by omega, rfl, by omega, hPB, hOB, hGB⟩
        case round =>
          clear hPB hOB hGB
          obtain ⟨j, ne2, hk, rfl, hnl2, hPB, ho2, hgo2⟩ := hrel
          by_cases hg : gk = 0
          · have HO2 := Lib.hid ho2
            obtain rfl : j = nn := by omega
            clear hk hg hPB ho2
            go_wp2_with fail
            go_roundg (gq - 1)
            case measure => omega
            case rel => exact ⟨k + 1, ne2, by have := HK.out; omega, by go_num, by omega, HO2.out, hgo2.more (by omega)⟩
          · have hjn : j < nn := by omega
            have hjI : (j : Int) < (nn : Int) := by omega
            have hgk2 : gk ≠ 0 := hg
            have HJ := Lib.hid hk
            have hkj : k + 1 + j < ps.length := by have := HNN.out; omega
            have hfw := HF.out.grown hgo2.gb hlo
            obtain ⟨g', o', B3, m3, d3, eg, hgl, x0, x1, hm3, hL3⟩ := hfw.at_ hkj
            simp only [Option.some.injEq, Addr.mk.injEq] at eg
            obtain ⟨rfl, rfl, _⟩ := eg
            have ea : o + (k + 1 + j) * 2 = o + (k + 1) * 2 + j * 2 := by omega
            rw [ea] at x0 x1
            generalize ps[k + 1 + j].1 = key2 at *
            have hzg := hgo2.gb.size
            have hpl := block_lt hPB
            have HPB := Lib.hid hPB
            clear hk hg hfw ea hPB hm3 hL3
            go_wp2_with fail
            refine (flip_any b (M + (10 * k + 2 * j)) 2 _ (hgo2.is.alloc _) (by omega) (by omega) (by omega)).mono ?_
            rintro e w4 ⟨fl, rfl, g4⟩
            have hQ4 := (g4.gb.block wr.heap.size (by simp) (fun e => by injection e with e; omega)).trans (heap_alloc_new wr (.cells #[.string key2, .slice B3 m3 d3] 71))
            have hP4 := (g4.gb.block pb (by simp; omega) (fun e => by injection e with e; omega)).trans ((Below.heap_alloc _ _ _ hpl).trans HPB.out)
            have o4 := ownsRow_gbS (ho2.alloc (.cells #[.string key2, .slice B3 m3 d3] 71)) g4.gb hlt
            have G4 := hgo2.trans g4.of_alloc (Nat.le_refl _)
            have z4 : wr.heap.size < w4.heap.size := by have := g4.gb.size; simp at this; omega
            clear g4 hgo2 ho2 x0 x1 hgl HPB
            generalize wr.heap.size = qb at *
            cases fl
            · have HO4 := Lib.hid o4
              have HP4 := Lib.hid hP4
              clear o4 hP4 hQ4
              go_wp2_with fail
              go_roundg (gk - 1)
              case measure => omega
              case rel => exact ⟨j + 1, ne2, by have := HJ.out; omega, by go_num, by omega, HP4.out, HO4.out, G4.more (by omega)⟩
            · obtain ⟨p0, _, _, _⟩ := stream_cells hP4
              obtain ⟨r0, _, _, _⟩ := stream_cells hQ4
              have hpl4 := block_lt hP4
              go_wp2_with fail
              refine (flip_any b (M + (10 * k + 2 * j + 1)) 2 _ (G4.is.alloc _) (by omega) (by omega) (by omega)).mono ?_
              rintro e w6 ⟨fl2, rfl, g6⟩
              have hX6 := (g6.gb.block w4.heap.size (by simp) (fun e => by injection e with e; omega)).trans (heap_alloc_new w4 (.cells #[.string key, .string key2] 142))
              have hP6 := (g6.gb.block pb (by simp; omega) (fun e => by injection e with e; omega)).trans ((Below.heap_alloc _ _ _ hpl4).trans hP4)
              have hQ6 := (g6.gb.block qb (by simp; omega) (fun e => by injection e with e; omega)).trans ((Below.heap_alloc _ _ _ z4).trans hQ4)
              have o6 := ownsRow_gbS (o4.alloc (.cells #[.string key, .string key2] 142)) g6.gb hlt
              have G6 := G4.trans g6.of_alloc (Nat.le_refl _)
              have z6 : w4.heap.size < w6.heap.size := by have := g6.gb.size; simp at this; omega
              have hw4 : w.heap.size ≤ w4.heap.size := by omega
              have hob : ∀ g, u5.ownBlock = some g → g ≠ w4.heap.size := fun g hg => by obtain ⟨_, cc, h2⟩ := own_ge o4 hg; have := block_lt h2; omega
              have HOB := Lib.hid hob
              clear g6 G4 o4 hP4 hQ4 p0 r0 hob
              generalize w4.heap.size = xb at *
              have hz6 : w.heap.size ≤ w6.heap.size := by omega
              have hl2 : ne2.length ≤ 100 := by omega
              cases fl2
              · obtain ⟨s0, s1, _, _⟩ := stream_cells hX6
                have HP6 := Lib.hid hP6
                clear hP6 hQ6 hX6
                go_wp2_with (at_builtin; refine wpList_push (W := w6) (lo := w.heap.size) rfl _ _ 62 rfl 142 i0 _ 2 32 Tryz.underlying62 hi hz0 hz1 hz2 rfl (by decide) (by decide) _ _ _ rfl (Below.refl _ _) hz6 o6 [.string key, .string key2] rfl rfl rfl rfl (by omega) ?_)
                intro v7 w7 O7 b7 _ hg7
                have HO7 := Lib.hid (show w7.ownsRow w.heap.size 142 2 v7 (ne2 ++ [(key, key2)]).length ((ne2 ++ [(key, key2)]).flatMap paC) by rw [List.length_append, List.flatMap_append]; exact O7)
                have HP7 := Lib.hid ((FrP.of_gb (S := fun x => u5.ownBlock = some x) hg7 (fun x hx => hx)).blk HP6.out (fun hS => by obtain ⟨_, cc, h2⟩ := own_ge o6 hS; exact tag_ne HP6.out h2 (by decide) rfl))
                have G7 := G6.belowAt (Nat.le_refl _) hlt b7
                clear O7 b7 hg7 o6 G6
                go_wp2_with fail
                go_roundg (gk - 1)
                case measure => omega
                case rel => exact ⟨j + 1, _, by have := HJ.out; omega, by go_num, by simp; omega, HP7.out, HO7.out, G7.more (by omega)⟩
              · obtain ⟨s0, s1, s2, s3⟩ := stream_cells hX6
                obtain ⟨p0, _, _, _⟩ := stream_cells hP6
                obtain ⟨r0, _, _, _⟩ := stream_cells hQ6
                have hX7 : ((w6.setCell ⟨xb, 0, none⟩ (.string key2)).setCell ⟨xb, 1, none⟩ (.string key)).heap[xb]? = some (.cells #[.string key2, .string key] 142 (0, 0)) := by
                  simp [World.setCell, Array.getElem?_modify, hX6]
                have hP7 : ((w6.setCell ⟨xb, 0, none⟩ (.string key2)).setCell ⟨xb, 1, none⟩ (.string key)).heap[pb]? = some (.cells #[.string key, .slice B2 m2 d2] 71 (0, 0)) :=
                  (Below.heap_setCell _ _ _ _ (tag_ne hP6 hX6 (by decide))).trans ((Below.heap_setCell _ _ _ _ (tag_ne hP6 hX6 (by decide))).trans hP6)
                have G7 := (G6.setP hlt (p := ⟨xb, 0, none⟩) hw4 (.string key2)).setP hlt (p := ⟨xb, 1, none⟩) hw4 (.string key)
                have o7 := own_setne (p := ⟨xb, 1, none⟩) (own_setne (p := ⟨xb, 0, none⟩) o6 HOB.out (.string key2)) HOB.out (.string key)
                obtain ⟨t0, t1, _, _⟩ := stream_cells hX7
                have HP6 := Lib.hid hP7
                have hz7 : w.heap.size ≤ ((w6.setCell ⟨xb, 0, none⟩ (.string key2)).setCell ⟨xb, 1, none⟩ (.string key)).heap.size := G7.gb.size
                go_upto_region 12 with fail
                clear hP6 hQ6 hX6 hX7 hP7 s0 s1 s2 s3 p0 r0 o6 G6
                generalize (w6.setCell ⟨xb, 0, none⟩ (.string key2)).setCell ⟨xb, 1, none⟩ (.string key) = w9 at *
                go_wp2_with (at_builtin; refine wpList_push (W := w9) (lo := w.heap.size) rfl _ _ 62 rfl 142 i0 _ 2 32 Tryz.underlying62 hi hz0 hz1 hz2 rfl (by decide) (by decide) _ _ _ rfl (Below.refl _ _) hz7 o7 [.string key2, .string key] rfl rfl rfl rfl (by omega) ?_)
                intro v7 w7 O7 b7 _ hg7
                have HO7 := Lib.hid (show w7.ownsRow w.heap.size 142 2 v7 (ne2 ++ [(key2, key)]).length ((ne2 ++ [(key2, key)]).flatMap paC) by rw [List.length_append, List.flatMap_append]; exact O7)
                have HP7 := Lib.hid ((FrP.of_gb (S := fun x => u5.ownBlock = some x) hg7 (fun x hx => hx)).blk HP6.out (fun hS => by obtain ⟨_, cc, h2⟩ := own_ge o7 hS; exact tag_ne HP6.out h2 (by decide) rfl))
                have G8 := G7.belowAt (Nat.le_refl _) hlt b7
                clear O7 b7 hg7 o7 G7
                go_wp2_with fail
                go_roundg (gk - 1)
                case measure => omega
                case rel => exact ⟨j + 1, _, by have := HJ.out; omega, by go_num, by simp; omega, HP7.out, HO7.out, G8.more (by omega)⟩
    · obtain rfl : k = ps.length := by omega
      have hnl2 : ne.length ≤ 25 := by omega
      obtain ⟨OA, oc, rfl⟩ : ∃ A c, u5 = .slice A ne.length c := by
        rcases ho.2 with ⟨rfl, h0⟩ | ⟨g, cap, cur, rfl, _⟩
        · exact ⟨none, 0, by rw [h0]⟩
        · exact ⟨_, cap, rfl⟩
      have HO := Lib.hid ho
      clear hk hg ho
      by_cases hk0 : ne.length = 0
      · have HK0 := Lib.hid hk0
        rw [hk0]
        clear hk0
        go_wp2_with fail
        go_ret
        exact ⟨.slice OA ne.length oc, ne, by omega, by rw [HK0.out]; rfl, HO.out, hgo.more (by omega)⟩
      · have hkp : 0 < ne.length := by omega
        have hkpI : (0 : Int) < (ne.length : Int) := by omega
        clear hk0
        go_wp2_with fail
        refine (flip_any b (M + 10 * ps.length) 15 _ hgo.is (by omega) (by omega) (by omega)).mono ?_
        rintro e w4 ⟨fl, rfl, g3⟩
        have o3 := ownsRow_gbS HO.out g3.gb hlt
        have G3 := hgo.trans g3 (Nat.le_refl _)
        clear g3 HO hgo
        cases fl
        · go_wp2_with fail
          go_ret
          exact ⟨_, ne, by omega, rfl, o3, G3.more (by omega)⟩
        · obtain ⟨og, oc2, e2, hog, hogl⟩ := o3.form hkp
          simp only [Value.slice.injEq] at e2
          obtain ⟨rfl, _, rfl⟩ := e2
          obtain ⟨⟨x0, x1⟩, hx⟩ : ∃ x, ne[0]? = some x := ⟨_, List.getElem?_eq_getElem hkp⟩
          have HAT := Lib.hid hx
          have st4 : NSt b M w og oc ne (10 * ps.length + 1) w4 := ⟨o3, G3⟩
          have st := st4.drew
          have z4 : w.heap.size ≤ w4.heap.size := G3.gb.size
          clear hx st4 o3 G3
          go_upto_region 16 with fail
          refine wp_region_late (fun j => j == 17) (fun w' => w'.cell? ⟨og, 0, none⟩ = some (.string x0) ∧ w'.cell? ⟨og, 1, none⟩ = some (.string x1)) (by kernel_rfl) ?_
          refine wpLate_takeP (i := 0) (v := .slice (some ⟨og, 0, none⟩) ne.length oc) rfl (by kernel_rfl) (by kernel_rfl) (by kernel_rfl) (fun _ _ _ h => h) (Or.inl ⟨by rfl, fun _ _ => by go_simp⟩) ?_
          refine wpLate_takeP (i := 1) (v := .pointer (some ⟨b, 0, none⟩)) rfl (by kernel_rfl) (by kernel_rfl) (by kernel_rfl) (fun _ _ _ h => h) (Or.inl ⟨by rfl, fun _ _ => by go_simp⟩) ?_
          refine wpLate_takeP (i := 2) (v := .slice (some ⟨og, 0, none⟩) ne.length oc) rfl (by kernel_rfl) (by kernel_rfl) (by kernel_rfl) (fun _ _ _ h => h) (Or.inl ⟨by rfl, fun _ _ => by go_simp⟩) ?_
          refine wpLate_takeP (i := 3) (v := .pointer (some ⟨og, 0, none⟩)) rfl (by kernel_rfl) (by kernel_rfl) (by kernel_rfl) (fun _ _ _ h => h) (Or.inl ⟨by rfl, fun _ _ => by go_simp⟩) ?_
          refine wpLate_takeP (i := 4) (v := .pointer (some ⟨og, 1, none⟩)) rfl (by kernel_rfl) (by kernel_rfl) (by kernel_rfl) (fun _ _ _ h => h) (Or.inl ⟨by rfl, fun _ _ => by go_simp⟩) ?_
          refine wpLate_takeP (i := 8) (v := .pointer (some ⟨b, 0, none⟩)) rfl (by kernel_rfl) (by kernel_rfl) (by kernel_rfl) (fun _ _ _ h => h) (Or.inl ⟨by rfl, fun _ _ => by go_simp⟩) ?_
          refine wpLate_takeP (i := 9) (v := .slice (some ⟨og, 0, none⟩) ne.length oc) rfl (by kernel_rfl) (by kernel_rfl) (by kernel_rfl) (fun _ _ _ h => h) (Or.inl ⟨by rfl, fun _ _ => by go_simp⟩) ?_
          refine wpLate_takeP (i := 10) (v := .pointer (some ⟨og, 0, none⟩)) rfl (by kernel_rfl) (by kernel_rfl) (by kernel_rfl) (fun _ _ _ h => h) (Or.inl ⟨by rfl, fun _ _ => by go_simp⟩) ?_
          refine wpLate_takeP (i := 11) (v := .pointer (some ⟨og, 0, none⟩)) rfl (by kernel_rfl) (by kernel_rfl) (by kernel_rfl) (fun _ _ _ h => h) (Or.inl ⟨by rfl, fun _ _ => by go_simp⟩) ?_
          refine wpLate_takeT (i := 5) (v := .string x1) rfl (by kernel_rfl) (by kernel_rfl) (by kernel_rfl) (by kernel_rfl) (by kernel_rfl) (fun _ _ _ h => h) (Or.inl ⟨by rfl, fun w' hw' => by obtain ⟨h1, h2⟩ := hw'; go_simp⟩) (st.cells HAT.out) ?_
          refine wpLate_takeT (i := 12) (v := .string x0) rfl (by kernel_rfl) (by kernel_rfl) (by kernel_rfl) (by kernel_rfl) (by kernel_rfl) (fun _ _ _ h => h) (Or.inl ⟨by rfl, fun w' hw' => by obtain ⟨h1, h2⟩ := hw'; go_simp⟩) (st.cells HAT.out) ?_
          refine wpLate_ready (rs := [6, 13]) (by kernel_rfl) (by simp) ?_
          refine AllLate.cons (i := 6) rfl (fun K hK => ?_) (AllLate.cons (i := 13) rfl (fun K hK => ?_) AllLate.nil)
          · go_simp
            have st := st.alloc (.cells (List.map Value.string [⟨#[113, 97]⟩, ⟨#[113, 122]⟩, x1]).toArray 9)
            refine hK _ _ (fun _ _ => st.cells HAT.out) ?_
            clear hK K
            refine wpLate_ready (rs := [7, 13]) (by kernel_rfl) (by simp) ?_
            refine AllLate.cons (i := 7) rfl (fun K hK => ?_) (AllLate.cons (i := 13) rfl (fun K hK => ?_) AllLate.nil)
            · go_simp
              refine (some_any b (M + (10 * ps.length + 1)) _ [⟨#[113, 97]⟩, ⟨#[113, 122]⟩, x1] 3 3 _ 9 st.go.is (by omega) rfl (by omega) (by omega) (by first | exact heap_newP _ _ _ (by simp) | exact (Below.heap_alloc _ _ _ (by simp)).trans (heap_newP _ _ _ (by simp))) (by first | omega | (simp; omega))).mono ?_
              rintro e w5 ⟨y0, hy0, rfl, g5⟩
              have hk5 := Lib.hid g5.gb.block
              have z5 : w4.heap.size ≤ w5.heap.size := by have := g5.gb.size; simp at this; omega
              have st := st.goes hlt g5
              clear g5
              go_simp
              refine hK _ _ (fun _ _ => st.cells HAT.out) ?_
              clear hK K
              refine wpLate_ready (rs := [13]) (by kernel_rfl) (by simp) ?_
              refine AllLate.cons (i := 13) rfl (fun K hK => ?_) AllLate.nil
              go_simp
              have st := st.alloc (.cells (List.map Value.string [⟨#[113, 97]⟩, ⟨#[113, 98]⟩, x0]).toArray 9)
              refine hK _ _ (fun _ _ => st.cells HAT.out) ?_
              clear hK K
              refine wpLate_ready (rs := [14]) (by kernel_rfl) (by simp) ?_
              refine AllLate.cons (i := 14) rfl (fun K hK => ?_) AllLate.nil
              go_simp
              refine (some_any b (M + (10 * ps.length + 1 + 1)) _ [⟨#[113, 97]⟩, ⟨#[113, 98]⟩, x0] 3 3 _ 9 st.go.is (by omega) rfl (by omega) (by omega) (by first | exact heap_newP _ _ _ (by simp) | exact (hk5.out _ (by simp <;> omega) (fun e => by injection e with e; omega)).trans (heap_newP _ _ _ (by simp)) | exact (hk5.out _ (by simp <;> omega) (fun e => by injection e with e; omega)).trans ((Below.heap_alloc _ _ _ (by simp)).trans (heap_newP _ _ _ (by simp)))) (by first | omega | (simp; omega))).mono ?_
              rintro e w6 ⟨y1, hy1, rfl, g6⟩
              have st := st.goes hlt g6
              clear g6 hk5
              go_simp
              refine hK _ _ (fun _ _ => st.cells HAT.out) ?_
              clear hK K
              refine wpLate_takeP (i := 15) (v := .agg #[.string y0, .string y1]) rfl (by kernel_rfl) (by kernel_rfl) (by kernel_rfl) (fun _ _ _ h => h) (Or.inl ⟨by rfl, fun _ _ => by go_simp⟩) ?_
              refine wpLate_ready (rs := [16]) (by kernel_rfl) (by simp) ?_
              refine AllLate.cons (i := 16) rfl (fun K hK => ?_) AllLate.nil
              go_simp
              have st := st.alloc (.cells #[.string y0, .string y1] 142)
              refine hK _ _ (fun _ _ => st.cells HAT.out) ?_
              clear hK K
              refine wpLate_ready (rs := [17]) (by kernel_rfl) (by simp) ?_
              refine AllLate.cons (i := 17) rfl (fun K hK => ?_) AllLate.nil
              refine st.append (by rfl) (.tmp 54) (.tmp 70) (by rfl) (by rfl) (by rfl) (heap_newP _ _ _ (by simp)) (by omega) hlt ?_
              intro g7 c7 w7 hE hG
              refine hK _ _ (fun h => by cases h) ?_
              clear hK K
              refine wpLate_takeP (i := 18) (v := .slice (some ⟨g7, 0, none⟩) (ne.length + 1) c7) rfl (by kernel_rfl) (by kernel_rfl) (by kernel_rfl) (fun _ _ _ h => h) (Or.inl ⟨by rfl, fun _ _ => by go_simp⟩) ?_
              refine wpLate_done (by kernel_rfl) ?_ _
              have HE := Lib.hid hE
              clear hE st hy0 hy1
              go_wp2_with fail
              go_ret
              exact ⟨_, ne ++ [(y0, y1)], by simp; omega, rfl, HE.out, hG.more (by omega)⟩
            · go_simp
              have st := st.alloc (.cells (List.map Value.string [⟨#[113, 97]⟩, ⟨#[113, 98]⟩, x0]).toArray 9)
              refine hK _ _ (fun _ _ => st.cells HAT.out) ?_
              clear hK K
              refine wpLate_ready (rs := [7]) (by kernel_rfl) (by simp) ?_
              refine AllLate.cons (i := 7) rfl (fun K hK => ?_) AllLate.nil
              go_simp
              refine (some_any b (M + (10 * ps.length + 1)) _ [⟨#[113, 97]⟩, ⟨#[113, 122]⟩, x1] 3 3 _ 9 st.go.is (by omega) rfl (by omega) (by omega) (by first | exact heap_newP _ _ _ (by simp) | exact (Below.heap_alloc _ _ _ (by simp)).trans (heap_newP _ _ _ (by simp))) (by first | omega | (simp; omega))).mono ?_
              rintro e w5 ⟨y0, hy0, rfl, g5⟩
              have hk5 := Lib.hid g5.gb.block
              have z5 : w4.heap.size ≤ w5.heap.size := by have := g5.gb.size; simp at this; omega
              have st := st.goes hlt g5
              clear g5
              go_simp
              refine hK _ _ (fun _ _ => st.cells HAT.out) ?_
              clear hK K
              refine wpLate_ready (rs := [14]) (by kernel_rfl) (by simp) ?_
              refine AllLate.cons (i := 14) rfl (fun K hK => ?_) AllLate.nil
              go_simp
              refine (some_any b (M + (10 * ps.length + 1 + 1)) _ [⟨#[113, 97]⟩, ⟨#[113, 98]⟩, x0] 3 3 _ 9 st.go.is (by omega) rfl (by omega) (by omega) (by first | exact heap_newP _ _ _ (by simp) | exact (hk5.out _ (by simp <;> omega) (fun e => by injection e with e; omega)).trans (heap_newP _ _ _ (by simp)) | exact (hk5.out _ (by simp <;> omega) (fun e => by injection e with e; omega)).trans ((Below.heap_alloc _ _ _ (by simp)).trans (heap_newP _ _ _ (by simp)))) (by first | omega | (simp; omega))).mono ?_
              rintro e w6 ⟨y1, hy1, rfl, g6⟩
              have st := st.goes hlt g6
              clear g6 hk5
              go_simp
              refine hK _ _ (fun _ _ => st.cells HAT.out) ?_
              clear hK K
              refine wpLate_takeP (i := 15) (v := .agg #[.string y0, .string y1]) rfl (by kernel_rfl) (by kernel_rfl) (by kernel_rfl) (fun _ _ _ h => h) (Or.inl ⟨by rfl, fun _ _ => by go_simp⟩) ?_
              refine wpLate_ready (rs := [16]) (by kernel_rfl) (by simp) ?_
              refine AllLate.cons (i := 16) rfl (fun K hK => ?_) AllLate.nil
              go_simp
              have st := st.alloc (.cells #[.string y0, .string y1] 142)
              refine hK _ _ (fun _ _ => st.cells HAT.out) ?_
              clear hK K
              refine wpLate_ready (rs := [17]) (by kernel_rfl) (by simp) ?_
              refine AllLate.cons (i := 17) rfl (fun K hK => ?_) AllLate.nil
              refine st.append (by rfl) (.tmp 54) (.tmp 70) (by rfl) (by rfl) (by rfl) (heap_newP _ _ _ (by simp)) (by omega) hlt ?_
              intro g7 c7 w7 hE hG
              refine hK _ _ (fun h => by cases h) ?_
              clear hK K
              refine wpLate_takeP (i := 18) (v := .slice (some ⟨g7, 0, none⟩) (ne.length + 1) c7) rfl (by kernel_rfl) (by kernel_rfl) (by kernel_rfl) (fun _ _ _ h => h) (Or.inl ⟨by rfl, fun _ _ => by go_simp⟩) ?_
              refine wpLate_done (by kernel_rfl) ?_ _
              have HE := Lib.hid hE
              clear hE st hy0 hy1
              go_wp2_with fail
              go_ret
              exact ⟨_, ne ++ [(y0, y1)], by simp; omega, rfl, HE.out, hG.more (by omega)⟩
          · go_simp
            have st := st.alloc (.cells (List.map Value.string [⟨#[113, 97]⟩, ⟨#[113, 98]⟩, x0]).toArray 9)
            refine hK _ _ (fun _ _ => st.cells HAT.out) ?_
            clear hK K
            refine wpLate_ready (rs := [6]) (by kernel_rfl) (by simp) ?_
            refine AllLate.cons (i := 6) rfl (fun K hK => ?_) AllLate.nil
            go_simp
            have st := st.alloc (.cells (List.map Value.string [⟨#[113, 97]⟩, ⟨#[113, 122]⟩, x1]).toArray 9)
            refine hK _ _ (fun _ _ => st.cells HAT.out) ?_
            clear hK K
            refine wpLate_ready (rs := [7]) (by kernel_rfl) (by simp) ?_
            refine AllLate.cons (i := 7) rfl (fun K hK => ?_) AllLate.nil
            go_simp
            refine (some_any b (M + (10 * ps.length + 1)) _ [⟨#[113, 97]⟩, ⟨#[113, 122]⟩, x1] 3 3 _ 9 st.go.is (by omega) rfl (by omega) (by omega) (by first | exact heap_newP _ _ _ (by simp) | exact (Below.heap_alloc _ _ _ (by simp)).trans (heap_newP _ _ _ (by simp))) (by first | omega | (simp; omega))).mono ?_
            rintro e w5 ⟨y0, hy0, rfl, g5⟩
            have hk5 := Lib.hid g5.gb.block
            have z5 : w4.heap.size ≤ w5.heap.size := by have := g5.gb.size; simp at this; omega
            have st := st.goes hlt g5
            clear g5
            go_simp
            refine hK _ _ (fun _ _ => st.cells HAT.out) ?_
            clear hK K
            refine wpLate_ready (rs := [14]) (by kernel_rfl) (by simp) ?_
            refine AllLate.cons (i := 14) rfl (fun K hK => ?_) AllLate.nil
            go_simp
            refine (some_any b (M + (10 * ps.length + 1 + 1)) _ [⟨#[113, 97]⟩, ⟨#[113, 98]⟩, x0] 3 3 _ 9 st.go.is (by omega) rfl (by omega) (by omega) (by first | exact heap_newP _ _ _ (by simp) | exact (hk5.out _ (by simp <;> omega) (fun e => by injection e with e; omega)).trans (heap_newP _ _ _ (by simp)) | exact (hk5.out _ (by simp <;> omega) (fun e => by injection e with e; omega)).trans ((Below.heap_alloc _ _ _ (by simp)).trans (heap_newP _ _ _ (by simp)))) (by first | omega | (simp; omega))).mono ?_
            rintro e w6 ⟨y1, hy1, rfl, g6⟩
            have st := st.goes hlt g6
            clear g6 hk5
            go_simp
            refine hK _ _ (fun _ _ => st.cells HAT.out) ?_
            clear hK K
            refine wpLate_takeP (i := 15) (v := .agg #[.string y0, .string y1]) rfl (by kernel_rfl) (by kernel_rfl) (by kernel_rfl) (fun _ _ _ h => h) (Or.inl ⟨by rfl, fun _ _ => by go_simp⟩) ?_
            refine wpLate_ready (rs := [16]) (by kernel_rfl) (by simp) ?_
            refine AllLate.cons (i := 16) rfl (fun K hK => ?_) AllLate.nil
            go_simp
            have st := st.alloc (.cells #[.string y0, .string y1] 142)
            refine hK _ _ (fun _ _ => st.cells HAT.out) ?_
            clear hK K
            refine wpLate_ready (rs := [17]) (by kernel_rfl) (by simp) ?_
            refine AllLate.cons (i := 17) rfl (fun K hK => ?_) AllLate.nil
            refine st.append (by rfl) (.tmp 54) (.tmp 70) (by rfl) (by rfl) (by rfl) (heap_newP _ _ _ (by simp)) (by omega) hlt ?_
            intro g7 c7 w7 hE hG
            refine hK _ _ (fun h => by cases h) ?_
            clear hK K
            refine wpLate_takeP (i := 18) (v := .slice (some ⟨g7, 0, none⟩) (ne.length + 1) c7) rfl (by kernel_rfl) (by kernel_rfl) (by kernel_rfl) (fun _ _ _ h => h) (Or.inl ⟨by rfl, fun _ _ => by go_simp⟩) ?_
            refine wpLate_done (by kernel_rfl) ?_ _
            have HE := Lib.hid hE
            clear hE st hy0 hy1
            go_wp2_with fail
            go_ret
            exact ⟨_, ne ++ [(y0, y1)], by simp; omega, rfl, HE.out, hG.more (by omega)⟩
open Go.RowKit Go.Sort
set_option linter.unusedVariables false
set_option linter.unusedSimpArgs false
attribute [local go_sem ↓] Go.wp_at_zero Go.wp_at_succ
theorem infoGf : (Tryz.prog.info? 218).map (fun i => (i.zero, i.size, i.bytes)) = some (some (.agg #[.int .i64 0, .int .i64 0]), 2, 16) := by kernel_rfl
theorem infoGi : (Tryz.prog.info? 74).map (fun i => (i.zero, i.size, i.bytes)) = some (some (.agg #[.int .i64 0, .string ⟨#[]⟩, .string ⟨#[]⟩, .int .i64 0]), 4, 48) := by kernel_rfl
def OrRel (w2 : World) (n g : Nat) (o ix : Value) (wr : World) : Prop :=
  ∃ k : Nat, k + g = n ∧ ix = .int .i64 k ∧ wr.ownsRow w2.heap.size 3 1 o k (natV (List.range k)) ∧ Below w2.heap.size w2 wr
def RdRel (w3 : World) (n m no : Nat) (ks : List ByteArray) (N H : Nat → Nat → Bool) (ord : List Nat) (g : Nat) (gv ov ix : Value) (wr : World) : Prop :=
  ∃ k : Nat, k + g = n ∧ ix = .int .i64 k ∧ wr.heap[w3.heap.size]? = some (.cells (rowC n (rdTo n m N H (ord.take k)).1).toArray 4 (0, 0)) ∧
    wr.ownsRow w3.heap.size 218 2 gv (rdTo n m N H (ord.take k)).2.length ((rdTo n m N H (ord.take k)).2.flatMap gfC) ∧
    wr.ownsRow w3.heap.size 74 4 ov (rdTo n m N H (ord.take k)).2.length ((noted no (rdTo n m N H (ord.take k)).2).flatMap (giC ks)) ∧ Below w3.heap.size w3 wr
def HoRel (w5 : World) (cb n m : Nat) (hv : Value) (H : Nat → Nat → Bool) (gH : Nat → Nat) (gs : List Gift) (g : Nat) (ix : Value) (wr : World) : Prop :=
  ∃ k : Nat, k + g = gs.length ∧ ix = .int .i64 k ∧ Mat wr (cb + 1) hv n m (applyG H (gs.take k)) gH ∧ FrP (fun x => ∃ i, i < n ∧ x = gH i) w5 wr
def RoundGot (w : World) (cb bn n m no : Nat) (ks : List ByteArray) (N H : Nat → Nat → Bool) (kv nv hv : Value) (gN gH : Nat → Nat) (w0 : World) (e : Ending) (w' : World) : Prop :=
  ∃ v cv rv, e = .returned v ∧ w'.ownsRow w.heap.size 74 4 v (gifts n m N H).length ((noted no (gifts n m N H)).flatMap (giC ks)) ∧
    CrowdIs w' cb bn n m ks N (applyG H (gifts n m N H)) kv nv hv cv rv gN gH w0 ∧ FrP (fun x => x = cb ∨ ∃ i, i < n ∧ x = gH i) w w'
set_option maxRecDepth 100000 in
set_option maxHeartbeats 8000000 in
theorem round_any (cb bn n m no : Nat) (ks : List ByteArray) (N H : Nat → Nat → Bool) (kv nv hv cv rv : Value) (gN gH : Nat → Nat) (w0 w : World) (hn : n ≤ 12) (hm : m ≤ 60) (hno : no ≤ 1000000)
    (hC : CrowdIs w cb bn n m ks N H kv nv hv cv rv gN gH w0) :
    Calls Tryz.prog 91 #[.pointer (some ⟨cb, 0, none⟩), .int .i64 no, .int .i64 m] w (RoundGot w cb bn n m no ks N H kv nv hv gN gH w0) := by
  obtain ⟨i0, ii, iz0, iz1, iz2⟩ := info_parts infoI
  obtain ⟨j0, ji, jz0, jz1, jz2⟩ := info_parts infoGf
  obtain ⟨l0, li, lz0, lz1, lz2⟩ := info_parts infoGi
  obtain ⟨KA, kc, rfl⟩ : ∃ A c, kv = .slice A n c := by
    rcases hC.key.2 with ⟨rfl, rfl⟩ | ⟨g, cap, cur, rfl, _⟩
    · exact ⟨none, 0, rfl⟩
    · exact ⟨_, cap, rfl⟩
  obtain ⟨NA, nc, rfl⟩ := hC.nr.form
  obtain ⟨HA, hc, rfl⟩ := hC.hs.form
  have hcl := block_lt hC.cr
  have HC := Lib.hid hC
  have hmk := run_make_row' (P := Tryz.prog) 151 4 (.bool false) 1 Tryz.underlying151 infoB rfl .i64 .i64 n (by omega) (by omega)
  have HB0 := Lib.hid (begin_any cb n m kc hc (cb + 1) KA HA (.slice NA n nc) cv rv H gH (w.alloc (.cells #[.pointer (some ⟨cb, 0, none⟩)] 148)) (by omega) hm ((Below.heap_alloc _ _ _ hcl).trans hC.cr) (hC.hs.below (bfirst w _)))
  clear hC
  go_enter Tryz.func91, Tryz.ntmps91
  go_wp2_with fail
  refine HB0.out.mono ?_
  rintro e w2 ⟨rfl, cg, rg, hB⟩
  have HC2 := Lib.hid (((HC.out.below (bfirst w (.cells #[.pointer (some ⟨cb, 0, none⟩)] 148))).turn (FrP.of_gb hB.gb (fun x hx => by injection hx with hx; exact hx.symm)) hB.cr))
  have hbx : w2.heap[w.heap.size]? = some (.cells #[.pointer (some ⟨cb, 0, none⟩)] 148 (0, 0)) := (hB.gb.block w.heap.size (by simp) (fun e => by injection e with e; omega)).trans (heap_alloc_new w _)
  have HF2 := Lib.hid (((FrP.refl (fun x => x = cb ∨ ∃ i, i < n ∧ x = gH i) w).alloc (.cells #[.pointer (some ⟨cb, 0, none⟩)] 148)).trans (FrP.of_gb hB.gb (fun x hx => by injection hx with hx; exact Or.inl hx.symm)))
  have HCI := Lib.hid hB.ci
  have HRI := Lib.hid hB.ri
  have hsw : w.heap.size ≤ w2.heap.size := HF2.out.size
  have HBX := Lib.hid hbx
  have b0 : w2.cell? ⟨w.heap.size, 0, none⟩ = some (.pointer (some ⟨cb, 0, none⟩)) := by simp [World.cell?, hbx]
  obtain ⟨k0, _⟩ := crB_cells hB.cr
  clear hbx hB HB0
  generalize hbb : w.heap.size = bx at *
  have HBB := Lib.hid hbb
  clear hbb
  go_wp2_with fail
  clear b0 k0
  go_loopg [26, 7, 8] n (fun g ix o _ wr => OrRel w2 n g o ix wr)
  case atStart => exact ⟨0, by omega, rfl, World.ownsRow_nil _ _ _ _, Below.refl _ _⟩
  case round =>
    obtain ⟨k, hk, rfl, ho, hb⟩ := hrel
    have hbz := hb.size
    by_cases hg : gk = 0
    rotate_left
    · have hlt : k < n := by omega
      have hltI : (k : Int) < (n : Int) := by omega
      have HK := Lib.hid hk
      have hgk : gk ≠ 0 := hg
      clear hk hg
      go_wp2_with (at_builtin; refine wpList_push (W := w2) (lo := w2.heap.size) rfl _ _ 22 rfl 3 i0 _ 1 8 Tryz.underlying22 ii iz0 iz1 iz2 rfl (by decide) (by decide) _ _ _ rfl hb hbz ho [.int .i64 k] rfl rfl rfl rfl (by omega) ?_)
      intro v5 w5 ho5 hb5 _ _
      have HO5 := Lib.hid (show w5.ownsRow w2.heap.size 3 1 v5 (k + 1) (natV (List.range (k + 1))) by rw [List.range_succ, natV, List.map_append]; exact ho5)
      clear ho5 ho hb
      go_wp2_with fail
      go_roundg (gk - 1)
      case measure => omega
      case rel => exact ⟨k + 1, by have := HK.out; omega, by go_num, HO5.out, hb5⟩
    · obtain rfl : n = k := by omega
      clear hk hg
      have HS := Lib.hid (sortInt_own 140 #[.pointer (some ⟨bx, 0, none⟩)] (cnF m H) (fun _ _ => rfl) u7 w2.heap.size n wr hn ho (fun g hg W hW a b ha hb' => by
        have hgl := (ho.lt g hg).1
        have hold : ∀ x o, w2.heap[x]? = some o → W.heap[x]? = some o := fun x o hx => (hW.block x (by have := block_lt hx; omega) (fun e => by injection e with e; have := block_lt hx; omega)).trans ((hb.block x (block_lt hx)).trans hx)
        obtain ⟨_, _, _, k3, _⟩ := crB_cells (hold _ _ HC2.out.cr)
        have e0 : W.cell? ⟨bx, 0, none⟩ = some (.pointer (some ⟨cb, 0, none⟩)) := by simp [World.cell?, hold _ _ HBX.out]
        exact round1_any bx cb cg n a b (cnF m H) W e0 k3 (fun j hj => (rowI_cell (hold _ _ HCI.out) hj).1) ha hb' (by omega)))
      have HOW := Lib.hid ho
      obtain ⟨OA, oc, rfl⟩ : ∃ A c, u7 = .slice A n c := by
        rcases ho.2 with ⟨rfl, rfl⟩ | ⟨g, cap, cur, rfl, _⟩
        · exact ⟨none, 0, rfl⟩
        · exact ⟨_, cap, rfl⟩
      clear ho
      go_wp2_with fail
      refine HS.out.mono ?_
      rintro e w3 ⟨rfl, ho3, hg3⟩
      have hb3 : Below w2.heap.size w2 w3 := hb.grown hg3 hbz (fun x hx => (HOW.out.lt x hx).1)
      have HO3 := Lib.hid ho3
      have HB3 := Lib.hid hb3
      have hold3 : ∀ x o, w2.heap[x]? = some o → w3.heap[x]? = some o := fun x o hx => (hb3.block x (block_lt hx)).trans hx
      have b0 : w3.cell? ⟨bx, 0, none⟩ = some (.pointer (some ⟨cb, 0, none⟩)) := by simp [World.cell?, hold3 _ _ HBX.out]
      obtain ⟨k0, _⟩ := crB_cells (hold3 _ _ HC2.out.cr)
      have HBX3 := Lib.hid (hold3 _ _ HBX.out)
      have HCI3 := Lib.hid (hold3 _ _ HCI.out)
      have HRI3 := Lib.hid (hold3 _ _ HRI.out)
      have HC3 := Lib.hid (HC2.out.below hb3)
      have HF3 := Lib.hid (HF2.out.trans (FrP.of_below hb3 _))
      have hsw3 : bx ≤ w3.heap.size := by have := hb3.size; omega
      have HN2 := Lib.hid hb3.size
      clear hold3 ho3 hg3 hb hb3 hbz HS HOW HC2 HF2 HCI HRI HBX hsw
      go_wp2_with fail
      have HG4 := Lib.hid (show (w3.alloc (.cells (madeCells #[.bool false] n) 4)).heap[w3.heap.size]? = some (.cells (rowC n (fun _ => false)).toArray 4 (0, 0)) by rw [rowC_false]; exact heap_alloc_new w3 _)
      have hb4 := bfirst w3 (.cells (madeCells #[.bool false] n) 4)
      generalize w3.alloc (.cells (madeCells #[.bool false] n) 4) = w4 at *
      clear b0 k0 hmk HB3
      obtain ⟨gg, hgg⟩ : ∃ gg, gg = w3.heap.size := ⟨_, rfl⟩
      rw [← hgg]
      have HGG := Lib.hid hgg
      clear hgg
      have HOL := Lib.hid (ordF_len n (cnF m H))
      have HOT := Lib.hid (ordF_lt n (cnF m H))
      generalize hord : ordF n (cnF m H) = ord at *
      have HORD := Lib.hid hord
      clear hord
      obtain ⟨wq, rfl⟩ : ∃ wq : World, wq = wr := ⟨_, rfl⟩
      go_loopg [45, 10, 11, 13, 14, 15] n (fun g ix gv ov _ _ _ wr => RdRel w3 n m no ks N H ord g gv ov ix wr)
      case atStart => exact ⟨0, by omega, rfl, HG4.out, World.ownsRow_nil _ _ _ _, World.ownsRow_nil _ _ _ _, hb4⟩
      case round =>
        clear hb4 HG4
        obtain ⟨k, hk, rfl, hG, hO1, hO2, hb⟩ := hrel
        have hbz := hb.size
        have hold : ∀ x o, w3.heap[x]? = some o → wr.heap[x]? = some o := fun x o hx => (hb.block x (block_lt hx)).trans hx
        by_cases hg : gk = 0
        · obtain rfl : n = k := by omega
          clear hk hg
          have hL : ord.take n = ord := List.take_of_length_le (by have := HOL.out; omega)
          rw [hL] at hO1 hO2 hG
          have HGS := Lib.hid (show gifts n m N H = (rdTo n m N H ord).2 by rw [gifts, HORD.out])
          have hgok := (rdTo_ok n m N H ord HOT.out).1
          have hgl := (rdTo_ok n m N H ord HOT.out).2
          have hol := HOL.out
          generalize (rdTo n m N H ord).2 = gs at *
          have hgl12 : gs.length ≤ 12 := by omega
          obtain ⟨GA, gc, rfl⟩ : ∃ A c, u10 = .slice A gs.length c := by
            rcases hO1.2 with ⟨rfl, h0⟩ | ⟨g, cap, cur, rfl, _⟩
            · exact ⟨none, 0, by rw [h0]⟩
            · exact ⟨_, cap, rfl⟩
          have H1 := Lib.hid hO1
          have H2 := Lib.hid hO2
          have HOK := Lib.hid hgok
          have HC5 := Lib.hid (HC3.out.below hb)
          have HF5 := Lib.hid (HF3.out.trans (FrP.of_below hb _))
          have HBX5 := Lib.hid (hold _ _ HBX3.out)
          have hS5 : ∀ x cur t z, wr.heap[x]? = some (.cells cur t z) → t ≠ 4 → ¬ ∃ i, i < n ∧ x = gH i := by
            rintro x cur t z hx ht ⟨i, hi, rfl⟩
            exact tag_ne hx (HC5.out.hs.row i hi hi) ht rfl
          have HS5 := Lib.hid hS5
          have HSZ := Lib.hid (show bx ≤ w3.heap.size from hsw3)
          clear hO1 hO2 hgok hL hG hold hb HORD HOT HOL hgl hol hS5 HC3 HF3 HBX3 HCI3 HRI3 HO3 hbz
          go_wp2_with fail
          obtain ⟨w5, rfl⟩ : ∃ w5 : World, w5 = wr := ⟨_, rfl⟩
          go_loopg [90, 17] gs.length (fun g ix _ wx => HoRel w5 cb n m (.slice HA n hc) H gH gs g ix wx)
          case atStart => exact ⟨0, by omega, rfl, HC5.out.hs, FrP.refl _ _⟩
          case round =>
            obtain ⟨k, hk, rfl, hM, hF⟩ := hrel
            by_cases hg : gk = 0
            · obtain rfl : k = gs.length := by omega
              rw [List.take_length] at hM
              have HCF := Lib.hid (HC5.out.hand hF hM)
              have HOF := Lib.hid (ownsRow_base (hF.own H2.out (fun x cur z hx => HS5.out _ _ _ _ hx (by decide))) hsw3)
              have HFF := Lib.hid (HF5.out.trans (hF.mono (fun x hx => Or.inr hx)))
              clear hk hg hM hF
              go_wp2_with fail
              go_ret
              exact ⟨_, _, _, rfl, by rw [HGS.out, HBB.out]; exact HOF.out, by rw [HGS.out]; exact HCF.out, HFF.out⟩
            · have hlt : k < gs.length := by omega
              have hltI : (k : Int) < (gs.length : Int) := by omega
              have HAP := Lib.hid (applyG_succ H gs hlt)
              have hok := HOK.out _ (List.getElem_mem hlt)
              have hGo := hF.own H1.out (fun x cur z hx => HS5.out _ _ _ _ hx (by decide))
              have x0 := flatK_at (enc := gfC) (k := 2) (fun _ => rfl) gs k 0 hlt (by omega)
              have x1 := flatK_at (enc := gfC) (k := 2) (fun _ => rfl) gs k 1 hlt (by omega)
              have HK := Lib.hid hk
              have hgk : gk ≠ 0 := hg
              have b0 : wr.cell? ⟨bx, 0, none⟩ = some (.pointer (some ⟨cb, 0, none⟩)) := by simp [World.cell?, hF.blk HBX5.out (HS5.out _ _ _ _ HBX5.out (by decide))]
              have k2 := (crB_cells (hF.blk HC5.out.cr (HS5.out _ _ _ _ HC5.out.cr (by decide)))).2.2.1
              clear hk hg
              generalize gs[k] = x at *
              obtain ⟨tt, fr, p⟩ := x
              obtain ⟨hto, _, hpm, _⟩ := hok
              simp only at hto hpm HAP
              simp only [gfC] at x0 x1
              obtain ⟨g2, rfl, y0⟩ := own_atK hGo x0
              obtain ⟨g3, ek, y1⟩ := own_atK hGo x1
              simp only [Option.some.injEq, Addr.mk.injEq] at ek
              obtain ⟨rfl, _, _⟩ := ek
              rw [Nat.add_zero] at y0
              have hbA := bfirst wr (.cells #[.int .i64 (tt : Nat), .int .i64 (p : Nat)] 218)
              have hM2 := hM.below hbA
              have HF2 := Lib.hid (hF.alloc (.cells #[.int .i64 (tt : Nat), .int .i64 (p : Nat)] 218))
              have b2 := bold hbA b0
              have k3 := bold hbA k2
              have n0 := cell_new_list wr #[.int .i64 (tt : Nat), .int .i64 (p : Nat)] 218 0 _ rfl
              have n1 := cell_new_list wr #[.int .i64 (tt : Nat), .int .i64 (p : Nat)] 218 1 _ rfl
              have hn1 : gH tt ≠ bx := fun e => tag_ne HBX5.out (HC5.out.hs.row tt hto hto) (by decide) e.symm
              have hn2 : gH tt ≠ cb := by have := hM.ge tt hto hto; omega
              have hn3 : gH tt ≠ wr.heap.size := by have := block_lt (hM.row tt hto hto); omega
              have htoI : (tt : Int) < (n : Int) := by omega
              have hpI : (p : Int) < (m : Int) := by omega
              go_upto_region 24 with fail
              clear x0 x1 y0 y1 hGo b0 k2 hM hF hbA
              generalize wr.alloc (.cells #[.int .i64 (tt : Nat), .int .i64 (p : Nat)] 218) = w7 at *
              generalize wr.heap.size = pb at *
              obtain ⟨ob, rfl, _, ol, q1, q2, q3, a1, a2, a3⟩ := hM2.at_ (i := tt) (j := p) hto hto
              have a4 := a2 hpm
              unfold slc at a1
              have HMF := Lib.hid (show Mat (w7.setCell ⟨gH tt, p, none⟩ (.bool true)) (cb + 1) (.slice (some ⟨ob, 0, none⟩) n hc) n m (applyG H (gs.take (k + 1))) gH by rw [HAP.out]; exact hM2.set hto hto)
              have HFF := Lib.hid (HF2.out.set (p := ⟨gH tt, p, none⟩) ⟨tt, hto, rfl⟩ (.bool true))
              clear a2 hM2 HF2 HAP
              go_region_held3 (fun w' => w'.cell? ⟨bx, 0, none⟩ = some (.pointer (some ⟨cb, 0, none⟩)) ∧ w'.cell? ⟨cb, 2, none⟩ = some (.slice (some ⟨ob, 0, none⟩) n hc) ∧ w'.cell? ⟨pb, 0, none⟩ = some (.int .i64 (tt : Nat)) ∧ w'.cell? ⟨pb, 1, none⟩ = some (.int .i64 (p : Nat)) ∧ w'.cell? ⟨ob, tt, none⟩ = some (.slice (some ⟨gH tt, 0, none⟩) m m)) (go_keep) (fail)
              go_wp2_with fail
              go_roundg (gk - 1)
              case measure => omega
              case rel => exact ⟨k + 1, by have := HK.out; omega, by go_num, HMF.out.drew, HFF.out.drewN 1⟩
        · have hlt : k < n := by omega
          have hltI : (k : Int) < (n : Int) := by omega
          have hlo : k < ord.length := by have := HOL.out; omega
          have HST := Lib.hid (rdTo_succ n m N H ord hlo)
          have hrd := rdTo_ok n m N H (ord.take k) (fun x hx => HOT.out x (List.mem_of_mem_take hx))
          have hlen : (rdTo n m N H (ord.take k)).2.length ≤ 12 := by have := hrd.2; rw [List.length_take] at this; omega
          have hi : ord[k] < n := HOT.out _ (List.getElem_mem hlo)
          have hco := own_at1 (HO3.out) (natV_at hlo)
          obtain ⟨og, rfl, hc3⟩ := hco
          have hoc : wr.cell? ⟨og, k, none⟩ = some (.int .i64 (ord[k] : Nat)) := bold hb hc3
          have b0 : wr.cell? ⟨bx, 0, none⟩ = some (.pointer (some ⟨cb, 0, none⟩)) := by simp [World.cell?, hold _ _ HBX3.out]
          have HCR := Lib.hid (HC3.out.below hb)
          obtain ⟨k0, k1, k2, k3, k4, _⟩ := crB_cells HCR.out.cr
          unfold slc at k3 k4
          have HTK := Lib.hid (takes_any cb n m ord[k] kc gg cg 0 n rg 0 m KA NA HA nc hc bn N H gN gH (cnF m H) (raF n H) (rdTo n m N H (ord.take k)).1 wr (by omega) hm hi k0 k1 k2 k3 k4 HCR.out.matN HCR.out.matH (fun j hj => by rw [Nat.zero_add]; exact (rowI_cell (hold _ _ HCI3.out) hj).1) (fun j hj => by rw [Nat.zero_add]; exact (rowI_cell (hold _ _ HRI3.out) hj).1) (by rw [HGG.out]; exact hG))
          have HSP := Lib.hid (takeTo_spec n N H (cnF m H) (raF n H) (rdTo n m N H (ord.take k)).1 ord[k] m)
          have HK := Lib.hid hk
          have hgk : gk ≠ 0 := hg
          clear hk hg hc3 hrd
          rw [stepR] at HST
          generalize ord[k] = i at *
          generalize rdTo n m N H (ord.take k) = s at *
          generalize takeTo n N H (cnF m H) (raF n H) s.1 i m = T at *
          obtain ⟨gave, gl⟩ := s
          obtain ⟨T1, T2⟩ := T
          simp only at HST HTK HSP hG hO1 hO2 hlen
          rcases Int.lt_or_le T1 0 with e5 | e5
          · have HS := Lib.hid (show rdTo n m N H (ord.take (k + 1)) = (gave, gl) by rw [HST.out, if_neg (by omega)])
            have HG := Lib.hid hG
            have H1 := Lib.hid hO1
            have H2 := Lib.hid hO2
            have e6 : ¬ 0 ≤ T1 := by omega
            clear HST hG hO1 hO2 HSP k0 k1 k2 k3 k4
            go_wp2_with fail
            refine HTK.out.mono ?_
            rintro e wt ⟨rfl, q, rfl⟩
            go_wp2_with fail
            go_roundg (gk - 1)
            case measure => omega
            case rel => exact ⟨k + 1, by have := HK.out; omega, by go_num, by rw [HS.out]; exact HG.out, by rw [HS.out]; exact H1.out, by rw [HS.out]; exact H2.out, below_drewN hb q⟩
          · obtain ⟨_, hp1, hf0, hf1⟩ := HSP.out e5
            obtain ⟨p, rfl⟩ := Int.eq_ofNat_of_zero_le e5
            obtain ⟨fr, rfl⟩ := Int.eq_ofNat_of_zero_le hf0
            rw [if_pos e5] at HST
            simp only [Int.toNat_natCast] at HST
            have HS := HST
            clear HST HSP
            have hfn : fr < n := by omega
            have gc := row_cell hG hfn
            have gz := row_fz (j := fr) hG
            have hggl := block_lt hG
            have HG := Lib.hid hG
            have H1 := Lib.hid hO1
            have H2 := Lib.hid hO2
            rw [← HGG.out] at gc gz hggl
            clear hG hO1 hO2 k1 k2 k3 k4
            go_wp2_with fail
            refine HTK.out.mono ?_
            rintro e wt ⟨rfl, q, rfl⟩
            have hG0 : (wr.drewN q).heap[gg]? = some (.cells (rowC n gave).toArray 4 (0, 0)) := by rw [HGG.out]; exact HG.out
            have HG5 := Lib.hid (row_set (j := fr) hG0)
            have hb5 : Below w3.heap.size w3 ((wr.drewN q).setCell ⟨gg, fr, none⟩ (.bool true)) := (below_drewN hb q).setCell (p := ⟨gg, fr, none⟩) (by show w3.heap.size ≤ gg; rw [HGG.out]; exact Nat.le_refl _) _
            have o15 := own_set (w := wr.drewN q) (j := fr) (u := .bool true) H1.out hG0 (by decide)
            have O25 := Lib.hid (own_set (w := wr.drewN q) (j := fr) (u := .bool true) H2.out hG0 (by decide))
            have hbz5 := hb5.size
            have hsz5 : ((wr.drewN q).setCell ⟨gg, fr, none⟩ (.bool true)).heap.size = wr.heap.size := by simp [World.setCell, World.drewN]
            clear hG0
            go_wp2_with (at_builtin; refine wpList_push (W := w3) (lo := w3.heap.size) rfl _ _ 214 rfl 218 j0 _ 2 16 Tryz.underlying214 ji jz0 jz1 jz2 rfl (by decide) (by decide) _ _ _ rfl hb5 hbz5 o15 [.int .i64 i, .int .i64 p] rfl (by show Value.slice (some ⟨wr.heap.size, 0, none⟩) 1 1 = _; rw [hsz5]) rfl rfl (by omega) ?_)
            intro v6 w6 o16 hb6 hz6 hg6
            have O16 := Lib.hid o16
            have O26 := Lib.hid (own_other O25.out o15 hg6 (by decide))
            have HG6 := Lib.hid ((FrP.of_gb (S := fun x => u10.ownBlock = some x) hg6 (fun x hx => hx)).blk HG5.out (fun hS => by obtain ⟨c, h2⟩ := own_tag o15 hS; exact tag_ne HG5.out h2 (by decide) rfl))
            have HB6 := Lib.hid hb6
            have hold6 : ∀ x o, w3.heap[x]? = some o → w6.heap[x]? = some o := fun x o hx => (hb6.block x (block_lt hx)).trans hx
            have b6 : w6.cell? ⟨bx, 0, none⟩ = some (.pointer (some ⟨cb, 0, none⟩)) := by simp [World.cell?, hold6 _ _ HBX3.out]
            have hC6 := HC3.out.below hb6
            have c6 := (crB_cells hC6.cr).1
            obtain ⟨kg, rfl, y1⟩ := own_at1 hC6.key (ksAt_eq ks (i := fr) (by rw [hC6.len]; exact hfn))
            obtain ⟨kg2, ek, y2⟩ := own_at1 hC6.key (ksAt_eq ks (i := i) (by rw [hC6.len]; exact hi))
            simp only [Option.some.injEq, Addr.mk.injEq] at ek
            obtain ⟨rfl, _, _⟩ := ek
            have hz3 : w3.heap.size ≤ w6.heap.size := hb6.size
            have HCC := Lib.hid hC6
            have hfnI : (fr : Int) < (n : Int) := by omega
            have hinI : (i : Int) < (n : Int) := by omega
            have HNT := Lib.hid (show (noted no (gl ++ [(i, fr, p)])).flatMap (giC ks) = (noted no gl).flatMap (giC ks) ++ [.int .i64 no, .string (ksAt ks fr), .string (ksAt ks i), .int .i64 p] by simp [noted, giC])
            clear hC6 hold6 hb6 hg6 o16 o15 hb5 hbz5 O25 HG5 H1 H2 HG hz6 hb hold b0 k0 hoc gc gz hggl HTK hbz HCR
            generalize ksAt ks fr = kf at *
            generalize ksAt ks i = ki at *
            go_upto_region 19 with fail
            go_region_law ((refine step_push (w0 := w6.drew) (by rfl) _ _ _ (by rfl) w3.heap.size 74 l0 _ 4 48 Tryz.underlying66 li lz0 lz1 lz2 rfl (by omega) (by decide) u11 gl.length _ (by rfl) O26.out [.int .i64 no, .string kf, .string ki, .int .i64 p] (by rfl) (by rfl) (by rfl) (by omega) (by exact hz3) ?_; intro v7 w7 o27 hg7 hz7))
            all_goals
              have O27 := Lib.hid o27
              have O17 := Lib.hid (own_other (w := w6.drew) O16.out O26.out hg7 (by decide))
              have HG7 := Lib.hid ((FrP.of_gb (S := fun x => u11.ownBlock = some x) hg7 (fun x hx => hx)).blk (x := gg) HG6.out (fun hS => by obtain ⟨c, h2⟩ := own_tag O26.out hS; exact tag_ne HG6.out h2 (by decide) rfl))
              have HB7 := Lib.hid (show Below w3.heap.size w3 w7 from (below_drewN HB6.out 1).grown hg7 (by exact hz3) (fun x hx => (O26.out.lt x hx).1))
              clear o27 hg7
              go_wp2_with fail
              go_roundg (gk - 1)
              case measure => omega
              case rel => exact ⟨k + 1, by have := HK.out; omega, by go_num, by rw [HS.out, ← HGG.out]; exact HG7.out, by rw [HS.out]; simpa [gfC] using O17.out, by rw [HS.out]; simp only [List.length_append, List.length_singleton]; rw [HNT.out]; exact O27.out, HB7.out⟩
open Go.RowKit
attribute [local go_sem ↓] Go.wp_at_zero Go.wp_at_succ
def falAt (f : Nat → Bool) (m : Nat) : Int := match (List.range m).find? (fun j => !f j) with | some j => (j : Int) | none => -1
def NoF (f : Nat → Bool) (k : Nat) : Prop := ∀ j, j < k → f j = true
theorem find_none {q : Nat → Bool} {m : Nat} (h : ∀ j, j < m → q j = false) : (List.range m).find? q = none := by
  rw [List.find?_eq_none]
  intro x hx
  rw [h x (by simpa using hx)]
  decide
theorem find_at {q : Nat → Bool} {m k : Nat} (hk : k < m) (h : ∀ j, j < k → q j = false) (hq : q k = true) : (List.range m).find? q = some k := by
  rw [List.find?_range_eq_some]
  exact ⟨hq, by simpa using hk, fun j hj => by rw [h j hj]; rfl⟩
def BxRel (f : Nat → Bool) (m : Nat) (w : World) (g : Nat) (i : Value) (wr : World) : Prop := ∃ k : Nat, k + g = m ∧ i = .int .i64 k ∧ NoF f k ∧ w = wr
set_option maxRecDepth 100000 in
set_option maxHeartbeats 1000000 in
theorem indexB_any (g m : Nat) (f : Nat → Bool) (w : World) (hm : m ≤ 100) (h : w.heap[g]? = some (.cells (rowC m f).toArray 4 (0, 0))) :
    Calls Tryz.prog 143 #[.slice (some ⟨g, 0, none⟩) m m, .bool false] w fun e w' => e = .returned (.int .i64 (falAt f m)) ∧ w = w' := by
  have H := Lib.hid h
  clear h
  go_enter Tryz.func143, Tryz.ntmps143
  go_wp2_with fail
  go_loopg [8, 5] m (fun g i _ wr => BxRel f m w g i wr)
  case atStart => exact ⟨0, by omega, rfl, fun j hj => absurd hj (Nat.not_lt_zero _), rfl⟩
  case round =>
    obtain ⟨k, hk, rfl, hno, rfl⟩ := hrel
    by_cases hg : gk = 0
    · obtain rfl : k = m := by omega
      have HV := Lib.hid (show falAt f k = -1 by rw [falAt, find_none (fun j hj => by rw [hno j hj]; rfl)])
      clear hk hg hno
      go_wp2_with fail
      go_ret
      exact ⟨ret_int HV.out.symm, rfl⟩
    · have hlt : k < m := by omega
      have hltI : (k : Int) < (m : Int) := by omega
      have hc := row_cell H.out hlt
      have HK := Lib.hid hk
      have hgk : gk ≠ 0 := hg
      rcases Bool.eq_false_or_eq_true (f k) with e1 | e1
      · rw [e1] at hc
        have HN := Lib.hid (show NoF f (k + 1) from fun j hj => by
          by_cases e : j = k
          · rw [e]; exact e1
          · exact hno j (by omega))
        clear hk hg hno e1
        go_wp2_with fail
        go_roundg (gk - 1)
        case measure => omega
        case rel => exact ⟨k + 1, by have := HK.out; omega, by go_num, HN.out, rfl⟩
      · rw [e1] at hc
        have HV := Lib.hid (show falAt f m = k by rw [falAt, find_at hlt (fun j hj => by rw [hno j hj]; rfl) (by rw [e1]; rfl)])
        clear hk hg hno e1
        go_wp2_with fail
        go_ret
        exact ⟨ret_int HV.out.symm, rfl⟩
theorem falAt_all (f : Nat → Bool) (m : Nat) : decide (0 ≤ falAt f m) = !((List.range m).all fun p => f p) := by
  unfold falAt
  cases h : (List.range m).find? (fun j => !f j) with
  | none =>
    rw [List.find?_eq_none] at h
    have : (List.range m).all (fun p => f p) = true := by
      rw [List.all_eq_true]
      intro x hx
      simpa using h x hx
    rw [this]
    rfl
  | some j =>
    have h1 := List.find?_some h
    have h2 := List.mem_of_find?_eq_some h
    have : (List.range m).all (fun p => f p) = false := by
      rw [List.all_eq_false]
      exact ⟨j, h2, by simpa using h1⟩
    rw [this]
    simp
set_option maxRecDepth 100000 in
set_option maxHeartbeats 1000000 in
theorem containsB_any (g m : Nat) (f : Nat → Bool) (w : World) (hm : m ≤ 100) (h : w.heap[g]? = some (.cells (rowC m f).toArray 4 (0, 0))) :
    Calls Tryz.prog 94 #[.slice (some ⟨g, 0, none⟩) m m, .bool false] w fun e w' => e = .returned (.bool (!((List.range m).all fun p => f p))) ∧ w = w' := by
  have HI := Lib.hid (indexB_any g m f w hm h)
  have HV := Lib.hid (falAt_all f m)
  clear h
  go_enter Tryz.func94, Tryz.ntmps94
  go_wp2_with fail
  refine HI.out.mono ?_
  rintro e w1 ⟨rfl, rfl⟩
  go_wp2_with fail
  go_ret
  exact ⟨by rw [← HV.out]; rfl, rfl⟩
set_option maxRecDepth 100000 in
set_option maxHeartbeats 1000000 in
theorem lacks_one (g m : Nat) (f : Nat → Bool) (w : World) (hm : m ≤ 100) (h : w.heap[g]? = some (.cells (rowC m f).toArray 4 (0, 0))) :
    Calls Tryz.prog 93 #[.slice (some ⟨g, 0, none⟩) m m] w fun e w' => e = .returned (.bool (!((List.range m).all fun p => f p))) ∧ w = w' := by
  have HI := Lib.hid (containsB_any g m f w hm h)
  clear h
  go_enter Tryz.func93, Tryz.ntmps93
  go_wp2_with fail
  refine HI.out.mono ?_
  rintro e w1 ⟨rfl, rfl⟩
  go_wp2_with fail
  go_ret
  exact ⟨rfl, rfl⟩
def rowAll (m : Nat) (H : Nat → Nat → Bool) (i : Nat) : Bool := (List.range m).all fun p => H i p
set_option maxRecDepth 100000 in
set_option maxHeartbeats 1000000 in
theorem indexR_any (q n m c base : Nat) (A : Option Addr) (H : Nat → Nat → Bool) (gH : Nat → Nat) (w : World) (hn : n ≤ 50) (hM : Mat w base (.slice A n c) n m H gH)
    (hq : ∀ i, i < n → Calls Tryz.prog q #[.slice (some ⟨gH i, 0, none⟩) m m] w fun e w' => e = .returned (.bool (!rowAll m H i)) ∧ w = w') (eg : ∀ args w, (callFunc q args).run Tryz.prog w = .ok (.enter q args) w) :
    Calls Tryz.prog 142 #[.slice A n c, .func (.func q) #[] #[]] w fun e w' => e = .returned (.int .i64 (falAt (rowAll m H) n)) ∧ w = w' := by
  have HM := Lib.hid hM
  have HQ := Lib.hid hq
  clear hM hq
  go_enter Tryz.func142, Tryz.ntmps142
  go_wp2_with fail
  go_loopg [8, 5] n (fun g i _ wr => BxRel (rowAll m H) n w g i wr)
  case atStart => exact ⟨0, by omega, rfl, fun j hj => absurd hj (Nat.not_lt_zero _), rfl⟩
  case round =>
    obtain ⟨k, hk, rfl, hno, rfl⟩ := hrel
    by_cases hg : gk = 0
    · obtain rfl : k = n := by omega
      have HV := Lib.hid (show falAt (rowAll m H) k = -1 by rw [falAt, find_none (fun j hj => by rw [hno j hj]; rfl)])
      clear hk hg hno
      go_wp2_with fail
      go_ret
      exact ⟨ret_int HV.out.symm, rfl⟩
    · have hlt : k < n := by omega
      have hltI : (k : Int) < (n : Int) := by omega
      obtain ⟨ob, rfl, _, _, _, _, _, a1, _, _⟩ := HM.out.at_ (i := k) (j := 0) hlt hlt
      unfold slc at a1
      have hcall := HQ.out k hlt
      have HK := Lib.hid hk
      have hgk : gk ≠ 0 := hg
      rcases Bool.eq_false_or_eq_true (rowAll m H k) with e1 | e1
      · rw [e1] at hcall
        have HN := Lib.hid (show NoF (rowAll m H) (k + 1) from fun j hj => by
          by_cases e : j = k
          · rw [e]; exact e1
          · exact hno j (by omega))
        clear hk hg hno e1
        go_wp2_with (go_at_fn q; refine hcall.mono ?_; rintro e w1 ⟨rfl, rfl⟩)
        go_roundg (gk - 1)
        case measure => omega
        case rel => exact ⟨k + 1, by have := HK.out; omega, by go_num, HN.out, rfl⟩
      · rw [e1] at hcall
        have HV := Lib.hid (show falAt (rowAll m H) n = k by rw [falAt, find_at hlt (fun j hj => by rw [hno j hj]; rfl) (by rw [e1]; rfl)])
        clear hk hg hno e1
        go_wp2_with (go_at_fn q; refine hcall.mono ?_; rintro e w1 ⟨rfl, rfl⟩)
        go_ret
        exact ⟨ret_int HV.out.symm, rfl⟩
set_option maxRecDepth 100000 in
set_option maxHeartbeats 1000000 in
theorem containsR_any (q n m c base : Nat) (A : Option Addr) (H : Nat → Nat → Bool) (gH : Nat → Nat) (w : World) (hn : n ≤ 50) (hM : Mat w base (.slice A n c) n m H gH)
    (hq : ∀ i, i < n → Calls Tryz.prog q #[.slice (some ⟨gH i, 0, none⟩) m m] w fun e w' => e = .returned (.bool (!rowAll m H i)) ∧ w = w') (eg : ∀ args w, (callFunc q args).run Tryz.prog w = .ok (.enter q args) w) :
    Calls Tryz.prog 92 #[.slice A n c, .func (.func q) #[] #[]] w fun e w' => e = .returned (.bool (!allF n m H)) ∧ w = w' := by
  have HI := Lib.hid (indexR_any q n m c base A H gH w hn hM hq eg)
  have HV := Lib.hid (show decide (0 ≤ falAt (rowAll m H) n) = !allF n m H from falAt_all (rowAll m H) n)
  clear hM hq
  go_enter Tryz.func92, Tryz.ntmps92
  go_wp2_with fail
  refine HI.out.mono ?_
  rintro e w1 ⟨rfl, rfl⟩
  go_wp2_with fail
  go_ret
  exact ⟨by rw [← HV.out]; rfl, rfl⟩
attribute [local go_sem ↓] Go.wp_at_zero Go.wp_at_succ
theorem heap_newN (w : World) (o : Obj) (n : Nat) (hn : n = w.heap.size) : (w.alloc o).heap[n]? = some o := by subst hn; exact heap_alloc_new w o
def SfRel (w1 : World) (cb m : Nat) (nv : Value) (ps : List PeerD) (g : Nat) (ix : Value) (wr : World) : Prop :=
  ∃ (k : Nat) (kv hv : Value) (gs : Nat → Nat), k + g = ps.length ∧ ix = .int .i64 k ∧ Fill w1 cb m nv (hasM ps) gs k kv hv kv hv k k ((ps.take k).map fun p => Value.string p.1) (slcs k k m gs) wr ∧
    (∀ i, i < k → cb + 1 ≤ gs i) ∧ (∀ i j, i < k → j < k → gs i = gs j → i = j)
def ShRel (w4 : World) (hb m : Nat) (zs : List Int) (g : Nat) (ix : Value) (wr : World) : Prop :=
  ∃ k : Nat, k + g = zs.length ∧ ix = .int .i64 k ∧ wr.heap[hb]? = some (.cells (rowC m (hasTo zs k)).toArray 4 (0, 0)) ∧ Below hb w4 wr ∧ hb < wr.heap.size
def keysOf (ps : List PeerD) : List ByteArray := ps.map (·.1)
def SrRel (w1 w0 : World) (cb n m : Nat) (ps : List PeerD) (N H0 : Nat → Nat → Bool) (kv nv hv : Value) (gN gH : Nat → Nat) (g : Nat) (ov nov : Value) (wr : World) : Prop :=
  ∃ (no : Nat) (H : Nat → Nat → Bool) (acc : List GiveN) (cv rv : Value), nov = .int .i64 no ∧ Going n m N H0 g no H acc ∧ wr.ownsRow (cb + 1) 74 4 ov acc.length (acc.flatMap (giC (keysOf ps))) ∧
    CrowdIs wr cb w0.heap.size n m (keysOf ps) N H kv nv hv cv rv gN gH w1 ∧ Below cb w1 wr
def spreadG (ps : List PeerD) (ne : List PairD) (m : Nat) : List GiveN := (spreadF ps.length m (nearM ps ne ne.length) (ps.length * m) 1 (hasM ps)).1
def spreadB (ps : List PeerD) (ne : List PairD) (m : Nat) : Bool := allF ps.length m (spreadF ps.length m (nearM ps ne ne.length) (ps.length * m) 1 (hasM ps)).2
def SpreadGot (ps : List PeerD) (ne : List PairD) (m : Nat) (w : World) (e : Ending) (w' : World) : Prop :=
  ∃ v, e = .returned (.tuple #[v, .bool (spreadB ps ne m), .int .i64 0]) ∧ w'.ownsRow w.heap.size 74 4 v (spreadG ps ne m).length ((spreadG ps ne m).flatMap (giC (keysOf ps))) ∧ Below w.heap.size w w'
set_option maxRecDepth 100000 in
set_option maxHeartbeats 8000000 in
theorem spread_any (A B : Option Addr) (lo c d m : Nat) (ps : List PeerD) (ne : List PairD) (w : World) (hf : PeersAt w lo (.slice A ps.length c) ps) (hok : PeOk ps) (hn : ps.length ≤ 12) (hm : m ≤ 60)
    (hz : peersF m ps = 0) (hN : Lst w lo 2 (.slice B ne.length d) (ne.flatMap paC)) (hnn : ne.length ≤ 1000) (hy : nearF ps ne = 0) :
    Calls Tryz.prog 45 #[.slice A ps.length c, .slice B ne.length d, .int .i64 m] w (SpreadGot ps ne m w) := by
  have hcp := checkPeers_any A lo c ps m w hf hok (by omega) (by omega) (by omega)
  rw [hz] at hcp
  have HCP := Lib.hid hcp
  have HF := Lib.hid hf
  have HN := Lib.hid hN
  have HZ := Lib.hid hz
  have HOK := Lib.hid hok
  have HY := Lib.hid hy
  obtain ⟨i0, ii, iz0, iz1, iz2⟩ := info_parts infoGi
  have hmk := run_make_row' (P := Tryz.prog) 151 4 (.bool false) 1 Tryz.underlying151 infoB rfl .i64 .i64 m (by omega) (by omega)
  clear hcp hf hN hz hok hy
  go_enter Tryz.func45, Tryz.ntmps45
  go_wp2_with fail
  refine HCP.out.mono ?_
  rintro e w0 ⟨rfl, hb0⟩
  go_wp2_with fail
  refine (nearOf_any A B lo c d ps ne m w0 (HF.out.below hb0) HZ.out (by omega) (HN.out.below hb0) hnn).mono ?_
  rintro e w1 ⟨_, hgot, hb1⟩
  obtain ⟨nv, gN, rfl, hMN⟩ := hgot HY.out
  obtain ⟨NA, nc, rfl⟩ := hMN.form
  have HMN := Lib.hid hMN
  have hbw := bon hb0 hb1
  have HBW := Lib.hid hbw
  have HF1 := Lib.hid (HF.out.below hbw)
  have HB1 := Lib.hid hb1
  clear hgot hMN hb0 HCP HN HF
  go_wp2_with fail
  obtain ⟨cb, hcb⟩ : ∃ cb, cb = w1.heap.size := ⟨_, rfl⟩
  have hF0 : Fill w1 cb m (.slice NA ps.length nc) (hasM ps) (fun _ => 0) 0 (.slice none 0 0) (.slice none 0 0) (.slice none 0 0) (.slice none 0 0) 0 0 [] [] (w1.alloc (.cells #[.slice none 0 0, .slice NA ps.length nc, .slice none 0 0, .slice none 0 0, .slice none 0 0] 150)) :=
    ⟨heap_newN _ _ _ hcb, World.ownsRow_nil _ _ _ _, World.ownsRow_nil _ _ _ _, fun i hi => absurd hi (Nat.not_lt_zero _), by rw [hcb]; exact bfirst _ _⟩
  rw [← hcb]
  have HCB := Lib.hid hcb
  generalize w1.alloc (.cells #[.slice none 0 0, .slice NA ps.length nc, .slice none 0 0, .slice none 0 0, .slice none 0 0] 150) = w2 at *
  clear hcb hb1 hbw
  go_loopg [42, 14, 15, 17, 51] ps.length (fun g ix _ _ _ _ wr => SfRel w1 cb m (.slice NA ps.length nc) ps g ix wr)
  case atStart => exact ⟨0, _, _, _, by omega, rfl, hF0, fun i hi => absurd hi (Nat.not_lt_zero _), fun i j hi => absurd hi (Nat.not_lt_zero _)⟩
  case round =>
    clear hF0
    obtain ⟨k, kv, hv, gs, hk, rfl, hF, hge, hinj⟩ := hrel
    by_cases hg : gk = 0
    rotate_left
    · have hlt : k < ps.length := by omega
      have hltI : (k : Int) < (ps.length : Int) := by omega
      have hgk : gk ≠ 0 := hg
      have HK := Lib.hid hk
      have hfw : PeersAt wr lo (.slice A ps.length c) ps := HF1.out.below (by have := hF.bel; rw [HCB.out] at this; exact this)
      obtain ⟨g, o, B2, m2, d2, rfl, hgl, x0, x1, hm2, hL⟩ := hfw.at_ hlt
      have HHI := Lib.hid (fun (j : Nat) (hj : j < ps[k].2.length) => (show 0 ≤ ps[k].2[j] ∧ ps[k].2[j] < (m : Int) by have := has_in HZ.out hlt (k := j) (by rw [pAt_eq ps hlt]; exact hj); simp only [pAt_eq ps hlt] at this; exact this))
      have HHM := Lib.hid (show hasTo ps[k].2 ps[k].2.length = hasM ps k by have := hasTo_all ps k; rwa [pAt_eq ps hlt] at this)
      have HTK := Lib.hid (show (ps.take (k + 1)).map (fun p => Value.string p.1) = (ps.take k).map (fun p => Value.string p.1) ++ [.string ps[k].1] by rw [List.take_succ_eq_append_getElem hlt, List.map_append]; rfl)
      have hzl : ps[k].2.length ≤ 1000 := (HOK.out _ (List.getElem_mem hlt)).2.1
      have HL := Lib.hid hL
      have hcl := hF.lt
      obtain ⟨y0, y2, z0, z2, _⟩ := hF.cells
      have HFF := Lib.hid hF
      have HGE := Lib.hid hge
      have HIJ := Lib.hid hinj
      have HGO := Lib.hid hgl
      clear hk hg hL hF hge hinj hfw
      subst hm2
      generalize ps[k].2 = zs at *
      generalize ps[k].1 = key at *
      go_wp2_with fail
      have b4 := bfirst wr (.cells #[.string key, .slice B2 zs.length d2] 71)
      have hP4 := heap_alloc_new wr (.cells #[.string key, .slice B2 zs.length d2] 71)
      have hpb : wr.heap.size < (wr.alloc (.cells #[.string key, .slice B2 zs.length d2] 71)).heap.size := by simp
      have HF4 := Lib.hid (HFF.out.alloc (.cells #[.string key, .slice B2 zs.length d2] 71))
      have HSZ := Lib.hid (show (wr.alloc (.cells #[.string key, .slice B2 zs.length d2] 71)).heap.size = wr.heap.size + 1 by simp)
      have HL4 := Lib.hid (HL.out.below b4)
      generalize wr.alloc (.cells #[.string key, .slice B2 zs.length d2] 71) = w4 at *
      have HRN := Lib.hid (heap_newN w4 (.cells (madeCells #[.bool false] m) 4) (wr.heap.size + 1) HSZ.out.symm)
      have hB5 := bfirst w4 (.cells (madeCells #[.bool false] m) 4)
      have hl5 : wr.heap.size + 1 < (w4.alloc (.cells (madeCells #[.bool false] m) 4)).heap.size := by have := HSZ.out; simp; omega
      generalize w4.alloc (.cells (madeCells #[.bool false] m) 4) = w5 at *
      have HP4 := Lib.hid hP4
      clear HFF hcl y0 y2 z0 z2 x0 x1 b4 HL hP4
      generalize wr.heap.size = pb at *
      clear wr
      obtain ⟨gq, rfl⟩ : ∃ gq, gq = gk := ⟨_, rfl⟩
      go_loopg [51, 17] zs.length (fun g ix _ wx => ShRel w4 (pb + 1) m zs g ix wx)
      case atStart => exact ⟨0, by omega, rfl, by rw [hasTo_zero, rowC_false]; exact HRN.out, by rw [← HSZ.out]; exact hB5, hl5⟩
      case round =>
        clear hB5 HRN hl5
        obtain ⟨j, hk, rfl, hR, hB, hhl⟩ := hrel
        by_cases hg : gk = 0
        rotate_left
        · have hj : j < zs.length := by omega
          have hjI : (j : Int) < (zs.length : Int) := by omega
          have HJ := Lib.hid hk
          have hgk2 : gk ≠ 0 := hg
          have hbw : Below w4.heap.size w4 wr := by rw [HSZ.out]; exact hB
          obtain ⟨zg, zo, rfl, zl, zc⟩ := (HL4.out.below hbw).int hj rfl
          obtain ⟨q0, q1⟩ := HHI.out j hj
          have HS := Lib.hid (fun (p : Nat) (hp : zs[j] = (p : Int)) => hasTo_succ zs hj hp)
          generalize zs[j] = z at *
          obtain ⟨p, rfl⟩ := Int.eq_ofNat_of_zero_le q0
          have hpm : p < m := by omega
          have rc := row_cell hR hpm
          have rz := row_fz (j := p) hR
          have HR := Lib.hid (row_set (j := p) hR)
          have HB := Lib.hid (hB.setCell (p := ⟨pb + 1, p, none⟩) (Nat.le_refl _) (.bool true))
          have hSp := HS.out p rfl
          rw [← hSp] at HR
          clear hSp HS hk hg hbw hR hB
          go_wp2_with fail
          go_roundg (gk - 1)
          case measure => omega
          case rel => exact ⟨j + 1, by have := HJ.out; omega, by go_num, HR.out, HB.out, by simpa [World.setCell] using hhl⟩
        · obtain rfl : zs.length = j := by omega
          clear hk hg
          have hbw : Below w4.heap.size w4 wr := by rw [HSZ.out]; exact hB
          have hP := (hbw.block pb hpb).trans HP4.out
          obtain ⟨p0, p1⟩ := pe_cells hP
          rw [HHM.out] at hR
          have st0 : Fill w1 cb m (.slice NA ps.length nc) (hasM ps) (fun i => if i = k then pb + 1 else gs i) (k + 1) kv hv kv hv k k _ _ wr.drew := (HF4.out.more hbw hR).drew
          have hS : SpS cb pb kv hv key wr.drew := ⟨st0.cells.1, st0.cells.2.1, p0, _, hP⟩
          have hcp : cb < pb := by have := HF4.out.lt; have := HSZ.out; omega
          have HEND : Hid (∀ (kv' hv' : Value) (w' : World), Fill w1 cb m (.slice NA ps.length nc) (hasM ps) (fun i => if i = k then pb + 1 else gs i) (k + 1) kv' hv' kv' hv' (k + 1) (k + 1) ((ps.take k).map (fun p => Value.string p.1) ++ [.string key]) (slcs k k m gs ++ [.slice (some ⟨pb + 1, 0, none⟩) m m]) w' → SfRel w1 cb m (.slice NA ps.length nc) ps (gq - 1) (.int .i64 ((k : Int) + 1)) w') := by
            intro kv' hv' w' hF'
            refine ⟨k + 1, kv', hv', _, by have := HK.out; omega, by go_num, by rw [HTK.out, ← slcs_push]; exact hF', fun i hi => ?_, fun i j hi hj he => ?_⟩
            · by_cases e : i = k
              · rw [if_pos e]; omega
              · rw [if_neg e]; exact HGE.out i (by omega)
            · have hlt4 : ∀ i, i < k → gs i < pb + 1 := fun i hi => by have := block_lt (HF4.out.row i hi); have := HSZ.out; omega
              by_cases e1 : i = k
              · by_cases e2 : j = k
                · omega
                · rw [if_pos e1, if_neg e2] at he; have := hlt4 j (by omega); omega
              · by_cases e2 : j = k
                · rw [if_neg e1, if_pos e2] at he; have := hlt4 i (by omega); omega
                · rw [if_neg e1, if_neg e2] at he; exact HIJ.out i j (by omega) (by omega) he
          clear hB hR hP p0 p1 HP4 HF4 HL4 hbw hmk HHI HGE HIJ
          go_upto_region 17 with fail
          refine wp_region_late (fun j => j == 19 || j == 22) (SpS cb pb kv hv key) (by kernel_rfl) ?_
          refine wpLate_takeP (i := 0) (v := .pointer (some ⟨cb, 0, none⟩)) rfl (by kernel_rfl) (by kernel_rfl) (by kernel_rfl) (fun _ _ _ h => h) (Or.inl ⟨by rfl, fun _ _ => by go_simp⟩) ?_
          refine wpLate_takeP (i := 1) (v := .pointer (some ⟨cb, 0, none⟩)) rfl (by kernel_rfl) (by kernel_rfl) (by kernel_rfl) (fun _ _ _ h => h) (Or.inl ⟨by rfl, fun _ _ => by go_simp⟩) ?_
          refine wpLate_takeP (i := 2) (v := .pointer (some ⟨cb, 0, none⟩)) rfl (by kernel_rfl) (by kernel_rfl) (by kernel_rfl) (fun _ _ _ h => h) (Or.inl ⟨by rfl, fun _ _ => by go_simp⟩) ?_
          refine wpLate_takeP (i := 3) (v := .pointer (some ⟨cb, 0, none⟩)) rfl (by kernel_rfl) (by kernel_rfl) (by kernel_rfl) (fun _ _ _ h => h) (Or.inl ⟨by rfl, fun _ _ => by go_simp⟩) ?_
          refine wpLate_takeP (i := 4) (v := .pointer (some ⟨cb, 0, none⟩)) rfl (by kernel_rfl) (by kernel_rfl) (by kernel_rfl) (fun _ _ _ h => h) (Or.inl ⟨by rfl, fun _ _ => by go_simp⟩) ?_
          refine wpLate_takeP (i := 6) (v := .pointer (some ⟨pb, 0, none⟩)) rfl (by kernel_rfl) (by kernel_rfl) (by kernel_rfl) (fun _ _ _ h => h) (Or.inl ⟨by rfl, fun _ _ => by go_simp⟩) ?_
          refine wpLate_takeP (i := 10) (v := .pointer (some ⟨cb, 0, none⟩)) rfl (by kernel_rfl) (by kernel_rfl) (by kernel_rfl) (fun _ _ _ h => h) (Or.inl ⟨by rfl, fun _ _ => by go_simp⟩) ?_
          refine wpLate_takeP (i := 11) (v := .pointer (some ⟨cb, 0, none⟩)) rfl (by kernel_rfl) (by kernel_rfl) (by kernel_rfl) (fun _ _ _ h => h) (Or.inl ⟨by rfl, fun _ _ => by go_simp⟩) ?_
          refine wpLate_takeP (i := 12) (v := .pointer (some ⟨cb, 2, none⟩)) rfl (by kernel_rfl) (by kernel_rfl) (by kernel_rfl) (fun _ _ _ h => h) (Or.inl ⟨by rfl, fun _ _ => by go_simp⟩) ?_
          refine wpLate_takeP (i := 14) (v := .slice (some ⟨pb + 1, 0, none⟩) m m) rfl (by kernel_rfl) (by kernel_rfl) (by kernel_rfl) (fun _ _ _ h => h) (Or.inl ⟨by rfl, fun _ _ => by go_simp⟩) ?_
          refine wpLate_take (i := 5) (v := kv) rfl (by kernel_rfl) (by kernel_rfl) (by kernel_rfl) (by kernel_rfl) (fun _ _ _ h => h) (Or.inl ⟨by rfl, fun w' hw' => by obtain ⟨h1, h2, h3, h4⟩ := hw'; go_simp⟩) hS ?_
          refine wpLate_take (i := 7) (v := .string key) rfl (by kernel_rfl) (by kernel_rfl) (by kernel_rfl) (by kernel_rfl) (fun _ _ _ h => h) (Or.inl ⟨by rfl, fun w' hw' => by obtain ⟨h1, h2, h3, h4⟩ := hw'; go_simp⟩) hS ?_
          refine wpLate_take (i := 13) (v := hv) rfl (by kernel_rfl) (by kernel_rfl) (by kernel_rfl) (by kernel_rfl) (fun _ _ _ h => h) (Or.inl ⟨by rfl, fun w' hw' => by obtain ⟨h1, h2, h3, h4⟩ := hw'; go_simp⟩) hS ?_
          refine wpLate_ready (rs := [8, 15]) (by kernel_rfl) (by simp) ?_
          refine AllLate.cons (i := 8) rfl (fun K hK => ?_) (AllLate.cons (i := 15) rfl (fun K hK => ?_) AllLate.nil)
          · go_simp
            have hS := hS.alloc (.cells #[.string key] 9)
            have st := (st0).alloc (.cells #[.string key] 9)
            refine hK _ _ (fun _ _ => hS) ?_
            clear hK K
            refine wpLate_ready (rs := [9, 15]) (by kernel_rfl) (by simp) ?_
            refine AllLate.cons (i := 9) rfl (fun K hK => ?_) (AllLate.cons (i := 15) rfl (fun K hK => ?_) AllLate.nil)
            · apply step_fill0 (s := .tmp 64) (x := .tmp 67) (key := key)
              · rfl
              · rfl
              · exact st
              · rfl
              · rfl
              · exact heap_newN _ _ _ (by simp)
              · omega
              intro g7 c7 w7 st keep7 zz7
              have hS := hS.grow st keep7 (by decide)
              refine hK _ _ (fun _ _ => hS) ?_
              clear hK K
              refine wpLate_ready (rs := [15]) (by kernel_rfl) (by simp) ?_
              refine AllLate.cons (i := 15) rfl (fun K hK => ?_) AllLate.nil
              go_simp
              have hS := hS.alloc (.cells #[.slice (some ⟨pb + 1, 0, none⟩) m m] 151)
              have st := (st).alloc (.cells #[.slice (some ⟨pb + 1, 0, none⟩) m m] 151)
              refine hK _ _ (fun _ _ => hS) ?_
              clear hK K
              refine wpLate_ready (rs := [16]) (by kernel_rfl) (by simp) ?_
              refine AllLate.cons (i := 16) rfl (fun K hK => ?_) AllLate.nil
              apply step_fill2 (s := .tmp 72) (x := .tmp 74) (u := .slice (some ⟨pb + 1, 0, none⟩) m m)
              · rfl
              · rfl
              · exact st
              · rfl
              · rfl
              · exact heap_newN _ _ _ (by simp)
              · rfl
              · omega
              intro g8 c8 w8 st keep8 zz8
              have hS := hS.grow st keep8 (by decide)
              refine hK _ _ (fun _ _ => hS) ?_
              clear hK K
              refine wpLate_takeP (i := 17) (v := .pointer (some ⟨cb, 0, none⟩)) rfl (by kernel_rfl) (by kernel_rfl) (by kernel_rfl) (fun _ _ _ h => h) (Or.inl ⟨by rfl, fun _ _ => by go_simp⟩) ?_
              refine wpLate_takeP (i := 18) (v := .pointer (some ⟨cb, 0, none⟩)) rfl (by kernel_rfl) (by kernel_rfl) (by kernel_rfl) (fun _ _ _ h => h) (Or.inl ⟨by rfl, fun _ _ => by go_simp⟩) ?_
              obtain ⟨y0, y2, z0, z2, ycl⟩ := st.cells
              refine wpLate_ready (rs := [19]) (by kernel_rfl) (by simp) ?_
              refine AllLate.cons (i := 19) rfl (fun K hK => ?_) AllLate.nil
              go_simp
              refine hK _ _ (fun h => by cases h) ?_
              clear hK K
              have st := st.set0 (.slice (some ⟨g7, 0, none⟩) (k + 1) c7)
              refine wpLate_takeP (i := 20) (v := .pointer (some ⟨cb, 0, none⟩)) rfl (by kernel_rfl) (by kernel_rfl) (by kernel_rfl) (fun _ _ _ h => h) (Or.inl ⟨by rfl, fun _ _ => by go_simp⟩) ?_
              refine wpLate_takeP (i := 21) (v := .pointer (some ⟨cb, 2, none⟩)) rfl (by kernel_rfl) (by kernel_rfl) (by kernel_rfl) (fun _ _ _ h => h) (Or.inl ⟨by rfl, fun _ _ => by go_simp⟩) ?_
              obtain ⟨y0, y2, z0, z2, ycl⟩ := st.cells
              refine wpLate_ready (rs := [22]) (by kernel_rfl) (by simp) ?_
              refine AllLate.cons (i := 22) rfl (fun K hK => ?_) AllLate.nil
              go_simp
              refine hK _ _ (fun h => by cases h) ?_
              clear hK K
              have st := st.set2 (.slice (some ⟨g8, 0, none⟩) (k + 1) c8)
              refine wpLate_done (by kernel_rfl) ?_ _
              have HST := Lib.hid st
              clear st
              go_wp2_with fail
              go_roundg (gq - 1)
              case measure => omega
              case rel => exact HEND.out _ _ _ HST.out
            · go_simp
              have hS := hS.alloc (.cells #[.slice (some ⟨pb + 1, 0, none⟩) m m] 151)
              have st := (st).alloc (.cells #[.slice (some ⟨pb + 1, 0, none⟩) m m] 151)
              refine hK _ _ (fun _ _ => hS) ?_
              clear hK K
              refine wpLate_ready (rs := [9]) (by kernel_rfl) (by simp) ?_
              refine AllLate.cons (i := 9) rfl (fun K hK => ?_) AllLate.nil
              apply step_fill0 (s := .tmp 64) (x := .tmp 67) (key := key)
              · rfl
              · rfl
              · exact st
              · rfl
              · rfl
              · exact (Below.heap_alloc _ _ _ (block_lt (heap_newN _ _ _ (by simp)))).trans (heap_newN _ _ _ (by simp))
              · omega
              intro g7 c7 w7 st keep7 zz7
              have hS := hS.grow st keep7 (by decide)
              refine hK _ _ (fun _ _ => hS) ?_
              clear hK K
              refine wpLate_ready (rs := [16]) (by kernel_rfl) (by simp) ?_
              refine AllLate.cons (i := 16) rfl (fun K hK => ?_) AllLate.nil
              apply step_fill2 (s := .tmp 72) (x := .tmp 74) (u := .slice (some ⟨pb + 1, 0, none⟩) m m)
              · rfl
              · rfl
              · exact st
              · rfl
              · rfl
              · exact keep7 _ _ _ _ (heap_newN _ _ _ (by simp)) (by decide)
              · rfl
              · omega
              intro g8 c8 w8 st keep8 zz8
              have hS := hS.grow st keep8 (by decide)
              refine hK _ _ (fun _ _ => hS) ?_
              clear hK K
              refine wpLate_takeP (i := 17) (v := .pointer (some ⟨cb, 0, none⟩)) rfl (by kernel_rfl) (by kernel_rfl) (by kernel_rfl) (fun _ _ _ h => h) (Or.inl ⟨by rfl, fun _ _ => by go_simp⟩) ?_
              refine wpLate_takeP (i := 18) (v := .pointer (some ⟨cb, 0, none⟩)) rfl (by kernel_rfl) (by kernel_rfl) (by kernel_rfl) (fun _ _ _ h => h) (Or.inl ⟨by rfl, fun _ _ => by go_simp⟩) ?_
              obtain ⟨y0, y2, z0, z2, ycl⟩ := st.cells
              refine wpLate_ready (rs := [19]) (by kernel_rfl) (by simp) ?_
              refine AllLate.cons (i := 19) rfl (fun K hK => ?_) AllLate.nil
              go_simp
              refine hK _ _ (fun h => by cases h) ?_
              clear hK K
              have st := st.set0 (.slice (some ⟨g7, 0, none⟩) (k + 1) c7)
              refine wpLate_takeP (i := 20) (v := .pointer (some ⟨cb, 0, none⟩)) rfl (by kernel_rfl) (by kernel_rfl) (by kernel_rfl) (fun _ _ _ h => h) (Or.inl ⟨by rfl, fun _ _ => by go_simp⟩) ?_
              refine wpLate_takeP (i := 21) (v := .pointer (some ⟨cb, 2, none⟩)) rfl (by kernel_rfl) (by kernel_rfl) (by kernel_rfl) (fun _ _ _ h => h) (Or.inl ⟨by rfl, fun _ _ => by go_simp⟩) ?_
              obtain ⟨y0, y2, z0, z2, ycl⟩ := st.cells
              refine wpLate_ready (rs := [22]) (by kernel_rfl) (by simp) ?_
              refine AllLate.cons (i := 22) rfl (fun K hK => ?_) AllLate.nil
              go_simp
              refine hK _ _ (fun h => by cases h) ?_
              clear hK K
              have st := st.set2 (.slice (some ⟨g8, 0, none⟩) (k + 1) c8)
              refine wpLate_done (by kernel_rfl) ?_ _
              have HST := Lib.hid st
              clear st
              go_wp2_with fail
              go_roundg (gq - 1)
              case measure => omega
              case rel => exact HEND.out _ _ _ HST.out
          · go_simp
            have hS := hS.alloc (.cells #[.slice (some ⟨pb + 1, 0, none⟩) m m] 151)
            have st := (st0).alloc (.cells #[.slice (some ⟨pb + 1, 0, none⟩) m m] 151)
            refine hK _ _ (fun _ _ => hS) ?_
            clear hK K
            refine wpLate_ready (rs := [8]) (by kernel_rfl) (by simp) ?_
            refine AllLate.cons (i := 8) rfl (fun K hK => ?_) AllLate.nil
            go_simp
            have hS := hS.alloc (.cells #[.string key] 9)
            have st := (st).alloc (.cells #[.string key] 9)
            refine hK _ _ (fun _ _ => hS) ?_
            clear hK K
            refine wpLate_ready (rs := [9]) (by kernel_rfl) (by simp) ?_
            refine AllLate.cons (i := 9) rfl (fun K hK => ?_) AllLate.nil
            apply step_fill0 (s := .tmp 64) (x := .tmp 67) (key := key)
            · rfl
            · rfl
            · exact st
            · rfl
            · rfl
            · exact heap_newN _ _ _ (by simp)
            · omega
            intro g7 c7 w7 st keep7 zz7
            have hS := hS.grow st keep7 (by decide)
            refine hK _ _ (fun _ _ => hS) ?_
            clear hK K
            refine wpLate_ready (rs := [16]) (by kernel_rfl) (by simp) ?_
            refine AllLate.cons (i := 16) rfl (fun K hK => ?_) AllLate.nil
            apply step_fill2 (s := .tmp 72) (x := .tmp 74) (u := .slice (some ⟨pb + 1, 0, none⟩) m m)
            · rfl
            · rfl
            · exact st
            · rfl
            · rfl
            · exact keep7 _ _ _ _ ((Below.heap_alloc _ _ _ (block_lt (heap_newN _ _ _ (by simp)))).trans (heap_newN _ _ _ (by simp))) (by decide)
            · rfl
            · omega
            intro g8 c8 w8 st keep8 zz8
            have hS := hS.grow st keep8 (by decide)
            refine hK _ _ (fun _ _ => hS) ?_
            clear hK K
            refine wpLate_takeP (i := 17) (v := .pointer (some ⟨cb, 0, none⟩)) rfl (by kernel_rfl) (by kernel_rfl) (by kernel_rfl) (fun _ _ _ h => h) (Or.inl ⟨by rfl, fun _ _ => by go_simp⟩) ?_
            refine wpLate_takeP (i := 18) (v := .pointer (some ⟨cb, 0, none⟩)) rfl (by kernel_rfl) (by kernel_rfl) (by kernel_rfl) (fun _ _ _ h => h) (Or.inl ⟨by rfl, fun _ _ => by go_simp⟩) ?_
            obtain ⟨y0, y2, z0, z2, ycl⟩ := st.cells
            refine wpLate_ready (rs := [19]) (by kernel_rfl) (by simp) ?_
            refine AllLate.cons (i := 19) rfl (fun K hK => ?_) AllLate.nil
            go_simp
            refine hK _ _ (fun h => by cases h) ?_
            clear hK K
            have st := st.set0 (.slice (some ⟨g7, 0, none⟩) (k + 1) c7)
            refine wpLate_takeP (i := 20) (v := .pointer (some ⟨cb, 0, none⟩)) rfl (by kernel_rfl) (by kernel_rfl) (by kernel_rfl) (fun _ _ _ h => h) (Or.inl ⟨by rfl, fun _ _ => by go_simp⟩) ?_
            refine wpLate_takeP (i := 21) (v := .pointer (some ⟨cb, 2, none⟩)) rfl (by kernel_rfl) (by kernel_rfl) (by kernel_rfl) (fun _ _ _ h => h) (Or.inl ⟨by rfl, fun _ _ => by go_simp⟩) ?_
            obtain ⟨y0, y2, z0, z2, ycl⟩ := st.cells
            refine wpLate_ready (rs := [22]) (by kernel_rfl) (by simp) ?_
            refine AllLate.cons (i := 22) rfl (fun K hK => ?_) AllLate.nil
            go_simp
            refine hK _ _ (fun h => by cases h) ?_
            clear hK K
            have st := st.set2 (.slice (some ⟨g8, 0, none⟩) (k + 1) c8)
            refine wpLate_done (by kernel_rfl) ?_ _
            have HST := Lib.hid st
            clear st
            go_wp2_with fail
            go_roundg (gq - 1)
            case measure => omega
            case rel => exact HEND.out _ _ _ HST.out
    · obtain rfl : k = ps.length := by omega
      clear hk hg hmk
      obtain ⟨HA, hc, rfl⟩ : ∃ A c, hv = .slice A ps.length c := by
        rcases hF.ho.2 with ⟨rfl, h0⟩ | ⟨g, cap, cur, rfl, _⟩
        · exact ⟨none, 0, by rw [h0]⟩
        · exact ⟨_, cap, rfl⟩
      have HC0 : Hid (CrowdIs wr cb w0.heap.size ps.length m (keysOf ps) (nearM ps ne ne.length) (hasM ps) kv (.slice NA ps.length nc) (.slice HA ps.length hc) (.slice none 0 0) (.slice none 0 0) gN gs w1) :=
        Lib.hid ⟨hF.cr, by have := hF.ko; rw [List.take_length] at this; rw [keysOf, List.map_map]; exact this, by simp [keysOf], HMN.out, by rw [HCB.out]; exact HB1.out.size, by rw [HCB.out]; exact Nat.le_refl _, fun x hx => hF.bel.block x (by rw [HCB.out]; exact hx),
          ⟨hF.ho, fun i hi _ => hF.row i hi, fun i hi _ => hge i hi, fun i j hi hj _ _ he => hinj i j hi hj he⟩⟩
      have HBC := Lib.hid hF.bel
      clear hF hge hinj
      go_wp2_with fail
      go_loopg [18, 19, 20] (ps.length * m) (fun g ov nov _ wr => SrRel w1 w0 cb ps.length m ps (nearM ps ne ne.length) (hasM ps) kv (.slice NA ps.length nc) (.slice HA ps.length hc) gN gs g ov nov wr)
      case atStart => exact ⟨1, hasM ps, [], _, _, rfl, Going.start _ _ _ _, World.ownsRow_nil _ _ _ _, HC0.out, HBC.out⟩
      case round =>
        clear HC0 HBC
        obtain ⟨no, H, acc, cv, rv, rfl, hgo, hown, hC, hb⟩ := hrel
        have hnm : ps.length * m ≤ 720 := Nat.mul_le_mul hn hm
        have hno : no ≤ 721 := by have := hgo.no_; omega
        have hcl := block_lt hC.cr
        have HR := Lib.hid (round_any cb w0.heap.size ps.length m no (keysOf ps) (nearM ps ne ne.length) H kv (.slice NA ps.length nc) (.slice HA ps.length hc) cv rv gN gs w1 wr hn hm (by omega) hC)
        have HGO := Lib.hid hgo
        have HOW := Lib.hid hown
        have HB := Lib.hid hb
        have HCC := Lib.hid hC
        clear hgo hown hb hC
        go_wp2_with fail
        refine HR.out.mono ?_
        rintro e w5 ⟨v, cv5, rv5, rfl, hv5, hC5, hF5⟩
        have hS5 : ∀ x cur t z, wr.heap[x]? = some (.cells cur t z) → t ≠ 150 → t ≠ 4 → ¬ (x = cb ∨ ∃ i, i < ps.length ∧ x = gs i) := by
          rintro x cur t z hx h1 h2 (rfl | ⟨i, hi, rfl⟩)
          · exact tag_ne hx HCC.out.cr h1 rfl
          · exact tag_ne hx (HCC.out.hs.row i hi hi) h2 rfl
        have hOW5 := hF5.own HOW.out (fun x cur z hx => hS5 x cur _ z hx (by decide) (by decide))
        have hB5 : Below cb w1 w5 := hF5.below HB.out (Nat.le_of_lt hcl) (by
          rintro x (rfl | ⟨i, hi, rfl⟩)
          · exact Nat.le_refl _
          · have := HCC.out.hs.ge i hi hi; omega)
        have hgl := (gifts_ok ps.length m (nearM ps ne ne.length) H).2
        have hacc : acc.length ≤ 9000 := by
          have h1 := HGO.out.len
          have h2 : ps.length * (no - 1) ≤ 12 * 720 := Nat.mul_le_mul hn (by omega)
          omega
        have HDN := Lib.hid (fun h => HGO.out.done h)
        have HNX := Lib.hid (fun h => HGO.out.next h)
        generalize gifts ps.length m (nearM ps ne ne.length) H = gl at *
        clear hS5 hF5 HOW HR HCC HGO HB hcl
        have HC5 := Lib.hid hC5
        have HB5 := Lib.hid hB5
        have HOW5 := Lib.hid hOW5
        have HV5 := Lib.hid hv5
        rcases List.eq_nil_or_concat gl with rfl | ⟨gl', x, e⟩
        · obtain ⟨d1, d2⟩ := HDN.out rfl
          have HD1 := Lib.hid d1
          have HD2 := Lib.hid d2
          obtain ⟨VA, vc, rfl⟩ : ∃ A c, v = .slice A 0 c := by
            rcases hv5.2 with ⟨rfl, _⟩ | ⟨g, cap, cur, rfl, _⟩
            · exact ⟨none, 0, rfl⟩
            · exact ⟨_, cap, rfl⟩
          obtain ⟨_, _, k2, _⟩ := crB_cells hC5.cr
          have HCT := Lib.hid (containsR_any 93 ps.length m hc (cb + 1) HA H gs w5 (by omega) hC5.hs (fun i hi => lacks_one (gs i) m (H i) w5 (by omega) (hC5.hs.row i hi hi)) (fun _ _ => rfl))
          have HBE := Lib.hid (show Below w.heap.size w w5 from HBW.out.trans (hB5.mono (by rw [HCB.out]; exact HBW.out.size)))
          have HOE := Lib.hid (ownsRow_base hOW5 (show w.heap.size ≤ cb + 1 by have := HBW.out.size; have := HCB.out; omega))
          clear d1 d2 hv5 hC5 hB5 hOW5 HDN HNX
          go_wp2_with fail
          refine HCT.out.mono ?_
          rintro e w9 ⟨rfl, rfl⟩
          go_wp2_with fail
          go_ret3
          exact ⟨u18, by simp only [spreadB]; rw [← HD2.out]; simp, by simp only [spreadG]; rw [← HD1.out]; exact HOE.out, HBE.out⟩
        · obtain ⟨hg0, hgn⟩ := HNX.out (by rw [e]; simp)
          have HGN := Lib.hid hgn
          have hpos : 0 < gl.length := by rw [e]; simp
          have hg12 : gl.length ≤ 12 := by omega
          obtain ⟨vg, vc, rfl, hvb, hvl⟩ := hv5.form hpos
          have hpI : ((gl.length : Int) == 0) = false := by rw [beq_eq_false_iff_ne]; omega
          have hncc := own_cells hv5
          have h1 : ∀ u ∈ (noted no gl).flatMap (giC (keysOf ps)), u.oneCell' = true := by
            intro u hu
            obtain ⟨t, _, ht⟩ := List.mem_flatMap.1 hu
            exact List.all_eq_true.1 (show (giC (keysOf ps) t).all (·.oneCell') = true from rfl) u ht
          have hl : ((noted no gl).flatMap (giC (keysOf ps))).length = gl.length * 4 := by rw [flatK_len (enc := giC (keysOf ps)) (k := 4) (fun _ => rfl)]; simp [noted]
          have HNC := Lib.hid hncc
          have H1 := Lib.hid h1
          have HL := Lib.hid hl
          have hcb5 : cb + 1 ≤ w5.heap.size := block_lt hC5.cr
          clear hgn e hv5 hC5 hB5 hncc h1 hl HDN HNX
          go_wp2_with (at_builtin; refine wpList_append_own _ rfl _ _ 66 rfl (cb + 1) 74 i0 _ 4 48 Tryz.underlying66 ii iz0 iz1 iz2 rfl (by decide) _ _ _ rfl hOW5 ⟨vg, 0, none⟩ gl.length vc ((noted no gl).flatMap (giC (keysOf ps))) rfl HL.out HNC.out H1.out (by unfold maxLen; omega) (by omega) hcb5 ?_)
          intro v6 w6 ho6 hg6 _
          have HC6 := Lib.hid (HC5.out.grow (base := cb) HOW5.out hg6 rfl)
          have HB6 := Lib.hid (HB5.out.grown hg6 (by omega) (fun x hx => by have := (own_ge HOW5.out hx).1; omega))
          have HO6 := Lib.hid (show w6.ownsRow (cb + 1) 74 4 v6 (acc ++ noted no gl).length ((acc ++ noted no gl).flatMap (giC (keysOf ps))) by rw [List.flatMap_append, List.length_append]; simpa [noted] using ho6)
          clear ho6 hg6 hOW5
          go_wp2_with fail
          go_roundg (gk - 1)
          case measure => omega
          case rel => exact ⟨no + 1, _, _, _, _, by go_num, HGN.out, HO6.out, HC6.out, HB6.out⟩
open Go.Sort
theorem giveTo_ok (N H : Nat → Nat → Bool) (cn : Nat → Int) (gave : Nat → Bool) (i p : Nat) : ∀ k, 0 ≤ giveTo N H cn gave i p k → gave (giveTo N H cn gave i p k).toNat = false ∧ H (giveTo N H cn gave i p k).toNat p = true
  | 0 => fun h => absurd h (show ¬ (0 : Int) ≤ -1 by decide)
  | k + 1 => fun h => by
    rw [giveTo] at h ⊢
    split
    · rename_i hc
      simp only [Bool.and_eq_true, Bool.not_eq_true'] at hc
      exact ⟨by simpa using hc.1.1.2, by simpa using hc.1.2⟩
    · rename_i hc
      rw [if_neg hc] at h
      exact giveTo_ok N H cn gave i p k h
theorem takeTo_ok (n : Nat) (N H : Nat → Nat → Bool) (cn ra : Nat → Int) (gave : Nat → Bool) (i : Nat) : ∀ p, 0 ≤ (takeTo n N H cn ra gave i p).1 →
    gave (takeTo n N H cn ra gave i p).2.toNat = false ∧ H (takeTo n N H cn ra gave i p).2.toNat (takeTo n N H cn ra gave i p).1.toNat = true
  | 0 => fun h => absurd h (show ¬ (0 : Int) ≤ -1 by decide)
  | p + 1 => by
    intro h
    have ih := takeTo_ok n N H cn ra gave i p
    rw [takeTo] at h ⊢
    split
    · rename_i hc
      rw [if_pos hc] at h
      exact ih h
    · rename_i hc
      rw [if_neg hc] at h
      split
      · rename_i hg
        have := giveTo_ok N H cn gave i p n hg
        simpa using this
      · rename_i hg
        rw [if_neg hg] at h
        exact ih h
structure RdOk (n m : Nat) (H : Nat → Nat → Bool) (l : List Gift) : Prop where
  ok : ∀ g ∈ l, GiftOk n m H g ∧ H g.2.1 g.2.2 = true
  froms : (l.map fun g => g.2.1).Nodup
  tos : (l.map fun g => g.1).Nodup
theorem foldR_good (n m : Nat) (N H : Nat → Nat → Bool) : ∀ (l : List Nat) (s : (Nat → Bool) × List Gift), l.Nodup → (∀ x ∈ l, x < n) → (∀ x ∈ l, ∀ g ∈ s.2, g.1 ≠ x) → RdOk n m H s.2 → (∀ g ∈ s.2, s.1 g.2.1 = true) →
    RdOk n m H (l.foldl (stepR n m N H) s).2
  | [], s, _, _, _, h, _ => h
  | i :: r, s, hn, hl, hd, h, hs => by
    have hi : i < n := hl i (by simp)
    obtain ⟨n1, n2⟩ := List.nodup_cons.1 hn
    rw [List.foldl_cons]
    have key : RdOk n m H (stepR n m N H s i).2 ∧ (∀ g ∈ (stepR n m N H s i).2, (stepR n m N H s i).1 g.2.1 = true) ∧ (∀ x ∈ r, ∀ g ∈ (stepR n m N H s i).2, g.1 ≠ x) := by
      rw [stepR]
      split
      · rename_i h0
        obtain ⟨h1, h2, h3, h4⟩ := takeTo_spec n N H (cnF m H) (raF n H) s.1 i m h0
        obtain ⟨k1, k2⟩ := takeTo_ok n N H (cnF m H) (raF n H) s.1 i m h0
        generalize takeTo n N H (cnF m H) (raF n H) s.1 i m = t at *
        refine ⟨⟨fun g hg => ?_, ?_, ?_⟩, fun g hg => ?_, fun x hx g hg => ?_⟩
        · rcases List.mem_append.1 hg with hg | hg
          · exact h.ok g hg
          · simp only [List.mem_singleton] at hg
            subst hg
            exact ⟨⟨hi, by show t.2.toNat < n; omega, by show t.1.toNat < m; omega, h1⟩, k2⟩
        · rw [List.map_append, List.nodup_append]
          refine ⟨h.froms, by simp, fun a ha b hb => ?_⟩
          simp only [List.map_cons, List.map_nil, List.mem_singleton] at hb
          obtain ⟨g, hg, rfl⟩ := List.mem_map.1 ha
          subst hb
          intro e
          have e1 := hs g hg
          rw [e, k1] at e1; cases e1
        · rw [List.map_append, List.nodup_append]
          refine ⟨h.tos, by simp, fun a ha b hb => ?_⟩
          simp only [List.map_cons, List.map_nil, List.mem_singleton] at hb
          obtain ⟨g, hg, rfl⟩ := List.mem_map.1 ha
          subst hb
          exact hd _ (by simp) g hg
        · rcases List.mem_append.1 hg with hg | hg
          · show setBP s.1 t.2.toNat g.2.1 = true
            unfold setBP
            split
            · rfl
            · exact hs g hg
          · simp only [List.mem_singleton] at hg
            subst hg
            show setBP s.1 t.2.toNat t.2.toNat = true
            simp [setBP]
        · rcases List.mem_append.1 hg with hg | hg
          · exact hd x (by simp [hx]) g hg
          · simp only [List.mem_singleton] at hg
            subst hg
            intro e
            have e2 : i = x := e
            exact n1 (by rw [e2]; exact hx)
      · exact ⟨h, hs, fun x hx g hg => hd x (by simp [hx]) g hg⟩
    exact foldR_good n m N H r _ n2 (fun x hx => hl x (by simp [hx])) key.2.2 key.1 key.2.1
theorem ltOf_swo (cn : Nat → Int) (k : Nat) : SWO (ltOf fun a b : Fin (k + 1) => Lib.compareInt (cn a.val) (cn b.val)) := by
  have key : ∀ a b : Fin (k + 1), ltOf (fun a b : Fin (k + 1) => Lib.compareInt (cn a.val) (cn b.val)) a b = decide (cn a.val < cn b.val) := fun a b => by
    show decide (Lib.compareInt (cn a.val) (cn b.val) < 0) = _
    unfold Lib.compareInt
    by_cases h : cn a.val < cn b.val
    · simp [h]
    · rw [if_neg h]
      split <;> simp [h]
  refine ⟨fun x => ?_, fun x y z h1 h2 => ?_, fun x y z h1 h2 => ?_⟩
  · rw [key]; simp
  · rw [key] at *; simp only [decide_eq_true_eq] at *; omega
  · rw [key] at *; simp only [decide_eq_false_iff_not] at *; omega
theorem ordF_nodup (n : Nat) (cn : Nat → Int) : (ordF n cn).Nodup := by
  cases n with
  | zero => exact List.nodup_nil
  | succ k =>
    have h := (insertionSort_holds (lt := ltOf fun a b : Fin (k + 1) => Lib.compareInt (cn a.val) (cn b.val)) (ltOf_swo cn k) (finA k) 0 (k + 1) (by omega) (by rw [finA_size]; exact Nat.le_refl _)).1
    have e3 : ∀ (d : Array (Fin (k + 1))) (n : Nat), d.size = n → d.extract 0 n = d := fun d n h => by subst h; exact Array.extract_size
    have h2 := h.2.2
    rw [e3 _ _ (by rw [h.1, finA_size]), e3 _ _ (finA_size k)] at h2
    have h3 : (ordFin k cn).toList.Nodup := (h2.nodup_iff).2 (by simp only [finA]; exact List.nodup_finRange _)
    show ((ordFin k cn).toList.map Fin.val).Nodup
    exact List.Pairwise.map Fin.val (fun a b hab e => hab (Fin.ext e)) h3
theorem gifts_good (n m : Nat) (N H : Nat → Nat → Bool) : RdOk n m H (gifts n m N H) :=
  foldR_good n m N H _ _ (ordF_nodup n _) (ordF_lt n _) (fun _ _ g hg => by cases hg) ⟨fun g hg => (by cases hg), List.nodup_nil, List.nodup_nil⟩ (fun g hg => by cases hg)
structure HasR (n m : Nat) (L : Nat → List Int) (H : Nat → Nat → Bool) : Prop where
  nodup : ∀ a, a < n → (L a).Nodup
  rng : ∀ a, a < n → ∀ z ∈ L a, 0 ≤ z ∧ z < (m : Int)
  mem : ∀ a, a < n → ∀ p, p < m → ((p : Int) ∈ L a ↔ H a p = true)
def addL (L : Nat → List Int) (g : Gift) : Nat → List Int := fun a => if a = g.1 then L a ++ [(g.2.2 : Int)] else L a
def addsL (L : Nat → List Int) (l : List Gift) : Nat → List Int := l.foldl addL L
theorem addsL_take (L : Nat → List Int) (l : List Gift) {k : Nat} (h : k < l.length) : addsL L (l.take (k + 1)) = addL (addsL L (l.take k)) l[k] := by
  rw [List.take_succ_eq_append_getElem h]
  simp only [addsL, List.foldl_append, List.foldl_cons, List.foldl_nil]
theorem HasR.add {n m : Nat} {L : Nat → List Int} {H : Nat → Nat → Bool} (h : HasR n m L H) {g : Gift} (hg : GiftOk n m H g) : HasR n m (addL L g) (updB H g.1 g.2.2 true) := by
  obtain ⟨g1, g2, g3, g4⟩ := hg
  have hno : ((g.2.2 : Nat) : Int) ∉ L g.1 := fun hh => by
    have := (h.mem g.1 g1 g.2.2 g3).1 hh
    rw [g4] at this; cases this
  refine ⟨fun a ha => ?_, fun a ha z hz => ?_, fun a ha p hp => ?_⟩
  · unfold addL
    split
    · rename_i e
      subst e
      rw [List.nodup_append]
      refine ⟨h.nodup _ ha, by simp, fun x hx y hy => ?_⟩
      simp only [List.mem_singleton] at hy
      subst hy
      intro e
      exact hno (by rw [← e]; exact hx)
    · exact h.nodup a ha
  · unfold addL at hz
    split at hz
    · rcases List.mem_append.1 hz with hz | hz
      · exact h.rng a ha z hz
      · simp only [List.mem_singleton] at hz; subst hz; omega
    · exact h.rng a ha z hz
  · unfold addL updB
    by_cases e : a = g.1
    · subst e
      rw [if_pos rfl, List.mem_append, h.mem _ ha p hp]
      simp only [List.mem_singleton, true_and]
      by_cases e2 : p = g.2.2
      · subst e2; simp
      · rw [if_neg e2]
        constructor
        · rintro (h1 | h1)
          · exact h1
          · exact absurd (by omega) e2
        · exact .inl
    · rw [if_neg e, if_neg (fun h => e h.1)]
      exact h.mem a ha p hp
theorem HasR.adds {n m : Nat} : ∀ (l : List Gift) {L : Nat → List Int} {H : Nat → Nat → Bool}, HasR n m L H → (∀ g ∈ l, GiftOk n m H g) → (l.map fun g => g.1).Nodup → HasR n m (addsL L l) (applyG H l)
  | [], _, _, h, _, _ => h
  | g :: r, L, H, h, hok, hn => by
    simp only [List.map_cons] at hn
    obtain ⟨n1, n2⟩ := List.nodup_cons.1 hn
    refine HasR.adds r (h.add (hok g (by simp))) (fun x hx => ?_) n2
    obtain ⟨h1, h2, h3, h4⟩ := hok x (by simp [hx])
    refine ⟨h1, h2, h3, ?_⟩
    show updB H g.1 g.2.2 true x.1 x.2.2 = false
    unfold updB
    rw [if_neg (fun e => n1 (List.mem_map.2 ⟨x, hx, e.1⟩))]
    exact h4
structure Stand (n m : Nat) (N : Nat → Nat → Bool) (G : List GiveN) (HE : Nat → Nat → Bool) (j no : Nat) (l : List Gift) (i : Nat) (H : Nat → Nat → Bool) (L : Nat → List Int) : Prop where
  has : HasR n m L H
  good : RdOk n m H l
  le : i ≤ l.length
  rest : ∃ f, G.drop j = noted no (l.drop i) ++ (spreadF n m N f (no + 1) (applyG H l)).1 ∧ (spreadF n m N f (no + 1) (applyG H l)).2 = HE ∧ fals m (applyG H l) n ≤ f
theorem Stand.start (n m : Nat) (N H0 : Nat → Nat → Bool) {L : Nat → List Int} (h : HasR n m L H0) : Stand n m N (spreadF n m N (n * m) 1 H0).1 (spreadF n m N (n * m) 1 H0).2 0 0 [] 0 H0 L :=
  ⟨h, ⟨fun g hg => (by cases hg), List.nodup_nil, List.nodup_nil⟩, Nat.le_refl _, n * m, rfl, rfl, fals_le m H0 n⟩
theorem Stand.next {n m : Nat} {N HE : Nat → Nat → Bool} {G : List GiveN} {j no i : Nat} {l : List Gift} {H : Nat → Nat → Bool} {L : Nat → List Int} (h : Stand n m N G HE j no l i H L) (hj : j < G.length) :
    (∃ hi : i < l.length, G[j] = (no, l[i]) ∧ Stand n m N G HE (j + 1) no l (i + 1) H L) ∨
    (i = l.length ∧ ∃ (l' : List Gift) (h0 : 0 < l'.length), G[j] = (no + 1, l'[0]) ∧ Stand n m N G HE (j + 1) (no + 1) l' 1 (applyG H l) (addsL L l) ∧ Stand n m N G HE j (no + 1) l' 0 (applyG H l) (addsL L l)) := by
  obtain ⟨f, e, e2, hf⟩ := h.rest
  rw [List.drop_eq_getElem_cons hj] at e
  by_cases hi : i < l.length
  · left
    rw [List.drop_eq_getElem_cons hi] at e
    simp only [noted, List.map_cons, List.cons_append, List.cons.injEq] at e
    exact ⟨hi, e.1, h.has, h.good, hi, f, e.2, e2, hf⟩
  · right
    have hil : i = l.length := by have := h.le; omega
    refine ⟨hil, ?_⟩
    subst hil
    have hne : gifts n m N (applyG H l) ≠ [] := fun hg => by
      rw [spreadF_end n m N _ f _ hg] at e
      simp [noted] at e
      omega
    have hl := fals_round n m N (applyG H l) hne
    obtain ⟨f', rfl⟩ : ∃ f', f = f' + 1 := ⟨f - 1, by omega⟩
    rw [spreadF, if_neg hne] at e e2
    have h0 := List.length_pos_iff.2 hne
    have hg := gifts_good n m N (applyG H l)
    have hhas : HasR n m (addsL L l) (applyG H l) := HasR.adds l h.has (fun g hg => (h.good.ok g hg).1) h.good.tos
    have e3 : G[j] :: G.drop (j + 1) = noted (no + 1) (gifts n m N (applyG H l)) ++ (spreadF n m N f' (no + 1 + 1) (applyG (applyG H l) (gifts n m N (applyG H l)))).1 := by
      rw [e]; simp [noted]
    have e0 : gifts n m N (applyG H l) = (gifts n m N (applyG H l))[0] :: (gifts n m N (applyG H l)).drop 1 := by
      have := List.drop_eq_getElem_cons h0
      rwa [List.drop_zero] at this
    have st0 : Stand n m N G HE j (no + 1) (gifts n m N (applyG H l)) 0 (applyG H l) (addsL L l) :=
      ⟨hhas, hg, Nat.zero_le _, f', by rw [List.drop_eq_getElem_cons hj, List.drop_zero]; exact e3, e2, by omega⟩
    have e4 : noted (no + 1) (gifts n m N (applyG H l)) = (no + 1, (gifts n m N (applyG H l))[0]) :: noted (no + 1) ((gifts n m N (applyG H l)).drop 1) := by
      conv => lhs; rw [e0]
      rfl
    rw [e4, List.cons_append, List.cons.injEq] at e3
    exact ⟨_, h0, e3.1, ⟨hhas, hg, h0, f', e3.2, e2, by omega⟩, st0⟩
theorem Stand.done {n m : Nat} {N HE : Nat → Nat → Bool} {G : List GiveN} {j no i : Nat} {l : List Gift} {H : Nat → Nat → Bool} {L : Nat → List Int} (h : Stand n m N G HE j no l i H L) (hj : j = G.length) : i = l.length ∧ HasR n m (addsL L l) HE := by
  obtain ⟨f, e, e2, hf⟩ := h.rest
  subst hj
  rw [List.drop_length] at e
  have e1 := List.append_eq_nil_iff.1 e.symm
  have hi : i = l.length := by
    have := h.le
    rcases Nat.lt_or_ge i l.length with h1 | h1
    · rw [List.drop_eq_getElem_cons h1] at e1
      have := e1.1
      simp only [noted, List.map_cons] at this
      cases this
    · omega
  refine ⟨hi, ?_⟩
  have hhas : HasR n m (addsL L l) (applyG H l) := HasR.adds l h.has (fun g hg => (h.good.ok g hg).1) h.good.tos
  have : applyG H l = HE := by
    have hg : gifts n m N (applyG H l) = [] := by
      cases f with
      | zero =>
        by_cases hne : gifts n m N (applyG H l) = []
        · exact hne
        · have := fals_round n m N (applyG H l) hne; omega
      | succ f =>
        by_cases hne : gifts n m N (applyG H l) = []
        · exact hne
        · have e3 := e1.2
          rw [spreadF, if_neg hne] at e3
          have := (List.append_eq_nil_iff.1 e3).1
          simp [noted] at this
          exact this
    rw [spreadF_end n m N _ f _ hg] at e2
    exact e2
  rw [← this]; exact hhas
theorem Stand.look {n m : Nat} {N HE : Nat → Nat → Bool} {G : List GiveN} {j no i : Nat} {l : List Gift} {H : Nat → Nat → Bool} {L : Nat → List Int} (h : Stand n m N G HE j no l i H L) (hi : i < l.length) :
    (l[i].1 < n ∧ l[i].2.1 < n ∧ l[i].2.2 < m) ∧ (∀ k (hk : k < i), (l[k]'(by omega)).2.1 ≠ l[i].2.1 ∧ (l[k]'(by omega)).1 ≠ l[i].1) ∧ ((l[i].2.2 : Nat) : Int) ∈ L l[i].2.1 ∧ ((l[i].2.2 : Nat) : Int) ∉ L l[i].1 := by
  obtain ⟨⟨h1, h2, h3, h4⟩, h5⟩ := h.good.ok _ (List.getElem_mem hi)
  refine ⟨⟨h1, h2, h3⟩, fun k hk => ⟨fun e => ?_, fun e => ?_⟩, (h.has.mem _ h2 _ h3).2 h5, fun hh => ?_⟩
  · have := List.pairwise_iff_getElem.1 h.good.froms k i (by simp; omega) (by simpa using hi) hk
    simp only [List.getElem_map] at this
    exact this e
  · have := List.pairwise_iff_getElem.1 h.good.tos k i (by simp; omega) (by simpa using hi) hk
    simp only [List.getElem_map] at this
    exact this e
  · have := (h.has.mem _ h1 _ h3).1 hh
    rw [h4] at this; cases this
theorem rd_len {n m : Nat} {H : Nat → Nat → Bool} {l : List Gift} (h : RdOk n m H l) : l.length ≤ n := by
  have hp : (l.map fun g => g.1).Perm ((List.range n).filter fun a => decide (a ∈ l.map fun g => g.1)) := (List.perm_ext_iff_of_nodup h.tos (List.nodup_range.filter _)).2 fun z => by
    simp only [List.mem_filter, List.mem_range, decide_eq_true_eq]
    constructor
    · intro hz
      obtain ⟨g, hg, rfl⟩ := List.mem_map.1 hz
      exact ⟨(h.ok g hg).1.1, List.mem_map.2 ⟨g, hg, rfl⟩⟩
    · exact fun h => h.2
  have h1 := hp.length_eq
  rw [List.length_map] at h1
  have h2 := List.length_filter_le (fun a => decide (a ∈ l.map fun g => g.1)) (List.range n)
  rw [List.length_range] at h2
  omega
theorem row_len {m : Nat} {l : List Int} (hn : l.Nodup) (hr : ∀ z ∈ l, 0 ≤ z ∧ z < (m : Int)) : l.length ≤ m := by
  have hnd : (((List.range m).filter fun i : Nat => decide ((i : Int) ∈ l)).map fun i : Nat => (i : Int)).Nodup := List.Pairwise.map _ (fun a b hab e => hab (by omega)) (List.nodup_range.filter _)
  have hp : l.Perm (((List.range m).filter fun i : Nat => decide ((i : Int) ∈ l)).map fun i : Nat => (i : Int)) := (List.perm_ext_iff_of_nodup hn hnd).2 fun z => by
    simp only [List.mem_map, List.mem_filter, List.mem_range, decide_eq_true_eq]
    constructor
    · intro hz
      have := hr z hz
      exact ⟨z.toNat, ⟨by omega, by rw [Int.toNat_of_nonneg this.1]; exact hz⟩, by omega⟩
    · rintro ⟨p, ⟨_, h2⟩, rfl⟩
      exact h2
  have h1 := hp.length_eq
  rw [List.length_map] at h1
  have h2 := List.length_filter_le (fun i : Nat => decide ((i : Int) ∈ l)) (List.range m)
  rw [List.length_range] at h2
  omega
theorem HasR.len {n m : Nat} {L : Nat → List Int} {H : Nat → Nat → Bool} (h : HasR n m L H) {a : Nat} (ha : a < n) : (L a).length ≤ m := row_len (h.nodup a ha) (h.rng a ha)
theorem Stand.mid {n m : Nat} {N HE : Nat → Nat → Bool} {G : List GiveN} {j no i : Nat} {l : List Gift} {H : Nat → Nat → Bool} {L : Nat → List Int} (h : Stand n m N G HE j no l i H L) (q : Nat) {a : Nat} (ha : a < n) : (addsL L (l.take q) a).length ≤ m :=
  (HasR.adds (l.take q) h.has (fun g hg => (h.good.ok g (List.mem_of_mem_take hg)).1) (by rw [List.map_take]; exact h.good.tos.sublist (List.take_sublist _ _))).len ha
theorem full_row {m : Nat} {l : List Int} {f : Nat → Bool} (hn : l.Nodup) (hr : ∀ z ∈ l, 0 ≤ z ∧ z < (m : Int)) (hm : ∀ p, p < m → ((p : Int) ∈ l ↔ f p = true)) : decide (l.length = m) = (List.range m).all f := by
  have hnd : (((List.range m).filter f).map fun i : Nat => (i : Int)).Nodup := List.Pairwise.map _ (fun a b hab e => hab (by omega)) (List.nodup_range.filter f)
  have hp : l.Perm (((List.range m).filter f).map fun i : Nat => (i : Int)) := (List.perm_ext_iff_of_nodup hn hnd).2 fun z => by
    simp only [List.mem_map, List.mem_filter, List.mem_range]
    constructor
    · intro hz
      have := hr z hz
      refine ⟨z.toNat, ⟨by omega, (hm _ (by omega)).1 (by rw [Int.toNat_of_nonneg this.1]; exact hz)⟩, by omega⟩
    · rintro ⟨p, ⟨h1, h2⟩, rfl⟩
      exact (hm p h1).2 h2
  have hl := hp.length_eq
  rw [List.length_map] at hl
  have h1 := List.length_filter_eq_length_iff (p := f) (l := List.range m)
  rw [List.length_range] at h1
  rw [Bool.eq_iff_iff, decide_eq_true_eq, List.all_eq_true, hl, h1]
theorem start_keys {m : Int} {ps : List PeerD} (h : peersF m ps = 0) : (ps.map Prod.fst).Nodup := by
  refine List.pairwise_iff_getElem.2 fun i j hi hj hij e => ?_
  rw [List.length_map] at hi hj
  have hr := filesF_rise h hij hj
  rw [pAt_eq ps hi, pAt_eq ps hj] at hr
  simp only [List.getElem_map] at e
  rw [e] at hr
  exact List.lt_irrefl _ hr
theorem has_rise {m : Int} {ps : List PeerD} (h : peersF m ps = 0) {a : Nat} (ha : a < ps.length) : (pAt ps a).2.Pairwise (· < ·) := by
  have h0 := piF_all h ha
  unfold piF at h0
  generalize (pAt ps a).2 = zs at *
  split at h0
  · split at h0
    · omega
    · have hz : ∀ k, k < zs.length → hiF m zs k = 0 := fun k hk => by
        by_cases e : hiF m zs k = 0
        · exact e
        · have hz : firstTo (hiF m zs) k = 0 := by
            by_cases z : firstTo (hiF m zs) k = 0
            · exact z
            · have := firstTo_le (f := hiF m zs) (n := zs.length) (by omega) z; omega
          have := firstTo_at (f := hiF m zs) hk hz e; omega
      have step : ∀ k (hk : k + 1 < zs.length), zs[k]'(by omega) < zs[k + 1] := fun k hk => by
        have h1 := hz (k + 1) hk
        unfold hiF at h1
        split at h1
        · omega
        · split at h1
          · omega
          · rename_i h2
            rw [Nat.add_sub_cancel, zAt_eq zs hk, zAt_eq zs (by omega : k < zs.length)] at h2
            simp at h2
            omega
      refine List.pairwise_iff_getElem.2 fun i j hi hj hij => ?_
      have key : ∀ d, (hd : i + d + 1 < zs.length) → zs[i] < zs[i + d + 1] := fun d => by
        induction d with
        | zero => exact fun hd => step i hd
        | succ d ih => exact fun hd => Int.lt_trans (ih (by omega)) (step (i + d + 1) hd)
      have := key (j - i - 1) (by omega)
      have e : i + (j - i - 1) + 1 = j := by omega
      simpa only [e] using this
  · omega
theorem start_has {m : Nat} {ps : List PeerD} (h : peersF m ps = 0) : HasR ps.length m (fun a => (pAt ps a).2) (hasM ps) where
  nodup a ha := (has_rise h ha).imp fun h1 e => by omega
  rng a ha z hz := by
    obtain ⟨k, hk, rfl⟩ := List.getElem_of_mem hz
    exact has_in h ha hk
  mem a ha p hp := by
    unfold hasM
    rw [List.any_eq_true]
    constructor
    · exact fun hm => ⟨_, hm, by simp⟩
    · rintro ⟨z, hz, e⟩
      simp only [decide_eq_true_eq] at e
      rw [← e]; exact hz
theorem start_stand {m : Nat} {ps : List PeerD} (ne : List PairD) (h : peersF m ps = 0) :
    Stand ps.length m (nearM ps ne ne.length) (spreadG ps ne m) (spreadF ps.length m (nearM ps ne ne.length) (ps.length * m) 1 (hasM ps)).2 0 0 [] 0 (hasM ps) (fun a => (pAt ps a).2) := Stand.start _ _ _ _ (start_has h)
open Go
open Nat renaming reduceAdd → nA, reduceSub → nB, reduceMul → nC, reduceLT → nD, reduceLeDiff → nE, reduceEqDiff → nF, reduceMod → nG, reduceDiv → nH, reducePow → nI
abbrev zP0E : List Nat := [0, 1, 2, 3, 4, 5, 6, 7, 8, 9, 10, 11]
abbrev zP0P : List (Nat × List Nat × List Nat) := []
abbrev zP1E : List Nat := [0, 1, 2, 3, 4, 5, 6, 7, 8, 9, 10, 11]
abbrev zP1P : List (Nat × List Nat × List Nat) := []
attribute [go_sem] zP0E zP0P zP1E zP1P
set_option maxRecDepth 100000
theorem a_outside (x lo hi : Int) (h : Hp) : ACalls Tryz.prog 48 [.v (.int .i64 x), .v (.int .i64 lo), .v (.int .i64 hi)] h (fun r h' => r = .v (.bool (decide (x < lo) || decide (hi < x))) ∧ h' = h) := by
 refine gE Tryz.func48 rfl (by kernel_rfl) 12 rfl fun c => ?_
 (repeat (first | refine gO rfl ?_ | (refine gR fun K1 hK1 => ?_; simp only [go_sem, ↓reduceIte, reduceCtorEq, nA, nB, nC, nD, nE, nF] <;> and_intros <;> first | (apply hK1; clear hK1 K1) | (intros; first | omega | decide | (simp_all <;> omega)) | skip)))
 simp only [Tryz.results48, go_sem, ↓reduceIte, reduceCtorEq, nA, nB, nC, nD, nE, nF]
 exact ⟨_, _, Weak.refl _, Hp.le.refl _, rfl, rfl⟩
def encI (x : Int) : List AV := [.v (.int .i64 x)]
def rowI (l : List Int) : AV := .row 1 (l.map encI) none
def strm (l : List Int) (a : Int) : AO := .cells [rowI l, .v (.int .i64 a)]
def Hp.st (h : Hp) (i : Nat) (l : List Int) (a : Int) : Hp := { h with H := upd h.H i (some (strm l a)) }
def encS (x : ByteArray) : List AV := [.v (.string x)]
inductive LT where
 | mk (kind : Int) (item : ByteArray) (long many : Int) (kids : List LT) (shares : List Int)
instance : Inhabited LT := ⟨.mk 0 default 0 0 [] []⟩
def encL : LT → List AV
 | .mk kind item long many kids shares => [.v (.int .i64 kind), .v (.string item), .v (.int .i64 long), .v (.int .i64 many), .row 6 (kids.map encL) none, .row 1 (shares.map encI) none]
theorem encL_eq (kind : Int) (item : ByteArray) (long many : Int) (kids : List LT) (shares : List Int) : encL (.mk kind item long many kids shares) = [.v (.int .i64 kind), .v (.string item), .v (.int .i64 long), .v (.int .i64 many), .row 6 (kids.map encL) none, .row 1 (shares.map encI) none] := by rw [encL]
theorem encL_len (t : LT) : (encL t).length = 6 := by cases t; rw [encL_eq]; rfl
def WL (cs ds : List AV) : Prop := cs.length = ds.length ∧ ∀ j, Weak (cs.getD j .junk) (ds.getD j .junk)
theorem WL.nil : WL [] [] := ⟨rfl, fun _ => Weak.refl _⟩
theorem WL.cons {a b : AV} {cs ds : List AV} (h : Weak a b) (k : WL cs ds) : WL (a :: cs) (b :: ds) := ⟨by simp [k.1], fun j => by
 cases j with
 | zero => exact h
 | succ j => exact k.2 j⟩
theorem Weak.agg {cs ds : List AV} (h : WL cs ds) : Weak (.agg cs) (.agg ds) := fun G v hr => by
 cases hr with
 | agg _ vs u hl hu hr h1 =>
  refine .agg _ vs u (by rw [hl, h.1]) (fun j hj => hu j (by rw [h.1]; exact hj)) (fun j hj => ?_) (fun j hj => h1 j (by rw [h.1]; exact hj))
  have hj' : j < cs.length := by rw [h.1]; exact hj
  have := h.2 j G _ (by rw [List.getD_eq_getElem?_getD, List.getElem?_eq_getElem hj']; exact hr j hj')
  rwa [List.getD_eq_getElem?_getD, List.getElem?_eq_getElem hj] at this
def NB (x : Int) : Prop := -5000000000000000 ≤ x ∧ x ≤ 5000000000000000
def LB : Nat → LT → Prop
 | 0, _ => False
 | d + 1, .mk kind item long many kids shares => NB kind ∧ item.size ≤ 2 ∧ NB long ∧ NB many ∧ kids.length ≤ 3 ∧ shares.length ≤ 4 ∧ (∀ x ∈ shares, NB x) ∧ ∀ k ∈ kids, LB d k
theorem LB.mono : ∀ {d e : Nat} {t : LT}, LB d t → d ≤ e → LB e t
 | 0, _, _, h, _ => h.elim
 | d + 1, 0, _, _, h => by omega
 | d + 1, e + 1, .mk .., h, hd => ⟨h.1, h.2.1, h.2.2.1, h.2.2.2.1, h.2.2.2.2.1, h.2.2.2.2.2.1, h.2.2.2.2.2.2.1, fun k hk => (h.2.2.2.2.2.2.2 k hk).mono (by omega)⟩
def OLd (b : Bool) (T : Nat → Option TO) (S : Nat → Prop) : Nat → List AV → Prop
 | 0, _ => False
 | d + 1, cs => ∃ (kind : Int) (item : ByteArray) (long many : Int) (K Sh : AV), cs = [.v (.int .i64 kind), .v (.string item), .v (.int .i64 long), .v (.int .i64 many), K, Sh] ∧
   (NB kind ∧ item.size ≤ 2 ∧ NB long ∧ NB many) ∧
   (K = .v (.slice none 0 0) ∨ (∃ q css, S q ∧ T q = some (.cont 6 css) ∧ K = .arr 6 q css.length ∧ 0 < css.length ∧ css.length ≤ 3 ∧ ∀ c ∈ css, OLd b T S d c) ∨ (b = false ∧ ∃ css, K = .row 6 css none ∧ css.length ≤ 3 ∧ ∀ c ∈ css, OLd b T S d c)) ∧
   (Sh = .v (.slice none 0 0) ∨ ∃ (xs : List Int) (k : Nat), Sh = .row 1 (xs.map encI) (some k) ∧ xs.length ≤ 5 ∧ (∀ x ∈ xs, NB x) ∧ (b = true → S k ∧ T k = some (.tail xs.length) ∧ xs.length ≤ 4))
theorem OLd.len {b : Bool} {T : Nat → Option TO} {S : Nat → Prop} {d : Nat} {cs : List AV} (h : OLd b T S d cs) : cs.length = 6 := by
 cases d with
 | zero => exact h.elim
 | succ d => obtain ⟨_, _, _, _, _, _, rfl, _⟩ := h; rfl
theorem OLd.keep {b : Bool} {T T' : Nat → Option TO} {S : Nat → Prop} (hT : ∀ k, S k → (∃ x, T k = some (.cont 6 x)) → T' k = T k) (hs : b = true → ∀ k n, T k = some (.tail n) → T' k = some (.tail n)) : ∀ {d : Nat} {cs : List AV}, OLd b T S d cs → OLd b T' S d cs
 | 0, _, h => h.elim
 | d + 1, cs, ⟨kind, item, long, many, K, Sh, e, h1, h2, h3⟩ => by
  refine ⟨kind, item, long, many, K, Sh, e, h1, ?_, ?_⟩
  ·rcases h2 with h2 | ⟨q, css, hq, hTq, hK, hp, hl, hc⟩ | ⟨hbf, css, hK, hl, hc⟩
   ·exact .inl h2
   ·exact .inr (.inl ⟨q, css, hq, by rw [hT q hq ⟨css, hTq⟩]; exact hTq, hK, hp, hl, fun c hc' => (hc c hc').keep hT hs⟩)
   ·exact .inr (.inr ⟨hbf, css, hK, hl, fun c hc' => (hc c hc').keep hT hs⟩)
  ·rcases h3 with h3 | ⟨xs, k, h3, hl, hx, hb⟩
   ·exact .inl h3
   ·exact .inr ⟨xs, k, h3, hl, hx, fun hb' => ⟨(hb hb').1, hs hb' k _ (hb hb').2.1, (hb hb').2.2⟩⟩
theorem OLd.more {b : Bool} {T : Nat → Option TO} {S S' : Nat → Prop} (hS : ∀ k, S k → S' k) : ∀ {d : Nat} {cs : List AV}, OLd b T S d cs → OLd b T S' d cs
 | 0, _, h => h.elim
 | d + 1, cs, ⟨kind, item, long, many, K, Sh, e, h1, h2, h3⟩ => by
  have h3' : Sh = .v (.slice none 0 0) ∨ ∃ (xs : List Int) (k : Nat), Sh = .row 1 (xs.map encI) (some k) ∧ xs.length ≤ 5 ∧ (∀ x ∈ xs, NB x) ∧ (b = true → S' k ∧ T k = some (.tail xs.length) ∧ xs.length ≤ 4) := by
   rcases h3 with h3 | ⟨xs, k, h3, h4, h5, h6⟩
   ·exact .inl h3
   ·exact .inr ⟨xs, k, h3, h4, h5, fun hb => ⟨hS k (h6 hb).1, (h6 hb).2⟩⟩
  refine ⟨kind, item, long, many, K, Sh, e, h1, ?_, h3'⟩
  rcases h2 with h2 | ⟨q, css, hq, hTq, hK, hp, hl, hc⟩ | ⟨hbf, css, hK, hl, hc⟩
  ·exact .inl h2
  ·exact .inr (.inl ⟨q, css, hS q hq, hTq, hK, hp, hl, fun c hc' => (hc c hc').more hS⟩)
  ·exact .inr (.inr ⟨hbf, css, hK, hl, fun c hc' => (hc c hc').more hS⟩)
theorem RepL.of6 {G G' : Gh} {a b c d e f a' b' c' d' e' f' : AV} {us : List Value} (h : RepL G [a, b, c, d, e, f] us) (h0 : ∀ x, Rep G a x → Rep G' a' x) (h1 : ∀ x, Rep G b x → Rep G' b' x) (h2 : ∀ x, Rep G c x → Rep G' c' x) (h3 : ∀ x, Rep G d x → Rep G' d' x)
  (h4 : ∀ x, Rep G e x → Rep G' e' x) (h5 : ∀ x, Rep G f x → Rep G' f' x) : RepL G' [a', b', c', d', e', f'] us := by
 refine ⟨h.1, fun j hj hj' => ⟨?_, (h.2 j hj hj').2⟩⟩
 have h9 := (h.2 j hj hj').1
 match j, hj with
 | 0, _ => exact h0 _ h9
 | 1, _ => exact h1 _ h9
 | 2, _ => exact h2 _ h9
 | 3, _ => exact h3 _ h9
 | 4, _ => exact h4 _ h9
 | 5, _ => exact h5 _ h9
 | j + 6, hj => simp at hj; omega
def LC : Nat → LT → Prop
 | 0, _ => False
 | d + 1, .mk kind item long many kids shares => NB kind ∧ item.size ≤ 2 ∧ NB long ∧ NB many ∧ kids.length ≤ 3 ∧ shares.length ≤ 5 ∧ (∀ x ∈ shares, NB x) ∧ ∀ k ∈ kids, LC d k
theorem LC.mono : ∀ {d e : Nat} {t : LT}, LC d t → d ≤ e → LC e t
 | 0, _, _, h, _ => h.elim
 | d + 1, 0, _, _, h => by omega
 | d + 1, e + 1, .mk .., h, hd => ⟨h.1, h.2.1, h.2.2.1, h.2.2.2.1, h.2.2.2.2.1, h.2.2.2.2.2.1, h.2.2.2.2.2.2.1, fun k hk => (h.2.2.2.2.2.2.2 k hk).mono (by omega)⟩
theorem OLd.list {b : Bool} {T : Nat → Option TO} {S : Nat → Prop} {G G' : Gh} {d : Nat} (ih : ∀ cs, OLd b T S d cs → ∃ t, LC d t ∧ ∀ us, RepL G cs us → RepL G' (encL t) us) : ∀ (css : List (List AV)) (_ : ∀ c ∈ css, OLd b T S d c),
  ∃ ts : List LT, ts.length = css.length ∧ (∀ t ∈ ts, LC d t) ∧ ∀ us, RepL G css.flatten us → RepL G' (ts.map encL).flatten us
 | [], _ => ⟨[], rfl, by simp, fun us h => by cases us with | nil => exact RepL.nil _ | cons => have := h.1; simp at this⟩
 | c :: css, h => by
  obtain ⟨t, ht, hr⟩ := ih c (h c (by simp))
  obtain ⟨ts, hl, hts, hrs⟩ := OLd.list ih css fun c hc => h c (by simp [hc])
  refine ⟨t :: ts, by simp [hl], by simpa using ⟨ht, hts⟩, fun us hu => ?_⟩
  have h1 := hu.take c.length
  have h2 := hu.drop c.length
  simp only [List.flatten_cons, List.take_left, List.drop_left] at h1 h2
  have := (hr _ h1).append (hrs _ h2)
  rw [List.take_append_drop] at this
  exact this
theorem OLd.freeze {b : Bool} {T : Nat → Option TO} {S : Nat → Prop} {G G' : Gh} (hle : GLe G G') (hf : Fzs T S G G') : ∀ (d : Nat) (cs : List AV), OLd b T S d cs → ∃ t, LC d t ∧ ∀ us, RepL G cs us → RepL G' (encL t) us
 | 0, _, h => h.elim
 | d + 1, cs, ⟨kind, item, long, many, K, Sh, e, ⟨b1, b2, b3, b4⟩, h2, h3⟩ => by
  subst e
  have hK : ∃ ts : List LT, ts.length ≤ 3 ∧ (∀ t ∈ ts, LC d t) ∧ ∀ x, Rep G K x → Rep G' (.row 6 (ts.map encL) none) x := by
   have hz : ∀ ts : List LT, ∀ y ∈ ts.map encL, y.length = 6 := fun ts y hy => by
    obtain ⟨t, _, rfl⟩ := List.mem_map.1 hy
    exact encL_len t
   rcases h2 with rfl | ⟨q, css, hq, hT, rfl, _, hl, hc⟩ | ⟨_, css, rfl, hl, hc⟩
   ·exact ⟨[], by simp, by simp, fun x hx => Weak.nil 6 0 0 ⟨rfl, rfl⟩ G' x (hx.mono hle)⟩
   ·obtain ⟨ts, htl, htb, hts⟩ := OLd.list (OLd.freeze hle hf d) css hc
    exact ⟨ts, by omega, htb, fun x hx => hf q 6 css x hq hT hx _ (by simpa using htl) (hz ts) hts⟩
   ·obtain ⟨ts, htl, htb, hts⟩ := OLd.list (OLd.freeze hle hf d) css hc
    exact ⟨ts, by omega, htb, fun x hx => hx.rowFlat hle (by simpa using htl) (hz ts) hts⟩
  have hS : ∃ xs : List Int, xs.length ≤ 5 ∧ (∀ x ∈ xs, NB x) ∧ ∀ x, Rep G Sh x → Rep G' (.row 1 (xs.map encI) none) x := by
   rcases h3 with rfl | ⟨xs, k, rfl, hl, hx, _⟩
   ·exact ⟨[], by simp, by simp, fun x hx => Weak.nil 1 0 0 ⟨rfl, rfl⟩ G' x (hx.mono hle)⟩
   ·exact ⟨xs, hl, hx, fun x hx => Weak.row _ _ _ G' x (hx.mono hle)⟩
  obtain ⟨ts, hl, htb, hts⟩ := hK
  obtain ⟨xs, hxl, hxb, hxs⟩ := hS
  refine ⟨.mk kind item long many ts xs, ⟨b1, b2, b3, b4, hl, hxl, hxb, htb⟩, fun us hu => ?_⟩
  rw [encL_eq]
  exact hu.of6 (fun x hx => hx.mono hle) (fun x hx => hx.mono hle) (fun x hx => hx.mono hle) (fun x hx => hx.mono hle) hts hxs
theorem acalls_pure {P : Program} {f : Nat} (hok : fnOk P f = true) (xs : List Value) {v : Value} (h1 : v.oneCell' = true) (hc : ∀ w, Calls P f xs.toArray w fun e w' => e = .returned v ∧ RowKit.Below w.heap.size w w') (h : Hp) : ACalls P f (xs.map .v) h (fun r h' => r = .v v ∧ h' = h) := by
 refine ⟨hok, fun G w vs hs hl ha => ?_⟩
 have e : vs = xs.toArray := by
  apply Array.ext
  ·simpa using hl
  ·intro j hj hj'
   have hjx : j < (xs.map AV.v).length := by rw [← hl]; exact hj
   have := ha j hjx
   simp only [List.getElem_map] at this
   have h2 : vs.getD j undef = vs[j] := by simp [Array.getD, hj]
   rw [h2] at this
   simp only [List.getElem_toArray]
   generalize vs[j] = y at this
   cases this
   rfl
 subst e
 refine (hc w).mono ?_
 rintro _ w' ⟨rfl, hb⟩
 have hb' : ∀ b, b < w.heap.size → w'.heap[b]? = w.heap[b]? := fun b hb2 => hb.block b hb2
 exact ⟨_, h, G, v, rfl, ⟨rfl, rfl⟩, GLe.refl _, Fr.below (Fr.refl _ _ _) hb' hb.os hb.tape hb.output hb.size, hs.below hb', .v _ h1⟩
theorem a_isKey (s : ByteArray) (hs : s.size ≤ 1000000000000) (h : Hp) : ACalls Tryz.prog 52 [.v (.string s)] h (fun r h' => r = .v (.bool (keyB s)) ∧ h' = h) :=
 acalls_pure (by kernel_rfl) [.string s] rfl (fun w => (isKey_any s hs w).mono fun e w' ⟨h1, h2⟩ => ⟨h1, by subst h2; exact ⟨rfl, rfl, rfl, Nat.le_refl _, fun _ _ => rfl⟩⟩) h
inductive AT where
 | mk (i c : Nat) (kids : List AT)
instance : Inhabited AT := ⟨.mk 0 0 []⟩
inductive PS where
 | mk (had : Int) (of : List Int) (kids : List PS)
instance : Inhabited PS := ⟨.mk 0 [] []⟩
def AT.id : AT → Nat
 | .mk i _ _ => i
def idsT : AT → List Nat
 | .mk i _ ks => i :: (ks.map idsT).flatten
def toksT : AT → List Nat
 | .mk _ c ks => c :: (ks.map toksT).flatten
theorem idsT_eq (i c : Nat) (ks : List AT) : idsT (.mk i c ks) = i :: (ks.map idsT).flatten := by rw [idsT]
theorem toksT_eq (i c : Nat) (ks : List AT) : toksT (.mk i c ks) = c :: (ks.map toksT).flatten := by rw [toksT]
theorem idsT_kid {i c : Nat} {ks : List AT} {j : Nat} (h : j < ks.length) {x : Nat} (hx : x ∈ idsT (ks.getD j default)) : x ∈ idsT (.mk i c ks) := by
 rw [idsT_eq]
 refine List.mem_cons_of_mem _ (List.mem_flatten.2 ⟨_, List.mem_map.2 ⟨_, ?_, rfl⟩, hx⟩)
 rw [List.getD_eq_getElem?_getD, List.getElem?_eq_getElem h]; exact List.getElem_mem _
theorem toksT_kid {i c : Nat} {ks : List AT} {j : Nat} (h : j < ks.length) {x : Nat} (hx : x ∈ toksT (ks.getD j default)) : x ∈ toksT (.mk i c ks) := by
 rw [toksT_eq]
 refine List.mem_cons_of_mem _ (List.mem_flatten.2 ⟨_, List.mem_map.2 ⟨_, ?_, rfl⟩, hx⟩)
 rw [List.getD_eq_getElem?_getD, List.getElem?_eq_getElem h]; exact List.getElem_mem _
structure RK where
 ex : LT → List AV
 cf : Int → List Int → List Int
def kidsC (az : List AT) (K : AV) : Prop := az = [] ∧ K = .v (.slice none 0 0) ∨ ∃ tk, K = .row 1 (az.map fun a => [.ptr a.id 0]) tk
def RAt (X : RK) (h : Hp) : Nat → LT → AT → PS → Prop
 | 0, _, _, _ => False
 | d + 1, .mk kind item long many kids shares, .mk i c az, .mk p cs ks =>
  (∃ K, h.H i = some (.cells ([.v (.int .i64 kind), .v (.string item), .v (.int .i64 long), .v (.int .i64 many), .row 6 (kids.map encL) none, .row 1 (shares.map encI) none, K, .v (.int .i64 p), .arr 1 c kids.length] ++ X.ex (.mk kind item long many kids shares))) ∧ kidsC az K) ∧
  h.T c = some (.cont 1 ((X.cf kind cs).map encI)) ∧ ((X.cf kind cs).length = kids.length ∧ cs.length = kids.length ∧ az.length = kids.length ∧ ks.length = kids.length) ∧
  ∀ j, j < kids.length → RAt X h d (kids.getD j default) (az.getD j default) (ks.getD j default)
theorem RAt.frame {X : RK} {h h' : Hp} : ∀ {d : Nat} {t : LT} {a : AT} {s : PS}, RAt X h d t a s → (∀ i ∈ idsT a, h'.H i = h.H i) → (∀ c ∈ toksT a, h'.T c = h.T c) → RAt X h' d t a s
 | 0, _, _, _, h, _, _ => h.elim
 | d + 1, .mk kind item long many kids shares, .mk i c az, .mk p cs ks, ⟨⟨K, h1, hK⟩, h2, h3, h4⟩, hi, hc =>
  ⟨⟨K, by rw [hi i (by rw [idsT_eq]; simp)]; exact h1, hK⟩, by rw [hc c (by rw [toksT_eq]; simp)]; exact h2, h3, fun j hj =>
   (h4 j hj).frame (fun x hx => hi x (idsT_kid (by omega) hx)) (fun x hx => hc x (toksT_kid (by omega) hx))⟩
def PSB : Nat → LT → PS → Int → Prop
 | 0, _, _, _ => True
 | d + 1, .mk _ _ _ _ kids _, .mk p cs ks, n => (0 ≤ p ∧ p ≤ n) ∧ (∀ x ∈ cs, 0 ≤ x ∧ x ≤ n) ∧ ∀ j, j < kids.length → PSB d (kids.getD j default) (ks.getD j default) n
theorem PSB.mono {n m : Int} (hnm : n ≤ m) : ∀ {d : Nat} {t : LT} {s : PS}, PSB d t s n → PSB d t s m
 | 0, _, _, _ => trivial
 | d + 1, .mk .., .mk p cs ks, ⟨h1, h2, h3⟩ => ⟨by omega, fun x hx => by have := h2 x hx; omega, fun j hj => (h3 j hj).mono hnm⟩
section
variable {P : Program} {c : Cx} {Q : Exit → St → Prop} {s : St}
end
open Go
set_option linter.unusedVariables false
set_option linter.unusedSimpArgs false
open Nat renaming reduceAdd → nA, reduceSub → nB, reduceMul → nC, reduceLT → nD, reduceLeDiff → nE, reduceEqDiff → nF, reduceMod → nG, reduceDiv → nH, reducePow → nI
abbrev zP2E : List Nat := [0, 1, 2, 3, 4, 5, 6, 7, 8, 9, 10, 11]
abbrev zP2P : List (Nat × List Nat × List Nat) := []
attribute [go_sem] zP2E zP2P
set_option maxRecDepth 100000
set_option maxHeartbeats 8000000
theorem acalls_pureT {P : Program} {f : Nat} (hok : fnOk P f = true) (xs rs : List Value) (h1 : ∀ v ∈ rs, v.oneCell' = true) (hc : ∀ w, Calls P f xs.toArray w fun e w' => e = .returned (.tuple rs.toArray) ∧ RowKit.Below w.heap.size w w') (h : Hp) : ACalls P f (xs.map .v) h (fun r h' => r = .tup (rs.map .v) ∧ h' = h) := by
 refine ⟨hok, fun G w vs hs hl ha => ?_⟩
 have e : vs = xs.toArray := by
  apply Array.ext
  ·simpa using hl
  ·intro j hj hj'
   have hjx : j < (xs.map AV.v).length := by rw [← hl]; exact hj
   have := ha j hjx
   simp only [List.getElem_map] at this
   have h2 : vs.getD j undef = vs[j] := by simp [Array.getD, hj]
   rw [h2] at this
   simp only [List.getElem_toArray]
   generalize vs[j] = y at this
   cases this
   rfl
 subst e
 refine (hc w).mono ?_
 rintro _ w' ⟨rfl, hb⟩
 have hb' : ∀ b, b < w.heap.size → w'.heap[b]? = w.heap[b]? := fun b hb2 => hb.block b hb2
 refine ⟨_, h, G, .tuple rs.toArray, rfl, ⟨rfl, rfl⟩, GLe.refl _, Fr.below (Fr.refl _ _ _) hb' hb.os hb.tape hb.output hb.size, hs.below hb', ?_⟩
 refine .tup _ _ (fun j => rs.getD j undef) (by simp) (fun j hj => ?_) (fun j hj => ?_)
 ·have hj' : j < rs.length := by simpa using hj
  simp [List.getD_eq_getElem?_getD, hj']
 ·have hj' : j < rs.length := by simpa using hj
  simp only [List.getElem_map, List.getD_eq_getElem?_getD, List.getElem?_eq_getElem hj', Option.getD_some]
  exact .v _ (h1 _ (List.getElem_mem _))
theorem ACalls.frz {P : Program} {f : Nat} {args : List AV} {h : Hp} {z : Nat} {xs : List (List AV)} (hc : ACalls P f args h (fun r h' => ∃ k, r = .arr z k xs.length ∧ h'.H = h.H ∧ h.T k = none ∧ h'.T k = some (.cont z xs) ∧ ∀ t, h.T t ≠ none → h'.T t = h.T t)) (hz : ∀ y ∈ xs, y.length = z) :
  ACalls P f args h (fun r h' => r = .row z xs none ∧ h' = h) := by
 refine hc.gup ?_
 rintro _ h' G w v ⟨k, rfl, hH, hk, hT, hold⟩ hs hr
 obtain ⟨G', hle, hfr, hs2, hfz⟩ := hs.freeze (h2 := h) (fun j => h.T j = none) hH.symm (fun j hj => hj) (fun j hj => (hold j hj).symm)
 exact ⟨_, h, G', ⟨rfl, rfl⟩, hle, hfr, hs2, hfz k z xs v hk hT hr xs rfl hz fun us hus => hus.mono hle⟩
theorem bel_id (w : World) : RowKit.Below w.heap.size w w := ⟨rfl, rfl, rfl, Nat.le_refl _, fun _ _ => rfl⟩
def sN : ByteArray := ⟨#[110]⟩
def sT : ByteArray := ⟨#[123, 110, 125]⟩
theorem c_cutPrefix (p : ByteArray) (h : Hp) (hp : Lib.trimPrefix sN.data.toList p.data.toList = [110] ∧ Lib.hasPrefix sN.data.toList p.data.toList = false) : ACalls Tryz.prog 231 [.v (.string sN), .v (.string p)] h (fun r h' => r = .tup [.v (.string sN), .v (.bool false)] ∧ h' = h) :=
 acalls_pureT (by kernel_rfl) [.string sN, .string p] [.string sN, .bool false] (by simp [Value.oneCell']) (fun w => (Tryz.strings_CutPrefix sN p w).mono fun e w' ⟨h1, h2⟩ => ⟨by rw [h1, hp.1, hp.2]; rfl, by rw [h2]; exact bel_id w⟩) h
theorem c_count (h : Hp) : ACalls Tryz.prog 295 [.v (.string sN), .v (.string ⟨#[58]⟩)] h (fun r h' => r = .v (.int .i64 0) ∧ h' = h) :=
 acalls_pure (by kernel_rfl) [.string sN, .string ⟨#[58]⟩] rfl (fun w => (Tryz.strings_Count_one sN 58 w).mono fun e w' ⟨h1, h2⟩ => ⟨by rw [h1]; rfl, by rw [h2]; exact bel_id w⟩) h
theorem c_index (h : Hp) : ACalls Tryz.prog 304 [.v (.string sN), .v (.string ⟨#[46]⟩)] h (fun r h' => r = .v (.int .i64 (-1)) ∧ h' = h) :=
 acalls_pure (by kernel_rfl) [.string sN, .string ⟨#[46]⟩] rfl (fun w => (Tryz.stringslite_Index_one sN 46 w).mono fun e w' ⟨h1, h2⟩ => ⟨by rw [h1]; rfl, by rw [h2]; exact bel_id w⟩) h
theorem c_indexByte (h : Hp) : ACalls Tryz.prog 100 [.v (.string sT), .v (.int .u8 125)] h (fun r h' => r = .v (.int .i64 2) ∧ h' = h) :=
 acalls_pure (by kernel_rfl) [.string sT, .int .u8 125] rfl (fun w => (Tryz.strings_IndexByte sT 125 w).mono fun e w' ⟨h1, h2⟩ => ⟨by rw [h1]; rfl, by rw [h2]; exact bel_id w⟩) h
theorem c_indexAny (h : Hp) : ACalls Tryz.prog 199 [.v (.string sT), .v (.string ⟨#[123, 125]⟩)] h (fun r h' => r = .v (.int .i64 0) ∧ h' = h) :=
 acalls_pure (by kernel_rfl) [.string sT, .string ⟨#[123, 125]⟩] rfl (fun w => (Tryz.strings_IndexAny_short sT ⟨#[123, 125]⟩ w (by decide) (by decide) (fun j b hb => by
  have hm : b ∈ sT.data.toList := List.mem_of_getElem? hb
  have hall : ∀ x ∈ sT.data.toList, x.toNat < 128 := by decide
  exact hall b hm)).mono fun e w' ⟨h1, h2⟩ => ⟨by rw [h1]; rfl, by
   obtain ⟨pos, rfl⟩ := h2
   exact (bel_id w).alloc (Nat.le_refl _) _⟩) h
theorem c_cutL (h : Hp) : ACalls Tryz.prog 293 [.v (.string sN), .v (.string ⟨#[46]⟩)] h (fun r h' => r = .tup [.v (.string sN), .v (.string ⟨#[]⟩), .v (.bool false)] ∧ h' = h) := by
 have h1 := fun h => c_index h
 refine gE Tryz.func293 rfl (by kernel_rfl) 21 rfl fun c => ?_
 (repeat (first | refine gO rfl ?_ | ((refine gR fun K1 hK1 => ?_; simp only [go_sem, ↓reduceIte, reduceCtorEq, nA, nB, nC, nD, nE, nF, Int.reduceBEq, Int.reduceTMod, Int.reduceTDiv, Int.reduceMul, Int.reduceBNe, Int.reduceLT, Int.reduceLE, Int.reduceAdd, Int.reduceSub, Int.reduceNeg, decide_true, decide_false, Bool.true_and, Bool.false_and, Bool.and_true, Bool.and_false, Bool.or_false, Bool.or_true, Bool.true_or, Bool.false_or, Bool.not_true, Bool.not_false, true_implies, false_implies, true_and, and_true, Int.reduceToNat] <;> and_intros <;> first | (apply hK1; clear hK1 K1) | skip)) | (refine awp_cond (t := _) rfl (fun hq => ?_) (fun hq => ?_) <;> first | (exact absurd hq (by decide)) | (clear hq)) | (refine (h1 _).mono ?_; rintro _ hz ⟨rfl, hh⟩; ((refine hK1 _ ?_)); clear hK1 K1; rw [hh]; clear hh hz)))
 simp only [Tryz.results293, go_sem, ↓reduceIte, reduceCtorEq, nA, nB, nC, nD, nE, nF]
 exact ⟨_, _, Weak.refl _, Hp.le.refl _, rfl, rfl⟩
theorem c_cut (h : Hp) : ACalls Tryz.prog 282 [.v (.string sN), .v (.string ⟨#[46]⟩)] h (fun r h' => r = .tup [.v (.string sN), .v (.string ⟨#[]⟩), .v (.bool false)] ∧ h' = h) := by
 have h1 := fun h => c_cutL h
 refine gE Tryz.func282 rfl (by kernel_rfl) 11 rfl fun c => ?_
 (repeat (first | refine gO rfl ?_ | (refine gR fun K1 hK1 => ?_; simp only [go_sem, ↓reduceIte, reduceCtorEq, nA, nB, nC, nD, nE, nF, Int.reduceBEq, Int.reduceTMod, Int.reduceTDiv, Int.reduceMul, Int.reduceBNe, Int.reduceLT, Int.reduceLE, Int.reduceAdd, Int.reduceSub, Int.reduceNeg, decide_true, decide_false, Bool.true_and, Bool.false_and, Bool.and_true, Bool.and_false, Bool.or_false, Bool.or_true, Bool.true_or, Bool.false_or, Bool.not_true, Bool.not_false, true_implies, false_implies, true_and, and_true, Int.reduceToNat] <;> and_intros <;> first | (apply hK1; clear hK1 K1) | skip) | (refine (h1 _).mono ?_; rintro _ hz ⟨rfl, hh⟩; ((refine hK1 _ ?_)); clear hK1 K1; rw [hh]; clear hh hz)))
 simp only [Tryz.results282, go_sem, ↓reduceIte, reduceCtorEq, nA, nB, nC, nD, nE, nF]
 exact ⟨_, _, Weak.refl _, Hp.le.refl _, rfl, rfl⟩
theorem c_genSplit (h : Hp) : ACalls Tryz.prog 283 [.v (.string sN), .v (.string ⟨#[58]⟩), .v (.int .i64 0), .v (.int .i64 (-1))] h (fun r h' => r = .row 1 [[.v (.string sN)]] none ∧ h' = h) := by
 refine ACalls.frz ?_ (by simp)
 have h1 := fun h => c_count h
 have hs : (sN.size : Int) = 1 := rfl
 have e2 : min (1 : Int) (1 + 1) = 1 := by decide
 have e3 : min (1 : Int) 2 = 1 := by decide
 have e1 : ((⟨#[58]⟩ : ByteArray) == ⟨#[]⟩) = false := by decide
 refine gE Tryz.func283 rfl (by kernel_rfl) 62 rfl fun c => ?_
 (repeat (first | refine gO rfl ?_ | (refine gM zM20 fun K1 hK1 => ?_; simp only [go_sem, ↓reduceIte, reduceCtorEq, nA, nB, nC, nD, nE, nF, Int.reduceBEq, Int.reduceTMod, Int.reduceTDiv, Int.reduceMul, Int.reduceBNe, Int.reduceLT, Int.reduceLE, Int.reduceAdd, Int.reduceSub, Int.reduceNeg, decide_true, decide_false, Bool.true_and, Bool.false_and, Bool.and_true, Bool.and_false, Bool.or_false, Bool.or_true, Bool.true_or, Bool.false_or, Bool.not_true, Bool.not_false, true_implies, false_implies, true_and, and_true, Int.reduceToNat, e1, hs, e2, e3] <;> and_intros <;> first | (apply hK1; clear hK1 K1) | (intros; (omega)) | skip) | (refine awp_cond (t := _) rfl (fun hq => ?_) (fun hq => ?_) <;> first | (exact absurd hq (by decide)) | (clear hq)) | (refine (h1 _).mono ?_; rintro _ hz ⟨rfl, hh⟩; ((refine hK1 _ ?_)); clear hK1 K1; rw [hh]; clear hh hz)))
 intro k hk
 refine hK1 _ ?_; clear hK1 K1
 (repeat (first | refine gO rfl ?_ | (refine gM zM20 fun K1 hK1 => ?_; simp only [go_sem, ↓reduceIte, reduceCtorEq, nA, nB, nC, nD, nE, nF, Int.reduceBEq, Int.reduceTMod, Int.reduceTDiv, Int.reduceMul, Int.reduceBNe, Int.reduceLT, Int.reduceLE, Int.reduceAdd, Int.reduceSub, Int.reduceNeg, decide_true, decide_false, Bool.true_and, Bool.false_and, Bool.and_true, Bool.and_false, Bool.or_false, Bool.or_true, Bool.true_or, Bool.false_or, Bool.not_true, Bool.not_false, true_implies, false_implies, true_and, and_true, Int.reduceToNat, upd_same, List.replicate] <;> and_intros <;> first | (apply hK1; clear hK1 K1) | (intros; (omega)) | skip) | (refine awp_cond (t := _) rfl (fun hq => ?_) (fun hq => ?_) <;> first | (exact absurd hq (by decide)) | (clear hq)) | (refine awp_un 8 ?_) | ((with_reducible show uside _); (exact True.intro)) | ((with_reducible show opS _ _); exact True.intro)))
 all_goals first | exact True.intro | exact rfl | skip
 intro q hq
 refine hK1 _ ?_; clear hK1 K1
 (repeat ((refine gO rfl ?_)))
 simp only [Tryz.results283, go_sem, ↓reduceIte, reduceCtorEq, nA, nB, nC, nD, nE, nF]
 replace hk : h.T k = none := hk
 have hq2 : h.T q = none := by
  replace hq : upd h.T k (some (TO.cont 1 [[.v (.string sN)]])) q = none := hq
  by_cases e : q = k
  ·rw [e, upd_same] at hq; cases hq
  ·rwa [upd_other _ _ e] at hq
 refine ⟨_, _, Weak.refl _, Hp.le.refl _, q, rfl, rfl, hq2, upd_same _ _ _, fun t ht => ?_⟩
 have tq : t ≠ q := by rintro rfl; exact ht hq2
 have tk : t ≠ k := by rintro rfl; exact ht hk
 show upd (upd h.T k none) q _ t = _
 rw [upd_other _ _ tq, upd_other _ _ tk]
theorem c_split (h : Hp) : ACalls Tryz.prog 264 [.v (.string sN), .v (.string ⟨#[58]⟩)] h (fun r h' => r = .row 1 [[.v (.string sN)]] none ∧ h' = h) := by
 have h1 := fun h => c_genSplit h
 refine gE Tryz.func264 rfl (by kernel_rfl) 6 rfl fun c => ?_
 (repeat (first | refine gO rfl ?_ | (refine gR fun K1 hK1 => ?_; simp only [go_sem, ↓reduceIte, reduceCtorEq, nA, nB, nC, nD, nE, nF, Int.reduceBEq, Int.reduceTMod, Int.reduceTDiv, Int.reduceMul, Int.reduceBNe, Int.reduceLT, Int.reduceLE, Int.reduceAdd, Int.reduceSub, Int.reduceNeg, decide_true, decide_false, Bool.true_and, Bool.false_and, Bool.and_true, Bool.and_false, Bool.or_false, Bool.or_true, Bool.true_or, Bool.false_or, Bool.not_true, Bool.not_false, true_implies, false_implies, true_and, and_true, Int.reduceToNat] <;> and_intros <;> first | (apply hK1; clear hK1 K1) | skip) | (refine (h1 _).mono ?_; rintro _ hz ⟨rfl, hh⟩; ((refine hK1 _ ?_)); clear hK1 K1; rw [hh]; clear hh hz)))
 simp only [Tryz.results264, go_sem, ↓reduceIte, reduceCtorEq, nA, nB, nC, nD, nE, nF]
 exact ⟨_, _, Weak.refl _, Hp.le.refl _, rfl, rfl⟩
theorem c_ixNil (s : ByteArray) (h : Hp) : ACalls Tryz.prog 81 [.v (.slice none 0 0), .v (.string s)] h (fun r h' => r = .v (.int .i64 (-1)) ∧ h' = h) := by
 refine gE Tryz.func81 rfl (by kernel_rfl) 17 rfl fun c => ?_
 (repeat (first | refine gO rfl ?_ | (refine gR fun K1 hK1 => ?_; simp only [go_sem, ↓reduceIte, reduceCtorEq, nA, nB, nC, nD, nE, nF, Int.reduceBEq, Int.reduceTMod, Int.reduceTDiv, Int.reduceMul, Int.reduceBNe, Int.reduceLT, Int.reduceLE, Int.reduceAdd, Int.reduceSub, Int.reduceNeg, decide_true, decide_false, Bool.true_and, Bool.false_and, Bool.and_true, Bool.and_false, Bool.or_false, Bool.or_true, Bool.true_or, Bool.false_or, Bool.not_true, Bool.not_false, true_implies, false_implies, true_and, and_true, Int.reduceToNat] <;> and_intros <;> (apply hK1; clear hK1 K1)) | (refine awp_cond (t := _) rfl (fun hq => ?_) (fun hq => ?_) <;> first | (exact absurd hq (by decide)) | (clear hq)) | (refine awp_un 8 ?_)))
 simp only [Tryz.results81, go_sem, ↓reduceIte, reduceCtorEq, nA, nB, nC, nD, nE, nF]
 exact ⟨_, _, Weak.refl _, Hp.le.refl _, rfl, rfl⟩
theorem c_hasNil (s : ByteArray) (h : Hp) : ACalls Tryz.prog 36 [.v (.slice none 0 0), .v (.string s)] h (fun r h' => r = .v (.bool false) ∧ h' = h) := by
 have h1 := fun h => c_ixNil s h
 refine gE Tryz.func36 rfl (by kernel_rfl) 7 rfl fun c => ?_
 (repeat (first | refine gO rfl ?_ | (refine gR fun K1 hK1 => ?_; simp only [go_sem, ↓reduceIte, reduceCtorEq, nA, nB, nC, nD, nE, nF, Int.reduceBEq, Int.reduceTMod, Int.reduceTDiv, Int.reduceMul, Int.reduceBNe, Int.reduceLT, Int.reduceLE, Int.reduceAdd, Int.reduceSub, Int.reduceNeg, decide_true, decide_false, Bool.true_and, Bool.false_and, Bool.and_true, Bool.and_false, Bool.or_false, Bool.or_true, Bool.true_or, Bool.false_or, Bool.not_true, Bool.not_false, true_implies, false_implies, true_and, and_true, Int.reduceToNat] <;> and_intros <;> first | (apply hK1; clear hK1 K1) | skip) | (refine (h1 _).mono ?_; rintro _ hz ⟨rfl, hh⟩; ((refine hK1 _ ?_)); clear hK1 K1; rw [hh]; clear hh hz)))
 simp only [Tryz.results36, go_sem, ↓reduceIte, reduceCtorEq, nA, nB, nC, nD, nE, nF]
 exact ⟨_, _, Weak.refl _, Hp.le.refl _, rfl, rfl⟩
theorem g_ixNo (s : ByteArray) (l : List ByteArray) (h : Hp) (hl : l.length ≤ 100000) (hn : ∀ x ∈ l, (s == x) = false) : ACalls Tryz.prog 81 [.row 1 (l.map fun x => [.v (.string x)]) none, .v (.string s)] h (fun r h' => r = .v (.int .i64 (-1)) ∧ h' = h) := by
 obtain ⟨en, hen⟩ : ∃ en : ByteArray → List AV, en = fun x => [.v (.string x)] := ⟨_, rfl⟩
 rw [← hen]
 have hml : (l.map en).length = l.length := List.length_map _
 refine gE Tryz.func81 rfl (by kernel_rfl) 17 rfl fun c => ?_
 (repeat (first | refine gO rfl ?_ | (refine gR fun K1 hK1 => ?_; simp only [go_sem, ↓reduceIte, reduceCtorEq, nA, nB, nC, nD, nE, nF, hml] <;> and_intros <;> (apply hK1; clear hK1 K1))))
 refine awp_loopC (rl false [0, 2, 5, 2, 10]) 0 (fun g s' => ∃ j : Nat, g + j = l.length ∧
  s' = ⟨((.row 1 (l.map en) none) :: (.v (.string s)) :: (jnk 5 ((.v (.int .i64 l.length)) :: (.v (.int .i64 j)) :: (jnk 10 [])))), [], h⟩) l.length ⟨0, by omega, rfl⟩ ?_
 rintro g _ ⟨j, hj, rfl⟩
 (repeat (first | refine gO rfl ?_ | (refine gR fun K1 hK1 => ?_; simp only [go_sem, ↓reduceIte, reduceCtorEq, nA, nB, nC, nD, nE, nF] <;> and_intros <;> (apply hK1; clear hK1 K1))))
 refine awp_cond (t := _) rfl (fun h1 => ?_) (fun h1 => ?_)
 ·simp only [decide_eq_true_eq] at h1
  have hjl : j < l.length := by omega
  have gx : (l.map en).getD j [] = en (l.getD j default) := getD_enc en l j default hjl
  have hno := hn (l.getD j default) (by rw [List.getD_eq_getElem?_getD, List.getElem?_eq_getElem hjl]; exact List.getElem_mem _)
  generalize l.getD j default = y at *
  have gx2 : (l.map en).getD j [] = [.v (.string y)] := by rw [gx, hen]
  (repeat (first | refine gO rfl ?_ | (refine gR fun K1 hK1 => ?_; simp only [go_sem, ↓reduceIte, reduceCtorEq, nA, nB, nC, nD, nE, nF, hml, Int.toNat_natCast, gx2] <;> and_intros <;> first | (apply hK1; clear hK1 K1) | (intros; (omega)))))
  refine awp_cond (t := _) rfl (fun h9 => by rw [hno] at h9; cases h9) (fun _ => ?_)
  (repeat (first | refine gO rfl ?_ | (refine gR fun K1 hK1 => ?_; simp only [go_sem, ↓reduceIte, reduceCtorEq, nA, nB, nC, nD, nE, nF] <;> and_intros <;> first | (apply hK1; clear hK1 K1) | (intros; (omega)))))
  exact ⟨g - 1, by omega, j + 1, by omega, rfl⟩
 ·(repeat (first | refine gO rfl ?_ | (refine gR fun K1 hK1 => ?_; simp only [go_sem, ↓reduceIte, reduceCtorEq, nA, nB, nC, nD, nE, nF] <;> and_intros <;> (apply hK1; clear hK1 K1))))
  simp only [Tryz.results81, go_sem, ↓reduceIte, reduceCtorEq, nA, nB, nC, nD, nE, nF]
  exact ⟨_, _, Weak.refl _, Hp.le.refl _, rfl, rfl⟩
theorem g_hasNo (s : ByteArray) (l : List ByteArray) (h : Hp) (hl : l.length ≤ 100000) (hn : ∀ x ∈ l, (s == x) = false) : ACalls Tryz.prog 36 [.row 1 (l.map fun x => [.v (.string x)]) none, .v (.string s)] h (fun r h' => r = .v (.bool false) ∧ h' = h) := by
 have h1 := fun h => g_ixNo s l h hl hn
 generalize (l.map fun x => [AV.v (.string x)]) = rw0 at *
 refine gE Tryz.func36 rfl (by kernel_rfl) 7 rfl fun c => ?_
 (repeat (first | refine gO rfl ?_ | (refine gR fun K1 hK1 => ?_; simp only [go_sem, ↓reduceIte, reduceCtorEq, nA, nB, nC, nD, nE, nF, Int.reduceBEq, Int.reduceTMod, Int.reduceTDiv, Int.reduceMul, Int.reduceBNe, Int.reduceLT, Int.reduceLE, Int.reduceAdd, Int.reduceSub, Int.reduceNeg, decide_true, decide_false, Bool.true_and, Bool.false_and, Bool.and_true, Bool.and_false, Bool.or_false, Bool.or_true, Bool.true_or, Bool.false_or, Bool.not_true, Bool.not_false, true_implies, false_implies, true_and, and_true, Int.reduceToNat] <;> and_intros <;> first | (apply hK1; clear hK1 K1) | skip) | (refine (h1 _).mono ?_; rintro _ hz ⟨rfl, hh⟩; ((refine hK1 _ ?_)); clear hK1 K1; rw [hh]; clear hh hz)))
 simp only [Tryz.results36, go_sem, ↓reduceIte, reduceCtorEq, nA, nB, nC, nD, nE, nF]
 exact ⟨_, _, Weak.refl _, Hp.le.refl _, rfl, rfl⟩
abbrev zP3E : List Nat := [0, 1, 2, 3, 4, 5, 6, 7, 8, 9, 10, 11, 12]
abbrev zP3P : List (Nat × List Nat × List Nat) := []
abbrev zP4E : List Nat := [0, 2, 7, 8]
abbrev zP4P : List (Nat × List Nat × List Nat) := [(1, [7], []), (3, [7], [4, 5, 6]), (9, [], [10, 11]), (12, [], [])]
abbrev zP5E : List Nat := [0, 1, 2, 3]
abbrev zP5P : List (Nat × List Nat × List Nat) := [(4, [2], []), (5, [], [6, 7, 8]), (10, [], [11])]
abbrev zP6E : List Nat := [0, 1, 2, 3, 4, 5, 6, 7, 8, 9]
abbrev zP6P : List (Nat × List Nat × List Nat) := []
abbrev zP7E : List Nat := [0, 1, 2, 3, 4, 5, 6, 7, 8]
abbrev zP7P : List (Nat × List Nat × List Nat) := [(9, [], [10])]
abbrev zP8E : List Nat := [0, 1, 2, 3, 4, 5, 6, 7, 8, 9, 10]
abbrev zP8P : List (Nat × List Nat × List Nat) := []
abbrev zP9E : List Nat := [0, 1, 2, 3, 4, 5, 6, 7, 8, 9, 10, 11, 12, 13, 14, 15, 16]
abbrev zP9P : List (Nat × List Nat × List Nat) := [(17, [], [])]
abbrev zPAE : List Nat := [0, 1, 2, 3, 4, 5, 6, 7, 8]
abbrev zPAP : List (Nat × List Nat × List Nat) := [(9, [], [10])]
abbrev zPBE : List Nat := [0, 1, 2, 3, 4, 5, 6, 7, 8, 9, 10, 11, 12, 13, 14, 15, 16, 17, 18, 19, 20, 21, 22, 23, 24, 25, 26, 27, 28, 29, 30, 31]
abbrev zPBP : List (Nat × List Nat × List Nat) := [(32, [], [33, 34])]
abbrev zPCE : List Nat := [0, 1, 2, 3, 4, 5, 6]
abbrev zPCP : List (Nat × List Nat × List Nat) := []
attribute [go_sem] zP3E zP3P zP4E zP4P zP5E zP5P zP6E zP6P zP7E zP7P zP8E zP8P zP9E zP9P zPAE zPAP zPBE zPBP zPCE zPCP
def vI (n : Int) : AV := .v (.int .i64 n)
def vS (s : ByteArray) : AV := .v (.string s)
def vB (b : Bool) : AV := .v (.bool b)
def nl : AV := .v (.slice none 0 0)
def s0 : ByteArray := ⟨#[]⟩
def ndCp (kind : Int) (name : ByteArray) : List AV := [vI kind, vS s0, vS s0, vS name, nl, vI 0, nl, vS s0, vS s0, vS s0, vI 0, vS s0, vI 0, vB false, vS s0, vS s0, vS s0, nl, nl]
def bkC (part : AV) : List AV := ndCp 0 s0 ++ [part, vB false]
def rdrC (i : Int) (b : Nat) : List AV := [vS sT, vI i, .row 1 [[.ptr b 0]] none, vB false]
theorem hle_obj {h : Hp} {b : Nat} {o : AO} (hb : h.H b = none) : Hp.le h ⟨upd h.H b (some o), h.T⟩ :=
 ⟨fun i => by
  by_cases e : i = b
  ·exact .inl (by rw [e]; exact hb)
  ·exact .inr (upd_other _ _ e).symm, fun _ => .inr rfl⟩
theorem Weak.tupW {a a' : AV} {xs : List AV} (ha : Weak a a') : Weak (.tup (a :: xs)) (.tup (a' :: xs)) := fun G v hr => by
 cases hr with
 | tup _ vs u hl hu hr =>
  refine .tup _ vs u (by simpa using hl) (fun j hj => hu j (by simpa using hj)) (fun j hj => ?_)
  rcases j with _ | j
  ·exact ha G _ (hr 0 (by simp))
  ·exact hr (j + 1) (by simpa using hj)
theorem nc1 : ((1 : Nat) : Int) = 1 := rfl
theorem c_top (r b : Nat) (i : Int) (h : Hp) (hr : h.H r = some (.cells (rdrC i b))) : ACalls Tryz.prog 228 [.ptr r 0] h (fun x h' => x = .ptr b 0 ∧ h' = h) := by
 unfold rdrC vS vI vB at hr
 refine gE Tryz.func228 rfl (by kernel_rfl) 14 rfl fun c => ?_
 (repeat (first | refine gO rfl ?_ | ((first | refine gR ?_ | ((with_reducible refine xS ?_); refine uD 1 zM21 zP3E zP3P 15 rfl (by kernel_rfl) ?_)) <;> ((try with_reducible intro K1 hK1); simp only [go_sem, ↓reduceIte, reduceCtorEq, nA, nB, nC, nD, nE, nF, Int.reduceBEq, Int.reduceTMod, Int.reduceTDiv, Int.reduceMul, Int.reduceBNe, Int.reduceLT, Int.reduceLE, Int.reduceAdd, Int.reduceSub, Int.reduceNeg, decide_true, decide_false, Bool.true_and, Bool.false_and, Bool.and_true, Bool.and_false, Bool.or_false, Bool.or_true, Bool.true_or, Bool.false_or, Bool.not_true, Bool.not_false, true_implies, false_implies, true_and, and_true, Int.reduceToNat, hr, nc1] <;> and_intros <;> (apply hK1; clear hK1 K1)))))
 simp only [Tryz.results228, go_sem, ↓reduceIte, reduceCtorEq, nA, nB, nC, nD, nE, nF]
 exact ⟨_, _, Weak.refl _, Hp.le.refl _, rfl, rfl⟩
theorem c_add (r b : Nat) (i : Int) (n : List AV) (h : Hp) (hn : n.length = 19) (hr : h.H r = some (.cells (rdrC i b))) (hb : h.H b = some (.cells (bkC nl))) : ACalls Tryz.prog 200 [.ptr r 0, .agg n] h (fun x h' => x = .tup [] ∧ ∃ k, h.T k = none ∧ h' = ⟨upd h.H b (some (.cells (bkC (.row 19 [n] (some k))))), upd h.T k (some (.tail 1))⟩) := by
 have h1 := c_top r b i h hr
 have ht : List.take 19 n = n := List.take_of_length_le (by omega)
 unfold bkC ndCp vS vI vB nl s0 at *
 simp only [List.cons_append, List.nil_append] at *
 refine gE Tryz.func200 rfl (by kernel_rfl) 14 rfl fun c => ?_
 (repeat (first | refine gO rfl ?_ | ((first | refine gR ?_ | (with_reducible refine wM ?_ ?_) | ((with_reducible refine xR ?_); refine uE 1 zM21 zP4E zP4P 16 rfl (by kernel_rfl) ?_)) <;> ((try with_reducible intro K1 hK1); simp only [go_sem, ↓reduceIte, reduceCtorEq, nA, nB, nC, nD, nE, nF, Int.reduceBEq, Int.reduceTMod, Int.reduceTDiv, Int.reduceMul, Int.reduceBNe, Int.reduceLT, Int.reduceLE, Int.reduceAdd, Int.reduceSub, Int.reduceNeg, decide_true, decide_false, Bool.true_and, Bool.false_and, Bool.and_true, Bool.and_false, Bool.or_false, Bool.or_true, Bool.true_or, Bool.false_or, Bool.not_true, Bool.not_false, true_implies, false_implies, true_and, and_true, Int.reduceToNat, hb, hn, ht] <;> and_intros <;> first | (apply hK1; clear hK1 K1) | (intros; (decide)) | skip)) | (with_reducible exact rfl) | (refine (h1).mono ?_; rintro _ hz ⟨rfl, hh⟩; ((refine hK1 _ ?_)); clear hK1 K1; rw [hh]; clear hh hz)))
 intro k hk
 refine hK1 _ ?_; clear hK1 K1
 (repeat (first | refine gO rfl ?_ | ((first | refine gR ?_ | (with_reducible refine wM ?_ ?_)) <;> ((try with_reducible intro K1 hK1); simp only [go_sem, ↓reduceIte, reduceCtorEq, nA, nB, nC, nD, nE, nF, Int.reduceBEq, Int.reduceTMod, Int.reduceTDiv, Int.reduceMul, Int.reduceBNe, Int.reduceLT, Int.reduceLE, Int.reduceAdd, Int.reduceSub, Int.reduceNeg, decide_true, decide_false, Bool.true_and, Bool.false_and, Bool.and_true, Bool.and_false, Bool.or_false, Bool.or_true, Bool.true_or, Bool.false_or, Bool.not_true, Bool.not_false, true_implies, false_implies, true_and, and_true, Int.reduceToNat, hb] <;> and_intros <;> (apply hK1; clear hK1 K1)))))
 simp only [Tryz.results200, go_sem, ↓reduceIte, reduceCtorEq, nA, nB, nC, nD, nE, nF]
 exact ⟨_, _, Weak.refl _, Hp.le.refl _, rfl, k, hk, rfl⟩
theorem c_names (r b : Nat) (i : Int) (part : AV) (h : Hp) (hr : h.H r = some (.cells (rdrC i b))) (hb : h.H b = some (.cells (bkC part))) : ACalls Tryz.prog 260 [.ptr r 0] h (fun x h' => x = nl ∧ h' = h) := by
 unfold rdrC vS vI vB at hr
 unfold bkC ndCp vS vI vB nl s0 at *
 simp only [List.cons_append, List.nil_append] at *
 refine gE Tryz.func260 rfl (by kernel_rfl) 30 rfl fun c => ?_
 (repeat (first | refine gO rfl ?_ | (refine gR fun K1 hK1 => ?_; simp only [go_sem, ↓reduceIte, reduceCtorEq, nA, nB, nC, nD, nE, nF, Int.reduceBEq, Int.reduceTMod, Int.reduceTDiv, Int.reduceMul, Int.reduceBNe, Int.reduceLT, Int.reduceLE, Int.reduceAdd, Int.reduceSub, Int.reduceNeg, decide_true, decide_false, Bool.true_and, Bool.false_and, Bool.and_true, Bool.and_false, Bool.or_false, Bool.or_true, Bool.true_or, Bool.false_or, Bool.not_true, Bool.not_false, true_implies, false_implies, true_and, and_true, Int.reduceToNat, hr, hb, nc1] <;> and_intros <;> (apply hK1; clear hK1 K1)) | (refine awp_cond (t := _) rfl (fun hq => ?_) (fun hq => ?_) <;> first | (exact absurd hq (by decide)) | (clear hq)) | (refine awp_un 8 ?_)))
 simp only [Tryz.results260, go_sem, ↓reduceIte, reduceCtorEq, nA, nB, nC, nD, nE, nF]
 exact ⟨_, _, Weak.refl _, Hp.le.refl _, rfl, rfl⟩
theorem c_isReserved (h : Hp) : ACalls Tryz.prog 235 [.v (.string sN)] h (fun x h' => x = .v (.bool false) ∧ h' = h) := by
 have h1 := fun h => g_hasNo sN [⟨#[111, 112, 101, 110]⟩, ⟨#[99, 108, 111, 115, 101]⟩, ⟨#[105, 102]⟩, ⟨#[101, 108, 115, 101]⟩, ⟨#[101, 110, 100]⟩, ⟨#[101, 97, 99, 104]⟩, ⟨#[97, 115]⟩, ⟨#[97, 110, 100]⟩, ⟨#[111, 114]⟩, ⟨#[110, 111, 116]⟩, ⟨#[116, 114, 117, 101]⟩, ⟨#[102, 97, 108, 115, 101]⟩] h (by decide) (by decide)
 simp only [List.map_cons, List.map_nil] at h1
 refine gE Tryz.func235 rfl (by kernel_rfl) 5 rfl fun c => ?_
 (repeat (first | refine gO rfl ?_ | (refine gR fun K1 hK1 => ?_; simp only [go_sem, ↓reduceIte, reduceCtorEq, nA, nB, nC, nD, nE, nF, Int.reduceBEq, Int.reduceTMod, Int.reduceTDiv, Int.reduceMul, Int.reduceBNe, Int.reduceLT, Int.reduceLE, Int.reduceAdd, Int.reduceSub, Int.reduceNeg, decide_true, decide_false, Bool.true_and, Bool.false_and, Bool.and_true, Bool.and_false, Bool.or_false, Bool.or_true, Bool.true_or, Bool.false_or, Bool.not_true, Bool.not_false, true_implies, false_implies, true_and, and_true, Int.reduceToNat] <;> and_intros <;> first | (apply hK1; clear hK1 K1) | (intros; (decide)) | skip) | (refine (h1 _).mono ?_; rintro _ hz ⟨rfl, hh⟩; ((refine hK1 _ ?_)); clear hK1 K1; rw [hh]; clear hh hz)))
 simp only [Tryz.results235, go_sem, ↓reduceIte, reduceCtorEq, nA, nB, nC, nD, nE, nF]
 exact ⟨_, _, Weak.refl _, Hp.le.refl _, rfl, rfl⟩
theorem c_isName (h : Hp) : ACalls Tryz.prog 202 [.v (.string sN)] h (fun x h' => x = .v (.bool true) ∧ h' = h) := by
 have h1 := fun h => c_isReserved h
 have h2 := fun h => a_isKey sN (by decide) h
 rw [show keyB sN = true by decide] at h2
 refine gE Tryz.func202 rfl (by kernel_rfl) 9 rfl fun c => ?_
 (repeat (first | refine gO rfl ?_ | (refine gR fun K1 hK1 => ?_; simp only [go_sem, ↓reduceIte, reduceCtorEq, nA, nB, nC, nD, nE, nF, Int.reduceBEq, Int.reduceTMod, Int.reduceTDiv, Int.reduceMul, Int.reduceBNe, Int.reduceLT, Int.reduceLE, Int.reduceAdd, Int.reduceSub, Int.reduceNeg, decide_true, decide_false, Bool.true_and, Bool.false_and, Bool.and_true, Bool.and_false, Bool.or_false, Bool.or_true, Bool.true_or, Bool.false_or, Bool.not_true, Bool.not_false, true_implies, false_implies, true_and, and_true, Int.reduceToNat] <;> and_intros <;> first | (apply hK1; clear hK1 K1) | skip) | (refine (h1 _).mono ?_; rintro _ hz ⟨rfl, hh⟩; ((refine ⟨rfl, hK1 _ ?_⟩)); clear hK1 K1; rw [hh]; clear hh hz) | (refine (h2 _).mono ?_; rintro _ hz ⟨rfl, hh⟩; ((refine hK1 _ ?_)); clear hK1 K1; rw [hh]; clear hh hz)))
 simp only [Tryz.results202, go_sem, ↓reduceIte, reduceCtorEq, nA, nB, nC, nD, nE, nF]
 exact ⟨_, _, Weak.refl _, Hp.le.refl _, rfl, rfl⟩
theorem c_refOf (h : Hp) : ACalls Tryz.prog 263 [.v (.string sN), nl] h (fun x h' => x = .tup [.agg [vS s0, vS sN], .v (.bool true)] ∧ h' = h) := by
 have h1 := fun h => c_cut h
 have h2 := fun h => c_isName h
 have h3 := fun s h => c_hasNil s h
 unfold nl vS s0 at *
 refine gE Tryz.func263 rfl (by kernel_rfl) 35 rfl fun c => ?_
 (repeat ((refine gM zM22 fun K1 hK1 => ?_; simp only [go_sem, ↓reduceIte, reduceCtorEq, nA, nB, nC, nD, nE, nF, Int.reduceBEq, Int.reduceTMod, Int.reduceTDiv, Int.reduceMul, Int.reduceBNe, Int.reduceLT, Int.reduceLE, Int.reduceAdd, Int.reduceSub, Int.reduceNeg, decide_true, decide_false, Bool.true_and, Bool.false_and, Bool.and_true, Bool.and_false, Bool.or_false, Bool.or_true, Bool.true_or, Bool.false_or, Bool.not_true, Bool.not_false, true_implies, false_implies, true_and, and_true, Int.reduceToNat] <;> and_intros)))
 intro p hp
 refine hK1 _ ?_; clear hK1 K1
 (repeat (first | refine gO rfl ?_ | (refine gM zM22 fun K1 hK1 => ?_; simp only [go_sem, ↓reduceIte, reduceCtorEq, nA, nB, nC, nD, nE, nF, Int.reduceBEq, Int.reduceTMod, Int.reduceTDiv, Int.reduceMul, Int.reduceBNe, Int.reduceLT, Int.reduceLE, Int.reduceAdd, Int.reduceSub, Int.reduceNeg, decide_true, decide_false, Bool.true_and, Bool.false_and, Bool.and_true, Bool.and_false, Bool.or_false, Bool.or_true, Bool.true_or, Bool.false_or, Bool.not_true, Bool.not_false, true_implies, false_implies, true_and, and_true, Int.reduceToNat] <;> and_intros <;> first | (apply hK1; clear hK1 K1) | skip) | (refine awp_cond (t := _) rfl (fun hq => ?_) (fun hq => ?_) <;> first | (exact absurd hq (by decide)) | (clear hq)) | (refine (h1 _).mono ?_; rintro _ hz ⟨rfl, hh⟩; ((refine hK1 _ ?_)); clear hK1 K1; rw [hh]; clear hh hz) | (refine (h2 _).mono ?_; rintro _ hz ⟨rfl, hh⟩; ((refine hK1 _ ?_)); clear hK1 K1; rw [hh]; clear hh hz) | (refine (h3 _ _).mono ?_; rintro _ hz ⟨rfl, hh⟩; ((refine ⟨rfl, hK1 _ ?_⟩)); clear hK1 K1; rw [hh]; clear hh hz)))
 simp only [Tryz.results263, go_sem, ↓reduceIte, reduceCtorEq, nA, nB, nC, nD, nE, nF]
 exact ⟨_, h, Weak.refl _, hle_obj hp, rfl, rfl⟩
def ndN : List AV := ndCp 1 sN
theorem c_fieldTag (r b : Nat) (i : Int) (h : Hp) (hr : h.H r = some (.cells (rdrC i b))) (hb : h.H b = some (.cells (bkC nl))) : ACalls Tryz.prog 234 [.ptr r 0, .v (.string sN)] h (fun x h' => x = .v (.bool true) ∧ ∃ k, h.T k = none ∧ h' = ⟨upd h.H b (some (.cells (bkC (.row 19 [ndN] (some k))))), upd h.T k (some (.tail 1))⟩) := by
 have h1 := fun h => c_split h
 have h2 := fun h hr hb => c_names r b i nl h hr hb
 have h3 := fun h => c_refOf h
 have h4 := fun h hr hb => c_add r b i ndN h rfl hr hb
 have g2 := h2 h hr hb
 have g4 := h4 h hr hb
 clear h2 h4
 unfold nl at g2
 unfold nl vS s0 at h3
 simp only [ndN, ndCp, vI, vS, vB, nl, s0] at g4
 refine gE Tryz.func234 rfl (by kernel_rfl) 56 rfl fun c => ?_
 (repeat (first | refine gO rfl ?_ | ((first | refine gM zM23 ?_ | (with_reducible refine wM ?_ ?_) | ((with_reducible refine xS ?_); refine uF 2 zM23 9 zP5E zP5P 58 rfl (by kernel_rfl) ?_)) <;> ((try with_reducible intro K1 hK1); simp only [go_sem, ↓reduceIte, reduceCtorEq, nA, nB, nC, nD, nE, nF, Int.reduceBEq, Int.reduceTMod, Int.reduceTDiv, Int.reduceMul, Int.reduceBNe, Int.reduceLT, Int.reduceLE, Int.reduceAdd, Int.reduceSub, Int.reduceNeg, decide_true, decide_false, Bool.true_and, Bool.false_and, Bool.and_true, Bool.and_false, Bool.or_false, Bool.or_true, Bool.true_or, Bool.false_or, Bool.not_true, Bool.not_false, true_implies, false_implies, true_and, and_true, Int.reduceToNat, nc1] <;> and_intros <;> first | (apply hK1; clear hK1 K1) | skip)) | (refine awp_cond (t := _) rfl (fun hq => ?_) (fun hq => ?_) <;> first | (exact absurd hq (by decide)) | (clear hq)) | (refine awp_un 8 ?_) | (with_reducible exact rfl) | ((with_reducible show uside _); (exact True.intro)) | ((with_reducible show opS _ _); exact True.intro) | (refine (h1 _).mono ?_; rintro _ hz ⟨rfl, hh⟩; ((refine hK1 _ ?_)); clear hK1 K1; rw [hh]; clear hh hz) | (refine (g2).mono ?_; rintro _ hz ⟨rfl, hh⟩; ((refine hK1 _ ?_)); clear hK1 K1; rw [hh]; clear hh hz) | (refine (h3 _).mono ?_; rintro _ hz ⟨rfl, hh⟩; ((refine hK1 _ ?_)); clear hK1 K1; rw [hh]; clear hh hz)))
 refine g4.mono ?_
 rintro _ hz ⟨rfl, k, hk, rfl⟩
 refine hK1 _ ?_; clear hK1 K1
 (repeat (first | refine gO rfl ?_ | ((refine gM zM23 fun K1 hK1 => ?_; simp only [go_sem, ↓reduceIte, reduceCtorEq, nA, nB, nC, nD, nE, nF, Int.reduceBEq, Int.reduceTMod, Int.reduceTDiv, Int.reduceMul, Int.reduceBNe, Int.reduceLT, Int.reduceLE, Int.reduceAdd, Int.reduceSub, Int.reduceNeg, decide_true, decide_false, Bool.true_and, Bool.false_and, Bool.and_true, Bool.and_false, Bool.or_false, Bool.or_true, Bool.true_or, Bool.false_or, Bool.not_true, Bool.not_false, true_implies, false_implies, true_and, and_true, Int.reduceToNat] <;> and_intros <;> (apply hK1; clear hK1 K1)))))
 simp only [Tryz.results234, go_sem, ↓reduceIte, reduceCtorEq, nA, nB, nC, nD, nE, nF]
 exact ⟨_, _, Weak.refl _, Hp.le.refl _, rfl, k, hk, rfl⟩
theorem c_tag (r b : Nat) (i : Int) (h : Hp) (hr : h.H r = some (.cells (rdrC i b))) (hb : h.H b = some (.cells (bkC nl))) : ACalls Tryz.prog 201 [.ptr r 0, .v (.string sN)] h (fun x h' => x = .v (.bool true) ∧ ∃ k, h.T k = none ∧ h' = ⟨upd h.H b (some (.cells (bkC (.row 19 [ndN] (some k))))), upd h.T k (some (.tail 1))⟩) := by
 have g1 := c_fieldTag r b i h hr hb
 have h2 := fun h => c_cutPrefix ⟨#[105, 102, 32]⟩ h (by decide)
 have h3 := fun h => c_cutPrefix ⟨#[101, 97, 99, 104, 32]⟩ h (by decide)
 have e1 : (sN == ⟨#[111, 112, 101, 110]⟩) = false := by decide
 have e2 : (sN == ⟨#[99, 108, 111, 115, 101]⟩) = false := by decide
 have e3 : (sN == ⟨#[101, 108, 115, 101]⟩) = false := by decide
 have e4 : (sN == ⟨#[101, 110, 100]⟩) = false := by decide
 refine gE Tryz.func201 rfl (by kernel_rfl) 47 rfl fun c => ?_
 (repeat (first | refine gO rfl ?_ | (refine gR fun K1 hK1 => ?_; simp only [go_sem, ↓reduceIte, reduceCtorEq, nA, nB, nC, nD, nE, nF, Int.reduceBEq, Int.reduceTMod, Int.reduceTDiv, Int.reduceMul, Int.reduceBNe, Int.reduceLT, Int.reduceLE, Int.reduceAdd, Int.reduceSub, Int.reduceNeg, decide_true, decide_false, Bool.true_and, Bool.false_and, Bool.and_true, Bool.and_false, Bool.or_false, Bool.or_true, Bool.true_or, Bool.false_or, Bool.not_true, Bool.not_false, true_implies, false_implies, true_and, and_true, Int.reduceToNat, e1, e2, e3, e4] <;> and_intros <;> first | (apply hK1; clear hK1 K1) | skip) | (refine awp_cond (t := _) rfl (fun hq => ?_) (fun hq => ?_) <;> first | (exact absurd hq (by decide)) | (clear hq)) | (refine (h2 _).mono ?_; rintro _ hz ⟨rfl, hh⟩; ((refine hK1 _ ?_)); clear hK1 K1; rw [hh]; clear hh hz) | (refine (h3 _).mono ?_; rintro _ hz ⟨rfl, hh⟩; ((refine hK1 _ ?_)); clear hK1 K1; rw [hh]; clear hh hz)))
 refine g1.mono ?_
 rintro _ hz ⟨rfl, k, hk, rfl⟩
 refine hK1 _ ?_; clear hK1 K1
 (repeat (first | refine gO rfl ?_ | (refine gR fun K1 hK1 => ?_; simp only [go_sem, ↓reduceIte, reduceCtorEq, nA, nB, nC, nD, nE, nF, Int.reduceBEq, Int.reduceTMod, Int.reduceTDiv, Int.reduceMul, Int.reduceBNe, Int.reduceLT, Int.reduceLE, Int.reduceAdd, Int.reduceSub, Int.reduceNeg, decide_true, decide_false, Bool.true_and, Bool.false_and, Bool.and_true, Bool.and_false, Bool.or_false, Bool.or_true, Bool.true_or, Bool.false_or, Bool.not_true, Bool.not_false, true_implies, false_implies, true_and, and_true, Int.reduceToNat] <;> and_intros <;> (apply hK1; clear hK1 K1))))
 simp only [Tryz.results201, go_sem, ↓reduceIte, reduceCtorEq, nA, nB, nC, nD, nE, nF]
 exact ⟨_, _, Weak.refl _, Hp.le.refl _, rfl, k, hk, rfl⟩
theorem c_run (r : Nat) (h : Hp) (hr : h.H r = some (.cells [vS sT, vI 0, nl, vB false])) : ACalls Tryz.prog 161 [.ptr r 0] h (fun x h' => x = .v (.bool true) ∧ ∃ b k, h'.H r = some (.cells (rdrC 3 b)) ∧ h'.H b = some (.cells (bkC (.row 19 [ndN] (some k)))) ∧ h'.T k = some (.tail 1)) := by
 have h1 := fun h => c_indexAny h
 have h2 := fun h => c_indexByte h
 have z1 : (sT.size : Int) = 3 := rfl
 have z2 : ((sT.data.toList.getD 0 0).toNat : Int) = 123 := rfl
 have z3 : sT.extract 0 3 = sT := by decide
 have z4 : sT.extract 1 2 = sN := by decide
 unfold vS vI nl vB at hr
 refine gE Tryz.func161 rfl (by kernel_rfl) 130 rfl fun c => ?_
 (repeat (first | refine gO rfl ?_ | ((refine gM zM24 fun K1 hK1 => ?_; simp only [go_sem, ↓reduceIte, reduceCtorEq, nA, nB, nC, nD, nE, nF, Int.reduceBEq, Int.reduceTMod, Int.reduceTDiv, Int.reduceMul, Int.reduceBNe, Int.reduceLT, Int.reduceLE, Int.reduceAdd, Int.reduceSub, Int.reduceNeg, decide_true, decide_false, Bool.true_and, Bool.false_and, Bool.and_true, Bool.and_false, Bool.or_false, Bool.or_true, Bool.true_or, Bool.false_or, Bool.not_true, Bool.not_false, true_implies, false_implies, true_and, and_true, Int.reduceToNat, hr] <;> and_intros <;> first | (apply hK1; clear hK1 K1) | skip))))
 intro b hb
 have hrb : r ≠ b := by rintro rfl; rw [hr] at hb; cases hb
 have hor : ∀ o, upd h.H b o r = some (.cells [.v (.string sT), .v (.int .i64 0), .v (.slice none 0 0), .v (.bool false)]) := fun o => (upd_other _ _ hrb).trans hr
 ((simp only [go_sem, ↓reduceIte, reduceCtorEq, nA, nB, nC, nD, nE, nF, hor]; (try and_intros); all_goals first | (refine hK1 _ ?_; clear hK1 K1) | (intros; first | omega | decide | (simp_all <;> omega)) | skip))
 (repeat (first | refine gO rfl ?_ | ((first | refine gM zM24 ?_ | (with_reducible refine wM ?_ ?_) | ((with_reducible refine xS ?_); refine uD 2 zM24 zP6E zP6P 131 rfl (by kernel_rfl) ?_) | ((with_reducible refine xS ?_); refine uD 3 zM24 zP7E zP7P 131 rfl (by kernel_rfl) ?_) | ((with_reducible refine xS ?_); refine uD 9 zM24 zPAE zPAP 131 rfl (by kernel_rfl) ?_) | ((with_reducible refine xS ?_); refine uD 10 zM24 zPBE zPBP 131 rfl (by kernel_rfl) ?_)) <;> ((try with_reducible intro K1 hK1); simp only [go_sem, ↓reduceIte, reduceCtorEq, nA, nB, nC, nD, nE, nF, Int.reduceBEq, Int.reduceTMod, Int.reduceTDiv, Int.reduceMul, Int.reduceBNe, Int.reduceLT, Int.reduceLE, Int.reduceAdd, Int.reduceSub, Int.reduceNeg, decide_true, decide_false, Bool.true_and, Bool.false_and, Bool.and_true, Bool.and_false, Bool.or_false, Bool.or_true, Bool.true_or, Bool.false_or, Bool.not_true, Bool.not_false, true_implies, false_implies, true_and, and_true, Int.reduceToNat, upd_same, z1, z2, z3, z4] <;> and_intros <;> first | (apply hK1; clear hK1 K1) | skip)) | (refine awp_cond (t := _) rfl (fun hq => ?_) (fun hq => ?_) <;> first | (exact absurd hq (by decide)) | (clear hq)) | (refine awp_un 8 ?_) | ((with_reducible show uside _); (exact True.intro)) | ((with_reducible show opS _ _); exact True.intro) | (refine (h1 _).mono ?_; rintro _ hz ⟨rfl, hh⟩; ((refine hK1 _ ?_)); clear hK1 K1; rw [hh]; clear hh hz) | (refine (h2 _).mono ?_; rintro _ hz ⟨rfl, hh⟩; ((refine hK1 _ ?_)); clear hK1 K1; rw [hh]; clear hh hz)))
 refine ⟨.v (.string sN), ⟨⟨rfl, rfl, True.intro⟩, ?_⟩, rfl, ?_⟩
 ·unfold qE
  simp only [go_sem, ↓reduceIte, reduceCtorEq, Nat.reduceAdd, Nat.reduceSub, Nat.reduceMul, Nat.reduceLT, Nat.reduceLeDiff, Nat.reduceEqDiff, z1, z4]
  exact ⟨by decide, congrArg (fun s => AV.v (.string s)) z4⟩
 refine hK1 _ ?_; clear hK1 K1
 (repeat (((refine gM zM24 fun K1 hK1 => ?_; simp only [go_sem, ↓reduceIte, reduceCtorEq, nA, nB, nC, nD, nE, nF, Int.reduceBEq, Int.reduceTMod, Int.reduceTDiv, Int.reduceMul, Int.reduceBNe, Int.reduceLT, Int.reduceLE, Int.reduceAdd, Int.reduceSub, Int.reduceNeg, decide_true, decide_false, Bool.true_and, Bool.false_and, Bool.and_true, Bool.and_false, Bool.or_false, Bool.or_true, Bool.true_or, Bool.false_or, Bool.not_true, Bool.not_false, true_implies, false_implies, true_and, and_true, Int.reduceToNat] <;> and_intros))))
 have g1 := c_tag r b 0 ⟨upd (upd h.H b (some (.cells (bkC nl)))) r (some (.cells (rdrC 0 b))), h.T⟩ (upd_same _ _ _) ((upd_other _ _ hrb.symm).trans (upd_same _ _ _))
 refine g1.mono ?_
 rintro _ hz ⟨rfl, k, hk, rfl⟩
 refine ⟨rfl, hK1 _ ?_⟩; clear hK1 K1 g1
 generalize hbb : bkC (.row 19 [ndN] (some k)) = bb
 have hor2 : ∀ o, upd (upd (upd h.H b (some (.cells (bkC nl)))) r (some (.cells (rdrC 0 b)))) b o r = some (.cells [.v (.string sT), .v (.int .i64 0), .row 1 [[.ptr b 0]] none, .v (.bool false)]) := fun o => (upd_other _ _ hrb).trans (upd_same _ _ _)
 (repeat (first | refine gO rfl ?_ | ((first | refine gM zM24 ?_ | (with_reducible refine wM ?_ ?_) | ((with_reducible refine xS ?_); refine uD 2 zM24 zP6E zP6P 131 rfl (by kernel_rfl) ?_)) <;> ((try with_reducible intro K1 hK1); simp only [go_sem, ↓reduceIte, reduceCtorEq, nA, nB, nC, nD, nE, nF, Int.reduceBEq, Int.reduceTMod, Int.reduceTDiv, Int.reduceMul, Int.reduceBNe, Int.reduceLT, Int.reduceLE, Int.reduceAdd, Int.reduceSub, Int.reduceNeg, decide_true, decide_false, Bool.true_and, Bool.false_and, Bool.and_true, Bool.and_false, Bool.or_false, Bool.or_true, Bool.true_or, Bool.false_or, Bool.not_true, Bool.not_false, true_implies, false_implies, true_and, and_true, Int.reduceToNat, upd_same, z1, hor2, nc1] <;> and_intros <;> (apply hK1; clear hK1 K1))) | (refine awp_cond (t := _) rfl (fun hq => ?_) (fun hq => ?_) <;> first | (exact absurd hq (by decide)) | (clear hq))))
 simp only [Tryz.results161, go_sem, ↓reduceIte, reduceCtorEq, nA, nB, nC, nD, nE, nF]
 exact ⟨_, _, Weak.refl _, Hp.le.refl _, rfl, b, k, upd_same _ _ _, ((upd_other _ _ hrb.symm).trans (upd_same _ _ _)).trans (by rw [hbb]), upd_same _ _ _⟩
theorem c_parse (h : Hp) : ACalls Tryz.prog 120 [.v (.string sT)] h (fun x h' => x = .tup [.row 19 [ndN] none, .v (.int .i64 0), .v (.int .i64 0)]) := by
 have h1 := fun r h hr => c_run r h hr
 have z1 : (sT.size : Int) = 3 := rfl
 refine gE Tryz.func120 rfl (by kernel_rfl) 31 rfl fun c => ?_
 (repeat (first | refine gO rfl ?_ | ((refine gM zM25 fun K1 hK1 => ?_; simp only [go_sem, ↓reduceIte, reduceCtorEq, nA, nB, nC, nD, nE, nF, Int.reduceBEq, Int.reduceTMod, Int.reduceTDiv, Int.reduceMul, Int.reduceBNe, Int.reduceLT, Int.reduceLE, Int.reduceAdd, Int.reduceSub, Int.reduceNeg, decide_true, decide_false, Bool.true_and, Bool.false_and, Bool.and_true, Bool.and_false, Bool.or_false, Bool.or_true, Bool.true_or, Bool.false_or, Bool.not_true, Bool.not_false, true_implies, false_implies, true_and, and_true, Int.reduceToNat, z1] <;> and_intros <;> first | (apply hK1; clear hK1 K1) | skip)) | (refine awp_cond (t := _) rfl (fun hq => ?_) (fun hq => ?_) <;> first | (exact absurd hq (by decide)) | (clear hq))))
 intro r hr
 refine hK1 _ ?_; clear hK1 K1
 (repeat (first | refine gO rfl ?_ | ((refine gM zM25 fun K1 hK1 => ?_; simp only [go_sem, ↓reduceIte, reduceCtorEq, nA, nB, nC, nD, nE, nF, Int.reduceBEq, Int.reduceTMod, Int.reduceTDiv, Int.reduceMul, Int.reduceBNe, Int.reduceLT, Int.reduceLE, Int.reduceAdd, Int.reduceSub, Int.reduceNeg, decide_true, decide_false, Bool.true_and, Bool.false_and, Bool.and_true, Bool.and_false, Bool.or_false, Bool.or_true, Bool.true_or, Bool.false_or, Bool.not_true, Bool.not_false, true_implies, false_implies, true_and, and_true, Int.reduceToNat] <;> and_intros))))
 refine (h1 r _ (upd_same _ _ _)).mono ?_
 rintro _ ha ⟨rfl, b, k, har, hab, hak⟩
 refine hK1 _ ?_; clear hK1 K1 h1
 unfold rdrC vS vI vB at har
 generalize hnn : ([ndN] : List (List AV)) = nn at *
 unfold bkC ndCp vS vI vB nl s0 at hab
 simp only [List.cons_append, List.nil_append] at hab
 (repeat (first | refine gO rfl ?_ | ((refine gM zM25 fun K1 hK1 => ?_; simp only [go_sem, ↓reduceIte, reduceCtorEq, nA, nB, nC, nD, nE, nF, Int.reduceBEq, Int.reduceTMod, Int.reduceTDiv, Int.reduceMul, Int.reduceBNe, Int.reduceLT, Int.reduceLE, Int.reduceAdd, Int.reduceSub, Int.reduceNeg, decide_true, decide_false, Bool.true_and, Bool.false_and, Bool.and_true, Bool.and_false, Bool.or_false, Bool.or_true, Bool.true_or, Bool.false_or, Bool.not_true, Bool.not_false, true_implies, false_implies, true_and, and_true, Int.reduceToNat, har, hab] <;> and_intros <;> first | (apply hK1; clear hK1 K1) | (intros; (omega)))) | (refine awp_cond (t := _) rfl (fun hq => ?_) (fun hq => ?_) <;> first | (exact absurd hq (by decide)) | (clear hq))))
 simp only [Tryz.results120, go_sem, ↓reduceIte, reduceCtorEq, nA, nB, nC, nD, nE, nF]
 exact ⟨_, _, Weak.tupW (Weak.row _ _ _), Hp.le.refl _, rfl⟩
open Go Go.RowKit
def fV : List Value := [.string sN, .int .i64 2, .string ⟨#[]⟩, .int .i64 5, .bool false, .slice none 0 0]
def fC : List AV := fV.map .v
theorem w_cmp (w : World) : Calls Tryz.prog 269 #[.agg #[.string sN, .int .i64 2, .string ⟨#[]⟩, .int .i64 5, .bool false, .slice none 0 0], .string sN] w fun e w' => e = .returned (.int .i64 0) ∧ Below w.heap.size w w' := by
 have HC := fun w => Tryz.strings_Compare sN sN w
 go_enter Tryz.func269, Tryz.ntmps269
 go_wp2_with fail
 refine (HC _).mono ?_
 rintro e w1 ⟨rfl, rfl⟩
 go_wp2_with fail
 go_ret
 exact ⟨rfl, bfirst _ _⟩
theorem w_search (b o c : Nat) (w : World) (hbl : b < w.heap.size) (h0 : ∀ j (hj : j < fV.length), w.cell? ⟨b, o + j, none⟩ = some fV[j]) :
  Calls Tryz.prog 268 #[.slice (some ⟨b, o, none⟩) 1 c, .string sN, .func (.func 269) #[] #[]] w fun e w' => e = .returned (.tuple #[.int .i64 0, .bool true]) ∧ Below w.heap.size w w' := by
 have c0 := h0 0 (by decide)
 have c1 := h0 1 (by decide)
 have c2 := h0 2 (by decide)
 have c3 := h0 3 (by decide)
 have c4 := h0 4 (by decide)
 have c5 := h0 5 (by decide)
 simp only [fV, List.getElem_cons_zero, List.getElem_cons_succ] at c0 c1 c2 c3 c4 c5
 have hcl : ∀ j v, j < 6 → w.cell? ⟨b, o + j, none⟩ = some v → ∀ wr, Below w.heap.size w wr → wr.cell? ⟨b, o + j, none⟩ = some v := fun j v _ hv wr hb => bold hb hv
 have HC := Lib.hid (show ∀ wr, Below w.heap.size w wr → b < wr.heap.size ∧ wr.cell? ⟨b, o, none⟩ = some (.string sN) ∧ wr.cell? ⟨b, o + 1, none⟩ = some (.int .i64 2) ∧ wr.cell? ⟨b, o + 2, none⟩ = some (.string ⟨#[]⟩) ∧ wr.cell? ⟨b, o + 3, none⟩ = some (.int .i64 5) ∧ wr.cell? ⟨b, o + 4, none⟩ = some (.bool false) ∧ wr.cell? ⟨b, o + 5, none⟩ = some (.slice none 0 0) from fun wr hb => ⟨Nat.lt_of_lt_of_le hbl hb.size, bold hb c0, bold hb c1, bold hb c2, bold hb c3, bold hb c4, bold hb c5⟩)
 have eg := enters_of Tryz.func269 (by kernel_rfl) rfl
 clear h0 c0 c1 c2 c3 c4 c5 hcl hbl
 go_enter Tryz.func268, Tryz.ntmps268
 go_wp2_with fail
 go_loopg [9, 10, 11] 1 (fun g s9 s10 _ wr => ∃ hi : Nat, s9 = .int .i64 0 ∧ s10 = .int .i64 hi ∧ hi ≤ 1 ∧ hi ≤ g ∧ Below w.heap.size w wr)
 case atStart => exact ⟨1, rfl, rfl, by omega, by omega, Below.refl _ _⟩
 case round =>
  obtain ⟨hi, rfl, rfl, h1, hg, hb⟩ := hrel
  obtain ⟨hbl, c0, c1, c2, c3, c4, c5⟩ := HC.out wr hb
  obtain rfl | rfl : hi = 0 ∨ hi = 1 := by omega
  ·go_wp2_with fail
   refine (w_cmp _).mono ?_
   rintro e w1 ⟨rfl, hb1⟩
   go_wp2_with fail
   go_ret2
   exact ⟨rfl, bon hb hb1⟩
  ·have hgk : gk ≠ 0 := by omega
   go_wp2_with fail
   refine (w_cmp _).mono ?_
   rintro e w1 ⟨rfl, hb1⟩
   go_wp2_with fail
   go_roundg 0
   case measure => omega
   case rel => exact ⟨0, rfl, rfl, by omega, by omega, bon hb hb1⟩
end Go.Proofs.YtgnknjlgcinboaaGreatDoor
