/- Stream.Near: some neighbours, nearly always right ones. -/
import Derived.Test.YtegalkmfoffpfaaDoorGenPeers
import Derived.Test.YtegalkmfoffpfaaDoorRegionLate2
import Derived.Test.YtegalkmfoffpfaaDoorNearOf
namespace Go.Proofs.YtegalkmfoffpfaaDoor
open Go.RowKit
attribute [local go_sem ↓] Go.wp_at_zero Go.wp_at_succ
theorem infoPa : (Tryd.prog.info? 89).map (fun i => (i.zero, i.size, i.bytes)) = some (some (.agg #[.string ⟨#[]⟩, .string ⟨#[]⟩]), 2, 32) := by kernel_rfl
def GoesNear (b M : Nat) (w : World) (e : Ending) (w' : World) : Prop :=
  ∃ (v : Value) (ne : List PairD), ne.length ≤ 100 ∧ e = .returned v ∧ w'.ownsRow w.heap.size 89 2 v ne.length (ne.flatMap paC) ∧ Goes 25 b M 100 w w'
def GnOut (b M : Nat) (w : World) (n : Nat) (g : Nat) (out i : Value) (wr : World) : Prop :=
  ∃ (k : Nat) (ne : List PairD), k + g = n ∧ i = .int .i64 k ∧ ne.length ≤ 5 * k ∧ wr.ownsRow w.heap.size 89 2 out ne.length (ne.flatMap paC) ∧ Goes 25 b M (10 * k) w wr
def GnIn (b M : Nat) (w : World) (k pb : Nat) (key : ByteArray) (u : Value) (n : Nat) (g : Nat) (out i : Value) (wr : World) : Prop :=
  ∃ (j : Nat) (ne : List PairD), j + g = n ∧ i = .int .i64 j ∧ ne.length ≤ 5 * k + j ∧ wr.heap[pb]? = some (.cells #[.string key, u] 85 (0, 0)) ∧ wr.ownsRow w.heap.size 89 2 out ne.length (ne.flatMap paC) ∧ Goes 25 b M (10 * k + 2 * j) w wr
theorem PeersAt.cap {w : World} {lo n c : Nat} {A : Option Addr} {ps : List PeerD} (h : PeersAt w lo (.slice A n c) ps) : n ≤ c := by
  obtain ⟨qs, ⟨A', n', c', hv, hn, _⟩, _⟩ := h
  simp only [Value.slice.injEq] at hv
  obtain ⟨_, rfl, rfl⟩ := hv
  exact hn
/-- The pairs and the stream, n numbers later. -/
structure NSt (b M : Nat) (w : World) (og oc : Nat) (ne : List PairD) (n : Nat) (W : World) : Prop where
  own : W.ownsRow w.heap.size 89 2 (.slice (some ⟨og, 0, none⟩) ne.length oc) ne.length (ne.flatMap paC)
  go : Goes 25 b M n w W
section
variable {b M : Nat} {w : World} {og oc : Nat} {ne : List PairD} {n j : Nat} {W W' : World}
theorem NSt.alloc (h : NSt b M w og oc ne n W) (o : Obj) : NSt b M w og oc ne n (W.alloc o) := ⟨h.own.alloc o, h.go.alloc o⟩
theorem NSt.drew (h : NSt b M w og oc ne n W) : NSt b M w og oc ne n W.drew := ⟨h.own, h.go.is, gb_drewN h.go.gb 1⟩
theorem NSt.goes (h : NSt b M w og oc ne n W) (hlt : b < w.heap.size) (hg : Goes 25 b (M + n) j W W') : NSt b M w og oc ne (n + j) W' := ⟨ownsRow_gbS h.own hg.gb hlt, h.go.trans hg (Nat.le_refl _)⟩
theorem pair_cells {lo k c n : Nat} {x0 x1 : ByteArray} (h : W.ownsRow lo 89 2 (.slice (some ⟨og, 0, none⟩) k c) n (ne.flatMap paC)) (hk : k = n) (hx : ne[0]? = some (x0, x1)) : W.cell? ⟨og, 0, none⟩ = some (.string x0) ∧ W.cell? ⟨og, 1, none⟩ = some (.string x1) := by
  obtain ⟨hi, hx⟩ := List.getElem?_eq_some_iff.1 hx
  have a0 := flatK_at (enc := paC) (k := 2) (fun _ => rfl) ne 0 0 hi (by omega)
  have a1 := flatK_at (enc := paC) (k := 2) (fun _ => rfl) ne 0 1 hi (by omega)
  rw [hx] at a0 a1
  exact ⟨by simpa using (own_cellP h hk a0).1, by simpa using (own_cellP h hk a1).1⟩
theorem NSt.cells {x0 x1 : ByteArray} (h : NSt b M w og oc ne n W) (hx : ne[0]? = some (x0, x1)) : W.cell? ⟨og, 0, none⟩ = some (.string x0) ∧ W.cell? ⟨og, 1, none⟩ = some (.string x1) := pair_cells h.own rfl hx
theorem NSt.append {ops : Array Oper} {o : Oper} {a : Act} {K : Act → World → Prop} {Q : Exit → Act → World → Prop} {E : Prop} {c : Nat} {y0 y1 : ByteArray} (h : NSt b M w og oc ne n W) (hgd : o.guard = none) (s x : Operand)
    (hop : o.op = .call { callee := .builtin .append, args := #[s, x], argTypes := #[49, 49] }) (hs : a.eval s = .slice (some ⟨og, 0, none⟩) ne.length oc) (hx : a.eval x = .slice (some ⟨c, 0, none⟩) 1 1)
    (hb : W.heap[c]? = some (.cells #[.string y0, .string y1] 89 (0, 0))) (hn : ne.length ≤ 1000) (hlt : b < w.heap.size)
    (hK : ∀ (g cap : Nat) (W' : World), W'.ownsRow w.heap.size 89 2 (.slice (some ⟨g, 0, none⟩) (ne.length + 1) cap) (ne ++ [(y0, y1)]).length ((ne ++ [(y0, y1)]).flatMap paC) → Goes 25 b M n w W' → K (a.put o.dst (.slice (some ⟨g, 0, none⟩) (ne.length + 1) cap)) W') :
    if Region.wanted o (yielded ops a.tmps) = true then Oper.wp Tryd.prog o a W K Q else E := by
  obtain ⟨i0, ii, iz0, iz1, iz2⟩ := info_parts infoPa
  refine step_append_lies _ hgd s x 49 hop w.heap.size 89 i0 _ 2 32 Tryd.underlying49 ii iz0 iz1 iz2 rfl (by decide) _ ne.length _ hs h.own ⟨c, 0, none⟩ 1 1 [.string y0, .string y1] hx rfl ?_ ?_ (by omega) (by unfold maxLen; omega) (by omega) (by have := h.go.gb.size; omega) _ rfl ?_
  · intro j u' hj
    rcases j with _ | _ | j
    · simp at hj; subst hj; simp [Addr.add, World.cell?, hb]
    · simp at hj; subst hj; simp [Addr.add, World.cell?, hb]
    · simp at hj
  · intro u' hu'; simp at hu'; rcases hu' with rfl | rfl <;> rfl
  · intro g cap w' hown' hgrow _ _
    have ho2 : w'.ownsRow w.heap.size 89 2 (.slice (some ⟨g, 0, none⟩) (ne.length + 1) cap) (ne ++ [(y0, y1)]).length ((ne ++ [(y0, y1)]).flatMap paC) := by rw [List.length_append, List.flatMap_append]; exact hown'
    have hgo : Goes 25 b M n w w' := h.go.belowAt (B := w.heap.size) (Nat.le_refl _) hlt ((Below.refl _ _).grown hgrow (by have := h.go.gb.size; omega) (fun x hx => (own_ge h.own hx).1))
    exact hK g cap w' ho2 hgo
end
theorem own_setne {w : World} {base e size n : Nat} {v : Value} {xs : List Value} {p : Addr} (h : w.ownsRow base e size v n xs) (hne : ∀ g, v.ownBlock = some g → g ≠ p.block) (u : Value) : (w.setCell p u).ownsRow base e size v n xs := by
  obtain ⟨hl, h2⟩ := h
  refine ⟨hl, ?_⟩
  rcases h2 with h2 | ⟨g, cap, cur, hv, hg', hh, r⟩
  · exact .inl h2
  · exact .inr ⟨g, cap, cur, hv, hg', (Below.heap_setCell _ _ _ _ (hne g (by rw [hv]; rfl))).trans hh, r⟩
set_option maxRecDepth 100000 in
set_option maxHeartbeats 4000000 in
theorem gnear_any (b M lo c : Nat) (A : Option Addr) (ps : List PeerD) (w : World) (hs : IsStream 25 w b M) (hM : M ≤ 100000000000000) (hf : PeersAt w lo (.slice A ps.length c) ps) (hlo : b < lo) (hn : ps.length ≤ 5) :
    Calls Tryd.prog 19 #[.pointer (some ⟨b, 0, none⟩), .slice A ps.length c] w (GoesNear b M w) := by
  have hlt := hs.lt
  have HF := Lib.hid hf
  have HS := Lib.hid hs
  obtain ⟨i0, hi, hz0, hz1, hz2⟩ := info_parts infoPa
  clear hf hs
  go_enter Tryd.func19, Tryd.ntmps19
  go_wp2_with fail
  go_loopg [5, 6, 7, 9, 10, 13, 23] ps.length (fun g out _ _ _ _ i _ wr => GnOut b M w ps.length g out i wr)
  case atStart => exact ⟨0, [], by omega, rfl, Nat.le_refl _, World.ownsRow_nil _ _ _ _, Goes.refl HS.out⟩
  case round =>
    obtain ⟨k, ne, hk, rfl, hnl, ho, hgo⟩ := hrel
    have hz := hgo.gb.size
    by_cases hg : gk = 0
    rotate_left
    · have hkn : k < ps.length := by omega
      have hknI : (k : Int) < (ps.length : Int) := by omega
      have hgk : gk ≠ 0 := hg
      have HK := Lib.hid hk
      have hfw := HF.out.grown hgo.gb hlo
      obtain ⟨g, o, B2, m2, d2, rfl, hgl, x0, x1, hm2, hL2⟩ := hfw.at_ hkn
      clear hk hg hfw hL2 hm2
      generalize ps[k].1 = key at *
      have hcap := HF.out.cap
      by_cases hc : c = k + 1
      · go_upto_region 6 with fail
        generalize hnn : ps.length - (k + 1) = nn at *
        have hnn5 : nn ≤ 5 := by omega
        have hPB := heap_alloc_new wr (.cells #[.string key, .slice B2 m2 d2] 85)
        have hOB := ho.alloc (.cells #[.string key, .slice B2 m2 d2] 85)
        have hGB := hgo.alloc (.cells #[.string key, .slice B2 m2 d2] 85)
        generalize wr.alloc (.cells #[.string key, .slice B2 m2 d2] 85) = w2 at *
        have HNN := Lib.hid hnn
        have hbp : b < wr.heap.size := by omega
        have hwp : w.heap.size ≤ wr.heap.size := hz
        clear hnn ho hgo x0 x1 hgl hz
        generalize wr.heap.size = pb at *
        clear wr
        obtain ⟨gq, rfl⟩ : ∃ gq, gq = gk := ⟨_, rfl⟩
        go_loopg [5, 9, 10, 23] nn (fun g out _ _ i wx => GnIn b M w k pb key (.slice B2 m2 d2) nn g out i wx)
        case atStart => exact ⟨0, ne, by omega, rfl, by omega, hPB, hOB, hGB⟩
        case round =>
          clear hPB hOB hGB
          obtain ⟨j, ne2, hk, rfl, hnl2, hPB, ho2, hgo2⟩ := hrel
          by_cases hg : gk = 0
          · have HO2 := Lib.hid ho2
            obtain rfl : j = nn := by omega
            clear hk hg hPB ho2
            go_wp2_with fail
            go_roundg (gq - 1)
            case measure => omega
            case rel => exact ⟨k + 1, ne2, by have := HK.out; omega, by go_num, by omega, HO2.out, hgo2.more (by omega)⟩
          · have := HNN.out; omega
      · go_upto_region 6 with fail
        generalize hnn : ps.length - (k + 1) = nn at *
        have hnn5 : nn ≤ 5 := by omega
        have hPB := heap_alloc_new wr (.cells #[.string key, .slice B2 m2 d2] 85)
        have hOB := ho.alloc (.cells #[.string key, .slice B2 m2 d2] 85)
        have hGB := hgo.alloc (.cells #[.string key, .slice B2 m2 d2] 85)
        generalize wr.alloc (.cells #[.string key, .slice B2 m2 d2] 85) = w2 at *
        have HNN := Lib.hid hnn
        have hbp : b < wr.heap.size := by omega
        have hwp : w.heap.size ≤ wr.heap.size := hz
        clear hnn ho hgo x0 x1 hgl hz
        generalize wr.heap.size = pb at *
        clear wr
        obtain ⟨gq, rfl⟩ : ∃ gq, gq = gk := ⟨_, rfl⟩
        go_loopg [5, 9, 10, 23] nn (fun g out _ _ i wx => GnIn b M w k pb key (.slice B2 m2 d2) nn g out i wx)
        case atStart => exact ⟨0, ne, by omega, rfl, by omega, hPB, hOB, hGB⟩
        case round =>
          clear hPB hOB hGB
          obtain ⟨j, ne2, hk, rfl, hnl2, hPB, ho2, hgo2⟩ := hrel
          by_cases hg : gk = 0
          · have HO2 := Lib.hid ho2
            obtain rfl : j = nn := by omega
            clear hk hg hPB ho2
            go_wp2_with fail
            go_roundg (gq - 1)
            case measure => omega
            case rel => exact ⟨k + 1, ne2, by have := HK.out; omega, by go_num, by omega, HO2.out, hgo2.more (by omega)⟩
          · have hjn : j < nn := by omega
            have hjI : (j : Int) < (nn : Int) := by omega
            have hgk2 : gk ≠ 0 := hg
            have HJ := Lib.hid hk
            have hkj : k + 1 + j < ps.length := by have := HNN.out; omega
            have hfw := HF.out.grown hgo2.gb hlo
            obtain ⟨g', o', B3, m3, d3, eg, hgl, x0, x1, hm3, hL3⟩ := hfw.at_ hkj
            simp only [Option.some.injEq, Addr.mk.injEq] at eg
            obtain ⟨rfl, rfl, _⟩ := eg
            have ea : o + (k + 1 + j) * 2 = o + (k + 1) * 2 + j * 2 := by omega
            rw [ea] at x0 x1
            generalize ps[k + 1 + j].1 = key2 at *
            have hzg := hgo2.gb.size
            have hpl := block_lt hPB
            have HPB := Lib.hid hPB
            clear hk hg hfw ea hPB hm3 hL3
            go_wp2_with fail
            refine (flip_any b (M + (10 * k + 2 * j)) 2 _ (hgo2.is.alloc _) (by omega) (by omega) (by omega)).mono ?_
            rintro e w4 ⟨fl, rfl, g4⟩
            have hQ4 := (g4.gb.block wr.heap.size (by simp) (fun e => by injection e with e; omega)).trans (heap_alloc_new wr (.cells #[.string key2, .slice B3 m3 d3] 85))
            have hP4 := (g4.gb.block pb (by simp; omega) (fun e => by injection e with e; omega)).trans ((Below.heap_alloc _ _ _ hpl).trans HPB.out)
            have o4 := ownsRow_gbS (ho2.alloc (.cells #[.string key2, .slice B3 m3 d3] 85)) g4.gb hlt
            have G4 := hgo2.trans g4.of_alloc (Nat.le_refl _)
            have z4 : wr.heap.size < w4.heap.size := by have := g4.gb.size; simp at this; omega
            clear g4 hgo2 ho2 x0 x1 hgl HPB
            generalize wr.heap.size = qb at *
            cases fl
            · have HO4 := Lib.hid o4
              have HP4 := Lib.hid hP4
              clear o4 hP4 hQ4
              go_wp2_with fail
              go_roundg (gk - 1)
              case measure => omega
              case rel => exact ⟨j + 1, ne2, by have := HJ.out; omega, by go_num, by omega, HP4.out, HO4.out, G4.more (by omega)⟩
            · obtain ⟨p0, _, _, _⟩ := stream_cells hP4
              obtain ⟨r0, _, _, _⟩ := stream_cells hQ4
              have hpl4 := block_lt hP4
              go_wp2_with fail
              refine (flip_any b (M + (10 * k + 2 * j + 1)) 2 _ (G4.is.alloc _) (by omega) (by omega) (by omega)).mono ?_
              rintro e w6 ⟨fl2, rfl, g6⟩
              have hX6 := (g6.gb.block w4.heap.size (by simp) (fun e => by injection e with e; omega)).trans (heap_alloc_new w4 (.cells #[.string key, .string key2] 89))
              have hP6 := (g6.gb.block pb (by simp; omega) (fun e => by injection e with e; omega)).trans ((Below.heap_alloc _ _ _ hpl4).trans hP4)
              have hQ6 := (g6.gb.block qb (by simp; omega) (fun e => by injection e with e; omega)).trans ((Below.heap_alloc _ _ _ z4).trans hQ4)
              have o6 := ownsRow_gbS (o4.alloc (.cells #[.string key, .string key2] 89)) g6.gb hlt
              have G6 := G4.trans g6.of_alloc (Nat.le_refl _)
              have z6 : w4.heap.size < w6.heap.size := by have := g6.gb.size; simp at this; omega
              have hw4 : w.heap.size ≤ w4.heap.size := by omega
              have hob : ∀ g, u5.ownBlock = some g → g ≠ w4.heap.size := fun g hg => by obtain ⟨_, cc, h2⟩ := own_ge o4 hg; have := block_lt h2; omega
              have HOB := Lib.hid hob
              clear g6 G4 o4 hP4 hQ4 p0 r0 hob
              generalize w4.heap.size = xb at *
              have hz6 : w.heap.size ≤ w6.heap.size := by omega
              have hl2 : ne2.length ≤ 100 := by omega
              cases fl2
              · obtain ⟨s0, s1, _, _⟩ := stream_cells hX6
                have HP6 := Lib.hid hP6
                clear hP6 hQ6 hX6
                go_wp2_with (at_builtin; refine wpList_push (W := w6) (lo := w.heap.size) rfl _ _ 49 rfl 89 i0 _ 2 32 Tryd.underlying49 hi hz0 hz1 hz2 rfl (by decide) (by decide) _ _ _ rfl (Below.refl _ _) hz6 o6 [.string key, .string key2] rfl rfl rfl rfl (by omega) ?_)
                intro v7 w7 O7 b7 _ hg7
                have HO7 := Lib.hid (show w7.ownsRow w.heap.size 89 2 v7 (ne2 ++ [(key, key2)]).length ((ne2 ++ [(key, key2)]).flatMap paC) by rw [List.length_append, List.flatMap_append]; exact O7)
                have HP7 := Lib.hid ((Fr.of_gb (S := fun x => u5.ownBlock = some x) hg7 (fun x hx => hx)).blk HP6.out (fun hS => by obtain ⟨_, cc, h2⟩ := own_ge o6 hS; exact tag_ne HP6.out h2 (by decide) rfl))
                have G7 := G6.belowAt (Nat.le_refl _) hlt b7
                clear O7 b7 hg7 o6 G6
                go_wp2_with fail
                go_roundg (gk - 1)
                case measure => omega
                case rel => exact ⟨j + 1, _, by have := HJ.out; omega, by go_num, by simp; omega, HP7.out, HO7.out, G7.more (by omega)⟩
              · obtain ⟨s0, s1, s2, s3⟩ := stream_cells hX6
                obtain ⟨p0, _, _, _⟩ := stream_cells hP6
                obtain ⟨r0, _, _, _⟩ := stream_cells hQ6
                have hX7 : ((w6.setCell ⟨xb, 0, none⟩ (.string key2)).setCell ⟨xb, 1, none⟩ (.string key)).heap[xb]? = some (.cells #[.string key2, .string key] 89 (0, 0)) := by
                  simp [World.setCell, Array.getElem?_modify, hX6]
                have hP7 : ((w6.setCell ⟨xb, 0, none⟩ (.string key2)).setCell ⟨xb, 1, none⟩ (.string key)).heap[pb]? = some (.cells #[.string key, .slice B2 m2 d2] 85 (0, 0)) :=
                  (Below.heap_setCell _ _ _ _ (tag_ne hP6 hX6 (by decide))).trans ((Below.heap_setCell _ _ _ _ (tag_ne hP6 hX6 (by decide))).trans hP6)
                have G7 := (G6.setP hlt (p := ⟨xb, 0, none⟩) hw4 (.string key2)).setP hlt (p := ⟨xb, 1, none⟩) hw4 (.string key)
                have o7 := own_setne (p := ⟨xb, 1, none⟩) (own_setne (p := ⟨xb, 0, none⟩) o6 HOB.out (.string key2)) HOB.out (.string key)
                obtain ⟨t0, t1, _, _⟩ := stream_cells hX7
                have HP6 := Lib.hid hP7
                have hz7 : w.heap.size ≤ ((w6.setCell ⟨xb, 0, none⟩ (.string key2)).setCell ⟨xb, 1, none⟩ (.string key)).heap.size := G7.gb.size
                go_upto_region 12 with fail
                clear hP6 hQ6 hX6 hX7 hP7 s0 s1 s2 s3 p0 r0 o6 G6
                generalize (w6.setCell ⟨xb, 0, none⟩ (.string key2)).setCell ⟨xb, 1, none⟩ (.string key) = w9 at *
                go_wp2_with (at_builtin; refine wpList_push (W := w9) (lo := w.heap.size) rfl _ _ 49 rfl 89 i0 _ 2 32 Tryd.underlying49 hi hz0 hz1 hz2 rfl (by decide) (by decide) _ _ _ rfl (Below.refl _ _) hz7 o7 [.string key2, .string key] rfl rfl rfl rfl (by omega) ?_)
                intro v7 w7 O7 b7 _ hg7
                have HO7 := Lib.hid (show w7.ownsRow w.heap.size 89 2 v7 (ne2 ++ [(key2, key)]).length ((ne2 ++ [(key2, key)]).flatMap paC) by rw [List.length_append, List.flatMap_append]; exact O7)
                have HP7 := Lib.hid ((Fr.of_gb (S := fun x => u5.ownBlock = some x) hg7 (fun x hx => hx)).blk HP6.out (fun hS => by obtain ⟨_, cc, h2⟩ := own_ge o7 hS; exact tag_ne HP6.out h2 (by decide) rfl))
                have G8 := G7.belowAt (Nat.le_refl _) hlt b7
                clear O7 b7 hg7 o7 G7
                go_wp2_with fail
                go_roundg (gk - 1)
                case measure => omega
                case rel => exact ⟨j + 1, _, by have := HJ.out; omega, by go_num, by simp; omega, HP7.out, HO7.out, G8.more (by omega)⟩
    · obtain rfl : k = ps.length := by omega
      have hnl2 : ne.length ≤ 25 := by omega
      obtain ⟨OA, oc, rfl⟩ : ∃ A c, u5 = .slice A ne.length c := by
        rcases ho.2 with ⟨rfl, h0⟩ | ⟨g, cap, cur, rfl, _⟩
        · exact ⟨none, 0, by rw [h0]⟩
        · exact ⟨_, cap, rfl⟩
      have HO := Lib.hid ho
      clear hk hg ho
      by_cases hk0 : ne.length = 0
      · have HK0 := Lib.hid hk0
        rw [hk0]
        clear hk0
        go_wp2_with fail
        go_ret
        exact ⟨.slice OA ne.length oc, ne, by omega, by rw [HK0.out]; rfl, HO.out, hgo.more (by omega)⟩
      · have hkp : 0 < ne.length := by omega
        have hkpI : (0 : Int) < (ne.length : Int) := by omega
        clear hk0
        go_wp2_with fail
        refine (flip_any b (M + 10 * ps.length) 15 _ hgo.is (by omega) (by omega) (by omega)).mono ?_
        rintro e w4 ⟨fl, rfl, g3⟩
        have o3 := ownsRow_gbS HO.out g3.gb hlt
        have G3 := hgo.trans g3 (Nat.le_refl _)
        clear g3 HO hgo
        cases fl
        · go_wp2_with fail
          go_ret
          exact ⟨_, ne, by omega, rfl, o3, G3.more (by omega)⟩
        · obtain ⟨og, oc2, e2, hog, hogl⟩ := o3.form hkp
          simp only [Value.slice.injEq] at e2
          obtain ⟨rfl, _, rfl⟩ := e2
          obtain ⟨⟨x0, x1⟩, hx⟩ : ∃ x, ne[0]? = some x := ⟨_, List.getElem?_eq_getElem hkp⟩
          have HAT := Lib.hid hx
          have st4 : NSt b M w og oc ne (10 * ps.length + 1) w4 := ⟨o3, G3⟩
          have st := st4.drew
          have z4 : w.heap.size ≤ w4.heap.size := G3.gb.size
          clear hx st4 o3 G3
          go_upto_region 16 with fail
          refine wp_region_late (fun j => j == 17) (fun w' => w'.cell? ⟨og, 0, none⟩ = some (.string x0) ∧ w'.cell? ⟨og, 1, none⟩ = some (.string x1)) (by kernel_rfl) ?_
          refine wpLate_takeP (i := 0) (v := .slice (some ⟨og, 0, none⟩) ne.length oc) rfl (by kernel_rfl) (by kernel_rfl) (by kernel_rfl) (fun _ _ _ h => h) (Or.inl ⟨by rfl, fun _ _ => by go_simp⟩) ?_
          refine wpLate_takeP (i := 1) (v := .pointer (some ⟨b, 0, none⟩)) rfl (by kernel_rfl) (by kernel_rfl) (by kernel_rfl) (fun _ _ _ h => h) (Or.inl ⟨by rfl, fun _ _ => by go_simp⟩) ?_
          refine wpLate_takeP (i := 2) (v := .slice (some ⟨og, 0, none⟩) ne.length oc) rfl (by kernel_rfl) (by kernel_rfl) (by kernel_rfl) (fun _ _ _ h => h) (Or.inl ⟨by rfl, fun _ _ => by go_simp⟩) ?_
          refine wpLate_takeP (i := 3) (v := .pointer (some ⟨og, 0, none⟩)) rfl (by kernel_rfl) (by kernel_rfl) (by kernel_rfl) (fun _ _ _ h => h) (Or.inl ⟨by rfl, fun _ _ => by go_simp⟩) ?_
          refine wpLate_takeP (i := 4) (v := .pointer (some ⟨og, 1, none⟩)) rfl (by kernel_rfl) (by kernel_rfl) (by kernel_rfl) (fun _ _ _ h => h) (Or.inl ⟨by rfl, fun _ _ => by go_simp⟩) ?_
          refine wpLate_takeP (i := 8) (v := .pointer (some ⟨b, 0, none⟩)) rfl (by kernel_rfl) (by kernel_rfl) (by kernel_rfl) (fun _ _ _ h => h) (Or.inl ⟨by rfl, fun _ _ => by go_simp⟩) ?_
          refine wpLate_takeP (i := 9) (v := .slice (some ⟨og, 0, none⟩) ne.length oc) rfl (by kernel_rfl) (by kernel_rfl) (by kernel_rfl) (fun _ _ _ h => h) (Or.inl ⟨by rfl, fun _ _ => by go_simp⟩) ?_
          refine wpLate_takeP (i := 10) (v := .pointer (some ⟨og, 0, none⟩)) rfl (by kernel_rfl) (by kernel_rfl) (by kernel_rfl) (fun _ _ _ h => h) (Or.inl ⟨by rfl, fun _ _ => by go_simp⟩) ?_
          refine wpLate_takeP (i := 11) (v := .pointer (some ⟨og, 0, none⟩)) rfl (by kernel_rfl) (by kernel_rfl) (by kernel_rfl) (fun _ _ _ h => h) (Or.inl ⟨by rfl, fun _ _ => by go_simp⟩) ?_
          refine wpLate_takeT (i := 5) (v := .string x1) rfl (by kernel_rfl) (by kernel_rfl) (by kernel_rfl) (by kernel_rfl) (by kernel_rfl) (fun _ _ _ h => h) (Or.inl ⟨by rfl, fun w' hw' => by obtain ⟨h1, h2⟩ := hw'; go_simp⟩) (st.cells HAT.out) ?_
          refine wpLate_takeT (i := 12) (v := .string x0) rfl (by kernel_rfl) (by kernel_rfl) (by kernel_rfl) (by kernel_rfl) (by kernel_rfl) (fun _ _ _ h => h) (Or.inl ⟨by rfl, fun w' hw' => by obtain ⟨h1, h2⟩ := hw'; go_simp⟩) (st.cells HAT.out) ?_
          refine wpLate_ready (rs := [6, 13]) (by kernel_rfl) (by simp) ?_
          refine AllLate.cons (i := 6) rfl (fun K hK => ?_) (AllLate.cons (i := 13) rfl (fun K hK => ?_) AllLate.nil)
          · go_simp
            have st := st.alloc (.cells (List.map Value.string [⟨#[113, 97]⟩, ⟨#[113, 122]⟩, x1]).toArray 9)
            refine hK _ _ (fun _ _ => st.cells HAT.out) ?_
            clear hK K
            refine wpLate_ready (rs := [7, 13]) (by kernel_rfl) (by simp) ?_
            refine AllLate.cons (i := 7) rfl (fun K hK => ?_) (AllLate.cons (i := 13) rfl (fun K hK => ?_) AllLate.nil)
            · go_simp
              refine (some_any b (M + (10 * ps.length + 1)) _ [⟨#[113, 97]⟩, ⟨#[113, 122]⟩, x1] 3 3 _ 9 st.go.is (by omega) rfl (by omega) (by omega) (by first | exact heap_newP _ _ _ (by simp) | exact (Below.heap_alloc _ _ _ (by simp)).trans (heap_newP _ _ _ (by simp))) (by first | omega | (simp; omega))).mono ?_
              rintro e w5 ⟨y0, hy0, rfl, g5⟩
              have hk5 := Lib.hid g5.gb.block
              have z5 : w4.heap.size ≤ w5.heap.size := by have := g5.gb.size; simp at this; omega
              have st := st.goes hlt g5
              clear g5
              go_simp
              refine hK _ _ (fun _ _ => st.cells HAT.out) ?_
              clear hK K
              refine wpLate_ready (rs := [13]) (by kernel_rfl) (by simp) ?_
              refine AllLate.cons (i := 13) rfl (fun K hK => ?_) AllLate.nil
              go_simp
              have st := st.alloc (.cells (List.map Value.string [⟨#[113, 97]⟩, ⟨#[113, 98]⟩, x0]).toArray 9)
              refine hK _ _ (fun _ _ => st.cells HAT.out) ?_
              clear hK K
              refine wpLate_ready (rs := [14]) (by kernel_rfl) (by simp) ?_
              refine AllLate.cons (i := 14) rfl (fun K hK => ?_) AllLate.nil
              go_simp
              refine (some_any b (M + (10 * ps.length + 1 + 1)) _ [⟨#[113, 97]⟩, ⟨#[113, 98]⟩, x0] 3 3 _ 9 st.go.is (by omega) rfl (by omega) (by omega) (by first | exact heap_newP _ _ _ (by simp) | exact (hk5.out _ (by simp <;> omega) (fun e => by injection e with e; omega)).trans (heap_newP _ _ _ (by simp)) | exact (hk5.out _ (by simp <;> omega) (fun e => by injection e with e; omega)).trans ((Below.heap_alloc _ _ _ (by simp)).trans (heap_newP _ _ _ (by simp)))) (by first | omega | (simp; omega))).mono ?_
              rintro e w6 ⟨y1, hy1, rfl, g6⟩
              have st := st.goes hlt g6
              clear g6 hk5
              go_simp
              refine hK _ _ (fun _ _ => st.cells HAT.out) ?_
              clear hK K
              refine wpLate_takeP (i := 15) (v := .agg #[.string y0, .string y1]) rfl (by kernel_rfl) (by kernel_rfl) (by kernel_rfl) (fun _ _ _ h => h) (Or.inl ⟨by rfl, fun _ _ => by go_simp⟩) ?_
              refine wpLate_ready (rs := [16]) (by kernel_rfl) (by simp) ?_
              refine AllLate.cons (i := 16) rfl (fun K hK => ?_) AllLate.nil
              go_simp
              have st := st.alloc (.cells #[.string y0, .string y1] 89)
              refine hK _ _ (fun _ _ => st.cells HAT.out) ?_
              clear hK K
              refine wpLate_ready (rs := [17]) (by kernel_rfl) (by simp) ?_
              refine AllLate.cons (i := 17) rfl (fun K hK => ?_) AllLate.nil
              refine st.append (by rfl) (.tmp 54) (.tmp 70) (by rfl) (by rfl) (by rfl) (heap_newP _ _ _ (by simp)) (by omega) hlt ?_
              intro g7 c7 w7 hE hG
              refine hK _ _ (fun h => by cases h) ?_
              clear hK K
              refine wpLate_takeP (i := 18) (v := .slice (some ⟨g7, 0, none⟩) (ne.length + 1) c7) rfl (by kernel_rfl) (by kernel_rfl) (by kernel_rfl) (fun _ _ _ h => h) (Or.inl ⟨by rfl, fun _ _ => by go_simp⟩) ?_
              refine wpLate_done (by kernel_rfl) ?_ _
              have HE := Lib.hid hE
              clear hE st hy0 hy1
              go_wp2_with fail
              go_ret
              exact ⟨_, ne ++ [(y0, y1)], by simp; omega, rfl, HE.out, hG.more (by omega)⟩
            · go_simp
              have st := st.alloc (.cells (List.map Value.string [⟨#[113, 97]⟩, ⟨#[113, 98]⟩, x0]).toArray 9)
              refine hK _ _ (fun _ _ => st.cells HAT.out) ?_
              clear hK K
              refine wpLate_ready (rs := [7]) (by kernel_rfl) (by simp) ?_
              refine AllLate.cons (i := 7) rfl (fun K hK => ?_) AllLate.nil
              go_simp
              refine (some_any b (M + (10 * ps.length + 1)) _ [⟨#[113, 97]⟩, ⟨#[113, 122]⟩, x1] 3 3 _ 9 st.go.is (by omega) rfl (by omega) (by omega) (by first | exact heap_newP _ _ _ (by simp) | exact (Below.heap_alloc _ _ _ (by simp)).trans (heap_newP _ _ _ (by simp))) (by first | omega | (simp; omega))).mono ?_
              rintro e w5 ⟨y0, hy0, rfl, g5⟩
              have hk5 := Lib.hid g5.gb.block
              have z5 : w4.heap.size ≤ w5.heap.size := by have := g5.gb.size; simp at this; omega
              have st := st.goes hlt g5
              clear g5
              go_simp
              refine hK _ _ (fun _ _ => st.cells HAT.out) ?_
              clear hK K
              refine wpLate_ready (rs := [14]) (by kernel_rfl) (by simp) ?_
              refine AllLate.cons (i := 14) rfl (fun K hK => ?_) AllLate.nil
              go_simp
              refine (some_any b (M + (10 * ps.length + 1 + 1)) _ [⟨#[113, 97]⟩, ⟨#[113, 98]⟩, x0] 3 3 _ 9 st.go.is (by omega) rfl (by omega) (by omega) (by first | exact heap_newP _ _ _ (by simp) | exact (hk5.out _ (by simp <;> omega) (fun e => by injection e with e; omega)).trans (heap_newP _ _ _ (by simp)) | exact (hk5.out _ (by simp <;> omega) (fun e => by injection e with e; omega)).trans ((Below.heap_alloc _ _ _ (by simp)).trans (heap_newP _ _ _ (by simp)))) (by first | omega | (simp; omega))).mono ?_
              rintro e w6 ⟨y1, hy1, rfl, g6⟩
              have st := st.goes hlt g6
              clear g6 hk5
              go_simp
              refine hK _ _ (fun _ _ => st.cells HAT.out) ?_
              clear hK K
              refine wpLate_takeP (i := 15) (v := .agg #[.string y0, .string y1]) rfl (by kernel_rfl) (by kernel_rfl) (by kernel_rfl) (fun _ _ _ h => h) (Or.inl ⟨by rfl, fun _ _ => by go_simp⟩) ?_
              refine wpLate_ready (rs := [16]) (by kernel_rfl) (by simp) ?_
              refine AllLate.cons (i := 16) rfl (fun K hK => ?_) AllLate.nil
              go_simp
              have st := st.alloc (.cells #[.string y0, .string y1] 89)
              refine hK _ _ (fun _ _ => st.cells HAT.out) ?_
              clear hK K
              refine wpLate_ready (rs := [17]) (by kernel_rfl) (by simp) ?_
              refine AllLate.cons (i := 17) rfl (fun K hK => ?_) AllLate.nil
              refine st.append (by rfl) (.tmp 54) (.tmp 70) (by rfl) (by rfl) (by rfl) (heap_newP _ _ _ (by simp)) (by omega) hlt ?_
              intro g7 c7 w7 hE hG
              refine hK _ _ (fun h => by cases h) ?_
              clear hK K
              refine wpLate_takeP (i := 18) (v := .slice (some ⟨g7, 0, none⟩) (ne.length + 1) c7) rfl (by kernel_rfl) (by kernel_rfl) (by kernel_rfl) (fun _ _ _ h => h) (Or.inl ⟨by rfl, fun _ _ => by go_simp⟩) ?_
              refine wpLate_done (by kernel_rfl) ?_ _
              have HE := Lib.hid hE
              clear hE st hy0 hy1
              go_wp2_with fail
              go_ret
              exact ⟨_, ne ++ [(y0, y1)], by simp; omega, rfl, HE.out, hG.more (by omega)⟩
          · go_simp
            have st := st.alloc (.cells (List.map Value.string [⟨#[113, 97]⟩, ⟨#[113, 98]⟩, x0]).toArray 9)
            refine hK _ _ (fun _ _ => st.cells HAT.out) ?_
            clear hK K
            refine wpLate_ready (rs := [6]) (by kernel_rfl) (by simp) ?_
            refine AllLate.cons (i := 6) rfl (fun K hK => ?_) AllLate.nil
            go_simp
            have st := st.alloc (.cells (List.map Value.string [⟨#[113, 97]⟩, ⟨#[113, 122]⟩, x1]).toArray 9)
            refine hK _ _ (fun _ _ => st.cells HAT.out) ?_
            clear hK K
            refine wpLate_ready (rs := [7]) (by kernel_rfl) (by simp) ?_
            refine AllLate.cons (i := 7) rfl (fun K hK => ?_) AllLate.nil
            go_simp
            refine (some_any b (M + (10 * ps.length + 1)) _ [⟨#[113, 97]⟩, ⟨#[113, 122]⟩, x1] 3 3 _ 9 st.go.is (by omega) rfl (by omega) (by omega) (by first | exact heap_newP _ _ _ (by simp) | exact (Below.heap_alloc _ _ _ (by simp)).trans (heap_newP _ _ _ (by simp))) (by first | omega | (simp; omega))).mono ?_
            rintro e w5 ⟨y0, hy0, rfl, g5⟩
            have hk5 := Lib.hid g5.gb.block
            have z5 : w4.heap.size ≤ w5.heap.size := by have := g5.gb.size; simp at this; omega
            have st := st.goes hlt g5
            clear g5
            go_simp
            refine hK _ _ (fun _ _ => st.cells HAT.out) ?_
            clear hK K
            refine wpLate_ready (rs := [14]) (by kernel_rfl) (by simp) ?_
            refine AllLate.cons (i := 14) rfl (fun K hK => ?_) AllLate.nil
            go_simp
            refine (some_any b (M + (10 * ps.length + 1 + 1)) _ [⟨#[113, 97]⟩, ⟨#[113, 98]⟩, x0] 3 3 _ 9 st.go.is (by omega) rfl (by omega) (by omega) (by first | exact heap_newP _ _ _ (by simp) | exact (hk5.out _ (by simp <;> omega) (fun e => by injection e with e; omega)).trans (heap_newP _ _ _ (by simp)) | exact (hk5.out _ (by simp <;> omega) (fun e => by injection e with e; omega)).trans ((Below.heap_alloc _ _ _ (by simp)).trans (heap_newP _ _ _ (by simp)))) (by first | omega | (simp; omega))).mono ?_
            rintro e w6 ⟨y1, hy1, rfl, g6⟩
            have st := st.goes hlt g6
            clear g6 hk5
            go_simp
            refine hK _ _ (fun _ _ => st.cells HAT.out) ?_
            clear hK K
            refine wpLate_takeP (i := 15) (v := .agg #[.string y0, .string y1]) rfl (by kernel_rfl) (by kernel_rfl) (by kernel_rfl) (fun _ _ _ h => h) (Or.inl ⟨by rfl, fun _ _ => by go_simp⟩) ?_
            refine wpLate_ready (rs := [16]) (by kernel_rfl) (by simp) ?_
            refine AllLate.cons (i := 16) rfl (fun K hK => ?_) AllLate.nil
            go_simp
            have st := st.alloc (.cells #[.string y0, .string y1] 89)
            refine hK _ _ (fun _ _ => st.cells HAT.out) ?_
            clear hK K
            refine wpLate_ready (rs := [17]) (by kernel_rfl) (by simp) ?_
            refine AllLate.cons (i := 17) rfl (fun K hK => ?_) AllLate.nil
            refine st.append (by rfl) (.tmp 54) (.tmp 70) (by rfl) (by rfl) (by rfl) (heap_newP _ _ _ (by simp)) (by omega) hlt ?_
            intro g7 c7 w7 hE hG
            refine hK _ _ (fun h => by cases h) ?_
            clear hK K
            refine wpLate_takeP (i := 18) (v := .slice (some ⟨g7, 0, none⟩) (ne.length + 1) c7) rfl (by kernel_rfl) (by kernel_rfl) (by kernel_rfl) (fun _ _ _ h => h) (Or.inl ⟨by rfl, fun _ _ => by go_simp⟩) ?_
            refine wpLate_done (by kernel_rfl) ?_ _
            have HE := Lib.hid hE
            clear hE st hy0 hy1
            go_wp2_with fail
            go_ret
            exact ⟨_, ne ++ [(y0, y1)], by simp; omega, rfl, HE.out, hG.more (by omega)⟩
end Go.Proofs.YtegalkmfoffpfaaDoor
