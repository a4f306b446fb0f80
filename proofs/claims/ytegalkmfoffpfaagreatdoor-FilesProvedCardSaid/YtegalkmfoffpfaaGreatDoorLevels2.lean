/- levels, RootOf. -/
import Derived.Test.YtegalkmfoffpfaaGreatDoorLevels
import Derived.Test.YtegalkmfoffpfaaGreatDoorKit
namespace Go.Proofs.YtegalkmfoffpfaaGreatDoor
open Go.RowKit
attribute [local go_sem ↓] Go.wp_at_zero Go.wp_at_succ

theorem infoStrs : (Tryz.prog.info? 88).map (fun i => (i.zero, i.size, i.bytes)) = some (some (.slice none 0 0), 1, 24) := by kernel_rfl
/-- The rows that lie in memory. -/
def Rows (w : World) (base : Nat) (l : List ByteArray) (j : Nat) (vs : List Value) : Prop :=
  vs.length = j + 1 ∧ ∀ i, i ≤ j → ∃ u, vs[i]? = some u ∧ w.ownsRow base 9 1 u (climb i l).length (stC (climb i l))
theorem Rows.below {w w' : World} {base j : Nat} {l : List ByteArray} {vs : List Value} (h : Rows w base l j vs) (hb : Below w.heap.size w w') : Rows w' base l j vs :=
  ⟨h.1, fun i hi => let ⟨u, a, b⟩ := h.2 i hi; ⟨u, a, ownsRow_below b hb⟩⟩
theorem Rows.kept {w w' : World} {base j n : Nat} {l : List ByteArray} {vs xs : List Value} {v : Value} (h : Rows w base l j vs) (ho : w.ownsRow base 88 1 v n xs) (hg : w.grownBy w' v.ownBlock) : Rows w' base l j vs :=
  ⟨h.1, fun i hi => let ⟨u, a, b⟩ := h.2 i hi; ⟨u, a, b.kept hg (ownsRow_ne b ho (by decide))⟩⟩
theorem Rows.snoc {w : World} {base j : Nat} {l : List ByteArray} {vs : List Value} {u : Value} (h : Rows w base l j vs) (hu : w.ownsRow base 9 1 u (climb (j + 1) l).length (stC (climb (j + 1) l))) : Rows w base l (j + 1) (vs ++ [u]) := by
  obtain ⟨h1, h2⟩ := h
  refine ⟨by simp [h1], fun i hi => ?_⟩
  rcases Nat.lt_or_ge i (j + 1) with h3 | h3
  · obtain ⟨v, a, b⟩ := h2 i (by omega)
    exact ⟨v, by rw [List.getElem?_append_left (by omega)]; exact a, b⟩
  · obtain rfl : i = j + 1 := by omega
    exact ⟨u, by rw [List.getElem?_append_right (by omega), h1]; simp, hu⟩
def LevRel (l : List ByteArray) (w : World) (g : Nat) (s3 s6 : Value) (wr : World) : Prop :=
  ∃ (j : Nat) (cur : List ByteArray) (vs : List Value), cur = climb j l ∧ Climbs l j ∧ cur.length ≤ g + 1 ∧ wr.ownsRow w.heap.size 88 1 s6 (j + 1) vs ∧ Rows wr w.heap.size l j vs ∧ vs[j]? = some s3 ∧ wr.ownsRow w.heap.size 9 1 s3 cur.length (stC cur) ∧ Below w.heap.size w wr
def GotLevels (l : List ByteArray) (w : World) (e : Ending) (w' : World) : Prop :=
  ∃ (j : Nat) (v : Value) (vs : List Value), e = .returned v ∧ Climbs l j ∧ (climb j l).length ≤ 1 ∧ w'.ownsRow w.heap.size 88 1 v (j + 1) vs ∧ Rows w' w.heap.size l j vs ∧ Below w.heap.size w w'
theorem ownsRow_built {w : World} {t : TypeId} {base : Nat} {u : Value} (hb : base ≤ w.heap.size) : (w.alloc (.cells #[u] t)).ownsRow base t 1 (.slice (some ⟨w.heap.size, 0, none⟩) 1 1) 1 [u] :=
  ⟨rfl, .inr ⟨w.heap.size, 1, #[u], rfl, hb, heap_alloc_new w _, Nat.le_refl _, by unfold maxLen; omega, rfl, rfl⟩⟩

set_option maxRecDepth 100000 in
set_option maxHeartbeats 4000000 in
theorem levels_any (no : Int) (A : Option Addr) (lo c : Nat) (fs : List FileD) (w : World) (ht : Tab w) (hf : FilesAt w lo (.slice A fs.length c) fs) (hsh : ∀ f ∈ fs, Short f) (hn : fs.length ≤ 300) :
    Calls Tryz.prog 79 #[.agg #[.int .i64 no, .slice A fs.length c]] w (GotLevels (leavesS fs) w) := by
  have HT := Lib.hid ht
  have HF := Lib.hid hf
  have HS := Lib.hid hsh
  clear ht hf hsh
  obtain ⟨i0, hi, hz0, hz1, hz2⟩ := info_parts infoStr
  obtain ⟨i1, gi, gz0, gz1, gz2⟩ := info_parts infoStrs
  go_enter Tryz.func79, Tryz.ntmps79
  go_wp2_with fail
  go_loopg [3, 12, 5] fs.length (fun g out i _ wr => LvRel fs w g out i wr)
  case atStart => exact ⟨0, by omega, rfl, World.ownsRow_nil _ _ _ _, (Below.refl _ _).alloc (Nat.le_refl _) _⟩
  case round =>
    obtain ⟨k, hk, rfl, hown, hb⟩ := hrel
    have hbz := hb.size
    by_cases hg : gk = 0
    · obtain rfl : k = fs.length := by omega
      rw [lvC, List.take_length] at hown
      have hlen : (leavesS fs).length = fs.length := by simp [leavesS]
      have h16 := leaves_16 fs
      have HO : Hid (wr.ownsRow w.heap.size 9 1 u3 (leavesS fs).length (stC (leavesS fs))) := by rw [hlen]; exact hown
      obtain ⟨B, m, d, rfl⟩ := own_form hown
      obtain rfl : m = fs.length := own_len hown
      clear hk hown hg
      go_wp2_with fail
      have hbA := hb.alloc hbz (.cells #[.slice B fs.length d] 88)
      have HB := Lib.hid (ownsRow_built (w := wr) (t := 88) (u := .slice B fs.length d) hbz)
      have HR := Lib.hid (show Rows (wr.alloc (.cells #[.slice B fs.length d] 88)) w.heap.size (leavesS fs) 0 [.slice B fs.length d] from ⟨rfl, fun i hi => by obtain rfl : i = 0 := (by omega); exact ⟨_, rfl, HO.out.alloc _⟩⟩)
      have HO2 := Lib.hid (HO.out.alloc (.cells #[.slice B fs.length d] 88))
      generalize hll : leavesS fs = l at *
      have HLE := Lib.hid hll
      have hln : l.length ≤ 300 := by omega
      clear hll HO hb
      rename_i gk0 _ _
      generalize hW0 : wr.alloc (.cells #[.slice B fs.length d] 88) = W0 at *
      clear hW0
      generalize wr.heap.size = ob at *
      clear wr
      obtain ⟨gq, rfl⟩ : ∃ gq, gq = gk := ⟨_, rfl⟩
      go_loopg [3, 6, 7, 8] l.length (fun g s3 s6 _ _ wr => LevRel l w g s3 s6 wr)
      case atStart => exact ⟨0, l, [.slice B fs.length d], rfl, .zero l, by omega, HB.out, HR.out, rfl, HO2.out, hbA⟩
      case round =>
        obtain ⟨j, cur, vs, hcur, hcl, hlg, hout, hrows, hvj, hown, hb⟩ := hrel
        have hlen2 := hcl.len
        rw [← hcur] at hlen2
        obtain ⟨B1, m1, d1, rfl⟩ := own_form hown
        obtain rfl : m1 = cur.length := own_len hown
        by_cases h1 : 1 < cur.length
        · have h1' : (1 : Int) < (cur.length : Int) := by omega
          have h16c : ∀ s ∈ cur, s.size ≤ 16 := by rw [hcur]; exact climb_16 h16 j
          have HC := Lib.hid (show Climbs l (j + 1) from hcl.succ (by rw [← hcur]; exact h1))
          have HCUR := Lib.hid (show pairS cur = climb (j + 1) l by rw [hcur]; rfl)
          have hbz1 := hb.size
          have hpl := pairS_len cur
          have HL := Lib.hid (show Lst wr w.heap.size 1 (.slice B1 cur.length d1) (stC cur) from .of_own hown)
          have HOUT := Lib.hid hout
          have HROWS := Lib.hid hrows
          have H16 := Lib.hid h16c
          have HPL := Lib.hid hpl
          have HVL := Lib.hid hrows.1
          have hc300 : cur.length ≤ 300 := by omega
          clear hown hcur hvj hout hrows h16c hpl hcl hlen2 HB HR HO2
          go_wp2_with fail
          obtain ⟨wo, rfl⟩ : ∃ wo : World, wo = wr := ⟨_, rfl⟩
          obtain ⟨gr, rfl⟩ : ∃ gr, gr = gk := ⟨_, rfl⟩
          go_loopg [7, 8] ((cur.length + 1) / 2) (fun g s7 s8 wr => PairRel cur wo g s7 s8 wr)
          case atStart => exact ⟨0, 0, rfl, by omega, rfl, World.ownsRow_nil _ _ _ _, Below.refl _ _⟩
          case round =>
            obtain ⟨k, m, hm, hk, rfl, hown, hb2⟩ := hrel
            have hbz2 := hb2.size
            by_cases hg : gk = 0
            · have hge : ¬ ((m : Int) < (cur.length : Int)) := by omega
              have HK := Lib.hid (show pairTo cur k = pairS cur by rw [pairS, show (cur.length + 1) / 2 = k by omega])
              obtain ⟨B2, m2, d2, rfl⟩ := own_form hown
              have hk9 : k ≤ 1000 := by omega
              have hout2 := ownsRow_below HOUT.out hb2
              have hb3 := bon hb hb2
              have hbz3 := hb3.size
              have hj9 : j + 1 ≤ 1000000000 := by have := HC.out.len; omega
              clear hk hm
              go_wp2_with (at_builtin; refine wpList_push (W := w) (lo := w.heap.size) rfl _ _ 126 rfl 88 i1 (.slice none 0 0) 1 24 Tryz.underlying126 gi gz0 gz1 gz2 rfl (by decide) (by decide) _ _ _ rfl hb3 hbz3 hout2 [.slice B2 m2 d2] rfl rfl rfl rfl hj9 ?_)
              intro v' w2 hout3 hb4 hz4 hg4
              have hown3 := ownsRow_base hown hbz1
              have hown4 := hown3.kept hg4 (ownsRow_ne hown3 hout2 (by decide))
              have hk5 : k = (pairS cur).length := by rw [← HK.out, pairTo_len]
              rw [HK.out, hk5] at hown4
              have HO4 := Lib.hid hown4
              have HR4 := Lib.hid ((HROWS.out.below hb2).kept hout2 hg4)
              have HO5 := Lib.hid hout3
              clear hown hown3 hown4 hout2 hout3 hg4 hk5
              go_wp2_with fail
              go_roundg (gr - 1)
              case measure => omega
              case rel => exact ⟨j + 1, pairS cur, vs ++ [.slice B2 m2 d2], HCUR.out, HC.out, by have := HPL.out; omega, HO5.out, HR4.out.snoc (by rw [← HCUR.out]; exact HO4.out), by rw [List.getElem?_append_right (by have := HVL.out; omega), HVL.out]; simp, HO4.out, hb4⟩
            · have hlt : m < cur.length := by omega
              have hlt' : (m : Int) < (cur.length : Int) := by omega
              obtain ⟨g, o, u, rfl, _, hgl, hu, hc0⟩ := HL.out.at_ hlt
              have hu' : u = .string cur[m] := by
                rw [stC, List.getElem?_map, List.getElem?_eq_getElem hlt] at hu
                simpa using hu.symm
              subst hu'
              have d0 := (hb2.cell (p := ⟨g, o + m, none⟩) hgl).trans hc0
              have s0 := H16.out _ (List.getElem_mem hlt)
              have HK := Lib.hid hk
              have hgk : gk ≠ 0 := hg
              have HM := Lib.hid hm
              have hkm : k ≤ m := by omega
              clear hk hg hu hc0 hm
              by_cases h2 : m + 1 < cur.length
              · have hm := HM.out
                have h2' : ((m : Int) + 1 == (cur.length : Int)) = false := beq_eq_false_iff_ne.2 (by omega)
                have h2'' : (m : Int) + 1 < (cur.length : Int) := by omega
                obtain ⟨g', o', u, e, _, _, hu, hc1⟩ := HL.out.at_ h2
                simp only [Option.some.injEq, Addr.mk.injEq] at e
                obtain ⟨rfl, rfl, _⟩ := e
                have hu' : u = .string cur[m + 1] := by
                  rw [stC, List.getElem?_map, List.getElem?_eq_getElem h2] at hu
                  simpa using hu.symm
                subst hu'
                have d1' := (hb2.cell (p := ⟨g, o + (m + 1), none⟩) hgl).trans hc1
                have s1 := H16.out _ (List.getElem_mem h2)
                have HP := Lib.hid (show pairTo cur (k + 1) = pairTo cur k ++ [sumS (cur[m] ++ cur[m + 1])] by rw [pairTo_succ, pairAt_two cur (j := k) (by omega)]; simp only [HM.out])
                have htr := HT.out.below (bon hb hb2)
                clear hu hc1
                clear hm
                generalize cur[m] = t at *
                generalize cur[m + 1] = t2 at *
                have hs2 : (t ++ t2).size ≤ 32 := by rw [ByteArray.size_append]; omega
                have HTR := Lib.hid htr
                clear htr
                go_upto_region 15 with fail
                have hwr : IntKind.i64.wrap ((m : Int) + 1) = (m : Int) + 1 := by rw [IntKind.wrap_i64]; omega
                have hss : ¬ 9223372036854775807 < t.size + t2.size := by omega
                have hn0 : (0 : Int) ≤ (m : Int) + 1 := by omega
                have htn : ((m : Int) + 1).toNat = m + 1 := by omega
                go_region_law (first
                    | ((refine step_append_lies _ (by rfl) _ _ _ (by rfl) wo.heap.size 9 i0 _ 1 16 Tryz.underlying88 hi hz0 hz1 hz2 rfl (by omega) u7 k _ (by rfl) ((ownsRow_below (w := wr.drew) hown hb5).alloc _) ⟨w2.heap.size, 0, none⟩ 1 1 [.string (sumS (t ++ t2))] (by rfl) (by rfl) (cells_new w2 [.string (sumS (t ++ t2))] 9) (by intro u hu; simp at hu; subst hu; rfl) (by omega) (by unfold maxLen; omega) (by omega) (by simp; omega) (w2.heap.size + 1) (by simp) ?_; intro gg cap w3 hown3 hgrow hat hlt3))
                    | ((go_simp; go_at_call 80; refine (rsum_any (t ++ t2) ?_ _ ?_).mono ?_; (omega); (exact HTR.out); rintro e w2 ⟨rfl, hb5⟩; have hzz : wr.heap.size ≤ w2.heap.size := hb5.size)))
                all_goals
                  have hb3 : Below wo.heap.size wo w3 := ((hb2.drew.trans (hb5.mono hbz2)).alloc (by omega) _).grown hgrow (by simp; omega) (fun x hx => (hown.lt x hx).1)
                  have HO := Lib.hid hown3
                  clear hown3 hown hgrow hat hb5
                  go_wp2_with fail
                  go_roundg (gk - 1)
                  case measure => omega
                  case rel => exact ⟨k + 1, m + 2, by have := HM.out; omega, by have := HK.out; omega, by go_num, by rw [HP.out, List.map_append]; exact HO.out, hb3⟩
              · have hm := HM.out
                have h2' : ((m : Int) + 1 == (cur.length : Int)) = true := beq_iff_eq.2 (by omega)
                have HP := Lib.hid (show pairTo cur (k + 1) = pairTo cur k ++ [cur[m]] by rw [pairTo_succ, pairAt_one cur (j := k) (by omega) (by omega)]; simp only [HM.out])
                clear hm
                generalize cur[m] = t at *
                have hk9 : k ≤ 1000000000 := by omega
                go_wp2_with (at_builtin; refine wpList_push (W := wo) (lo := wo.heap.size) rfl _ _ 88 rfl 9 i0 (.string ⟨#[]⟩) 1 16 Tryz.underlying88 hi hz0 hz1 hz2 rfl (by decide) (by decide) _ _ _ rfl hb2 hbz2 hown [.string t] rfl rfl rfl rfl hk9 ?_)
                intro v' w1 hown3 hb3 _ _
                have HO := Lib.hid hown3
                clear hown3 hown
                go_wp2_with fail
                go_roundg (gk - 1)
                case measure => omega
                case rel => exact ⟨k + 1, m + 2, by have := HM.out; omega, by have := HK.out; omega, by go_num, by rw [HP.out, List.map_append]; exact HO.out, hb3⟩
        · have h1' : ¬ ((1 : Int) < (cur.length : Int)) := by omega
          have HH := Lib.hid (show (climb j l).length ≤ 1 by rw [← hcur]; omega)
          have HOUT := Lib.hid hout
          have HROWS := Lib.hid hrows
          clear hout hrows hown hvj hlen2 hcur
          go_wp2_with fail
          go_ret
          exact ⟨j, _, vs, rfl, hcl, HH.out, HOUT.out, HROWS.out, hb⟩
    · have hlt : k < fs.length := by omega
      obtain ⟨g, o, B, m, d, rfl, hgl, cK0, cC0, hm, hL⟩ := HF.out.at_ hlt
      have cK := (hb.cell (p := ⟨g, o + k * 2, none⟩) hgl).trans cK0
      have cC := (hb.cell (p := ⟨g, o + k * 2 + 1, none⟩) hgl).trans cC0
      have HSH := Lib.hid (HS.out _ (List.getElem_mem hlt))
      have HSN := Lib.hid (leaves_snoc fs hlt)
      have HK := Lib.hid hk
      have HM := Lib.hid hm
      have HL := Lib.hid hL
      have hgk : gk ≠ 0 := hg
      clear hk hm hL hg cK0 cC0
      generalize fs[k] = f at *
      go_wp2_with fail
      have hb2 := hb.alloc hbz (.cells #[.string f.1, .slice B m d] 52)
      refine (fileSum_any f B lo m d _ (HT.out.below hb2) (HL.out.below hb2) HM.out HSH.out).mono ?_
      rintro e w1 ⟨rfl, hb1⟩
      have hb3 : Below w.heap.size w w1 := hb2.trans (hb1.mono (by simp; omega))
      have hown2 := ownsRow_below (hown.alloc (.cells #[.string f.1, .slice B m d] 52)) hb1
      have hz3 := hb3.size
      generalize leafS f = t at *
      clear hb1 hb2 cK cC hown
      go_wp2_with (at_builtin; refine wpList_append_own _ rfl _ _ 88 rfl w.heap.size 9 i0 (.string ⟨#[]⟩) 1 16 Tryz.underlying88 hi hz0 hz1 hz2 rfl (by decide) _ _ _ rfl (hown2.alloc _) ⟨w1.heap.size, 0, none⟩ 1 1 [.string t] rfl rfl ?c1 ?c2 ?c3 ?c4 ?c5 ?_)
      case c1 => exact cells_new w1 [.string t] _
      case c2 => intro u hu; simp at hu; subst hu; rfl
      case c3 => unfold maxLen; omega
      case c4 => omega
      case c5 => simp; omega
      intro v' w2 hown3 hgrow _
      have hb4 : Below w.heap.size w w2 := (hb3.alloc hz3 _).grown hgrow (by simp; omega) (fun x hx => (hown2.lt x hx).1)
      have HO := Lib.hid hown3
      clear hown3 hown2 hgrow
      go_wp2_with fail
      go_roundg (gk - 1)
      case measure => omega
      case rel => exact ⟨k + 1, by have := HK.out; omega, by go_num, by rw [HSN.out]; exact HO.out, hb4⟩
end Go.Proofs.YtegalkmfoffpfaaGreatDoor
