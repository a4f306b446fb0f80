/- CheckLinks, LinksFault. -/
import Derived.Test.YtegalkmfoffpfaaGreatDoorLineMath
import Derived.Test.YtegalkmfoffpfaaGreatDoorKit
import Derived.Test.YtegalkmfoffpfaaGreatDoorFiles
import Derived.Deep.CutBlock
namespace Go.Proofs.YtegalkmfoffpfaaGreatDoor
open Go.RowKit

def lkC (x : LinkD) : List Value := [.int .i64 x.1, .int .i64 x.2.1, .int .i64 x.2.2]
theorem flat3_at {α : Type} (cs : List α) (f : α → List Value) (hf : ∀ c, (f c).length = 3) (i j : Nat) (hi : i < cs.length) (hj : j < 3) : (cs.flatMap f)[i * 3 + j]? = (f cs[i])[j]? := by
  induction cs generalizing i with
  | nil => simp at hi
  | cons c cs ih =>
    rw [List.flatMap_cons]
    rcases i with _ | i
    · rw [List.getElem?_append_left (by rw [hf]; omega)]; simp
    · rw [List.getElem?_append_right (by rw [hf]; omega), hf, show (i + 1) * 3 + j - 3 = i * 3 + j by omega]
      simpa using ih i (by simpa using hi)
theorem flat3_len {α : Type} (cs : List α) (f : α → List Value) (hf : ∀ c, (f c).length = 3) : (cs.flatMap f).length = cs.length * 3 := by
  induction cs with
  | nil => rfl
  | cons p ps ih => rw [List.flatMap_cons, List.length_append, ih, hf, List.length_cons]; omega
theorem Lst.link {w : World} {lo n c : Nat} {A : Option Addr} {ls : List LinkD} (h : Lst w lo 3 (.slice A n c) (ls.flatMap lkC)) {j : Nat} (hj : j < ls.length) (hn : n = ls.length) :
    ∃ g o, A = some ⟨g, o, none⟩ ∧ g < w.heap.size ∧ w.cell? ⟨g, o + j * 3, none⟩ = some (.int .i64 ls[j].1) ∧ w.cell? ⟨g, o + j * 3 + 1, none⟩ = some (.int .i64 ls[j].2.1) ∧ w.cell? ⟨g, o + j * 3 + 2, none⟩ = some (.int .i64 ls[j].2.2) := by
  obtain ⟨g, o, rfl, _, hg, hc⟩ := h.open_ (by omega)
  have a0 := hc (j * 3 + 0) (.int .i64 ls[j].1) (by rw [flat3_at _ _ (fun _ => rfl) j 0 hj (by omega)]; rfl)
  have a1 := hc (j * 3 + 1) (.int .i64 ls[j].2.1) (by rw [flat3_at _ _ (fun _ => rfl) j 1 hj (by omega)]; rfl)
  have a2 := hc (j * 3 + 2) (.int .i64 ls[j].2.2) (by rw [flat3_at _ _ (fun _ => rfl) j 2 hj (by omega)]; rfl)
  exact ⟨g, o, rfl, hg, by simpa using a0, by rw [Nat.add_assoc]; exact a1, by rw [Nat.add_assoc]; exact a2⟩
def lAt (ls : List LinkD) (i : Nat) : LinkD := ls.getD i (0, 0, 0)
theorem lAt_eq (ls : List LinkD) {k : Nat} (h : k < ls.length) : lAt ls k = ls[k] := by simp [lAt, List.getD, List.getElem?_eq_getElem h]
def lkBad (x : LinkD) : Bool := decide (x.1 < 0) || decide (x.2.1 ≤ x.1) || decide (345686400000 < x.2.1) || outsideB x.2.2 1 1000000
def liF (ls : List LinkD) (i : Nat) : Int := if lkBad (lAt ls i) then 1 else if decide (0 < i) && decide ((lAt ls i).1 < (lAt ls (i - 1)).2.1) then 7 else 0
def linksF (ls : List LinkD) : Int := if 500 < ls.length then 2 else firstTo (liF ls) ls.length
def LkRel (ls : List LinkD) (w : World) (g : Nat) (i : Value) (wr : World) : Prop :=
  ∃ k : Nat, k + g = ls.length ∧ i = .int .i64 k ∧ firstTo (liF ls) k = 0 ∧ Below w.heap.size w wr
/-- Numbers that nothing overflows. -/
def LkBd (ls : List LinkD) : Prop := ∀ x ∈ ls, (-1000000000000000 ≤ x.1 ∧ x.1 ≤ 1000000000000000) ∧ (-1000000000000000 ≤ x.2.1 ∧ x.2.1 ≤ 1000000000000000) ∧ -1000000000000000 ≤ x.2.2 ∧ x.2.2 ≤ 1000000000000000
set_option maxRecDepth 100000 in
set_option maxHeartbeats 4000000 in
theorem checkLinks_any (A : Option Addr) (lo c : Nat) (ls : List LinkD) (w : World) (hf : Lst w lo 3 (.slice A ls.length c) (ls.flatMap lkC)) (hn : ls.length ≤ 500) (hbd : LkBd ls) :
    Calls Tryz.prog 30 #[.slice A ls.length c] w fun e w' => e = .returned (.int .i64 (linksF ls)) ∧ Below w.heap.size w w' := by
  have HF := Lib.hid hf
  have HBD := Lib.hid hbd
  have HV := Lib.hid (show linksF ls = firstTo (liF ls) ls.length by rw [linksF, if_neg (by omega)])
  clear hf hbd
  go_enter Tryz.func30, Tryz.ntmps30
  go_wp2_with fail
  go_loopg [10, 3, 4] ls.length (fun g i _ _ wr => LkRel ls w g i wr)
  case atStart => exact ⟨0, by omega, rfl, rfl, Below.refl _ _⟩
  case round =>
    obtain ⟨k, hk, rfl, h0, hb⟩ := hrel
    by_cases hg : gk = 0
    · obtain rfl : k = ls.length := by omega
      have HV2 := Lib.hid (HV.out.trans h0)
      clear hk hg h0
      go_wp2_with fail
      go_ret
      exact ⟨ret_int HV2.out.symm, hb⟩
    · have hlt : k < ls.length := by omega
      obtain ⟨g, o, rfl, hgl, c0, c1, c2⟩ := (HF.out.below hb).link hlt rfl
      have hbx := HBD.out _ (List.getElem_mem hlt)
      have HL := Lib.hid (lAt_eq ls hlt)
      have HPREV : Hid (∀ k', k = k' + 1 → wr.cell? ⟨g, o + k' * 3 + 1, none⟩ = some (.int .i64 (lAt ls k').2.1)) := fun k' e => by
        subst e
        obtain ⟨g2, o2, e2, _, _, h2, _⟩ := (HF.out.below hb).link (j := k') (by omega) rfl
        simp only [Option.some.injEq, Addr.mk.injEq] at e2
        obtain ⟨rfl, rfl, _⟩ := e2
        rw [lAt_eq ls (by omega : k' < ls.length)]
        exact h2
      have HK := Lib.hid hk
      have H0 := Lib.hid h0
      have hgk : gk ≠ 0 := hg
      clear hk hg h0
      generalize ls[k] = x at *
      obtain ⟨xf, xt, xs⟩ := x
      obtain ⟨⟨hf0, hf1⟩, ⟨ht0, ht1⟩, hs0, hs1⟩ : (-1000000000000000 ≤ xf ∧ xf ≤ 1000000000000000) ∧ (-1000000000000000 ≤ xt ∧ xt ≤ 1000000000000000) ∧ -1000000000000000 ≤ xs ∧ xs ≤ 1000000000000000 := hbx
      have hb1 := bbox hb (.cells #[.int .i64 xf, .int .i64 xt, .int .i64 xs] 152)
      go_upto_region 6 with fail
      go_cut [38] (fun s wx => s = .bool (lkBad (xf, xt, xs)) ∧ wx = wr.alloc (.cells #[.int .i64 xf, .int .i64 xt, .int .i64 xs] 152))
      case first =>
        by_cases t1 : xf < 0
        · go_wp2_with fail
          go_meet
          exact ⟨by simp [lkBad, t1], rfl⟩
        · by_cases t2 : xt ≤ xf
          · go_wp2_with fail
            go_meet
            exact ⟨by simp [lkBad, t2], rfl⟩
          · by_cases t3 : 345686400000 < xt
            · go_wp2_with fail
              go_meet
              exact ⟨by simp [lkBad, t3], rfl⟩
            · have HB := Lib.hid (show lkBad (xf, xt, xs) = outsideB xs 1 1000000 by simp [lkBad, t1, t2, t3])
              go_wp2_with fail
              refine (outside_any xs 1 1000000 _).mono ?_
              rintro e w' ⟨rfl, rfl⟩
              go_wp2_with fail
              go_meet
              exact ⟨by rw [HB.out], rfl⟩
      case rest =>
        obtain ⟨rfl, rfl⟩ := hcut
        have HX := Lib.hid (heap_alloc_new wr (.cells #[.int .i64 xf, .int .i64 xt, .int .i64 xs] 152))
        have hl1 : wr.heap.size < (wr.alloc (.cells #[.int .i64 xf, .int .i64 xt, .int .i64 xs] 152)).heap.size := by simp
        have d0 : (wr.alloc (.cells #[.int .i64 xf, .int .i64 xt, .int .i64 xs] 152)).cell? ⟨wr.heap.size, 0, none⟩ = some (.int .i64 xf) := cell_new_list wr _ _ 0 _ rfl
        have HP2 : Hid (∀ k', k = k' + 1 → (wr.alloc (.cells #[.int .i64 xf, .int .i64 xt, .int .i64 xs] 152)).cell? ⟨g, o + k' * 3 + 1, none⟩ = some (.int .i64 (lAt ls k').2.1)) := fun k' e => bold (bfirst _ _) (HPREV.out k' e)
        have HLI := Lib.hid (show liF ls k = if lkBad (xf, xt, xs) then 1 else if decide (0 < k) && decide (xf < (lAt ls (k - 1)).2.1) then 7 else 0 by rw [liF, HL.out])
        generalize wr.alloc (.cells #[.int .i64 xf, .int .i64 xt, .int .i64 xs] 152) = w1 at *
        generalize wr.heap.size = pb at *
        clear HPREV HX c0 c1 c2
        rcases Bool.eq_false_or_eq_true (lkBad (xf, xt, xs)) with hbad | hbad
        · have HN := Lib.hid (show linksF ls = 1 by rw [HV.out, firstTo_at hlt H0.out (by rw [HLI.out, hbad, if_pos rfl]; decide), HLI.out, hbad]; rfl)
          rw [hbad]
          clear hbad HLI
          go_wp2_with fail
          go_ret
          exact ⟨ret_int HN.out.symm, hb1⟩
        · rw [hbad] at HLI ⊢
          clear hbad
          have HLJ := Lib.hid (show liF ls k = if decide (0 < k) && decide (xf < (lAt ls (k - 1)).2.1) then 7 else 0 from HLI.out)
          clear HLI
          go_upto_region 8 with fail
          go_cut [53] (fun s wx => s = .bool (decide (0 < k) && decide (xf < (lAt ls (k - 1)).2.1)) ∧ ∃ q, wx = w1.drewN q)
          case first =>
            rcases k with _ | k'
            · have hd : decide ((0 : Int) < ((0 : Nat) : Int)) = false := by decide
              go_quiet (fail)
              go_wp2_with fail
              go_meet
              exact ⟨rfl, _, rfl⟩
            · have cP := HP2.out k' rfl
              have hd : decide ((0 : Int) < ((k' + 1 : Nat) : Int)) = true := by simp
              go_quiet (fail)
              go_wp2_with fail
              go_meet
              exact ⟨by simp, _, rfl⟩
          case rest =>
            obtain ⟨rfl, q, rfl⟩ := hcut
            have hb3 := below_drewN hb1 q
            rcases Bool.eq_false_or_eq_true (decide (0 < k) && decide (xf < (lAt ls (k - 1)).2.1)) with hc | hc
            · have HN := Lib.hid (show linksF ls = 7 by rw [HV.out, firstTo_at hlt H0.out (by rw [HLJ.out, hc]; decide), HLJ.out, hc]; rfl)
              rw [hc]
              clear hc HLJ
              go_wp2_with fail
              go_ret
              exact ⟨ret_int HN.out.symm, hb3⟩
            · have HN := Lib.hid (firstTo_succ H0.out (by rw [HLJ.out, hc]; rfl))
              rw [hc]
              clear hc HLJ
              go_wp2_with fail
              go_roundg (gk - 1)
              case measure => omega
              case rel => exact ⟨k + 1, by have := HK.out; omega, by go_num, HN.out, hb3⟩
set_option maxRecDepth 100000 in
set_option maxHeartbeats 4000000 in
theorem linksFault_any (A : Option Addr) (lo c : Nat) (ls : List LinkD) (w : World) (hf : Lst w lo 3 (.slice A ls.length c) (ls.flatMap lkC)) (hn : ls.length ≤ 500) (hbd : LkBd ls) :
    Calls Tryz.prog 29 #[.slice A ls.length c] w fun e w' => e = .returned (.int .i64 (linksF ls)) ∧ Below w.heap.size w w' := by
  have HF := Lib.hid hf
  have HBD := Lib.hid hbd
  have HV := Lib.hid (show linksF ls = firstTo (liF ls) ls.length by rw [linksF, if_neg (by omega)])
  clear hf hbd
  go_enter Tryz.func29, Tryz.ntmps29
  go_wp2_with fail
  go_loopg [10, 3, 4] ls.length (fun g i _ _ wr => LkRel ls w g i wr)
  case atStart => exact ⟨0, by omega, rfl, rfl, Below.refl _ _⟩
  case round =>
    obtain ⟨k, hk, rfl, h0, hb⟩ := hrel
    by_cases hg : gk = 0
    · obtain rfl : k = ls.length := by omega
      have HV2 := Lib.hid (HV.out.trans h0)
      clear hk hg h0
      go_wp2_with fail
      go_ret
      exact ⟨ret_int HV2.out.symm, hb⟩
    · have hlt : k < ls.length := by omega
      obtain ⟨g, o, rfl, hgl, c0, c1, c2⟩ := (HF.out.below hb).link hlt rfl
      have hbx := HBD.out _ (List.getElem_mem hlt)
      have HL := Lib.hid (lAt_eq ls hlt)
      have HPREV : Hid (∀ k', k = k' + 1 → wr.cell? ⟨g, o + k' * 3 + 1, none⟩ = some (.int .i64 (lAt ls k').2.1)) := fun k' e => by
        subst e
        obtain ⟨g2, o2, e2, _, _, h2, _⟩ := (HF.out.below hb).link (j := k') (by omega) rfl
        simp only [Option.some.injEq, Addr.mk.injEq] at e2
        obtain ⟨rfl, rfl, _⟩ := e2
        rw [lAt_eq ls (by omega : k' < ls.length)]
        exact h2
      have HK := Lib.hid hk
      have H0 := Lib.hid h0
      have hgk : gk ≠ 0 := hg
      clear hk hg h0
      generalize ls[k] = x at *
      obtain ⟨xf, xt, xs⟩ := x
      obtain ⟨⟨hf0, hf1⟩, ⟨ht0, ht1⟩, hs0, hs1⟩ : (-1000000000000000 ≤ xf ∧ xf ≤ 1000000000000000) ∧ (-1000000000000000 ≤ xt ∧ xt ≤ 1000000000000000) ∧ -1000000000000000 ≤ xs ∧ xs ≤ 1000000000000000 := hbx
      have hb1 := bbox hb (.cells #[.int .i64 xf, .int .i64 xt, .int .i64 xs] 152)
      go_upto_region 6 with fail
      go_cut [15] (fun s wx => s = .bool (lkBad (xf, xt, xs)) ∧ wx = wr.alloc (.cells #[.int .i64 xf, .int .i64 xt, .int .i64 xs] 152))
      case first =>
        by_cases t1 : xf < 0
        · go_wp2_with fail
          go_meet
          exact ⟨by simp [lkBad, t1], rfl⟩
        · by_cases t2 : xt ≤ xf
          · go_wp2_with fail
            go_meet
            exact ⟨by simp [lkBad, t2], rfl⟩
          · by_cases t3 : 345686400000 < xt
            · go_wp2_with fail
              go_meet
              exact ⟨by simp [lkBad, t3], rfl⟩
            · have HB := Lib.hid (show lkBad (xf, xt, xs) = outsideB xs 1 1000000 by simp [lkBad, t1, t2, t3])
              go_wp2_with fail
              refine (in_any xs 1 1000000 _).mono ?_
              rintro e w' ⟨rfl, rfl⟩
              go_wp2_with fail
              go_meet
              exact ⟨by rw [HB.out], rfl⟩
      case rest =>
        obtain ⟨rfl, rfl⟩ := hcut
        have HX := Lib.hid (heap_alloc_new wr (.cells #[.int .i64 xf, .int .i64 xt, .int .i64 xs] 152))
        have hl1 : wr.heap.size < (wr.alloc (.cells #[.int .i64 xf, .int .i64 xt, .int .i64 xs] 152)).heap.size := by simp
        have d0 : (wr.alloc (.cells #[.int .i64 xf, .int .i64 xt, .int .i64 xs] 152)).cell? ⟨wr.heap.size, 0, none⟩ = some (.int .i64 xf) := cell_new_list wr _ _ 0 _ rfl
        have HP2 : Hid (∀ k', k = k' + 1 → (wr.alloc (.cells #[.int .i64 xf, .int .i64 xt, .int .i64 xs] 152)).cell? ⟨g, o + k' * 3 + 1, none⟩ = some (.int .i64 (lAt ls k').2.1)) := fun k' e => bold (bfirst _ _) (HPREV.out k' e)
        have HLI := Lib.hid (show liF ls k = if lkBad (xf, xt, xs) then 1 else if decide (0 < k) && decide (xf < (lAt ls (k - 1)).2.1) then 7 else 0 by rw [liF, HL.out])
        generalize wr.alloc (.cells #[.int .i64 xf, .int .i64 xt, .int .i64 xs] 152) = w1 at *
        generalize wr.heap.size = pb at *
        clear HPREV HX c0 c1 c2
        rcases Bool.eq_false_or_eq_true (lkBad (xf, xt, xs)) with hbad | hbad
        · have HN := Lib.hid (show linksF ls = 1 by rw [HV.out, firstTo_at hlt H0.out (by rw [HLI.out, hbad, if_pos rfl]; decide), HLI.out, hbad]; rfl)
          rw [hbad]
          clear hbad HLI
          go_wp2_with fail
          go_ret
          exact ⟨ret_int HN.out.symm, hb1⟩
        · rw [hbad] at HLI ⊢
          clear hbad
          have HLJ := Lib.hid (show liF ls k = if decide (0 < k) && decide (xf < (lAt ls (k - 1)).2.1) then 7 else 0 from HLI.out)
          clear HLI
          go_upto_region 8 with fail
          go_cut [41] (fun s wx => s = .bool (decide (0 < k) && decide (xf < (lAt ls (k - 1)).2.1)) ∧ ∃ q, wx = w1.drewN q)
          case first =>
            rcases k with _ | k'
            · have hd : decide ((0 : Int) < ((0 : Nat) : Int)) = false := by decide
              go_quiet (fail)
              go_wp2_with fail
              go_meet
              exact ⟨rfl, _, rfl⟩
            · have cP := HP2.out k' rfl
              have hd : decide ((0 : Int) < ((k' + 1 : Nat) : Int)) = true := by simp
              go_quiet (fail)
              go_wp2_with fail
              go_meet
              exact ⟨by simp, _, rfl⟩
          case rest =>
            obtain ⟨rfl, q, rfl⟩ := hcut
            have hb3 := below_drewN hb1 q
            rcases Bool.eq_false_or_eq_true (decide (0 < k) && decide (xf < (lAt ls (k - 1)).2.1)) with hc | hc
            · have HN := Lib.hid (show linksF ls = 7 by rw [HV.out, firstTo_at hlt H0.out (by rw [HLJ.out, hc]; decide), HLJ.out, hc]; rfl)
              rw [hc]
              clear hc HLJ
              go_wp2_with fail
              go_ret
              exact ⟨ret_int HN.out.symm, hb3⟩
            · have HN := Lib.hid (firstTo_succ H0.out (by rw [HLJ.out, hc]; rfl))
              rw [hc]
              clear hc HLJ
              go_wp2_with fail
              go_roundg (gk - 1)
              case measure => omega
              case rel => exact ⟨k + 1, by have := HK.out; omega, by go_num, HN.out, hb3⟩
end Go.Proofs.YtegalkmfoffpfaaGreatDoor
