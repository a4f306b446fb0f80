/- inTime, Plan, Faster, FasterOf. -/
import Derived.Test.YtegalkmfoffpfaaGreatDoorFastWalk
import Derived.Deep.RegionHeld3
import Derived.Deep.DrawnRows
namespace Go.Proofs.YtegalkmfoffpfaaGreatDoor
open Go.RowKit Go.Sort Go.Lib
attribute [local go_sem ↓] Go.wp_at_zero Go.wp_at_succ
set_option maxRecDepth 100000 in
theorem late1_any (ts : List CameD) (w : World) : PredL Tryz.prog 174 #[] ndC ts (fun c => decide (0 < c.2.2)) w := by
  rintro W ⟨x0, x1, x2⟩ _ _
  show Calls Tryz.prog 174 #[.agg #[.string x0, .int .i64 x1, .int .i64 x2]] W _
  go_enter Tryz.func174, Tryz.ntmps174
  go_wp2_with fail
  go_ret
  exact ⟨rfl, bfirst _ _⟩
set_option maxRecDepth 100000 in
theorem late2_any (ts : List CameD) (w : World) : PredL Tryz.prog 109 #[] ndC ts (fun c => decide (0 < c.2.2)) w := by
  rintro W ⟨x0, x1, x2⟩ _ _
  show Calls Tryz.prog 109 #[.agg #[.string x0, .int .i64 x1, .int .i64 x2]] W _
  go_enter Tryz.func109, Tryz.ntmps109
  go_wp2_with fail
  go_ret
  exact ⟨rfl, bfirst _ _⟩
set_option maxRecDepth 100000 in
set_option maxHeartbeats 1000000 in
theorem inTime_any (vL vN : Value) (lo lo' : Nat) (ls : List LinkD) (a : Int) (ns : List NeedD) (p : Int) (w : World) (hL : w.ownsRow lo 152 3 vL ls.length (ls.flatMap lkC)) (hm : ls.length ≤ 20) (hlk : LinksOk ls) (ha : 0 ≤ a) (ha1 : a ≤ 345686400000)
    (hN : w.ownsRow lo' 155 3 vN ns.length (ns.flatMap ndC)) (hn : ns.length ≤ 12) (hok : NeedsOk ns) (hp : 100 ≤ p) (hp9 : p ≤ 100001) :
    Calls Tryz.prog 105 #[vL, .int .i64 a, vN, .int .i64 p] w fun e w' => e = .returned (.bool (!lateB ls a ns p)) ∧ Below w.heap.size w w' := by
  have HLK := Lib.hid hlk
  have HOK := Lib.hid hok
  have HN := Lib.hid hN
  clear hlk hok hN
  go_enter Tryz.func105, Tryz.ntmps105
  go_wp2_with fail
  refine (cloneLink_any vL lo ls _ (by omega) hL).mono ?_
  rintro e w1 ⟨vC, rfl, hC, b1⟩
  clear hL
  obtain ⟨A, m, c, rfl⟩ := own_form hC
  obtain rfl := own_len hC
  go_wp2_with fail
  go_loopg [15, 9, 10] ls.length (fun g i _ _ wr => FaRel p ls (.slice A ls.length c) w g i wr)
  case atStart => exact ⟨0, by omega, rfl, by simpa [mixL] using hC, b1⟩
  case round =>
    obtain ⟨k, hk, rfl, hown, hb⟩ := hrel
    by_cases hg : gk = 0
    · obtain rfl : k = ls.length := by omega
      have HM := Lib.hid (show mixL p ls.length ls = ls.map (fastL p) by simp [mixL])
      have ho2 : wr.ownsRow w.heap.size 152 3 (.slice A (ls.map (fastL p)).length c) (ls.map (fastL p)).length ((ls.map (fastL p)).flatMap lkC) := by rw [HM.out] at hown; simpa using hown
      have hL2 := Lib.hid (Lst.of_own ho2)
      have hfl := Lib.hid (fast_ok HLK.out hp)
      have HLen := Lib.hid (show (ls.map (fastL p)).length = ls.length by simp)
      have hml : (ls.map (fastL p)).length ≤ 20 := by rw [HLen.out]; exact hm
      have HPL := Lib.hid (planS_len (ls.map (fastL p)) a ns)
      clear hk hg hown ho2
      rw [← HLen.out]
      have HLB := Lib.hid (show lateB ls a ns p = (planS (ls.map (fastL p)) a ns).any (fun c => decide (0 < c.2.2)) from rfl)
      generalize ls.map (fastL p) = lf at *
      go_wp2_with fail
      refine (plan_any A _ lo' c lf a vN ns _ hL2.out hml hfl.out ha ha1 (ownsRow_below HN.out hb) hn HOK.out).mono ?_
      rintro e w2 ⟨v, rfl, ho, b2⟩
      obtain ⟨B, m2, d, rfl⟩ := own_form ho
      obtain rfl := own_len ho
      have hl := Lst.of_own ho
      rw [← HPL.out] at hl ⊢
      have hpl : (planS lf a ns).length ≤ 1000000000 := by rw [HPL.out]; omega
      have HLL := Lib.hid hl
      clear ho hl
      go_wp2_with fail
      refine (containsCame B _ d (planS lf a ns) (fun c => decide (0 < c.2.2)) 174 #[] (enters_of Tryz.func174 (by kernel_rfl) rfl) _ HLL.out (late1_any _ _) hpl).mono ?_
      rintro e w3 ⟨rfl, b3⟩
      rw [← HLB.out]
      go_wp2_with fail
      go_ret
      exact ⟨rfl, bon (bon hb b2) b3⟩
    have hlt : k < ls.length := by omega
    obtain ⟨g, rfl, hg0, hgl⟩ := own_at hown (by omega)
    obtain ⟨g2, o2, e2, _, c0, c1, c2⟩ := (Lst.of_own hown).link (j := k) (ls := mixL p k ls) (by rw [mixL_len]; exact hlt) (mixL_len p k ls).symm
    simp only [Option.some.injEq, Addr.mk.injEq] at e2
    obtain ⟨rfl, rfl, _⟩ := e2
    rw [mixL_at p ls hlt] at c0 c1 c2
    have hfz := own_frozen hown (k * 3 + 2)
    have HST := Lib.hid (mixL_store p ls hlt)
    have hx := HLK.out.each _ (List.getElem_mem hlt)
    have HK := Lib.hid hk
    have hgk : gk ≠ 0 := hg
    clear hk hg
    generalize ls[k] = x at *
    obtain ⟨xf, xt, xs⟩ := x
    obtain ⟨x0, x1, x2, x3, x4⟩ : 0 ≤ xf ∧ xf < xt ∧ xt ≤ 345686400000 ∧ 1 ≤ xs ∧ xs ≤ 1000000 := hx
    simp only [Nat.zero_add] at c0 c1 c2
    have hp0 : 0 ≤ xs * p := Int.mul_nonneg (by omega) (by omega)
    have hp1 : xs * p ≤ 1000000 * 100001 := Int.mul_le_mul x4 hp9 (by omega) (by omega)
    have hw1 : IntKind.i64.wrap (xs * p) = xs * p := by rw [IntKind.wrap_i64]; omega
    have HST' := Lib.hid (show ((mixL p k ls).flatMap lkC).set (k * 3 + 2) (.int .i64 (min (xs * p / 100) 1000000)) = (mixL p (k + 1) ls).flatMap lkC from HST.out)
    clear HST
    have hne : g ≠ wr.heap.size := by omega
    go_wp2_with fail
    go_roundg (gk - 1)
    case measure => omega
    case rel =>
      have h1 := (hown.stored (k * 3 + 2) (.int .i64 (min (xs * p / 100) 1000000)))
      refine ⟨k + 1, by have := HK.out; omega, by go_num, ?_, bbox (hb.setCell (p := ⟨g, k * 3 + 2, none⟩) hg0 _) _⟩
      rw [← HST'.out]; exact h1.1.alloc _
set_option maxRecDepth 100000 in
set_option maxHeartbeats 1000000 in
theorem late_any (vL vN : Value) (lo lo' : Nat) (b1 b2 b3 : Nat) (ls : List LinkD) (a : Int) (ns : List NeedD) (p : Int) (w : World) (hL : w.ownsRow lo 152 3 vL ls.length (ls.flatMap lkC)) (hm : ls.length ≤ 20) (hlk : LinksOk ls) (ha : 0 ≤ a) (ha1 : a ≤ 345686400000)
    (hN : w.ownsRow lo' 155 3 vN ns.length (ns.flatMap ndC)) (hn : ns.length ≤ 12) (hok : NeedsOk ns) (hp : 100 ≤ p) (hp9 : p ≤ 100001)
    (c1 : w.cell? ⟨b1, 0, none⟩ = some vL) (c2 : w.cell? ⟨b2, 0, none⟩ = some (.int .i64 a)) (c3 : w.cell? ⟨b3, 0, none⟩ = some vN) :
    Calls Tryz.prog 106 #[.int .i64 p, .pointer (some ⟨b1, 0, none⟩), .pointer (some ⟨b2, 0, none⟩), .pointer (some ⟨b3, 0, none⟩)] w fun e w' => e = .returned (.bool (lateB ls a ns p)) ∧ Below w.heap.size w w' := by
  have HLK := Lib.hid hlk
  have HOK := Lib.hid hok
  have HN := Lib.hid hN
  have HL := Lib.hid hL
  obtain ⟨lf, hlf⟩ : ∃ lf, lf = ls.map (fastL p) := ⟨_, rfl⟩
  have HLF := Lib.hid hlf
  have HLen := Lib.hid (show lf.length = ls.length by rw [hlf]; simp)
  have hfl := Lib.hid (show LinksOk lf by rw [hlf]; exact fast_ok hlk hp)
  have hml : lf.length ≤ 20 := by rw [HLen.out]; exact hm
  have HPL := Lib.hid (planS_len lf a ns)
  have hpl : (planS lf a ns).length ≤ 1000000000 := by rw [HPL.out]; omega
  have HLB := Lib.hid (show lateB ls a ns p = (planS lf a ns).any (fun c => decide (0 < c.2.2)) by rw [hlf]; rfl)
  have HCN := Lib.hid (fun (B : Option Addr) (q d : Nat) (W : World) (h : Lst W q 3 (.slice B ns.length d) ((planS lf a ns).flatMap ndC)) => show Calls Tryz.prog 107 #[.slice B ns.length d, .func (.func 109) #[] #[]] W fun e w' => e = .returned (.bool (lateB ls a ns p)) ∧ Below W.heap.size W w' by
    have := containsCame B q d (planS lf a ns) (fun c => decide (0 < c.2.2)) 109 #[] (enters_of Tryz.func109 (by kernel_rfl) rfl) W (by rw [HPL.out]; exact h) (late2_any _ _) hpl
    rw [HPL.out] at this
    rw [HLB.out]
    exact this)
  have hl1 := World.block_lt_of_cell? w _ c1
  have hl2 := World.block_lt_of_cell? w _ c2
  have hl3 := World.block_lt_of_cell? w _ c3
  have HC := Lib.hid c1
  obtain ⟨LA, m, lc, rfl⟩ := own_form hL
  obtain rfl := own_len hL
  obtain ⟨NA, m, nc, rfl⟩ := own_form hN
  obtain rfl := own_len hN
  clear hlk hok hN hL hlf
  go_enter Tryz.func106, Tryz.ntmps106
  go_wp2_with fail
  go_region_held3 (fun w' => w'.cell? ⟨b1, 0, none⟩ = some (.slice LA ls.length lc) ∧ w'.cell? ⟨b2, 0, none⟩ = some (.int .i64 a) ∧ w'.cell? ⟨b3, 0, none⟩ = some (.slice NA ns.length nc))
    (first | (go_keep; done) | (exact ⟨k1, k2, k3⟩))
    (first
      | (go_at_call 108; refine (faster_any _ lo ls p _ ?_ hm HLK.out hp hp9).mono ?_; (exact HL.out); rintro e w1 ⟨v1, rfl, o1, x1⟩; rw [← HLF.out] at o1; have k1 := bold x1 (show (w.drew).cell? ⟨b1, 0, none⟩ = some (.slice LA ls.length lc) from c1); have k2 := bold x1 (show (w.drew).cell? ⟨b2, 0, none⟩ = some (.int .i64 a) from c2); have k3 := bold x1 (show (w.drew).cell? ⟨b3, 0, none⟩ = some (.slice NA ns.length nc) from c3); obtain ⟨FA, m, fc, rfl⟩ := own_form o1; obtain rfl := own_len o1)
      | (go_at_call 42; refine (planOf_any FA _ lo' fc lf a _ ns _ (Lst.of_own o1) hml hfl.out ha ha1 (ownsRow_below (w := w.drew) HN.out x1) hn HOK.out).mono ?_; rintro e w2 ⟨v2, rfl, o2, x2⟩; have k1 := bold x2 k1; have k2 := bold x2 k2; have k3 := bold x2 k3; obtain ⟨PA, m, pc, rfl⟩ := own_form o2; obtain rfl := own_len o2)
      | (go_at_call 107; refine (HCN.out PA _ pc _ (Lst.of_own o2)).mono ?_; rintro e w3 ⟨rfl, x3⟩; have k1 := bold x3 k1; have k2 := bold x3 k2; have k3 := bold x3 k3))
  go_wp2_with fail
  go_ret
  exact ⟨rfl, (below_drewN (Below.refl _ w) 1).trans ((bon (bon x1 x2) x3).mono (Nat.le_refl _))⟩
end Go.Proofs.YtegalkmfoffpfaaGreatDoor
