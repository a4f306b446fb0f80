/- Plan, Faster, FasterOf. -/
import Derived.Test.YtegalkmfoffpfaaGreatDoorFastWalk2
namespace Go.Proofs.YtegalkmfoffpfaaGreatDoor
open Go.RowKit Go.Sort Go.Lib
theorem nfF_zero {ls : List LinkD} {a : Int} {ns : List NeedD} (h : nfF ls a ns = 0) : linksF ls = 0 ∧ momB a = true ∧ needsF ns = 0 := by
  unfold nfF at h
  split at h
  · split at h
    · rename_i h1 h2; exact ⟨h1, h2, h⟩
    · omega
  · rename_i h1; exact absurd h h1
/-- What the fault zero gives. -/
structure AllOk (ls : List LinkD) (a : Int) (ns : List NeedD) : Prop where
  lk : LinksOk ls
  a0 : 0 ≤ a
  a1 : a ≤ 345686400000
  nd : NeedsOk ns
theorem allOk {ls : List LinkD} {a : Int} {ns : List NeedD} (h : nfF ls a ns = 0) : AllOk ls a ns := by
  obtain ⟨h1, h2, h3⟩ := nfF_zero h
  have : 0 ≤ a ∧ a ≤ 345686400000 := by simp [momB] at h2; omega
  exact ⟨links_ok h1, this.1, this.2, needs_ok h3⟩
set_option maxRecDepth 100000 in
set_option maxHeartbeats 1000000 in
theorem Plan_ok (vL vN : Value) (lo lo' : Nat) (ls : List LinkD) (a : Int) (ns : List NeedD) (w : World) (hL : w.ownsRow lo 152 3 vL ls.length (ls.flatMap lkC)) (hm : ls.length ≤ 20) (hbd : LkBd ls)
    (hN : w.ownsRow lo' 155 3 vN ns.length (ns.flatMap ndC)) (hn : ns.length ≤ 12) (hok : NdOk ns) (h0 : nfF ls a ns = 0) :
    Calls Tryz.prog 37 #[vL, .int .i64 a, vN] w fun e w' => ∃ v, e = .returned (.tuple #[v, .int .i64 0]) ∧ w'.ownsRow w.heap.size 86 3 v ns.length ((planS ls a ns).flatMap ndC) ∧ Below w.heap.size w w' := by
  have HOK := Lib.hid (allOk h0)
  have H0 := Lib.hid h0
  obtain ⟨LA, m, lc, rfl⟩ := own_form hL
  obtain rfl := own_len hL
  obtain ⟨NA, m, nc, rfl⟩ := own_form hN
  obtain rfl := own_len hN
  have HL := Lib.hid hL
  have HN := Lib.hid hN
  have HD := Lib.hid hok
  clear hL hN h0 hok
  go_enter Tryz.func37, Tryz.ntmps37
  go_wp2_with fail
  refine (needsFault_any LA NA _ _ lc nc ls a ns _ (Lst.of_own HL.out) (by omega) hbd (Lst.of_own HN.out) HD.out (by omega)).mono ?_
  rintro e w1 ⟨rfl, b1⟩
  rw [H0.out]
  go_wp2_with fail
  refine (plan_any LA _ _ lc ls a _ ns _ (Lst.of_own (ownsRow_below HL.out b1)) (by omega) HOK.out.lk HOK.out.a0 HOK.out.a1 (ownsRow_below HN.out b1) hn HOK.out.nd).mono ?_
  rintro e w2 ⟨v, rfl, o2, b2⟩
  have HO := Lib.hid (ownsRow_base o2 b1.size)
  clear o2
  go_wp2_with fail
  go_ret2
  exact ⟨_, rfl, HO.out, bon b1 b2⟩
set_option maxRecDepth 100000 in
set_option maxHeartbeats 1000000 in
theorem Plan_no (vL vN : Value) (lo lo' : Nat) (ls : List LinkD) (a : Int) (ns : List NeedD) (w : World) (hL : w.ownsRow lo 152 3 vL ls.length (ls.flatMap lkC)) (hm : ls.length ≤ 20) (hbd : LkBd ls)
    (hN : w.ownsRow lo' 155 3 vN ns.length (ns.flatMap ndC)) (hn : ns.length ≤ 12) (hok : NdOk ns) (h0 : (nfF ls a ns != 0) = true) :
    Calls Tryz.prog 37 #[vL, .int .i64 a, vN] w fun e w' => e = .returned (.tuple #[.slice none 0 0, .int .i64 (nfF ls a ns)]) ∧ Below w.heap.size w w' := by
  obtain ⟨LA, m, lc, rfl⟩ := own_form hL
  obtain rfl := own_len hL
  obtain ⟨NA, m, nc, rfl⟩ := own_form hN
  obtain rfl := own_len hN
  have HL := Lib.hid hL
  have HN := Lib.hid hN
  have HD := Lib.hid hok
  clear hL hN hok
  go_enter Tryz.func37, Tryz.ntmps37
  go_wp2_with fail
  refine (needsFault_any LA NA _ _ lc nc ls a ns _ (Lst.of_own HL.out) (by omega) hbd (Lst.of_own HN.out) HD.out (by omega)).mono ?_
  rintro e w1 ⟨rfl, b1⟩
  go_wp2_with fail
  go_ret2
  exact ⟨rfl, b1⟩
set_option maxRecDepth 100000 in
set_option maxHeartbeats 1000000 in
theorem Faster_no (vL vN : Value) (lo lo' : Nat) (ls : List LinkD) (a : Int) (ns : List NeedD) (w : World) (hL : w.ownsRow lo 152 3 vL ls.length (ls.flatMap lkC)) (hm : ls.length ≤ 20) (hbd : LkBd ls)
    (hN : w.ownsRow lo' 155 3 vN ns.length (ns.flatMap ndC)) (hn : ns.length ≤ 12) (hok : NdOk ns) (h0 : (nfF ls a ns != 0) = true) :
    Calls Tryz.prog 38 #[vL, .int .i64 a, vN] w fun e w' => e = .returned (.tuple #[.int .i64 0, .bool false, .int .i64 (nfF ls a ns)]) ∧ Below w.heap.size w w' := by
  obtain ⟨LA, m, lc, rfl⟩ := own_form hL
  obtain rfl := own_len hL
  obtain ⟨NA, m, nc, rfl⟩ := own_form hN
  obtain rfl := own_len hN
  have HL := Lib.hid hL
  have HN := Lib.hid hN
  have HD := Lib.hid hok
  clear hL hN hok
  go_enter Tryz.func38, Tryz.ntmps38
  go_wp2_with fail
  refine (needsFault_any LA NA _ _ lc nc ls a ns _ (Lst.of_own HL.out) (by omega) hbd (Lst.of_own HN.out) HD.out (by omega)).mono ?_
  rintro e w1 ⟨rfl, b1⟩
  go_wp2_with fail
  go_ret3
  exact ⟨rfl, b1⟩
def SearchR (P : Int → Bool) (top : Int) (w : World) (g : Nat) (s7 s8 : Value) (wr : World) : Prop :=
  ∃ lo hi : Int, s7 = .int .i64 lo ∧ s8 = .int .i64 hi ∧ 100 ≤ lo ∧ lo ≤ hi ∧ hi ≤ top ∧ hi - lo ≤ g ∧ (∀ q, 100 ≤ q → q < lo → P q = true) ∧ (hi < 100001 → P hi = false) ∧ Below w.heap.size w wr
set_option maxRecDepth 100000 in
set_option maxHeartbeats 2000000 in
theorem Faster_ok (vL vN : Value) (lo lo' : Nat) (ls : List LinkD) (a : Int) (ns : List NeedD) (o : Option Int) (w : World) (hL : w.ownsRow lo 152 3 vL ls.length (ls.flatMap lkC)) (hm : ls.length ≤ 20) (hbd : LkBd ls)
    (hN : w.ownsRow lo' 155 3 vN ns.length (ns.flatMap ndC)) (hn : ns.length ≤ 12) (hok : NdOk ns) (h0 : nfF ls a ns = 0) (ho : FastIs ls a ns o) :
    Calls Tryz.prog 38 #[vL, .int .i64 a, vN] w fun e w' => e = .returned (.tuple #[.int .i64 (optZ o), .bool o.isSome, .int .i64 0]) ∧ Below w.heap.size w w' := by
  have HOK := Lib.hid (allOk h0)
  have hns : ∀ x ∈ ns, 0 ≤ x.2.1 := fun x hx => by have := ((allOk h0).nd.each x hx).1; omega
  have HONE := Lib.hid (fun o' (h : FastIs ls a ns o') => FastIs.one (allOk h0).lk (allOk h0).a1 hns ho h)
  have HMO := Lib.hid (fun p q (hp : 100 ≤ p) (hpq : p ≤ q) (h : lateB ls a ns q = true) => lateB_mono (allOk h0).lk hp hpq (allOk h0).a1 hns h)
  have H0 := Lib.hid h0
  obtain ⟨LA, m, lc, rfl⟩ := own_form hL
  obtain rfl := own_len hL
  obtain ⟨NA, m, nc, rfl⟩ := own_form hN
  obtain rfl := own_len hN
  have HL := Lib.hid hL
  have HN := Lib.hid hN
  have HD := Lib.hid hok
  clear hL hN h0 hok hns ho
  go_enter Tryz.func38, Tryz.ntmps38
  go_wp2_with fail
  refine (needsFault_any LA NA _ _ lc nc ls a ns _ (Lst.of_own HL.out) (by omega) hbd (Lst.of_own HN.out) HD.out (by omega)).mono ?_
  rintro e w1 ⟨rfl, b1⟩
  rw [H0.out]
  go_wp2_with fail
  refine (inTime_any _ _ _ _ ls a ns 100000 _ (ownsRow_below HL.out b1) hm HOK.out.lk HOK.out.a0 HOK.out.a1 (ownsRow_below HN.out b1) hn HOK.out.nd (by omega) (by omega)).mono ?_
  rintro e w2 ⟨rfl, b2⟩
  have B2 := bon b1 b2
  clear b1 b2
  rcases Bool.eq_false_or_eq_true (lateB ls a ns 100000) with hl | hl
  · have HR := Lib.hid (HONE.out none hl)
    rw [hl]
    clear hl
    go_wp2_with fail
    go_ret3
    exact ⟨by rw [HR.out]; rfl, B2⟩
  · have HLT := Lib.hid hl
    rw [hl]
    clear hl
    go_wp2_with fail
    go_loopg [10, 11, 12] 100000 (fun g s7 s8 _ wr => SearchR (lateB ls a ns) 100000 w g s7 s8 wr)
    case atStart => exact ⟨100, 100000, rfl, rfl, by omega, by omega, by omega, by omega, fun q h1 h2 => by omega, fun _ => HLT.out, B2⟩
    case round =>
      obtain ⟨l, hi, rfl, rfl, h1, h2, h3, h4, h5, h6, hb⟩ := hrel
      have H5 := Lib.hid h5
      have H6 := Lib.hid (h6 (by omega))
      clear h5 h6
      by_cases hlt : l < hi
      · have hm1 : l ≤ (l + hi) / 2 := by omega
        have hm2 : (l + hi) / 2 < hi := by omega
        go_wp2_with fail
        refine (inTime_any _ _ _ _ ls a ns ((l + hi) / 2) _ (ownsRow_below HL.out hb) hm HOK.out.lk HOK.out.a0 HOK.out.a1 (ownsRow_below HN.out hb) hn HOK.out.nd (by omega) (by omega)).mono ?_
        rintro e w3 ⟨rfl, b3⟩
        rcases Bool.eq_false_or_eq_true (lateB ls a ns ((l + hi) / 2)) with hl | hl
        · have HX := Lib.hid (show ∀ q, 100 ≤ q → q < (l + hi) / 2 + 1 → lateB ls a ns q = true from fun q h7 h8 => HMO.out q ((l + hi) / 2) h7 (by omega) hl)
          rw [hl]
          clear hl
          go_wp2_with fail
          go_roundg (hi - ((l + hi) / 2 + 1)).toNat
          case measure => omega
          case rel => exact ⟨(l + hi) / 2 + 1, hi, rfl, rfl, by omega, by omega, h3, by omega, HX.out, fun _ => H6.out, bon hb b3⟩
        · have HX := Lib.hid hl
          rw [hl]
          clear hl
          go_wp2_with fail
          go_roundg ((l + hi) / 2 - l).toNat
          case measure => omega
          case rel => exact ⟨l, (l + hi) / 2, rfl, rfl, h1, by omega, by omega, by omega, H5.out, fun _ => HX.out, bon hb b3⟩
      · obtain rfl : l = hi := by omega
        have HR := Lib.hid (HONE.out (some l) ⟨h1, h3, H6.out, H5.out⟩)
        go_wp2_with fail
        go_ret3
        exact ⟨by rw [HR.out]; rfl, hb⟩
theorem three_cells {w : World} (u v x : Value) (t1 t2 t3 : TypeId) :
    (((w.alloc (.cells #[u] t1)).alloc (.cells #[v] t2)).alloc (.cells #[x] t3)).cell? ⟨w.heap.size, 0, none⟩ = some u ∧ (((w.alloc (.cells #[u] t1)).alloc (.cells #[v] t2)).alloc (.cells #[x] t3)).cell? ⟨w.heap.size + 1, 0, none⟩ = some v ∧ (((w.alloc (.cells #[u] t1)).alloc (.cells #[v] t2)).alloc (.cells #[x] t3)).cell? ⟨w.heap.size + 2, 0, none⟩ = some x := by
  refine ⟨?_, ?_, ?_⟩
  · exact bold (bfirst _ _) (bold (bfirst _ _) (cell_new_list w #[u] t1 0 u rfl))
  · have := bold (bfirst _ (.cells #[x] t3)) (cell_new_list (w.alloc (.cells #[u] t1)) #[v] t2 0 v rfl)
    simpa using this
  · have := cell_new_list ((w.alloc (.cells #[u] t1)).alloc (.cells #[v] t2)) #[x] t3 0 x rfl
    simpa using this
set_option maxRecDepth 100000 in
set_option maxHeartbeats 2000000 in
theorem FasterOf_ok (vL vN : Value) (lo lo' : Nat) (ls : List LinkD) (a : Int) (ns : List NeedD) (o : Option Int) (w : World) (hL : w.ownsRow lo 152 3 vL ls.length (ls.flatMap lkC)) (hm : ls.length ≤ 20)
    (hN : w.ownsRow lo' 155 3 vN ns.length (ns.flatMap ndC)) (hn : ns.length ≤ 12) (h0 : nfF ls a ns = 0) (ho : FastIs ls a ns o) :
    Calls Tryz.prog 40 #[vL, .int .i64 a, vN] w fun e w' => e = .returned (.int .i64 (optN o)) ∧ Below w.heap.size w w' := by
  have HOK := Lib.hid (allOk h0)
  have hns : ∀ x ∈ ns, 0 ≤ x.2.1 := fun x hx => by have := ((allOk h0).nd.each x hx).1; omega
  have HONE := Lib.hid (fun o' (h : FastIs ls a ns o') => FastIs.one (allOk h0).lk (allOk h0).a1 hns ho h)
  have HMO := Lib.hid (fun p q (hp : 100 ≤ p) (hpq : p ≤ q) (h : lateB ls a ns q = true) => lateB_mono (allOk h0).lk hp hpq (allOk h0).a1 hns h)
  obtain ⟨LA, m, lc, rfl⟩ := own_form hL
  obtain rfl := own_len hL
  obtain ⟨NA, m, nc, rfl⟩ := own_form hN
  obtain rfl := own_len hN
  have HL := Lib.hid hL
  have HN := Lib.hid hN
  clear hL hN h0 hns ho
  go_enter Tryz.func40, Tryz.ntmps40
  go_wp2_with fail
  have B1 := bbox (bbox (bfirst w (.cells #[.slice LA ls.length lc] 62)) (.cells #[.int .i64 a] 3)) (.cells #[.slice NA ns.length nc] 64)
  obtain ⟨k1, k2, k3⟩ := three_cells (w := w) (.slice LA ls.length lc) (.int .i64 a) (.slice NA ns.length nc) 62 3 64
  have K1 := Lib.hid k1
  have K2 := Lib.hid k2
  have K3 := Lib.hid k3
  clear k1 k2 k3
  obtain ⟨w1, hw1⟩ : ∃ w1, w1 = ((w.alloc (.cells #[.slice LA ls.length lc] 62)).alloc (.cells #[.int .i64 a] 3)).alloc (.cells #[.slice NA ns.length nc] 64) := ⟨_, rfl⟩
  rw [← hw1] at K1 K2 K3 B1 ⊢
  clear hw1
  obtain ⟨pb, hpb⟩ : ∃ pb, pb = w.heap.size := ⟨_, rfl⟩
  rw [← hpb] at K1 K2 K3 ⊢
  clear hpb
  go_loopg [8, 9, 10] 100001 (fun g s7 s8 _ wr => SearchR (lateB ls a ns) 100001 w1 g s7 s8 wr)
  case atStart => exact ⟨100, 100001, rfl, rfl, by omega, by omega, by omega, by omega, fun q h1 h2 => by omega, fun h => absurd h (by omega), Below.refl _ _⟩
  case round =>
    obtain ⟨l, hi, rfl, rfl, h1, h2, h3, h4, h5, h6, hb⟩ := hrel
    have H5 := Lib.hid h5
    have H6 := Lib.hid h6
    have hbw := bon B1 hb
    clear h5 h6
    by_cases hlt : l < hi
    · have hm1 : l ≤ (l + hi) / 2 := by omega
      have hm2 : (l + hi) / 2 < hi := by omega
      have hcall := late_any _ _ lo lo' pb (pb + 1) (pb + 2) ls a ns ((l + hi) / 2) wr (ownsRow_below HL.out hbw) hm HOK.out.lk HOK.out.a0 HOK.out.a1 (ownsRow_below HN.out hbw) hn HOK.out.nd (by omega) (by omega) (bold hb K1.out) (bold hb K2.out) (bold hb K3.out)
      rcases Bool.eq_false_or_eq_true (lateB ls a ns ((l + hi) / 2)) with hl | hl
      · have HX := Lib.hid (show ∀ q, 100 ≤ q → q < (l + hi) / 2 + 1 → lateB ls a ns q = true from fun q h7 h8 => HMO.out q ((l + hi) / 2) h7 (by omega) hl)
        rw [hl] at hcall
        have HC := Lib.hid hcall
        clear hl hcall
        go_wp2_with fail
        refine HC.out.mono ?_
        rintro e w3 ⟨rfl, b3⟩
        go_wp2_with fail
        go_roundg (hi - ((l + hi) / 2 + 1)).toNat
        case measure => omega
        case rel => exact ⟨(l + hi) / 2 + 1, hi, rfl, rfl, by omega, by omega, h3, by omega, HX.out, H6.out, bon hb b3⟩
      · have HX := Lib.hid hl
        rw [hl] at hcall
        have HC := Lib.hid hcall
        clear hl hcall
        go_wp2_with fail
        refine HC.out.mono ?_
        rintro e w3 ⟨rfl, b3⟩
        go_wp2_with fail
        go_roundg ((l + hi) / 2 - l).toNat
        case measure => omega
        case rel => exact ⟨l, (l + hi) / 2, rfl, rfl, h1, by omega, by omega, by omega, H5.out, fun _ => HX.out, bon hb b3⟩
    · obtain rfl : l = hi := by omega
      by_cases hbig : 100000 < l
      · have HR := Lib.hid (HONE.out none (H5.out 100000 (by omega) (by omega)))
        go_wp2_with fail
        go_ret
        exact ⟨by rw [HR.out]; rfl, hbw⟩
      · have HR := Lib.hid (HONE.out (some l) ⟨h1, by omega, H6.out (by omega), H5.out⟩)
        have hbig' : l ≤ 100000 := by omega
        go_wp2_with fail
        go_ret
        exact ⟨by rw [HR.out]; rfl, hbw⟩
/-- There is always one answer. -/
theorem fast_is (ls : List LinkD) (a : Int) (ns : List NeedD) : ∃ o, FastIs ls a ns o := by
  have key : ∀ n : Nat, ∀ p : Int, 100 ≤ p → p + n = 100000 → (∀ q, 100 ≤ q → q < p → lateB ls a ns q = true) → ∃ o, FastIs ls a ns o := by
    intro n
    induction n with
    | zero =>
      intro p h1 h2 h3
      rcases Bool.eq_false_or_eq_true (lateB ls a ns 100000) with h | h
      · exact ⟨none, h⟩
      · exact ⟨some 100000, by omega, by omega, h, fun q h4 h5 => h3 q h4 (by omega)⟩
    | succ n ih =>
      intro p h1 h2 h3
      rcases Bool.eq_false_or_eq_true (lateB ls a ns p) with h | h
      · refine ih (p + 1) (by omega) (by omega) fun q h4 h5 => ?_
        rcases Int.lt_or_le q p with h6 | h6
        · exact h3 q h4 h6
        · rw [show q = p by omega]; exact h
      · exact ⟨some p, h1, by omega, h, h3⟩
  exact key 99900 100 (by omega) (by omega) (fun q h1 h2 => by omega)
end Go.Proofs.YtegalkmfoffpfaaGreatDoor
