/- The comparing functions of the plans. -/
import Derived.Test.YtegalkmfoffpfaaGreatDoorNeeds
import Derived.Test.YtegalkmfoffpfaaGreatDoorOrs
import Derived.Sort.Grow
namespace Go.Proofs.YtegalkmfoffpfaaGreatDoor
open Go.RowKit Go.Sort Go.Lib
def ndV (x : NeedD) : Value := .agg #[.string x.1, .int .i64 x.2.1, .int .i64 x.2.2]
def dueC (x y : NeedD) : Int := Lib.compareInt x.2.2 y.2.2
def keyC (x y : NeedD) : Int := Lib.compareBytes x.1.data.toList y.1.data.toList
set_option maxRecDepth 100000 in
set_option maxHeartbeats 1000000 in
theorem planOf_cmp (x y : NeedD) (W : World) : Calls Tryz.prog 112 #[ndV x, ndV y] W fun e w' => e = .returned (.int .i64 (dueC x y)) ∧ ∃ q os', w' = grow (W.drewN q) os' := by
  unfold ndV dueC
  go_enter Tryz.func112, Tryz.ntmps112
  go_wp2_with fail
  refine (Tryz.cmp_Compare_int x.2.2 y.2.2 _).mono ?_
  rintro e w1 ⟨rfl, rfl⟩
  go_wp2_with fail
  go_ret
  exact ⟨rfl, 0, _, by rw [alloc_eq_grow, alloc_eq_grow, grow_grow]; rfl⟩
set_option maxRecDepth 100000 in
set_option maxHeartbeats 1000000 in
theorem plan_key (x y : NeedD) (W : World) : Calls Tryz.prog 172 #[ndV x, ndV y] W fun e w' => e = .returned (.int .i64 (keyC x y)) ∧ ∃ q os', w' = grow (W.drewN q) os' := by
  unfold ndV keyC
  go_enter Tryz.func172, Tryz.ntmps172
  go_wp2_with fail
  refine (Tryz.strings_Compare x.1 y.1 _).mono ?_
  rintro e w1 ⟨rfl, rfl⟩
  go_wp2_with fail
  go_ret
  exact ⟨rfl, 0, _, by rw [alloc_eq_grow, alloc_eq_grow, grow_grow]; rfl⟩
set_option maxRecDepth 100000 in
set_option maxHeartbeats 1000000 in
theorem planOf_key (x y : NeedD) (W : World) : Calls Tryz.prog 115 #[ndV x, ndV y] W fun e w' => e = .returned (.int .i64 (keyC x y)) ∧ ∃ q os', w' = grow (W.drewN q) os' := by
  unfold ndV keyC
  go_enter Tryz.func115, Tryz.ntmps115
  go_wp2_with fail
  refine (Tryz.strings_Compare x.1 y.1 _).mono ?_
  rintro e w1 ⟨rfl, rfl⟩
  go_wp2_with fail
  go_ret
  exact ⟨rfl, 0, _, by rw [alloc_eq_grow, alloc_eq_grow, grow_grow]; rfl⟩
set_option maxRecDepth 100000 in
set_option maxHeartbeats 1000000 in
theorem orInt_any (g n c : Nat) (zs : List Int) (t : TypeId) (w : World) (hn : n = zs.length) (h9 : n ≤ 1000) (hg : w.heap[g]? = some (.cells (zs.map (Value.int .i64)).toArray t (0, 0))) :
    Calls Tryz.prog 171 #[.slice (some ⟨g, 0, none⟩) n c] w fun e w' => e = .returned (.int .i64 (orF zs)) ∧ w = w' := by
  have HG := Lib.hid hg
  have HN := Lib.hid hn
  clear hg hn
  go_enter Tryz.func171, Tryz.ntmps171
  go_wp2_with fail
  go_loopg [8, 5] zs.length (fun g i _ wr => OrRel zs w g i wr)
  case atStart => exact ⟨0, by omega, rfl, by simp, rfl⟩
  case round =>
    obtain ⟨k, hk, rfl, ho, rfl⟩ := hrel
    have hn := HN.out
    by_cases hgz : gk = 0
    · obtain rfl : k = n := by omega
      have HO := Lib.hid (show orF zs = 0 by rw [← ho, hn, List.drop_length]; rfl)
      clear ho hk hn hgz
      go_wp2_with fail
      go_ret
      exact ⟨ret_int HO.out.symm, rfl⟩
    · have hlt : k < zs.length := by omega
      have hkn : k < n := by omega
      have c0 : wr.cell? ⟨g, k, none⟩ = some (.int .i64 zs[k]) := by simp [World.cell?, HG.out, hlt]
      have HK := Lib.hid hk
      have hgk : gk ≠ 0 := hgz
      have HO := Lib.hid ho
      have H1 := Lib.hid (fun h : zs[k] = 0 => orF_drop hlt h)
      have H2 := Lib.hid (fun h : zs[k] ≠ 0 => orF_hit hlt h)
      clear ho hk hn hgz
      generalize zs[k] = z at *
      by_cases hz : z = 0
      · have HZ := Lib.hid ((H1.out hz).symm.trans HO.out)
        subst hz
        go_wp2_with fail
        go_roundg (gk - 1)
        case measure => omega
        case rel => exact ⟨k + 1, by have := HK.out; omega, by go_num, HZ.out, rfl⟩
      · have HZ := Lib.hid (show orF zs = z by rw [← HO.out, H2.out hz])
        have hz' : (z != 0) = true := bne_iff_ne.2 hz
        clear hz
        go_wp2_with fail
        go_ret
        exact ⟨ret_int HZ.out.symm, rfl⟩
end Go.Proofs.YtegalkmfoffpfaaGreatDoor
