/- cmp.Or over errors; when; KeyFault. -/
import Derived.Test.YtegalkmfoffpfaaDoorKit
import Derived.Test.YtegalkmfoffpfaaDoorKeys
import Derived.Deep.LoopGhost
namespace Go.Proofs.YtegalkmfoffpfaaDoor
open Go.RowKit

/-- The first number that is not 0. -/
def orF : List Int → Int
  | [] => 0
  | z :: zs => if z = 0 then orF zs else z
theorem orF_drop {zs : List Int} {k : Nat} (h : k < zs.length) (hz : zs[k] = 0) : orF (zs.drop k) = orF (zs.drop (k + 1)) := by
  rw [List.drop_eq_getElem_cons h, orF, if_pos hz]
theorem orF_hit {zs : List Int} {k : Nat} (h : k < zs.length) (hz : zs[k] ≠ 0) : orF (zs.drop k) = zs[k] := by
  rw [List.drop_eq_getElem_cons h, orF, if_neg hz]
def OrRelP (zs : List Int) (w : World) (g : Nat) (i : Value) (wr : World) : Prop :=
  ∃ k : Nat, k + g = zs.length ∧ i = .int .i64 k ∧ orF (zs.drop k) = orF zs ∧ wr = w
set_option maxRecDepth 100000 in
set_option maxHeartbeats 1000000 in
theorem or_any (g n c : Nat) (zs : List Int) (t : TypeId) (w : World) (hn : n = zs.length) (h9 : n ≤ 1000) (hg : w.heap[g]? = some (.cells (zs.map (Value.int .i64)).toArray t (0, 0))) :
    Calls Tryd.prog 23 #[.slice (some ⟨g, 0, none⟩) n c] w fun e w' => e = .returned (.int .i64 (orF zs)) ∧ w = w' := by
  have HG := Lib.hid hg
  have HN := Lib.hid hn
  clear hg hn
  go_enter Tryd.func23, Tryd.ntmps23
  go_wp2_with fail
  go_loopg [8, 5] zs.length (fun g i _ wr => OrRelP zs w g i wr)
  case atStart => exact ⟨0, by omega, rfl, by simp, rfl⟩
  case round =>
    obtain ⟨k, hk, rfl, ho, rfl⟩ := hrel
    have hn := HN.out
    by_cases hgz : gk = 0
    · obtain rfl : k = n := by omega
      have HO := Lib.hid (show orF zs = 0 by rw [← ho, hn, List.drop_length]; rfl)
      clear ho hk hn hgz
      go_wp2_with fail
      go_ret
      exact ⟨ret_int HO.out.symm, rfl⟩
    · have hlt : k < zs.length := by omega
      have hkn : k < n := by omega
      have c0 : wr.cell? ⟨g, k, none⟩ = some (.int .i64 zs[k]) := by simp [World.cell?, HG.out, hlt]
      have HK := Lib.hid hk
      have hgk : gk ≠ 0 := hgz
      have HO := Lib.hid ho
      have H1 := Lib.hid (fun h : zs[k] = 0 => orF_drop hlt h)
      have H2 := Lib.hid (fun h : zs[k] ≠ 0 => orF_hit hlt h)
      clear ho hk hn hgz
      generalize zs[k] = z at *
      by_cases hz : z = 0
      · have HZ := Lib.hid ((H1.out hz).symm.trans HO.out)
        subst hz
        go_wp2_with fail
        go_roundg (gk - 1)
        case measure => omega
        case rel => exact ⟨k + 1, by have := HK.out; omega, by go_num, HZ.out, rfl⟩
      · have HZ := Lib.hid (show orF zs = z by rw [← HO.out, H2.out hz])
        have hz' : (z != 0) = true := bne_iff_ne.2 hz
        clear hz
        go_wp2_with fail
        go_ret
        exact ⟨ret_int HZ.out.symm, rfl⟩
end Go.Proofs.YtegalkmfoffpfaaDoor
