/- sync.Spread where something is wrong. -/
import Derived.Test.YtegalkmfoffpfaaDoorNearOf
namespace Go.Proofs.YtegalkmfoffpfaaDoor
open Go.RowKit
attribute [local go_sem ↓] Go.wp_at_zero Go.wp_at_succ
set_option maxRecDepth 100000 in
set_option maxHeartbeats 1000000 in
theorem spread_peers (A B : Option Addr) (lo c n d : Nat) (ps : List PeerD) (m : Int) (w : World) (hf : PeersAt w lo (.slice A ps.length c) ps) (hok : PeOk ps) (hn : ps.length ≤ 50) (hm0 : -1000000 ≤ m) (hm1 : m ≤ 1000000) (hz : peersF m ps ≠ 0) :
    Calls Tryd.prog 22 #[.slice A ps.length c, .slice B n d, .int .i64 m] w fun e w' => e = .returned (.tuple #[.slice none 0 0, .bool false, .int .i64 (peersF m ps)]) ∧ Below w.heap.size w w' := by
  have HCP := Lib.hid (checkPeers_any A lo c ps m w hf hok hn hm0 hm1)
  generalize peersF m ps = x at *
  have hx : (x != 0) = true := by simpa using hz
  clear hf hok
  go_enter Tryd.func22, Tryd.ntmps22
  go_wp2_with fail
  refine HCP.out.mono ?_
  rintro e w0 ⟨rfl, hb0⟩
  go_wp2_with fail
  go_ret3
  exact ⟨rfl, hb0⟩
set_option maxRecDepth 100000 in
set_option maxHeartbeats 1000000 in
theorem spread_near (A B : Option Addr) (lo c d : Nat) (ps : List PeerD) (ne : List PairD) (m : Int) (w : World) (hf : PeersAt w lo (.slice A ps.length c) ps) (hok : PeOk ps) (hn : ps.length ≤ 50) (hm0 : -1000000 ≤ m) (hm1 : m ≤ 1000000) (hz : peersF m ps = 0)
    (hN : Lst w lo 2 (.slice B ne.length d) (ne.flatMap paC)) (hnn : ne.length ≤ 1000) (hy : nearF ps ne ≠ 0) :
    Calls Tryd.prog 22 #[.slice A ps.length c, .slice B ne.length d, .int .i64 m] w fun e w' => e = .returned (.tuple #[.slice none 0 0, .bool false, .int .i64 (nearF ps ne)]) ∧ Below w.heap.size w w' := by
  have hcp := checkPeers_any A lo c ps m w hf hok hn hm0 hm1
  rw [hz] at hcp
  have HCP := Lib.hid hcp
  have HNO := Lib.hid (fun (W : World) (hW : Below w.heap.size w W) => nearOf_any A B lo c d ps ne m W (hf.below hW) hz hn (hN.below hW) hnn)
  clear hf hok hcp hz hN
  go_enter Tryd.func22, Tryd.ntmps22
  go_wp2_with fail
  refine HCP.out.mono ?_
  rintro e w0 ⟨rfl, hb0⟩
  go_wp2_with fail
  refine (HNO.out w0 hb0).mono ?_
  rintro e w1 ⟨hbad, _, hb1⟩
  obtain rfl := hbad hy
  have hx : (nearF ps ne != 0) = true := by simpa using hy
  clear hbad
  go_wp2_with fail
  go_ret3
  exact ⟨rfl, bon hb0 hb1⟩
end Go.Proofs.YtegalkmfoffpfaaDoor
