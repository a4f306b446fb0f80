/- sync.SumOf, Cut, Chunks and the reference's SumFor, CutFault, CutOf, ChunksOf. -/
import Derived.Test.YtegalkmfoffpfaaDoorHash
import Derived.Deep.DeepCutAuto
import Derived.Deep.LoopGhost
namespace Go.Proofs.YtegalkmfoffpfaaDoor
open Go.RowKit

set_option maxHeartbeats 400000 in
theorem SumOf_any (s : ByteArray) (hsz : s.size ≤ 100000) (w : World) (hg : w.cell? ⟨5, 15, none⟩ = some (.int .u8 4)) :
    Calls Tryd.prog 8 #[.string s] w fun e w' => e = .returned (.tuple #[.string (sumS s), .int .i64 0]) ∧ Below w.heap.size w w' := by
  go_enter Tryd.func8, Tryd.ntmps8
  go_wp2_with fail
  refine (sumOf_any s (by omega) _ hg).mono ?_
  rintro e w1 ⟨rfl, hb1⟩
  go_wp2_with fail
  go_ret2
  exact ⟨rfl, hb1⟩
set_option maxHeartbeats 400000 in
theorem SumFor_any (s : ByteArray) (hsz : s.size ≤ 100000) (w : World) (hg : w.cell? ⟨5, 15, none⟩ = some (.int .u8 4)) :
    Calls Tryd.prog 9 #[.string s] w fun e w' => e = .returned (.tuple #[.string (sumS s), .int .i64 0]) ∧ Below w.heap.size w w' := by
  go_enter Tryd.func9, Tryd.ntmps9
  go_wp2_with fail
  refine (rsum_any s (by omega) _ hg).mono ?_
  rintro e w1 ⟨rfl, hb1⟩
  go_wp2_with fail
  go_ret2
  exact ⟨rfl, hb1⟩

def outsideB (n lo hi : Int) : Bool := decide (n < lo) || decide (hi < n)
set_option maxHeartbeats 400000 in
theorem outside_any (n lo hi : Int) (w : World) :
    Calls Tryd.prog 33 #[.int .i64 n, .int .i64 lo, .int .i64 hi] w fun e w' => e = .returned (.bool (outsideB n lo hi)) ∧ w = w' := by
  by_cases h1 : n < lo
  · go_enter Tryd.func33, Tryd.ntmps33
    go_wp2
    go_ret
    exact ⟨by simp [outsideB, h1], rfl⟩
  · have h1' : decide (n < lo) = false := by simpa using h1
    go_enter Tryd.func33, Tryd.ntmps33
    go_wp2
    go_ret
    exact ⟨by simp [outsideB, h1'], rfl⟩
set_option maxHeartbeats 400000 in
theorem in_any (n lo hi : Int) (w : World) :
    Calls Tryd.prog 35 #[.int .i64 n, .int .i64 lo, .int .i64 hi] w fun e w' => e = .returned (.bool (!outsideB n lo hi)) ∧ w = w' := by
  by_cases h1 : lo ≤ n
  · go_enter Tryd.func35, Tryd.ntmps35
    go_wp2
    go_ret
    exact ⟨by have : ¬ n < lo := by omega
              simp [outsideB, this, ← Int.not_lt], rfl⟩
  · have h1' : decide (lo ≤ n) = false := by simpa using h1
    go_enter Tryd.func35, Tryd.ntmps35
    go_wp2
    go_ret
    exact ⟨by have : n < lo := by omega
              simp [outsideB, this], rfl⟩

/-! ### The roll -/
def rollStep (r : Int) (b : UInt8) : Int := IntKind.u32.wrap (IntKind.u32.wrap (r * 31) + IntKind.u32.wrap (b.toNat : Int))
def rollL (l : List UInt8) : Int := l.foldl rollStep 0
theorem rollL_snoc (l : List UInt8) (b : UInt8) : rollL (l ++ [b]) = rollStep (rollL l) b := by simp [rollL]
theorem rollL_range (l : List UInt8) : 0 ≤ rollL l ∧ rollL l < 4294967296 := by
  rcases List.eq_nil_or_concat l with rfl | ⟨r, b, rfl⟩
  · decide
  · rw [List.concat_eq_append, rollL_snoc, rollStep, IntKind.wrap_u32']; omega
/-- The roll at a place. -/
def rollAt (s : ByteArray) (i : Nat) : Int := rollL ((s.data.toList.take (i + 1)).drop (i + 1 - 16))
theorem take_drop_snoc (s : ByteArray) (d k : Nat) (hd : d ≤ k) (h : k < s.size) : (s.data.toList.take (k + 1)).drop d = (s.data.toList.take k).drop d ++ [s[k]] := by
  rw [take_snoc s k h, List.drop_append_of_le_length]
  simp; omega

set_option maxRecDepth 100000 in
set_option maxHeartbeats 1000000 in
theorem roll_any (s : ByteArray) (i : Nat) (hi : i < s.size) (hsz : s.size ≤ 1000000000000) (w : World) :
    Calls Tryd.prog 34 #[.string s, .int .i64 i] w fun e w' => e = .returned (.int .u32 (rollAt s i)) ∧ w = w' := by
  go_enter Tryd.func34, Tryd.ntmps34
  go_wp2_with fail
  go_loop [5, 6] (fun r j => ∃ k : Nat, k ≤ i + 1 ∧ i + 1 - 16 ≤ k ∧ j = .int .i64 k ∧ r = .int .u32 (rollL ((s.data.toList.take k).drop (i + 1 - 16)))) (fun _ j => i + 1 - (intOf j).toNat)
  case atStart => 
    refine ⟨i + 1 - 16, by omega, by omega, ?_, ?_⟩
    · congr 1; omega
    · rw [List.drop_of_length_le (by simp; omega)]; rfl
  case round =>
    obtain ⟨k, hk, hk2, rfl, rfl⟩ := hrel
    by_cases hlt : k ≤ i
    · have HS := Lib.hid (rollL_snoc ((s.data.toList.take k).drop (i + 1 - 16)) (s[k]'(by omega)))
      have HT := Lib.hid (take_drop_snoc s (i + 1 - 16) k hk2 (by omega))
      go_wp2_with fail
      refine ⟨⟨k + 1, by omega, by omega, by go_num, ?_⟩, by simp [intOf]; omega⟩
      rw [HT.out, HS.out]; rfl
    · obtain rfl : k = i + 1 := by omega
      go_wp2_with fail
      go_ret
      exact ⟨rfl, rfl⟩

/-! ### Cut -/
/-- Whether a part ends behind the byte k, a part having begun at fr. -/
def cutC (s : ByteArray) (low : Int) (bits : Nat) (high : Int) (k fr : Nat) : Bool :=
  (decide (low ≤ (k : Int) + 1 - fr) && (rollAt s k % (2 : Int) ^ bits == 0)) || decide (high ≤ (k : Int) + 1 - fr) || decide (k + 1 = s.size)
def cutSt (s : ByteArray) (low : Int) (bits : Nat) (high : Int) : Nat → Nat × List ByteArray
  | 0 => (0, [])
  | k + 1 => if cutC s low bits high k (cutSt s low bits high k).1 then (k + 1, (cutSt s low bits high k).2 ++ [s.extract (cutSt s low bits high k).1 (k + 1)]) else cutSt s low bits high k
theorem cutSt_le (s : ByteArray) (low : Int) (bits : Nat) (high : Int) : ∀ k, (cutSt s low bits high k).1 ≤ k ∧ (cutSt s low bits high k).2.length ≤ k
  | 0 => by simp [cutSt]
  | k + 1 => by
    have := cutSt_le s low bits high k
    unfold cutSt
    split
    · simp; omega
    · omega

theorem pow_u32 (bits : Nat) (h : bits ≤ 16) : ∃ pw : Int, IntKind.u32.wrap ((2 : Int) ^ bits) = pw ∧ 1 ≤ pw ∧ pw = 2 ^ bits := by
  have h1 : (2 : Nat) ^ bits ≤ 2 ^ 16 := Nat.pow_le_pow_right (by omega) h
  have h2 : 1 ≤ (2 : Nat) ^ bits := Nat.one_le_two_pow
  have h3 : ((2 : Int) ^ bits) = ((2 ^ bits : Nat) : Int) := by simp
  refine ⟨2 ^ bits, ?_, ?_, rfl⟩
  · rw [IntKind.wrap_u32', h3]; omega
  · rw [h3]; omega

theorem infoString : (Tryd.prog.info? 9).map (fun i => (i.zero, i.size, i.bytes)) = some (some (.string ⟨#[]⟩), 1, 16) := by kernel_rfl

def CutRel (s : ByteArray) (low : Int) (bits : Nat) (high : Int) (w : World) (g : Nat) (out fr i : Value) (wr : World) : Prop :=
  ∃ k : Nat, k + g = s.size ∧ i = .int .i64 k ∧ fr = .int .i64 ((cutSt s low bits high k).1 : Int) ∧
    wr.ownsRow w.heap.size 9 1 out (cutSt s low bits high k).2.length ((cutSt s low bits high k).2.map Value.string) ∧ Below w.heap.size w wr

set_option maxRecDepth 100000 in
set_option maxHeartbeats 1000000 in
theorem cut_ok (s : ByteArray) (low : Int) (bits : Nat) (high : Int) (hsz : s.size ≤ 100000) (h1 : 1 ≤ low) (h2 : low ≤ high) (h3 : high ≤ 100000) (h4 : bits ≤ 16) (w : World) :
    Calls Tryd.prog 10 #[.string s, .int .i64 low, .int .i64 bits, .int .i64 high] w fun e w' => ∃ v, e = .returned (.tuple #[v, .int .i64 0]) ∧
      w'.ownsRow w.heap.size 9 1 v (cutSt s low bits high s.size).2.length ((cutSt s low bits high s.size).2.map Value.string) ∧ Below w.heap.size w w' := by
  obtain ⟨i0, hi, hz0, hz1, hz2⟩ := info_parts infoString
  have o1 : outsideB low 1 high = false := by simp [outsideB]; omega
  have o2 : outsideB bits 0 16 = false := by simp [outsideB]; omega
  have o3 : decide (100000 < high) = false := by simp; omega
  go_enter Tryd.func10, Tryd.ntmps10
  go_wp2_with fail
  refine (outside_any _ _ _ _).mono ?_
  rintro e w' ⟨rfl, rfl⟩
  rw [o1]
  go_wp2_with fail
  refine (outside_any _ _ _ _).mono ?_
  rintro e w' ⟨rfl, rfl⟩
  rw [o2]
  go_wp2_with fail
  go_loopg [10, 11, 30, 12] s.size (fun g out fr i _ wr => CutRel s low bits high w g out fr i wr)
  case atStart => exact ⟨0, by omega, rfl, rfl, World.ownsRow_nil _ _ _ _, Below.refl _ _⟩
  case round =>
    obtain ⟨k, hk, rfl, rfl, hown, hb⟩ := hrel
    have hle := cutSt_le s low bits high k
    have hst := show cutSt s low bits high k = ((cutSt s low bits high k).1, (cutSt s low bits high k).2) from rfl
    generalize hfr : (cutSt s low bits high k).1 = fr at *
    generalize hol : (cutSt s low bits high k).2 = ol at *
    obtain ⟨hle1, hle2⟩ := hle
    have Hst := Lib.hid hst
    clear hst hfr hol
    by_cases hg : gk = 0
    · obtain rfl : k = s.size := by omega
      go_wp2_with fail
      go_ret2
      exact ⟨_, rfl, by rw [Hst.out]; exact hown, hb⟩
    · have hlt : k < s.size := by omega
      go_upto_region 11 with fail
      go_cut [60] (fun s60 wx => s60 = .bool (cutC s low bits high k fr) ∧ ∃ q, wx = wr.drewN q)
      case first =>
        obtain ⟨pw, hp, hp1, hp2⟩ := pow_u32 bits h4
        have hrr := rollL_range ((s.data.toList.take (k + 1)).drop (k + 1 - 16))
        have hr0 : 0 ≤ rollAt s k := hrr.1
        have hr1 : rollAt s k < 4294967296 := hrr.2
        have HC := Lib.hid (show cutC s low bits high k fr = ((decide (low ≤ (k : Int) + 1 - fr) && (rollAt s k % pw == 0)) || decide (high ≤ (k : Int) + 1 - fr) || decide (k + 1 = s.size)) by rw [hp2]; rfl)
        clear hp2 hrr
        have e4 : decide (k + 1 = s.size) = ((k : Int) == (s.size : Int) - 1) := by
          rw [Bool.eq_iff_iff]; simp; omega
        rw [e4] at HC
        clear e4
        by_cases c1 : low ≤ (k : Int) + 1 - fr
        · rcases Bool.eq_false_or_eq_true (rollAt s k % pw == 0) with c2 | c2
          · go_quiet ((go_at_call 34; exact Calls.quiet_of_same ((roll_any s k hlt (by omega) _).mono fun _ _ h => ⟨h.1, h.2.symm⟩)))
            go_wp2_with fail
            go_meet
            exact ⟨by rw [HC.out]; simp [c1, c2], _, rfl⟩
          · by_cases c3 : high ≤ (k : Int) + 1 - fr
            · go_quiet ((go_at_call 34; exact Calls.quiet_of_same ((roll_any s k hlt (by omega) _).mono fun _ _ h => ⟨h.1, h.2.symm⟩)))
              go_wp2_with fail
              go_meet
              exact ⟨by rw [HC.out]; simp [c1, c2, c3], _, rfl⟩
            · have c3' : decide (high ≤ (k : Int) + 1 - fr) = false := by simpa using c3
              rcases Bool.eq_false_or_eq_true ((k : Int) == (s.size : Int) - 1) with c4 | c4
              · go_quiet ((go_at_call 34; exact Calls.quiet_of_same ((roll_any s k hlt (by omega) _).mono fun _ _ h => ⟨h.1, h.2.symm⟩)))
                go_wp2_with fail
                go_meet
                exact ⟨by rw [HC.out]; simp [c1, c2, c3', c4], _, rfl⟩
              · go_quiet ((go_at_call 34; exact Calls.quiet_of_same ((roll_any s k hlt (by omega) _).mono fun _ _ h => ⟨h.1, h.2.symm⟩)))
                go_wp2_with fail
                go_meet
                exact ⟨by rw [HC.out]; simp [c1, c2, c3', c4], _, rfl⟩
        · have c1' : decide (low ≤ (k : Int) + 1 - fr) = false := by simpa using c1
          have c3' : decide (high ≤ (k : Int) + 1 - fr) = false := by simp; omega
          rcases Bool.eq_false_or_eq_true ((k : Int) == (s.size : Int) - 1) with c4 | c4
          · go_quiet (fail)
            go_wp2_with fail
            go_meet
            exact ⟨by rw [HC.out]; simp [c1', c3', c4], _, rfl⟩
          · go_quiet (fail)
            go_wp2_with fail
            go_meet
            exact ⟨by rw [HC.out]; simp [c1', c3', c4], _, rfl⟩
      case rest =>
        obtain ⟨rfl, q, rfl⟩ := hcut
        have hown2 : (wr.drewN q).ownsRow w.heap.size 9 1 u10 ol.length (ol.map Value.string) := hown
        have hb2 : Below w.heap.size w (wr.drewN q) := below_drewN hb q
        generalize wr.drewN q = wx at *
        clear hown hb
        have HC := Lib.hid (show cutSt s low bits high (k + 1) = if cutC s low bits high k fr then (k + 1, ol ++ [s.extract fr (k + 1)]) else (fr, ol) by
          rw [cutSt, Hst.out])
        rcases Bool.eq_false_or_eq_true (cutC s low bits high k fr) with c | c
        · rw [c]
          have HC2 := Lib.hid (show cutSt s low bits high (k + 1) = (k + 1, ol ++ [s.extract fr (k + 1)]) by rw [HC.out, if_pos c])
          clear c HC
          go_wp2_with (at_builtin; refine wpList_append_own _ rfl _ _ 32 rfl w.heap.size 9 i0 (.string ⟨#[]⟩) 1 16 Tryd.underlying32 hi hz0 hz1 hz2 rfl (by decide) _ _ _ rfl (hown2.alloc _) ⟨wx.heap.size, 0, none⟩ 1 1 [.string (s.extract fr (k + 1))] rfl rfl ?c1 ?c2 ?c3 ?c4 ?c5 ?_)
          case c1 => exact cell_one_new _ _ _
          case c2 => intro u hu; simp at hu; subst hu; rfl
          case c3 => unfold maxLen; omega
          case c4 => omega
          case c5 => have := hb2.size; simp; omega
          intro v' w1 hown3 hgrow _
          have hb3 : Below w.heap.size w w1 := (hb2.alloc hb2.size _).grown hgrow (by have := hb2.size; simp; omega) (fun x hx => (hown2.lt x hx).1)
          go_wp2_with fail
          go_roundg (gk - 1)
          case measure => omega
          case rel => exact ⟨k + 1, by omega, by go_num, by rw [HC2.out]; go_num, by rw [HC2.out]; simpa using hown3, hb3⟩
        · rw [c]
          have HC2 := Lib.hid (show cutSt s low bits high (k + 1) = (fr, ol) by rw [HC.out, if_neg (by simp [c])])
          clear c HC
          go_wp2_with fail
          go_roundg (gk - 1)
          case measure => omega
          case rel => exact ⟨k + 1, by omega, by go_num, by rw [HC2.out], by rw [HC2.out]; exact hown2, hb2⟩
end Go.Proofs.YtegalkmfoffpfaaDoor
