/- strconv.FormatUint at base 16, and the hash that is made of it: sync.sumOf and the reference's sum come to one function. -/
import Derived.Test.YtegalkmfoffpfaaGreatDoorBuild
import Derived.Laws.BitsAllLaws
import Derived.Laws.ShiftsVarLaws
import Derived.Laws.BytesArg
import Derived.Laws.NewBlocks
namespace Go.Proofs.YtegalkmfoffpfaaGreatDoor
open Go.RowKit

set_option maxHeartbeats 400000 in
theorem pow2_16 (w : World) : Calls Tryz.prog 268 #[.int .i64 16] w fun e w' => e = .returned (.bool true) ∧ w = w' := by
  go_enter Tryz.func268, Tryz.ntmps268
  go_wp2
  go_ret
  exact ⟨rfl, rfl⟩

set_option maxHeartbeats 400000 in
theorem tz64_16 (w : World) (h : w.cell? ⟨5, 15, none⟩ = some (.int .u8 4)) : Calls Tryz.prog 281 #[.int .u64 16] w fun e w' => e = .returned (.int .i64 4) ∧ w = w' := by
  have e15 : (IntKind.u64.wrap (bits BinOp.and IntKind.u64 16 (IntKind.u64.wrap (-16)) * 285870213051353865) / 288230376151711744).toNat = 15 := by decide +kernel
  have h' : w.cell? ⟨5, (IntKind.u64.wrap (bits BinOp.and IntKind.u64 16 (IntKind.u64.wrap (-16)) * 285870213051353865) / 288230376151711744).toNat, none⟩ = some (.int .u8 4) := by rw [e15]; exact h
  clear e15 h
  go_enter Tryz.func281, Tryz.ntmps281
  go_wp2
  go_ret
  exact ⟨rfl, rfl⟩
set_option maxHeartbeats 400000 in
theorem tz_16 (w : World) (h : w.cell? ⟨5, 15, none⟩ = some (.int .u8 4)) : Calls Tryz.prog 269 #[.int .u64 16] w fun e w' => e = .returned (.int .i64 4) ∧ w = w' := by
  go_enter Tryz.func269, Tryz.ntmps269
  go_wp2_with fail
  refine (tz64_16 _ h).mono ?_
  rintro e w' ⟨rfl, rfl⟩
  go_wp2_with fail
  go_ret
  exact ⟨rfl, rfl⟩

abbrev digB : ByteArray := { data := #[48, 49, 50, 51, 52, 53, 54, 55, 56, 57, 97, 98, 99, 100, 101, 102, 103, 104, 105, 106, 107, 108, 109, 110, 111, 112, 113, 114, 115, 116, 117, 118, 119, 120, 121, 122] }
def digN (d : Nat) : Int := if h : d < 36 then ((digB[d]'h).toNat : Int) else 0
def hexIt : Nat → Nat → List Int → List Int
  | 0, _, l => l
  | f + 1, u, l => if u < 16 then digN u :: l else hexIt f (u / 16) (digN (u % 16) :: l)
/-- The sixteen-based digits of u, as strconv.FormatUint writes them. -/
def hexOf (u : Nat) : ByteArray := strOfNums (hexIt 16 u [])
theorem hexIt_len : ∀ (f u : Nat) (l : List Int), (hexIt f u l).length ≤ l.length + f
  | 0, _, l => by simp [hexIt]
  | f + 1, u, l => by
    unfold hexIt
    split
    · simp
    · have := hexIt_len f (u / 16) (digN (u % 16) :: l)
      simp at this; omega
theorem hexOf_size (u : Nat) : (hexOf u).size ≤ 16 := by
  unfold hexOf; rw [strOfNums_size]; simpa using hexIt_len 16 u []

def FbRel (u : Nat) (w : World) (su si : Value) (wr : World) : Prop :=
  ∃ (f v : Nat) (arr : Array Value) (l : List Int), su = .int .u64 v ∧ si = .int .i64 ((49 + f : Nat) : Int) ∧ wr = w.alloc (.cells arr 284) ∧ 1 ≤ f ∧ f ≤ 16 ∧
    arr.size = 65 ∧ v < 16 ^ f ∧ arr.toList.drop (49 + f) = l.map (Value.int .u8) ∧ hexIt 16 u [] = hexIt f v l

theorem fb_and (v : Nat) (h : v < 18446744073709551616) : bits BinOp.and IntKind.u64 (v : Int) 15 = ((v % 16 : Nat) : Int) := by
  have := u64_and_nat v 15 h (by omega)
  rw [nat_mask4] at this
  exact this

theorem fb_drop {arr : Array Value} {f : Nat} {l : List Int} (hsz : arr.size = 65) (hf : f ≤ 16) (hd : arr.toList.drop (49 + f) = l.map (Value.int .u8)) (x : Int) :
    (arr.setIfInBounds (48 + f) (.int .u8 x)).toList.drop (48 + f) = (x :: l).map (Value.int .u8) := by
  rw [Array.toList_setIfInBounds]
  have hl : 48 + f < (arr.toList.set (48 + f) (.int .u8 x)).length := by simp; omega
  rw [List.drop_eq_getElem_cons hl, List.getElem_set_self, List.map_cons]
  congr 1
  rw [← hd, List.drop_set_of_lt (by omega)]
  congr 1; omega

theorem fb_start (u : Nat) (w : World) (hu : u < 18446744073709551616) : FbRel u w (.int .u64 u) (.int .i64 65) (w.alloc (.cells Tryz.zeroCells284 284)) := by
  refine ⟨16, u, Tryz.zeroCells284, [], rfl, rfl, rfl, by omega, Nat.le_refl _, by kernel_rfl, by simpa using hu, ?_, rfl⟩
  exact List.drop_of_length_le (by have : Tryz.zeroCells284.size = 65 := by kernel_rfl
                                   simp [this])
theorem fb_end {arr : Array Value} {f : Nat} {xs : List Int} (w : World) (hsz : arr.size = 65) (hf1 : f ≤ 16) (hd : arr.toList.drop (48 + f) = xs.map (Value.int .u8)) :
    (convert 138 9 (.slice (some ⟨w.heap.size, 48 + f, none⟩) (17 - f) (17 - f))).run Tryz.prog (w.alloc (.cells arr 284)) = .ok (.string (strOfNums xs)) (w.alloc (.cells arr 284)) := by
  have hl : xs.length = 17 - f := by
    have := congrArg List.length hd
    simp [hsz] at this; omega
  refine run_convert_bytes_arg _ 138 5 Tryz.underlying138 Tryz.underlying5 _ _ _ _ xs hl (fun i hi => ?_) 9 Tryz.underlying9
  refine cell_new_list _ _ _ _ _ ?_
  have h2 : (arr.toList.drop (48 + f))[i]? = some (Value.int .u8 (xs.getD i 0)) := by
    rw [hd]; simp [List.getElem?_eq_getElem (show i < xs.length by omega)]
  simpa [List.getElem?_drop] using h2

theorem fb_slice {f b : Nat} (W : World) (hf1 : 1 ≤ f) (hf : f ≤ 16) :
    (Instr.sliceAt 284 (.pointer (some ⟨b, 0, none⟩)) (some (.int .i64 (49 + (f : Int) - 1))) none none).run Tryz.prog W = .ok (.slice (some ⟨b, 48 + f, none⟩) (17 - f) (17 - f)) W := by
  have ha : Tryz.prog.arrayLen 284 = 65 := by kernel_rfl
  have hz : (sizeOf (Tryz.prog.elem 284)).run Tryz.prog W = .ok 1 W := by kernel_rfl
  have hn : (49 + (f : Int) - 1).toNat = 48 + f := by omega
  rw [run_sliceAt_array_l W 284 ⟨b, 0, none⟩ (by kernel_rfl) .i64 (49 + (f : Int) - 1) (by omega) (by rw [ha]; omega), hz, ha, hn]
  simp only [Result.andThen, slicedAt]
  rw [if_neg (by omega), show 65 - (48 + f) = 17 - f by omega]
  simp [Addr.add]

set_option maxRecDepth 100000 in
set_option maxHeartbeats 1000000 in
theorem fb16 (u : Nat) (hu : u < 18446744073709551616) (w : World) (h : w.cell? ⟨5, 15, none⟩ = some (.int .u8 4)) :
    Calls Tryz.prog 241 #[.slice none 0 0, .int .u64 u, .int .i64 16, .bool false, .bool false] w fun e w' => e = .returned (.tuple #[.slice none 0 0, .string (hexOf u)]) ∧ Below w.heap.size w w' := by
  have h5 : 5 < w.heap.size := World.block_lt_of_cell? w _ h
  go_enter Tryz.func241, Tryz.ntmps241
  go_wp2_with fail
  refine (pow2_16 _).mono ?_
  rintro e w' ⟨rfl, rfl⟩
  go_wp2_with fail
  refine (tz_16 _ ?_).mono ?_
  · rw [World.cell?_alloc_lt _ _ _ (by simpa using h5)]; exact h
  rintro e w' ⟨rfl, rfl⟩
  go_wp2_with fail
  go_loopw [1, 13] (fun su si wr => FbRel u w su si wr) (fun su _ _ => (intOf su).toNat)
  case atStart => exact fb_start u w hu
  case round =>
    obtain ⟨f, v, arr, l, rfl, rfl, rfl, hf1, hf, hsz, hv, hd, hit⟩ := hrel
    have hvu : v < 18446744073709551616 := Nat.lt_of_lt_of_le hv (Nat.le_trans (Nat.pow_le_pow_right (by omega) hf) (by decide))
    obtain ⟨x, hx⟩ : ∃ x, arr[48 + f]? = some x := ⟨_, Array.getElem?_eq_getElem (by omega)⟩
    have Hs := Lib.hid hsz; have Hv := Lib.hid hv; have Hi := Lib.hid hit; have Hd := Lib.hid hd
    clear hsz hv hit hd
    by_cases h16 : v < 16
    · have hb3 : ((v : Nat) : Int) < 36 := by omega
      have hsl := fun W => fb_slice (b := w.heap.size) W hf1 hf
      have hcv := fb_end (f := f) w (arr := arr.setIfInBounds (48 + f) (.int .u8 (digN v))) (by have := Hs.out; simpa using this) hf (fb_drop Hs.out hf Hd.out (digN v))
      rw [show digN v = ((digB[v]'(by show v < 36; omega)).toNat : Int) from dif_pos (by omega)] at hcv
      go_wp2_with fail
      go_ret2
      refine ⟨?_, (Below.refl _ _).alloc (Nat.le_refl _) _⟩
      have hx : hexOf u = strOfNums (((digB[v]'(by show v < 36; omega)).toNat : Int) :: l) := by
        unfold hexOf
        rw [Hi.out]
        obtain ⟨g, rfl⟩ : ∃ g, f = g + 1 := ⟨f - 1, by omega⟩
        rw [hexIt, if_pos h16, show digN v = ((digB[v]'(by show v < 36; omega)).toNat : Int) from dif_pos (by omega)]
      rw [hx]; rfl
    · have hb := fb_and v hvu
      have hb2 : v % 16 < 16 := Nat.mod_lt _ (by omega)
      have hb3 : ((v % 16 : Nat) : Int) < 36 := by omega
      go_wp2_with fail
      refine ⟨?_, by simp [intOf]; omega⟩
      have hf2 : 2 ≤ f := by
        rcases f with _ | _ | f
        · omega
        · have := Hv.out; omega
        · omega
      obtain ⟨g, rfl⟩ : ∃ g, f = g + 1 := ⟨f - 1, by omega⟩
      refine ⟨g, v / 16, _, digN (v % 16) :: l, by simp, by simp; omega, rfl, by omega, by omega, by have := Hs.out; simpa using this, ?_, ?_, ?_⟩
      · have := Hv.out
        rw [Nat.pow_succ] at this
        exact (Nat.div_lt_iff_lt_mul (by omega)).2 this
      · have := fb_drop Hs.out hf Hd.out (digN (v % 16))
        rw [show 48 + (g + 1) = 49 + g by omega] at this
        rw [show 48 + (g + 1) = 49 + g by omega, ← show digN (v % 16) = ((digB[v % 16]'(by show v % 16 < 36; omega)).toNat : Int) from dif_pos (by omega)]
        exact this
      · rw [Hi.out, hexIt, if_neg h16]

set_option maxHeartbeats 400000 in
theorem ifmt16 (u : Nat) (hu : u < 18446744073709551616) (w : World) (h : w.cell? ⟨5, 15, none⟩ = some (.int .u8 4)) :
    Calls Tryz.prog 193 #[.int .u64 u, .int .i64 16] w fun e w' => e = .returned (.string (hexOf u)) ∧ Below w.heap.size w w' := by
  go_enter Tryz.func193, Tryz.ntmps193
  go_wp2_with fail
  refine (fb16 u hu _ h).mono ?_
  rintro e w1 ⟨rfl, hb⟩
  go_wp2_with fail
  go_ret
  exact ⟨rfl, hb⟩
set_option maxHeartbeats 400000 in
theorem fmt16 (u : Nat) (hu : u < 18446744073709551616) (w : World) (h : w.cell? ⟨5, 15, none⟩ = some (.int .u8 4)) :
    Calls Tryz.prog 156 #[.int .u64 u, .int .i64 16] w fun e w' => e = .returned (.string (hexOf u)) ∧ Below w.heap.size w w' := by
  go_enter Tryz.func156, Tryz.ntmps156
  go_wp2_with fail
  refine (ifmt16 u hu _ h).mono ?_
  rintro e w1 ⟨rfl, hb⟩
  go_wp2_with fail
  go_ret
  exact ⟨rfl, hb⟩

def hashStep (h : Int) (b : UInt8) : Int := IntKind.u64.wrap (bits BinOp.xor .u64 h (IntKind.u64.wrap (b.toNat : Int)) * 1099511628211)
def hashOf (l : List UInt8) : Int := l.foldl hashStep 14695981039346656037
theorem hashOf_snoc (l : List UInt8) (b : UInt8) : hashOf (l ++ [b]) = hashStep (hashOf l) b := by simp [hashOf]
theorem hashOf_range (l : List UInt8) : 0 ≤ hashOf l ∧ hashOf l < 18446744073709551616 := by
  rcases List.eq_nil_or_concat l with rfl | ⟨r, b, rfl⟩
  · decide
  · rw [List.concat_eq_append, hashOf_snoc, hashStep, IntKind.wrap_u64]; omega
/-- The sum of a string: its hash in sixteen digits. -/
def sumL (l : List UInt8) : List UInt8 := Lib.repeatL [48] (16 - (hexOf (hashOf l).toNat).size) ++ (hexOf (hashOf l).toNat).data.toList
def sumS (s : ByteArray) : ByteArray := ⟨(Lib.repeatL [48] (16 - (hexOf (hashOf s.data.toList).toNat).size)).toArray⟩ ++ hexOf (hashOf s.data.toList).toNat
theorem take_snoc (s : ByteArray) (k : Nat) (h : k < s.size) : s.data.toList.take (k + 1) = s.data.toList.take k ++ [s[k]] := by
  rw [List.take_succ_eq_append_getElem (by simpa using h)]; rfl

set_option maxHeartbeats 1000000 in
theorem sumOf_any (s : ByteArray) (hsz : s.size ≤ 1000000000000) (w : World) (hg : w.cell? ⟨5, 15, none⟩ = some (.int .u8 4)) :
    Calls Tryz.prog 75 #[.string s] w fun e w' => e = .returned (.string (sumS s)) ∧ Below w.heap.size w w' := by
  go_enter Tryz.func75, Tryz.ntmps75
  go_wp2_with fail
  go_loop [3, 8, 4] (fun h i _ => ∃ k : Nat, k ≤ s.size ∧ i = .int .i64 k ∧ h = .int .u64 (hashOf (s.data.toList.take k))) (fun _ i _ => s.size - (intOf i).toNat)
  case atStart => exact ⟨0, Nat.zero_le _, rfl, rfl⟩
  case round =>
    obtain ⟨k, hk, rfl, rfl⟩ := hrel
    by_cases hlt : k < s.size
    · have HS := Lib.hid (hashOf_snoc (s.data.toList.take k) s[k])
      have HT := Lib.hid (take_snoc s k hlt)
      go_wp2_with fail
      refine ⟨⟨k + 1, by omega, by go_num, ?_⟩, by simp [intOf]; omega⟩
      rw [HT.out, HS.out]; rfl
    · have hk' : k = s.size := by omega
      have hr := hashOf_range s.data.toList
      have hx := hexOf_size (hashOf s.data.toList).toNat
      have HT := Lib.hid (show hashOf (s.data.toList.take k) = (((hashOf s.data.toList).toNat : Nat) : Int) by
        rw [List.take_of_length_le (by show s.data.size ≤ k; rw [hk']; exact Nat.le_refl _)]; omega)
      clear hk'
      go_wp2_with fail
      rw [HT.out]
      refine (fmt16 _ (by omega) _ hg).mono ?_
      rintro e w1 ⟨rfl, hb1⟩
      go_wp2_with fail
      rw [show (16 : Int) - ((hexOf (hashOf s.data.toList).toNat).size : Int) = ((16 - (hexOf (hashOf s.data.toList).toNat).size : Nat) : Int) by omega]
      refine (Tryz.strings_Repeat ⟨#[48]⟩ (16 - (hexOf (hashOf s.data.toList).toNat).size) _ (by omega) (by show 1 * _ ≤ _; omega)).mono ?_
      rintro e w2 ⟨rfl, hb2⟩
      have hqs : (ByteArray.mk (Lib.repeatL [48] (16 - (hexOf (hashOf s.data.toList).toNat).size)).toArray).size ≤ 16 := by
        show (Lib.repeatL [48] (16 - (hexOf (hashOf s.data.toList).toNat).size)).toArray.size ≤ 16
        rw [List.size_toArray, Lib.repeatL_length]; simp
      have Hq := Lib.hid (show sumS s = ByteArray.mk (Lib.repeatL [48] (16 - (hexOf (hashOf s.data.toList).toNat).size)).toArray ++ hexOf (hashOf s.data.toList).toNat from rfl)
      show _
      generalize ByteArray.mk (Lib.repeatL [48] (16 - (hexOf (hashOf s.data.toList).toNat).size)).toArray = q at *
      go_wp2_with fail
      go_ret
      exact ⟨by rw [Hq.out]; rfl, hb1.trans (hb2.mono hb1.size)⟩
set_option maxHeartbeats 1000000 in
theorem rsum_any (s : ByteArray) (hsz : s.size ≤ 1000000000000) (w : World) (hg : w.cell? ⟨5, 15, none⟩ = some (.int .u8 4)) :
    Calls Tryz.prog 80 #[.string s] w fun e w' => e = .returned (.string (sumS s)) ∧ Below w.heap.size w w' := by
  go_enter Tryz.func80, Tryz.ntmps80
  go_wp2_with fail
  go_loop [3, 8, 4] (fun h i _ => ∃ k : Nat, k ≤ s.size ∧ i = .int .i64 k ∧ h = .int .u64 (hashOf (s.data.toList.take k))) (fun _ i _ => s.size - (intOf i).toNat)
  case atStart => exact ⟨0, Nat.zero_le _, rfl, rfl⟩
  case round =>
    obtain ⟨k, hk, rfl, rfl⟩ := hrel
    by_cases hlt : k < s.size
    · have HS := Lib.hid (hashOf_snoc (s.data.toList.take k) s[k])
      have HT := Lib.hid (take_snoc s k hlt)
      go_wp2_with fail
      refine ⟨⟨k + 1, by omega, by go_num, ?_⟩, by simp [intOf]; omega⟩
      rw [HT.out, HS.out]; rfl
    · have hk' : k = s.size := by omega
      have hr := hashOf_range s.data.toList
      have hx := hexOf_size (hashOf s.data.toList).toNat
      have HT := Lib.hid (show hashOf (s.data.toList.take k) = (((hashOf s.data.toList).toNat : Nat) : Int) by
        rw [List.take_of_length_le (by show s.data.size ≤ k; rw [hk']; exact Nat.le_refl _)]; omega)
      clear hk'
      go_wp2_with fail
      rw [HT.out]
      refine (fmt16 _ (by omega) _ hg).mono ?_
      rintro e w1 ⟨rfl, hb1⟩
      go_wp2_with fail
      rw [show (16 : Int) - ((hexOf (hashOf s.data.toList).toNat).size : Int) = ((16 - (hexOf (hashOf s.data.toList).toNat).size : Nat) : Int) by omega]
      refine (Tryz.strings_Repeat ⟨#[48]⟩ (16 - (hexOf (hashOf s.data.toList).toNat).size) _ (by omega) (by show 1 * _ ≤ _; omega)).mono ?_
      rintro e w2 ⟨rfl, hb2⟩
      have hqs : (ByteArray.mk (Lib.repeatL [48] (16 - (hexOf (hashOf s.data.toList).toNat).size)).toArray).size ≤ 16 := by
        show (Lib.repeatL [48] (16 - (hexOf (hashOf s.data.toList).toNat).size)).toArray.size ≤ 16
        rw [List.size_toArray, Lib.repeatL_length]; simp
      have Hq := Lib.hid (show sumS s = ByteArray.mk (Lib.repeatL [48] (16 - (hexOf (hashOf s.data.toList).toNat).size)).toArray ++ hexOf (hashOf s.data.toList).toNat from rfl)
      show _
      generalize ByteArray.mk (Lib.repeatL [48] (16 - (hexOf (hashOf s.data.toList).toNat).size)).toArray = q at *
      go_wp2_with fail
      go_ret
      exact ⟨by rw [Hq.out]; rfl, hb1.trans (hb2.mono hb1.size)⟩
end Go.Proofs.YtegalkmfoffpfaaGreatDoor
