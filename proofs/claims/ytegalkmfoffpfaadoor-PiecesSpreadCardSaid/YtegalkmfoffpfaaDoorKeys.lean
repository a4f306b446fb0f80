/- kit.IsKey and the reference's Key; sums: what is told of a string by its bytes. -/
import Derived.Test.YtegalkmfoffpfaaDoorSmall
import Derived.Test.YtegalkmfoffpfaaDoorShelf
import Derived.Deep.DeepCutAuto
import Derived.Deep.LoopGhost
import Derived.Shelf.Strings.SlTrimAscii
namespace Go.Proofs.YtegalkmfoffpfaaDoor
open Go.RowKit

/-- A byte that may stand in a key: at its head a small letter alone. -/
def keyByte (i n : Nat) : Bool := (decide (97 ≤ n) && decide (n ≤ 122)) || (decide (0 < i) && ((decide (48 ≤ n) && decide (n ≤ 57)) || n == 45 || n == 95))
def keyTo (s : ByteArray) : Nat → Bool
  | 0 => true
  | k + 1 => keyTo s k && keyByte k (s.data.toList.getD k 0).toNat
def keyB (s : ByteArray) : Bool := keyTo s s.size && decide (1 ≤ s.size) && decide (s.size ≤ 40)
theorem keyTo_le (s : ByteArray) {k m : Nat} (h : k ≤ m) (hm : keyTo s m = true) : keyTo s k = true := by
  induction m with
  | zero => obtain rfl : k = 0 := by omega
            rfl
  | succ m ih =>
    by_cases e : k = m + 1
    · rw [e]; exact hm
    · rw [keyTo, Bool.and_eq_true] at hm
      exact ih (by omega) hm.1
theorem keyB_no (s : ByteArray) {k : Nat} (h : k ≤ s.size) (hk : keyTo s k = false) : keyB s = false := by
  have h2 : keyTo s s.size = false := by
    cases h3 : keyTo s s.size with
    | false => rfl
    | true => rw [keyTo_le s h h3] at hk; cases hk
  simp [keyB, h2]
theorem getD_byte (s : ByteArray) (k : Nat) (h : k < s.size) : s.data.toList.getD k 0 = s[k] := by
  have h' : k < s.data.toList.length := h
  simp [List.getD, List.getElem?_eq_getElem h']; rfl

set_option maxRecDepth 100000 in
set_option maxHeartbeats 2000000 in
theorem isKey_any (s : ByteArray) (hsz : s.size ≤ 1000000000000) (w : World) :
    Calls Tryd.prog 39 #[.string s] w fun e w' => e = .returned (.bool (keyB s)) ∧ w = w' := by
  go_enter Tryd.func39, Tryd.ntmps39
  go_wp2_with fail
  go_loopg [3, 4] s.size (fun g i _ wr => ∃ k : Nat, k + g = s.size ∧ i = .int .i64 k ∧ keyTo s k = true ∧ w = wr)
  case atStart => exact ⟨0, by omega, rfl, rfl, rfl⟩
  case round =>
    obtain ⟨k, hk, rfl, hkey, rfl⟩ := hrel
    have HK := Lib.hid hkey
    clear hkey
    by_cases hg : gk = 0
    · obtain rfl : k = s.size := by omega
      by_cases h0 : s.size = 0
      · have e0 : s = ⟨#[]⟩ := by
          obtain ⟨⟨l⟩⟩ := s
          have : l = [] := List.eq_nil_of_length_eq_zero h0
          rw [this]
        subst e0
        go_wp2_with fail
        go_ret
        exact ⟨rfl, rfl⟩
      · have hne : s.toList.isEmpty = false := by
          rw [ByteArray.toList_eq]
          cases hl : s.data.toList with
          | nil => exact absurd (show s.data.toList.length = 0 by rw [hl]; rfl) h0
          | cons _ _ => rfl
        go_wp2_with fail
        go_ret
        refine ⟨?_, rfl⟩
        have e1 : keyB s = decide ((s.size : Int) ≤ 40) := by
          have h1 : decide (1 ≤ s.size) = true := by simp; omega
          rw [keyB, HK.out, h1, Bool.true_and, Bool.true_and, Bool.eq_iff_iff]; simp; omega
        rw [e1]; rfl
    · have hlt : k < s.size := by omega
      have HG := Lib.hid (show keyTo s (k + 1) = (keyTo s k && keyByte k s[k].toNat) by rw [keyTo, getD_byte s k hlt])
      go_upto_region 5 with fail
      generalize s[k].toNat = n at *
      go_cut [40] (fun s40 wx => s40 = .bool (!keyByte k n) ∧ w = wx)
      case first =>
        by_cases c1 : n < 97
        · by_cases ck : k ≤ 0
          · have HV := Lib.hid (show keyByte k n = false by simp [keyByte]; omega)
            go_wp2_with fail
            go_meet
            exact ⟨by rw [HV.out]; first | rfl | (simp; omega), rfl⟩
          · have ck' : 0 < k := by omega
            by_cases c2 : n < 48
            · by_cases c3 : n = 45
              · have b3 : ((n : Int) == 45) = true := by simp; omega
                have HV := Lib.hid (show keyByte k n = true by simp [keyByte]; omega)
                go_wp2_with fail
                go_meet
                exact ⟨by rw [HV.out]; first | rfl | (simp; omega), rfl⟩
              · have b3 : ((n : Int) == 45) = false := by simp; omega
                have b4 : ((n : Int) == 95) = false := by simp; omega
                have HV := Lib.hid (show keyByte k n = false by simp [keyByte]; omega)
                go_wp2_with fail
                go_meet
                exact ⟨by rw [HV.out]; first | rfl | (simp; omega), rfl⟩
            · by_cases c3 : n ≤ 57
              · have HV := Lib.hid (show keyByte k n = true by simp [keyByte]; omega)
                go_wp2_with fail
                go_meet
                exact ⟨by rw [HV.out]; first | rfl | (simp; omega), rfl⟩
              · have b3 : ((n : Int) == 45) = false := by simp; omega
                by_cases c4 : n = 95
                · have b4 : ((n : Int) == 95) = true := by simp; omega
                  have HV := Lib.hid (show keyByte k n = true by simp [keyByte]; omega)
                  go_wp2_with fail
                  go_meet
                  exact ⟨by rw [HV.out]; first | rfl | (simp; omega), rfl⟩
                · have b4 : ((n : Int) == 95) = false := by simp; omega
                  have HV := Lib.hid (show keyByte k n = false by simp [keyByte]; omega)
                  go_wp2_with fail
                  go_meet
                  exact ⟨by rw [HV.out]; first | rfl | (simp; omega), rfl⟩
        · by_cases c2 : n ≤ 122
          · have HV := Lib.hid (show keyByte k n = true by simp [keyByte]; omega)
            go_wp2_with fail
            go_meet
            exact ⟨by rw [HV.out]; first | rfl | (simp; omega), rfl⟩
          · by_cases ck : k ≤ 0
            · have HV := Lib.hid (show keyByte k n = false by simp [keyByte]; omega)
              go_wp2_with fail
              go_meet
              exact ⟨by rw [HV.out]; first | rfl | (simp; omega), rfl⟩
            · have ck' : 0 < k := by omega
              have b3 : ((n : Int) == 45) = false := by simp; omega
              have b4 : ((n : Int) == 95) = false := by simp; omega
              have HV := Lib.hid (show keyByte k n = false by simp [keyByte]; omega)
              go_wp2_with fail
              go_meet
              exact ⟨by rw [HV.out]; first | rfl | (simp; omega), rfl⟩
      case rest =>
        obtain ⟨rfl, rfl⟩ := hcut
        rcases Bool.eq_false_or_eq_true (keyByte k n) with c | c
        · rw [c]
          go_wp2_with fail
          go_roundg (gk - 1)
          case measure => omega
          case rel => exact ⟨k + 1, by omega, by go_num, by rw [HG.out, HK.out, c]; rfl, rfl⟩
        · rw [c]
          go_wp2_with fail
          go_ret
          refine ⟨?_, rfl⟩
          have : keyB s = false := keyB_no s (show k + 1 ≤ s.size by omega) (by rw [HG.out, c, Bool.and_false])
          rw [this]; rfl

/-! ### A string all of whose bytes lie in a set -/
theorem dropWhile_nil {α : Type} (p : α → Bool) : ∀ l : List α, (l.dropWhile p).isEmpty = l.all p
  | [] => rfl
  | x :: l => by
    rw [List.dropWhile_cons, List.all_cons]
    cases h : p x with
    | true => simpa using dropWhile_nil p l
    | false => simp
theorem dropWhile_head {α : Type} (p : α → Bool) : ∀ (l : List α) (x : α) (r : List α), l.dropWhile p = x :: r → p x = false
  | [], x, r, h => by simp at h
  | y :: l, x, r, h => by
    rw [List.dropWhile_cons] at h
    cases hy : p y with
    | true => rw [hy] at h; exact dropWhile_head p l x r (by simpa using h)
    | false => rw [hy] at h; simp at h; rw [← h.1]; exact hy
theorem trimS_empty (l cs : List UInt8) : (Lib.trimS l cs).isEmpty = l.all (cs.contains ·) := by
  unfold Lib.trimS Lib.trimLeftS Lib.trimRightS
  rw [dropWhile_nil, List.all_reverse]
  cases h : l.reverse.dropWhile (cs.contains ·) with
  | nil =>
    have := dropWhile_nil (cs.contains ·) l.reverse
    rw [h, List.all_reverse] at this
    rw [← this]; rfl
  | cons x r =>
    have h1 := dropWhile_head _ _ _ _ h
    have h2 := dropWhile_nil (cs.contains ·) l.reverse
    rw [h, List.all_reverse] at h2
    rw [List.all_cons, h1, ← h2]; rfl

def smallL : List UInt8 := [97, 98, 99, 100, 101, 102, 103, 104, 105, 106, 107, 108, 109, 110, 111, 112, 113, 114, 115, 116, 117, 118, 119, 120, 121, 122]
def keySet : List UInt8 := [97, 98, 99, 100, 101, 102, 103, 104, 105, 106, 107, 108, 109, 110, 111, 112, 113, 114, 115, 116, 117, 118, 119, 120, 121, 122, 48, 49, 50, 51, 52, 53, 54, 55, 56, 57, 45, 95]
theorem keySet_byte : ∀ n, n < 256 → keySet.contains (UInt8.ofNat n) = keyByte 1 n := by decide +kernel
theorem small_byte : ∀ n, n < 256 → decide (0 ≤ Lib.indexByte smallL (UInt8.ofNat n)) = keyByte 0 n := by decide +kernel
theorem keyByte_pos (i n : Nat) (h : 0 < i) : keyByte i n = keyByte 1 n := by simp [keyByte, h]
theorem keyByte_zero (n : Nat) (h : keyByte 0 n = true) : keyByte 1 n = true := by simp [keyByte] at h ⊢; omega
theorem ofNat_toNat8 (b : UInt8) : UInt8.ofNat b.toNat = b := by simp
/-- A key, told by its head and by the set of all its bytes. -/
theorem keyTo_all (s : ByteArray) (x : UInt8) (r : List UInt8) (h : s.data.toList = x :: r) : ∀ k, k ≤ r.length → keyTo s (k + 1) = (keyByte 0 x.toNat && (r.take k).all (keySet.contains ·))
  | 0, _ => by simp [keyTo, h]
  | k + 1, hk => by
    rw [keyTo, keyTo_all s x r h k (by omega), h]
    have hg : (x :: r).getD (k + 1) 0 = r[k]'(by omega) := by simp [List.getD, List.getElem?_eq_getElem (show k < r.length by omega)]
    rw [hg, keyByte_pos (k + 1) _ (by omega), ← keySet_byte _ (UInt8.toNat_lt _), ofNat_toNat8, List.take_succ_eq_append_getElem (by omega), List.all_append, List.all_cons, List.all_nil, Bool.and_true, Bool.and_assoc]
theorem keyB_eq (s : ByteArray) (x : UInt8) (r : List UInt8) (h : s.data.toList = x :: r) (h40 : s.size ≤ 40) :
    keyB s = ((x :: r).all (keySet.contains ·) && decide (0 ≤ Lib.indexByte smallL x)) := by
  have hl : s.size = r.length + 1 := by show s.data.toList.length = _; rw [h]; rfl
  have h1 : decide (1 ≤ s.size) = true := by simp; omega
  have h2 : decide (s.size ≤ 40) = true := by simpa using h40
  rw [keyB, h1, h2, Bool.and_true, Bool.and_true, hl, keyTo_all s x r h r.length (Nat.le_refl _), List.take_length, List.all_cons]
  have e := small_byte x.toNat (UInt8.toNat_lt _)
  have e2 := keySet_byte x.toNat (UInt8.toNat_lt _)
  rw [ofNat_toNat8] at e e2
  rw [e, e2]
  cases h0 : keyByte 0 x.toNat with
  | false => simp
  | true => rw [keyByte_zero _ h0]; simp

theorem mk_toList (l : List UInt8) : (ByteArray.mk l.toArray).toList = l := by rw [ByteArray.toList_eq]

set_option maxRecDepth 100000 in
set_option maxHeartbeats 1000000 in
theorem Key_any (s : ByteArray) (hsz : s.size ≤ 1000000000000) (w : World) :
    Calls Tryd.prog 38 #[.string s] w fun e w' => e = .returned (.bool (keyB s)) ∧ Below w.heap.size w w' := by
  rcases Bool.eq_false_or_eq_true (outsideB (s.size : Int) 1 40) with o | o
  · have HV := Lib.hid (show keyB s = false by
      simp [outsideB] at o
      have : (decide (1 ≤ s.size) && decide (s.size ≤ 40)) = false := by simp; omega
      rw [keyB, Bool.and_assoc, this, Bool.and_false])
    go_enter Tryd.func38, Tryd.ntmps38
    go_wp2_with fail
    refine (in_any _ _ _ _).mono ?_
    rintro e w' ⟨rfl, rfl⟩
    rw [o]
    go_wp2_with fail
    go_ret
    exact ⟨by rw [HV.out]; rfl, Below.refl _ _⟩
  · have hb : 1 ≤ s.size ∧ s.size ≤ 40 := by simp [outsideB] at o; omega
    obtain ⟨hb1, hb2⟩ := hb
    obtain ⟨x, r, hl⟩ : ∃ x r, s.data.toList = x :: r := by
      cases hl : s.data.toList with
      | nil => exact absurd (show s.data.toList.length = 0 by rw [hl]; rfl) (by show s.size ≠ 0; omega)
      | cons x r => exact ⟨x, r, rfl⟩
    have hx : s[0]'(by omega) = x := by rw [← getD_byte s 0 (by omega), hl]; rfl
    have HV := Lib.hid (keyB_eq s x r hl hb2)
    have HT := Lib.hid (show (Lib.trimS s.data.toList keySet).isEmpty = (x :: r).all (keySet.contains ·) by rw [trimS_empty, hl])
    clear hl
    go_enter Tryd.func38, Tryd.ntmps38
    go_wp2_with fail
    refine (in_any _ _ _ _).mono ?_
    rintro e w' ⟨rfl, rfl⟩
    rw [o]
    go_wp2_with fail
    refine (Any.strings_Trim_laid Tryd.lays160 (by kernel_rfl) s ⟨keySet.toArray⟩ w (by omega) (by decide) (ascii_of_all (by decide))).mono ?_
    rintro e w1 ⟨rfl, hb⟩
    have hq : (ByteArray.mk (Lib.trimS s.data.toList keySet).toArray).toList.isEmpty = (x :: r).all (keySet.contains ·) := by rw [mk_toList]; exact HT.out
    generalize ByteArray.mk (Lib.trimS s.data.toList keySet).toArray = tr at *
    rcases Bool.eq_false_or_eq_true ((x :: r).all (keySet.contains ·)) with c | c
    · rw [c] at hq HV
      clear c HT
      go_wp2_with fail
      refine (Tryd.strings_IndexByte ⟨smallL.toArray⟩ (x.toNat : Int) w1).mono ?_
      rintro e w2 ⟨rfl, rfl⟩
      rw [show ((x.toNat : Int).toNat.toUInt8) = x by simp]
      go_wp2_with fail
      go_ret
      exact ⟨by rw [HV.out, Bool.true_and]; rfl, hb⟩
    · rw [c] at hq HV
      clear c HT
      go_wp2_with fail
      go_ret
      exact ⟨by rw [HV.out]; rfl, hb⟩
end Go.Proofs.YtegalkmfoffpfaaDoor
